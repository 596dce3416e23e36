/- A part of the proof of FnExactDecide: functions of the program, as plain functions, with the proof that the machine's call does what they say; plain lemmas; and those of the words that print.sh prints which this proof uses. No condition. -/
import Derived.Test.YthfefanapneocaaKFnExactDecide1
import Derived.Test.YthfefanapneocaaProg
import Derived.Below
import Derived.Deep.Draws
import Derived.Deep.AppendLies
import Derived.Maps.AppendAt
import Derived.OwnWalk
import Derived.Laws.BytesArg
import Derived.Laws.MakeOwn
import Derived.Laws.OwnMore
import Derived.Deep.OwnRows
import Derived.Tactics
import Derived.Lib.ConvBytes
import Derived.Laws.Slices
import Derived.WalkKit
import Derived.KernelRfl
import Derived.RowKit3
import Derived.Deep.LoopGhost
import Derived.Deep.QuietTactic
import Derived.BigQuiet
import Derived.WideLaws
import Derived.Deep.DeepCutAuto
import Derived.Deep.CutBlock
import Derived.Deep.RegionHeld3
import Derived.Laws.Rows
import Derived.Lib.AppendStr
import Derived.ArgAppend
import Derived.Laws.IdiomCopy
import Derived.OrdersHeld
import Derived.Laws.BitsLemmas
import Derived.RowKit
import Derived.WalkSpells
import Derived.Laws.StructEq
namespace Go.Proofs.Ythfefanapneocaa.Q
open Go.RowKit Go.Proofs.YthfefanapneocaaW.PrintWords Go.Proofs.YthfefanapneocaaW.PrintLast Go.Proofs.YthfefanapneocaaW.PrintMore
attribute [local go_sem] max2_int min2_int max_two min_two max_three min_three max_four min_four
set_option linter.unusedVariables false
set_option linter.unusedSimpArgs false
set_option maxRecDepth 100000
set_option maxHeartbeats 8000000
def spec_SeasonOk.l0 : Nat → Int → List (S95) → List (S95) → Int → Int → Option (Bool)
 | 0, _, _, _, _, _ => none
 | k + 1, x0, x1, x10, x11, x12 => if x12 < x11 then (if 0 ≤ x12 then (if x12 < (x10.length : Int) then ((spec_GameOk.f k x0 ((rd_T95 x10 x12).f0) ((rd_T95 x10 x12).f1) ((rd_T95 x10 x12).f2) ((rd_T95 x10 x12).f3) ((rd_T95 x10 x12).f4)).bind fun t148 => (if t148 = true then ((spec_GameOf.f k x1 ((rd_T95 x10 x12).f0) ((rd_T95 x10 x12).f1)).bind fun t149 => (if t149 = x12 then (spec_SeasonOk.l0 k x0 x1 x10 x11 (wrap64 (x12 + 1))) else (some false))) else (some false))) else (none)) else (none)) else (some true)
def spec_SeasonOk.f (k : Nat) (a0 : Int) (l1 : List (S95)) : Option (Bool) := if (l1.length : Int) > 60 then (some false) else (spec_SeasonOk.l0 k a0 l1 l1 (l1.length : Int) 0)
theorem spec_SeasonOk.calls (k : Nat) (a0 : Int) (A1 : Option Addr) (c1 : Nat) (l1 : List (S95)) (r : Bool) (w : World) (hr1 : Kd.C k95 w A1 l1.length l1) (hc1 : l1.length ≤ c1) (h : spec_SeasonOk.f k a0 l1 = some r) :
  Calls Try.prog 120 #[.int .i64 a0, .slice A1 l1.length c1] w fun e w' => e = .returned (.bool r) ∧ Below w.heap.size w w' := by
 have hu95 := Try.underlying95
 have HR1 := dk hr1
 have HC1 := dk hc1
 clear hr1 hc1
 have HB := dk (Below.refl w.heap.size w)
 have H : (if (l1.length : Int) > 60 then (some false) else (spec_SeasonOk.l0 k a0 l1 l1 (l1.length : Int) 0)) = some r := h
 clear h
 by_cases c3 : (l1.length : Int) > 60
 ·rw [if_pos c3] at H
  have c3b0 : decide (60 < (l1.length : Int)) = true := decide_eq_true c3
  have c3b1 : decide (60 < l1.length) = true := decide_eq_true (by omega)
  clear c3
  obtain rfl := Option.some.inj H
  go_enter Try.func120, Try.ntmps120
  go_wp2
  go_ret
  exact ⟨ee, bb HB⟩
 ·rw [if_neg c3] at H
  have c3b0 : decide (60 < (l1.length : Int)) = false := decide_eq_false c3
  have c3b1 : decide (60 < l1.length) = false := decide_eq_false (by omega)
  clear c3
  have H' := dk H
  clear H
  go_enter Try.func120, Try.ntmps120
  go_wp2
  go_loopg [12] k (fun kq v12 w' => ∃ (x12_1 : Int), v12 = .int .i64 x12_1 ∧ Aside0 (spec_SeasonOk.l0 kq a0 l1 l1 (l1.length : Int) x12_1 = some r) ∧ Aside0 (kq ≤ k) ∧ Aside0 (Below w.heap.size w w'))
  case atStart => exact ⟨(0), e2_, H', ⟨Nat.le_refl _⟩, ⟨bb HB⟩⟩
  case round =>
   clear H'
   (try clear c1)
   (try clear p2)
   (try clear c3)
   (try clear c3b0)
   (try clear c3b1)
   obtain ⟨x12_1, rfl, HA, HK1, HB⟩ := hrel
   cases gk with
   | zero => exact absurd HA.out (by simp [spec_SeasonOk.l0])
   | succ k1 =>
    have H := HA.out
    clear HA
    simp only [spec_SeasonOk.l0] at H
    by_cases c4 : x12_1 < (l1.length : Int)
    ·rw [if_pos c4] at H
     have c4b0 : decide (x12_1 < (l1.length : Int)) = true := decide_eq_true c4
     clear c4
     by_cases c5 : 0 ≤ x12_1
     ·rw [if_pos c5] at H
      have c5b0 : decide (0 ≤ x12_1) = true := decide_eq_true c5
      clear c5
      by_cases c6 : x12_1 < (l1.length : Int)
      ·rw [if_pos c6] at H
       have c6b0 : decide (x12_1 < (l1.length : Int)) = true := decide_eq_true c6
       clear c6
       replace H := Option.bind_eq_some_iff.mp H
       obtain ⟨t148, A70, H⟩ := H
       try dsimp only at H
       have A7 := dk A70
       clear A70
       by_cases c8 : t148 = true
       ·subst c8
        rw [if_pos rfl] at H
        replace H := Option.bind_eq_some_iff.mp H
        obtain ⟨t149, A90, H⟩ := H
        try dsimp only at H
        have A9 := dk A90
        clear A90
        by_cases c10 : t149 = x12_1
        ·rw [if_pos c10] at H
         have c10b0 : (t149 == x12_1) = true := beq_iff_eq.mpr c10
         have c10b1 : (t149 != x12_1) = false := bne_eq_false_iff_eq.mpr c10
         clear c10
         have H' := dk H
         clear H
         have p146 : 0 ≤ (x12_1 : Int) := oa
         have q146 : x12_1 < (l1.length : Int) := oa
         obtain ⟨ad146, e146, hx146_0, hx146_1, hx146_2, hx146_3, hx146_4⟩ := at_T95 HR1.out x12_1 p146 q146
         cases e146
         replace hx146_0 := hc HB hx146_0
         replace hx146_1 := hc HB hx146_1
         replace hx146_2 := hc HB hx146_2
         replace hx146_3 := hc HB hx146_3
         replace hx146_4 := hc HB hx146_4
         replace p146 := eq_true p146
         replace q146 := eq_true q146
         go_wp2_with (first | ((with_reducible refine gate_dst (N := 6) rfl ?_); refine bx (N := 6) (cs := #[.int .i64 0, .int .i64 0, .int .i64 0, .int .i64 0, .int .i64 0]) (t := 95) ?_; intro gb147 hg w11 hbox hb; have BK147 := dk (hbox); have GW147 := gs hg HB; have GE147 := gs hg HB; replace HB := hs_ HB hb; clear hb hbox hg; have ⟨z12_0, z12_1, z12_2, z12_3, z12_4, v12_0, v12_1, v12_2, v12_3, v12_4⟩ := rz5 BK147) | ((with_reducible refine gate_callee (f := 158) rfl ?_); refine gl (some 19) Try.func158 #[.int .i64 a0, .agg #[.int .i64 ((rd_T95 l1 x12_1).f0), .int .i64 ((rd_T95 l1 x12_1).f1), .int .i64 ((rd_T95 l1 x12_1).f2), .int .i64 ((rd_T95 l1 x12_1).f3), .int .i64 ((rd_T95 l1 x12_1).f4)]] ?_; (with_reducible refine (spec_GameOk.calls k1 a0 ((rd_T95 l1 x12_1).f0) ((rd_T95 l1 x12_1).f1) ((rd_T95 l1 x12_1).f2) ((rd_T95 l1 x12_1).f3) ((rd_T95 l1 x12_1).f4) true _ A7.out).mono ?_); rintro e w13 ⟨rfl, hb⟩; refine ⟨_, rfl, ?_⟩; replace BK147 := dk (blk_below (g := gb147) (o := .cells #[.int .i64 ((rd_T95 l1 x12_1).f0), .int .i64 ((rd_T95 l1 x12_1).f1), .int .i64 ((rd_T95 l1 x12_1).f2), .int .i64 ((rd_T95 l1 x12_1).f3), .int .i64 ((rd_T95 l1 x12_1).f4)] 95 (0, 0)) (bp BK147) hb); replace HB := hs_ HB hb; (try clear hb hb2 hk hi); have ⟨z14_0, z14_1, z14_2, z14_3, z14_4, v14_0, v14_1, v14_2, v14_3, v14_4⟩ := rz5 BK147) | (go_at_call 159; (with_reducible refine (spec_GameOf.calls k1 _ _ l1 ((rd_T95 l1 x12_1).f0) ((rd_T95 l1 x12_1).f1) t149 _ ?side1 ?side2 A9.out).mono ?_); (case side1 => exact cc HR1 HB); (case side2 => exact HC1.out); rintro e w15 ⟨rfl, hb⟩; replace BK147 := kb BK147 hb; replace HB := hs_ HB hb; (try clear hb hb2 hk hi)))
         go_roundg k1
         case measure => have := HK1.out; omega
         case rel => exact ⟨(wrap64 (x12_1 + 1)), e2_, H', ⟨by have := HK1.out; omega⟩, ⟨bb HB⟩⟩
        ·rw [if_neg c10] at H
         have c10b0 : (t149 == x12_1) = false := beq_eq_false_iff_ne.mpr c10
         have c10b1 : (t149 != x12_1) = true := bne_iff_ne.mpr c10
         obtain rfl := Option.some.inj H
         have p146 : 0 ≤ (x12_1 : Int) := oa
         have q146 : x12_1 < (l1.length : Int) := oa
         obtain ⟨ad146, e146, hx146_0, hx146_1, hx146_2, hx146_3, hx146_4⟩ := at_T95 HR1.out x12_1 p146 q146
         cases e146
         replace hx146_0 := hc HB hx146_0
         replace hx146_1 := hc HB hx146_1
         replace hx146_2 := hc HB hx146_2
         replace hx146_3 := hc HB hx146_3
         replace hx146_4 := hc HB hx146_4
         replace p146 := eq_true p146
         replace q146 := eq_true q146
         go_wp2_with (first | ((with_reducible refine gate_dst (N := 6) rfl ?_); refine bx (N := 6) (cs := #[.int .i64 0, .int .i64 0, .int .i64 0, .int .i64 0, .int .i64 0]) (t := 95) ?_; intro gb147 hg w16 hbox hb; have BK147 := dk (hbox); have GW147 := gs hg HB; have GE147 := gs hg HB; replace HB := hs_ HB hb; clear hb hbox hg; have ⟨z17_0, z17_1, z17_2, z17_3, z17_4, v17_0, v17_1, v17_2, v17_3, v17_4⟩ := rz5 BK147) | ((with_reducible refine gate_callee (f := 158) rfl ?_); refine gl (some 19) Try.func158 #[.int .i64 a0, .agg #[.int .i64 ((rd_T95 l1 x12_1).f0), .int .i64 ((rd_T95 l1 x12_1).f1), .int .i64 ((rd_T95 l1 x12_1).f2), .int .i64 ((rd_T95 l1 x12_1).f3), .int .i64 ((rd_T95 l1 x12_1).f4)]] ?_; (with_reducible refine (spec_GameOk.calls k1 a0 ((rd_T95 l1 x12_1).f0) ((rd_T95 l1 x12_1).f1) ((rd_T95 l1 x12_1).f2) ((rd_T95 l1 x12_1).f3) ((rd_T95 l1 x12_1).f4) true _ A7.out).mono ?_); rintro e w18 ⟨rfl, hb⟩; refine ⟨_, rfl, ?_⟩; replace BK147 := dk (blk_below (g := gb147) (o := .cells #[.int .i64 ((rd_T95 l1 x12_1).f0), .int .i64 ((rd_T95 l1 x12_1).f1), .int .i64 ((rd_T95 l1 x12_1).f2), .int .i64 ((rd_T95 l1 x12_1).f3), .int .i64 ((rd_T95 l1 x12_1).f4)] 95 (0, 0)) (bp BK147) hb); replace HB := hs_ HB hb; (try clear hb hb2 hk hi); have ⟨z19_0, z19_1, z19_2, z19_3, z19_4, v19_0, v19_1, v19_2, v19_3, v19_4⟩ := rz5 BK147) | (go_at_call 159; (with_reducible refine (spec_GameOf.calls k1 _ _ l1 ((rd_T95 l1 x12_1).f0) ((rd_T95 l1 x12_1).f1) t149 _ ?side1 ?side2 A9.out).mono ?_); (case side1 => exact cc HR1 HB); (case side2 => exact HC1.out); rintro e w20 ⟨rfl, hb⟩; replace BK147 := kb BK147 hb; replace HB := hs_ HB hb; (try clear hb hb2 hk hi)))
         go_ret
         exact ⟨ee, bb HB⟩
       ·replace c8 := Bool.eq_false_iff.mpr c8
        subst c8
        rw [if_neg (show ¬ (false = true) by decide)] at H
        obtain rfl := Option.some.inj H
        have p146 : 0 ≤ (x12_1 : Int) := oa
        have q146 : x12_1 < (l1.length : Int) := oa
        obtain ⟨ad146, e146, hx146_0, hx146_1, hx146_2, hx146_3, hx146_4⟩ := at_T95 HR1.out x12_1 p146 q146
        cases e146
        replace hx146_0 := hc HB hx146_0
        replace hx146_1 := hc HB hx146_1
        replace hx146_2 := hc HB hx146_2
        replace hx146_3 := hc HB hx146_3
        replace hx146_4 := hc HB hx146_4
        replace p146 := eq_true p146
        replace q146 := eq_true q146
        go_wp2_with (first | ((with_reducible refine gate_dst (N := 6) rfl ?_); refine bx (N := 6) (cs := #[.int .i64 0, .int .i64 0, .int .i64 0, .int .i64 0, .int .i64 0]) (t := 95) ?_; intro gb147 hg w21 hbox hb; have BK147 := dk (hbox); have GW147 := gs hg HB; have GE147 := gs hg HB; replace HB := hs_ HB hb; clear hb hbox hg; have ⟨z22_0, z22_1, z22_2, z22_3, z22_4, v22_0, v22_1, v22_2, v22_3, v22_4⟩ := rz5 BK147) | ((with_reducible refine gate_callee (f := 158) rfl ?_); refine gl (some 19) Try.func158 #[.int .i64 a0, .agg #[.int .i64 ((rd_T95 l1 x12_1).f0), .int .i64 ((rd_T95 l1 x12_1).f1), .int .i64 ((rd_T95 l1 x12_1).f2), .int .i64 ((rd_T95 l1 x12_1).f3), .int .i64 ((rd_T95 l1 x12_1).f4)]] ?_; (with_reducible refine (spec_GameOk.calls k1 a0 ((rd_T95 l1 x12_1).f0) ((rd_T95 l1 x12_1).f1) ((rd_T95 l1 x12_1).f2) ((rd_T95 l1 x12_1).f3) ((rd_T95 l1 x12_1).f4) false _ A7.out).mono ?_); rintro e w23 ⟨rfl, hb⟩; refine ⟨_, rfl, ?_⟩; replace BK147 := dk (blk_below (g := gb147) (o := .cells #[.int .i64 ((rd_T95 l1 x12_1).f0), .int .i64 ((rd_T95 l1 x12_1).f1), .int .i64 ((rd_T95 l1 x12_1).f2), .int .i64 ((rd_T95 l1 x12_1).f3), .int .i64 ((rd_T95 l1 x12_1).f4)] 95 (0, 0)) (bp BK147) hb); replace HB := hs_ HB hb; (try clear hb hb2 hk hi)))
        go_ret
        exact ⟨ee, bb HB⟩
      ·rw [if_neg c6] at H
       exact absurd H (by simp)
     ·rw [if_neg c5] at H
      exact absurd H (by simp)
    ·rw [if_neg c4] at H
     have c4b0 : decide (x12_1 < (l1.length : Int)) = false := decide_eq_false c4
     clear c4
     obtain rfl := Option.some.inj H
     go_wp2
     go_ret
     exact ⟨ee, bb HB⟩
end Go.Proofs.Ythfefanapneocaa.Q
section
namespace Go.Proofs.Ythfefanapneocaa.Q
open Go.RowKit Go.Proofs.YthfefanapneocaaW.PrintWords Go.Proofs.YthfefanapneocaaW.PrintLast Go.Proofs.YthfefanapneocaaW.PrintMore
attribute [local go_sem] max2_int min2_int max_two min_two max_three min_three max_four min_four
set_option linter.unusedVariables false
set_option linter.unusedSimpArgs false
set_option maxRecDepth 100000
set_option maxHeartbeats 8000000
mutual
def spec_BookOk.j0 : Nat → Bool → List (S139) → Int → Int → Int → List Int → Bool → List (S95) → List Int → List Int → Option (Bool)
 | 0, _, _, _, _, _, _, _, _, _, _ => none
 | k + 1, x38, x151000, x151001, x151002, x151003, x151004, x151005, x151006, x151007, x151008 => if x38 = true then (some false) else (spec_BookOk.l0 k (x151000.length : Int) 0 x151000 x151001 x151002 x151003 x151004 x151005 x151006 x151007 x151008)
def spec_BookOk.l0 : Nat → Int → Int → List (S139) → Int → Int → Int → List Int → Bool → List (S95) → List Int → List Int → Option (Bool)
 | 0, _, _, _, _, _, _, _, _, _, _, _ => none
 | k + 1, x41, x42, x151000, x151001, x151002, x151003, x151004, x151005, x151006, x151007, x151008 => if x42 < x41 then (if 0 ≤ x42 then (if x42 < (x151007.length : Int) then ((spec_l01In.f (rd x151007 x42) 0 1000).bind fun t155 => (if t155 = true then (if x42 < (x151008.length : Int) then ((spec_l01In.f (rd x151008 x42) 0 1000).bind fun t157 => (if t157 = true then (spec_BookOk.l0 k x41 (wrap64 (x42 + 1)) x151000 x151001 x151002 x151003 x151004 x151005 x151006 x151007 x151008) else (some false))) else (none)) else (some false))) else (none)) else (none)) else (some true)
end
def spec_BookOk.f (k : Nat) (l0_0 : List (S139)) (a0_1 : Int) (a0_2 : Int) (a0_3 : Int) (l0_4 : List Int) (a0_5 : Bool) (l0_6 : List (S95)) (l0_7 : List Int) (l0_8 : List Int) : Option (Bool) := (spec_FieldOk.f k l0_0).bind fun t151 => (if t151 = true then ((spec_RulesOk.f k a0_1 a0_2 a0_3 l0_4 a0_5).bind fun t152 => (if t152 = true then ((spec_SeasonOk.f k (l0_0.length : Int) l0_6).bind fun t153 => (if t153 = true then (if (l0_7.length : Int) = (l0_0.length : Int) then (spec_BookOk.j0 k ((l0_8.length : Int) != (l0_0.length : Int)) l0_0 a0_1 a0_2 a0_3 l0_4 a0_5 l0_6 l0_7 l0_8) else (spec_BookOk.j0 k true l0_0 a0_1 a0_2 a0_3 l0_4 a0_5 l0_6 l0_7 l0_8)) else (spec_BookOk.j0 k true l0_0 a0_1 a0_2 a0_3 l0_4 a0_5 l0_6 l0_7 l0_8))) else (spec_BookOk.j0 k true l0_0 a0_1 a0_2 a0_3 l0_4 a0_5 l0_6 l0_7 l0_8))) else (spec_BookOk.j0 k true l0_0 a0_1 a0_2 a0_3 l0_4 a0_5 l0_6 l0_7 l0_8))
theorem spec_BookOk.calls (k : Nat) (A0_0 : Option Addr) (c0_0 : Nat) (l0_0 : List (S139)) (a0_1 : Int) (a0_2 : Int) (a0_3 : Int) (A0_4 : Option Addr) (c0_4 : Nat) (l0_4 : List Int) (a0_5 : Bool) (A0_6 : Option Addr) (c0_6 : Nat) (l0_6 : List (S95)) (A0_7 : Option Addr) (c0_7 : Nat) (l0_7 : List Int) (A0_8 : Option Addr) (c0_8 : Nat) (l0_8 : List Int) (r : Bool) (w : World) (hr0_0 : Kd.C k139 w A0_0 l0_0.length l0_0) (hc0_0 : l0_0.length ≤ c0_0) (hr0_4 : Kd.C (Kd.int .i64) w A0_4 l0_4.length l0_4) (hc0_4 : l0_4.length ≤ c0_4) (hr0_6 : Kd.C k95 w A0_6 l0_6.length l0_6) (hc0_6 : l0_6.length ≤ c0_6) (hr0_7 : Kd.C (Kd.int .i64) w A0_7 l0_7.length l0_7) (hc0_7 : l0_7.length ≤ c0_7) (hr0_8 : Kd.C (Kd.int .i64) w A0_8 l0_8.length l0_8) (hc0_8 : l0_8.length ≤ c0_8) (h : spec_BookOk.f k l0_0 a0_1 a0_2 a0_3 l0_4 a0_5 l0_6 l0_7 l0_8 = some r) :
  Calls Try.prog 55 #[.agg #[.slice A0_0 l0_0.length c0_0, .int .i64 a0_1, .int .i64 a0_2, .int .i64 a0_3, .slice A0_4 l0_4.length c0_4, .bool a0_5, .slice A0_6 l0_6.length c0_6, .slice A0_7 l0_7.length c0_7, .slice A0_8 l0_8.length c0_8]] w fun e w' => e = .returned (.bool r) ∧ Below w.heap.size w w' := by
 have hu36 := Try.underlying36
 have hu33 := Try.underlying33
 have HR0_0 := dk hr0_0
 have HC0_0 := dk hc0_0
 clear hr0_0 hc0_0
 have HR0_4 := dk hr0_4
 have HC0_4 := dk hc0_4
 clear hr0_4 hc0_4
 have HR0_6 := dk hr0_6
 have HC0_6 := dk hc0_6
 clear hr0_6 hc0_6
 have HR0_7 := dk hr0_7
 have HC0_7 := dk hc0_7
 clear hr0_7 hc0_7
 have HR0_8 := dk hr0_8
 have HC0_8 := dk hc0_8
 clear hr0_8 hc0_8
 have HB := dk (Below.refl w.heap.size w)
 have H : ((spec_FieldOk.f k l0_0).bind fun t151 => (if t151 = true then ((spec_RulesOk.f k a0_1 a0_2 a0_3 l0_4 a0_5).bind fun t152 => (if t152 = true then ((spec_SeasonOk.f k (l0_0.length : Int) l0_6).bind fun t153 => (if t153 = true then (if (l0_7.length : Int) = (l0_0.length : Int) then (spec_BookOk.j0 k ((l0_8.length : Int) != (l0_0.length : Int)) l0_0 a0_1 a0_2 a0_3 l0_4 a0_5 l0_6 l0_7 l0_8) else (spec_BookOk.j0 k true l0_0 a0_1 a0_2 a0_3 l0_4 a0_5 l0_6 l0_7 l0_8)) else (spec_BookOk.j0 k true l0_0 a0_1 a0_2 a0_3 l0_4 a0_5 l0_6 l0_7 l0_8))) else (spec_BookOk.j0 k true l0_0 a0_1 a0_2 a0_3 l0_4 a0_5 l0_6 l0_7 l0_8))) else (spec_BookOk.j0 k true l0_0 a0_1 a0_2 a0_3 l0_4 a0_5 l0_6 l0_7 l0_8))) = some r := h
 clear h
 have HC2 := dk H
 clear H
 go_enter Try.func55, Try.ntmps55
 go_upto_region 2 with (first | ((with_reducible refine gate_dst (N := 1) rfl ?_); (try (refine gate_guard (by rfl) ?_; dsimp only)); refine bx (N := 1) (cs := #[.slice A0_0 l0_0.length c0_0, .int .i64 a0_1, .int .i64 a0_2, .int .i64 a0_3, .slice A0_4 l0_4.length c0_4, .bool a0_5, .slice A0_6 l0_6.length c0_6, .slice A0_7 l0_7.length c0_7, .slice A0_8 l0_8.length c0_8]) (t := 36) ?_; intro gb150 hg w3 hbox hb; have BK150 := dk (hbox); have GW150 := gs hg HB; have GE150 := gs hg HB; replace HB := hs_ HB hb; clear hb hbox hg; have ⟨z4_0, z4_1, z4_2, z4_3, z4_4, z4_5, z4_6, z4_7, z4_8, v4_0, v4_1, v4_2, v4_3, v4_4, v4_5, v4_6, v4_7, v4_8⟩ := rz9 BK150))
 (try simp only [Act.put, List.setIfInBounds_toArray, List.set_cons_zero, List.set_cons_succ])
 go_cut [38] (fun v38 wc => ∃ (kq : Nat) (x38_1 : Bool), v38 = .bool x38_1 ∧ Aside0 (spec_BookOk.j0 kq x38_1 l0_0 a0_1 a0_2 a0_3 l0_4 a0_5 l0_6 l0_7 l0_8 = some r) ∧ Aside0 (kq ≤ k) ∧ Aside0 (wc.heap[gb150]? = some (.cells #[(.slice A0_0 l0_0.length c0_0), .int .i64 a0_1, .int .i64 a0_2, .int .i64 a0_3, (.slice A0_4 l0_4.length c0_4), .bool a0_5, (.slice A0_6 l0_6.length c0_6), (.slice A0_7 l0_7.length c0_7), (.slice A0_8 l0_8.length c0_8)] 36 (0, 0))) ∧ Aside0 (Below w.heap.size w wc))
 case first =>
  have H := HC2.out
  clear HC2
  replace H := Option.bind_eq_some_iff.mp H
  obtain ⟨t151, A50, H⟩ := H
  try dsimp only at H
  have A5 := dk A50
  clear A50
  by_cases c6 : t151 = true
  ·subst c6
   rw [if_pos rfl] at H
   replace H := Option.bind_eq_some_iff.mp H
   obtain ⟨t152, A70, H⟩ := H
   try dsimp only at H
   have A7 := dk A70
   clear A70
   by_cases c8 : t152 = true
   ·subst c8
    rw [if_pos rfl] at H
    replace H := Option.bind_eq_some_iff.mp H
    obtain ⟨t153, A90, H⟩ := H
    try dsimp only at H
    have A9 := dk A90
    clear A90
    by_cases c10 : t153 = true
    ·subst c10
     rw [if_pos rfl] at H
     by_cases c11 : (l0_7.length : Int) = (l0_0.length : Int)
     ·rw [if_pos c11] at H
      have c11b0 : ((l0_7.length : Int) == (l0_0.length : Int)) = true := beq_iff_eq.mpr c11
      have c11b1 : ((l0_7.length : Int) != (l0_0.length : Int)) = false := bne_eq_false_iff_eq.mpr c11
      have c11b2 : (l0_7.length == l0_0.length) = true := by first | simpa using c11 | (simp at c11 ⊢; omega)
      clear c11
      (first | rw [c11b0] | rw [c11b1] | (simp only [i64_w, i32_w]; rw [c11b0]) | skip)
      have H' := dk H
      clear H
      have ⟨z12_0, z12_1, z12_2, z12_3, z12_4, z12_5, z12_6, z12_7, z12_8, v12_0, v12_1, v12_2, v12_3, v12_4, v12_5, v12_6, v12_7, v12_8⟩ := rz9 BK150
      go_wp2_with (first | ((with_reducible refine gate_callee (f := 118) rfl ?_); refine gl (some 10) Try.func118 #[.slice A0_0 l0_0.length c0_0] ?_; (with_reducible refine (spec_FieldOk.calls k _ _ l0_0 true _ ?side1 ?side2 A5.out).mono ?_); (case side1 => exact cc HR0_0 HB); (case side2 => exact HC0_0.out); rintro e w13 ⟨rfl, hb⟩; refine ⟨_, rfl, ?_⟩; replace BK150 := kb BK150 hb; replace HB := hs_ HB hb; (try clear hb hb2 hk hi); have ⟨z14_0, z14_1, z14_2, z14_3, z14_4, z14_5, z14_6, z14_7, z14_8, v14_0, v14_1, v14_2, v14_3, v14_4, v14_5, v14_6, v14_7, v14_8⟩ := rz9 BK150) | (go_at_call 119; (with_reducible refine (spec_RulesOk.calls k a0_1 a0_2 a0_3 _ _ l0_4 a0_5 true _ ?side1 ?side2 A7.out).mono ?_); (case side1 => exact cc HR0_4 HB); (case side2 => exact HC0_4.out); rintro e w15 ⟨rfl, hb⟩; replace BK150 := kb BK150 hb; replace HB := hs_ HB hb; (try clear hb hb2 hk hi); have ⟨z16_0, z16_1, z16_2, z16_3, z16_4, z16_5, z16_6, z16_7, z16_8, v16_0, v16_1, v16_2, v16_3, v16_4, v16_5, v16_6, v16_7, v16_8⟩ := rz9 BK150) | (go_at_call 120; (with_reducible refine (spec_SeasonOk.calls k (l0_0.length : Int) _ _ l0_6 true _ ?side1 ?side2 A9.out).mono ?_); (case side1 => exact cc HR0_6 HB); (case side2 => exact HC0_6.out); rintro e w17 ⟨rfl, hb⟩; replace BK150 := kb BK150 hb; replace HB := hs_ HB hb; (try clear hb hb2 hk hi); have ⟨z18_0, z18_1, z18_2, z18_3, z18_4, z18_5, z18_6, z18_7, z18_8, v18_0, v18_1, v18_2, v18_3, v18_4, v18_5, v18_6, v18_7, v18_8⟩ := rz9 BK150))
      go_meet
      case rel => exact ⟨_, (((l0_8.length : Int) != (l0_0.length : Int))), e2_, H', ⟨by first | omega | exact Nat.le_refl _⟩, ⟨bk BK150⟩, ⟨bb HB⟩⟩
     ·rw [if_neg c11] at H
      have c11b0 : ((l0_7.length : Int) == (l0_0.length : Int)) = false := beq_eq_false_iff_ne.mpr c11
      have c11b1 : ((l0_7.length : Int) != (l0_0.length : Int)) = true := bne_iff_ne.mpr c11
      have c11b2 : (l0_7.length == l0_0.length) = false := by first | simpa using c11 | (simp at c11 ⊢; omega)
      (first | rw [c11b0] | rw [c11b1] | (simp only [i64_w, i32_w]; rw [c11b0]) | skip)
      have H' := dk H
      clear H
      have ⟨z19_0, z19_1, z19_2, z19_3, z19_4, z19_5, z19_6, z19_7, z19_8, v19_0, v19_1, v19_2, v19_3, v19_4, v19_5, v19_6, v19_7, v19_8⟩ := rz9 BK150
      go_wp2_with (first | ((with_reducible refine gate_callee (f := 118) rfl ?_); refine gl (some 10) Try.func118 #[.slice A0_0 l0_0.length c0_0] ?_; (with_reducible refine (spec_FieldOk.calls k _ _ l0_0 true _ ?side1 ?side2 A5.out).mono ?_); (case side1 => exact cc HR0_0 HB); (case side2 => exact HC0_0.out); rintro e w20 ⟨rfl, hb⟩; refine ⟨_, rfl, ?_⟩; replace BK150 := kb BK150 hb; replace HB := hs_ HB hb; (try clear hb hb2 hk hi); have ⟨z21_0, z21_1, z21_2, z21_3, z21_4, z21_5, z21_6, z21_7, z21_8, v21_0, v21_1, v21_2, v21_3, v21_4, v21_5, v21_6, v21_7, v21_8⟩ := rz9 BK150) | (go_at_call 119; (with_reducible refine (spec_RulesOk.calls k a0_1 a0_2 a0_3 _ _ l0_4 a0_5 true _ ?side1 ?side2 A7.out).mono ?_); (case side1 => exact cc HR0_4 HB); (case side2 => exact HC0_4.out); rintro e w22 ⟨rfl, hb⟩; replace BK150 := kb BK150 hb; replace HB := hs_ HB hb; (try clear hb hb2 hk hi); have ⟨z23_0, z23_1, z23_2, z23_3, z23_4, z23_5, z23_6, z23_7, z23_8, v23_0, v23_1, v23_2, v23_3, v23_4, v23_5, v23_6, v23_7, v23_8⟩ := rz9 BK150) | (go_at_call 120; (with_reducible refine (spec_SeasonOk.calls k (l0_0.length : Int) _ _ l0_6 true _ ?side1 ?side2 A9.out).mono ?_); (case side1 => exact cc HR0_6 HB); (case side2 => exact HC0_6.out); rintro e w24 ⟨rfl, hb⟩; replace BK150 := kb BK150 hb; replace HB := hs_ HB hb; (try clear hb hb2 hk hi); have ⟨z25_0, z25_1, z25_2, z25_3, z25_4, z25_5, z25_6, z25_7, z25_8, v25_0, v25_1, v25_2, v25_3, v25_4, v25_5, v25_6, v25_7, v25_8⟩ := rz9 BK150))
      go_meet
      case rel => exact ⟨_, (true), e2_, H', ⟨by first | omega | exact Nat.le_refl _⟩, ⟨bk BK150⟩, ⟨bb HB⟩⟩
    ·replace c10 := Bool.eq_false_iff.mpr c10
     subst c10
     rw [if_neg (show ¬ (false = true) by decide)] at H
     have H' := dk H
     clear H
     have ⟨z26_0, z26_1, z26_2, z26_3, z26_4, z26_5, z26_6, z26_7, z26_8, v26_0, v26_1, v26_2, v26_3, v26_4, v26_5, v26_6, v26_7, v26_8⟩ := rz9 BK150
     go_wp2_with (first | ((with_reducible refine gate_callee (f := 118) rfl ?_); refine gl (some 10) Try.func118 #[.slice A0_0 l0_0.length c0_0] ?_; (with_reducible refine (spec_FieldOk.calls k _ _ l0_0 true _ ?side1 ?side2 A5.out).mono ?_); (case side1 => exact cc HR0_0 HB); (case side2 => exact HC0_0.out); rintro e w27 ⟨rfl, hb⟩; refine ⟨_, rfl, ?_⟩; replace BK150 := kb BK150 hb; replace HB := hs_ HB hb; (try clear hb hb2 hk hi); have ⟨z28_0, z28_1, z28_2, z28_3, z28_4, z28_5, z28_6, z28_7, z28_8, v28_0, v28_1, v28_2, v28_3, v28_4, v28_5, v28_6, v28_7, v28_8⟩ := rz9 BK150) | (go_at_call 119; (with_reducible refine (spec_RulesOk.calls k a0_1 a0_2 a0_3 _ _ l0_4 a0_5 true _ ?side1 ?side2 A7.out).mono ?_); (case side1 => exact cc HR0_4 HB); (case side2 => exact HC0_4.out); rintro e w29 ⟨rfl, hb⟩; replace BK150 := kb BK150 hb; replace HB := hs_ HB hb; (try clear hb hb2 hk hi); have ⟨z30_0, z30_1, z30_2, z30_3, z30_4, z30_5, z30_6, z30_7, z30_8, v30_0, v30_1, v30_2, v30_3, v30_4, v30_5, v30_6, v30_7, v30_8⟩ := rz9 BK150) | (go_at_call 120; (with_reducible refine (spec_SeasonOk.calls k (l0_0.length : Int) _ _ l0_6 false _ ?side1 ?side2 A9.out).mono ?_); (case side1 => exact cc HR0_6 HB); (case side2 => exact HC0_6.out); rintro e w31 ⟨rfl, hb⟩; replace BK150 := kb BK150 hb; replace HB := hs_ HB hb; (try clear hb hb2 hk hi)))
     go_meet
     case rel => exact ⟨_, (true), e2_, H', ⟨by first | omega | exact Nat.le_refl _⟩, ⟨bk BK150⟩, ⟨bb HB⟩⟩
   ·replace c8 := Bool.eq_false_iff.mpr c8
    subst c8
    rw [if_neg (show ¬ (false = true) by decide)] at H
    have H' := dk H
    clear H
    have ⟨z32_0, z32_1, z32_2, z32_3, z32_4, z32_5, z32_6, z32_7, z32_8, v32_0, v32_1, v32_2, v32_3, v32_4, v32_5, v32_6, v32_7, v32_8⟩ := rz9 BK150
    go_wp2_with (first | ((with_reducible refine gate_callee (f := 118) rfl ?_); refine gl (some 10) Try.func118 #[.slice A0_0 l0_0.length c0_0] ?_; (with_reducible refine (spec_FieldOk.calls k _ _ l0_0 true _ ?side1 ?side2 A5.out).mono ?_); (case side1 => exact cc HR0_0 HB); (case side2 => exact HC0_0.out); rintro e w33 ⟨rfl, hb⟩; refine ⟨_, rfl, ?_⟩; replace BK150 := kb BK150 hb; replace HB := hs_ HB hb; (try clear hb hb2 hk hi); have ⟨z34_0, z34_1, z34_2, z34_3, z34_4, z34_5, z34_6, z34_7, z34_8, v34_0, v34_1, v34_2, v34_3, v34_4, v34_5, v34_6, v34_7, v34_8⟩ := rz9 BK150) | (go_at_call 119; (with_reducible refine (spec_RulesOk.calls k a0_1 a0_2 a0_3 _ _ l0_4 a0_5 false _ ?side1 ?side2 A7.out).mono ?_); (case side1 => exact cc HR0_4 HB); (case side2 => exact HC0_4.out); rintro e w35 ⟨rfl, hb⟩; replace BK150 := kb BK150 hb; replace HB := hs_ HB hb; (try clear hb hb2 hk hi)))
    go_meet
    case rel => exact ⟨_, (true), e2_, H', ⟨by first | omega | exact Nat.le_refl _⟩, ⟨bk BK150⟩, ⟨bb HB⟩⟩
  ·replace c6 := Bool.eq_false_iff.mpr c6
   subst c6
   rw [if_neg (show ¬ (false = true) by decide)] at H
   have H' := dk H
   clear H
   have ⟨z36_0, z36_1, z36_2, z36_3, z36_4, z36_5, z36_6, z36_7, z36_8, v36_0, v36_1, v36_2, v36_3, v36_4, v36_5, v36_6, v36_7, v36_8⟩ := rz9 BK150
   go_wp2_with (first | ((with_reducible refine gate_callee (f := 118) rfl ?_); refine gl (some 10) Try.func118 #[.slice A0_0 l0_0.length c0_0] ?_; (with_reducible refine (spec_FieldOk.calls k _ _ l0_0 false _ ?side1 ?side2 A5.out).mono ?_); (case side1 => exact cc HR0_0 HB); (case side2 => exact HC0_0.out); rintro e w37 ⟨rfl, hb⟩; refine ⟨_, rfl, ?_⟩; replace BK150 := kb BK150 hb; replace HB := hs_ HB hb; (try clear hb hb2 hk hi)))
   go_meet
   case rel => exact ⟨_, (true), e2_, H', ⟨by first | omega | exact Nat.le_refl _⟩, ⟨bk BK150⟩, ⟨bb HB⟩⟩
 case rest =>
  clear HC2
  (try clear c1)
  (try clear p2)
  (try clear c5)
  (try clear c6)
  (try clear c8)
  (try clear c10)
  (try clear c11)
  (try clear c11b0)
  (try clear c11b1)
  (try clear c11b2)
  (try clear z12_0 z12_1 z12_2 z12_3 z12_4 z12_5 z12_6 z12_7 z12_8)
  (try clear z14_0 z14_1 z14_2 z14_3 z14_4 z14_5 z14_6 z14_7 z14_8)
  (try clear z16_0 z16_1 z16_2 z16_3 z16_4 z16_5 z16_6 z16_7 z16_8)
  (try clear z18_0 z18_1 z18_2 z18_3 z18_4 z18_5 z18_6 z18_7 z18_8)
  (try clear z19_0 z19_1 z19_2 z19_3 z19_4 z19_5 z19_6 z19_7 z19_8)
  (try clear z21_0 z21_1 z21_2 z21_3 z21_4 z21_5 z21_6 z21_7 z21_8)
  (try clear z23_0 z23_1 z23_2 z23_3 z23_4 z23_5 z23_6 z23_7 z23_8)
  (try clear z25_0 z25_1 z25_2 z25_3 z25_4 z25_5 z25_6 z25_7 z25_8)
  (try clear z26_0 z26_1 z26_2 z26_3 z26_4 z26_5 z26_6 z26_7 z26_8)
  (try clear z28_0 z28_1 z28_2 z28_3 z28_4 z28_5 z28_6 z28_7 z28_8)
  (try clear z30_0 z30_1 z30_2 z30_3 z30_4 z30_5 z30_6 z30_7 z30_8)
  (try clear z32_0 z32_1 z32_2 z32_3 z32_4 z32_5 z32_6 z32_7 z32_8)
  (try clear z34_0 z34_1 z34_2 z34_3 z34_4 z34_5 z34_6 z34_7 z34_8)
  (try clear z36_0 z36_1 z36_2 z36_3 z36_4 z36_5 z36_6 z36_7 z36_8)
  (try clear z4_0 z4_1 z4_2 z4_3 z4_4 z4_5 z4_6 z4_7 z4_8)
  (try clear v12_0 v12_1 v12_2 v12_3 v12_4 v12_5 v12_6 v12_7 v12_8)
  (try clear v14_0 v14_1 v14_2 v14_3 v14_4 v14_5 v14_6 v14_7 v14_8)
  (try clear v16_0 v16_1 v16_2 v16_3 v16_4 v16_5 v16_6 v16_7 v16_8)
  (try clear v18_0 v18_1 v18_2 v18_3 v18_4 v18_5 v18_6 v18_7 v18_8)
  (try clear v19_0 v19_1 v19_2 v19_3 v19_4 v19_5 v19_6 v19_7 v19_8)
  (try clear v21_0 v21_1 v21_2 v21_3 v21_4 v21_5 v21_6 v21_7 v21_8)
  (try clear v23_0 v23_1 v23_2 v23_3 v23_4 v23_5 v23_6 v23_7 v23_8)
  (try clear v25_0 v25_1 v25_2 v25_3 v25_4 v25_5 v25_6 v25_7 v25_8)
  (try clear v26_0 v26_1 v26_2 v26_3 v26_4 v26_5 v26_6 v26_7 v26_8)
  (try clear v28_0 v28_1 v28_2 v28_3 v28_4 v28_5 v28_6 v28_7 v28_8)
  (try clear v30_0 v30_1 v30_2 v30_3 v30_4 v30_5 v30_6 v30_7 v30_8)
  (try clear v32_0 v32_1 v32_2 v32_3 v32_4 v32_5 v32_6 v32_7 v32_8)
  (try clear v34_0 v34_1 v34_2 v34_3 v34_4 v34_5 v34_6 v34_7 v34_8)
  (try clear v36_0 v36_1 v36_2 v36_3 v36_4 v36_5 v36_6 v36_7 v36_8)
  (try clear v4_0 v4_1 v4_2 v4_3 v4_4 v4_5 v4_6 v4_7 v4_8)
  obtain ⟨kq, x38_1, rfl, HA, HJ1, BK150, HB⟩ := hcut
  cases kq with
  | zero => exact absurd HA.out (by simp [spec_BookOk.j0])
  | succ kj1 =>
   have H := HA.out
   clear HA
   simp only [spec_BookOk.j0] at H
   by_cases c38 : x38_1 = true
   ·subst c38
    rw [if_pos rfl] at H
    obtain rfl := Option.some.inj H
    go_wp2
    go_ret
    exact ⟨ee, bb HB⟩
   ·replace c38 := Bool.eq_false_iff.mpr c38
    subst c38
    rw [if_neg (show ¬ (false = true) by decide)] at H
    have H' := dk H
    clear H
    have ⟨z39_0, z39_1, z39_2, z39_3, z39_4, z39_5, z39_6, z39_7, z39_8, v39_0, v39_1, v39_2, v39_3, v39_4, v39_5, v39_6, v39_7, v39_8⟩ := rz9 BK150
    go_wp2
    go_loopg [42] kj1 (fun kq v42 w' => ∃ (x42_2 : Int), v42 = .int .i64 x42_2 ∧ Aside0 (spec_BookOk.l0 kq (l0_0.length : Int) x42_2 l0_0 a0_1 a0_2 a0_3 l0_4 a0_5 l0_6 l0_7 l0_8 = some r) ∧ Aside0 (kq ≤ kj1) ∧ Aside0 (w'.heap[gb150]? = some (.cells #[(.slice A0_0 l0_0.length c0_0), .int .i64 a0_1, .int .i64 a0_2, .int .i64 a0_3, (.slice A0_4 l0_4.length c0_4), .bool a0_5, (.slice A0_6 l0_6.length c0_6), (.slice A0_7 l0_7.length c0_7), (.slice A0_8 l0_8.length c0_8)] 36 (0, 0))) ∧ Aside0 (Below w.heap.size w w'))
    case atStart => exact ⟨(0), e2_, H', ⟨Nat.le_refl _⟩, ⟨bk BK150⟩, ⟨bb HB⟩⟩
    case round =>
     clear H'
     (try clear c1)
     (try clear p2)
     (try clear c3)
     (try clear c5)
     (try clear c6)
     (try clear c8)
     (try clear c10)
     (try clear c11)
     (try clear c11b0)
     (try clear c11b1)
     (try clear c11b2)
     (try clear c38)
     (try clear z12_0 z12_1 z12_2 z12_3 z12_4 z12_5 z12_6 z12_7 z12_8)
     (try clear z14_0 z14_1 z14_2 z14_3 z14_4 z14_5 z14_6 z14_7 z14_8)
     (try clear z16_0 z16_1 z16_2 z16_3 z16_4 z16_5 z16_6 z16_7 z16_8)
     (try clear z18_0 z18_1 z18_2 z18_3 z18_4 z18_5 z18_6 z18_7 z18_8)
     (try clear z19_0 z19_1 z19_2 z19_3 z19_4 z19_5 z19_6 z19_7 z19_8)
     (try clear z21_0 z21_1 z21_2 z21_3 z21_4 z21_5 z21_6 z21_7 z21_8)
     (try clear z23_0 z23_1 z23_2 z23_3 z23_4 z23_5 z23_6 z23_7 z23_8)
     (try clear z25_0 z25_1 z25_2 z25_3 z25_4 z25_5 z25_6 z25_7 z25_8)
     (try clear z26_0 z26_1 z26_2 z26_3 z26_4 z26_5 z26_6 z26_7 z26_8)
     (try clear z28_0 z28_1 z28_2 z28_3 z28_4 z28_5 z28_6 z28_7 z28_8)
     (try clear z30_0 z30_1 z30_2 z30_3 z30_4 z30_5 z30_6 z30_7 z30_8)
     (try clear z32_0 z32_1 z32_2 z32_3 z32_4 z32_5 z32_6 z32_7 z32_8)
     (try clear z34_0 z34_1 z34_2 z34_3 z34_4 z34_5 z34_6 z34_7 z34_8)
     (try clear z36_0 z36_1 z36_2 z36_3 z36_4 z36_5 z36_6 z36_7 z36_8)
     (try clear z39_0 z39_1 z39_2 z39_3 z39_4 z39_5 z39_6 z39_7 z39_8)
     (try clear z4_0 z4_1 z4_2 z4_3 z4_4 z4_5 z4_6 z4_7 z4_8)
     (try clear v12_0 v12_1 v12_2 v12_3 v12_4 v12_5 v12_6 v12_7 v12_8)
     (try clear v14_0 v14_1 v14_2 v14_3 v14_4 v14_5 v14_6 v14_7 v14_8)
     (try clear v16_0 v16_1 v16_2 v16_3 v16_4 v16_5 v16_6 v16_7 v16_8)
     (try clear v18_0 v18_1 v18_2 v18_3 v18_4 v18_5 v18_6 v18_7 v18_8)
     (try clear v19_0 v19_1 v19_2 v19_3 v19_4 v19_5 v19_6 v19_7 v19_8)
     (try clear v21_0 v21_1 v21_2 v21_3 v21_4 v21_5 v21_6 v21_7 v21_8)
     (try clear v23_0 v23_1 v23_2 v23_3 v23_4 v23_5 v23_6 v23_7 v23_8)
     (try clear v25_0 v25_1 v25_2 v25_3 v25_4 v25_5 v25_6 v25_7 v25_8)
     (try clear v26_0 v26_1 v26_2 v26_3 v26_4 v26_5 v26_6 v26_7 v26_8)
     (try clear v28_0 v28_1 v28_2 v28_3 v28_4 v28_5 v28_6 v28_7 v28_8)
     (try clear v30_0 v30_1 v30_2 v30_3 v30_4 v30_5 v30_6 v30_7 v30_8)
     (try clear v32_0 v32_1 v32_2 v32_3 v32_4 v32_5 v32_6 v32_7 v32_8)
     (try clear v34_0 v34_1 v34_2 v34_3 v34_4 v34_5 v34_6 v34_7 v34_8)
     (try clear v36_0 v36_1 v36_2 v36_3 v36_4 v36_5 v36_6 v36_7 v36_8)
     (try clear v39_0 v39_1 v39_2 v39_3 v39_4 v39_5 v39_6 v39_7 v39_8)
     (try clear v4_0 v4_1 v4_2 v4_3 v4_4 v4_5 v4_6 v4_7 v4_8)
     (try clear p2)
     obtain ⟨x42_2, rfl, HA, HK2, BK150, HB⟩ := hrel
     cases gk with
     | zero => exact absurd HA.out (by simp [spec_BookOk.l0])
     | succ k2 =>
      have H := HA.out
      clear HA
      simp only [spec_BookOk.l0] at H
      by_cases c40 : x42_2 < (l0_0.length : Int)
      ·rw [if_pos c40] at H
       have c40b0 : decide (x42_2 < (l0_0.length : Int)) = true := decide_eq_true c40
       clear c40
       by_cases c41 : 0 ≤ x42_2
       ·rw [if_pos c41] at H
        have c41b0 : decide (0 ≤ x42_2) = true := decide_eq_true c41
        clear c41
        by_cases c42 : x42_2 < (l0_7.length : Int)
        ·rw [if_pos c42] at H
         have c42b0 : decide (x42_2 < (l0_7.length : Int)) = true := decide_eq_true c42
         clear c42
         replace H := Option.bind_eq_some_iff.mp H
         obtain ⟨t155, A430, H⟩ := H
         try dsimp only at H
         have A43 := dk A430
         clear A430
         by_cases c44 : t155 = true
         ·subst c44
          rw [if_pos rfl] at H
          by_cases c45 : x42_2 < (l0_8.length : Int)
          ·rw [if_pos c45] at H
           have c45b0 : decide (x42_2 < (l0_8.length : Int)) = true := decide_eq_true c45
           clear c45
           replace H := Option.bind_eq_some_iff.mp H
           obtain ⟨t157, A460, H⟩ := H
           try dsimp only at H
           have A46 := dk A460
           clear A460
           by_cases c47 : t157 = true
           ·subst c47
            rw [if_pos rfl] at H
            have H' := dk H
            clear H
            have ⟨z48_0, z48_1, z48_2, z48_3, z48_4, z48_5, z48_6, z48_7, z48_8, v48_0, v48_1, v48_2, v48_3, v48_4, v48_5, v48_6, v48_7, v48_8⟩ := rz9 BK150
            have p154 : 0 ≤ (x42_2 : Int) := oa
            have q154 : x42_2 < (l0_7.length : Int) := oa
            obtain ⟨ad154, e154, hx154_0⟩ := Kd.at_int HR0_7.out x42_2 p154 q154
            cases e154
            replace hx154_0 := hc HB hx154_0
            replace p154 := eq_true p154
            replace q154 := eq_true q154
            go_wp2_with (first | ((with_reducible refine gate_callee (f := 76) rfl ?_); refine gl (some 50) Try.func76 #[.int .i64 (rd l0_7 x42_2), .int .i64 0, .int .i64 1000] ?_; (with_reducible refine (spec_l01In.calls (rd l0_7 x42_2) 0 1000 true _ A43.out).mono ?_); rintro e w' ⟨rfl, ⟨nd, rfl⟩⟩; refine ⟨_, rfl, ?_⟩; have p156 : 0 ≤ (x42_2 : Int) := oa; have q156 : x42_2 < (l0_8.length : Int) := oa; obtain ⟨ad156, e156, hx156_0⟩ := Kd.at_int HR0_8.out x42_2 p156 q156; cases e156; replace hx156_0 := hc HB hx156_0; replace p156 := eq_true p156; replace q156 := eq_true q156) | (go_at_call 76; (with_reducible refine (spec_l01In.calls (rd l0_8 x42_2) 0 1000 true _ A46.out).mono ?_); rintro e w' ⟨rfl, ⟨nd, rfl⟩⟩))
            go_roundg k2
            case measure => have := HJ1.out; have := HK2.out; omega
            case rel => exact ⟨(wrap64 (x42_2 + 1)), e2_, H', ⟨by have := HJ1.out; have := HK2.out; omega⟩, ⟨bk BK150⟩, ⟨bb HB⟩⟩
           ·replace c47 := Bool.eq_false_iff.mpr c47
            subst c47
            rw [if_neg (show ¬ (false = true) by decide)] at H
            obtain rfl := Option.some.inj H
            have ⟨z49_0, z49_1, z49_2, z49_3, z49_4, z49_5, z49_6, z49_7, z49_8, v49_0, v49_1, v49_2, v49_3, v49_4, v49_5, v49_6, v49_7, v49_8⟩ := rz9 BK150
            have p154 : 0 ≤ (x42_2 : Int) := oa
            have q154 : x42_2 < (l0_7.length : Int) := oa
            obtain ⟨ad154, e154, hx154_0⟩ := Kd.at_int HR0_7.out x42_2 p154 q154
            cases e154
            replace hx154_0 := hc HB hx154_0
            replace p154 := eq_true p154
            replace q154 := eq_true q154
            go_wp2_with (first | ((with_reducible refine gate_callee (f := 76) rfl ?_); refine gl (some 50) Try.func76 #[.int .i64 (rd l0_7 x42_2), .int .i64 0, .int .i64 1000] ?_; (with_reducible refine (spec_l01In.calls (rd l0_7 x42_2) 0 1000 true _ A43.out).mono ?_); rintro e w' ⟨rfl, ⟨nd, rfl⟩⟩; refine ⟨_, rfl, ?_⟩; have p156 : 0 ≤ (x42_2 : Int) := oa; have q156 : x42_2 < (l0_8.length : Int) := oa; obtain ⟨ad156, e156, hx156_0⟩ := Kd.at_int HR0_8.out x42_2 p156 q156; cases e156; replace hx156_0 := hc HB hx156_0; replace p156 := eq_true p156; replace q156 := eq_true q156) | (go_at_call 76; (with_reducible refine (spec_l01In.calls (rd l0_8 x42_2) 0 1000 false _ A46.out).mono ?_); rintro e w' ⟨rfl, ⟨nd, rfl⟩⟩))
            go_ret
            exact ⟨ee, bb HB⟩
          ·rw [if_neg c45] at H
           exact absurd H (by simp)
         ·replace c44 := Bool.eq_false_iff.mpr c44
          subst c44
          rw [if_neg (show ¬ (false = true) by decide)] at H
          obtain rfl := Option.some.inj H
          have ⟨z50_0, z50_1, z50_2, z50_3, z50_4, z50_5, z50_6, z50_7, z50_8, v50_0, v50_1, v50_2, v50_3, v50_4, v50_5, v50_6, v50_7, v50_8⟩ := rz9 BK150
          have p154 : 0 ≤ (x42_2 : Int) := oa
          have q154 : x42_2 < (l0_7.length : Int) := oa
          obtain ⟨ad154, e154, hx154_0⟩ := Kd.at_int HR0_7.out x42_2 p154 q154
          cases e154
          replace hx154_0 := hc HB hx154_0
          replace p154 := eq_true p154
          replace q154 := eq_true q154
          go_wp2_with (first | ((with_reducible refine gate_callee (f := 76) rfl ?_); refine gl (some 50) Try.func76 #[.int .i64 (rd l0_7 x42_2), .int .i64 0, .int .i64 1000] ?_; (with_reducible refine (spec_l01In.calls (rd l0_7 x42_2) 0 1000 false _ A43.out).mono ?_); rintro e w' ⟨rfl, ⟨nd, rfl⟩⟩; refine ⟨_, rfl, ?_⟩))
          go_ret
          exact ⟨ee, bb HB⟩
        ·rw [if_neg c42] at H
         exact absurd H (by simp)
       ·rw [if_neg c41] at H
        exact absurd H (by simp)
      ·rw [if_neg c40] at H
       have c40b0 : decide (x42_2 < (l0_0.length : Int)) = false := decide_eq_false c40
       clear c40
       obtain rfl := Option.some.inj H
       go_wp2
       go_ret
       exact ⟨ee, bb HB⟩
end Go.Proofs.Ythfefanapneocaa.Q
end
namespace Go.Proofs.Ythfefanapneocaa.Q
open Go.RowKit Go.Proofs.YthfefanapneocaaW.PrintWords Go.Proofs.YthfefanapneocaaW.PrintLast Go.Proofs.YthfefanapneocaaW.PrintMore
attribute [local go_sem] max2_int min2_int max_two min_two max_three min_three max_four min_four
set_option linter.unusedVariables false
set_option linter.unusedSimpArgs false
set_option maxRecDepth 100000
set_option maxHeartbeats 8000000
def spec_l16Copy.f (l0_0 : List (S139)) (a0_1 : Int) (a0_2 : Int) (a0_3 : Int) (l0_4 : List Int) (a0_5 : Bool) (l0_6 : List (S95)) (l0_7 : List Int) (l0_8 : List Int) : Option ((List (S139)) × Int × Int × Int × List Int × Bool × (List (S95)) × List Int × List Int) := (some (([] : List (S139)) : List (S139))).bind fun y160 => (if y160.length + l0_0.length < 4398046511104 then ((some (([] : List Int) : List Int)).bind fun y166 => (if y166.length + l0_4.length < 17592186044416 then ((some (([] : List (S95)) : List (S95))).bind fun y172 => (if y172.length + l0_6.length < 3518437208883 then ((some (([] : List Int) : List Int)).bind fun y178 => (if y178.length + l0_7.length < 17592186044416 then ((some (([] : List Int) : List Int)).bind fun y184 => (if y184.length + l0_8.length < 17592186044416 then (some ((y160 ++ l0_0), a0_1, a0_2, a0_3, (y166 ++ l0_4), a0_5, (y172 ++ l0_6), (y178 ++ l0_7), (y184 ++ l0_8))) else (none))) else (none))) else (none))) else (none))) else (none))
theorem spec_l16Copy.calls (A0_0 : Option Addr) (c0_0 : Nat) (l0_0 : List (S139)) (a0_1 : Int) (a0_2 : Int) (a0_3 : Int) (A0_4 : Option Addr) (c0_4 : Nat) (l0_4 : List Int) (a0_5 : Bool) (A0_6 : Option Addr) (c0_6 : Nat) (l0_6 : List (S95)) (A0_7 : Option Addr) (c0_7 : Nat) (l0_7 : List Int) (A0_8 : Option Addr) (c0_8 : Nat) (l0_8 : List Int) (r1 : List (S139)) (r2 : Int) (r3 : Int) (r4 : Int) (r5 : List Int) (r6 : Bool) (r7 : List (S95)) (r8 : List Int) (r9 : List Int) (w : World) (hr0_0 : Kd.C k139 w A0_0 l0_0.length l0_0) (hc0_0 : l0_0.length ≤ c0_0) (hr0_4 : Kd.C (Kd.int .i64) w A0_4 l0_4.length l0_4) (hc0_4 : l0_4.length ≤ c0_4) (hr0_6 : Kd.C k95 w A0_6 l0_6.length l0_6) (hc0_6 : l0_6.length ≤ c0_6) (hr0_7 : Kd.C (Kd.int .i64) w A0_7 l0_7.length l0_7) (hc0_7 : l0_7.length ≤ c0_7) (hr0_8 : Kd.C (Kd.int .i64) w A0_8 l0_8.length l0_8) (hc0_8 : l0_8.length ≤ c0_8) (h : spec_l16Copy.f l0_0 a0_1 a0_2 a0_3 l0_4 a0_5 l0_6 l0_7 l0_8 = some (r1, r2, r3, r4, r5, r6, r7, r8, r9)) :
  Calls Try.prog 56 #[.agg #[.slice A0_0 l0_0.length c0_0, .int .i64 a0_1, .int .i64 a0_2, .int .i64 a0_3, .slice A0_4 l0_4.length c0_4, .bool a0_5, .slice A0_6 l0_6.length c0_6, .slice A0_7 l0_7.length c0_7, .slice A0_8 l0_8.length c0_8]] w fun e w' => ∃ v0_ v4_ v6_ v7_ v8_ : Value, e = .returned (.agg #[v0_, .int .i64 r2, .int .i64 r3, .int .i64 r4, v4_, .bool r6, v6_, v7_, v8_]) ∧ Kd.R k139 139 w' w.heap.size (fun _ => True) v0_ r1 ∧ Kd.R (Kd.int .i64) 3 w' w.heap.size (fun k_ => some k_ ≠ (v7_ : Value).ownBlock ∧ some k_ ≠ (v8_ : Value).ownBlock) v4_ r5 ∧ Kd.R k95 95 w' w.heap.size (fun _ => True) v6_ r7 ∧ Kd.R (Kd.int .i64) 3 w' w.heap.size (fun k_ => some k_ ≠ (v4_ : Value).ownBlock ∧ some k_ ≠ (v8_ : Value).ownBlock) v7_ r8 ∧ Kd.R (Kd.int .i64) 3 w' w.heap.size (fun k_ => some k_ ≠ (v4_ : Value).ownBlock ∧ some k_ ≠ (v7_ : Value).ownBlock) v8_ r9 ∧ Below w.heap.size w w' := by
 have hu36 := Try.underlying36
 have HR0_0 := dk hr0_0
 have HC0_0 := dk hc0_0
 clear hr0_0 hc0_0
 have HR0_4 := dk hr0_4
 have HC0_4 := dk hc0_4
 clear hr0_4 hc0_4
 have HR0_6 := dk hr0_6
 have HC0_6 := dk hc0_6
 clear hr0_6 hc0_6
 have HR0_7 := dk hr0_7
 have HC0_7 := dk hc0_7
 clear hr0_7 hc0_7
 have HR0_8 := dk hr0_8
 have HC0_8 := dk hc0_8
 clear hr0_8 hc0_8
 have HB := dk (Below.refl w.heap.size w)
 have H : ((some (([] : List (S139)) : List (S139))).bind fun y160 => (if y160.length + l0_0.length < 4398046511104 then ((some (([] : List Int) : List Int)).bind fun y166 => (if y166.length + l0_4.length < 17592186044416 then ((some (([] : List (S95)) : List (S95))).bind fun y172 => (if y172.length + l0_6.length < 3518437208883 then ((some (([] : List Int) : List Int)).bind fun y178 => (if y178.length + l0_7.length < 17592186044416 then ((some (([] : List Int) : List Int)).bind fun y184 => (if y184.length + l0_8.length < 17592186044416 then (some ((y160 ++ l0_0), a0_1, a0_2, a0_3, (y166 ++ l0_4), a0_5, (y172 ++ l0_6), (y178 ++ l0_7), (y184 ++ l0_8))) else (none))) else (none))) else (none))) else (none))) else (none))) = some (r1, r2, r3, r4, r5, r6, r7, r8, r9) := h
 clear h
 obtain ⟨y160, hy160⟩ : ∃ y_ : List (S139), y_ = (([] : List (S139))) := ⟨_, rfl⟩
 replace H : (if y160.length + l0_0.length < 4398046511104 then ((some (([] : List Int) : List Int)).bind fun y166 => (if y166.length + l0_4.length < 17592186044416 then ((some (([] : List (S95)) : List (S95))).bind fun y172 => (if y172.length + l0_6.length < 3518437208883 then ((some (([] : List Int) : List Int)).bind fun y178 => (if y178.length + l0_7.length < 17592186044416 then ((some (([] : List Int) : List Int)).bind fun y184 => (if y184.length + l0_8.length < 17592186044416 then (some ((y160 ++ l0_0), a0_1, a0_2, a0_3, (y166 ++ l0_4), a0_5, (y172 ++ l0_6), (y178 ++ l0_7), (y184 ++ l0_8))) else (none))) else (none))) else (none))) else (none))) else (none)) = some (r1, r2, r3, r4, r5, r6, r7, r8, r9) := by first | (rw [hy160]; with_reducible exact H) | (have H2_ := (Option.bind_some _ _).symm.trans H; rw [hy160]; with_reducible exact H2_) | (have H2_ := (Option.bind_some _ _).symm.trans H; with_reducible exact H2_) | with_reducible exact H | (rw [hy160]; exact H) | exact H
 have Ny160 := dk hy160
 clear hy160
 by_cases c2 : y160.length + l0_0.length < 4398046511104
 ·rw [if_pos c2] at H
  have LMc2 := dk c2
  clear c2
  obtain ⟨y163, hy163⟩ : ∃ y_ : List (S139), y_ = (y160 ++ l0_0) := ⟨_, rfl⟩
  replace H : ((some (([] : List Int) : List Int)).bind fun y166 => (if y166.length + l0_4.length < 17592186044416 then ((some (([] : List (S95)) : List (S95))).bind fun y172 => (if y172.length + l0_6.length < 3518437208883 then ((some (([] : List Int) : List Int)).bind fun y178 => (if y178.length + l0_7.length < 17592186044416 then ((some (([] : List Int) : List Int)).bind fun y184 => (if y184.length + l0_8.length < 17592186044416 then (some (y163, a0_1, a0_2, a0_3, (y166 ++ l0_4), a0_5, (y172 ++ l0_6), (y178 ++ l0_7), (y184 ++ l0_8))) else (none))) else (none))) else (none))) else (none))) = some (r1, r2, r3, r4, r5, r6, r7, r8, r9) := by first | (rw [hy163]; with_reducible exact H) | (have H2_ := (Option.bind_some _ _).symm.trans H; rw [hy163]; with_reducible exact H2_) | (have H2_ := (Option.bind_some _ _).symm.trans H; with_reducible exact H2_) | with_reducible exact H | (rw [hy163]; exact H) | exact H
  have Ny163 := dk hy163
  clear hy163
  obtain ⟨y166, hy166⟩ : ∃ y_ : List Int, y_ = (([] : List Int)) := ⟨_, rfl⟩
  replace H : (if y166.length + l0_4.length < 17592186044416 then ((some (([] : List (S95)) : List (S95))).bind fun y172 => (if y172.length + l0_6.length < 3518437208883 then ((some (([] : List Int) : List Int)).bind fun y178 => (if y178.length + l0_7.length < 17592186044416 then ((some (([] : List Int) : List Int)).bind fun y184 => (if y184.length + l0_8.length < 17592186044416 then (some (y163, a0_1, a0_2, a0_3, (y166 ++ l0_4), a0_5, (y172 ++ l0_6), (y178 ++ l0_7), (y184 ++ l0_8))) else (none))) else (none))) else (none))) else (none)) = some (r1, r2, r3, r4, r5, r6, r7, r8, r9) := by first | (rw [hy166]; with_reducible exact H) | (have H2_ := (Option.bind_some _ _).symm.trans H; rw [hy166]; with_reducible exact H2_) | (have H2_ := (Option.bind_some _ _).symm.trans H; with_reducible exact H2_) | with_reducible exact H | (rw [hy166]; exact H) | exact H
  have Ny166 := dk hy166
  clear hy166
  by_cases c3 : y166.length + l0_4.length < 17592186044416
  ·rw [if_pos c3] at H
   have LMc3 := dk c3
   clear c3
   obtain ⟨y169, hy169⟩ : ∃ y_ : List Int, y_ = (y166 ++ l0_4) := ⟨_, rfl⟩
   replace H : ((some (([] : List (S95)) : List (S95))).bind fun y172 => (if y172.length + l0_6.length < 3518437208883 then ((some (([] : List Int) : List Int)).bind fun y178 => (if y178.length + l0_7.length < 17592186044416 then ((some (([] : List Int) : List Int)).bind fun y184 => (if y184.length + l0_8.length < 17592186044416 then (some (y163, a0_1, a0_2, a0_3, y169, a0_5, (y172 ++ l0_6), (y178 ++ l0_7), (y184 ++ l0_8))) else (none))) else (none))) else (none))) = some (r1, r2, r3, r4, r5, r6, r7, r8, r9) := by first | (rw [hy169]; with_reducible exact H) | (have H2_ := (Option.bind_some _ _).symm.trans H; rw [hy169]; with_reducible exact H2_) | (have H2_ := (Option.bind_some _ _).symm.trans H; with_reducible exact H2_) | with_reducible exact H | (rw [hy169]; exact H) | exact H
   have Ny169 := dk hy169
   clear hy169
   obtain ⟨y172, hy172⟩ : ∃ y_ : List (S95), y_ = (([] : List (S95))) := ⟨_, rfl⟩
   replace H : (if y172.length + l0_6.length < 3518437208883 then ((some (([] : List Int) : List Int)).bind fun y178 => (if y178.length + l0_7.length < 17592186044416 then ((some (([] : List Int) : List Int)).bind fun y184 => (if y184.length + l0_8.length < 17592186044416 then (some (y163, a0_1, a0_2, a0_3, y169, a0_5, (y172 ++ l0_6), (y178 ++ l0_7), (y184 ++ l0_8))) else (none))) else (none))) else (none)) = some (r1, r2, r3, r4, r5, r6, r7, r8, r9) := by first | (rw [hy172]; with_reducible exact H) | (have H2_ := (Option.bind_some _ _).symm.trans H; rw [hy172]; with_reducible exact H2_) | (have H2_ := (Option.bind_some _ _).symm.trans H; with_reducible exact H2_) | with_reducible exact H | (rw [hy172]; exact H) | exact H
   have Ny172 := dk hy172
   clear hy172
   by_cases c4 : y172.length + l0_6.length < 3518437208883
   ·rw [if_pos c4] at H
    have LMc4 := dk c4
    clear c4
    obtain ⟨y175, hy175⟩ : ∃ y_ : List (S95), y_ = (y172 ++ l0_6) := ⟨_, rfl⟩
    replace H : ((some (([] : List Int) : List Int)).bind fun y178 => (if y178.length + l0_7.length < 17592186044416 then ((some (([] : List Int) : List Int)).bind fun y184 => (if y184.length + l0_8.length < 17592186044416 then (some (y163, a0_1, a0_2, a0_3, y169, a0_5, y175, (y178 ++ l0_7), (y184 ++ l0_8))) else (none))) else (none))) = some (r1, r2, r3, r4, r5, r6, r7, r8, r9) := by first | (rw [hy175]; with_reducible exact H) | (have H2_ := (Option.bind_some _ _).symm.trans H; rw [hy175]; with_reducible exact H2_) | (have H2_ := (Option.bind_some _ _).symm.trans H; with_reducible exact H2_) | with_reducible exact H | (rw [hy175]; exact H) | exact H
    have Ny175 := dk hy175
    clear hy175
    obtain ⟨y178, hy178⟩ : ∃ y_ : List Int, y_ = (([] : List Int)) := ⟨_, rfl⟩
    replace H : (if y178.length + l0_7.length < 17592186044416 then ((some (([] : List Int) : List Int)).bind fun y184 => (if y184.length + l0_8.length < 17592186044416 then (some (y163, a0_1, a0_2, a0_3, y169, a0_5, y175, (y178 ++ l0_7), (y184 ++ l0_8))) else (none))) else (none)) = some (r1, r2, r3, r4, r5, r6, r7, r8, r9) := by first | (rw [hy178]; with_reducible exact H) | (have H2_ := (Option.bind_some _ _).symm.trans H; rw [hy178]; with_reducible exact H2_) | (have H2_ := (Option.bind_some _ _).symm.trans H; with_reducible exact H2_) | with_reducible exact H | (rw [hy178]; exact H) | exact H
    have Ny178 := dk hy178
    clear hy178
    by_cases c5 : y178.length + l0_7.length < 17592186044416
    ·rw [if_pos c5] at H
     have LMc5 := dk c5
     clear c5
     obtain ⟨y181, hy181⟩ : ∃ y_ : List Int, y_ = (y178 ++ l0_7) := ⟨_, rfl⟩
     replace H : ((some (([] : List Int) : List Int)).bind fun y184 => (if y184.length + l0_8.length < 17592186044416 then (some (y163, a0_1, a0_2, a0_3, y169, a0_5, y175, y181, (y184 ++ l0_8))) else (none))) = some (r1, r2, r3, r4, r5, r6, r7, r8, r9) := by first | (rw [hy181]; with_reducible exact H) | (have H2_ := (Option.bind_some _ _).symm.trans H; rw [hy181]; with_reducible exact H2_) | (have H2_ := (Option.bind_some _ _).symm.trans H; with_reducible exact H2_) | with_reducible exact H | (rw [hy181]; exact H) | exact H
     have Ny181 := dk hy181
     clear hy181
     obtain ⟨y184, hy184⟩ : ∃ y_ : List Int, y_ = (([] : List Int)) := ⟨_, rfl⟩
     replace H : (if y184.length + l0_8.length < 17592186044416 then (some (y163, a0_1, a0_2, a0_3, y169, a0_5, y175, y181, (y184 ++ l0_8))) else (none)) = some (r1, r2, r3, r4, r5, r6, r7, r8, r9) := by first | (rw [hy184]; with_reducible exact H) | (have H2_ := (Option.bind_some _ _).symm.trans H; rw [hy184]; with_reducible exact H2_) | (have H2_ := (Option.bind_some _ _).symm.trans H; with_reducible exact H2_) | with_reducible exact H | (rw [hy184]; exact H) | exact H
     have Ny184 := dk hy184
     clear hy184
     by_cases c6 : y184.length + l0_8.length < 17592186044416
     ·rw [if_pos c6] at H
      have LMc6 := dk c6
      clear c6
      obtain ⟨y187, hy187⟩ : ∃ y_ : List Int, y_ = (y184 ++ l0_8) := ⟨_, rfl⟩
      replace H : (some (y163, a0_1, a0_2, a0_3, y169, a0_5, y175, y181, y187)) = some (r1, r2, r3, r4, r5, r6, r7, r8, r9) := by first | (rw [hy187]; with_reducible exact H) | (have H2_ := (Option.bind_some _ _).symm.trans H; rw [hy187]; with_reducible exact H2_) | (have H2_ := (Option.bind_some _ _).symm.trans H; with_reducible exact H2_) | with_reducible exact H | (rw [hy187]; exact H) | exact H
      have Ny187 := dk hy187
      clear hy187
      simp only [Option.some.injEq, Prod.mk.injEq] at H
      obtain ⟨rfl, rfl, rfl, rfl, rfl, rfl, rfl, rfl, rfl⟩ := H
      go_enter Try.func56, Try.ntmps56
      go_wp2_with (first | ((with_reducible refine gate_dst (N := 1) rfl ?_); refine bx (N := 1) (cs := #[.slice A0_0 l0_0.length c0_0, .int .i64 a0_1, .int .i64 a0_2, .int .i64 a0_3, .slice A0_4 l0_4.length c0_4, .bool a0_5, .slice A0_6 l0_6.length c0_6, .slice A0_7 l0_7.length c0_7, .slice A0_8 l0_8.length c0_8]) (t := 36) ?_; intro gb158 hg w7 hbox hb; have BK158 := dk (hbox); have GW158 := gs hg HB; have GE158 := gs hg HB; replace HB := hs_ HB hb; clear hb hbox hg) | ((with_reducible refine gate_dst (N := 2) rfl ?_); refine bx (N := 2) (cs := #[.slice none 0 0, .int .i64 0, .int .i64 0, .int .i64 0, .slice none 0 0, .bool false, .slice none 0 0, .slice none 0 0, .slice none 0 0]) (t := 36) ?_; intro gb159 hg w8 hbox hb; have BK159 := dk (hbox); have GW159 := gs hg HB; have GE159 := gs hg HB; replace HB := hs_ HB hb; have NB158_159 := gn hg BK158; have NB159_158 := gm hg BK158; replace BK158 := kb BK158 hb; clear hb hbox hg) | ((with_reducible refine gate_dst (N := 3) rfl ?_); refine Kd.R_lit k139 _ 139 ?hg (N := 3) ?hd (xs := ([] : List (S139))) (inner := []) (ok := fun _ => True) (okp := fun _ => True) ?hr ?hp (fun _ hk => hk) trivial (Below.refl _ _) (Nat.le_refl _) (by simp) ?_; (case hd => rfl); (case hg => rfl); (case hr => first | (go_simp; done) | (go_simp; rfl)); (case hp => exact (Reps.none _ _)); intro v161 w9 ho10 hb hg_ hnew_; clear hg_ hnew_; (first | rw [← Ny160.out] at ho10 | (simp only [Int.reduceToNat] at ho10; rw [← Ny160.out] at ho10)); have HO162 := kl ho10 HB; replace BK158 := kb BK158 hb; replace BK159 := kb BK159 hb; replace HB := hs_ HB hb; clear hb ho10; have hnb11 := NB158_159.out; have hnc11 := NB159_158.out; have ⟨z12_0, z12_1, z12_2, z12_3, z12_4, z12_5, z12_6, z12_7, z12_8, v12_0, v12_1, v12_2, v12_3, v12_4, v12_5, v12_6, v12_7, v12_8⟩ := rz9 BK158) | ((with_reducible refine gate_builtin (b := .append) (xs := #[.tmp 3, .tmp 5]) rfl ?_); at_builtin; refine Kd.R_append_rows k139 (w0 := w) w.heap.size rfl (.tmp 3) (.tmp 5) 32 139 (.agg #[(.string ⟨#[]⟩), (.int .i64 0), (.int .i64 0)]) 32 rfl Try.underlying32 info139 rfl (by decide) (by omega) v161 y160 l0_0 _ _ _ (fun _ => True) (fun _ => False) rfl rfl ?aO ?aR (fun _ _ h => h) (fun _ h => h.elim) ?aF ?aB ?aS ?aL ?_; (case aR => exact cc HR0_0 HB); (case aB => exact (bb HB)); (case aF => exact (fun _ _ => trivial)); (case aO => exact (rr HO162)); (case aS => exact (below_size (bb HB))); (case aL => have := LMc2.out; omega); intro v164 w13 ho hb hg hat; rw [← Ny163.out] at ho; replace BK158 := dk (blk_grown (g := gb158) (o := .cells #[.slice A0_0 l0_0.length c0_0, .int .i64 a0_1, .int .i64 a0_2, .int .i64 a0_3, .slice A0_4 l0_4.length c0_4, .bool a0_5, .slice A0_6 l0_6.length c0_6, .slice A0_7 l0_7.length c0_7, .slice A0_8 l0_8.length c0_8] 36 (0, 0)) (bk BK158) hg (Kd.R_ne HO162.out BK158.out (by decide))); replace BK159 := dk (blk_grown (g := gb159) (o := .cells #[.slice none 0 0, .int .i64 0, .int .i64 0, .int .i64 0, .slice none 0 0, .bool false, .slice none 0 0, .slice none 0 0, .slice none 0 0] 36 (0, 0)) (bk BK159) hg (Kd.R_ne HO162.out BK159.out (by decide))); replace HB := dk (hb); have HO165 := dk (ho); clear HO162 ho hb hg hat; obtain ⟨Ao14, co14, eo14⟩ := Kd.R_slice HO165.out; subst eo14; have ⟨z15_0, z15_1, z15_2, z15_3, z15_4, z15_5, z15_6, z15_7, z15_8, v15_0, v15_1, v15_2, v15_3, v15_4, v15_5, v15_6, v15_7, v15_8⟩ := rz9 BK158) | ((with_reducible refine gate_dst (N := 8) rfl ?_); refine Kd.R_lit (Kd.int .i64) _ 3 ?hg (N := 8) ?hd (xs := ([] : List Int)) (inner := []) (ok := fun _ => True) (okp := fun _ => True) ?hr ?hp (fun _ hk => hk) trivial (Below.refl _ _) (Nat.le_refl _) (by simp) ?_; (case hd => rfl); (case hg => rfl); (case hr => first | (go_simp; done) | (go_simp; rfl)); (case hp => exact (Reps.none _ _)); intro v167 w16 ho17 hb hg_ hnew_; clear hg_ hnew_; (first | rw [← Ny166.out] at ho17 | (simp only [Int.reduceToNat] at ho17; rw [← Ny166.out] at ho17)); replace HO165 := kf HO165 BK158 hb; have HO168 := kl ho17 HB; replace BK158 := dk (blk_below (g := gb158) (o := .cells #[.slice Ao14 y163.length co14, .int .i64 a0_1, .int .i64 a0_2, .int .i64 a0_3, .slice A0_4 l0_4.length c0_4, .bool a0_5, .slice A0_6 l0_6.length c0_6, .slice A0_7 l0_7.length c0_7, .slice A0_8 l0_8.length c0_8] 36 (0, 0)) (bp BK158) hb); replace BK159 := dk (blk_below (bf NB159_158.out BK159) hb); replace HB := hs_ HB hb; clear hb ho17; have ⟨z18_0, z18_1, z18_2, z18_3, z18_4, z18_5, z18_6, z18_7, z18_8, v18_0, v18_1, v18_2, v18_3, v18_4, v18_5, v18_6, v18_7, v18_8⟩ := rz9 BK158) | ((with_reducible refine gate_builtin (b := .append) (xs := #[.tmp 8, .tmp 11]) rfl ?_); at_builtin; refine Kd.R_append_rows (Kd.int .i64) (w0 := w) w.heap.size rfl (.tmp 8) (.tmp 11) 23 3 (.int .i64 0) 8 rfl Try.underlying23 info3 rfl (by decide) (by omega) v167 y166 l0_4 _ _ _ (fun _ => True) (fun _ => False) rfl rfl ?aO ?aR (fun _ _ h => h) (fun _ h => h.elim) ?aF ?aB ?aS ?aL ?_; (case aR => exact cc HR0_4 HB); (case aB => exact (bb HB)); (case aF => exact (fun _ _ => trivial)); (case aO => exact (rr HO168)); (case aS => exact (below_size (bb HB))); (case aL => have := LMc3.out; omega); intro v170 w19 ho hb hg hat; rw [← Ny169.out] at ho; replace BK158 := dk (blk_grown (g := gb158) (o := .cells #[.slice Ao14 y163.length co14, .int .i64 a0_1, .int .i64 a0_2, .int .i64 a0_3, .slice A0_4 l0_4.length c0_4, .bool a0_5, .slice A0_6 l0_6.length c0_6, .slice A0_7 l0_7.length c0_7, .slice A0_8 l0_8.length c0_8] 36 (0, 0)) (bk BK158) hg (Kd.R_ne HO168.out BK158.out (by decide))); replace BK159 := dk (blk_grown (g := gb159) (o := .cells #[.slice none 0 0, .int .i64 0, .int .i64 0, .int .i64 0, .slice none 0 0, .bool false, .slice none 0 0, .slice none 0 0, .slice none 0 0] 36 (0, 0)) (bk BK159) hg (Kd.R_ne HO168.out BK159.out (by decide))); replace HO165 := dk (Kd.R_over' (rr HO165) (Kd.R_typed (rr HO168)) (by decide) hg); replace HB := dk (hb); have HO171 := dk (ho); clear HO168 ho hb hg hat; obtain ⟨Ao20, co20, eo20⟩ := Kd.R_slice HO171.out; subst eo20; have ⟨z21_0, z21_1, z21_2, z21_3, z21_4, z21_5, z21_6, z21_7, z21_8, v21_0, v21_1, v21_2, v21_3, v21_4, v21_5, v21_6, v21_7, v21_8⟩ := rz9 BK158) | ((with_reducible refine gate_dst (N := 15) rfl ?_); refine Kd.R_lit k95 _ 95 ?hg (N := 15) ?hd (xs := ([] : List (S95))) (inner := []) (ok := fun _ => True) (okp := fun _ => True) ?hr ?hp (fun _ hk => hk) trivial (Below.refl _ _) (Nat.le_refl _) (by simp) ?_; (case hd => rfl); (case hg => rfl); (case hr => first | (go_simp; done) | (go_simp; rfl)); (case hp => exact (Reps.none _ _)); intro v173 w22 ho23 hb hg_ hnew_; clear hg_ hnew_; (first | rw [← Ny172.out] at ho23 | (simp only [Int.reduceToNat] at ho23; rw [← Ny172.out] at ho23)); replace HO165 := kf HO165 BK158 hb; replace HO171 := kf HO171 BK158 hb; have HO174 := kl ho23 HB; replace BK158 := dk (blk_below (g := gb158) (o := .cells #[.slice Ao14 y163.length co14, .int .i64 a0_1, .int .i64 a0_2, .int .i64 a0_3, .slice Ao20 y169.length co20, .bool a0_5, .slice A0_6 l0_6.length c0_6, .slice A0_7 l0_7.length c0_7, .slice A0_8 l0_8.length c0_8] 36 (0, 0)) (bp BK158) hb); replace BK159 := dk (blk_below (bf NB159_158.out BK159) hb); replace HB := hs_ HB hb; clear hb ho23; have ⟨z24_0, z24_1, z24_2, z24_3, z24_4, z24_5, z24_6, z24_7, z24_8, v24_0, v24_1, v24_2, v24_3, v24_4, v24_5, v24_6, v24_7, v24_8⟩ := rz9 BK158) | ((with_reducible refine gate_builtin (b := .append) (xs := #[.tmp 15, .tmp 17]) rfl ?_); at_builtin; refine Kd.R_append_rows k95 (w0 := w) w.heap.size rfl (.tmp 15) (.tmp 17) 34 95 (.agg #[(.int .i64 0), (.int .i64 0), (.int .i64 0), (.int .i64 0), (.int .i64 0)]) 40 rfl Try.underlying34 info95 rfl (by decide) (by omega) v173 y172 l0_6 _ _ _ (fun _ => True) (fun _ => False) rfl rfl ?aO ?aR (fun _ _ h => h) (fun _ h => h.elim) ?aF ?aB ?aS ?aL ?_; (case aR => exact cc HR0_6 HB); (case aB => exact (bb HB)); (case aF => exact (fun _ _ => trivial)); (case aO => exact (rr HO174)); (case aS => exact (below_size (bb HB))); (case aL => have := LMc4.out; omega); intro v176 w25 ho hb hg hat; rw [← Ny175.out] at ho; replace BK158 := dk (blk_grown (g := gb158) (o := .cells #[.slice Ao14 y163.length co14, .int .i64 a0_1, .int .i64 a0_2, .int .i64 a0_3, .slice Ao20 y169.length co20, .bool a0_5, .slice A0_6 l0_6.length c0_6, .slice A0_7 l0_7.length c0_7, .slice A0_8 l0_8.length c0_8] 36 (0, 0)) (bk BK158) hg (Kd.R_ne HO174.out BK158.out (by decide))); replace BK159 := dk (blk_grown (g := gb159) (o := .cells #[.slice none 0 0, .int .i64 0, .int .i64 0, .int .i64 0, .slice none 0 0, .bool false, .slice none 0 0, .slice none 0 0, .slice none 0 0] 36 (0, 0)) (bk BK159) hg (Kd.R_ne HO174.out BK159.out (by decide))); replace HO165 := dk (Kd.R_over' (rr HO165) (Kd.R_typed (rr HO174)) (by decide) hg); replace HO171 := dk (Kd.R_over' (rr HO171) (Kd.R_typed (rr HO174)) (by decide) hg); replace HB := dk (hb); have HO177 := dk (ho); clear HO174 ho hb hg hat; obtain ⟨Ao26, co26, eo26⟩ := Kd.R_slice HO177.out; subst eo26; have ⟨z27_0, z27_1, z27_2, z27_3, z27_4, z27_5, z27_6, z27_7, z27_8, v27_0, v27_1, v27_2, v27_3, v27_4, v27_5, v27_6, v27_7, v27_8⟩ := rz9 BK158) | ((with_reducible refine gate_dst (N := 20) rfl ?_); refine Kd.R_lit (Kd.int .i64) _ 3 ?hg (N := 20) ?hd (xs := ([] : List Int)) (inner := []) (ok := fun _ => True) (okp := fun _ => True) ?hr ?hp (fun _ hk => hk) trivial (Below.refl _ _) (Nat.le_refl _) (by simp) ?_; (case hd => rfl); (case hg => rfl); (case hr => first | (go_simp; done) | (go_simp; rfl)); (case hp => exact (Reps.none _ _)); intro v179 w28 ho29 hb hg_ hnew_; clear hg_ hnew_; (first | rw [← Ny178.out] at ho29 | (simp only [Int.reduceToNat] at ho29; rw [← Ny178.out] at ho29)); replace HO165 := kf HO165 BK158 hb; replace HO177 := kf HO177 BK158 hb; have HO180 := dk (Kd.R_lower (Kd.R_new' ho29 (Kd.R_lt (rf HO171 BK158 (fun _ h_ => h_.1)))) (below_size (bb HB))); replace HO171 := dk (Kd.R_elder' (rf HO171 BK158 (fun _ h_ => h_.1)) (Kd.R_base ho29) hb); replace BK158 := dk (blk_below (g := gb158) (o := .cells #[.slice Ao14 y163.length co14, .int .i64 a0_1, .int .i64 a0_2, .int .i64 a0_3, .slice Ao20 y169.length co20, .bool a0_5, .slice Ao26 y175.length co26, .slice A0_7 l0_7.length c0_7, .slice A0_8 l0_8.length c0_8] 36 (0, 0)) (bp BK158) hb); replace BK159 := dk (blk_below (bf NB159_158.out BK159) hb); replace HB := hs_ HB hb; clear hb ho29; have ⟨z30_0, z30_1, z30_2, z30_3, z30_4, z30_5, z30_6, z30_7, z30_8, v30_0, v30_1, v30_2, v30_3, v30_4, v30_5, v30_6, v30_7, v30_8⟩ := rz9 BK158) | ((with_reducible refine gate_builtin (b := .append) (xs := #[.tmp 20, .tmp 22]) rfl ?_); at_builtin; refine Kd.R_append_rows (Kd.int .i64) (w0 := w) w.heap.size rfl (.tmp 20) (.tmp 22) 23 3 (.int .i64 0) 8 rfl Try.underlying23 info3 rfl (by decide) (by omega) v179 y178 l0_7 _ _ _ (fun k_ => nb k_ Ao20 y169.length co20) (fun _ => False) rfl rfl ?aO ?aR (fun _ _ h => h) (fun _ h => h.elim) ?aF ?aB ?aS ?aL ?_; (case aR => exact cc HR0_7 HB); (case aB => exact (bb HB)); (case aF => exact (fun k_ hk => Kd.fresh' (Kd.R_lt (rr HO171)) k_ hk)); (case aO => exact (ro HO180 (fun _ hk => hk.2))); (case aS => exact (below_size (bb HB))); (case aL => have := LMc5.out; omega); intro v182 w31 ho hb hg hat; rw [← Ny181.out] at ho; replace BK158 := dk (blk_grown (g := gb158) (o := .cells #[.slice Ao14 y163.length co14, .int .i64 a0_1, .int .i64 a0_2, .int .i64 a0_3, .slice Ao20 y169.length co20, .bool a0_5, .slice Ao26 y175.length co26, .slice A0_7 l0_7.length c0_7, .slice A0_8 l0_8.length c0_8] 36 (0, 0)) (bk BK158) hg (Kd.R_ne HO180.out BK158.out (by decide))); replace BK159 := dk (blk_grown (g := gb159) (o := .cells #[.slice none 0 0, .int .i64 0, .int .i64 0, .int .i64 0, .slice none 0 0, .bool false, .slice none 0 0, .slice none 0 0, .slice none 0 0] 36 (0, 0)) (bk BK159) hg (Kd.R_ne HO180.out BK159.out (by decide))); replace HO165 := dk (Kd.R_over' (rr HO165) (Kd.R_typed (rr HO180)) (by decide) hg); replace HO171 := dk (Kd.R_after (ok := (fun _ => True)) (rr HO171) hg hat); replace HO177 := dk (Kd.R_over' (rr HO177) (Kd.R_typed (rr HO180)) (by decide) hg); replace HB := dk (hb); have HO183 := dk (ho); clear HO180 ho hb hg hat; obtain ⟨Ao32, co32, eo32⟩ := Kd.R_slice HO183.out; subst eo32; have ⟨z33_0, z33_1, z33_2, z33_3, z33_4, z33_5, z33_6, z33_7, z33_8, v33_0, v33_1, v33_2, v33_3, v33_4, v33_5, v33_6, v33_7, v33_8⟩ := rz9 BK158) | ((with_reducible refine gate_dst (N := 25) rfl ?_); refine Kd.R_lit (Kd.int .i64) _ 3 ?hg (N := 25) ?hd (xs := ([] : List Int)) (inner := []) (ok := fun _ => True) (okp := fun _ => True) ?hr ?hp (fun _ hk => hk) trivial (Below.refl _ _) (Nat.le_refl _) (by simp) ?_; (case hd => rfl); (case hg => rfl); (case hr => first | (go_simp; done) | (go_simp; rfl)); (case hp => exact (Reps.none _ _)); intro v185 w34 ho35 hb hg_ hnew_; clear hg_ hnew_; (first | rw [← Ny184.out] at ho35 | (simp only [Int.reduceToNat] at ho35; rw [← Ny184.out] at ho35)); replace HO165 := kf HO165 BK158 hb; replace HO177 := kf HO177 BK158 hb; have HO186 := dk (Kd.R_lower (Kd.R_new' (Kd.R_new' ho35 (Kd.R_lt (rf HO171 BK158 (fun _ h_ => h_.1)))) (Kd.R_lt (rf HO183 BK158 (fun _ h_ => h_.1)))) (below_size (bb HB))); replace HO171 := dk (Kd.R_elder' (rf HO171 BK158 (fun _ h_ => h_.1)) (Kd.R_base ho35) hb); replace HO183 := dk (Kd.R_elder' (rf HO183 BK158 (fun _ h_ => h_.1)) (Kd.R_base ho35) hb); replace BK158 := dk (blk_below (g := gb158) (o := .cells #[.slice Ao14 y163.length co14, .int .i64 a0_1, .int .i64 a0_2, .int .i64 a0_3, .slice Ao20 y169.length co20, .bool a0_5, .slice Ao26 y175.length co26, .slice Ao32 y181.length co32, .slice A0_8 l0_8.length c0_8] 36 (0, 0)) (bp BK158) hb); replace BK159 := dk (blk_below (bf NB159_158.out BK159) hb); replace HB := hs_ HB hb; clear hb ho35; have ⟨z36_0, z36_1, z36_2, z36_3, z36_4, z36_5, z36_6, z36_7, z36_8, v36_0, v36_1, v36_2, v36_3, v36_4, v36_5, v36_6, v36_7, v36_8⟩ := rz9 BK158) | ((with_reducible refine gate_builtin (b := .append) (xs := #[.tmp 25, .tmp 27]) rfl ?_); at_builtin; refine Kd.R_append_rows (Kd.int .i64) (w0 := w) w.heap.size rfl (.tmp 25) (.tmp 27) 23 3 (.int .i64 0) 8 rfl Try.underlying23 info3 rfl (by decide) (by omega) v185 y184 l0_8 _ _ _ (fun k_ => nb k_ Ao20 y169.length co20 ∧ nb k_ Ao32 y181.length co32) (fun _ => False) rfl rfl ?aO ?aR (fun _ _ h => h) (fun _ h => h.elim) ?aF ?aB ?aS ?aL ?_; (case aR => exact cc HR0_8 HB); (case aB => exact (bb HB)); (case aF => exact (fun k_ hk => ⟨Kd.fresh' (Kd.R_lt (rr HO171)) k_ hk, Kd.fresh' (Kd.R_lt (rr HO183)) k_ hk⟩)); (case aO => exact (ro HO186 (fun _ hk => ⟨hk.1.2, hk.2⟩))); (case aS => exact (below_size (bb HB))); (case aL => have := LMc6.out; omega); intro v188 w37 ho hb hg hat; rw [← Ny187.out] at ho; replace BK158 := dk (blk_grown (g := gb158) (o := .cells #[.slice Ao14 y163.length co14, .int .i64 a0_1, .int .i64 a0_2, .int .i64 a0_3, .slice Ao20 y169.length co20, .bool a0_5, .slice Ao26 y175.length co26, .slice Ao32 y181.length co32, .slice A0_8 l0_8.length c0_8] 36 (0, 0)) (bk BK158) hg (Kd.R_ne HO186.out BK158.out (by decide))); replace BK159 := dk (blk_grown (g := gb159) (o := .cells #[.slice none 0 0, .int .i64 0, .int .i64 0, .int .i64 0, .slice none 0 0, .bool false, .slice none 0 0, .slice none 0 0, .slice none 0 0] 36 (0, 0)) (bk BK159) hg (Kd.R_ne HO186.out BK159.out (by decide))); replace HO165 := dk (Kd.R_over' (rr HO165) (Kd.R_typed (rr HO186)) (by decide) hg); replace HO171 := dk (Kd.R_after (ok := (fun k_ => nb k_ Ao32 y181.length co32)) (ro HO171 (fun _ hk => ⟨hk.1.2, hk.2⟩)) hg hat); replace HO177 := dk (Kd.R_over' (rr HO177) (Kd.R_typed (rr HO186)) (by decide) hg); replace HO183 := dk (Kd.R_after (ok := (fun k_ => nb k_ Ao20 y169.length co20)) (rr HO183) hg hat); replace HB := dk (hb); have HO189 := dk (ho); clear HO186 ho hb hg hat; obtain ⟨Ao38, co38, eo38⟩ := Kd.R_slice HO189.out; subst eo38; have ⟨z39_0, z39_1, z39_2, z39_3, z39_4, z39_5, z39_6, z39_7, z39_8, v39_0, v39_1, v39_2, v39_3, v39_4, v39_5, v39_6, v39_7, v39_8⟩ := rz9 BK158; have ⟨z40_0, z40_1, z40_2, z40_3, z40_4, z40_5, z40_6, z40_7, z40_8, v40_0, v40_1, v40_2, v40_3, v40_4, v40_5, v40_6, v40_7, v40_8⟩ := rz9 BK159))
      refine bodyPost_ret (results_cell_row rfl _ _ gb159 36 #[.slice Ao14 y163.length co14, .int .i64 a0_1, .int .i64 a0_2, .int .i64 a0_3, .slice Ao20 y169.length co20, .bool a0_5, .slice Ao26 y175.length co26, .slice Ao32 y181.length co32, .slice Ao38 y187.length co38] (0, 0) _ rfl (by (with_reducible repeat (first | refine blk_drewN ?_ _ | refine blk_drew ?_ | refine blk_alloc ?_ _)); refine blk_put (cs := #[.slice Ao14 y163.length co14, .int .i64 a0_1, .int .i64 a0_2, .int .i64 a0_3, .slice Ao20 y169.length co20, .bool a0_5, .slice Ao26 y175.length co26, .slice Ao32 y181.length co32, .slice none 0 0]) ?_ 8 _ rfl; (with_reducible repeat (first | refine blk_drewN ?_ _ | refine blk_drew ?_ | refine blk_alloc ?_ _)); refine blk_put (cs := #[.slice Ao14 y163.length co14, .int .i64 a0_1, .int .i64 a0_2, .int .i64 a0_3, .slice Ao20 y169.length co20, .bool a0_5, .slice Ao26 y175.length co26, .slice none 0 0, .slice none 0 0]) ?_ 7 _ rfl; (with_reducible repeat (first | refine blk_drewN ?_ _ | refine blk_drew ?_ | refine blk_alloc ?_ _)); refine blk_put (cs := #[.slice Ao14 y163.length co14, .int .i64 a0_1, .int .i64 a0_2, .int .i64 a0_3, .slice Ao20 y169.length co20, .bool a0_5, .slice none 0 0, .slice none 0 0, .slice none 0 0]) ?_ 6 _ rfl; (with_reducible repeat (first | refine blk_drewN ?_ _ | refine blk_drew ?_ | refine blk_alloc ?_ _)); refine blk_put (cs := #[.slice Ao14 y163.length co14, .int .i64 a0_1, .int .i64 a0_2, .int .i64 a0_3, .slice Ao20 y169.length co20, .bool false, .slice none 0 0, .slice none 0 0, .slice none 0 0]) ?_ 5 _ rfl; (with_reducible repeat (first | refine blk_drewN ?_ _ | refine blk_drew ?_ | refine blk_alloc ?_ _)); refine blk_put (cs := #[.slice Ao14 y163.length co14, .int .i64 a0_1, .int .i64 a0_2, .int .i64 a0_3, .slice none 0 0, .bool false, .slice none 0 0, .slice none 0 0, .slice none 0 0]) ?_ 4 _ rfl; (with_reducible repeat (first | refine blk_drewN ?_ _ | refine blk_drew ?_ | refine blk_alloc ?_ _)); refine blk_put (cs := #[.slice Ao14 y163.length co14, .int .i64 a0_1, .int .i64 a0_2, .int .i64 0, .slice none 0 0, .bool false, .slice none 0 0, .slice none 0 0, .slice none 0 0]) ?_ 3 _ rfl; (with_reducible repeat (first | refine blk_drewN ?_ _ | refine blk_drew ?_ | refine blk_alloc ?_ _)); refine blk_put (cs := #[.slice Ao14 y163.length co14, .int .i64 a0_1, .int .i64 0, .int .i64 0, .slice none 0 0, .bool false, .slice none 0 0, .slice none 0 0, .slice none 0 0]) ?_ 2 _ rfl; (with_reducible repeat (first | refine blk_drewN ?_ _ | refine blk_drew ?_ | refine blk_alloc ?_ _)); refine blk_put (cs := #[.slice Ao14 y163.length co14, .int .i64 0, .int .i64 0, .int .i64 0, .slice none 0 0, .bool false, .slice none 0 0, .slice none 0 0, .slice none 0 0]) ?_ 1 _ rfl; (with_reducible repeat (first | refine blk_drewN ?_ _ | refine blk_drew ?_ | refine blk_alloc ?_ _)); refine blk_put (cs := #[.slice none 0 0, .int .i64 0, .int .i64 0, .int .i64 0, .slice none 0 0, .bool false, .slice none 0 0, .slice none 0 0, .slice none 0 0]) ?_ 0 _ rfl; exact bf NB159_158.out BK159) Try.underlying36 rfl (by kernel_rfl)) rfl ?_
      exact ⟨_, _, _, _, _, ee, by (with_reducible repeat (first | apply Kd.R_alloc | apply Kd.R_drewN | apply Kd.R_drew)); exact Kd.R_mono (Kd.R_far (p := ⟨gb159, 8, none⟩) (Kd.R_far (p := ⟨gb159, 7, none⟩) (Kd.R_far (p := ⟨gb159, 6, none⟩) (Kd.R_far (p := ⟨gb159, 5, none⟩) (Kd.R_far (p := ⟨gb159, 4, none⟩) (Kd.R_far (p := ⟨gb159, 3, none⟩) (Kd.R_far (p := ⟨gb159, 2, none⟩) (Kd.R_far (p := ⟨gb159, 1, none⟩) (Kd.R_far (p := ⟨gb159, 0, none⟩) (Kd.R_far (p := ⟨gb158, 8, none⟩) (Kd.R_types (Kd.R_types HO165.out BK158.out (by decide)) BK159.out (by decide)) (fun _ hk => hk.1.2) (.slice Ao38 y187.length co38)) (fun _ hk => hk.2) (.slice Ao14 y163.length co14)) (fun _ hk => hk.2) (.int .i64 a0_1)) (fun _ hk => hk.2) (.int .i64 a0_2)) (fun _ hk => hk.2) (.int .i64 a0_3)) (fun _ hk => hk.2) (.slice Ao20 y169.length co20)) (fun _ hk => hk.2) (.bool a0_5)) (fun _ hk => hk.2) (.slice Ao26 y175.length co26)) (fun _ hk => hk.2) (.slice Ao32 y181.length co32)) (fun _ hk => hk.2) (.slice Ao38 y187.length co38)) (fun _ hk => trivial), by (with_reducible repeat (first | apply Kd.R_alloc | apply Kd.R_drewN | apply Kd.R_drew)); exact Kd.R_mono (Kd.R_far (p := ⟨gb159, 8, none⟩) (Kd.R_far (p := ⟨gb159, 7, none⟩) (Kd.R_far (p := ⟨gb159, 6, none⟩) (Kd.R_far (p := ⟨gb159, 5, none⟩) (Kd.R_far (p := ⟨gb159, 4, none⟩) (Kd.R_far (p := ⟨gb159, 3, none⟩) (Kd.R_far (p := ⟨gb159, 2, none⟩) (Kd.R_far (p := ⟨gb159, 1, none⟩) (Kd.R_far (p := ⟨gb159, 0, none⟩) (Kd.R_far (p := ⟨gb158, 8, none⟩) (Kd.R_types (Kd.R_types HO171.out BK158.out (by decide)) BK159.out (by decide)) (fun _ hk => hk.1.2) (.slice Ao38 y187.length co38)) (fun _ hk => hk.2) (.slice Ao14 y163.length co14)) (fun _ hk => hk.2) (.int .i64 a0_1)) (fun _ hk => hk.2) (.int .i64 a0_2)) (fun _ hk => hk.2) (.int .i64 a0_3)) (fun _ hk => hk.2) (.slice Ao20 y169.length co20)) (fun _ hk => hk.2) (.bool a0_5)) (fun _ hk => hk.2) (.slice Ao26 y175.length co26)) (fun _ hk => hk.2) (.slice Ao32 y181.length co32)) (fun _ hk => hk.2) (.slice Ao38 y187.length co38)) (fun _ hk => ⟨hk.1.1.1, hk.1.1.2⟩), by (with_reducible repeat (first | apply Kd.R_alloc | apply Kd.R_drewN | apply Kd.R_drew)); exact Kd.R_mono (Kd.R_far (p := ⟨gb159, 8, none⟩) (Kd.R_far (p := ⟨gb159, 7, none⟩) (Kd.R_far (p := ⟨gb159, 6, none⟩) (Kd.R_far (p := ⟨gb159, 5, none⟩) (Kd.R_far (p := ⟨gb159, 4, none⟩) (Kd.R_far (p := ⟨gb159, 3, none⟩) (Kd.R_far (p := ⟨gb159, 2, none⟩) (Kd.R_far (p := ⟨gb159, 1, none⟩) (Kd.R_far (p := ⟨gb159, 0, none⟩) (Kd.R_far (p := ⟨gb158, 8, none⟩) (Kd.R_types (Kd.R_types HO177.out BK158.out (by decide)) BK159.out (by decide)) (fun _ hk => hk.1.2) (.slice Ao38 y187.length co38)) (fun _ hk => hk.2) (.slice Ao14 y163.length co14)) (fun _ hk => hk.2) (.int .i64 a0_1)) (fun _ hk => hk.2) (.int .i64 a0_2)) (fun _ hk => hk.2) (.int .i64 a0_3)) (fun _ hk => hk.2) (.slice Ao20 y169.length co20)) (fun _ hk => hk.2) (.bool a0_5)) (fun _ hk => hk.2) (.slice Ao26 y175.length co26)) (fun _ hk => hk.2) (.slice Ao32 y181.length co32)) (fun _ hk => hk.2) (.slice Ao38 y187.length co38)) (fun _ hk => trivial), by (with_reducible repeat (first | apply Kd.R_alloc | apply Kd.R_drewN | apply Kd.R_drew)); exact Kd.R_mono (Kd.R_far (p := ⟨gb159, 8, none⟩) (Kd.R_far (p := ⟨gb159, 7, none⟩) (Kd.R_far (p := ⟨gb159, 6, none⟩) (Kd.R_far (p := ⟨gb159, 5, none⟩) (Kd.R_far (p := ⟨gb159, 4, none⟩) (Kd.R_far (p := ⟨gb159, 3, none⟩) (Kd.R_far (p := ⟨gb159, 2, none⟩) (Kd.R_far (p := ⟨gb159, 1, none⟩) (Kd.R_far (p := ⟨gb159, 0, none⟩) (Kd.R_far (p := ⟨gb158, 8, none⟩) (Kd.R_types (Kd.R_types HO183.out BK158.out (by decide)) BK159.out (by decide)) (fun _ hk => hk.1.2) (.slice Ao38 y187.length co38)) (fun _ hk => hk.2) (.slice Ao14 y163.length co14)) (fun _ hk => hk.2) (.int .i64 a0_1)) (fun _ hk => hk.2) (.int .i64 a0_2)) (fun _ hk => hk.2) (.int .i64 a0_3)) (fun _ hk => hk.2) (.slice Ao20 y169.length co20)) (fun _ hk => hk.2) (.bool a0_5)) (fun _ hk => hk.2) (.slice Ao26 y175.length co26)) (fun _ hk => hk.2) (.slice Ao32 y181.length co32)) (fun _ hk => hk.2) (.slice Ao38 y187.length co38)) (fun _ hk => ⟨hk.1.1.1, hk.1.1.2⟩), by (with_reducible repeat (first | apply Kd.R_alloc | apply Kd.R_drewN | apply Kd.R_drew)); exact Kd.R_mono (Kd.R_far (p := ⟨gb159, 8, none⟩) (Kd.R_far (p := ⟨gb159, 7, none⟩) (Kd.R_far (p := ⟨gb159, 6, none⟩) (Kd.R_far (p := ⟨gb159, 5, none⟩) (Kd.R_far (p := ⟨gb159, 4, none⟩) (Kd.R_far (p := ⟨gb159, 3, none⟩) (Kd.R_far (p := ⟨gb159, 2, none⟩) (Kd.R_far (p := ⟨gb159, 1, none⟩) (Kd.R_far (p := ⟨gb159, 0, none⟩) (Kd.R_far (p := ⟨gb158, 8, none⟩) (Kd.R_types (Kd.R_types HO189.out BK158.out (by decide)) BK159.out (by decide)) (fun _ hk => hk.1.2) (.slice Ao38 y187.length co38)) (fun _ hk => hk.2) (.slice Ao14 y163.length co14)) (fun _ hk => hk.2) (.int .i64 a0_1)) (fun _ hk => hk.2) (.int .i64 a0_2)) (fun _ hk => hk.2) (.int .i64 a0_3)) (fun _ hk => hk.2) (.slice Ao20 y169.length co20)) (fun _ hk => hk.2) (.bool a0_5)) (fun _ hk => hk.2) (.slice Ao26 y175.length co26)) (fun _ hk => hk.2) (.slice Ao32 y181.length co32)) (fun _ hk => hk.2) (.slice Ao38 y187.length co38)) (fun _ hk => ⟨hk.1.1.1, hk.1.1.2⟩), bb HB⟩
     ·rw [if_neg c6] at H
      exact absurd H (by simp)
    ·rw [if_neg c5] at H
     exact absurd H (by simp)
   ·rw [if_neg c4] at H
    exact absurd H (by simp)
  ·rw [if_neg c3] at H
   exact absurd H (by simp)
 ·rw [if_neg c2] at H
  exact absurd H (by simp)
def spec_ProtestOk.f (k : Nat) (l0_0 : List (S139)) (a0_1 : Int) (a0_2 : Int) (a0_3 : Int) (l0_4 : List Int) (a0_5 : Bool) (l0_6 : List (S95)) (l0_7 : List Int) (l0_8 : List Int) (a1_0 : Int) (a1_1 : Int) (a1_2 : Bool) : Option (Bool) := (spec_BookOk.f k l0_0 a0_1 a0_2 a0_3 l0_4 a0_5 l0_6 l0_7 l0_8).bind fun t192 => (if t192 = true then ((spec_l01In.f a1_1 0 (wrap64 ((l0_6.length : Int) - 1))).bind fun t193 => (if t193 = true then (if 0 ≤ a1_1 then (if a1_1 < (l0_6.length : Int) then (if ((rd_T95 l0_6 a1_1).f4) = 1 then (if ((rd_T95 l0_6 a1_1).f0) = a1_0 then (some true) else (some (((rd_T95 l0_6 a1_1).f1) == a1_0))) else (if ((rd_T95 l0_6 a1_1).f4) = 2 then (if ((rd_T95 l0_6 a1_1).f0) = a1_0 then (some true) else (some (((rd_T95 l0_6 a1_1).f1) == a1_0))) else (if ((rd_T95 l0_6 a1_1).f4) = 3 then (if ((rd_T95 l0_6 a1_1).f0) = a1_0 then (some true) else (some (((rd_T95 l0_6 a1_1).f1) == a1_0))) else (some false)))) else (none)) else (none)) else (some false))) else (some false))
theorem spec_ProtestOk.calls (k : Nat) (A0_0 : Option Addr) (c0_0 : Nat) (l0_0 : List (S139)) (a0_1 : Int) (a0_2 : Int) (a0_3 : Int) (A0_4 : Option Addr) (c0_4 : Nat) (l0_4 : List Int) (a0_5 : Bool) (A0_6 : Option Addr) (c0_6 : Nat) (l0_6 : List (S95)) (A0_7 : Option Addr) (c0_7 : Nat) (l0_7 : List Int) (A0_8 : Option Addr) (c0_8 : Nat) (l0_8 : List Int) (a1_0 : Int) (a1_1 : Int) (a1_2 : Bool) (r : Bool) (w : World) (hr0_0 : Kd.C k139 w A0_0 l0_0.length l0_0) (hc0_0 : l0_0.length ≤ c0_0) (hr0_4 : Kd.C (Kd.int .i64) w A0_4 l0_4.length l0_4) (hc0_4 : l0_4.length ≤ c0_4) (hr0_6 : Kd.C k95 w A0_6 l0_6.length l0_6) (hc0_6 : l0_6.length ≤ c0_6) (hr0_7 : Kd.C (Kd.int .i64) w A0_7 l0_7.length l0_7) (hc0_7 : l0_7.length ≤ c0_7) (hr0_8 : Kd.C (Kd.int .i64) w A0_8 l0_8.length l0_8) (hc0_8 : l0_8.length ≤ c0_8) (h : spec_ProtestOk.f k l0_0 a0_1 a0_2 a0_3 l0_4 a0_5 l0_6 l0_7 l0_8 a1_0 a1_1 a1_2 = some r) :
  Calls Try.prog 57 #[.agg #[.slice A0_0 l0_0.length c0_0, .int .i64 a0_1, .int .i64 a0_2, .int .i64 a0_3, .slice A0_4 l0_4.length c0_4, .bool a0_5, .slice A0_6 l0_6.length c0_6, .slice A0_7 l0_7.length c0_7, .slice A0_8 l0_8.length c0_8], .agg #[.int .i64 a1_0, .int .i64 a1_1, .bool a1_2]] w fun e w' => e = .returned (.bool r) ∧ Below w.heap.size w w' := by
 have hu36 := Try.underlying36
 have hu50 := Try.underlying50
 have hu95 := Try.underlying95
 have HR0_0 := dk hr0_0
 have HC0_0 := dk hc0_0
 clear hr0_0 hc0_0
 have HR0_4 := dk hr0_4
 have HC0_4 := dk hc0_4
 clear hr0_4 hc0_4
 have HR0_6 := dk hr0_6
 have HC0_6 := dk hc0_6
 clear hr0_6 hc0_6
 have HR0_7 := dk hr0_7
 have HC0_7 := dk hc0_7
 clear hr0_7 hc0_7
 have HR0_8 := dk hr0_8
 have HC0_8 := dk hc0_8
 clear hr0_8 hc0_8
 have HB := dk (Below.refl w.heap.size w)
 have H : ((spec_BookOk.f k l0_0 a0_1 a0_2 a0_3 l0_4 a0_5 l0_6 l0_7 l0_8).bind fun t192 => (if t192 = true then ((spec_l01In.f a1_1 0 (wrap64 ((l0_6.length : Int) - 1))).bind fun t193 => (if t193 = true then (if 0 ≤ a1_1 then (if a1_1 < (l0_6.length : Int) then (if ((rd_T95 l0_6 a1_1).f4) = 1 then (if ((rd_T95 l0_6 a1_1).f0) = a1_0 then (some true) else (some (((rd_T95 l0_6 a1_1).f1) == a1_0))) else (if ((rd_T95 l0_6 a1_1).f4) = 2 then (if ((rd_T95 l0_6 a1_1).f0) = a1_0 then (some true) else (some (((rd_T95 l0_6 a1_1).f1) == a1_0))) else (if ((rd_T95 l0_6 a1_1).f4) = 3 then (if ((rd_T95 l0_6 a1_1).f0) = a1_0 then (some true) else (some (((rd_T95 l0_6 a1_1).f1) == a1_0))) else (some false)))) else (none)) else (none)) else (some false))) else (some false))) = some r := h
 clear h
 replace H := Option.bind_eq_some_iff.mp H
 obtain ⟨t192, A30, H⟩ := H
 try dsimp only at H
 have A3 := dk A30
 clear A30
 by_cases c4 : t192 = true
 ·subst c4
  rw [if_pos rfl] at H
  replace H := Option.bind_eq_some_iff.mp H
  obtain ⟨t193, A50, H⟩ := H
  try dsimp only at H
  have A5 := dk A50
  clear A50
  by_cases c6 : t193 = true
  ·subst c6
   rw [if_pos rfl] at H
   by_cases c7 : 0 ≤ a1_1
   ·rw [if_pos c7] at H
    have c7b0 : decide (0 ≤ a1_1) = true := decide_eq_true c7
    clear c7
    by_cases c8 : a1_1 < (l0_6.length : Int)
    ·rw [if_pos c8] at H
     have c8b0 : decide (a1_1 < (l0_6.length : Int)) = true := decide_eq_true c8
     clear c8
     by_cases c9 : ((rd_T95 l0_6 a1_1).f4) = 1
     ·rw [if_pos c9] at H
      have c9b0 : (((rd_T95 l0_6 a1_1).f4) == 1) = true := beq_iff_eq.mpr c9
      have c9b1 : (((rd_T95 l0_6 a1_1).f4) != 1) = false := bne_eq_false_iff_eq.mpr c9
      clear c9
      by_cases c10 : ((rd_T95 l0_6 a1_1).f0) = a1_0
      ·rw [if_pos c10] at H
       have c10b0 : (((rd_T95 l0_6 a1_1).f0) == a1_0) = true := beq_iff_eq.mpr c10
       have c10b1 : (((rd_T95 l0_6 a1_1).f0) != a1_0) = false := bne_eq_false_iff_eq.mpr c10
       clear c10
       obtain rfl := Option.some.inj H
       go_enter Try.func57, Try.ntmps57
       go_wp2_with (first | ((with_reducible refine gate_dst (N := 2) rfl ?_); (try (refine gate_guard (by rfl) ?_; dsimp only)); refine bx (N := 2) (cs := #[.slice A0_0 l0_0.length c0_0, .int .i64 a0_1, .int .i64 a0_2, .int .i64 a0_3, .slice A0_4 l0_4.length c0_4, .bool a0_5, .slice A0_6 l0_6.length c0_6, .slice A0_7 l0_7.length c0_7, .slice A0_8 l0_8.length c0_8]) (t := 36) ?_; intro gb190 hg w11 hbox hb; have BK190 := dk (hbox); have GW190 := gs hg HB; have GE190 := gs hg HB; replace HB := hs_ HB hb; clear hb hbox hg) | ((with_reducible refine gate_dst (N := 3) rfl ?_); (try (refine gate_guard (by rfl) ?_; dsimp only)); refine bx (N := 3) (cs := #[.int .i64 a1_0, .int .i64 a1_1, .bool a1_2]) (t := 50) ?_; intro gb191 hg w12 hbox hb; have BK191 := dk (hbox); have GW191 := gs hg HB; have GE191 := gs hg HB; replace HB := hs_ HB hb; have NB190_191 := gn hg BK190; have NB191_190 := gm hg BK190; replace BK190 := kb BK190 hb; clear hb hbox hg; have hnb13 := NB190_191.out; have hnc13 := NB191_190.out; have ⟨z14_0, z14_1, z14_2, z14_3, z14_4, z14_5, z14_6, z14_7, z14_8, v14_0, v14_1, v14_2, v14_3, v14_4, v14_5, v14_6, v14_7, v14_8⟩ := rz9 BK190) | ((with_reducible refine gate_callee (f := 55) rfl ?_); refine gl (some 7) Try.func55 #[.agg #[.slice A0_0 l0_0.length c0_0, .int .i64 a0_1, .int .i64 a0_2, .int .i64 a0_3, .slice A0_4 l0_4.length c0_4, .bool a0_5, .slice A0_6 l0_6.length c0_6, .slice A0_7 l0_7.length c0_7, .slice A0_8 l0_8.length c0_8]] ?_; (with_reducible refine (spec_BookOk.calls k _ _ l0_0 a0_1 a0_2 a0_3 _ _ l0_4 a0_5 _ _ l0_6 _ _ l0_7 _ _ l0_8 true _ ?side1 ?side2 ?side3 ?side4 ?side5 ?side6 ?side7 ?side8 ?side9 ?side10 A3.out).mono ?_); (case side1 => exact cc HR0_0 HB); (case side2 => exact HC0_0.out); (case side3 => exact cc HR0_4 HB); (case side4 => exact HC0_4.out); (case side5 => exact cc HR0_6 HB); (case side6 => exact HC0_6.out); (case side7 => exact cc HR0_7 HB); (case side8 => exact HC0_7.out); (case side9 => exact cc HR0_8 HB); (case side10 => exact HC0_8.out); rintro e w15 ⟨rfl, hb⟩; refine ⟨_, rfl, ?_⟩; replace BK190 := kb BK190 hb; replace BK191 := kb BK191 hb; replace HB := hs_ HB hb; (try clear hb hb2 hk hi); have ⟨z16_0, z16_1, z16_2, v16_0, v16_1, v16_2⟩ := rz3 BK191; have ⟨z17_0, z17_1, z17_2, z17_3, z17_4, z17_5, z17_6, z17_7, z17_8, v17_0, v17_1, v17_2, v17_3, v17_4, v17_5, v17_6, v17_7, v17_8⟩ := rz9 BK190) | (go_at_call 76; (with_reducible refine (spec_l01In.calls a1_1 0 (wrap64 ((l0_6.length : Int) - 1)) true _ A5.out).mono ?_); rintro e w' ⟨rfl, ⟨nd, rfl⟩⟩; (try (rw [drewN_self w15]; generalize hq_ : World.drewN w15 _ = w15; have n0_ : Aside0 (w15.heap[gb190]? = some (.cells #[.slice A0_0 l0_0.length c0_0, .int .i64 a0_1, .int .i64 a0_2, .int .i64 a0_3, .slice A0_4 l0_4.length c0_4, .bool a0_5, .slice A0_6 l0_6.length c0_6, .slice A0_7 l0_7.length c0_7, .slice A0_8 l0_8.length c0_8] 36 (0, 0))) := ⟨by rw [← hq_]; exact (bk BK190)⟩; have n1_ : Aside0 (w15.heap[gb191]? = some (.cells #[.int .i64 a1_0, .int .i64 a1_1, .bool a1_2] 50 (0, 0))) := ⟨by rw [← hq_]; exact (bk BK191)⟩; have n2_ : Aside0 (Below w.heap.size w w15) := ⟨by rw [← hq_]; exact (bb HB)⟩; clear BK190 BK191 HB hq_; have BK190 := n0_; have BK191 := n1_; have HB := n2_; clear n0_ n1_ n2_)); have ⟨z18_0, z18_1, z18_2, z18_3, z18_4, z18_5, z18_6, z18_7, z18_8, v18_0, v18_1, v18_2, v18_3, v18_4, v18_5, v18_6, v18_7, v18_8⟩ := rz9 BK190; have ⟨z19_0, z19_1, z19_2, v19_0, v19_1, v19_2⟩ := rz3 BK191; have p194 : 0 ≤ (a1_1 : Int) := oa; have q194 : a1_1 < (l0_6.length : Int) := oa; obtain ⟨ad194, e194, hx194_0, hx194_1, hx194_2, hx194_3, hx194_4⟩ := at_T95 HR0_6.out a1_1 p194 q194; cases e194; replace hx194_0 := hc HB hx194_0; replace hx194_1 := hc HB hx194_1; replace hx194_2 := hc HB hx194_2; replace hx194_3 := hc HB hx194_3; replace hx194_4 := hc HB hx194_4; replace p194 := eq_true p194; replace q194 := eq_true q194) | ((with_reducible refine gate_dst (N := 5) rfl ?_); (try (refine gate_guard (by rfl) ?_; dsimp only)); refine bx (N := 5) (cs := #[.int .i64 0, .int .i64 0, .int .i64 0, .int .i64 0, .int .i64 0]) (t := 95) ?_; intro gb195 hg w20 hbox hb; have BK195 := dk (hbox); have GW195 := gs hg HB; have GE195 := gs hg HB; replace HB := hs_ HB hb; have NB190_195 := gn hg BK190; have NB195_190 := gm hg BK190; replace BK190 := kb BK190 hb; have NB191_195 := gn hg BK191; have NB195_191 := gm hg BK191; replace BK191 := kb BK191 hb; clear hb hbox hg; have hnb21 := NB195_190.out; have hnc21 := NB190_195.out; have hnb22 := NB195_191.out; have hnc22 := NB191_195.out; have ⟨z23_0, z23_1, z23_2, z23_3, z23_4, v23_0, v23_1, v23_2, v23_3, v23_4⟩ := rz5 BK195; have ⟨z24_0, z24_1, z24_2, v24_0, v24_1, v24_2⟩ := rz3 BK191))
       go_ret
       exact ⟨ee, bb HB⟩
      ·rw [if_neg c10] at H
       have c10b0 : (((rd_T95 l0_6 a1_1).f0) == a1_0) = false := beq_eq_false_iff_ne.mpr c10
       have c10b1 : (((rd_T95 l0_6 a1_1).f0) != a1_0) = true := bne_iff_ne.mpr c10
       obtain rfl := Option.some.inj H
       go_enter Try.func57, Try.ntmps57
       go_wp2_with (first | ((with_reducible refine gate_dst (N := 2) rfl ?_); (try (refine gate_guard (by rfl) ?_; dsimp only)); refine bx (N := 2) (cs := #[.slice A0_0 l0_0.length c0_0, .int .i64 a0_1, .int .i64 a0_2, .int .i64 a0_3, .slice A0_4 l0_4.length c0_4, .bool a0_5, .slice A0_6 l0_6.length c0_6, .slice A0_7 l0_7.length c0_7, .slice A0_8 l0_8.length c0_8]) (t := 36) ?_; intro gb190 hg w25 hbox hb; have BK190 := dk (hbox); have GW190 := gs hg HB; have GE190 := gs hg HB; replace HB := hs_ HB hb; clear hb hbox hg) | ((with_reducible refine gate_dst (N := 3) rfl ?_); (try (refine gate_guard (by rfl) ?_; dsimp only)); refine bx (N := 3) (cs := #[.int .i64 a1_0, .int .i64 a1_1, .bool a1_2]) (t := 50) ?_; intro gb191 hg w26 hbox hb; have BK191 := dk (hbox); have GW191 := gs hg HB; have GE191 := gs hg HB; replace HB := hs_ HB hb; have NB190_191 := gn hg BK190; have NB191_190 := gm hg BK190; replace BK190 := kb BK190 hb; clear hb hbox hg; have hnb27 := NB190_191.out; have hnc27 := NB191_190.out; have ⟨z28_0, z28_1, z28_2, z28_3, z28_4, z28_5, z28_6, z28_7, z28_8, v28_0, v28_1, v28_2, v28_3, v28_4, v28_5, v28_6, v28_7, v28_8⟩ := rz9 BK190) | ((with_reducible refine gate_callee (f := 55) rfl ?_); refine gl (some 7) Try.func55 #[.agg #[.slice A0_0 l0_0.length c0_0, .int .i64 a0_1, .int .i64 a0_2, .int .i64 a0_3, .slice A0_4 l0_4.length c0_4, .bool a0_5, .slice A0_6 l0_6.length c0_6, .slice A0_7 l0_7.length c0_7, .slice A0_8 l0_8.length c0_8]] ?_; (with_reducible refine (spec_BookOk.calls k _ _ l0_0 a0_1 a0_2 a0_3 _ _ l0_4 a0_5 _ _ l0_6 _ _ l0_7 _ _ l0_8 true _ ?side1 ?side2 ?side3 ?side4 ?side5 ?side6 ?side7 ?side8 ?side9 ?side10 A3.out).mono ?_); (case side1 => exact cc HR0_0 HB); (case side2 => exact HC0_0.out); (case side3 => exact cc HR0_4 HB); (case side4 => exact HC0_4.out); (case side5 => exact cc HR0_6 HB); (case side6 => exact HC0_6.out); (case side7 => exact cc HR0_7 HB); (case side8 => exact HC0_7.out); (case side9 => exact cc HR0_8 HB); (case side10 => exact HC0_8.out); rintro e w29 ⟨rfl, hb⟩; refine ⟨_, rfl, ?_⟩; replace BK190 := kb BK190 hb; replace BK191 := kb BK191 hb; replace HB := hs_ HB hb; (try clear hb hb2 hk hi); have ⟨z30_0, z30_1, z30_2, v30_0, v30_1, v30_2⟩ := rz3 BK191; have ⟨z31_0, z31_1, z31_2, z31_3, z31_4, z31_5, z31_6, z31_7, z31_8, v31_0, v31_1, v31_2, v31_3, v31_4, v31_5, v31_6, v31_7, v31_8⟩ := rz9 BK190) | (go_at_call 76; (with_reducible refine (spec_l01In.calls a1_1 0 (wrap64 ((l0_6.length : Int) - 1)) true _ A5.out).mono ?_); rintro e w' ⟨rfl, ⟨nd, rfl⟩⟩; (try (rw [drewN_self w29]; generalize hq_ : World.drewN w29 _ = w29; have n0_ : Aside0 (w29.heap[gb190]? = some (.cells #[.slice A0_0 l0_0.length c0_0, .int .i64 a0_1, .int .i64 a0_2, .int .i64 a0_3, .slice A0_4 l0_4.length c0_4, .bool a0_5, .slice A0_6 l0_6.length c0_6, .slice A0_7 l0_7.length c0_7, .slice A0_8 l0_8.length c0_8] 36 (0, 0))) := ⟨by rw [← hq_]; exact (bk BK190)⟩; have n1_ : Aside0 (w29.heap[gb191]? = some (.cells #[.int .i64 a1_0, .int .i64 a1_1, .bool a1_2] 50 (0, 0))) := ⟨by rw [← hq_]; exact (bk BK191)⟩; have n2_ : Aside0 (Below w.heap.size w w29) := ⟨by rw [← hq_]; exact (bb HB)⟩; clear BK190 BK191 HB hq_; have BK190 := n0_; have BK191 := n1_; have HB := n2_; clear n0_ n1_ n2_)); have ⟨z32_0, z32_1, z32_2, z32_3, z32_4, z32_5, z32_6, z32_7, z32_8, v32_0, v32_1, v32_2, v32_3, v32_4, v32_5, v32_6, v32_7, v32_8⟩ := rz9 BK190; have ⟨z33_0, z33_1, z33_2, v33_0, v33_1, v33_2⟩ := rz3 BK191; have p194 : 0 ≤ (a1_1 : Int) := oa; have q194 : a1_1 < (l0_6.length : Int) := oa; obtain ⟨ad194, e194, hx194_0, hx194_1, hx194_2, hx194_3, hx194_4⟩ := at_T95 HR0_6.out a1_1 p194 q194; cases e194; replace hx194_0 := hc HB hx194_0; replace hx194_1 := hc HB hx194_1; replace hx194_2 := hc HB hx194_2; replace hx194_3 := hc HB hx194_3; replace hx194_4 := hc HB hx194_4; replace p194 := eq_true p194; replace q194 := eq_true q194) | ((with_reducible refine gate_dst (N := 5) rfl ?_); (try (refine gate_guard (by rfl) ?_; dsimp only)); refine bx (N := 5) (cs := #[.int .i64 0, .int .i64 0, .int .i64 0, .int .i64 0, .int .i64 0]) (t := 95) ?_; intro gb195 hg w34 hbox hb; have BK195 := dk (hbox); have GW195 := gs hg HB; have GE195 := gs hg HB; replace HB := hs_ HB hb; have NB190_195 := gn hg BK190; have NB195_190 := gm hg BK190; replace BK190 := kb BK190 hb; have NB191_195 := gn hg BK191; have NB195_191 := gm hg BK191; replace BK191 := kb BK191 hb; clear hb hbox hg; have hnb35 := NB195_190.out; have hnc35 := NB190_195.out; have hnb36 := NB195_191.out; have hnc36 := NB191_195.out; have ⟨z37_0, z37_1, z37_2, z37_3, z37_4, v37_0, v37_1, v37_2, v37_3, v37_4⟩ := rz5 BK195; have ⟨z38_0, z38_1, z38_2, v38_0, v38_1, v38_2⟩ := rz3 BK191))
       go_ret
       exact ⟨ee, bb HB⟩
     ·rw [if_neg c9] at H
      have c9b0 : (((rd_T95 l0_6 a1_1).f4) == 1) = false := beq_eq_false_iff_ne.mpr c9
      have c9b1 : (((rd_T95 l0_6 a1_1).f4) != 1) = true := bne_iff_ne.mpr c9
      by_cases c39 : ((rd_T95 l0_6 a1_1).f4) = 2
      ·rw [if_pos c39] at H
       have c39b0 : (((rd_T95 l0_6 a1_1).f4) == 2) = true := beq_iff_eq.mpr c39
       have c39b1 : (((rd_T95 l0_6 a1_1).f4) != 2) = false := bne_eq_false_iff_eq.mpr c39
       clear c39
       by_cases c40 : ((rd_T95 l0_6 a1_1).f0) = a1_0
       ·rw [if_pos c40] at H
        have c40b0 : (((rd_T95 l0_6 a1_1).f0) == a1_0) = true := beq_iff_eq.mpr c40
        have c40b1 : (((rd_T95 l0_6 a1_1).f0) != a1_0) = false := bne_eq_false_iff_eq.mpr c40
        clear c40
        obtain rfl := Option.some.inj H
        go_enter Try.func57, Try.ntmps57
        go_wp2_with (first | ((with_reducible refine gate_dst (N := 2) rfl ?_); (try (refine gate_guard (by rfl) ?_; dsimp only)); refine bx (N := 2) (cs := #[.slice A0_0 l0_0.length c0_0, .int .i64 a0_1, .int .i64 a0_2, .int .i64 a0_3, .slice A0_4 l0_4.length c0_4, .bool a0_5, .slice A0_6 l0_6.length c0_6, .slice A0_7 l0_7.length c0_7, .slice A0_8 l0_8.length c0_8]) (t := 36) ?_; intro gb190 hg w41 hbox hb; have BK190 := dk (hbox); have GW190 := gs hg HB; have GE190 := gs hg HB; replace HB := hs_ HB hb; clear hb hbox hg) | ((with_reducible refine gate_dst (N := 3) rfl ?_); (try (refine gate_guard (by rfl) ?_; dsimp only)); refine bx (N := 3) (cs := #[.int .i64 a1_0, .int .i64 a1_1, .bool a1_2]) (t := 50) ?_; intro gb191 hg w42 hbox hb; have BK191 := dk (hbox); have GW191 := gs hg HB; have GE191 := gs hg HB; replace HB := hs_ HB hb; have NB190_191 := gn hg BK190; have NB191_190 := gm hg BK190; replace BK190 := kb BK190 hb; clear hb hbox hg; have hnb43 := NB190_191.out; have hnc43 := NB191_190.out; have ⟨z44_0, z44_1, z44_2, z44_3, z44_4, z44_5, z44_6, z44_7, z44_8, v44_0, v44_1, v44_2, v44_3, v44_4, v44_5, v44_6, v44_7, v44_8⟩ := rz9 BK190) | ((with_reducible refine gate_callee (f := 55) rfl ?_); refine gl (some 7) Try.func55 #[.agg #[.slice A0_0 l0_0.length c0_0, .int .i64 a0_1, .int .i64 a0_2, .int .i64 a0_3, .slice A0_4 l0_4.length c0_4, .bool a0_5, .slice A0_6 l0_6.length c0_6, .slice A0_7 l0_7.length c0_7, .slice A0_8 l0_8.length c0_8]] ?_; (with_reducible refine (spec_BookOk.calls k _ _ l0_0 a0_1 a0_2 a0_3 _ _ l0_4 a0_5 _ _ l0_6 _ _ l0_7 _ _ l0_8 true _ ?side1 ?side2 ?side3 ?side4 ?side5 ?side6 ?side7 ?side8 ?side9 ?side10 A3.out).mono ?_); (case side1 => exact cc HR0_0 HB); (case side2 => exact HC0_0.out); (case side3 => exact cc HR0_4 HB); (case side4 => exact HC0_4.out); (case side5 => exact cc HR0_6 HB); (case side6 => exact HC0_6.out); (case side7 => exact cc HR0_7 HB); (case side8 => exact HC0_7.out); (case side9 => exact cc HR0_8 HB); (case side10 => exact HC0_8.out); rintro e w45 ⟨rfl, hb⟩; refine ⟨_, rfl, ?_⟩; replace BK190 := kb BK190 hb; replace BK191 := kb BK191 hb; replace HB := hs_ HB hb; (try clear hb hb2 hk hi); have ⟨z46_0, z46_1, z46_2, v46_0, v46_1, v46_2⟩ := rz3 BK191; have ⟨z47_0, z47_1, z47_2, z47_3, z47_4, z47_5, z47_6, z47_7, z47_8, v47_0, v47_1, v47_2, v47_3, v47_4, v47_5, v47_6, v47_7, v47_8⟩ := rz9 BK190) | (go_at_call 76; (with_reducible refine (spec_l01In.calls a1_1 0 (wrap64 ((l0_6.length : Int) - 1)) true _ A5.out).mono ?_); rintro e w' ⟨rfl, ⟨nd, rfl⟩⟩; (try (rw [drewN_self w45]; generalize hq_ : World.drewN w45 _ = w45; have n0_ : Aside0 (w45.heap[gb190]? = some (.cells #[.slice A0_0 l0_0.length c0_0, .int .i64 a0_1, .int .i64 a0_2, .int .i64 a0_3, .slice A0_4 l0_4.length c0_4, .bool a0_5, .slice A0_6 l0_6.length c0_6, .slice A0_7 l0_7.length c0_7, .slice A0_8 l0_8.length c0_8] 36 (0, 0))) := ⟨by rw [← hq_]; exact (bk BK190)⟩; have n1_ : Aside0 (w45.heap[gb191]? = some (.cells #[.int .i64 a1_0, .int .i64 a1_1, .bool a1_2] 50 (0, 0))) := ⟨by rw [← hq_]; exact (bk BK191)⟩; have n2_ : Aside0 (Below w.heap.size w w45) := ⟨by rw [← hq_]; exact (bb HB)⟩; clear BK190 BK191 HB hq_; have BK190 := n0_; have BK191 := n1_; have HB := n2_; clear n0_ n1_ n2_)); have ⟨z48_0, z48_1, z48_2, z48_3, z48_4, z48_5, z48_6, z48_7, z48_8, v48_0, v48_1, v48_2, v48_3, v48_4, v48_5, v48_6, v48_7, v48_8⟩ := rz9 BK190; have ⟨z49_0, z49_1, z49_2, v49_0, v49_1, v49_2⟩ := rz3 BK191; have p194 : 0 ≤ (a1_1 : Int) := oa; have q194 : a1_1 < (l0_6.length : Int) := oa; obtain ⟨ad194, e194, hx194_0, hx194_1, hx194_2, hx194_3, hx194_4⟩ := at_T95 HR0_6.out a1_1 p194 q194; cases e194; replace hx194_0 := hc HB hx194_0; replace hx194_1 := hc HB hx194_1; replace hx194_2 := hc HB hx194_2; replace hx194_3 := hc HB hx194_3; replace hx194_4 := hc HB hx194_4; replace p194 := eq_true p194; replace q194 := eq_true q194) | ((with_reducible refine gate_dst (N := 5) rfl ?_); (try (refine gate_guard (by rfl) ?_; dsimp only)); refine bx (N := 5) (cs := #[.int .i64 0, .int .i64 0, .int .i64 0, .int .i64 0, .int .i64 0]) (t := 95) ?_; intro gb195 hg w50 hbox hb; have BK195 := dk (hbox); have GW195 := gs hg HB; have GE195 := gs hg HB; replace HB := hs_ HB hb; have NB190_195 := gn hg BK190; have NB195_190 := gm hg BK190; replace BK190 := kb BK190 hb; have NB191_195 := gn hg BK191; have NB195_191 := gm hg BK191; replace BK191 := kb BK191 hb; clear hb hbox hg; have hnb51 := NB195_190.out; have hnc51 := NB190_195.out; have hnb52 := NB195_191.out; have hnc52 := NB191_195.out; have ⟨z53_0, z53_1, z53_2, z53_3, z53_4, v53_0, v53_1, v53_2, v53_3, v53_4⟩ := rz5 BK195; have ⟨z54_0, z54_1, z54_2, v54_0, v54_1, v54_2⟩ := rz3 BK191))
        go_ret
        exact ⟨ee, bb HB⟩
       ·rw [if_neg c40] at H
        have c40b0 : (((rd_T95 l0_6 a1_1).f0) == a1_0) = false := beq_eq_false_iff_ne.mpr c40
        have c40b1 : (((rd_T95 l0_6 a1_1).f0) != a1_0) = true := bne_iff_ne.mpr c40
        obtain rfl := Option.some.inj H
        go_enter Try.func57, Try.ntmps57
        go_wp2_with (first | ((with_reducible refine gate_dst (N := 2) rfl ?_); (try (refine gate_guard (by rfl) ?_; dsimp only)); refine bx (N := 2) (cs := #[.slice A0_0 l0_0.length c0_0, .int .i64 a0_1, .int .i64 a0_2, .int .i64 a0_3, .slice A0_4 l0_4.length c0_4, .bool a0_5, .slice A0_6 l0_6.length c0_6, .slice A0_7 l0_7.length c0_7, .slice A0_8 l0_8.length c0_8]) (t := 36) ?_; intro gb190 hg w55 hbox hb; have BK190 := dk (hbox); have GW190 := gs hg HB; have GE190 := gs hg HB; replace HB := hs_ HB hb; clear hb hbox hg) | ((with_reducible refine gate_dst (N := 3) rfl ?_); (try (refine gate_guard (by rfl) ?_; dsimp only)); refine bx (N := 3) (cs := #[.int .i64 a1_0, .int .i64 a1_1, .bool a1_2]) (t := 50) ?_; intro gb191 hg w56 hbox hb; have BK191 := dk (hbox); have GW191 := gs hg HB; have GE191 := gs hg HB; replace HB := hs_ HB hb; have NB190_191 := gn hg BK190; have NB191_190 := gm hg BK190; replace BK190 := kb BK190 hb; clear hb hbox hg; have hnb57 := NB190_191.out; have hnc57 := NB191_190.out; have ⟨z58_0, z58_1, z58_2, z58_3, z58_4, z58_5, z58_6, z58_7, z58_8, v58_0, v58_1, v58_2, v58_3, v58_4, v58_5, v58_6, v58_7, v58_8⟩ := rz9 BK190) | ((with_reducible refine gate_callee (f := 55) rfl ?_); refine gl (some 7) Try.func55 #[.agg #[.slice A0_0 l0_0.length c0_0, .int .i64 a0_1, .int .i64 a0_2, .int .i64 a0_3, .slice A0_4 l0_4.length c0_4, .bool a0_5, .slice A0_6 l0_6.length c0_6, .slice A0_7 l0_7.length c0_7, .slice A0_8 l0_8.length c0_8]] ?_; (with_reducible refine (spec_BookOk.calls k _ _ l0_0 a0_1 a0_2 a0_3 _ _ l0_4 a0_5 _ _ l0_6 _ _ l0_7 _ _ l0_8 true _ ?side1 ?side2 ?side3 ?side4 ?side5 ?side6 ?side7 ?side8 ?side9 ?side10 A3.out).mono ?_); (case side1 => exact cc HR0_0 HB); (case side2 => exact HC0_0.out); (case side3 => exact cc HR0_4 HB); (case side4 => exact HC0_4.out); (case side5 => exact cc HR0_6 HB); (case side6 => exact HC0_6.out); (case side7 => exact cc HR0_7 HB); (case side8 => exact HC0_7.out); (case side9 => exact cc HR0_8 HB); (case side10 => exact HC0_8.out); rintro e w59 ⟨rfl, hb⟩; refine ⟨_, rfl, ?_⟩; replace BK190 := kb BK190 hb; replace BK191 := kb BK191 hb; replace HB := hs_ HB hb; (try clear hb hb2 hk hi); have ⟨z60_0, z60_1, z60_2, v60_0, v60_1, v60_2⟩ := rz3 BK191; have ⟨z61_0, z61_1, z61_2, z61_3, z61_4, z61_5, z61_6, z61_7, z61_8, v61_0, v61_1, v61_2, v61_3, v61_4, v61_5, v61_6, v61_7, v61_8⟩ := rz9 BK190) | (go_at_call 76; (with_reducible refine (spec_l01In.calls a1_1 0 (wrap64 ((l0_6.length : Int) - 1)) true _ A5.out).mono ?_); rintro e w' ⟨rfl, ⟨nd, rfl⟩⟩; (try (rw [drewN_self w59]; generalize hq_ : World.drewN w59 _ = w59; have n0_ : Aside0 (w59.heap[gb190]? = some (.cells #[.slice A0_0 l0_0.length c0_0, .int .i64 a0_1, .int .i64 a0_2, .int .i64 a0_3, .slice A0_4 l0_4.length c0_4, .bool a0_5, .slice A0_6 l0_6.length c0_6, .slice A0_7 l0_7.length c0_7, .slice A0_8 l0_8.length c0_8] 36 (0, 0))) := ⟨by rw [← hq_]; exact (bk BK190)⟩; have n1_ : Aside0 (w59.heap[gb191]? = some (.cells #[.int .i64 a1_0, .int .i64 a1_1, .bool a1_2] 50 (0, 0))) := ⟨by rw [← hq_]; exact (bk BK191)⟩; have n2_ : Aside0 (Below w.heap.size w w59) := ⟨by rw [← hq_]; exact (bb HB)⟩; clear BK190 BK191 HB hq_; have BK190 := n0_; have BK191 := n1_; have HB := n2_; clear n0_ n1_ n2_)); have ⟨z62_0, z62_1, z62_2, z62_3, z62_4, z62_5, z62_6, z62_7, z62_8, v62_0, v62_1, v62_2, v62_3, v62_4, v62_5, v62_6, v62_7, v62_8⟩ := rz9 BK190; have ⟨z63_0, z63_1, z63_2, v63_0, v63_1, v63_2⟩ := rz3 BK191; have p194 : 0 ≤ (a1_1 : Int) := oa; have q194 : a1_1 < (l0_6.length : Int) := oa; obtain ⟨ad194, e194, hx194_0, hx194_1, hx194_2, hx194_3, hx194_4⟩ := at_T95 HR0_6.out a1_1 p194 q194; cases e194; replace hx194_0 := hc HB hx194_0; replace hx194_1 := hc HB hx194_1; replace hx194_2 := hc HB hx194_2; replace hx194_3 := hc HB hx194_3; replace hx194_4 := hc HB hx194_4; replace p194 := eq_true p194; replace q194 := eq_true q194) | ((with_reducible refine gate_dst (N := 5) rfl ?_); (try (refine gate_guard (by rfl) ?_; dsimp only)); refine bx (N := 5) (cs := #[.int .i64 0, .int .i64 0, .int .i64 0, .int .i64 0, .int .i64 0]) (t := 95) ?_; intro gb195 hg w64 hbox hb; have BK195 := dk (hbox); have GW195 := gs hg HB; have GE195 := gs hg HB; replace HB := hs_ HB hb; have NB190_195 := gn hg BK190; have NB195_190 := gm hg BK190; replace BK190 := kb BK190 hb; have NB191_195 := gn hg BK191; have NB195_191 := gm hg BK191; replace BK191 := kb BK191 hb; clear hb hbox hg; have hnb65 := NB195_190.out; have hnc65 := NB190_195.out; have hnb66 := NB195_191.out; have hnc66 := NB191_195.out; have ⟨z67_0, z67_1, z67_2, z67_3, z67_4, v67_0, v67_1, v67_2, v67_3, v67_4⟩ := rz5 BK195; have ⟨z68_0, z68_1, z68_2, v68_0, v68_1, v68_2⟩ := rz3 BK191))
        go_ret
        exact ⟨ee, bb HB⟩
      ·rw [if_neg c39] at H
       have c39b0 : (((rd_T95 l0_6 a1_1).f4) == 2) = false := beq_eq_false_iff_ne.mpr c39
       have c39b1 : (((rd_T95 l0_6 a1_1).f4) != 2) = true := bne_iff_ne.mpr c39
       by_cases c69 : ((rd_T95 l0_6 a1_1).f4) = 3
       ·rw [if_pos c69] at H
        have c69b0 : (((rd_T95 l0_6 a1_1).f4) == 3) = true := beq_iff_eq.mpr c69
        have c69b1 : (((rd_T95 l0_6 a1_1).f4) != 3) = false := bne_eq_false_iff_eq.mpr c69
        clear c69
        by_cases c70 : ((rd_T95 l0_6 a1_1).f0) = a1_0
        ·rw [if_pos c70] at H
         have c70b0 : (((rd_T95 l0_6 a1_1).f0) == a1_0) = true := beq_iff_eq.mpr c70
         have c70b1 : (((rd_T95 l0_6 a1_1).f0) != a1_0) = false := bne_eq_false_iff_eq.mpr c70
         clear c70
         obtain rfl := Option.some.inj H
         go_enter Try.func57, Try.ntmps57
         go_wp2_with (first | ((with_reducible refine gate_dst (N := 2) rfl ?_); (try (refine gate_guard (by rfl) ?_; dsimp only)); refine bx (N := 2) (cs := #[.slice A0_0 l0_0.length c0_0, .int .i64 a0_1, .int .i64 a0_2, .int .i64 a0_3, .slice A0_4 l0_4.length c0_4, .bool a0_5, .slice A0_6 l0_6.length c0_6, .slice A0_7 l0_7.length c0_7, .slice A0_8 l0_8.length c0_8]) (t := 36) ?_; intro gb190 hg w71 hbox hb; have BK190 := dk (hbox); have GW190 := gs hg HB; have GE190 := gs hg HB; replace HB := hs_ HB hb; clear hb hbox hg) | ((with_reducible refine gate_dst (N := 3) rfl ?_); (try (refine gate_guard (by rfl) ?_; dsimp only)); refine bx (N := 3) (cs := #[.int .i64 a1_0, .int .i64 a1_1, .bool a1_2]) (t := 50) ?_; intro gb191 hg w72 hbox hb; have BK191 := dk (hbox); have GW191 := gs hg HB; have GE191 := gs hg HB; replace HB := hs_ HB hb; have NB190_191 := gn hg BK190; have NB191_190 := gm hg BK190; replace BK190 := kb BK190 hb; clear hb hbox hg; have hnb73 := NB190_191.out; have hnc73 := NB191_190.out; have ⟨z74_0, z74_1, z74_2, z74_3, z74_4, z74_5, z74_6, z74_7, z74_8, v74_0, v74_1, v74_2, v74_3, v74_4, v74_5, v74_6, v74_7, v74_8⟩ := rz9 BK190) | ((with_reducible refine gate_callee (f := 55) rfl ?_); refine gl (some 7) Try.func55 #[.agg #[.slice A0_0 l0_0.length c0_0, .int .i64 a0_1, .int .i64 a0_2, .int .i64 a0_3, .slice A0_4 l0_4.length c0_4, .bool a0_5, .slice A0_6 l0_6.length c0_6, .slice A0_7 l0_7.length c0_7, .slice A0_8 l0_8.length c0_8]] ?_; (with_reducible refine (spec_BookOk.calls k _ _ l0_0 a0_1 a0_2 a0_3 _ _ l0_4 a0_5 _ _ l0_6 _ _ l0_7 _ _ l0_8 true _ ?side1 ?side2 ?side3 ?side4 ?side5 ?side6 ?side7 ?side8 ?side9 ?side10 A3.out).mono ?_); (case side1 => exact cc HR0_0 HB); (case side2 => exact HC0_0.out); (case side3 => exact cc HR0_4 HB); (case side4 => exact HC0_4.out); (case side5 => exact cc HR0_6 HB); (case side6 => exact HC0_6.out); (case side7 => exact cc HR0_7 HB); (case side8 => exact HC0_7.out); (case side9 => exact cc HR0_8 HB); (case side10 => exact HC0_8.out); rintro e w75 ⟨rfl, hb⟩; refine ⟨_, rfl, ?_⟩; replace BK190 := kb BK190 hb; replace BK191 := kb BK191 hb; replace HB := hs_ HB hb; (try clear hb hb2 hk hi); have ⟨z76_0, z76_1, z76_2, v76_0, v76_1, v76_2⟩ := rz3 BK191; have ⟨z77_0, z77_1, z77_2, z77_3, z77_4, z77_5, z77_6, z77_7, z77_8, v77_0, v77_1, v77_2, v77_3, v77_4, v77_5, v77_6, v77_7, v77_8⟩ := rz9 BK190) | (go_at_call 76; (with_reducible refine (spec_l01In.calls a1_1 0 (wrap64 ((l0_6.length : Int) - 1)) true _ A5.out).mono ?_); rintro e w' ⟨rfl, ⟨nd, rfl⟩⟩; (try (rw [drewN_self w75]; generalize hq_ : World.drewN w75 _ = w75; have n0_ : Aside0 (w75.heap[gb190]? = some (.cells #[.slice A0_0 l0_0.length c0_0, .int .i64 a0_1, .int .i64 a0_2, .int .i64 a0_3, .slice A0_4 l0_4.length c0_4, .bool a0_5, .slice A0_6 l0_6.length c0_6, .slice A0_7 l0_7.length c0_7, .slice A0_8 l0_8.length c0_8] 36 (0, 0))) := ⟨by rw [← hq_]; exact (bk BK190)⟩; have n1_ : Aside0 (w75.heap[gb191]? = some (.cells #[.int .i64 a1_0, .int .i64 a1_1, .bool a1_2] 50 (0, 0))) := ⟨by rw [← hq_]; exact (bk BK191)⟩; have n2_ : Aside0 (Below w.heap.size w w75) := ⟨by rw [← hq_]; exact (bb HB)⟩; clear BK190 BK191 HB hq_; have BK190 := n0_; have BK191 := n1_; have HB := n2_; clear n0_ n1_ n2_)); have ⟨z78_0, z78_1, z78_2, z78_3, z78_4, z78_5, z78_6, z78_7, z78_8, v78_0, v78_1, v78_2, v78_3, v78_4, v78_5, v78_6, v78_7, v78_8⟩ := rz9 BK190; have ⟨z79_0, z79_1, z79_2, v79_0, v79_1, v79_2⟩ := rz3 BK191; have p194 : 0 ≤ (a1_1 : Int) := oa; have q194 : a1_1 < (l0_6.length : Int) := oa; obtain ⟨ad194, e194, hx194_0, hx194_1, hx194_2, hx194_3, hx194_4⟩ := at_T95 HR0_6.out a1_1 p194 q194; cases e194; replace hx194_0 := hc HB hx194_0; replace hx194_1 := hc HB hx194_1; replace hx194_2 := hc HB hx194_2; replace hx194_3 := hc HB hx194_3; replace hx194_4 := hc HB hx194_4; replace p194 := eq_true p194; replace q194 := eq_true q194) | ((with_reducible refine gate_dst (N := 5) rfl ?_); (try (refine gate_guard (by rfl) ?_; dsimp only)); refine bx (N := 5) (cs := #[.int .i64 0, .int .i64 0, .int .i64 0, .int .i64 0, .int .i64 0]) (t := 95) ?_; intro gb195 hg w80 hbox hb; have BK195 := dk (hbox); have GW195 := gs hg HB; have GE195 := gs hg HB; replace HB := hs_ HB hb; have NB190_195 := gn hg BK190; have NB195_190 := gm hg BK190; replace BK190 := kb BK190 hb; have NB191_195 := gn hg BK191; have NB195_191 := gm hg BK191; replace BK191 := kb BK191 hb; clear hb hbox hg; have hnb81 := NB195_190.out; have hnc81 := NB190_195.out; have hnb82 := NB195_191.out; have hnc82 := NB191_195.out; have ⟨z83_0, z83_1, z83_2, z83_3, z83_4, v83_0, v83_1, v83_2, v83_3, v83_4⟩ := rz5 BK195; have ⟨z84_0, z84_1, z84_2, v84_0, v84_1, v84_2⟩ := rz3 BK191))
         go_ret
         exact ⟨ee, bb HB⟩
        ·rw [if_neg c70] at H
         have c70b0 : (((rd_T95 l0_6 a1_1).f0) == a1_0) = false := beq_eq_false_iff_ne.mpr c70
         have c70b1 : (((rd_T95 l0_6 a1_1).f0) != a1_0) = true := bne_iff_ne.mpr c70
         obtain rfl := Option.some.inj H
         go_enter Try.func57, Try.ntmps57
         go_wp2_with (first | ((with_reducible refine gate_dst (N := 2) rfl ?_); (try (refine gate_guard (by rfl) ?_; dsimp only)); refine bx (N := 2) (cs := #[.slice A0_0 l0_0.length c0_0, .int .i64 a0_1, .int .i64 a0_2, .int .i64 a0_3, .slice A0_4 l0_4.length c0_4, .bool a0_5, .slice A0_6 l0_6.length c0_6, .slice A0_7 l0_7.length c0_7, .slice A0_8 l0_8.length c0_8]) (t := 36) ?_; intro gb190 hg w85 hbox hb; have BK190 := dk (hbox); have GW190 := gs hg HB; have GE190 := gs hg HB; replace HB := hs_ HB hb; clear hb hbox hg) | ((with_reducible refine gate_dst (N := 3) rfl ?_); (try (refine gate_guard (by rfl) ?_; dsimp only)); refine bx (N := 3) (cs := #[.int .i64 a1_0, .int .i64 a1_1, .bool a1_2]) (t := 50) ?_; intro gb191 hg w86 hbox hb; have BK191 := dk (hbox); have GW191 := gs hg HB; have GE191 := gs hg HB; replace HB := hs_ HB hb; have NB190_191 := gn hg BK190; have NB191_190 := gm hg BK190; replace BK190 := kb BK190 hb; clear hb hbox hg; have hnb87 := NB190_191.out; have hnc87 := NB191_190.out; have ⟨z88_0, z88_1, z88_2, z88_3, z88_4, z88_5, z88_6, z88_7, z88_8, v88_0, v88_1, v88_2, v88_3, v88_4, v88_5, v88_6, v88_7, v88_8⟩ := rz9 BK190) | ((with_reducible refine gate_callee (f := 55) rfl ?_); refine gl (some 7) Try.func55 #[.agg #[.slice A0_0 l0_0.length c0_0, .int .i64 a0_1, .int .i64 a0_2, .int .i64 a0_3, .slice A0_4 l0_4.length c0_4, .bool a0_5, .slice A0_6 l0_6.length c0_6, .slice A0_7 l0_7.length c0_7, .slice A0_8 l0_8.length c0_8]] ?_; (with_reducible refine (spec_BookOk.calls k _ _ l0_0 a0_1 a0_2 a0_3 _ _ l0_4 a0_5 _ _ l0_6 _ _ l0_7 _ _ l0_8 true _ ?side1 ?side2 ?side3 ?side4 ?side5 ?side6 ?side7 ?side8 ?side9 ?side10 A3.out).mono ?_); (case side1 => exact cc HR0_0 HB); (case side2 => exact HC0_0.out); (case side3 => exact cc HR0_4 HB); (case side4 => exact HC0_4.out); (case side5 => exact cc HR0_6 HB); (case side6 => exact HC0_6.out); (case side7 => exact cc HR0_7 HB); (case side8 => exact HC0_7.out); (case side9 => exact cc HR0_8 HB); (case side10 => exact HC0_8.out); rintro e w89 ⟨rfl, hb⟩; refine ⟨_, rfl, ?_⟩; replace BK190 := kb BK190 hb; replace BK191 := kb BK191 hb; replace HB := hs_ HB hb; (try clear hb hb2 hk hi); have ⟨z90_0, z90_1, z90_2, v90_0, v90_1, v90_2⟩ := rz3 BK191; have ⟨z91_0, z91_1, z91_2, z91_3, z91_4, z91_5, z91_6, z91_7, z91_8, v91_0, v91_1, v91_2, v91_3, v91_4, v91_5, v91_6, v91_7, v91_8⟩ := rz9 BK190) | (go_at_call 76; (with_reducible refine (spec_l01In.calls a1_1 0 (wrap64 ((l0_6.length : Int) - 1)) true _ A5.out).mono ?_); rintro e w' ⟨rfl, ⟨nd, rfl⟩⟩; (try (rw [drewN_self w89]; generalize hq_ : World.drewN w89 _ = w89; have n0_ : Aside0 (w89.heap[gb190]? = some (.cells #[.slice A0_0 l0_0.length c0_0, .int .i64 a0_1, .int .i64 a0_2, .int .i64 a0_3, .slice A0_4 l0_4.length c0_4, .bool a0_5, .slice A0_6 l0_6.length c0_6, .slice A0_7 l0_7.length c0_7, .slice A0_8 l0_8.length c0_8] 36 (0, 0))) := ⟨by rw [← hq_]; exact (bk BK190)⟩; have n1_ : Aside0 (w89.heap[gb191]? = some (.cells #[.int .i64 a1_0, .int .i64 a1_1, .bool a1_2] 50 (0, 0))) := ⟨by rw [← hq_]; exact (bk BK191)⟩; have n2_ : Aside0 (Below w.heap.size w w89) := ⟨by rw [← hq_]; exact (bb HB)⟩; clear BK190 BK191 HB hq_; have BK190 := n0_; have BK191 := n1_; have HB := n2_; clear n0_ n1_ n2_)); have ⟨z92_0, z92_1, z92_2, z92_3, z92_4, z92_5, z92_6, z92_7, z92_8, v92_0, v92_1, v92_2, v92_3, v92_4, v92_5, v92_6, v92_7, v92_8⟩ := rz9 BK190; have ⟨z93_0, z93_1, z93_2, v93_0, v93_1, v93_2⟩ := rz3 BK191; have p194 : 0 ≤ (a1_1 : Int) := oa; have q194 : a1_1 < (l0_6.length : Int) := oa; obtain ⟨ad194, e194, hx194_0, hx194_1, hx194_2, hx194_3, hx194_4⟩ := at_T95 HR0_6.out a1_1 p194 q194; cases e194; replace hx194_0 := hc HB hx194_0; replace hx194_1 := hc HB hx194_1; replace hx194_2 := hc HB hx194_2; replace hx194_3 := hc HB hx194_3; replace hx194_4 := hc HB hx194_4; replace p194 := eq_true p194; replace q194 := eq_true q194) | ((with_reducible refine gate_dst (N := 5) rfl ?_); (try (refine gate_guard (by rfl) ?_; dsimp only)); refine bx (N := 5) (cs := #[.int .i64 0, .int .i64 0, .int .i64 0, .int .i64 0, .int .i64 0]) (t := 95) ?_; intro gb195 hg w94 hbox hb; have BK195 := dk (hbox); have GW195 := gs hg HB; have GE195 := gs hg HB; replace HB := hs_ HB hb; have NB190_195 := gn hg BK190; have NB195_190 := gm hg BK190; replace BK190 := kb BK190 hb; have NB191_195 := gn hg BK191; have NB195_191 := gm hg BK191; replace BK191 := kb BK191 hb; clear hb hbox hg; have hnb95 := NB195_190.out; have hnc95 := NB190_195.out; have hnb96 := NB195_191.out; have hnc96 := NB191_195.out; have ⟨z97_0, z97_1, z97_2, z97_3, z97_4, v97_0, v97_1, v97_2, v97_3, v97_4⟩ := rz5 BK195; have ⟨z98_0, z98_1, z98_2, v98_0, v98_1, v98_2⟩ := rz3 BK191))
         go_ret
         exact ⟨ee, bb HB⟩
       ·rw [if_neg c69] at H
        have c69b0 : (((rd_T95 l0_6 a1_1).f4) == 3) = false := beq_eq_false_iff_ne.mpr c69
        have c69b1 : (((rd_T95 l0_6 a1_1).f4) != 3) = true := bne_iff_ne.mpr c69
        obtain rfl := Option.some.inj H
        go_enter Try.func57, Try.ntmps57
        go_wp2_with (first | ((with_reducible refine gate_dst (N := 2) rfl ?_); (try (refine gate_guard (by rfl) ?_; dsimp only)); refine bx (N := 2) (cs := #[.slice A0_0 l0_0.length c0_0, .int .i64 a0_1, .int .i64 a0_2, .int .i64 a0_3, .slice A0_4 l0_4.length c0_4, .bool a0_5, .slice A0_6 l0_6.length c0_6, .slice A0_7 l0_7.length c0_7, .slice A0_8 l0_8.length c0_8]) (t := 36) ?_; intro gb190 hg w99 hbox hb; have BK190 := dk (hbox); have GW190 := gs hg HB; have GE190 := gs hg HB; replace HB := hs_ HB hb; clear hb hbox hg) | ((with_reducible refine gate_dst (N := 3) rfl ?_); (try (refine gate_guard (by rfl) ?_; dsimp only)); refine bx (N := 3) (cs := #[.int .i64 a1_0, .int .i64 a1_1, .bool a1_2]) (t := 50) ?_; intro gb191 hg w100 hbox hb; have BK191 := dk (hbox); have GW191 := gs hg HB; have GE191 := gs hg HB; replace HB := hs_ HB hb; have NB190_191 := gn hg BK190; have NB191_190 := gm hg BK190; replace BK190 := kb BK190 hb; clear hb hbox hg; have hnb101 := NB190_191.out; have hnc101 := NB191_190.out; have ⟨z102_0, z102_1, z102_2, z102_3, z102_4, z102_5, z102_6, z102_7, z102_8, v102_0, v102_1, v102_2, v102_3, v102_4, v102_5, v102_6, v102_7, v102_8⟩ := rz9 BK190) | ((with_reducible refine gate_callee (f := 55) rfl ?_); refine gl (some 7) Try.func55 #[.agg #[.slice A0_0 l0_0.length c0_0, .int .i64 a0_1, .int .i64 a0_2, .int .i64 a0_3, .slice A0_4 l0_4.length c0_4, .bool a0_5, .slice A0_6 l0_6.length c0_6, .slice A0_7 l0_7.length c0_7, .slice A0_8 l0_8.length c0_8]] ?_; (with_reducible refine (spec_BookOk.calls k _ _ l0_0 a0_1 a0_2 a0_3 _ _ l0_4 a0_5 _ _ l0_6 _ _ l0_7 _ _ l0_8 true _ ?side1 ?side2 ?side3 ?side4 ?side5 ?side6 ?side7 ?side8 ?side9 ?side10 A3.out).mono ?_); (case side1 => exact cc HR0_0 HB); (case side2 => exact HC0_0.out); (case side3 => exact cc HR0_4 HB); (case side4 => exact HC0_4.out); (case side5 => exact cc HR0_6 HB); (case side6 => exact HC0_6.out); (case side7 => exact cc HR0_7 HB); (case side8 => exact HC0_7.out); (case side9 => exact cc HR0_8 HB); (case side10 => exact HC0_8.out); rintro e w103 ⟨rfl, hb⟩; refine ⟨_, rfl, ?_⟩; replace BK190 := kb BK190 hb; replace BK191 := kb BK191 hb; replace HB := hs_ HB hb; (try clear hb hb2 hk hi); have ⟨z104_0, z104_1, z104_2, v104_0, v104_1, v104_2⟩ := rz3 BK191; have ⟨z105_0, z105_1, z105_2, z105_3, z105_4, z105_5, z105_6, z105_7, z105_8, v105_0, v105_1, v105_2, v105_3, v105_4, v105_5, v105_6, v105_7, v105_8⟩ := rz9 BK190) | (go_at_call 76; (with_reducible refine (spec_l01In.calls a1_1 0 (wrap64 ((l0_6.length : Int) - 1)) true _ A5.out).mono ?_); rintro e w' ⟨rfl, ⟨nd, rfl⟩⟩; (try (rw [drewN_self w103]; generalize hq_ : World.drewN w103 _ = w103; have n0_ : Aside0 (w103.heap[gb190]? = some (.cells #[.slice A0_0 l0_0.length c0_0, .int .i64 a0_1, .int .i64 a0_2, .int .i64 a0_3, .slice A0_4 l0_4.length c0_4, .bool a0_5, .slice A0_6 l0_6.length c0_6, .slice A0_7 l0_7.length c0_7, .slice A0_8 l0_8.length c0_8] 36 (0, 0))) := ⟨by rw [← hq_]; exact (bk BK190)⟩; have n1_ : Aside0 (w103.heap[gb191]? = some (.cells #[.int .i64 a1_0, .int .i64 a1_1, .bool a1_2] 50 (0, 0))) := ⟨by rw [← hq_]; exact (bk BK191)⟩; have n2_ : Aside0 (Below w.heap.size w w103) := ⟨by rw [← hq_]; exact (bb HB)⟩; clear BK190 BK191 HB hq_; have BK190 := n0_; have BK191 := n1_; have HB := n2_; clear n0_ n1_ n2_)); have ⟨z106_0, z106_1, z106_2, z106_3, z106_4, z106_5, z106_6, z106_7, z106_8, v106_0, v106_1, v106_2, v106_3, v106_4, v106_5, v106_6, v106_7, v106_8⟩ := rz9 BK190; have ⟨z107_0, z107_1, z107_2, v107_0, v107_1, v107_2⟩ := rz3 BK191; have p194 : 0 ≤ (a1_1 : Int) := oa; have q194 : a1_1 < (l0_6.length : Int) := oa; obtain ⟨ad194, e194, hx194_0, hx194_1, hx194_2, hx194_3, hx194_4⟩ := at_T95 HR0_6.out a1_1 p194 q194; cases e194; replace hx194_0 := hc HB hx194_0; replace hx194_1 := hc HB hx194_1; replace hx194_2 := hc HB hx194_2; replace hx194_3 := hc HB hx194_3; replace hx194_4 := hc HB hx194_4; replace p194 := eq_true p194; replace q194 := eq_true q194) | ((with_reducible refine gate_dst (N := 5) rfl ?_); (try (refine gate_guard (by rfl) ?_; dsimp only)); refine bx (N := 5) (cs := #[.int .i64 0, .int .i64 0, .int .i64 0, .int .i64 0, .int .i64 0]) (t := 95) ?_; intro gb195 hg w108 hbox hb; have BK195 := dk (hbox); have GW195 := gs hg HB; have GE195 := gs hg HB; replace HB := hs_ HB hb; have NB190_195 := gn hg BK190; have NB195_190 := gm hg BK190; replace BK190 := kb BK190 hb; have NB191_195 := gn hg BK191; have NB195_191 := gm hg BK191; replace BK191 := kb BK191 hb; clear hb hbox hg; have hnb109 := NB195_190.out; have hnc109 := NB190_195.out; have hnb110 := NB195_191.out; have hnc110 := NB191_195.out; have ⟨z111_0, z111_1, z111_2, z111_3, z111_4, v111_0, v111_1, v111_2, v111_3, v111_4⟩ := rz5 BK195))
        go_ret
        exact ⟨ee, bb HB⟩
    ·rw [if_neg c8] at H
     exact absurd H (by simp)
   ·rw [if_neg c7] at H
    exact absurd H (by simp)
  ·replace c6 := Bool.eq_false_iff.mpr c6
   subst c6
   rw [if_neg (show ¬ (false = true) by decide)] at H
   obtain rfl := Option.some.inj H
   go_enter Try.func57, Try.ntmps57
   go_wp2_with (first | ((with_reducible refine gate_dst (N := 2) rfl ?_); (try (refine gate_guard (by rfl) ?_; dsimp only)); refine bx (N := 2) (cs := #[.slice A0_0 l0_0.length c0_0, .int .i64 a0_1, .int .i64 a0_2, .int .i64 a0_3, .slice A0_4 l0_4.length c0_4, .bool a0_5, .slice A0_6 l0_6.length c0_6, .slice A0_7 l0_7.length c0_7, .slice A0_8 l0_8.length c0_8]) (t := 36) ?_; intro gb190 hg w112 hbox hb; have BK190 := dk (hbox); have GW190 := gs hg HB; have GE190 := gs hg HB; replace HB := hs_ HB hb; clear hb hbox hg) | ((with_reducible refine gate_dst (N := 3) rfl ?_); (try (refine gate_guard (by rfl) ?_; dsimp only)); refine bx (N := 3) (cs := #[.int .i64 a1_0, .int .i64 a1_1, .bool a1_2]) (t := 50) ?_; intro gb191 hg w113 hbox hb; have BK191 := dk (hbox); have GW191 := gs hg HB; have GE191 := gs hg HB; replace HB := hs_ HB hb; have NB190_191 := gn hg BK190; have NB191_190 := gm hg BK190; replace BK190 := kb BK190 hb; clear hb hbox hg; have hnb114 := NB190_191.out; have hnc114 := NB191_190.out; have ⟨z115_0, z115_1, z115_2, z115_3, z115_4, z115_5, z115_6, z115_7, z115_8, v115_0, v115_1, v115_2, v115_3, v115_4, v115_5, v115_6, v115_7, v115_8⟩ := rz9 BK190) | ((with_reducible refine gate_callee (f := 55) rfl ?_); refine gl (some 7) Try.func55 #[.agg #[.slice A0_0 l0_0.length c0_0, .int .i64 a0_1, .int .i64 a0_2, .int .i64 a0_3, .slice A0_4 l0_4.length c0_4, .bool a0_5, .slice A0_6 l0_6.length c0_6, .slice A0_7 l0_7.length c0_7, .slice A0_8 l0_8.length c0_8]] ?_; (with_reducible refine (spec_BookOk.calls k _ _ l0_0 a0_1 a0_2 a0_3 _ _ l0_4 a0_5 _ _ l0_6 _ _ l0_7 _ _ l0_8 true _ ?side1 ?side2 ?side3 ?side4 ?side5 ?side6 ?side7 ?side8 ?side9 ?side10 A3.out).mono ?_); (case side1 => exact cc HR0_0 HB); (case side2 => exact HC0_0.out); (case side3 => exact cc HR0_4 HB); (case side4 => exact HC0_4.out); (case side5 => exact cc HR0_6 HB); (case side6 => exact HC0_6.out); (case side7 => exact cc HR0_7 HB); (case side8 => exact HC0_7.out); (case side9 => exact cc HR0_8 HB); (case side10 => exact HC0_8.out); rintro e w116 ⟨rfl, hb⟩; refine ⟨_, rfl, ?_⟩; replace BK190 := kb BK190 hb; replace BK191 := kb BK191 hb; replace HB := hs_ HB hb; (try clear hb hb2 hk hi); have ⟨z117_0, z117_1, z117_2, v117_0, v117_1, v117_2⟩ := rz3 BK191; have ⟨z118_0, z118_1, z118_2, z118_3, z118_4, z118_5, z118_6, z118_7, z118_8, v118_0, v118_1, v118_2, v118_3, v118_4, v118_5, v118_6, v118_7, v118_8⟩ := rz9 BK190) | (go_at_call 76; (with_reducible refine (spec_l01In.calls a1_1 0 (wrap64 ((l0_6.length : Int) - 1)) false _ A5.out).mono ?_); rintro e w' ⟨rfl, ⟨nd, rfl⟩⟩))
   go_ret
   exact ⟨ee, bb HB⟩
 ·replace c4 := Bool.eq_false_iff.mpr c4
  subst c4
  rw [if_neg (show ¬ (false = true) by decide)] at H
  obtain rfl := Option.some.inj H
  go_enter Try.func57, Try.ntmps57
  go_wp2_with (first | ((with_reducible refine gate_dst (N := 2) rfl ?_); (try (refine gate_guard (by rfl) ?_; dsimp only)); refine bx (N := 2) (cs := #[.slice A0_0 l0_0.length c0_0, .int .i64 a0_1, .int .i64 a0_2, .int .i64 a0_3, .slice A0_4 l0_4.length c0_4, .bool a0_5, .slice A0_6 l0_6.length c0_6, .slice A0_7 l0_7.length c0_7, .slice A0_8 l0_8.length c0_8]) (t := 36) ?_; intro gb190 hg w119 hbox hb; have BK190 := dk (hbox); have GW190 := gs hg HB; have GE190 := gs hg HB; replace HB := hs_ HB hb; clear hb hbox hg) | ((with_reducible refine gate_dst (N := 3) rfl ?_); (try (refine gate_guard (by rfl) ?_; dsimp only)); refine bx (N := 3) (cs := #[.int .i64 a1_0, .int .i64 a1_1, .bool a1_2]) (t := 50) ?_; intro gb191 hg w120 hbox hb; have BK191 := dk (hbox); have GW191 := gs hg HB; have GE191 := gs hg HB; replace HB := hs_ HB hb; have NB190_191 := gn hg BK190; have NB191_190 := gm hg BK190; replace BK190 := kb BK190 hb; clear hb hbox hg; have hnb121 := NB190_191.out; have hnc121 := NB191_190.out; have ⟨z122_0, z122_1, z122_2, z122_3, z122_4, z122_5, z122_6, z122_7, z122_8, v122_0, v122_1, v122_2, v122_3, v122_4, v122_5, v122_6, v122_7, v122_8⟩ := rz9 BK190) | ((with_reducible refine gate_callee (f := 55) rfl ?_); refine gl (some 7) Try.func55 #[.agg #[.slice A0_0 l0_0.length c0_0, .int .i64 a0_1, .int .i64 a0_2, .int .i64 a0_3, .slice A0_4 l0_4.length c0_4, .bool a0_5, .slice A0_6 l0_6.length c0_6, .slice A0_7 l0_7.length c0_7, .slice A0_8 l0_8.length c0_8]] ?_; (with_reducible refine (spec_BookOk.calls k _ _ l0_0 a0_1 a0_2 a0_3 _ _ l0_4 a0_5 _ _ l0_6 _ _ l0_7 _ _ l0_8 false _ ?side1 ?side2 ?side3 ?side4 ?side5 ?side6 ?side7 ?side8 ?side9 ?side10 A3.out).mono ?_); (case side1 => exact cc HR0_0 HB); (case side2 => exact HC0_0.out); (case side3 => exact cc HR0_4 HB); (case side4 => exact HC0_4.out); (case side5 => exact cc HR0_6 HB); (case side6 => exact HC0_6.out); (case side7 => exact cc HR0_7 HB); (case side8 => exact HC0_7.out); (case side9 => exact cc HR0_8 HB); (case side10 => exact HC0_8.out); rintro e w123 ⟨rfl, hb⟩; refine ⟨_, rfl, ?_⟩; replace BK190 := kb BK190 hb; replace BK191 := kb BK191 hb; replace HB := hs_ HB hb; (try clear hb hb2 hk hi)))
  go_ret
  exact ⟨ee, bb HB⟩
def spec_l21Award.f (a0_0 : Int) (a0_1 : Int) (a0_2 : Int) (a0_3 : Int) (a0_4 : Int) (a1 : Int) : Option (Int × Int × Int × Int × Int) := if a0_0 = a1 then (some (a0_0, a0_1, 0, 0, 2)) else (some (a0_0, a0_1, 0, 0, 3))
theorem spec_l21Award.calls (a0_0 : Int) (a0_1 : Int) (a0_2 : Int) (a0_3 : Int) (a0_4 : Int) (a1 : Int) (r1 : Int) (r2 : Int) (r3 : Int) (r4 : Int) (r5 : Int) (w : World) (h : spec_l21Award.f a0_0 a0_1 a0_2 a0_3 a0_4 a1 = some (r1, r2, r3, r4, r5)) :
    Calls Try.prog 58 #[.agg #[.int .i64 a0_0, .int .i64 a0_1, .int .i64 a0_2, .int .i64 a0_3, .int .i64 a0_4], .int .i64 a1] w fun e w' => e = .returned (.agg #[.int .i64 r1, .int .i64 r2, .int .i64 r3, .int .i64 r4, .int .i64 r5]) ∧ Below w.heap.size w w' := by
  unfold spec_l21Award.f at h
  by_cases hc : a0_0 = a1
  · rw [if_pos hc] at h
    have hb : (a0_0 == a1) = true := beq_iff_eq.mpr hc
    clear hc
    simp only [Option.some.injEq, Prod.mk.injEq] at h
    obtain ⟨rfl, rfl, rfl, rfl, rfl⟩ := h
    go_enter Try.func58, Try.ntmps58
    go_wp2
    exact bodyPost_ret (v := .agg #[.int .i64 _, .int .i64 _, .int .i64 _, .int .i64 _, .int .i64 _]) (by simp [results, Try.results58, go_sem]) rfl ⟨rfl, (by repeat (first | exact Below.refl _ _ | apply below_alloc | apply pw_below_drewN | apply below_drew1 | refine below_set ?_ (by simp; try omega)))⟩
  · rw [if_neg hc] at h
    have hb : (a0_0 == a1) = false := beq_eq_false_iff_ne.mpr hc
    clear hc
    simp only [Option.some.injEq, Prod.mk.injEq] at h
    obtain ⟨rfl, rfl, rfl, rfl, rfl⟩ := h
    go_enter Try.func58, Try.ntmps58
    go_wp2
    exact bodyPost_ret (v := .agg #[.int .i64 _, .int .i64 _, .int .i64 _, .int .i64 _, .int .i64 _]) (by simp [results, Try.results58, go_sem]) rfl ⟨rfl, (by repeat (first | exact Below.refl _ _ | apply below_alloc | apply pw_below_drewN | apply below_drew1 | refine below_set ?_ (by simp; try omega)))⟩
end Go.Proofs.Ythfefanapneocaa.Q
section
namespace Go.Proofs.Ythfefanapneocaa.Q
open Go.RowKit Go.Proofs.YthfefanapneocaaW.PrintWords Go.Proofs.YthfefanapneocaaW.PrintLast Go.Proofs.YthfefanapneocaaW.PrintMore
attribute [local go_sem] max2_int min2_int max_two min_two max_three min_three max_four min_four
set_option linter.unusedVariables false
set_option linter.unusedSimpArgs false
set_option maxRecDepth 100000
set_option maxHeartbeats 8000000
mutual
def spec_Decide.j0 : Nat → List (S50) → Bool → List (S139) → Int → Int → Int → List Int → Bool → List (S95) → List Int → List Int → Option ((List (S139)) × Int × Int × Int × List Int × Bool × (List (S95)) × List Int × List Int × Bool)
 | 0, _, _, _, _, _, _, _, _, _, _, _ => none
 | k + 1, x1, x16, x200000, x200001, x200002, x200003, x200004, x200005, x200006, x200007, x200008 => if x16 = true then (some (([] : List (S139)), 0, 0, 0, ([] : List Int), false, ([] : List (S95)), ([] : List Int), ([] : List Int), false)) else ((spec_l16Copy.f x200000 x200001 x200002 x200003 x200004 x200005 x200006 x200007 x200008).bind fun bt202 => (spec_Decide.l0 k x1 (x1.length : Int) 0 x200000 x200001 x200002 x200003 x200004 x200005 x200006 x200007 x200008 bt202.1 bt202.2.1 bt202.2.2.1 bt202.2.2.2.1 bt202.2.2.2.2.1 bt202.2.2.2.2.2.1 bt202.2.2.2.2.2.2.1 bt202.2.2.2.2.2.2.2.1 bt202.2.2.2.2.2.2.2.2))
def spec_Decide.l0 : Nat → List (S50) → Int → Int → List (S139) → Int → Int → Int → List Int → Bool → List (S95) → List Int → List Int → List (S139) → Int → Int → Int → List Int → Bool → List (S95) → List Int → List Int → Option ((List (S139)) × Int × Int × Int × List Int × Bool × (List (S95)) × List Int × List Int × Bool)
 | 0, _, _, _, _, _, _, _, _, _, _, _, _, _, _, _, _, _, _, _, _, _ => none
 | k + 1, x20, x21, x22, x200000, x200001, x200002, x200003, x200004, x200005, x200006, x200007, x200008, x222000, x222001, x222002, x222003, x222004, x222005, x222006, x222007, x222008 => if x22 < x21 then (if 0 ≤ x22 then (if x22 < (x20.length : Int) then ((spec_ProtestOk.f k x200000 x200001 x200002 x200003 x200004 x200005 x200006 x200007 x200008 ((rd_T50 x20 x22).f0) ((rd_T50 x20 x22).f1) ((rd_T50 x20 x22).f2)).bind fun t224 => (if t224 = true then (if (rd_T50 x20 x22).f2 = true then (if 0 ≤ ((rd_T50 x20 x22).f1) then (if ((rd_T50 x20 x22).f1) < (x200006.length : Int) then ((spec_l21Award.f ((rd_T95 x200006 ((rd_T50 x20 x22).f1)).f0) ((rd_T95 x200006 ((rd_T50 x20 x22).f1)).f1) ((rd_T95 x200006 ((rd_T50 x20 x22).f1)).f2) ((rd_T95 x200006 ((rd_T50 x20 x22).f1)).f3) ((rd_T95 x200006 ((rd_T50 x20 x22).f1)).f4) ((rd_T50 x20 x22).f0)).bind fun bt226 => (if ((rd_T50 x20 x22).f1) < (x222006.length : Int) then (spec_Decide.l0 k x20 x21 (wrap64 (x22 + 1)) x200000 x200001 x200002 x200003 x200004 x200005 x200006 x200007 x200008 x222000 x222001 x222002 x222003 x222004 x222005 (x222006.set (((rd_T50 x20 x22).f1) : Int).toNat (⟨bt226.1, bt226.2.1, bt226.2.2.1, bt226.2.2.2.1, bt226.2.2.2.2⟩ : S95)) x222007 x222008) else (none))) else (none)) else (none)) else (if 0 ≤ ((rd_T50 x20 x22).f1) then (if ((rd_T50 x20 x22).f1) < (x200006.length : Int) then (if ((rd_T50 x20 x22).f1) < (x222006.length : Int) then (spec_Decide.l0 k x20 x21 (wrap64 (x22 + 1)) x200000 x200001 x200002 x200003 x200004 x200005 x200006 x200007 x200008 x222000 x222001 x222002 x222003 x222004 x222005 (x222006.set (((rd_T50 x20 x22).f1) : Int).toNat (⟨(rd_T95 x200006 ((rd_T50 x20 x22).f1)).f0, (rd_T95 x200006 ((rd_T50 x20 x22).f1)).f1, (rd_T95 x200006 ((rd_T50 x20 x22).f1)).f2, (rd_T95 x200006 ((rd_T50 x20 x22).f1)).f3, (rd_T95 x200006 ((rd_T50 x20 x22).f1)).f4⟩ : S95)) x222007 x222008) else (none)) else (none)) else (none))) else (some (([] : List (S139)), 0, 0, 0, ([] : List Int), false, ([] : List (S95)), ([] : List Int), ([] : List Int), false)))) else (none)) else (none)) else (some (x222000, x222001, x222002, x222003, x222004, x222005, x222006, x222007, x222008, true))
end
def spec_Decide.f (k : Nat) (l0_0 : List (S139)) (a0_1 : Int) (a0_2 : Int) (a0_3 : Int) (l0_4 : List Int) (a0_5 : Bool) (l0_6 : List (S95)) (l0_7 : List Int) (l0_8 : List Int) (l1 : List (S50)) : Option ((List (S139)) × Int × Int × Int × List Int × Bool × (List (S95)) × List Int × List Int × Bool) := (spec_BookOk.f k l0_0 a0_1 a0_2 a0_3 l0_4 a0_5 l0_6 l0_7 l0_8).bind fun t201 => (if t201 = true then (spec_Decide.j0 k l1 (decide ((l1.length : Int) > 6)) l0_0 a0_1 a0_2 a0_3 l0_4 a0_5 l0_6 l0_7 l0_8) else (spec_Decide.j0 k l1 true l0_0 a0_1 a0_2 a0_3 l0_4 a0_5 l0_6 l0_7 l0_8))
def spec_Decide.T10 : Bool × List (List Nat × List Nat) := (true, [([], []), ([0], [0]), ([], []), ([2], [2]), ([], []), ([4], [4]), ([], []), ([6], [6]), ([5, 7], [5, 7]), ([8], [8]), ([], []), ([10], [10]), ([9, 11], [9, 11]), ([1, 3, 0, 1, 2, 3, 4, 5, 6, 7, 8, 9, 10, 11, 12], [1, 3]), ([13, 12, 12, 0, 1, 2, 3, 4, 5, 6, 7, 8, 9, 10, 11, 12], [12, 13])])
def spec_Decide.B10 : List Nat := [0, 1, 0, 4, 0, 16, 0, 64, 240, 496, 0, 1024, 4080, 8191, 16383]
theorem spec_Decide.tab10 : rtab .any (opsOf Try.f12 10) = spec_Decide.T10 := by kernel_rfl
theorem spec_Decide.bits10 : waitsOk spec_Decide.T10.2 spec_Decide.B10 = true := by kernel_rfl
def spec_Decide.T11 : Bool × List (List Nat × List Nat) := (true, [([], []), ([0], [0]), ([], []), ([2], [2]), ([], []), ([4], [4]), ([], []), ([6], [6]), ([5, 7], [5, 7]), ([8], [8]), ([1, 3, 0, 1, 2, 3, 4, 5, 6, 7, 8, 9], [1, 3]), ([10, 9, 0, 1, 2, 3, 4, 5, 6, 7, 8, 9], [9, 10])])
def spec_Decide.B11 : List Nat := [0, 1, 0, 4, 0, 16, 0, 64, 240, 496, 1023, 2047]
theorem spec_Decide.tab11 : rtab .any (opsOf Try.f12 11) = spec_Decide.T11 := by kernel_rfl
theorem spec_Decide.bits11 : waitsOk spec_Decide.T11.2 spec_Decide.B11 = true := by kernel_rfl
theorem spec_Decide.calls (k : Nat) (A0_0 : Option Addr) (c0_0 : Nat) (l0_0 : List (S139)) (a0_1 : Int) (a0_2 : Int) (a0_3 : Int) (A0_4 : Option Addr) (c0_4 : Nat) (l0_4 : List Int) (a0_5 : Bool) (A0_6 : Option Addr) (c0_6 : Nat) (l0_6 : List (S95)) (A0_7 : Option Addr) (c0_7 : Nat) (l0_7 : List Int) (A0_8 : Option Addr) (c0_8 : Nat) (l0_8 : List Int) (A1 : Option Addr) (c1 : Nat) (l1 : List (S50)) (r1 : List (S139)) (r2 : Int) (r3 : Int) (r4 : Int) (r5 : List Int) (r6 : Bool) (r7 : List (S95)) (r8 : List Int) (r9 : List Int) (r10 : Bool) (w : World) (hr0_0 : Kd.C k139 w A0_0 l0_0.length l0_0) (hc0_0 : l0_0.length ≤ c0_0) (hr0_4 : Kd.C (Kd.int .i64) w A0_4 l0_4.length l0_4) (hc0_4 : l0_4.length ≤ c0_4) (hr0_6 : Kd.C k95 w A0_6 l0_6.length l0_6) (hc0_6 : l0_6.length ≤ c0_6) (hr0_7 : Kd.C (Kd.int .i64) w A0_7 l0_7.length l0_7) (hc0_7 : l0_7.length ≤ c0_7) (hr0_8 : Kd.C (Kd.int .i64) w A0_8 l0_8.length l0_8) (hc0_8 : l0_8.length ≤ c0_8) (hr1 : Kd.C k50 w A1 l1.length l1) (hc1 : l1.length ≤ c1) (h : spec_Decide.f k l0_0 a0_1 a0_2 a0_3 l0_4 a0_5 l0_6 l0_7 l0_8 l1 = some (r1, r2, r3, r4, r5, r6, r7, r8, r9, r10)) :
  Calls Try.prog 12 #[.agg #[.slice A0_0 l0_0.length c0_0, .int .i64 a0_1, .int .i64 a0_2, .int .i64 a0_3, .slice A0_4 l0_4.length c0_4, .bool a0_5, .slice A0_6 l0_6.length c0_6, .slice A0_7 l0_7.length c0_7, .slice A0_8 l0_8.length c0_8], .slice A1 l1.length c1] w fun e w' => ∃ v0_ v4_ v6_ v7_ v8_ : Value, e = .returned (.tuple #[.agg #[v0_, .int .i64 r2, .int .i64 r3, .int .i64 r4, v4_, .bool r6, v6_, v7_, v8_], .bool r10]) ∧ Kd.R k139 139 w' w.heap.size (fun _ => True) v0_ r1 ∧ Kd.R (Kd.int .i64) 3 w' w.heap.size (fun k_ => some k_ ≠ (v7_ : Value).ownBlock ∧ some k_ ≠ (v8_ : Value).ownBlock) v4_ r5 ∧ Kd.R k95 95 w' w.heap.size (fun _ => True) v6_ r7 ∧ Kd.R (Kd.int .i64) 3 w' w.heap.size (fun k_ => some k_ ≠ (v4_ : Value).ownBlock ∧ some k_ ≠ (v8_ : Value).ownBlock) v7_ r8 ∧ Kd.R (Kd.int .i64) 3 w' w.heap.size (fun k_ => some k_ ≠ (v4_ : Value).ownBlock ∧ some k_ ≠ (v7_ : Value).ownBlock) v8_ r9 ∧ Below w.heap.size w w' := by
 have hu36 := Try.underlying36
 have hu50 := Try.underlying50
 have hu95 := Try.underlying95
 have HR0_0 := dk hr0_0
 have HC0_0 := dk hc0_0
 clear hr0_0 hc0_0
 have HR0_4 := dk hr0_4
 have HC0_4 := dk hc0_4
 clear hr0_4 hc0_4
 have HR0_6 := dk hr0_6
 have HC0_6 := dk hc0_6
 clear hr0_6 hc0_6
 have HR0_7 := dk hr0_7
 have HC0_7 := dk hc0_7
 clear hr0_7 hc0_7
 have HR0_8 := dk hr0_8
 have HC0_8 := dk hc0_8
 clear hr0_8 hc0_8
 have HR1 := dk hr1
 have HC1 := dk hc1
 clear hr1 hc1
 have HB := dk (Below.refl w.heap.size w)
 have H : ((spec_BookOk.f k l0_0 a0_1 a0_2 a0_3 l0_4 a0_5 l0_6 l0_7 l0_8).bind fun t201 => (if t201 = true then (spec_Decide.j0 k l1 (decide ((l1.length : Int) > 6)) l0_0 a0_1 a0_2 a0_3 l0_4 a0_5 l0_6 l0_7 l0_8) else (spec_Decide.j0 k l1 true l0_0 a0_1 a0_2 a0_3 l0_4 a0_5 l0_6 l0_7 l0_8))) = some (r1, r2, r3, r4, r5, r6, r7, r8, r9, r10) := h
 clear h
 have HC3 := dk H
 clear H
 go_enter Try.func12, Try.ntmps12
 go_upto_region 1 with (first | ((with_reducible refine gate_dst (N := 2) rfl ?_); (try (refine gate_guard (by rfl) ?_; dsimp only)); refine bx (N := 2) (cs := #[.slice A0_0 l0_0.length c0_0, .int .i64 a0_1, .int .i64 a0_2, .int .i64 a0_3, .slice A0_4 l0_4.length c0_4, .bool a0_5, .slice A0_6 l0_6.length c0_6, .slice A0_7 l0_7.length c0_7, .slice A0_8 l0_8.length c0_8]) (t := 36) ?_; intro gb199 hg w4 hbox hb; have BK199 := dk (hbox); have GW199 := gs hg HB; have GE199 := gs hg HB; replace HB := hs_ HB hb; clear hb hbox hg) | ((with_reducible refine gate_dst (N := 4) rfl ?_); (try (refine gate_guard (by rfl) ?_; dsimp only)); refine bx (N := 4) (cs := #[.slice none 0 0, .int .i64 0, .int .i64 0, .int .i64 0, .slice none 0 0, .bool false, .slice none 0 0, .slice none 0 0, .slice none 0 0]) (t := 36) ?_; intro gb200 hg w5 hbox hb; have BK200 := dk (hbox); have GW200 := gs hg HB; have GE200 := gs hg HB; replace HB := hs_ HB hb; have NB199_200 := gn hg BK199; have NB200_199 := gm hg BK199; replace BK199 := kb BK199 hb; clear hb hbox hg))
 (try simp only [Act.put, List.setIfInBounds_toArray, List.set_cons_zero, List.set_cons_succ])
 go_cut [16] (fun v16 wc => ∃ (kq : Nat) (x16_2 : Bool), v16 = .bool x16_2 ∧ Aside0 (spec_Decide.j0 kq l1 x16_2 l0_0 a0_1 a0_2 a0_3 l0_4 a0_5 l0_6 l0_7 l0_8 = some (r1, r2, r3, r4, r5, r6, r7, r8, r9, r10)) ∧ Aside0 (kq ≤ k) ∧ Aside0 (wc.heap[gb199]? = some (.cells #[(.slice A0_0 l0_0.length c0_0), .int .i64 a0_1, .int .i64 a0_2, .int .i64 a0_3, (.slice A0_4 l0_4.length c0_4), .bool a0_5, (.slice A0_6 l0_6.length c0_6), (.slice A0_7 l0_7.length c0_7), (.slice A0_8 l0_8.length c0_8)] 36 (0, 0))) ∧ Aside0 (wc.heap[gb200]? = some (.cells #[(.slice none 0 0), .int .i64 0, .int .i64 0, .int .i64 0, (.slice none 0 0), .bool false, (.slice none 0 0), (.slice none 0 0), (.slice none 0 0)] 36 (0, 0))) ∧ Aside0 (Below w.heap.size w wc))
 case first =>
  have H := HC3.out
  clear HC3
  replace H := Option.bind_eq_some_iff.mp H
  obtain ⟨t201, A60, H⟩ := H
  replace H : (if t201 = true then (spec_Decide.j0 k l1 (decide ((l1.length : Int) > 6)) l0_0 a0_1 a0_2 a0_3 l0_4 a0_5 l0_6 l0_7 l0_8) else (spec_Decide.j0 k l1 true l0_0 a0_1 a0_2 a0_3 l0_4 a0_5 l0_6 l0_7 l0_8)) = some (r1, r2, r3, r4, r5, r6, r7, r8, r9, r10) := H
  have A6 := dk A60
  clear A60
  by_cases c7 : t201 = true
  ·subst c7
   have H1 : (spec_Decide.j0 k l1 (decide ((l1.length : Int) > 6)) l0_0 a0_1 a0_2 a0_3 l0_4 a0_5 l0_6 l0_7 l0_8) = some (r1, r2, r3, r4, r5, r6, r7, r8, r9, r10) := by rw [if_pos rfl] at H; exact H
   clear H
   have H := H1
   clear H1
   have H' := dk H
   clear H
   have hnb8 := NB199_200.out
   have hnc8 := NB200_199.out
   have ⟨z9_0, z9_1, z9_2, z9_3, z9_4, z9_5, z9_6, z9_7, z9_8, v9_0, v9_1, v9_2, v9_3, v9_4, v9_5, v9_6, v9_7, v9_8⟩ := rz9 BK199
   go_wp2_with (first | ((with_reducible refine gate_callee (f := 55) rfl ?_); refine gl (some 10) Try.func55 #[.agg #[.slice A0_0 l0_0.length c0_0, .int .i64 a0_1, .int .i64 a0_2, .int .i64 a0_3, .slice A0_4 l0_4.length c0_4, .bool a0_5, .slice A0_6 l0_6.length c0_6, .slice A0_7 l0_7.length c0_7, .slice A0_8 l0_8.length c0_8]] ?_; (with_reducible refine (spec_BookOk.calls k _ _ l0_0 a0_1 a0_2 a0_3 _ _ l0_4 a0_5 _ _ l0_6 _ _ l0_7 _ _ l0_8 true _ ?side1 ?side2 ?side3 ?side4 ?side5 ?side6 ?side7 ?side8 ?side9 ?side10 A6.out).mono ?_); (case side1 => exact cc HR0_0 HB); (case side2 => exact HC0_0.out); (case side3 => exact cc HR0_4 HB); (case side4 => exact HC0_4.out); (case side5 => exact cc HR0_6 HB); (case side6 => exact HC0_6.out); (case side7 => exact cc HR0_7 HB); (case side8 => exact HC0_7.out); (case side9 => exact cc HR0_8 HB); (case side10 => exact HC0_8.out); rintro e w10 ⟨rfl, hb⟩; refine ⟨_, rfl, ?_⟩; replace BK199 := kb BK199 hb; replace BK200 := kb BK200 hb; replace HB := hs_ HB hb; (try clear hb hb2 hk hi)))
   go_meet
   case rel => exact ⟨_, (decide ((l1.length : Int) > 6)), e2_, H', ⟨by first | omega | exact Nat.le_refl _⟩, ⟨bk BK199⟩, ⟨bk BK200⟩, ⟨bb HB⟩⟩
  ·replace c7 := Bool.eq_false_iff.mpr c7
   subst c7
   have H1 : (spec_Decide.j0 k l1 true l0_0 a0_1 a0_2 a0_3 l0_4 a0_5 l0_6 l0_7 l0_8) = some (r1, r2, r3, r4, r5, r6, r7, r8, r9, r10) := by rw [if_neg (show ¬ (false = true) by decide)] at H; exact H
   clear H
   have H := H1
   clear H1
   have H' := dk H
   clear H
   have hnb11 := NB199_200.out
   have hnc11 := NB200_199.out
   have ⟨z12_0, z12_1, z12_2, z12_3, z12_4, z12_5, z12_6, z12_7, z12_8, v12_0, v12_1, v12_2, v12_3, v12_4, v12_5, v12_6, v12_7, v12_8⟩ := rz9 BK199
   go_wp2_with (first | ((with_reducible refine gate_callee (f := 55) rfl ?_); refine gl (some 10) Try.func55 #[.agg #[.slice A0_0 l0_0.length c0_0, .int .i64 a0_1, .int .i64 a0_2, .int .i64 a0_3, .slice A0_4 l0_4.length c0_4, .bool a0_5, .slice A0_6 l0_6.length c0_6, .slice A0_7 l0_7.length c0_7, .slice A0_8 l0_8.length c0_8]] ?_; (with_reducible refine (spec_BookOk.calls k _ _ l0_0 a0_1 a0_2 a0_3 _ _ l0_4 a0_5 _ _ l0_6 _ _ l0_7 _ _ l0_8 false _ ?side1 ?side2 ?side3 ?side4 ?side5 ?side6 ?side7 ?side8 ?side9 ?side10 A6.out).mono ?_); (case side1 => exact cc HR0_0 HB); (case side2 => exact HC0_0.out); (case side3 => exact cc HR0_4 HB); (case side4 => exact HC0_4.out); (case side5 => exact cc HR0_6 HB); (case side6 => exact HC0_6.out); (case side7 => exact cc HR0_7 HB); (case side8 => exact HC0_7.out); (case side9 => exact cc HR0_8 HB); (case side10 => exact HC0_8.out); rintro e w13 ⟨rfl, hb⟩; refine ⟨_, rfl, ?_⟩; replace BK199 := kb BK199 hb; replace BK200 := kb BK200 hb; replace HB := hs_ HB hb; (try clear hb hb2 hk hi)))
   go_meet
   case rel => exact ⟨_, (true), e2_, H', ⟨by first | omega | exact Nat.le_refl _⟩, ⟨bk BK199⟩, ⟨bk BK200⟩, ⟨bb HB⟩⟩
 case rest =>
  clear HC3
  (try clear c1)
  (try clear p2)
  (try clear c5)
  (try clear c7)
  (try clear c8)
  (try clear c11)
  (try clear c12)
  (try clear z12_0 z12_1 z12_2 z12_3 z12_4 z12_5 z12_6 z12_7 z12_8)
  (try clear z9_0 z9_1 z9_2 z9_3 z9_4 z9_5 z9_6 z9_7 z9_8)
  (try clear v12_0 v12_1 v12_2 v12_3 v12_4 v12_5 v12_6 v12_7 v12_8)
  (try clear v9_0 v9_1 v9_2 v9_3 v9_4 v9_5 v9_6 v9_7 v9_8)
  obtain ⟨kq, x16_2, rfl, HA, HJ2, BK199, BK200, HB⟩ := hcut
  cases kq with
  | zero => exact absurd HA.out (by simp [spec_Decide.j0])
  | succ kj2 =>
   have H := HA.out
   clear HA
   simp only [spec_Decide.j0] at H
   by_cases c14 : x16_2 = true
   ·subst c14
    have H1 : (some (([] : List (S139)), 0, 0, 0, ([] : List Int), false, ([] : List (S95)), ([] : List Int), ([] : List Int), false)) = some (r1, r2, r3, r4, r5, r6, r7, r8, r9, r10) := by rw [if_pos rfl] at H; exact H
    clear H
    have H := H1
    clear H1
    simp only [Option.some.injEq, Prod.mk.injEq] at H
    obtain ⟨rfl, rfl, rfl, rfl, rfl, rfl, rfl, rfl, rfl, rfl⟩ := H
    have hnb15 := NB200_199.out
    have hnc15 := NB199_200.out
    have ⟨z16_0, z16_1, z16_2, z16_3, z16_4, z16_5, z16_6, z16_7, z16_8, v16_0, v16_1, v16_2, v16_3, v16_4, v16_5, v16_6, v16_7, v16_8⟩ := rz9 BK200
    go_wp2
    refine bodyPost_ret (results_ct rfl _ _ gb200 36 #[.slice none 0 0, .int .i64 0, .int .i64 0, .int .i64 0, .slice none 0 0, .bool false, .slice none 0 0, .slice none 0 0, .slice none 0 0] (0, 0) _ rfl (by (with_reducible repeat (first | refine blk_drewN ?_ _ | refine blk_drew ?_ | refine blk_alloc ?_ _)); refine blk_put (cs := #[.slice none 0 0, .int .i64 0, .int .i64 0, .int .i64 0, .slice none 0 0, .bool false, .slice none 0 0, .slice none 0 0, .slice none 0 0]) ?_ 8 _ rfl; (with_reducible repeat (first | refine blk_drewN ?_ _ | refine blk_drew ?_ | refine blk_alloc ?_ _)); refine blk_put (cs := #[.slice none 0 0, .int .i64 0, .int .i64 0, .int .i64 0, .slice none 0 0, .bool false, .slice none 0 0, .slice none 0 0, .slice none 0 0]) ?_ 7 _ rfl; (with_reducible repeat (first | refine blk_drewN ?_ _ | refine blk_drew ?_ | refine blk_alloc ?_ _)); refine blk_put (cs := #[.slice none 0 0, .int .i64 0, .int .i64 0, .int .i64 0, .slice none 0 0, .bool false, .slice none 0 0, .slice none 0 0, .slice none 0 0]) ?_ 6 _ rfl; (with_reducible repeat (first | refine blk_drewN ?_ _ | refine blk_drew ?_ | refine blk_alloc ?_ _)); refine blk_put (cs := #[.slice none 0 0, .int .i64 0, .int .i64 0, .int .i64 0, .slice none 0 0, .bool false, .slice none 0 0, .slice none 0 0, .slice none 0 0]) ?_ 5 _ rfl; (with_reducible repeat (first | refine blk_drewN ?_ _ | refine blk_drew ?_ | refine blk_alloc ?_ _)); refine blk_put (cs := #[.slice none 0 0, .int .i64 0, .int .i64 0, .int .i64 0, .slice none 0 0, .bool false, .slice none 0 0, .slice none 0 0, .slice none 0 0]) ?_ 4 _ rfl; (with_reducible repeat (first | refine blk_drewN ?_ _ | refine blk_drew ?_ | refine blk_alloc ?_ _)); refine blk_put (cs := #[.slice none 0 0, .int .i64 0, .int .i64 0, .int .i64 0, .slice none 0 0, .bool false, .slice none 0 0, .slice none 0 0, .slice none 0 0]) ?_ 3 _ rfl; (with_reducible repeat (first | refine blk_drewN ?_ _ | refine blk_drew ?_ | refine blk_alloc ?_ _)); refine blk_put (cs := #[.slice none 0 0, .int .i64 0, .int .i64 0, .int .i64 0, .slice none 0 0, .bool false, .slice none 0 0, .slice none 0 0, .slice none 0 0]) ?_ 2 _ rfl; (with_reducible repeat (first | refine blk_drewN ?_ _ | refine blk_drew ?_ | refine blk_alloc ?_ _)); refine blk_put (cs := #[.slice none 0 0, .int .i64 0, .int .i64 0, .int .i64 0, .slice none 0 0, .bool false, .slice none 0 0, .slice none 0 0, .slice none 0 0]) ?_ 1 _ rfl; (with_reducible repeat (first | refine blk_drewN ?_ _ | refine blk_drew ?_ | refine blk_alloc ?_ _)); refine blk_put (cs := #[.slice none 0 0, .int .i64 0, .int .i64 0, .int .i64 0, .slice none 0 0, .bool false, .slice none 0 0, .slice none 0 0, .slice none 0 0]) ?_ 0 _ rfl; (with_reducible repeat (first | refine blk_drewN ?_ _ | refine blk_drew ?_ | refine blk_alloc ?_ _)); exact BK200.out) Try.underlying36 rfl (by kernel_rfl)) rfl ?_
    exact ⟨_, _, _, _, _, ee, by first | exact Kd.R_nil _ _ _ _ _ | exact Kd.N_nil _ _ _ _ _ | exact Kd.V_nil _ _ _ _ _ | exact Kd.Q_nil _ _ _ _ _ | exact Kd.S_nil _ _ _ _ _, by first | exact Kd.R_nil _ _ _ _ _ | exact Kd.N_nil _ _ _ _ _ | exact Kd.V_nil _ _ _ _ _ | exact Kd.Q_nil _ _ _ _ _ | exact Kd.S_nil _ _ _ _ _, by first | exact Kd.R_nil _ _ _ _ _ | exact Kd.N_nil _ _ _ _ _ | exact Kd.V_nil _ _ _ _ _ | exact Kd.Q_nil _ _ _ _ _ | exact Kd.S_nil _ _ _ _ _, by first | exact Kd.R_nil _ _ _ _ _ | exact Kd.N_nil _ _ _ _ _ | exact Kd.V_nil _ _ _ _ _ | exact Kd.Q_nil _ _ _ _ _ | exact Kd.S_nil _ _ _ _ _, by first | exact Kd.R_nil _ _ _ _ _ | exact Kd.N_nil _ _ _ _ _ | exact Kd.V_nil _ _ _ _ _ | exact Kd.Q_nil _ _ _ _ _ | exact Kd.S_nil _ _ _ _ _, bb HB⟩
   ·replace c14 := Bool.eq_false_iff.mpr c14
    subst c14
    have H1 : ((spec_l16Copy.f l0_0 a0_1 a0_2 a0_3 l0_4 a0_5 l0_6 l0_7 l0_8).bind fun bt202 => (spec_Decide.l0 kj2 l1 (l1.length : Int) 0 l0_0 a0_1 a0_2 a0_3 l0_4 a0_5 l0_6 l0_7 l0_8 bt202.1 bt202.2.1 bt202.2.2.1 bt202.2.2.2.1 bt202.2.2.2.2.1 bt202.2.2.2.2.2.1 bt202.2.2.2.2.2.2.1 bt202.2.2.2.2.2.2.2.1 bt202.2.2.2.2.2.2.2.2)) = some (r1, r2, r3, r4, r5, r6, r7, r8, r9, r10) := by rw [if_neg (show ¬ (false = true) by decide)] at H; exact H
    clear H
    have H := H1
    clear H1
    replace H := Option.bind_eq_some_iff.mp H
    obtain ⟨⟨t202, t205, t206, t207, t208, t211, t212, t215, t218⟩, A170, H⟩ := H
    replace H : (spec_Decide.l0 kj2 l1 (l1.length : Int) 0 l0_0 a0_1 a0_2 a0_3 l0_4 a0_5 l0_6 l0_7 l0_8 t202 t205 t206 t207 t208 t211 t212 t215 t218) = some (r1, r2, r3, r4, r5, r6, r7, r8, r9, r10) := H
    have A17 := dk A170
    clear A170
    have H' := dk H
    clear H
    have hnb18 := NB199_200.out
    have hnc18 := NB200_199.out
    have ⟨z19_0, z19_1, z19_2, z19_3, z19_4, z19_5, z19_6, z19_7, z19_8, v19_0, v19_1, v19_2, v19_3, v19_4, v19_5, v19_6, v19_7, v19_8⟩ := rz9 BK199
    go_wp2_with (first | ((with_reducible refine gate_callee (f := 56) rfl ?_); refine gl (some 19) Try.func56 #[.agg #[.slice A0_0 l0_0.length c0_0, .int .i64 a0_1, .int .i64 a0_2, .int .i64 a0_3, .slice A0_4 l0_4.length c0_4, .bool a0_5, .slice A0_6 l0_6.length c0_6, .slice A0_7 l0_7.length c0_7, .slice A0_8 l0_8.length c0_8]] ?_; (with_reducible refine (spec_l16Copy.calls _ _ l0_0 a0_1 a0_2 a0_3 _ _ l0_4 a0_5 _ _ l0_6 _ _ l0_7 _ _ l0_8 t202 t205 t206 t207 t208 t211 t212 t215 t218 _ ?side1 ?side2 ?side3 ?side4 ?side5 ?side6 ?side7 ?side8 ?side9 ?side10 A17.out).mono ?_); (case side1 => exact cc HR0_0 HB); (case side2 => exact HC0_0.out); (case side3 => exact cc HR0_4 HB); (case side4 => exact HC0_4.out); (case side5 => exact cc HR0_6 HB); (case side6 => exact HC0_6.out); (case side7 => exact cc HR0_7 HB); (case side8 => exact HC0_7.out); (case side9 => exact cc HR0_8 HB); (case side10 => exact HC0_8.out); rintro e w20 ⟨v203, v209, v213, v216, v219, rfl, ho0, ho1, ho2, ho3, ho4, hb⟩; refine ⟨_, rfl, ?_⟩; have HO204 := kl ho0 HB; have HO210 := kl ho1 HB; have HO214 := kl ho2 HB; have HO217 := kl ho3 HB; have HO220 := kl ho4 HB; replace BK199 := kb BK199 hb; replace BK200 := kb BK200 hb; replace HB := hs_ HB hb; (try clear hb hb2 hk hi ho0 ho1 ho2 ho3 ho4)) | ((with_reducible refine gate_dst (N := 6) rfl ?_); (try (refine gate_guard (by rfl) ?_; dsimp only)); refine bx (N := 6) (cs := #[.slice none 0 0, .int .i64 0, .int .i64 0, .int .i64 0, .slice none 0 0, .bool false, .slice none 0 0, .slice none 0 0, .slice none 0 0]) (t := 36) ?_; intro gb221 hg w21 hbox hb; replace HO204 := kr HO204 hb; replace HO210 := kr HO210 hb; replace HO214 := kr HO214 hb; replace HO217 := kr HO217 hb; replace HO220 := kr HO220 hb; have BK221 := dk (hbox); have GW221 := gs hg HB; have GE221 := gs hg HB; replace HB := hs_ HB hb; have NB199_221 := gn hg BK199; have NB221_199 := gm hg BK199; replace BK199 := kb BK199 hb; have NB200_221 := gn hg BK200; have NB221_200 := gm hg BK200; replace BK200 := kb BK200 hb; clear hb hbox hg; obtain ⟨Ao22, co22, eo22⟩ := Kd.R_slice HO204.out; subst eo22; have hnb23 := NB221_199.out; have hnc23 := NB199_221.out; have hnb24 := NB221_200.out; have hnc24 := NB200_221.out; have ⟨z25_0, z25_1, z25_2, z25_3, z25_4, z25_5, z25_6, z25_7, z25_8, v25_0, v25_1, v25_2, v25_3, v25_4, v25_5, v25_6, v25_7, v25_8⟩ := rz9 BK221; obtain ⟨Ao26, co26, eo26⟩ := Kd.R_slice HO210.out; subst eo26; obtain ⟨Ao27, co27, eo27⟩ := Kd.R_slice HO214.out; subst eo27; obtain ⟨Ao28, co28, eo28⟩ := Kd.R_slice HO217.out; subst eo28; obtain ⟨Ao29, co29, eo29⟩ := Kd.R_slice HO220.out; subst eo29))
    go_loopg [22] kj2 (fun kq v22 w' => ∃ (x22_2 : Int) (x201001_2 : Int) (x201002_2 : Int) (x201003_2 : Int) (x201005_2 : Bool) (x222006_2 : List (S95)) (u222006 : Value), v22 = .int .i64 x22_2 ∧ Aside0 (spec_Decide.l0 kq l1 (l1.length : Int) x22_2 l0_0 a0_1 a0_2 a0_3 l0_4 a0_5 l0_6 l0_7 l0_8 t202 t205 t206 t207 t208 t211 x222006_2 t215 t218 = some (r1, r2, r3, r4, r5, r6, r7, r8, r9, r10)) ∧ Aside0 (kq ≤ kj2) ∧ Aside0 (Kd.R k139 139 w' w.heap.size (fun _ => True) (.slice Ao22 t202.length co22) t202) ∧ Aside0 (Kd.R (Kd.int .i64) 3 w' w.heap.size (fun k_ => nb k_ Ao28 t215.length co28 ∧ nb k_ Ao29 t218.length co29) (.slice Ao26 t208.length co26) t208) ∧ Aside0 (Kd.R k95 95 w' w.heap.size (fun _ => True) u222006 x222006_2) ∧ Aside0 (Kd.R (Kd.int .i64) 3 w' w.heap.size (fun k_ => nb k_ Ao26 t208.length co26 ∧ nb k_ Ao29 t218.length co29) (.slice Ao28 t215.length co28) t215) ∧ Aside0 (Kd.R (Kd.int .i64) 3 w' w.heap.size (fun k_ => nb k_ Ao26 t208.length co26 ∧ nb k_ Ao28 t215.length co28) (.slice Ao29 t218.length co29) t218) ∧ Aside0 (w'.heap[gb199]? = some (.cells #[(.slice A0_0 l0_0.length c0_0), .int .i64 a0_1, .int .i64 a0_2, .int .i64 a0_3, (.slice A0_4 l0_4.length c0_4), .bool a0_5, (.slice A0_6 l0_6.length c0_6), (.slice A0_7 l0_7.length c0_7), (.slice A0_8 l0_8.length c0_8)] 36 (0, 0))) ∧ Aside0 (w'.heap[gb200]? = some (.cells #[(.slice none 0 0), .int .i64 x201001_2, .int .i64 x201002_2, .int .i64 x201003_2, (.slice none 0 0), .bool x201005_2, (.slice none 0 0), (.slice none 0 0), (.slice none 0 0)] 36 (0, 0))) ∧ Aside0 (w'.heap[gb221]? = some (.cells #[(.slice Ao22 t202.length co22), .int .i64 t205, .int .i64 t206, .int .i64 t207, (.slice Ao26 t208.length co26), .bool t211, u222006, (.slice Ao28 t215.length co28), (.slice Ao29 t218.length co29)] 36 (0, 0))) ∧ Aside0 (Below w.heap.size w w'))
    case atStart => exact ⟨(0), (0), (0), (0), (false), (t212), (.slice Ao27 t212.length co27), e2_, H', ⟨Nat.le_refl _⟩, ⟨rf HO204 BK221 (fun _ hk => trivial)⟩, ⟨rf HO210 BK221 (fun _ hk => ⟨hk.1.1, hk.1.2⟩)⟩, ⟨rf HO214 BK221 (fun _ hk => trivial)⟩, ⟨rf HO217 BK221 (fun _ hk => ⟨hk.1.1, hk.1.2⟩)⟩, ⟨rf HO220 BK221 (fun _ hk => ⟨hk.1.1, hk.1.2⟩)⟩, ⟨bf NB199_221.out BK199⟩, ⟨bf NB200_221.out BK200⟩, ⟨by (with_reducible repeat (first | refine blk_drewN ?_ _ | refine blk_drew ?_ | refine blk_alloc ?_ _)); refine blk_put (cs := #[.slice Ao22 t202.length co22, .int .i64 t205, .int .i64 t206, .int .i64 t207, .slice Ao26 t208.length co26, .bool t211, .slice Ao27 t212.length co27, .slice Ao28 t215.length co28, .slice none 0 0]) ?_ 8 _ rfl; (with_reducible repeat (first | refine blk_drewN ?_ _ | refine blk_drew ?_ | refine blk_alloc ?_ _)); refine blk_put (cs := #[.slice Ao22 t202.length co22, .int .i64 t205, .int .i64 t206, .int .i64 t207, .slice Ao26 t208.length co26, .bool t211, .slice Ao27 t212.length co27, .slice none 0 0, .slice none 0 0]) ?_ 7 _ rfl; (with_reducible repeat (first | refine blk_drewN ?_ _ | refine blk_drew ?_ | refine blk_alloc ?_ _)); refine blk_put (cs := #[.slice Ao22 t202.length co22, .int .i64 t205, .int .i64 t206, .int .i64 t207, .slice Ao26 t208.length co26, .bool t211, .slice none 0 0, .slice none 0 0, .slice none 0 0]) ?_ 6 _ rfl; (with_reducible repeat (first | refine blk_drewN ?_ _ | refine blk_drew ?_ | refine blk_alloc ?_ _)); refine blk_put (cs := #[.slice Ao22 t202.length co22, .int .i64 t205, .int .i64 t206, .int .i64 t207, .slice Ao26 t208.length co26, .bool false, .slice none 0 0, .slice none 0 0, .slice none 0 0]) ?_ 5 _ rfl; (with_reducible repeat (first | refine blk_drewN ?_ _ | refine blk_drew ?_ | refine blk_alloc ?_ _)); refine blk_put (cs := #[.slice Ao22 t202.length co22, .int .i64 t205, .int .i64 t206, .int .i64 t207, .slice none 0 0, .bool false, .slice none 0 0, .slice none 0 0, .slice none 0 0]) ?_ 4 _ rfl; (with_reducible repeat (first | refine blk_drewN ?_ _ | refine blk_drew ?_ | refine blk_alloc ?_ _)); refine blk_put (cs := #[.slice Ao22 t202.length co22, .int .i64 t205, .int .i64 t206, .int .i64 0, .slice none 0 0, .bool false, .slice none 0 0, .slice none 0 0, .slice none 0 0]) ?_ 3 _ rfl; (with_reducible repeat (first | refine blk_drewN ?_ _ | refine blk_drew ?_ | refine blk_alloc ?_ _)); refine blk_put (cs := #[.slice Ao22 t202.length co22, .int .i64 t205, .int .i64 0, .int .i64 0, .slice none 0 0, .bool false, .slice none 0 0, .slice none 0 0, .slice none 0 0]) ?_ 2 _ rfl; (with_reducible repeat (first | refine blk_drewN ?_ _ | refine blk_drew ?_ | refine blk_alloc ?_ _)); refine blk_put (cs := #[.slice Ao22 t202.length co22, .int .i64 0, .int .i64 0, .int .i64 0, .slice none 0 0, .bool false, .slice none 0 0, .slice none 0 0, .slice none 0 0]) ?_ 1 _ rfl; (with_reducible repeat (first | refine blk_drewN ?_ _ | refine blk_drew ?_ | refine blk_alloc ?_ _)); refine blk_put (cs := #[.slice none 0 0, .int .i64 0, .int .i64 0, .int .i64 0, .slice none 0 0, .bool false, .slice none 0 0, .slice none 0 0, .slice none 0 0]) ?_ 0 _ rfl; (with_reducible repeat (first | refine blk_drewN ?_ _ | refine blk_drew ?_ | refine blk_alloc ?_ _)); exact BK221.out⟩, ⟨bb HB⟩⟩
    case round =>
     clear H'
     (try clear c1)
     (try clear c2)
     (try clear p2)
     (try clear c5)
     (try clear c7)
     (try clear c8)
     (try clear c11)
     (try clear c12)
     (try clear c14)
     (try clear c15)
     (try clear c18)
     (try clear c23)
     (try clear c24)
     (try clear z12_0 z12_1 z12_2 z12_3 z12_4 z12_5 z12_6 z12_7 z12_8)
     (try clear z16_0 z16_1 z16_2 z16_3 z16_4 z16_5 z16_6 z16_7 z16_8)
     (try clear z19_0 z19_1 z19_2 z19_3 z19_4 z19_5 z19_6 z19_7 z19_8)
     (try clear z25_0 z25_1 z25_2 z25_3 z25_4 z25_5 z25_6 z25_7 z25_8)
     (try clear z9_0 z9_1 z9_2 z9_3 z9_4 z9_5 z9_6 z9_7 z9_8)
     (try clear v12_0 v12_1 v12_2 v12_3 v12_4 v12_5 v12_6 v12_7 v12_8)
     (try clear v16_0 v16_1 v16_2 v16_3 v16_4 v16_5 v16_6 v16_7 v16_8)
     (try clear v19_0 v19_1 v19_2 v19_3 v19_4 v19_5 v19_6 v19_7 v19_8)
     (try clear v25_0 v25_1 v25_2 v25_3 v25_4 v25_5 v25_6 v25_7 v25_8)
     (try clear v9_0 v9_1 v9_2 v9_3 v9_4 v9_5 v9_6 v9_7 v9_8)
     (try clear p2)
     obtain ⟨x22_2, x201001_2, x201002_2, x201003_2, x201005_2, x222006_2, u222006, rfl, HA, HK2, HO_222000, HO_222004, HO_222006, HO_222007, HO_222008, BK199, BK200, BK221, HB⟩ := hrel
     cases gk with
     | zero => exact absurd HA.out (by simp [spec_Decide.l0])
     | succ k2 =>
      have H := HA.out
      clear HA
      simp only [spec_Decide.l0] at H
      by_cases c30 : x22_2 < (l1.length : Int)
      ·rw [if_pos c30] at H
       have c30b0 : decide (x22_2 < (l1.length : Int)) = true := decide_eq_true c30
       clear c30
       by_cases c31 : 0 ≤ x22_2
       ·rw [if_pos c31] at H
        have c31b0 : decide (0 ≤ x22_2) = true := decide_eq_true c31
        clear c31
        by_cases c32 : x22_2 < (l1.length : Int)
        ·rw [if_pos c32] at H
         have c32b0 : decide (x22_2 < (l1.length : Int)) = true := decide_eq_true c32
         clear c32
         replace H := Option.bind_eq_some_iff.mp H
         obtain ⟨t224, A330, H⟩ := H
         replace H : (if t224 = true then (if (rd_T50 l1 x22_2).f2 = true then (if 0 ≤ ((rd_T50 l1 x22_2).f1) then (if ((rd_T50 l1 x22_2).f1) < (l0_6.length : Int) then ((spec_l21Award.f ((rd_T95 l0_6 ((rd_T50 l1 x22_2).f1)).f0) ((rd_T95 l0_6 ((rd_T50 l1 x22_2).f1)).f1) ((rd_T95 l0_6 ((rd_T50 l1 x22_2).f1)).f2) ((rd_T95 l0_6 ((rd_T50 l1 x22_2).f1)).f3) ((rd_T95 l0_6 ((rd_T50 l1 x22_2).f1)).f4) ((rd_T50 l1 x22_2).f0)).bind fun bt226 => (if ((rd_T50 l1 x22_2).f1) < (x222006_2.length : Int) then (spec_Decide.l0 k2 l1 (l1.length : Int) (wrap64 (x22_2 + 1)) l0_0 a0_1 a0_2 a0_3 l0_4 a0_5 l0_6 l0_7 l0_8 t202 t205 t206 t207 t208 t211 (x222006_2.set (((rd_T50 l1 x22_2).f1) : Int).toNat (⟨bt226.1, bt226.2.1, bt226.2.2.1, bt226.2.2.2.1, bt226.2.2.2.2⟩ : S95)) t215 t218) else (none))) else (none)) else (none)) else (if 0 ≤ ((rd_T50 l1 x22_2).f1) then (if ((rd_T50 l1 x22_2).f1) < (l0_6.length : Int) then (if ((rd_T50 l1 x22_2).f1) < (x222006_2.length : Int) then (spec_Decide.l0 k2 l1 (l1.length : Int) (wrap64 (x22_2 + 1)) l0_0 a0_1 a0_2 a0_3 l0_4 a0_5 l0_6 l0_7 l0_8 t202 t205 t206 t207 t208 t211 (x222006_2.set (((rd_T50 l1 x22_2).f1) : Int).toNat (⟨(rd_T95 l0_6 ((rd_T50 l1 x22_2).f1)).f0, (rd_T95 l0_6 ((rd_T50 l1 x22_2).f1)).f1, (rd_T95 l0_6 ((rd_T50 l1 x22_2).f1)).f2, (rd_T95 l0_6 ((rd_T50 l1 x22_2).f1)).f3, (rd_T95 l0_6 ((rd_T50 l1 x22_2).f1)).f4⟩ : S95)) t215 t218) else (none)) else (none)) else (none))) else (some (([] : List (S139)), 0, 0, 0, ([] : List Int), false, ([] : List (S95)), ([] : List Int), ([] : List Int), false))) = some (r1, r2, r3, r4, r5, r6, r7, r8, r9, r10) := H
         have A33 := dk A330
         clear A330
         by_cases c34 : t224 = true
         ·subst c34
          have H1 : (if (rd_T50 l1 x22_2).f2 = true then (if 0 ≤ ((rd_T50 l1 x22_2).f1) then (if ((rd_T50 l1 x22_2).f1) < (l0_6.length : Int) then ((spec_l21Award.f ((rd_T95 l0_6 ((rd_T50 l1 x22_2).f1)).f0) ((rd_T95 l0_6 ((rd_T50 l1 x22_2).f1)).f1) ((rd_T95 l0_6 ((rd_T50 l1 x22_2).f1)).f2) ((rd_T95 l0_6 ((rd_T50 l1 x22_2).f1)).f3) ((rd_T95 l0_6 ((rd_T50 l1 x22_2).f1)).f4) ((rd_T50 l1 x22_2).f0)).bind fun bt226 => (if ((rd_T50 l1 x22_2).f1) < (x222006_2.length : Int) then (spec_Decide.l0 k2 l1 (l1.length : Int) (wrap64 (x22_2 + 1)) l0_0 a0_1 a0_2 a0_3 l0_4 a0_5 l0_6 l0_7 l0_8 t202 t205 t206 t207 t208 t211 (x222006_2.set (((rd_T50 l1 x22_2).f1) : Int).toNat (⟨bt226.1, bt226.2.1, bt226.2.2.1, bt226.2.2.2.1, bt226.2.2.2.2⟩ : S95)) t215 t218) else (none))) else (none)) else (none)) else (if 0 ≤ ((rd_T50 l1 x22_2).f1) then (if ((rd_T50 l1 x22_2).f1) < (l0_6.length : Int) then (if ((rd_T50 l1 x22_2).f1) < (x222006_2.length : Int) then (spec_Decide.l0 k2 l1 (l1.length : Int) (wrap64 (x22_2 + 1)) l0_0 a0_1 a0_2 a0_3 l0_4 a0_5 l0_6 l0_7 l0_8 t202 t205 t206 t207 t208 t211 (x222006_2.set (((rd_T50 l1 x22_2).f1) : Int).toNat (⟨(rd_T95 l0_6 ((rd_T50 l1 x22_2).f1)).f0, (rd_T95 l0_6 ((rd_T50 l1 x22_2).f1)).f1, (rd_T95 l0_6 ((rd_T50 l1 x22_2).f1)).f2, (rd_T95 l0_6 ((rd_T50 l1 x22_2).f1)).f3, (rd_T95 l0_6 ((rd_T50 l1 x22_2).f1)).f4⟩ : S95)) t215 t218) else (none)) else (none)) else (none))) = some (r1, r2, r3, r4, r5, r6, r7, r8, r9, r10) := by rw [if_pos rfl] at H; exact H
          clear H
          have H := H1
          clear H1
          obtain ⟨bq35, hbq35⟩ : ∃ b_ : Bool, b_ = ((rd_T50 l1 x22_2).f2) := ⟨_, rfl⟩
          replace H : (if bq35 = true then (if 0 ≤ ((rd_T50 l1 x22_2).f1) then (if ((rd_T50 l1 x22_2).f1) < (l0_6.length : Int) then ((spec_l21Award.f ((rd_T95 l0_6 ((rd_T50 l1 x22_2).f1)).f0) ((rd_T95 l0_6 ((rd_T50 l1 x22_2).f1)).f1) ((rd_T95 l0_6 ((rd_T50 l1 x22_2).f1)).f2) ((rd_T95 l0_6 ((rd_T50 l1 x22_2).f1)).f3) ((rd_T95 l0_6 ((rd_T50 l1 x22_2).f1)).f4) ((rd_T50 l1 x22_2).f0)).bind fun bt226 => (if ((rd_T50 l1 x22_2).f1) < (x222006_2.length : Int) then (spec_Decide.l0 k2 l1 (l1.length : Int) (wrap64 (x22_2 + 1)) l0_0 a0_1 a0_2 a0_3 l0_4 a0_5 l0_6 l0_7 l0_8 t202 t205 t206 t207 t208 t211 (x222006_2.set (((rd_T50 l1 x22_2).f1) : Int).toNat (⟨bt226.1, bt226.2.1, bt226.2.2.1, bt226.2.2.2.1, bt226.2.2.2.2⟩ : S95)) t215 t218) else (none))) else (none)) else (none)) else (if 0 ≤ ((rd_T50 l1 x22_2).f1) then (if ((rd_T50 l1 x22_2).f1) < (l0_6.length : Int) then (if ((rd_T50 l1 x22_2).f1) < (x222006_2.length : Int) then (spec_Decide.l0 k2 l1 (l1.length : Int) (wrap64 (x22_2 + 1)) l0_0 a0_1 a0_2 a0_3 l0_4 a0_5 l0_6 l0_7 l0_8 t202 t205 t206 t207 t208 t211 (x222006_2.set (((rd_T50 l1 x22_2).f1) : Int).toNat (⟨(rd_T95 l0_6 ((rd_T50 l1 x22_2).f1)).f0, (rd_T95 l0_6 ((rd_T50 l1 x22_2).f1)).f1, (rd_T95 l0_6 ((rd_T50 l1 x22_2).f1)).f2, (rd_T95 l0_6 ((rd_T50 l1 x22_2).f1)).f3, (rd_T95 l0_6 ((rd_T50 l1 x22_2).f1)).f4⟩ : S95)) t215 t218) else (none)) else (none)) else (none))) = some (r1, r2, r3, r4, r5, r6, r7, r8, r9, r10) := by rw [← hbq35] at H; exact H
          have Nbq35 := dk hbq35
          clear hbq35
          by_cases c36 : bq35 = true
          ·subst c36
           have H1 : (if 0 ≤ ((rd_T50 l1 x22_2).f1) then (if ((rd_T50 l1 x22_2).f1) < (l0_6.length : Int) then ((spec_l21Award.f ((rd_T95 l0_6 ((rd_T50 l1 x22_2).f1)).f0) ((rd_T95 l0_6 ((rd_T50 l1 x22_2).f1)).f1) ((rd_T95 l0_6 ((rd_T50 l1 x22_2).f1)).f2) ((rd_T95 l0_6 ((rd_T50 l1 x22_2).f1)).f3) ((rd_T95 l0_6 ((rd_T50 l1 x22_2).f1)).f4) ((rd_T50 l1 x22_2).f0)).bind fun bt226 => (if ((rd_T50 l1 x22_2).f1) < (x222006_2.length : Int) then (spec_Decide.l0 k2 l1 (l1.length : Int) (wrap64 (x22_2 + 1)) l0_0 a0_1 a0_2 a0_3 l0_4 a0_5 l0_6 l0_7 l0_8 t202 t205 t206 t207 t208 t211 (x222006_2.set (((rd_T50 l1 x22_2).f1) : Int).toNat (⟨bt226.1, bt226.2.1, bt226.2.2.1, bt226.2.2.2.1, bt226.2.2.2.2⟩ : S95)) t215 t218) else (none))) else (none)) else (none)) = some (r1, r2, r3, r4, r5, r6, r7, r8, r9, r10) := by rw [if_pos rfl] at H; exact H
           clear H
           have H := H1
           clear H1
           by_cases c37 : 0 ≤ ((rd_T50 l1 x22_2).f1)
           ·rw [if_pos c37] at H
            have c37b0 : decide (0 ≤ ((rd_T50 l1 x22_2).f1)) = true := decide_eq_true c37
            clear c37
            by_cases c38 : ((rd_T50 l1 x22_2).f1) < (l0_6.length : Int)
            ·rw [if_pos c38] at H
             have c38b0 : decide (((rd_T50 l1 x22_2).f1) < (l0_6.length : Int)) = true := decide_eq_true c38
             clear c38
             replace H := Option.bind_eq_some_iff.mp H
             obtain ⟨⟨t226, t227, t228, t229, t230⟩, A390, H⟩ := H
             replace H : (if ((rd_T50 l1 x22_2).f1) < (x222006_2.length : Int) then (spec_Decide.l0 k2 l1 (l1.length : Int) (wrap64 (x22_2 + 1)) l0_0 a0_1 a0_2 a0_3 l0_4 a0_5 l0_6 l0_7 l0_8 t202 t205 t206 t207 t208 t211 (x222006_2.set (((rd_T50 l1 x22_2).f1) : Int).toNat (⟨t226, t227, t228, t229, t230⟩ : S95)) t215 t218) else (none)) = some (r1, r2, r3, r4, r5, r6, r7, r8, r9, r10) := H
             have A39 := dk A390
             clear A390
             by_cases c40 : ((rd_T50 l1 x22_2).f1) < (x222006_2.length : Int)
             ·rw [if_pos c40] at H
              have c40b0 : decide (((rd_T50 l1 x22_2).f1) < (x222006_2.length : Int)) = true := decide_eq_true c40
              clear c40
              obtain ⟨y231, hy231⟩ : ∃ y_ : List (S95), y_ = (x222006_2.set (((rd_T50 l1 x22_2).f1) : Int).toNat (⟨t226, t227, t228, t229, t230⟩ : S95)) := ⟨_, rfl⟩
              replace H : (spec_Decide.l0 k2 l1 (l1.length : Int) (wrap64 (x22_2 + 1)) l0_0 a0_1 a0_2 a0_3 l0_4 a0_5 l0_6 l0_7 l0_8 t202 t205 t206 t207 t208 t211 y231 t215 t218) = some (r1, r2, r3, r4, r5, r6, r7, r8, r9, r10) := by first | (rw [hy231]; with_reducible exact H) | (have H2_ := (Option.bind_some _ _).symm.trans H; rw [hy231]; with_reducible exact H2_) | (have H2_ := (Option.bind_some _ _).symm.trans H; with_reducible exact H2_) | with_reducible exact H | (rw [hy231]; exact H) | exact H
              have Ny231 := dk hy231
              clear hy231
              have H' := dk H
              clear H
              have p222 : 0 ≤ (x22_2 : Int) := oa
              have q222 : x22_2 < (l1.length : Int) := oa
              obtain ⟨ad222, e222, hx222_0, hx222_1, hx222_2⟩ := at_T50 HR1.out x22_2 p222 q222
              (try rw [← Nbq35.out] at hx222_2)
              cases e222
              replace hx222_0 := hc HB hx222_0
              replace hx222_1 := hc HB hx222_1
              replace hx222_2 := hc HB hx222_2
              replace p222 := eq_true p222
              replace q222 := eq_true q222
              try go_wp2_with (first | ((with_reducible refine gate_dst (N := 8) rfl ?_); (try (refine gate_guard (by rfl) ?_; dsimp only)); refine bx (N := 8) (cs := #[.int .i64 0, .int .i64 0, .bool false]) (t := 50) ?_; intro gb223 hg w42 hbox hb; replace HO_222000 := kr HO_222000 hb; replace HO_222004 := kr HO_222004 hb; replace HO_222006 := kr HO_222006 hb; replace HO_222007 := kr HO_222007 hb; replace HO_222008 := kr HO_222008 hb; have BK223 := dk (hbox); have GW223 := gs hg HB; have GE223 := gs hg HB; replace HB := hs_ HB hb; have NB199_223 := gn hg BK199; have NB223_199 := gm hg BK199; replace BK199 := kb BK199 hb; have NB200_223 := gn hg BK200; have NB223_200 := gm hg BK200; replace BK200 := kb BK200 hb; have NB221_223 := gn hg BK221; have NB223_221 := gm hg BK221; replace BK221 := kb BK221 hb; clear hb hbox hg; have hnb43 := NB223_199.out; have hnc43 := NB199_223.out; have hnb44 := NB223_200.out; have hnc44 := NB200_223.out; have hnb45 := NB223_221.out; have hnc45 := NB221_223.out; have ⟨z46_0, z46_1, z46_2, v46_0, v46_1, v46_2⟩ := rz3 BK223; have hnb47 := NB199_200.out; have hnc47 := NB200_199.out; have hnb48 := NB199_221.out; have hnc48 := NB221_199.out; have ⟨z49_0, z49_1, z49_2, z49_3, z49_4, z49_5, z49_6, z49_7, z49_8, v49_0, v49_1, v49_2, v49_3, v49_4, v49_5, v49_6, v49_7, v49_8⟩ := rz9 BK199) | ((with_reducible refine gate_callee (f := 57) rfl ?_); refine gl (some 28) Try.func57 #[.agg #[.slice A0_0 l0_0.length c0_0, .int .i64 a0_1, .int .i64 a0_2, .int .i64 a0_3, .slice A0_4 l0_4.length c0_4, .bool a0_5, .slice A0_6 l0_6.length c0_6, .slice A0_7 l0_7.length c0_7, .slice A0_8 l0_8.length c0_8], .agg #[.int .i64 ((rd_T50 l1 x22_2).f0), .int .i64 ((rd_T50 l1 x22_2).f1), .bool true]] ?_; (with_reducible refine (spec_ProtestOk.calls k2 _ _ l0_0 a0_1 a0_2 a0_3 _ _ l0_4 a0_5 _ _ l0_6 _ _ l0_7 _ _ l0_8 ((rd_T50 l1 x22_2).f0) ((rd_T50 l1 x22_2).f1) true true _ ?side1 ?side2 ?side3 ?side4 ?side5 ?side6 ?side7 ?side8 ?side9 ?side10 (by first | exact A33.out | (have h_ := A33.out; rw [← Nbq35.out] at h_; exact h_))).mono ?_); (case side1 => exact Kd.C_below HR0_0.out (bb HB)); (case side2 => exact HC0_0.out); (case side3 => exact Kd.C_below HR0_4.out (bb HB)); (case side4 => exact HC0_4.out); (case side5 => exact Kd.C_below HR0_6.out (bb HB)); (case side6 => exact HC0_6.out); (case side7 => exact Kd.C_below HR0_7.out (bb HB)); (case side8 => exact HC0_7.out); (case side9 => exact Kd.C_below HR0_8.out (bb HB)); (case side10 => exact HC0_8.out); rintro e w50 ⟨rfl, hb⟩; refine ⟨_, rfl, ?_⟩; replace HO_222000 := kf HO_222000 BK223 hb; replace HO_222004 := kf HO_222004 BK223 hb; replace HO_222006 := kf HO_222006 BK223 hb; replace HO_222007 := kf HO_222007 BK223 hb; replace HO_222008 := kf HO_222008 BK223 hb; replace BK199 := dk (blk_below (bf NB199_223.out BK199) hb); replace BK200 := dk (blk_below (bf NB200_223.out BK200) hb); replace BK221 := dk (blk_below (bf NB221_223.out BK221) hb); replace BK223 := dk (blk_below (g := gb223) (o := .cells #[.int .i64 ((rd_T50 l1 x22_2).f0), .int .i64 ((rd_T50 l1 x22_2).f1), .bool true] 50 (0, 0)) (bp BK223) hb); replace HB := hs_ HB hb; (try clear hb hb2 hk hi); have ⟨z51_0, z51_1, z51_2, v51_0, v51_1, v51_2⟩ := rz3 BK223))
              replace HO_222000 := dk (Kd.R_drew HO_222000.out)
              replace HO_222004 := dk (Kd.R_drew HO_222004.out)
              replace HO_222006 := dk (Kd.R_drew HO_222006.out)
              replace HO_222007 := dk (Kd.R_drew HO_222007.out)
              replace HO_222008 := dk (Kd.R_drew HO_222008.out)
              replace BK199 := dk (blk_drew BK199.out)
              replace BK200 := dk (blk_drew BK200.out)
              replace BK221 := dk (blk_drew BK221.out)
              replace BK223 := dk (blk_drew BK223.out)
              replace HB := dk (below_drew1 HB.out)
              have p225 : 0 ≤ (((rd_T50 l1 x22_2).f1) : Int) := oa
              have q225 : ((rd_T50 l1 x22_2).f1) < (l0_6.length : Int) := oa
              obtain ⟨ad225, e225, hx225_0, hx225_1, hx225_2, hx225_3, hx225_4⟩ := at_T95 HR0_6.out ((rd_T50 l1 x22_2).f1) p225 q225
              have hw225_4 := hx225_4
              have hw225_3 := hx225_3
              have hw225_2 := hx225_2
              have hw225_1 := hx225_1
              have hw225_0 := hx225_0
              cases e225
              replace hx225_0 := hc HB hx225_0
              replace hx225_1 := hc HB hx225_1
              replace hx225_2 := hc HB hx225_2
              replace hx225_3 := hc HB hx225_3
              replace hx225_4 := hc HB hx225_4
              replace p225 := eq_true p225
              replace q225 := eq_true q225
              refine start_ (n := 15) (S := fun w' => w'.cell? ⟨gb221, 0, none⟩ = some (.slice Ao22 t202.length co22) ∧ w'.cell? ⟨gb221, 1, none⟩ = some (.int .i64 t205) ∧ w'.cell? ⟨gb221, 2, none⟩ = some (.int .i64 t206) ∧ w'.cell? ⟨gb221, 3, none⟩ = some (.int .i64 t207) ∧ w'.cell? ⟨gb221, 4, none⟩ = some (.slice Ao26 t208.length co26) ∧ w'.cell? ⟨gb221, 5, none⟩ = some (.bool t211) ∧ w'.cell? ⟨gb221, 6, none⟩ = some (u222006) ∧ w'.cell? ⟨gb221, 7, none⟩ = some (.slice Ao28 t215.length co28) ∧ w'.cell? ⟨gb221, 8, none⟩ = some (.slice Ao29 t218.length co29) ∧ w'.cell? ⟨gb223, 0, none⟩ = some (.int .i64 ((rd_T50 l1 x22_2).f0)) ∧ w'.cell? ⟨gb223, 1, none⟩ = some (.int .i64 ((rd_T50 l1 x22_2).f1)) ∧ w'.cell? ⟨gb223, 2, none⟩ = some (.bool true) ∧ w'.cell? ⟨gb199, 0, none⟩ = some (.slice A0_0 l0_0.length c0_0) ∧ w'.cell? ⟨gb199, 1, none⟩ = some (.int .i64 a0_1) ∧ w'.cell? ⟨gb199, 2, none⟩ = some (.int .i64 a0_2) ∧ w'.cell? ⟨gb199, 3, none⟩ = some (.int .i64 a0_3) ∧ w'.cell? ⟨gb199, 4, none⟩ = some (.slice A0_4 l0_4.length c0_4) ∧ w'.cell? ⟨gb199, 5, none⟩ = some (.bool a0_5) ∧ w'.cell? ⟨gb199, 6, none⟩ = some (.slice (some ad225) l0_6.length c0_6) ∧ w'.cell? ⟨gb199, 7, none⟩ = some (.slice A0_7 l0_7.length c0_7) ∧ w'.cell? ⟨gb199, 8, none⟩ = some (.slice A0_8 l0_8.length c0_8) ∧ w'.cell? (ad225.add ((((rd_T50 l1 x22_2).f1)).toNat * 5)) = some (.int .i64 ((rd_T95 l0_6 ((rd_T50 l1 x22_2).f1)).f0)) ∧ w'.cell? ⟨(ad225.add ((((rd_T50 l1 x22_2).f1)).toNat * 5)).block, (ad225.add ((((rd_T50 l1 x22_2).f1)).toNat * 5)).off + 1, none⟩ = some (.int .i64 ((rd_T95 l0_6 ((rd_T50 l1 x22_2).f1)).f1)) ∧ w'.cell? ⟨(ad225.add ((((rd_T50 l1 x22_2).f1)).toNat * 5)).block, (ad225.add ((((rd_T50 l1 x22_2).f1)).toNat * 5)).off + 2, none⟩ = some (.int .i64 ((rd_T95 l0_6 ((rd_T50 l1 x22_2).f1)).f2)) ∧ w'.cell? ⟨(ad225.add ((((rd_T50 l1 x22_2).f1)).toNat * 5)).block, (ad225.add ((((rd_T50 l1 x22_2).f1)).toNat * 5)).off + 3, none⟩ = some (.int .i64 ((rd_T95 l0_6 ((rd_T50 l1 x22_2).f1)).f3)) ∧ w'.cell? ⟨(ad225.add ((((rd_T50 l1 x22_2).f1)).toNat * 5)).block, (ad225.add ((((rd_T50 l1 x22_2).f1)).toNat * 5)).off + 4, none⟩ = some (.int .i64 ((rd_T95 l0_6 ((rd_T50 l1 x22_2).f1)).f4))) (ds := [14]) #[false, false, false, false, false, false, false, false, false, false, false, false, false, false, false] (by kernel_rfl) rfl rfl ⟨bc BK221 0, bc BK221 1, bc BK221 2, bc BK221 3, bc BK221 4, bc BK221 5, bc BK221 6, bc BK221 7, bc BK221 8, bc BK223 0, bc BK223 1, bc BK223 2, bc BK199 0, bc BK199 1, bc BK199 2, bc BK199 3, bc BK199 4, bc BK199 5, bc BK199 6, bc BK199 7, bc BK199 8, (hc HB hw225_0), (hc HB hw225_1), (hc HB hw225_2), (hc HB hw225_3), (hc HB hw225_4)⟩ (fun hHeld => ?_); refine with_tabW spec_Decide.tab10 spec_Decide.bits10 (fun HT_ HW_ => ?_)
              generalize w50.drew = w52 at HO_222000 HO_222004 HO_222006 HO_222007 HO_222008 BK199 BK200 BK221 BK223 HB hx225_0 hx225_1 hx225_2 hx225_3 hx225_4 hHeld ⊢
              refine pz_ 0 33 ?_
              refine pz_ 2 35 ?_
              refine pz_ 4 37 ?_
              refine pz_ 6 39 ?_
              refine pz_ 10 43 ?_
              refine take_ (i := 1) (N := some 34) (v := ?_) (a' := ?_) #[true, true, true, false, true, false, true, false, false, false, true, false, false, false, false] rfl rfl (take_ofW HT_.out HW_.out (by kernel_rfl)) (fun _ _ _ h => h) (Or.inl ⟨by rfl, ?_⟩) hHeld ?_ ?_
              rotate_left
              ·rintro w' ⟨s0, s1, s2, s3, s4, s5, s6, s7, s8, s9, s10, s11, s12, s13, s14, s15, s16, s17, s18, s19, s20, s21, s22, s23, s24, s25⟩
               go_simp
               with_reducible rfl
              rotate_left
              ·simp only [Act.put, List.setIfInBounds_toArray, List.set_cons_zero, List.set_cons_succ, i64_w, i32_w]
               rfl
              refine take_ (i := 3) (N := some 36) (v := ?_) (a' := ?_) #[true, true, true, true, true, false, true, false, false, false, true, false, false, false, false] rfl rfl (take_ofW HT_.out HW_.out (by kernel_rfl)) (fun _ _ _ h => h) (Or.inl ⟨by rfl, ?_⟩) hHeld ?_ ?_
              rotate_left
              ·rintro w' ⟨s0, s1, s2, s3, s4, s5, s6, s7, s8, s9, s10, s11, s12, s13, s14, s15, s16, s17, s18, s19, s20, s21, s22, s23, s24, s25⟩
               go_simp
               with_reducible rfl
              rotate_left
              ·simp only [Act.put, List.setIfInBounds_toArray, List.set_cons_zero, List.set_cons_succ, i64_w, i32_w]
               rfl
              refine take_ (i := 5) (N := some 38) (v := ?_) (a' := ?_) #[true, true, true, true, true, true, true, false, false, false, true, false, false, false, false] rfl rfl (take_ofW HT_.out HW_.out (by kernel_rfl)) (fun _ _ _ h => h) (Or.inl ⟨by rfl, ?_⟩) hHeld ?_ ?_
              rotate_left
              ·rintro w' ⟨s0, s1, s2, s3, s4, s5, s6, s7, s8, s9, s10, s11, s12, s13, s14, s15, s16, s17, s18, s19, s20, s21, s22, s23, s24, s25⟩
               go_simp
               with_reducible rfl
              rotate_left
              ·simp only [Act.put, List.setIfInBounds_toArray, List.set_cons_zero, List.set_cons_succ, i64_w, i32_w]
               rfl
              refine take_ (i := 7) (N := some 40) (v := ?_) (a' := ?_) #[true, true, true, true, true, true, true, true, false, false, true, false, false, false, false] rfl rfl (take_ofW HT_.out HW_.out (by kernel_rfl)) (fun _ _ _ h => h) (Or.inl ⟨by rfl, ?_⟩) hHeld ?_ ?_
              rotate_left
              ·rintro w' ⟨s0, s1, s2, s3, s4, s5, s6, s7, s8, s9, s10, s11, s12, s13, s14, s15, s16, s17, s18, s19, s20, s21, s22, s23, s24, s25⟩
               go_simp
               with_reducible rfl
              rotate_left
              ·simp only [Act.put, List.setIfInBounds_toArray, List.set_cons_zero, List.set_cons_succ, i64_w, i32_w]
               rfl
              refine pz_ 8 41 ?_
              refine take_ (i := 9) (N := some 42) (v := ?_) (a' := ?_) #[true, true, true, true, true, true, true, true, true, true, true, false, false, false, false] rfl rfl (take_ofW HT_.out HW_.out (by kernel_rfl)) (fun _ _ _ h => h) (Or.inl ⟨by rfl, ?_⟩) hHeld ?_ ?_
              rotate_left
              ·rintro w' ⟨s0, s1, s2, s3, s4, s5, s6, s7, s8, s9, s10, s11, s12, s13, s14, s15, s16, s17, s18, s19, s20, s21, s22, s23, s24, s25⟩
               go_simp
               with_reducible rfl
              rotate_left
              ·simp only [Act.put, List.setIfInBounds_toArray, List.set_cons_zero, List.set_cons_succ, i64_w, i32_w]
               rfl
              refine take_ (i := 11) (N := some 44) (v := ?_) (a' := ?_) #[true, true, true, true, true, true, true, true, true, true, true, true, false, false, false] rfl rfl (take_ofW HT_.out HW_.out (by kernel_rfl)) (fun _ _ _ h => h) (Or.inl ⟨by rfl, ?_⟩) hHeld ?_ ?_
              rotate_left
              ·rintro w' ⟨s0, s1, s2, s3, s4, s5, s6, s7, s8, s9, s10, s11, s12, s13, s14, s15, s16, s17, s18, s19, s20, s21, s22, s23, s24, s25⟩
               go_simp
               with_reducible rfl
              rotate_left
              ·simp only [Act.put, List.setIfInBounds_toArray, List.set_cons_zero, List.set_cons_succ, i64_w, i32_w]
               rfl
              refine one_ (i := 12) (N := some 45) #[true, true, true, true, true, true, true, true, true, true, true, true, true, false, false] rfl rfl (one_of HT_.out (by kernel_rfl)) (by decide) (fun K hK => ?_)
              refine goes_ Try.func58 (by kernel_rfl) rfl #[.agg #[.int .i64 ((rd_T95 l0_6 ((rd_T50 l1 x22_2).f1)).f0), .int .i64 ((rd_T95 l0_6 ((rd_T50 l1 x22_2).f1)).f1), .int .i64 ((rd_T95 l0_6 ((rd_T50 l1 x22_2).f1)).f2), .int .i64 ((rd_T95 l0_6 ((rd_T50 l1 x22_2).f1)).f3), .int .i64 ((rd_T95 l0_6 ((rd_T50 l1 x22_2).f1)).f4)], .int .i64 ((rd_T50 l1 x22_2).f0)] (by rfl) rfl rfl (by (try simp only [List.map_toArray, List.map_cons, List.map_nil]); first | done | rfl | (simp only [List.length_drop, List.length_take]; rfl)) ?_
              with_reducible refine (spec_l21Award.calls ((rd_T95 l0_6 ((rd_T50 l1 x22_2).f1)).f0) ((rd_T95 l0_6 ((rd_T50 l1 x22_2).f1)).f1) ((rd_T95 l0_6 ((rd_T50 l1 x22_2).f1)).f2) ((rd_T95 l0_6 ((rd_T50 l1 x22_2).f1)).f3) ((rd_T95 l0_6 ((rd_T50 l1 x22_2).f1)).f4) ((rd_T50 l1 x22_2).f0) t226 t227 t228 t229 t230 _ A39.out).mono ?_
              rintro e w53 ⟨rfl, hb⟩
              refine ⟨_, rfl, ?_⟩
              replace HO_222000 := kr HO_222000 hb
              replace HO_222004 := kr HO_222004 hb
              replace HO_222006 := kr HO_222006 hb
              replace HO_222007 := kr HO_222007 hb
              replace HO_222008 := kr HO_222008 hb
              replace BK199 := kb BK199 hb
              replace BK200 := kb BK200 hb
              replace BK221 := kb BK221 hb
              replace BK223 := kb BK223 hb
              replace HB := hs_ HB hb
              (try clear hb hb2 hk hi)
              have p41 : 0 ≤ (((rd_T50 l1 x22_2).f1) : Int) := oa
              have q41 : (((rd_T50 l1 x22_2).f1) : Int) < ((x222006_2.length : Int) : Int) := oa
              obtain ⟨go41, co41, eo41, gb41, gl41, cl41, HG41⟩ := Kd.R_form HO_222006.out (by omega)
              (first | cases eo41 | (injection eo41 with ea_ en_ ec_; (first | subst ea_ | (injection ea_ with ea_; subst ea_)); subst ec_; clear en_))
              have GB41 := dk gb41
              have GG41 := dk HG41
              clear gb41 gl41 HG41
              obtain ⟨ce41, hcl41, hM41, hcc41, hfr41⟩ := Kd.R_elem HO_222006.out z95 (((rd_T50 l1 x22_2).f1) : Int) p41 q41
              obtain rfl := k95_openM hM41
              have hx41_0 : World.cell? _ ⟨go41, (((rd_T50 l1 x22_2).f1) : Int).toNat * 5, none⟩ = some (.int .i64 ((rd_T95 x222006_2 ((rd_T50 l1 x22_2).f1)).f0)) := hcc41 0 _ rfl
              have hx41_1 : World.cell? _ ⟨go41, (((rd_T50 l1 x22_2).f1) : Int).toNat * 5 + 1, none⟩ = some (.int .i64 ((rd_T95 x222006_2 ((rd_T50 l1 x22_2).f1)).f1)) := hcc41 1 _ rfl
              have hx41_2 : World.cell? _ ⟨go41, (((rd_T50 l1 x22_2).f1) : Int).toNat * 5 + 2, none⟩ = some (.int .i64 ((rd_T95 x222006_2 ((rd_T50 l1 x22_2).f1)).f2)) := hcc41 2 _ rfl
              have hx41_3 : World.cell? _ ⟨go41, (((rd_T50 l1 x22_2).f1) : Int).toNat * 5 + 3, none⟩ = some (.int .i64 ((rd_T95 x222006_2 ((rd_T50 l1 x22_2).f1)).f3)) := hcc41 3 _ rfl
              have hx41_4 : World.cell? _ ⟨go41, (((rd_T50 l1 x22_2).f1) : Int).toNat * 5 + 4, none⟩ = some (.int .i64 ((rd_T95 x222006_2 ((rd_T50 l1 x22_2).f1)).f4)) := hcc41 4 _ rfl
              have hf41_0 : World.frozen? _ ⟨go41, (((rd_T50 l1 x22_2).f1) : Int).toNat * 5, none⟩ = false := hfr41 0
              have hf41_1 : World.frozen? _ ⟨go41, (((rd_T50 l1 x22_2).f1) : Int).toNat * 5 + 1, none⟩ = false := hfr41 1
              have hf41_2 : World.frozen? _ ⟨go41, (((rd_T50 l1 x22_2).f1) : Int).toNat * 5 + 2, none⟩ = false := hfr41 2
              have hf41_3 : World.frozen? _ ⟨go41, (((rd_T50 l1 x22_2).f1) : Int).toNat * 5 + 3, none⟩ = false := hfr41 3
              have hf41_4 : World.frozen? _ ⟨go41, (((rd_T50 l1 x22_2).f1) : Int).toNat * 5 + 4, none⟩ = false := hfr41 4
              clear hcl41 hcc41 hfr41; (try clear hM41)
              replace p41 := eq_true p41
              replace q41 := eq_true q41
              obtain ⟨ce54, hcl54, hM54, hcc54, hfr54⟩ := Kd.R_elem HO_222006.out z95 (((rd_T50 l1 x22_2).f1) : Int) (oa) (by have h_ : (((rd_T50 l1 x22_2).f1) : Int) < ((x222006_2.length : Int) : Int) := oa; first | exact h_ | (have e_ := (Kd.R_reads' HO_222006.out).1; omega) | simpa using h_)
              obtain rfl := k95_openM hM54
              have HP54 := (Kd.R_seg HO_222006.out (((rd_T50 l1 x22_2).f1) : Int) (oa) (by have h_ : (((rd_T50 l1 x22_2).f1) : Int) < ((x222006_2.length : Int) : Int) := oa; first | exact h_ | (have e_ := (Kd.R_reads' HO_222006.out).1; omega) | simpa using h_) (seg := [.int .i64 t226, .int .i64 t227, .int .i64 t228, .int .i64 t229, .int .i64 t230]) (j := 0) hcl54 hcc54 (show 5 ≤ 5 from by decide) (x' := (⟨t226, t227, t228, t229, t230⟩ : S95)) (k95_mkM _ _ _ (⟨t226, t227, t228, t229, t230⟩ : S95) ) (fun _ hk => hk)).1
              rw [← Ny231.out] at HP54
              have HQ54 := dk HP54
              clear hcl54 hcc54 hfr54 hM54 HP54
              refine hK.out _ _ ⟨bc BK221 0, bc BK221 1, bc BK221 2, bc BK221 3, bc BK221 4, bc BK221 5, bc BK221 6, bc BK221 7, bc BK221 8, bc BK223 0, bc BK223 1, bc BK223 2, bc BK199 0, bc BK199 1, bc BK199 2, bc BK199 3, bc BK199 4, bc BK199 5, bc BK199 6, bc BK199 7, bc BK199 8, (hc HB hw225_0), (hc HB hw225_1), (hc HB hw225_2), (hc HB hw225_3), (hc HB hw225_4)⟩ (fun hHeld => ?_)
              clear hK K
              refine norm_ (a' := ?_) ?_ ?_
              rotate_left
              ·show Act.put _ (some 45) _ = _
               simp only [Act.put, List.setIfInBounds_toArray, List.set_cons_zero, List.set_cons_succ, i64_w, i32_w]
               rfl
              refine pz_ 13 46 ?_
              refine last_ (i := 14) (N := none) #[true, true, true, true, true, true, true, true, true, true, true, true, true, true, true] rfl rfl (one_of HT_.out (by kernel_rfl)) (by decide) (fun K hK => ?_)
              refine skip_ (w1 := ?_) (by rfl) rfl ?_ ?_
              rotate_left
              ·go_simp
               rfl
              refine hK.out _ _ ?_
              clear hK K
              refine done_ (done_of HT_.out (by kernel_rfl)) ?_
              try go_wp2
              go_roundg k2
              case measure => have := HJ2.out; have := HK2.out; omega
              case rel => exact ⟨(wrap64 (x22_2 + 1)), (x201001_2), (x201002_2), (x201003_2), (x201005_2), (y231), (.slice (some ⟨go41, 0, none⟩) x222006_2.length co41), e2_, H', ⟨by have := HJ2.out; have := HK2.out; omega⟩, ⟨by (with_reducible repeat (first | apply Kd.R_alloc | apply Kd.R_drewN | apply Kd.R_drew)); exact Kd.R_mono (Kd.R_far (p := ⟨go41, (((rd_T50 l1 x22_2).f1) : Int).toNat * 5 + 4, none⟩) (Kd.R_far (p := ⟨go41, (((rd_T50 l1 x22_2).f1) : Int).toNat * 5 + 3, none⟩) (Kd.R_far (p := ⟨go41, (((rd_T50 l1 x22_2).f1) : Int).toNat * 5 + 2, none⟩) (Kd.R_far (p := ⟨go41, (((rd_T50 l1 x22_2).f1) : Int).toNat * 5 + 1, none⟩) (Kd.R_far (p := ⟨go41, (((rd_T50 l1 x22_2).f1) : Int).toNat * 5, none⟩) (Kd.R_types HO_222000.out GG41.out (by decide)) (fun _ hk => hk.2) (.int .i64 t226)) (fun _ hk => hk.2) (.int .i64 t227)) (fun _ hk => hk.2) (.int .i64 t228)) (fun _ hk => hk.2) (.int .i64 t229)) (fun _ hk => hk.2) (.int .i64 t230)) (fun _ hk => trivial)⟩, ⟨by (with_reducible repeat (first | apply Kd.R_alloc | apply Kd.R_drewN | apply Kd.R_drew)); exact Kd.R_mono (Kd.R_far (p := ⟨go41, (((rd_T50 l1 x22_2).f1) : Int).toNat * 5 + 4, none⟩) (Kd.R_far (p := ⟨go41, (((rd_T50 l1 x22_2).f1) : Int).toNat * 5 + 3, none⟩) (Kd.R_far (p := ⟨go41, (((rd_T50 l1 x22_2).f1) : Int).toNat * 5 + 2, none⟩) (Kd.R_far (p := ⟨go41, (((rd_T50 l1 x22_2).f1) : Int).toNat * 5 + 1, none⟩) (Kd.R_far (p := ⟨go41, (((rd_T50 l1 x22_2).f1) : Int).toNat * 5, none⟩) (Kd.R_types HO_222004.out GG41.out (by decide)) (fun _ hk => hk.2) (.int .i64 t226)) (fun _ hk => hk.2) (.int .i64 t227)) (fun _ hk => hk.2) (.int .i64 t228)) (fun _ hk => hk.2) (.int .i64 t229)) (fun _ hk => hk.2) (.int .i64 t230)) (fun _ hk => ⟨hk.1.1, hk.1.2⟩)⟩, ⟨rr HQ54⟩, ⟨by (with_reducible repeat (first | apply Kd.R_alloc | apply Kd.R_drewN | apply Kd.R_drew)); exact Kd.R_mono (Kd.R_far (p := ⟨go41, (((rd_T50 l1 x22_2).f1) : Int).toNat * 5 + 4, none⟩) (Kd.R_far (p := ⟨go41, (((rd_T50 l1 x22_2).f1) : Int).toNat * 5 + 3, none⟩) (Kd.R_far (p := ⟨go41, (((rd_T50 l1 x22_2).f1) : Int).toNat * 5 + 2, none⟩) (Kd.R_far (p := ⟨go41, (((rd_T50 l1 x22_2).f1) : Int).toNat * 5 + 1, none⟩) (Kd.R_far (p := ⟨go41, (((rd_T50 l1 x22_2).f1) : Int).toNat * 5, none⟩) (Kd.R_types HO_222007.out GG41.out (by decide)) (fun _ hk => hk.2) (.int .i64 t226)) (fun _ hk => hk.2) (.int .i64 t227)) (fun _ hk => hk.2) (.int .i64 t228)) (fun _ hk => hk.2) (.int .i64 t229)) (fun _ hk => hk.2) (.int .i64 t230)) (fun _ hk => ⟨hk.1.1, hk.1.2⟩)⟩, ⟨by (with_reducible repeat (first | apply Kd.R_alloc | apply Kd.R_drewN | apply Kd.R_drew)); exact Kd.R_mono (Kd.R_far (p := ⟨go41, (((rd_T50 l1 x22_2).f1) : Int).toNat * 5 + 4, none⟩) (Kd.R_far (p := ⟨go41, (((rd_T50 l1 x22_2).f1) : Int).toNat * 5 + 3, none⟩) (Kd.R_far (p := ⟨go41, (((rd_T50 l1 x22_2).f1) : Int).toNat * 5 + 2, none⟩) (Kd.R_far (p := ⟨go41, (((rd_T50 l1 x22_2).f1) : Int).toNat * 5 + 1, none⟩) (Kd.R_far (p := ⟨go41, (((rd_T50 l1 x22_2).f1) : Int).toNat * 5, none⟩) (Kd.R_types HO_222008.out GG41.out (by decide)) (fun _ hk => hk.2) (.int .i64 t226)) (fun _ hk => hk.2) (.int .i64 t227)) (fun _ hk => hk.2) (.int .i64 t228)) (fun _ hk => hk.2) (.int .i64 t229)) (fun _ hk => hk.2) (.int .i64 t230)) (fun _ hk => ⟨hk.1.1, hk.1.2⟩)⟩, ⟨bg HO_222006 BK199⟩, ⟨bg HO_222006 BK200⟩, ⟨bg HO_222006 BK221⟩, ⟨bb HB⟩⟩
             ·rw [if_neg c40] at H
              exact absurd H (by simp)
            ·rw [if_neg c38] at H
             exact absurd H (by simp)
           ·rw [if_neg c37] at H
            exact absurd H (by simp)
          ·replace c36 := Bool.eq_false_iff.mpr c36
           subst c36
           have H1 : (if 0 ≤ ((rd_T50 l1 x22_2).f1) then (if ((rd_T50 l1 x22_2).f1) < (l0_6.length : Int) then (if ((rd_T50 l1 x22_2).f1) < (x222006_2.length : Int) then (spec_Decide.l0 k2 l1 (l1.length : Int) (wrap64 (x22_2 + 1)) l0_0 a0_1 a0_2 a0_3 l0_4 a0_5 l0_6 l0_7 l0_8 t202 t205 t206 t207 t208 t211 (x222006_2.set (((rd_T50 l1 x22_2).f1) : Int).toNat (⟨(rd_T95 l0_6 ((rd_T50 l1 x22_2).f1)).f0, (rd_T95 l0_6 ((rd_T50 l1 x22_2).f1)).f1, (rd_T95 l0_6 ((rd_T50 l1 x22_2).f1)).f2, (rd_T95 l0_6 ((rd_T50 l1 x22_2).f1)).f3, (rd_T95 l0_6 ((rd_T50 l1 x22_2).f1)).f4⟩ : S95)) t215 t218) else (none)) else (none)) else (none)) = some (r1, r2, r3, r4, r5, r6, r7, r8, r9, r10) := by rw [if_neg (show ¬ (false = true) by decide)] at H; exact H
           clear H
           have H := H1
           clear H1
           by_cases c55 : 0 ≤ ((rd_T50 l1 x22_2).f1)
           ·rw [if_pos c55] at H
            have c55b0 : decide (0 ≤ ((rd_T50 l1 x22_2).f1)) = true := decide_eq_true c55
            clear c55
            by_cases c56 : ((rd_T50 l1 x22_2).f1) < (l0_6.length : Int)
            ·rw [if_pos c56] at H
             have c56b0 : decide (((rd_T50 l1 x22_2).f1) < (l0_6.length : Int)) = true := decide_eq_true c56
             clear c56
             by_cases c57 : ((rd_T50 l1 x22_2).f1) < (x222006_2.length : Int)
             ·rw [if_pos c57] at H
              have c57b0 : decide (((rd_T50 l1 x22_2).f1) < (x222006_2.length : Int)) = true := decide_eq_true c57
              clear c57
              obtain ⟨y233, hy233⟩ : ∃ y_ : List (S95), y_ = (x222006_2.set (((rd_T50 l1 x22_2).f1) : Int).toNat (⟨(rd_T95 l0_6 ((rd_T50 l1 x22_2).f1)).f0, (rd_T95 l0_6 ((rd_T50 l1 x22_2).f1)).f1, (rd_T95 l0_6 ((rd_T50 l1 x22_2).f1)).f2, (rd_T95 l0_6 ((rd_T50 l1 x22_2).f1)).f3, (rd_T95 l0_6 ((rd_T50 l1 x22_2).f1)).f4⟩ : S95)) := ⟨_, rfl⟩
              replace H : (spec_Decide.l0 k2 l1 (l1.length : Int) (wrap64 (x22_2 + 1)) l0_0 a0_1 a0_2 a0_3 l0_4 a0_5 l0_6 l0_7 l0_8 t202 t205 t206 t207 t208 t211 y233 t215 t218) = some (r1, r2, r3, r4, r5, r6, r7, r8, r9, r10) := by first | (rw [hy233]; with_reducible exact H) | (have H2_ := (Option.bind_some _ _).symm.trans H; rw [hy233]; with_reducible exact H2_) | (have H2_ := (Option.bind_some _ _).symm.trans H; with_reducible exact H2_) | with_reducible exact H | (rw [hy233]; exact H) | exact H
              have Ny233 := dk hy233
              clear hy233
              have H' := dk H
              clear H
              have p222 : 0 ≤ (x22_2 : Int) := oa
              have q222 : x22_2 < (l1.length : Int) := oa
              obtain ⟨ad222, e222, hx222_0, hx222_1, hx222_2⟩ := at_T50 HR1.out x22_2 p222 q222
              (try rw [← Nbq35.out] at hx222_2)
              cases e222
              replace hx222_0 := hc HB hx222_0
              replace hx222_1 := hc HB hx222_1
              replace hx222_2 := hc HB hx222_2
              replace p222 := eq_true p222
              replace q222 := eq_true q222
              try go_wp2_with (first | ((with_reducible refine gate_dst (N := 8) rfl ?_); (try (refine gate_guard (by rfl) ?_; dsimp only)); refine bx (N := 8) (cs := #[.int .i64 0, .int .i64 0, .bool false]) (t := 50) ?_; intro gb223 hg w59 hbox hb; replace HO_222000 := kr HO_222000 hb; replace HO_222004 := kr HO_222004 hb; replace HO_222006 := kr HO_222006 hb; replace HO_222007 := kr HO_222007 hb; replace HO_222008 := kr HO_222008 hb; have BK223 := dk (hbox); have GW223 := gs hg HB; have GE223 := gs hg HB; replace HB := hs_ HB hb; have NB199_223 := gn hg BK199; have NB223_199 := gm hg BK199; replace BK199 := kb BK199 hb; have NB200_223 := gn hg BK200; have NB223_200 := gm hg BK200; replace BK200 := kb BK200 hb; have NB221_223 := gn hg BK221; have NB223_221 := gm hg BK221; replace BK221 := kb BK221 hb; clear hb hbox hg; have hnb60 := NB223_199.out; have hnc60 := NB199_223.out; have hnb61 := NB223_200.out; have hnc61 := NB200_223.out; have hnb62 := NB223_221.out; have hnc62 := NB221_223.out; have ⟨z63_0, z63_1, z63_2, v63_0, v63_1, v63_2⟩ := rz3 BK223; have hnb64 := NB199_200.out; have hnc64 := NB200_199.out; have hnb65 := NB199_221.out; have hnc65 := NB221_199.out; have ⟨z66_0, z66_1, z66_2, z66_3, z66_4, z66_5, z66_6, z66_7, z66_8, v66_0, v66_1, v66_2, v66_3, v66_4, v66_5, v66_6, v66_7, v66_8⟩ := rz9 BK199) | ((with_reducible refine gate_callee (f := 57) rfl ?_); refine gl (some 28) Try.func57 #[.agg #[.slice A0_0 l0_0.length c0_0, .int .i64 a0_1, .int .i64 a0_2, .int .i64 a0_3, .slice A0_4 l0_4.length c0_4, .bool a0_5, .slice A0_6 l0_6.length c0_6, .slice A0_7 l0_7.length c0_7, .slice A0_8 l0_8.length c0_8], .agg #[.int .i64 ((rd_T50 l1 x22_2).f0), .int .i64 ((rd_T50 l1 x22_2).f1), .bool false]] ?_; (with_reducible refine (spec_ProtestOk.calls k2 _ _ l0_0 a0_1 a0_2 a0_3 _ _ l0_4 a0_5 _ _ l0_6 _ _ l0_7 _ _ l0_8 ((rd_T50 l1 x22_2).f0) ((rd_T50 l1 x22_2).f1) false true _ ?side1 ?side2 ?side3 ?side4 ?side5 ?side6 ?side7 ?side8 ?side9 ?side10 (by first | exact A33.out | (have h_ := A33.out; rw [← Nbq35.out] at h_; exact h_))).mono ?_); (case side1 => exact Kd.C_below HR0_0.out (bb HB)); (case side2 => exact HC0_0.out); (case side3 => exact Kd.C_below HR0_4.out (bb HB)); (case side4 => exact HC0_4.out); (case side5 => exact Kd.C_below HR0_6.out (bb HB)); (case side6 => exact HC0_6.out); (case side7 => exact Kd.C_below HR0_7.out (bb HB)); (case side8 => exact HC0_7.out); (case side9 => exact Kd.C_below HR0_8.out (bb HB)); (case side10 => exact HC0_8.out); rintro e w67 ⟨rfl, hb⟩; refine ⟨_, rfl, ?_⟩; replace HO_222000 := kf HO_222000 BK223 hb; replace HO_222004 := kf HO_222004 BK223 hb; replace HO_222006 := kf HO_222006 BK223 hb; replace HO_222007 := kf HO_222007 BK223 hb; replace HO_222008 := kf HO_222008 BK223 hb; replace BK199 := dk (blk_below (bf NB199_223.out BK199) hb); replace BK200 := dk (blk_below (bf NB200_223.out BK200) hb); replace BK221 := dk (blk_below (bf NB221_223.out BK221) hb); replace BK223 := dk (blk_below (g := gb223) (o := .cells #[.int .i64 ((rd_T50 l1 x22_2).f0), .int .i64 ((rd_T50 l1 x22_2).f1), .bool false] 50 (0, 0)) (bp BK223) hb); replace HB := hs_ HB hb; (try clear hb hb2 hk hi); have ⟨z68_0, z68_1, z68_2, v68_0, v68_1, v68_2⟩ := rz3 BK223))
              replace HO_222000 := dk (Kd.R_drew HO_222000.out)
              replace HO_222004 := dk (Kd.R_drew HO_222004.out)
              replace HO_222006 := dk (Kd.R_drew HO_222006.out)
              replace HO_222007 := dk (Kd.R_drew HO_222007.out)
              replace HO_222008 := dk (Kd.R_drew HO_222008.out)
              replace BK199 := dk (blk_drew BK199.out)
              replace BK200 := dk (blk_drew BK200.out)
              replace BK221 := dk (blk_drew BK221.out)
              replace BK223 := dk (blk_drew BK223.out)
              replace HB := dk (below_drew1 HB.out)
              have p232 : 0 ≤ (((rd_T50 l1 x22_2).f1) : Int) := oa
              have q232 : ((rd_T50 l1 x22_2).f1) < (l0_6.length : Int) := oa
              obtain ⟨ad232, e232, hx232_0, hx232_1, hx232_2, hx232_3, hx232_4⟩ := at_T95 HR0_6.out ((rd_T50 l1 x22_2).f1) p232 q232
              have hw232_4 := hx232_4
              have hw232_3 := hx232_3
              have hw232_2 := hx232_2
              have hw232_1 := hx232_1
              have hw232_0 := hx232_0
              cases e232
              replace hx232_0 := hc HB hx232_0
              replace hx232_1 := hc HB hx232_1
              replace hx232_2 := hc HB hx232_2
              replace hx232_3 := hc HB hx232_3
              replace hx232_4 := hc HB hx232_4
              replace p232 := eq_true p232
              replace q232 := eq_true q232
              have p58 : 0 ≤ (((rd_T50 l1 x22_2).f1) : Int) := oa
              have q58 : (((rd_T50 l1 x22_2).f1) : Int) < ((x222006_2.length : Int) : Int) := oa
              obtain ⟨go58, co58, eo58, gb58, gl58, cl58, HG58⟩ := Kd.R_form HO_222006.out (by omega)
              (first | cases eo58 | (injection eo58 with ea_ en_ ec_; (first | subst ea_ | (injection ea_ with ea_; subst ea_)); subst ec_; clear en_))
              have GB58 := dk gb58
              have GG58 := dk HG58
              clear gb58 gl58 HG58
              obtain ⟨ce58, hcl58, hM58, hcc58, hfr58⟩ := Kd.R_elem HO_222006.out z95 (((rd_T50 l1 x22_2).f1) : Int) p58 q58
              obtain rfl := k95_openM hM58
              have hx58_0 : World.cell? _ ⟨go58, (((rd_T50 l1 x22_2).f1) : Int).toNat * 5, none⟩ = some (.int .i64 ((rd_T95 x222006_2 ((rd_T50 l1 x22_2).f1)).f0)) := hcc58 0 _ rfl
              have hx58_1 : World.cell? _ ⟨go58, (((rd_T50 l1 x22_2).f1) : Int).toNat * 5 + 1, none⟩ = some (.int .i64 ((rd_T95 x222006_2 ((rd_T50 l1 x22_2).f1)).f1)) := hcc58 1 _ rfl
              have hx58_2 : World.cell? _ ⟨go58, (((rd_T50 l1 x22_2).f1) : Int).toNat * 5 + 2, none⟩ = some (.int .i64 ((rd_T95 x222006_2 ((rd_T50 l1 x22_2).f1)).f2)) := hcc58 2 _ rfl
              have hx58_3 : World.cell? _ ⟨go58, (((rd_T50 l1 x22_2).f1) : Int).toNat * 5 + 3, none⟩ = some (.int .i64 ((rd_T95 x222006_2 ((rd_T50 l1 x22_2).f1)).f3)) := hcc58 3 _ rfl
              have hx58_4 : World.cell? _ ⟨go58, (((rd_T50 l1 x22_2).f1) : Int).toNat * 5 + 4, none⟩ = some (.int .i64 ((rd_T95 x222006_2 ((rd_T50 l1 x22_2).f1)).f4)) := hcc58 4 _ rfl
              have hf58_0 : World.frozen? _ ⟨go58, (((rd_T50 l1 x22_2).f1) : Int).toNat * 5, none⟩ = false := hfr58 0
              have hf58_1 : World.frozen? _ ⟨go58, (((rd_T50 l1 x22_2).f1) : Int).toNat * 5 + 1, none⟩ = false := hfr58 1
              have hf58_2 : World.frozen? _ ⟨go58, (((rd_T50 l1 x22_2).f1) : Int).toNat * 5 + 2, none⟩ = false := hfr58 2
              have hf58_3 : World.frozen? _ ⟨go58, (((rd_T50 l1 x22_2).f1) : Int).toNat * 5 + 3, none⟩ = false := hfr58 3
              have hf58_4 : World.frozen? _ ⟨go58, (((rd_T50 l1 x22_2).f1) : Int).toNat * 5 + 4, none⟩ = false := hfr58 4
              clear hcl58 hcc58 hfr58; (try clear hM58)
              replace p58 := eq_true p58
              replace q58 := eq_true q58
              obtain ⟨ce70, hcl70, hM70, hcc70, hfr70⟩ := Kd.R_elem HO_222006.out z95 (((rd_T50 l1 x22_2).f1) : Int) (oa) (by have h_ : (((rd_T50 l1 x22_2).f1) : Int) < ((x222006_2.length : Int) : Int) := oa; first | exact h_ | (have e_ := (Kd.R_reads' HO_222006.out).1; omega) | simpa using h_)
              obtain rfl := k95_openM hM70
              have HP70 := (Kd.R_seg HO_222006.out (((rd_T50 l1 x22_2).f1) : Int) (oa) (by have h_ : (((rd_T50 l1 x22_2).f1) : Int) < ((x222006_2.length : Int) : Int) := oa; first | exact h_ | (have e_ := (Kd.R_reads' HO_222006.out).1; omega) | simpa using h_) (seg := [.int .i64 ((rd_T95 l0_6 ((rd_T50 l1 x22_2).f1)).f0), .int .i64 ((rd_T95 l0_6 ((rd_T50 l1 x22_2).f1)).f1), .int .i64 ((rd_T95 l0_6 ((rd_T50 l1 x22_2).f1)).f2), .int .i64 ((rd_T95 l0_6 ((rd_T50 l1 x22_2).f1)).f3), .int .i64 ((rd_T95 l0_6 ((rd_T50 l1 x22_2).f1)).f4)]) (j := 0) hcl70 hcc70 (show 5 ≤ 5 from by decide) (x' := (⟨(rd_T95 l0_6 ((rd_T50 l1 x22_2).f1)).f0, (rd_T95 l0_6 ((rd_T50 l1 x22_2).f1)).f1, (rd_T95 l0_6 ((rd_T50 l1 x22_2).f1)).f2, (rd_T95 l0_6 ((rd_T50 l1 x22_2).f1)).f3, (rd_T95 l0_6 ((rd_T50 l1 x22_2).f1)).f4⟩ : S95)) (k95_mkM _ _ _ (⟨(rd_T95 l0_6 ((rd_T50 l1 x22_2).f1)).f0, (rd_T95 l0_6 ((rd_T50 l1 x22_2).f1)).f1, (rd_T95 l0_6 ((rd_T50 l1 x22_2).f1)).f2, (rd_T95 l0_6 ((rd_T50 l1 x22_2).f1)).f3, (rd_T95 l0_6 ((rd_T50 l1 x22_2).f1)).f4⟩ : S95) ) (fun _ hk => hk)).1
              rw [← Ny233.out] at HP70
              have HQ70 := dk HP70
              clear hcl70 hcc70 hfr70 hM70 HP70
              refine start_ (n := 12) (S := fun w' => w'.cell? ⟨gb221, 0, none⟩ = some (.slice Ao22 t202.length co22) ∧ w'.cell? ⟨gb221, 1, none⟩ = some (.int .i64 t205) ∧ w'.cell? ⟨gb221, 2, none⟩ = some (.int .i64 t206) ∧ w'.cell? ⟨gb221, 3, none⟩ = some (.int .i64 t207) ∧ w'.cell? ⟨gb221, 4, none⟩ = some (.slice Ao26 t208.length co26) ∧ w'.cell? ⟨gb221, 5, none⟩ = some (.bool t211) ∧ w'.cell? ⟨gb221, 6, none⟩ = some (.slice (some ⟨go58, 0, none⟩) x222006_2.length co58) ∧ w'.cell? ⟨gb221, 7, none⟩ = some (.slice Ao28 t215.length co28) ∧ w'.cell? ⟨gb221, 8, none⟩ = some (.slice Ao29 t218.length co29) ∧ w'.cell? ⟨gb223, 0, none⟩ = some (.int .i64 ((rd_T50 l1 x22_2).f0)) ∧ w'.cell? ⟨gb223, 1, none⟩ = some (.int .i64 ((rd_T50 l1 x22_2).f1)) ∧ w'.cell? ⟨gb223, 2, none⟩ = some (.bool false) ∧ w'.cell? ⟨gb199, 0, none⟩ = some (.slice A0_0 l0_0.length c0_0) ∧ w'.cell? ⟨gb199, 1, none⟩ = some (.int .i64 a0_1) ∧ w'.cell? ⟨gb199, 2, none⟩ = some (.int .i64 a0_2) ∧ w'.cell? ⟨gb199, 3, none⟩ = some (.int .i64 a0_3) ∧ w'.cell? ⟨gb199, 4, none⟩ = some (.slice A0_4 l0_4.length c0_4) ∧ w'.cell? ⟨gb199, 5, none⟩ = some (.bool a0_5) ∧ w'.cell? ⟨gb199, 6, none⟩ = some (.slice (some ad232) l0_6.length c0_6) ∧ w'.cell? ⟨gb199, 7, none⟩ = some (.slice A0_7 l0_7.length c0_7) ∧ w'.cell? ⟨gb199, 8, none⟩ = some (.slice A0_8 l0_8.length c0_8) ∧ w'.cell? (ad232.add ((((rd_T50 l1 x22_2).f1)).toNat * 5)) = some (.int .i64 ((rd_T95 l0_6 ((rd_T50 l1 x22_2).f1)).f0)) ∧ w'.cell? ⟨(ad232.add ((((rd_T50 l1 x22_2).f1)).toNat * 5)).block, (ad232.add ((((rd_T50 l1 x22_2).f1)).toNat * 5)).off + 1, none⟩ = some (.int .i64 ((rd_T95 l0_6 ((rd_T50 l1 x22_2).f1)).f1)) ∧ w'.cell? ⟨(ad232.add ((((rd_T50 l1 x22_2).f1)).toNat * 5)).block, (ad232.add ((((rd_T50 l1 x22_2).f1)).toNat * 5)).off + 2, none⟩ = some (.int .i64 ((rd_T95 l0_6 ((rd_T50 l1 x22_2).f1)).f2)) ∧ w'.cell? ⟨(ad232.add ((((rd_T50 l1 x22_2).f1)).toNat * 5)).block, (ad232.add ((((rd_T50 l1 x22_2).f1)).toNat * 5)).off + 3, none⟩ = some (.int .i64 ((rd_T95 l0_6 ((rd_T50 l1 x22_2).f1)).f3)) ∧ w'.cell? ⟨(ad232.add ((((rd_T50 l1 x22_2).f1)).toNat * 5)).block, (ad232.add ((((rd_T50 l1 x22_2).f1)).toNat * 5)).off + 4, none⟩ = some (.int .i64 ((rd_T95 l0_6 ((rd_T50 l1 x22_2).f1)).f4))) (ds := [11]) #[false, false, false, false, false, false, false, false, false, false, false, false] (by kernel_rfl) rfl rfl ⟨bc BK221 0, bc BK221 1, bc BK221 2, bc BK221 3, bc BK221 4, bc BK221 5, bc BK221 6, bc BK221 7, bc BK221 8, bc BK223 0, bc BK223 1, bc BK223 2, bc BK199 0, bc BK199 1, bc BK199 2, bc BK199 3, bc BK199 4, bc BK199 5, bc BK199 6, bc BK199 7, bc BK199 8, (hc HB hw232_0), (hc HB hw232_1), (hc HB hw232_2), (hc HB hw232_3), (hc HB hw232_4)⟩ (fun hHeld => ?_); refine with_tabW spec_Decide.tab11 spec_Decide.bits11 (fun HT_ HW_ => ?_)
              generalize w67.drew = w69 at HO_222000 HO_222004 HO_222006 HO_222007 HO_222008 BK199 BK200 BK221 BK223 HB GG58 HQ70 hf58_0 hf58_1 hf58_2 hf58_3 hf58_4 hx232_0 hx232_1 hx232_2 hx232_3 hx232_4 hx58_0 hx58_1 hx58_2 hx58_3 hx58_4 hHeld ⊢
              refine pz_ 0 47 ?_
              refine pz_ 2 49 ?_
              refine pz_ 4 51 ?_
              refine pz_ 6 53 ?_
              refine take_ (i := 1) (N := some 48) (v := ?_) (a' := ?_) #[true, true, true, false, true, false, true, false, false, false, false, false] rfl rfl (take_ofW HT_.out HW_.out (by kernel_rfl)) (fun _ _ _ h => h) (Or.inl ⟨by rfl, ?_⟩) hHeld ?_ ?_
              rotate_left
              ·rintro w' ⟨s0, s1, s2, s3, s4, s5, s6, s7, s8, s9, s10, s11, s12, s13, s14, s15, s16, s17, s18, s19, s20, s21, s22, s23, s24, s25⟩
               go_simp
               with_reducible rfl
              rotate_left
              ·simp only [Act.put, List.setIfInBounds_toArray, List.set_cons_zero, List.set_cons_succ, i64_w, i32_w]
               rfl
              refine take_ (i := 3) (N := some 50) (v := ?_) (a' := ?_) #[true, true, true, true, true, false, true, false, false, false, false, false] rfl rfl (take_ofW HT_.out HW_.out (by kernel_rfl)) (fun _ _ _ h => h) (Or.inl ⟨by rfl, ?_⟩) hHeld ?_ ?_
              rotate_left
              ·rintro w' ⟨s0, s1, s2, s3, s4, s5, s6, s7, s8, s9, s10, s11, s12, s13, s14, s15, s16, s17, s18, s19, s20, s21, s22, s23, s24, s25⟩
               go_simp
               with_reducible rfl
              rotate_left
              ·simp only [Act.put, List.setIfInBounds_toArray, List.set_cons_zero, List.set_cons_succ, i64_w, i32_w]
               rfl
              refine take_ (i := 5) (N := some 52) (v := ?_) (a' := ?_) #[true, true, true, true, true, true, true, false, false, false, false, false] rfl rfl (take_ofW HT_.out HW_.out (by kernel_rfl)) (fun _ _ _ h => h) (Or.inl ⟨by rfl, ?_⟩) hHeld ?_ ?_
              rotate_left
              ·rintro w' ⟨s0, s1, s2, s3, s4, s5, s6, s7, s8, s9, s10, s11, s12, s13, s14, s15, s16, s17, s18, s19, s20, s21, s22, s23, s24, s25⟩
               go_simp
               with_reducible rfl
              rotate_left
              ·simp only [Act.put, List.setIfInBounds_toArray, List.set_cons_zero, List.set_cons_succ, i64_w, i32_w]
               rfl
              refine take_ (i := 7) (N := some 54) (v := ?_) (a' := ?_) #[true, true, true, true, true, true, true, true, false, false, false, false] rfl rfl (take_ofW HT_.out HW_.out (by kernel_rfl)) (fun _ _ _ h => h) (Or.inl ⟨by rfl, ?_⟩) hHeld ?_ ?_
              rotate_left
              ·rintro w' ⟨s0, s1, s2, s3, s4, s5, s6, s7, s8, s9, s10, s11, s12, s13, s14, s15, s16, s17, s18, s19, s20, s21, s22, s23, s24, s25⟩
               go_simp
               with_reducible rfl
              rotate_left
              ·simp only [Act.put, List.setIfInBounds_toArray, List.set_cons_zero, List.set_cons_succ, i64_w, i32_w]
               rfl
              refine pz_ 8 55 ?_
              refine take_ (i := 9) (N := some 56) (v := ?_) (a' := ?_) #[true, true, true, true, true, true, true, true, true, true, false, false] rfl rfl (take_ofW HT_.out HW_.out (by kernel_rfl)) (fun _ _ _ h => h) (Or.inl ⟨by rfl, ?_⟩) hHeld ?_ ?_
              rotate_left
              ·rintro w' ⟨s0, s1, s2, s3, s4, s5, s6, s7, s8, s9, s10, s11, s12, s13, s14, s15, s16, s17, s18, s19, s20, s21, s22, s23, s24, s25⟩
               go_simp
               with_reducible rfl
              rotate_left
              ·simp only [Act.put, List.setIfInBounds_toArray, List.set_cons_zero, List.set_cons_succ, i64_w, i32_w]
               rfl
              refine pz_ 10 57 ?_
              refine last_ (i := 11) (N := none) #[true, true, true, true, true, true, true, true, true, true, true, true] rfl rfl (one_of HT_.out (by kernel_rfl)) (by decide) (fun K hK => ?_)
              refine skip_ (w1 := ?_) (by rfl) rfl ?_ ?_
              rotate_left
              ·go_simp
               rfl
              refine hK.out _ _ ?_
              clear hK K
              refine done_ (done_of HT_.out (by kernel_rfl)) ?_
              try go_wp2
              go_roundg k2
              case measure => have := HJ2.out; have := HK2.out; omega
              case rel => exact ⟨(wrap64 (x22_2 + 1)), (x201001_2), (x201002_2), (x201003_2), (x201005_2), (y233), (.slice (some ⟨go58, 0, none⟩) x222006_2.length co58), e2_, H', ⟨by have := HJ2.out; have := HK2.out; omega⟩, ⟨by (with_reducible repeat (first | apply Kd.R_alloc | apply Kd.R_drewN | apply Kd.R_drew)); exact Kd.R_mono (Kd.R_far (p := ⟨go58, (((rd_T50 l1 x22_2).f1) : Int).toNat * 5 + 4, none⟩) (Kd.R_far (p := ⟨go58, (((rd_T50 l1 x22_2).f1) : Int).toNat * 5 + 3, none⟩) (Kd.R_far (p := ⟨go58, (((rd_T50 l1 x22_2).f1) : Int).toNat * 5 + 2, none⟩) (Kd.R_far (p := ⟨go58, (((rd_T50 l1 x22_2).f1) : Int).toNat * 5 + 1, none⟩) (Kd.R_far (p := ⟨go58, (((rd_T50 l1 x22_2).f1) : Int).toNat * 5, none⟩) (Kd.R_types HO_222000.out GG58.out (by decide)) (fun _ hk => hk.2) (.int .i64 ((rd_T95 l0_6 ((rd_T50 l1 x22_2).f1)).f0))) (fun _ hk => hk.2) (.int .i64 ((rd_T95 l0_6 ((rd_T50 l1 x22_2).f1)).f1))) (fun _ hk => hk.2) (.int .i64 ((rd_T95 l0_6 ((rd_T50 l1 x22_2).f1)).f2))) (fun _ hk => hk.2) (.int .i64 ((rd_T95 l0_6 ((rd_T50 l1 x22_2).f1)).f3))) (fun _ hk => hk.2) (.int .i64 ((rd_T95 l0_6 ((rd_T50 l1 x22_2).f1)).f4))) (fun _ hk => trivial)⟩, ⟨by (with_reducible repeat (first | apply Kd.R_alloc | apply Kd.R_drewN | apply Kd.R_drew)); exact Kd.R_mono (Kd.R_far (p := ⟨go58, (((rd_T50 l1 x22_2).f1) : Int).toNat * 5 + 4, none⟩) (Kd.R_far (p := ⟨go58, (((rd_T50 l1 x22_2).f1) : Int).toNat * 5 + 3, none⟩) (Kd.R_far (p := ⟨go58, (((rd_T50 l1 x22_2).f1) : Int).toNat * 5 + 2, none⟩) (Kd.R_far (p := ⟨go58, (((rd_T50 l1 x22_2).f1) : Int).toNat * 5 + 1, none⟩) (Kd.R_far (p := ⟨go58, (((rd_T50 l1 x22_2).f1) : Int).toNat * 5, none⟩) (Kd.R_types HO_222004.out GG58.out (by decide)) (fun _ hk => hk.2) (.int .i64 ((rd_T95 l0_6 ((rd_T50 l1 x22_2).f1)).f0))) (fun _ hk => hk.2) (.int .i64 ((rd_T95 l0_6 ((rd_T50 l1 x22_2).f1)).f1))) (fun _ hk => hk.2) (.int .i64 ((rd_T95 l0_6 ((rd_T50 l1 x22_2).f1)).f2))) (fun _ hk => hk.2) (.int .i64 ((rd_T95 l0_6 ((rd_T50 l1 x22_2).f1)).f3))) (fun _ hk => hk.2) (.int .i64 ((rd_T95 l0_6 ((rd_T50 l1 x22_2).f1)).f4))) (fun _ hk => ⟨hk.1.1, hk.1.2⟩)⟩, ⟨rr HQ70⟩, ⟨by (with_reducible repeat (first | apply Kd.R_alloc | apply Kd.R_drewN | apply Kd.R_drew)); exact Kd.R_mono (Kd.R_far (p := ⟨go58, (((rd_T50 l1 x22_2).f1) : Int).toNat * 5 + 4, none⟩) (Kd.R_far (p := ⟨go58, (((rd_T50 l1 x22_2).f1) : Int).toNat * 5 + 3, none⟩) (Kd.R_far (p := ⟨go58, (((rd_T50 l1 x22_2).f1) : Int).toNat * 5 + 2, none⟩) (Kd.R_far (p := ⟨go58, (((rd_T50 l1 x22_2).f1) : Int).toNat * 5 + 1, none⟩) (Kd.R_far (p := ⟨go58, (((rd_T50 l1 x22_2).f1) : Int).toNat * 5, none⟩) (Kd.R_types HO_222007.out GG58.out (by decide)) (fun _ hk => hk.2) (.int .i64 ((rd_T95 l0_6 ((rd_T50 l1 x22_2).f1)).f0))) (fun _ hk => hk.2) (.int .i64 ((rd_T95 l0_6 ((rd_T50 l1 x22_2).f1)).f1))) (fun _ hk => hk.2) (.int .i64 ((rd_T95 l0_6 ((rd_T50 l1 x22_2).f1)).f2))) (fun _ hk => hk.2) (.int .i64 ((rd_T95 l0_6 ((rd_T50 l1 x22_2).f1)).f3))) (fun _ hk => hk.2) (.int .i64 ((rd_T95 l0_6 ((rd_T50 l1 x22_2).f1)).f4))) (fun _ hk => ⟨hk.1.1, hk.1.2⟩)⟩, ⟨by (with_reducible repeat (first | apply Kd.R_alloc | apply Kd.R_drewN | apply Kd.R_drew)); exact Kd.R_mono (Kd.R_far (p := ⟨go58, (((rd_T50 l1 x22_2).f1) : Int).toNat * 5 + 4, none⟩) (Kd.R_far (p := ⟨go58, (((rd_T50 l1 x22_2).f1) : Int).toNat * 5 + 3, none⟩) (Kd.R_far (p := ⟨go58, (((rd_T50 l1 x22_2).f1) : Int).toNat * 5 + 2, none⟩) (Kd.R_far (p := ⟨go58, (((rd_T50 l1 x22_2).f1) : Int).toNat * 5 + 1, none⟩) (Kd.R_far (p := ⟨go58, (((rd_T50 l1 x22_2).f1) : Int).toNat * 5, none⟩) (Kd.R_types HO_222008.out GG58.out (by decide)) (fun _ hk => hk.2) (.int .i64 ((rd_T95 l0_6 ((rd_T50 l1 x22_2).f1)).f0))) (fun _ hk => hk.2) (.int .i64 ((rd_T95 l0_6 ((rd_T50 l1 x22_2).f1)).f1))) (fun _ hk => hk.2) (.int .i64 ((rd_T95 l0_6 ((rd_T50 l1 x22_2).f1)).f2))) (fun _ hk => hk.2) (.int .i64 ((rd_T95 l0_6 ((rd_T50 l1 x22_2).f1)).f3))) (fun _ hk => hk.2) (.int .i64 ((rd_T95 l0_6 ((rd_T50 l1 x22_2).f1)).f4))) (fun _ hk => ⟨hk.1.1, hk.1.2⟩)⟩, ⟨bg HO_222006 BK199⟩, ⟨bg HO_222006 BK200⟩, ⟨bg HO_222006 BK221⟩, ⟨bb HB⟩⟩
             ·rw [if_neg c57] at H
              exact absurd H (by simp)
            ·rw [if_neg c56] at H
             exact absurd H (by simp)
           ·rw [if_neg c55] at H
            exact absurd H (by simp)
         ·replace c34 := Bool.eq_false_iff.mpr c34
          subst c34
          have H1 : (some (([] : List (S139)), 0, 0, 0, ([] : List Int), false, ([] : List (S95)), ([] : List Int), ([] : List Int), false)) = some (r1, r2, r3, r4, r5, r6, r7, r8, r9, r10) := by rw [if_neg (show ¬ (false = true) by decide)] at H; exact H
          clear H
          have H := H1
          clear H1
          simp only [Option.some.injEq, Prod.mk.injEq] at H
          obtain ⟨rfl, rfl, rfl, rfl, rfl, rfl, rfl, rfl, rfl, rfl⟩ := H
          have p222 : 0 ≤ (x22_2 : Int) := oa
          have q222 : x22_2 < (l1.length : Int) := oa
          obtain ⟨ad222, e222, hx222_0, hx222_1, hx222_2⟩ := at_T50 HR1.out x22_2 p222 q222
          cases e222
          replace hx222_0 := hc HB hx222_0
          replace hx222_1 := hc HB hx222_1
          replace hx222_2 := hc HB hx222_2
          replace p222 := eq_true p222
          replace q222 := eq_true q222
          go_wp2_with (first | ((with_reducible refine gate_dst (N := 8) rfl ?_); (try (refine gate_guard (by rfl) ?_; dsimp only)); refine bx (N := 8) (cs := #[.int .i64 0, .int .i64 0, .bool false]) (t := 50) ?_; intro gb223 hg w71 hbox hb; replace HO_222000 := kr HO_222000 hb; replace HO_222004 := kr HO_222004 hb; replace HO_222006 := kr HO_222006 hb; replace HO_222007 := kr HO_222007 hb; replace HO_222008 := kr HO_222008 hb; have BK223 := dk (hbox); have GW223 := gs hg HB; have GE223 := gs hg HB; replace HB := hs_ HB hb; have NB199_223 := gn hg BK199; have NB223_199 := gm hg BK199; replace BK199 := kb BK199 hb; have NB200_223 := gn hg BK200; have NB223_200 := gm hg BK200; replace BK200 := kb BK200 hb; have NB221_223 := gn hg BK221; have NB223_221 := gm hg BK221; replace BK221 := kb BK221 hb; clear hb hbox hg; have hnb72 := NB223_199.out; have hnc72 := NB199_223.out; have hnb73 := NB223_200.out; have hnc73 := NB200_223.out; have hnb74 := NB223_221.out; have hnc74 := NB221_223.out; have ⟨z75_0, z75_1, z75_2, v75_0, v75_1, v75_2⟩ := rz3 BK223; have hnb76 := NB199_200.out; have hnc76 := NB200_199.out; have hnb77 := NB199_221.out; have hnc77 := NB221_199.out; have ⟨z78_0, z78_1, z78_2, z78_3, z78_4, z78_5, z78_6, z78_7, z78_8, v78_0, v78_1, v78_2, v78_3, v78_4, v78_5, v78_6, v78_7, v78_8⟩ := rz9 BK199) | ((with_reducible refine gate_callee (f := 57) rfl ?_); refine gl (some 28) Try.func57 #[.agg #[.slice A0_0 l0_0.length c0_0, .int .i64 a0_1, .int .i64 a0_2, .int .i64 a0_3, .slice A0_4 l0_4.length c0_4, .bool a0_5, .slice A0_6 l0_6.length c0_6, .slice A0_7 l0_7.length c0_7, .slice A0_8 l0_8.length c0_8], .agg #[.int .i64 ((rd_T50 l1 x22_2).f0), .int .i64 ((rd_T50 l1 x22_2).f1), .bool ((rd_T50 l1 x22_2).f2)]] ?_; (with_reducible refine (spec_ProtestOk.calls k2 _ _ l0_0 a0_1 a0_2 a0_3 _ _ l0_4 a0_5 _ _ l0_6 _ _ l0_7 _ _ l0_8 ((rd_T50 l1 x22_2).f0) ((rd_T50 l1 x22_2).f1) ((rd_T50 l1 x22_2).f2) false _ ?side1 ?side2 ?side3 ?side4 ?side5 ?side6 ?side7 ?side8 ?side9 ?side10 A33.out).mono ?_); (case side1 => exact Kd.C_below HR0_0.out (bb HB)); (case side2 => exact HC0_0.out); (case side3 => exact Kd.C_below HR0_4.out (bb HB)); (case side4 => exact HC0_4.out); (case side5 => exact Kd.C_below HR0_6.out (bb HB)); (case side6 => exact HC0_6.out); (case side7 => exact Kd.C_below HR0_7.out (bb HB)); (case side8 => exact HC0_7.out); (case side9 => exact Kd.C_below HR0_8.out (bb HB)); (case side10 => exact HC0_8.out); rintro e w79 ⟨rfl, hb⟩; refine ⟨_, rfl, ?_⟩; replace HO_222000 := kf HO_222000 BK223 hb; replace HO_222004 := kf HO_222004 BK223 hb; replace HO_222006 := kf HO_222006 BK223 hb; replace HO_222007 := kf HO_222007 BK223 hb; replace HO_222008 := kf HO_222008 BK223 hb; replace BK199 := dk (blk_below (bf NB199_223.out BK199) hb); replace BK200 := dk (blk_below (bf NB200_223.out BK200) hb); replace BK221 := dk (blk_below (bf NB221_223.out BK221) hb); replace BK223 := dk (blk_below (g := gb223) (o := .cells #[.int .i64 ((rd_T50 l1 x22_2).f0), .int .i64 ((rd_T50 l1 x22_2).f1), .bool ((rd_T50 l1 x22_2).f2)] 50 (0, 0)) (bp BK223) hb); replace HB := hs_ HB hb; (try clear hb hb2 hk hi); have hnb80 := NB200_221.out; have hnc80 := NB221_200.out; have ⟨z81_0, z81_1, z81_2, z81_3, z81_4, z81_5, z81_6, z81_7, z81_8, v81_0, v81_1, v81_2, v81_3, v81_4, v81_5, v81_6, v81_7, v81_8⟩ := rz9 BK200))
          refine bodyPost_ret (results_ct rfl _ _ gb200 36 #[.slice none 0 0, .int .i64 0, .int .i64 0, .int .i64 0, .slice none 0 0, .bool false, .slice none 0 0, .slice none 0 0, .slice none 0 0] (0, 0) _ rfl (by (with_reducible repeat (first | refine blk_drewN ?_ _ | refine blk_drew ?_ | refine blk_alloc ?_ _)); refine blk_put (cs := #[.slice none 0 0, .int .i64 0, .int .i64 0, .int .i64 0, .slice none 0 0, .bool false, .slice none 0 0, .slice none 0 0, .slice none 0 0]) ?_ 8 _ rfl; (with_reducible repeat (first | refine blk_drewN ?_ _ | refine blk_drew ?_ | refine blk_alloc ?_ _)); refine blk_put (cs := #[.slice none 0 0, .int .i64 0, .int .i64 0, .int .i64 0, .slice none 0 0, .bool false, .slice none 0 0, .slice none 0 0, .slice none 0 0]) ?_ 7 _ rfl; (with_reducible repeat (first | refine blk_drewN ?_ _ | refine blk_drew ?_ | refine blk_alloc ?_ _)); refine blk_put (cs := #[.slice none 0 0, .int .i64 0, .int .i64 0, .int .i64 0, .slice none 0 0, .bool false, .slice none 0 0, .slice none 0 0, .slice none 0 0]) ?_ 6 _ rfl; (with_reducible repeat (first | refine blk_drewN ?_ _ | refine blk_drew ?_ | refine blk_alloc ?_ _)); refine blk_put (cs := #[.slice none 0 0, .int .i64 0, .int .i64 0, .int .i64 0, .slice none 0 0, .bool x201005_2, .slice none 0 0, .slice none 0 0, .slice none 0 0]) ?_ 5 _ rfl; (with_reducible repeat (first | refine blk_drewN ?_ _ | refine blk_drew ?_ | refine blk_alloc ?_ _)); refine blk_put (cs := #[.slice none 0 0, .int .i64 0, .int .i64 0, .int .i64 0, .slice none 0 0, .bool x201005_2, .slice none 0 0, .slice none 0 0, .slice none 0 0]) ?_ 4 _ rfl; (with_reducible repeat (first | refine blk_drewN ?_ _ | refine blk_drew ?_ | refine blk_alloc ?_ _)); refine blk_put (cs := #[.slice none 0 0, .int .i64 0, .int .i64 0, .int .i64 x201003_2, .slice none 0 0, .bool x201005_2, .slice none 0 0, .slice none 0 0, .slice none 0 0]) ?_ 3 _ rfl; (with_reducible repeat (first | refine blk_drewN ?_ _ | refine blk_drew ?_ | refine blk_alloc ?_ _)); refine blk_put (cs := #[.slice none 0 0, .int .i64 0, .int .i64 x201002_2, .int .i64 x201003_2, .slice none 0 0, .bool x201005_2, .slice none 0 0, .slice none 0 0, .slice none 0 0]) ?_ 2 _ rfl; (with_reducible repeat (first | refine blk_drewN ?_ _ | refine blk_drew ?_ | refine blk_alloc ?_ _)); refine blk_put (cs := #[.slice none 0 0, .int .i64 x201001_2, .int .i64 x201002_2, .int .i64 x201003_2, .slice none 0 0, .bool x201005_2, .slice none 0 0, .slice none 0 0, .slice none 0 0]) ?_ 1 _ rfl; (with_reducible repeat (first | refine blk_drewN ?_ _ | refine blk_drew ?_ | refine blk_alloc ?_ _)); refine blk_put (cs := #[.slice none 0 0, .int .i64 x201001_2, .int .i64 x201002_2, .int .i64 x201003_2, .slice none 0 0, .bool x201005_2, .slice none 0 0, .slice none 0 0, .slice none 0 0]) ?_ 0 _ rfl; (with_reducible repeat (first | refine blk_drewN ?_ _ | refine blk_drew ?_ | refine blk_alloc ?_ _)); exact BK200.out) Try.underlying36 rfl (by kernel_rfl)) rfl ?_
          exact ⟨_, _, _, _, _, ee, by first | exact Kd.R_nil _ _ _ _ _ | exact Kd.N_nil _ _ _ _ _ | exact Kd.V_nil _ _ _ _ _ | exact Kd.Q_nil _ _ _ _ _ | exact Kd.S_nil _ _ _ _ _, by first | exact Kd.R_nil _ _ _ _ _ | exact Kd.N_nil _ _ _ _ _ | exact Kd.V_nil _ _ _ _ _ | exact Kd.Q_nil _ _ _ _ _ | exact Kd.S_nil _ _ _ _ _, by first | exact Kd.R_nil _ _ _ _ _ | exact Kd.N_nil _ _ _ _ _ | exact Kd.V_nil _ _ _ _ _ | exact Kd.Q_nil _ _ _ _ _ | exact Kd.S_nil _ _ _ _ _, by first | exact Kd.R_nil _ _ _ _ _ | exact Kd.N_nil _ _ _ _ _ | exact Kd.V_nil _ _ _ _ _ | exact Kd.Q_nil _ _ _ _ _ | exact Kd.S_nil _ _ _ _ _, by first | exact Kd.R_nil _ _ _ _ _ | exact Kd.N_nil _ _ _ _ _ | exact Kd.V_nil _ _ _ _ _ | exact Kd.Q_nil _ _ _ _ _ | exact Kd.S_nil _ _ _ _ _, bb HB⟩
        ·rw [if_neg c32] at H
         exact absurd H (by simp)
       ·rw [if_neg c31] at H
        exact absurd H (by simp)
      ·rw [if_neg c30] at H
       have c30b0 : decide (x22_2 < (l1.length : Int)) = false := decide_eq_false c30
       clear c30
       simp only [Option.some.injEq, Prod.mk.injEq] at H
       obtain ⟨rfl, rfl, rfl, rfl, rfl, rfl, rfl, rfl, rfl, rfl⟩ := H
       have hnb82 := NB221_199.out
       have hnc82 := NB199_221.out
       have hnb83 := NB221_200.out
       have hnc83 := NB200_221.out
       have ⟨z84_0, z84_1, z84_2, z84_3, z84_4, z84_5, z84_6, z84_7, z84_8, v84_0, v84_1, v84_2, v84_3, v84_4, v84_5, v84_6, v84_7, v84_8⟩ := rz9 BK221
       have hnb85 := NB200_199.out
       have hnc85 := NB199_200.out
       have ⟨z86_0, z86_1, z86_2, z86_3, z86_4, z86_5, z86_6, z86_7, z86_8, v86_0, v86_1, v86_2, v86_3, v86_4, v86_5, v86_6, v86_7, v86_8⟩ := rz9 BK200
       obtain ⟨Ao87, co87, eo87⟩ := Kd.R_slice HO_222006.out
       subst eo87
       go_wp2
       refine bodyPost_ret (results_ct rfl _ _ gb200 36 #[.slice Ao22 t202.length co22, .int .i64 t205, .int .i64 t206, .int .i64 t207, .slice Ao26 t208.length co26, .bool t211, .slice Ao87 x222006_2.length co87, .slice Ao28 t215.length co28, .slice Ao29 t218.length co29] (0, 0) _ rfl (by (with_reducible repeat (first | refine blk_drewN ?_ _ | refine blk_drew ?_ | refine blk_alloc ?_ _)); refine blk_put (cs := #[.slice Ao22 t202.length co22, .int .i64 t205, .int .i64 t206, .int .i64 t207, .slice Ao26 t208.length co26, .bool t211, .slice Ao87 x222006_2.length co87, .slice Ao28 t215.length co28, .slice none 0 0]) ?_ 8 _ rfl; (with_reducible repeat (first | refine blk_drewN ?_ _ | refine blk_drew ?_ | refine blk_alloc ?_ _)); refine blk_put (cs := #[.slice Ao22 t202.length co22, .int .i64 t205, .int .i64 t206, .int .i64 t207, .slice Ao26 t208.length co26, .bool t211, .slice Ao87 x222006_2.length co87, .slice none 0 0, .slice none 0 0]) ?_ 7 _ rfl; (with_reducible repeat (first | refine blk_drewN ?_ _ | refine blk_drew ?_ | refine blk_alloc ?_ _)); refine blk_put (cs := #[.slice Ao22 t202.length co22, .int .i64 t205, .int .i64 t206, .int .i64 t207, .slice Ao26 t208.length co26, .bool t211, .slice none 0 0, .slice none 0 0, .slice none 0 0]) ?_ 6 _ rfl; (with_reducible repeat (first | refine blk_drewN ?_ _ | refine blk_drew ?_ | refine blk_alloc ?_ _)); refine blk_put (cs := #[.slice Ao22 t202.length co22, .int .i64 t205, .int .i64 t206, .int .i64 t207, .slice Ao26 t208.length co26, .bool x201005_2, .slice none 0 0, .slice none 0 0, .slice none 0 0]) ?_ 5 _ rfl; (with_reducible repeat (first | refine blk_drewN ?_ _ | refine blk_drew ?_ | refine blk_alloc ?_ _)); refine blk_put (cs := #[.slice Ao22 t202.length co22, .int .i64 t205, .int .i64 t206, .int .i64 t207, .slice none 0 0, .bool x201005_2, .slice none 0 0, .slice none 0 0, .slice none 0 0]) ?_ 4 _ rfl; (with_reducible repeat (first | refine blk_drewN ?_ _ | refine blk_drew ?_ | refine blk_alloc ?_ _)); refine blk_put (cs := #[.slice Ao22 t202.length co22, .int .i64 t205, .int .i64 t206, .int .i64 x201003_2, .slice none 0 0, .bool x201005_2, .slice none 0 0, .slice none 0 0, .slice none 0 0]) ?_ 3 _ rfl; (with_reducible repeat (first | refine blk_drewN ?_ _ | refine blk_drew ?_ | refine blk_alloc ?_ _)); refine blk_put (cs := #[.slice Ao22 t202.length co22, .int .i64 t205, .int .i64 x201002_2, .int .i64 x201003_2, .slice none 0 0, .bool x201005_2, .slice none 0 0, .slice none 0 0, .slice none 0 0]) ?_ 2 _ rfl; (with_reducible repeat (first | refine blk_drewN ?_ _ | refine blk_drew ?_ | refine blk_alloc ?_ _)); refine blk_put (cs := #[.slice Ao22 t202.length co22, .int .i64 x201001_2, .int .i64 x201002_2, .int .i64 x201003_2, .slice none 0 0, .bool x201005_2, .slice none 0 0, .slice none 0 0, .slice none 0 0]) ?_ 1 _ rfl; (with_reducible repeat (first | refine blk_drewN ?_ _ | refine blk_drew ?_ | refine blk_alloc ?_ _)); refine blk_put (cs := #[.slice none 0 0, .int .i64 x201001_2, .int .i64 x201002_2, .int .i64 x201003_2, .slice none 0 0, .bool x201005_2, .slice none 0 0, .slice none 0 0, .slice none 0 0]) ?_ 0 _ rfl; (with_reducible repeat (first | refine blk_drewN ?_ _ | refine blk_drew ?_ | refine blk_alloc ?_ _)); exact BK200.out) Try.underlying36 rfl (by kernel_rfl)) rfl ?_
       exact ⟨_, _, _, _, _, ee, rf HO_222000 BK200 (fun _ hk => trivial), rf HO_222004 BK200 (fun _ hk => ⟨hk.1.1, hk.1.2⟩), rf HO_222006 BK200 (fun _ hk => trivial), rf HO_222007 BK200 (fun _ hk => ⟨hk.1.1, hk.1.2⟩), rf HO_222008 BK200 (fun _ hk => ⟨hk.1.1, hk.1.2⟩), bb HB⟩
end Go.Proofs.Ythfefanapneocaa.Q
end
namespace Go.Proofs.Ythfefanapneocaa.Q
open Go.RowKit Go.Proofs.YthfefanapneocaaW.PrintWords Go.Proofs.YthfefanapneocaaW.PrintLast Go.Proofs.YthfefanapneocaaW.PrintMore
attribute [local go_sem] max2_int min2_int max_two min_two max_three min_three max_four min_four
set_option linter.unusedVariables false
set_option linter.unusedSimpArgs false
set_option maxRecDepth 100000
set_option maxHeartbeats 8000000
def laws_toIntS.l0 : Nat → List Int → List Int → Int → Option (List Int)
 | 0, _, _, _ => none
 | k + 1, x0, x3, x4 => if x4 < (x0.length : Int) then (if 0 ≤ x4 then (if x4 < (x3.length : Int) then (laws_toIntS.l0 k x0 (x3.set (x4 : Int).toNat (rd x0 x4)) (wrap64 (x4 + 1))) else (none)) else (none)) else (some x3)
def laws_toIntS.f (k : Nat) (l0 : List Int) : Option (List Int) := if 0 ≤ (l0.length : Int) then (if ((l0.length : Int) : Int).toNat ≤ 35184372088832 then (laws_toIntS.l0 k l0 (List.replicate ((l0.length : Int) : Int).toNat 0) 0) else (none)) else (none)
theorem laws_toIntS.calls (k : Nat) (A0 : Option Addr) (c0 : Nat) (l0 : List Int) (r : List Int) (w : World) (hr0 : Kd.C (Kd.int .i64) w A0 l0.length l0) (hc0 : l0.length ≤ c0) (h : laws_toIntS.f k l0 = some r) :
  Calls Try.prog 39 #[.slice A0 l0.length c0] w fun e w' => ∃ v0_ : Value, e = .returned (v0_) ∧ Kd.R (Kd.int .i64) 3 w' w.heap.size (fun _ => True) v0_ r ∧ Below w.heap.size w w' := by
 have HR0 := dk hr0
 have HC0 := dk hc0
 clear hr0 hc0
 have HB := dk (Below.refl w.heap.size w)
 have H : (if 0 ≤ (l0.length : Int) then (if ((l0.length : Int) : Int).toNat ≤ 35184372088832 then (laws_toIntS.l0 k l0 (List.replicate ((l0.length : Int) : Int).toNat 0) 0) else (none)) else (none)) = some r := h
 clear h
 by_cases c2 : 0 ≤ (l0.length : Int)
 ·rw [if_pos c2] at H
  have c2b0 := eq_true c2
  have c2b1 : decide (0 ≤ (l0.length : Int)) = true := decide_eq_true c2
  clear c2
  by_cases c3 : ((l0.length : Int) : Int).toNat ≤ 35184372088832
  ·rw [if_pos c3] at H
   have c3b0 := eq_true c3
   have c3b1 : decide (((l0.length : Int) : Int).toNat ≤ 35184372088832) = true := decide_eq_true c3
   clear c3
   obtain ⟨y234, hy234⟩ : ∃ y_ : List Int, y_ = (List.replicate ((l0.length : Int) : Int).toNat 0) := ⟨_, rfl⟩
   replace H : (laws_toIntS.l0 k l0 y234 0) = some r := by first | (rw [hy234]; with_reducible exact H) | (have H2_ := (Option.bind_some _ _).symm.trans H; rw [hy234]; with_reducible exact H2_) | (have H2_ := (Option.bind_some _ _).symm.trans H; with_reducible exact H2_) | with_reducible exact H | (rw [hy234]; exact H) | exact H
   have Ny234 := dk hy234
   clear hy234
   have H' := dk H
   clear H
   go_enter Try.func39, Try.ntmps39
   go_wp2_with (first | ((with_reducible refine gate_dst (N := 7) rfl ?_); refine Kd.R_make (Kd.int .i64) _ 3 rfl (N := 7) rfl 23 _ _ rfl (l0.length : Int) rfl rfl Try.underlying23 (.int .i64 0) 8 info3 rfl (by decide) (by omega) 0 (ok := fun _ => True) (okp := fun _ => True) rfl (fun _ hk => hk) trivial (oa) (Nat.le_trans (Nat.mul_le_mul_right _ (oa : (l0.length : Int).toNat ≤ 35184372088832)) (by omega)) (Below.refl _ _) (Nat.le_refl _) ?_; intro v235 w4 ho5 hb hg_ hnew_; clear hg_ hnew_; (first | rw [← Ny234.out] at ho5 | (simp only [Int.reduceToNat] at ho5; rw [← Ny234.out] at ho5)); have HO236 := kl ho5 HB; replace HB := hs_ HB hb; clear hb ho5))
   go_loopg [4] k (fun kq v4 w' => ∃ (x3_1 : List Int) (x4_1 : Int), v4 = .int .i64 x4_1 ∧ Aside0 (laws_toIntS.l0 kq l0 x3_1 x4_1 = some r) ∧ Aside0 (kq ≤ k) ∧ Aside0 (Kd.R (Kd.int .i64) 3 w' w.heap.size (fun _ => True) v235 x3_1) ∧ Aside0 (Below w.heap.size w w'))
   case atStart => exact ⟨(y234), (0), e2_, H', ⟨Nat.le_refl _⟩, ⟨rr HO236⟩, ⟨bb HB⟩⟩
   case round =>
    clear H'
    (try clear c2)
    (try clear c2b0)
    (try clear c2b1)
    (try clear p2)
    (try clear c3)
    (try clear c3b0)
    (try clear c3b1)
    obtain ⟨x3_1, x4_1, rfl, HA, HK1, HO_3, HB⟩ := hrel
    cases gk with
    | zero => exact absurd HA.out (by simp [laws_toIntS.l0])
    | succ k1 =>
     have H := HA.out
     clear HA
     simp only [laws_toIntS.l0] at H
     by_cases c6 : x4_1 < (l0.length : Int)
     ·rw [if_pos c6] at H
      have c6b0 : decide (x4_1 < (l0.length : Int)) = true := decide_eq_true c6
      clear c6
      by_cases c7 : 0 ≤ x4_1
      ·rw [if_pos c7] at H
       have c7b0 : decide (0 ≤ x4_1) = true := decide_eq_true c7
       clear c7
       by_cases c8 : x4_1 < (x3_1.length : Int)
       ·rw [if_pos c8] at H
        have c8b0 : decide (x4_1 < (x3_1.length : Int)) = true := decide_eq_true c8
        clear c8
        obtain ⟨y238, hy238⟩ : ∃ y_ : List Int, y_ = (x3_1.set (x4_1 : Int).toNat (rd l0 x4_1)) := ⟨_, rfl⟩
        replace H : (laws_toIntS.l0 k1 l0 y238 (wrap64 (x4_1 + 1))) = some r := by first | (rw [hy238]; with_reducible exact H) | (have H2_ := (Option.bind_some _ _).symm.trans H; rw [hy238]; with_reducible exact H2_) | (have H2_ := (Option.bind_some _ _).symm.trans H; with_reducible exact H2_) | with_reducible exact H | (rw [hy238]; exact H) | exact H
        have Ny238 := dk hy238
        clear hy238
        have H' := dk H
        clear H
        have p237 : 0 ≤ (x4_1 : Int) := oa
        have q237 : x4_1 < (l0.length : Int) := oa
        obtain ⟨ad237, e237, hx237_0⟩ := Kd.at_int HR0.out x4_1 p237 q237
        cases e237
        replace hx237_0 := hc HB hx237_0
        replace p237 := eq_true p237
        replace q237 := eq_true q237
        have p9 : 0 ≤ (x4_1 : Int) := oa
        have q9 : (x4_1 : Int) < ((x3_1.length : Int) : Int) := oa
        obtain ⟨go9, co9, eo9, gb9, gl9, cl9, HG9⟩ := Kd.R_form HO_3.out (by omega)
        (first | cases eo9 | (injection eo9 with ea_ en_ ec_; (first | subst ea_ | (injection ea_ with ea_; subst ea_)); subst ec_; clear en_))
        have GB9 := dk gb9
        have GG9 := dk HG9
        clear gb9 gl9 HG9
        obtain ⟨hx9_0, hf9_0⟩ := Kd.R_celln 0 HO_3.out (x4_1 : Int) p9 q9
        replace p9 := eq_true p9
        replace q9 := eq_true q9
        have HP10 := Kd.R_putg HO_3.out (x4_1 : Int) (rd l0 x4_1)
        go_wp2_with (first | ((with_reducible refine gate_store (t := 3) (p := 20) rfl ?_); refine store_event (t := 3) (p := 20) (v := ?vo_w11) (w1 := (wr.setCell ⟨go9, (x4_1 : Int).toNat, none⟩ (.int .i64 (rd l0 x4_1)))) ?hg ?ho ?hn ?hr ?_; (case ho => rfl); (case hg => rfl); (case hn => rfl); (case hr => first | (go_simp; done) | (go_simp; rfl)); intro w11 hw; have hg : wr.grownBy w11 (some go9) := (by rw [hw]; exact HP10.2); have hp_ : Kd.R (Kd.int .i64) 3 w11 w.heap.size (fun _ => True) (.slice (some ⟨go9, 0, none⟩) x3_1.length co9) y238 := (by rw [hw, Ny238.out]; exact HP10.1); clear HP10; replace HO_3 := dk (hp_); replace HB := dk (by rw [hw]; exact below_set (HB.out) GB9.out : Below w.heap.size w w11); clear hg hw hp_))
        go_roundg k1
        case measure => have := HK1.out; omega
        case rel => exact ⟨(y238), (wrap64 (x4_1 + 1)), e2_, H', ⟨by have := HK1.out; omega⟩, ⟨rr HO_3⟩, ⟨bb HB⟩⟩
       ·rw [if_neg c8] at H
        exact absurd H (by simp)
      ·rw [if_neg c7] at H
       exact absurd H (by simp)
     ·rw [if_neg c6] at H
      have c6b0 : decide (x4_1 < (l0.length : Int)) = false := decide_eq_false c6
      clear c6
      obtain rfl := Option.some.inj H
      go_wp2
      go_ret
      exact ⟨_, ee, rr HO_3, bb HB⟩
  ·rw [if_neg c3] at H
   exact absurd H (by simp)
 ·rw [if_neg c2] at H
  exact absurd H (by simp)
def laws_toTeam.f (a0_0 : ByteArray) (a0_1 : Int) (a0_2 : Int) : Option (ByteArray × Int × Int) := some (a0_0, a0_1, a0_2)
theorem laws_toTeam.calls (a0_0 : ByteArray) (a0_1 : Int) (a0_2 : Int) (r1 : ByteArray) (r2 : Int) (r3 : Int) (w : World) (h : laws_toTeam.f a0_0 a0_1 a0_2 = some (r1, r2, r3)) :
  Calls Try.prog 112 #[.agg #[.string a0_0, .int .i64 a0_1, .int .i64 a0_2]] w fun e w' => e = .returned (.agg #[.string r1, .int .i64 r2, .int .i64 r3]) ∧ Below w.heap.size w w' := by
 have hu133 := Try.underlying133
 have hu139 := Try.underlying139
 have HB := dk (Below.refl w.heap.size w)
 have H : (some (a0_0, a0_1, a0_2)) = some (r1, r2, r3) := h
 clear h
 simp only [Option.some.injEq, Prod.mk.injEq] at H
 obtain ⟨rfl, rfl, rfl⟩ := H
 go_enter Try.func112, Try.ntmps112
 go_wp2_with (first | ((with_reducible refine gate_dst (N := 1) rfl ?_); refine bx (N := 1) (cs := #[.string a0_0, .int .i64 a0_1, .int .i64 a0_2]) (t := 133) ?_; intro gb239 hg w2 hbox hb; have BK239 := dk (hbox); have GW239 := gs hg HB; have GE239 := gs hg HB; replace HB := hs_ HB hb; clear hb hbox hg) | ((with_reducible refine gate_dst (N := 2) rfl ?_); refine bx (N := 2) (cs := #[.string (⟨#[]⟩ : ByteArray), .int .i64 0, .int .i64 0]) (t := 139) ?_; intro gb240 hg w3 hbox hb; have BK240 := dk (hbox); have GW240 := gs hg HB; have GE240 := gs hg HB; replace HB := hs_ HB hb; have NB239_240 := gn hg BK239; have NB240_239 := gm hg BK239; replace BK239 := kb BK239 hb; clear hb hbox hg) | ((with_reducible refine gate_dst (N := 3) rfl ?_); refine bx (N := 3) (cs := #[.string (⟨#[]⟩ : ByteArray), .int .i64 0, .int .i64 0]) (t := 139) ?_; intro gb241 hg w4 hbox hb; have BK241 := dk (hbox); have GW241 := gs hg HB; have GE241 := gs hg HB; replace HB := hs_ HB hb; have NB239_241 := gn hg BK239; have NB241_239 := gm hg BK239; replace BK239 := kb BK239 hb; have NB240_241 := gn hg BK240; have NB241_240 := gm hg BK240; replace BK240 := kb BK240 hb; clear hb hbox hg; have hnb5 := NB239_240.out; have hnc5 := NB240_239.out; have hnb6 := NB239_241.out; have hnc6 := NB241_239.out; have ⟨z7_0, z7_1, z7_2, v7_0, v7_1, v7_2⟩ := rz3 BK239; have hnb8 := NB241_240.out; have hnc8 := NB240_241.out; have ⟨z9_0, z9_1, z9_2, v9_0, v9_1, v9_2⟩ := rz3 BK241; have ⟨z10_0, z10_1, z10_2, v10_0, v10_1, v10_2⟩ := rz3 BK240))
 refine bodyPost_ret (results_cell_row rfl _ _ gb240 139 #[.string a0_0, .int .i64 a0_1, .int .i64 a0_2] (0, 0) _ rfl (by (with_reducible repeat (first | refine blk_drewN ?_ _ | refine blk_drew ?_ | refine blk_alloc ?_ _)); refine blk_put (cs := #[.string a0_0, .int .i64 a0_1, .int .i64 0]) ?_ 2 _ rfl; (with_reducible repeat (first | refine blk_drewN ?_ _ | refine blk_drew ?_ | refine blk_alloc ?_ _)); refine blk_put (cs := #[.string a0_0, .int .i64 0, .int .i64 0]) ?_ 1 _ rfl; (with_reducible repeat (first | refine blk_drewN ?_ _ | refine blk_drew ?_ | refine blk_alloc ?_ _)); refine blk_put (cs := #[.string (⟨#[]⟩ : ByteArray), .int .i64 0, .int .i64 0]) ?_ 0 _ rfl; exact bf NB240_241.out BK240) Try.underlying139 rfl (by kernel_rfl)) rfl ?_
 exact ⟨ee, bb HB⟩
def laws_toTeamS.l0 : Nat → List (S133) → List (S139) → Int → Option ((List (S139)))
 | 0, _, _, _ => none
 | k + 1, x0, x3, x4 => if x4 < (x0.length : Int) then (if 0 ≤ x4 then ((laws_toTeam.f ((rd_T133 x0 x4).f0) ((rd_T133 x0 x4).f1) ((rd_T133 x0 x4).f2)).bind fun bt246 => (if x4 < (x3.length : Int) then (laws_toTeamS.l0 k x0 (x3.set (x4 : Int).toNat (⟨bt246.1, bt246.2.1, bt246.2.2⟩ : S139)) (wrap64 (x4 + 1))) else (none))) else (none)) else (some x3)
def laws_toTeamS.f (k : Nat) (l0 : List (S133)) : Option ((List (S139))) := if 0 ≤ (l0.length : Int) then (if ((l0.length : Int) : Int).toNat ≤ 8796093022208 then (laws_toTeamS.l0 k l0 (List.replicate ((l0.length : Int) : Int).toNat z139) 0) else (none)) else (none)
theorem laws_toTeamS.calls (k : Nat) (A0 : Option Addr) (c0 : Nat) (l0 : List (S133)) (r : List (S139)) (w : World) (hr0 : Kd.C k133 w A0 l0.length l0) (hc0 : l0.length ≤ c0) (h : laws_toTeamS.f k l0 = some r) :
  Calls Try.prog 47 #[.slice A0 l0.length c0] w fun e w' => ∃ v0_ : Value, e = .returned (v0_) ∧ Kd.R k139 139 w' w.heap.size (fun _ => True) v0_ r ∧ Below w.heap.size w w' := by
 have hu133 := Try.underlying133
 have hu139 := Try.underlying139
 have HR0 := dk hr0
 have HC0 := dk hc0
 clear hr0 hc0
 have HB := dk (Below.refl w.heap.size w)
 have H : (if 0 ≤ (l0.length : Int) then (if ((l0.length : Int) : Int).toNat ≤ 8796093022208 then (laws_toTeamS.l0 k l0 (List.replicate ((l0.length : Int) : Int).toNat z139) 0) else (none)) else (none)) = some r := h
 clear h
 by_cases c2 : 0 ≤ (l0.length : Int)
 ·rw [if_pos c2] at H
  have c2b0 := eq_true c2
  have c2b1 : decide (0 ≤ (l0.length : Int)) = true := decide_eq_true c2
  clear c2
  by_cases c3 : ((l0.length : Int) : Int).toNat ≤ 8796093022208
  ·rw [if_pos c3] at H
   have c3b0 := eq_true c3
   have c3b1 : decide (((l0.length : Int) : Int).toNat ≤ 8796093022208) = true := decide_eq_true c3
   clear c3
   obtain ⟨y242, hy242⟩ : ∃ y_ : List (S139), y_ = (List.replicate ((l0.length : Int) : Int).toNat z139) := ⟨_, rfl⟩
   replace H : (laws_toTeamS.l0 k l0 y242 0) = some r := by first | (rw [hy242]; with_reducible exact H) | (have H2_ := (Option.bind_some _ _).symm.trans H; rw [hy242]; with_reducible exact H2_) | (have H2_ := (Option.bind_some _ _).symm.trans H; with_reducible exact H2_) | with_reducible exact H | (rw [hy242]; exact H) | exact H
   have Ny242 := dk hy242
   clear hy242
   have H' := dk H
   clear H
   go_enter Try.func47, Try.ntmps47
   go_wp2_with (first | ((with_reducible refine gate_dst (N := 7) rfl ?_); refine Kd.R_make k139 _ 139 rfl (N := 7) rfl 32 _ _ rfl (l0.length : Int) rfl rfl Try.underlying32 (.agg #[(.string ⟨#[]⟩), (.int .i64 0), (.int .i64 0)]) 32 info139 rfl (by decide) (by omega) z139 (ok := fun _ => True) (okp := fun _ => True) (k139_mkM _ _ _ z139 ) (fun _ hk => hk) trivial (oa) (Nat.le_trans (Nat.mul_le_mul_right _ (oa : (l0.length : Int).toNat ≤ 8796093022208)) (by omega)) (Below.refl _ _) (Nat.le_refl _) ?_; intro v243 w4 ho5 hb hg_ hnew_; clear hg_ hnew_; (first | rw [← Ny242.out] at ho5 | (simp only [Int.reduceToNat] at ho5; rw [← Ny242.out] at ho5)); have HO244 := kl ho5 HB; replace HB := hs_ HB hb; clear hb ho5))
   go_loopg [4] k (fun kq v4 w' => ∃ (x3_1 : List (S139)) (x4_1 : Int), v4 = .int .i64 x4_1 ∧ Aside0 (laws_toTeamS.l0 kq l0 x3_1 x4_1 = some r) ∧ Aside0 (kq ≤ k) ∧ Aside0 (Kd.R k139 139 w' w.heap.size (fun _ => True) v243 x3_1) ∧ Aside0 (Below w.heap.size w w'))
   case atStart => exact ⟨(y242), (0), e2_, H', ⟨Nat.le_refl _⟩, ⟨rr HO244⟩, ⟨bb HB⟩⟩
   case round =>
    clear H'
    (try clear c2)
    (try clear c2b0)
    (try clear c2b1)
    (try clear p2)
    (try clear c3)
    (try clear c3b0)
    (try clear c3b1)
    (try clear c4)
    obtain ⟨x3_1, x4_1, rfl, HA, HK1, HO_3, HB⟩ := hrel
    cases gk with
    | zero => exact absurd HA.out (by simp [laws_toTeamS.l0])
    | succ k1 =>
     have H := HA.out
     clear HA
     simp only [laws_toTeamS.l0] at H
     by_cases c6 : x4_1 < (l0.length : Int)
     ·rw [if_pos c6] at H
      have c6b0 : decide (x4_1 < (l0.length : Int)) = true := decide_eq_true c6
      clear c6
      by_cases c7 : 0 ≤ x4_1
      ·rw [if_pos c7] at H
       have c7b0 : decide (0 ≤ x4_1) = true := decide_eq_true c7
       clear c7
       replace H := Option.bind_eq_some_iff.mp H
       obtain ⟨⟨t246, t247, t248⟩, A80, H⟩ := H
       try dsimp only at H
       have A8 := dk A80
       clear A80
       by_cases c9 : x4_1 < (x3_1.length : Int)
       ·rw [if_pos c9] at H
        have c9b0 : decide (x4_1 < (x3_1.length : Int)) = true := decide_eq_true c9
        clear c9
        obtain ⟨y249, hy249⟩ : ∃ y_ : List (S139), y_ = (x3_1.set (x4_1 : Int).toNat (⟨t246, t247, t248⟩ : S139)) := ⟨_, rfl⟩
        replace H : (laws_toTeamS.l0 k1 l0 y249 (wrap64 (x4_1 + 1))) = some r := by first | (rw [hy249]; with_reducible exact H) | (have H2_ := (Option.bind_some _ _).symm.trans H; rw [hy249]; with_reducible exact H2_) | (have H2_ := (Option.bind_some _ _).symm.trans H; with_reducible exact H2_) | with_reducible exact H | (rw [hy249]; exact H) | exact H
        have Ny249 := dk hy249
        clear hy249
        have H' := dk H
        clear H
        have p245 : 0 ≤ (x4_1 : Int) := oa
        have q245 : x4_1 < (l0.length : Int) := oa
        obtain ⟨ad245, e245, hx245_0, hx245_1, hx245_2⟩ := at_T133 HR0.out x4_1 p245 q245
        cases e245
        replace hx245_0 := hc HB hx245_0
        replace hx245_1 := hc HB hx245_1
        replace hx245_2 := hc HB hx245_2
        replace p245 := eq_true p245
        replace q245 := eq_true q245
        go_wp2_with (first | ((with_reducible refine gate_callee (f := 112) rfl ?_); refine gl (some 20) Try.func112 #[.agg #[.string ((rd_T133 l0 x4_1).f0), .int .i64 ((rd_T133 l0 x4_1).f1), .int .i64 ((rd_T133 l0 x4_1).f2)]] ?_; (with_reducible refine (laws_toTeam.calls ((rd_T133 l0 x4_1).f0) ((rd_T133 l0 x4_1).f1) ((rd_T133 l0 x4_1).f2) t246 t247 t248 _ A8.out).mono ?_); rintro e w11 ⟨rfl, hb⟩; refine ⟨_, rfl, ?_⟩; replace HO_3 := kr HO_3 hb; replace HB := hs_ HB hb; (try clear hb hb2 hk hi); have p10 : 0 ≤ (x4_1 : Int) := oa; have q10 : (x4_1 : Int) < ((x3_1.length : Int) : Int) := oa; obtain ⟨go10, co10, eo10, gb10, gl10, cl10, HG10⟩ := Kd.R_form HO_3.out (by omega); (first | cases eo10 | (injection eo10 with ea_ en_ ec_; (first | subst ea_ | (injection ea_ with ea_; subst ea_)); subst ec_; clear en_)); have GB10 := dk gb10; have GG10 := dk HG10; clear gb10 gl10 HG10; obtain ⟨ce10, hcl10, hM10, hcc10, hfr10⟩ := Kd.R_elem HO_3.out z139 (x4_1 : Int) p10 q10; obtain rfl := k139_openM hM10; have hx10_0 : w11.cell? ⟨go10, (x4_1 : Int).toNat * 3, none⟩ = some (.string ((rd_T139 x3_1 x4_1).f0)) := hcc10 0 _ rfl; have hx10_1 : w11.cell? ⟨go10, (x4_1 : Int).toNat * 3 + 1, none⟩ = some (.int .i64 ((rd_T139 x3_1 x4_1).f1)) := hcc10 1 _ rfl; have hx10_2 : w11.cell? ⟨go10, (x4_1 : Int).toNat * 3 + 2, none⟩ = some (.int .i64 ((rd_T139 x3_1 x4_1).f2)) := hcc10 2 _ rfl; have hf10_0 : w11.frozen? ⟨go10, (x4_1 : Int).toNat * 3, none⟩ = false := hfr10 0; have hf10_1 : w11.frozen? ⟨go10, (x4_1 : Int).toNat * 3 + 1, none⟩ = false := hfr10 1; have hf10_2 : w11.frozen? ⟨go10, (x4_1 : Int).toNat * 3 + 2, none⟩ = false := hfr10 2; clear hcl10 hcc10 hfr10; (try clear hM10); replace p10 := eq_true p10; replace q10 := eq_true q10; have HX12 := dk (show Kd.R k139 139 w11 w.heap.size (fun _ => True) (.slice (some ⟨go10, 0, none⟩) x3_1.length co10) x3_1 from (rr HO_3)); obtain ⟨ce12, hcl12, hM12, hcc12, hfr12⟩ := Kd.R_elem HX12.out z139 (x4_1 : Int) (oa) (by have h_ : (x4_1 : Int) < ((x3_1.length : Int) : Int) := oa; first | exact h_ | (have e_ := (Kd.R_reads' HO_3.out).1; omega) | simpa using h_); obtain rfl := k139_openM hM12; have HP12 := Kd.R_seg HX12.out (x4_1 : Int) (oa) (by have h_ : (x4_1 : Int) < ((x3_1.length : Int) : Int) := oa; first | exact h_ | (have e_ := (Kd.R_reads' HO_3.out).1; omega) | simpa using h_) (seg := [.string t246, .int .i64 t247, .int .i64 t248]) (j := 0) hcl12 hcc12 (show 3 ≤ 3 from by decide) (x' := (⟨t246, t247, t248⟩ : S139)) (k139_mkM _ _ _ (⟨t246, t247, t248⟩ : S139) ) (fun _ hk => hk); have hx12_0 := hcc12 0 _ rfl; (try simp only [show (k139).sz = 3 from rfl, Nat.mul_one, Nat.add_zero] at hx12_0); have hf12_0 := hfr12 0; (try simp only [show (k139).sz = 3 from rfl, Nat.mul_one, Nat.add_zero] at hf12_0); have hx12_1 := hcc12 1 _ rfl; (try simp only [show (k139).sz = 3 from rfl, Nat.mul_one, Nat.add_zero] at hx12_1); have hf12_1 := hfr12 1; (try simp only [show (k139).sz = 3 from rfl, Nat.mul_one, Nat.add_zero] at hf12_1); have hx12_2 := hcc12 2 _ rfl; (try simp only [show (k139).sz = 3 from rfl, Nat.mul_one, Nat.add_zero] at hx12_2); have hf12_2 := hfr12 2; (try simp only [show (k139).sz = 3 from rfl, Nat.mul_one, Nat.add_zero] at hf12_2); clear hcl12 hcc12 hfr12; (try clear hM12)) | ((with_reducible refine gate_store (t := 139) (p := 21) rfl ?_); refine store_event (t := 139) (p := 21) (v := ?vo_w13) (w1 := (((w11.setCell ⟨go10, (x4_1 : Int).toNat * 3, none⟩ (.string t246)).setCell ⟨go10, (x4_1 : Int).toNat * 3 + 1, none⟩ (.int .i64 t247)).setCell ⟨go10, (x4_1 : Int).toNat * 3 + 2, none⟩ (.int .i64 t248))) ?hg ?ho ?hn ?hr ?_; (case ho => rfl); (case hg => rfl); (case hn => rfl); (case hr => first | (go_simp; done) | (go_simp; rfl)); intro w13 hw; have hg : w11.grownBy w13 (some go10) := (by rw [hw]; exact HP12.2); have hp_ : Kd.R k139 139 w13 w.heap.size (fun _ => True) (.slice (some ⟨go10, 0, none⟩) x3_1.length co10) y249 := (by rw [hw, Ny249.out]; exact HP12.1); clear HP12; replace HO_3 := dk (hp_); replace HB := dk (by rw [hw]; exact below_set (below_set (below_set (HB.out) GB10.out) GB10.out) GB10.out : Below w.heap.size w w13); clear hg hw hp_))
        go_roundg k1
        case measure => have := HK1.out; omega
        case rel => exact ⟨(y249), (wrap64 (x4_1 + 1)), e2_, H', ⟨by have := HK1.out; omega⟩, ⟨rr HO_3⟩, ⟨bb HB⟩⟩
       ·rw [if_neg c9] at H
        exact absurd H (by simp)
      ·rw [if_neg c7] at H
       exact absurd H (by simp)
     ·rw [if_neg c6] at H
      have c6b0 : decide (x4_1 < (l0.length : Int)) = false := decide_eq_false c6
      clear c6
      obtain rfl := Option.some.inj H
      go_wp2
      go_ret
      exact ⟨_, ee, rr HO_3, bb HB⟩
  ·rw [if_neg c3] at H
   exact absurd H (by simp)
 ·rw [if_neg c2] at H
  exact absurd H (by simp)
def laws_toRules.f (k : Nat) (a0_0 : Int) (a0_1 : Int) (a0_2 : Int) (l0_3 : List Int) (a0_4 : Bool) : Option (Int × Int × Int × List Int × Bool) := (laws_toIntS.f k l0_3).bind fun t253 => (some (a0_0, a0_1, a0_2, t253, a0_4))
theorem laws_toRules.calls (k : Nat) (a0_0 : Int) (a0_1 : Int) (a0_2 : Int) (A0_3 : Option Addr) (c0_3 : Nat) (l0_3 : List Int) (a0_4 : Bool) (r1 : Int) (r2 : Int) (r3 : Int) (r4 : List Int) (r5 : Bool) (w : World) (hr0_3 : Kd.C (Kd.int .i64) w A0_3 l0_3.length l0_3) (hc0_3 : l0_3.length ≤ c0_3) (h : laws_toRules.f k a0_0 a0_1 a0_2 l0_3 a0_4 = some (r1, r2, r3, r4, r5)) :
  Calls Try.prog 59 #[.agg #[.int .i64 a0_0, .int .i64 a0_1, .int .i64 a0_2, .slice A0_3 l0_3.length c0_3, .bool a0_4]] w fun e w' => ∃ v3_ : Value, e = .returned (.agg #[.int .i64 r1, .int .i64 r2, .int .i64 r3, v3_, .bool r5]) ∧ Kd.R (Kd.int .i64) 3 w' w.heap.size (fun _ => True) v3_ r4 ∧ Below w.heap.size w w' := by
 have hu25 := Try.underlying25
 have hu33 := Try.underlying33
 have HR0_3 := dk hr0_3
 have HC0_3 := dk hc0_3
 clear hr0_3 hc0_3
 have HB := dk (Below.refl w.heap.size w)
 have H : ((laws_toIntS.f k l0_3).bind fun t253 => (some (a0_0, a0_1, a0_2, t253, a0_4))) = some (r1, r2, r3, r4, r5) := h
 clear h
 replace H := Option.bind_eq_some_iff.mp H
 obtain ⟨t253, A20, H⟩ := H
 replace H : (some (a0_0, a0_1, a0_2, t253, a0_4)) = some (r1, r2, r3, r4, r5) := H
 have A2 := dk A20
 clear A20
 simp only [Option.some.injEq, Prod.mk.injEq] at H
 obtain ⟨rfl, rfl, rfl, rfl, rfl⟩ := H
 go_enter Try.func59, Try.ntmps59
 go_wp2_with (first | ((with_reducible refine gate_dst (N := 1) rfl ?_); refine bx (N := 1) (cs := #[.int .i64 a0_0, .int .i64 a0_1, .int .i64 a0_2, .slice A0_3 l0_3.length c0_3, .bool a0_4]) (t := 25) ?_; intro gb250 hg w3 hbox hb; have BK250 := dk (hbox); have GW250 := gs hg HB; have GE250 := gs hg HB; replace HB := hs_ HB hb; clear hb hbox hg) | ((with_reducible refine gate_dst (N := 2) rfl ?_); refine bx (N := 2) (cs := #[.int .i64 0, .int .i64 0, .int .i64 0, .slice none 0 0, .bool false]) (t := 33) ?_; intro gb251 hg w4 hbox hb; have BK251 := dk (hbox); have GW251 := gs hg HB; have GE251 := gs hg HB; replace HB := hs_ HB hb; have NB250_251 := gn hg BK250; have NB251_250 := gm hg BK250; replace BK250 := kb BK250 hb; clear hb hbox hg) | ((with_reducible refine gate_dst (N := 3) rfl ?_); refine bx (N := 3) (cs := #[.int .i64 0, .int .i64 0, .int .i64 0, .slice none 0 0, .bool false]) (t := 33) ?_; intro gb252 hg w5 hbox hb; have BK252 := dk (hbox); have GW252 := gs hg HB; have GE252 := gs hg HB; replace HB := hs_ HB hb; have NB250_252 := gn hg BK250; have NB252_250 := gm hg BK250; replace BK250 := kb BK250 hb; have NB251_252 := gn hg BK251; have NB252_251 := gm hg BK251; replace BK251 := kb BK251 hb; clear hb hbox hg; have hnb6 := NB250_251.out; have hnc6 := NB251_250.out; have hnb7 := NB250_252.out; have hnc7 := NB252_250.out; have ⟨z8_0, z8_1, z8_2, z8_3, z8_4, v8_0, v8_1, v8_2, v8_3, v8_4⟩ := rz5 BK250; have hnb9 := NB252_251.out; have hnc9 := NB251_252.out; have ⟨z10_0, z10_1, z10_2, z10_3, z10_4, v10_0, v10_1, v10_2, v10_3, v10_4⟩ := rz5 BK252) | ((with_reducible refine gate_callee (f := 39) rfl ?_); refine gl (some 15) Try.func39 #[.slice A0_3 l0_3.length c0_3] ?_; (with_reducible refine (laws_toIntS.calls k _ _ l0_3 t253 _ ?side1 ?side2 A2.out).mono ?_); (case side1 => exact Kd.C_below HR0_3.out (bb HB)); (case side2 => exact HC0_3.out); rintro e w11 ⟨v254, rfl, ho0, hb⟩; refine ⟨_, rfl, ?_⟩; have HO255 := kl ho0 HB; replace BK250 := dk (blk_below (bf NB250_252.out BK250) hb); replace BK251 := dk (blk_below (bf NB251_252.out BK251) hb); replace BK252 := dk (blk_below (g := gb252) (o := .cells #[.int .i64 a0_0, .int .i64 a0_1, .int .i64 a0_2, .slice none 0 0, .bool false] 33 (0, 0)) (bp BK252) hb); replace HB := hs_ HB hb; (try clear hb hb2 hk hi ho0); obtain ⟨Ao12, co12, eo12⟩ := Kd.R_slice HO255.out; subst eo12; have ⟨z13_0, z13_1, z13_2, z13_3, z13_4, v13_0, v13_1, v13_2, v13_3, v13_4⟩ := rz5 BK252; have ⟨z14_0, z14_1, z14_2, z14_3, z14_4, v14_0, v14_1, v14_2, v14_3, v14_4⟩ := rz5 BK250; have ⟨z15_0, z15_1, z15_2, z15_3, z15_4, v15_0, v15_1, v15_2, v15_3, v15_4⟩ := rz5 BK251))
 refine bodyPost_ret (results_cell_row rfl _ _ gb251 33 #[.int .i64 a0_0, .int .i64 a0_1, .int .i64 a0_2, .slice Ao12 t253.length co12, .bool a0_4] (0, 0) _ rfl (by (with_reducible repeat (first | refine blk_drewN ?_ _ | refine blk_drew ?_ | refine blk_alloc ?_ _)); refine blk_put (cs := #[.int .i64 a0_0, .int .i64 a0_1, .int .i64 a0_2, .slice Ao12 t253.length co12, .bool false]) ?_ 4 _ rfl; (with_reducible repeat (first | refine blk_drewN ?_ _ | refine blk_drew ?_ | refine blk_alloc ?_ _)); refine blk_put (cs := #[.int .i64 a0_0, .int .i64 a0_1, .int .i64 a0_2, .slice none 0 0, .bool false]) ?_ 3 _ rfl; (with_reducible repeat (first | refine blk_drewN ?_ _ | refine blk_drew ?_ | refine blk_alloc ?_ _)); refine blk_put (cs := #[.int .i64 a0_0, .int .i64 a0_1, .int .i64 0, .slice none 0 0, .bool false]) ?_ 2 _ rfl; (with_reducible repeat (first | refine blk_drewN ?_ _ | refine blk_drew ?_ | refine blk_alloc ?_ _)); refine blk_put (cs := #[.int .i64 a0_0, .int .i64 0, .int .i64 0, .slice none 0 0, .bool false]) ?_ 1 _ rfl; (with_reducible repeat (first | refine blk_drewN ?_ _ | refine blk_drew ?_ | refine blk_alloc ?_ _)); refine blk_put (cs := #[.int .i64 0, .int .i64 0, .int .i64 0, .slice none 0 0, .bool false]) ?_ 0 _ rfl; exact bf NB251_252.out BK251) Try.underlying33 rfl (by kernel_rfl)) rfl ?_
 exact ⟨_, ee, by (with_reducible repeat (first | apply Kd.R_alloc | apply Kd.R_drewN | apply Kd.R_drew)); exact Kd.R_mono (Kd.R_far (p := ⟨gb251, 4, none⟩) (Kd.R_far (p := ⟨gb251, 3, none⟩) (Kd.R_far (p := ⟨gb251, 2, none⟩) (Kd.R_far (p := ⟨gb251, 1, none⟩) (Kd.R_far (p := ⟨gb251, 0, none⟩) (Kd.R_far (p := ⟨gb252, 4, none⟩) (Kd.R_far (p := ⟨gb252, 3, none⟩) (Kd.R_types (Kd.R_types HO255.out BK252.out (by decide)) BK251.out (by decide)) (fun _ hk => hk.1.2) (.slice Ao12 t253.length co12)) (fun _ hk => hk.1.2) (.bool a0_4)) (fun _ hk => hk.2) (.int .i64 a0_0)) (fun _ hk => hk.2) (.int .i64 a0_1)) (fun _ hk => hk.2) (.int .i64 a0_2)) (fun _ hk => hk.2) (.slice Ao12 t253.length co12)) (fun _ hk => hk.2) (.bool a0_4)) (fun _ hk => trivial), bb HB⟩
def laws_toGame.f (a0_0 : Int) (a0_1 : Int) (a0_2 : Int) (a0_3 : Int) (a0_4 : Int) : Option (Int × Int × Int × Int × Int) := some (a0_0, a0_1, a0_2, a0_3, a0_4)
theorem laws_toGame.calls (a0_0 : Int) (a0_1 : Int) (a0_2 : Int) (a0_3 : Int) (a0_4 : Int) (r1 : Int) (r2 : Int) (r3 : Int) (r4 : Int) (r5 : Int) (w : World) (h : laws_toGame.f a0_0 a0_1 a0_2 a0_3 a0_4 = some (r1, r2, r3, r4, r5)) :
  Calls Try.prog 121 #[.agg #[.int .i64 a0_0, .int .i64 a0_1, .int .i64 a0_2, .int .i64 a0_3, .int .i64 a0_4]] w fun e w' => e = .returned (.agg #[.int .i64 r1, .int .i64 r2, .int .i64 r3, .int .i64 r4, .int .i64 r5]) ∧ Below w.heap.size w w' := by
 have hu147 := Try.underlying147
 have hu95 := Try.underlying95
 have HB := dk (Below.refl w.heap.size w)
 have H : (some (a0_0, a0_1, a0_2, a0_3, a0_4)) = some (r1, r2, r3, r4, r5) := h
 clear h
 simp only [Option.some.injEq, Prod.mk.injEq] at H
 obtain ⟨rfl, rfl, rfl, rfl, rfl⟩ := H
 go_enter Try.func121, Try.ntmps121
 go_wp2_with (first | ((with_reducible refine gate_dst (N := 1) rfl ?_); refine bx (N := 1) (cs := #[.int .i64 a0_0, .int .i64 a0_1, .int .i64 a0_2, .int .i64 a0_3, .int .i64 a0_4]) (t := 147) ?_; intro gb256 hg w2 hbox hb; have BK256 := dk (hbox); have GW256 := gs hg HB; have GE256 := gs hg HB; replace HB := hs_ HB hb; clear hb hbox hg) | ((with_reducible refine gate_dst (N := 2) rfl ?_); refine bx (N := 2) (cs := #[.int .i64 0, .int .i64 0, .int .i64 0, .int .i64 0, .int .i64 0]) (t := 95) ?_; intro gb257 hg w3 hbox hb; have BK257 := dk (hbox); have GW257 := gs hg HB; have GE257 := gs hg HB; replace HB := hs_ HB hb; have NB256_257 := gn hg BK256; have NB257_256 := gm hg BK256; replace BK256 := kb BK256 hb; clear hb hbox hg) | ((with_reducible refine gate_dst (N := 3) rfl ?_); refine bx (N := 3) (cs := #[.int .i64 0, .int .i64 0, .int .i64 0, .int .i64 0, .int .i64 0]) (t := 95) ?_; intro gb258 hg w4 hbox hb; have BK258 := dk (hbox); have GW258 := gs hg HB; have GE258 := gs hg HB; replace HB := hs_ HB hb; have NB256_258 := gn hg BK256; have NB258_256 := gm hg BK256; replace BK256 := kb BK256 hb; have NB257_258 := gn hg BK257; have NB258_257 := gm hg BK257; replace BK257 := kb BK257 hb; clear hb hbox hg; have hnb5 := NB256_257.out; have hnc5 := NB257_256.out; have hnb6 := NB256_258.out; have hnc6 := NB258_256.out; have ⟨z7_0, z7_1, z7_2, z7_3, z7_4, v7_0, v7_1, v7_2, v7_3, v7_4⟩ := rz5 BK256; have hnb8 := NB258_257.out; have hnc8 := NB257_258.out; have ⟨z9_0, z9_1, z9_2, z9_3, z9_4, v9_0, v9_1, v9_2, v9_3, v9_4⟩ := rz5 BK258; have ⟨z10_0, z10_1, z10_2, z10_3, z10_4, v10_0, v10_1, v10_2, v10_3, v10_4⟩ := rz5 BK257))
 refine bodyPost_ret (results_cell_row rfl _ _ gb257 95 #[.int .i64 a0_0, .int .i64 a0_1, .int .i64 a0_2, .int .i64 a0_3, .int .i64 a0_4] (0, 0) _ rfl (by (with_reducible repeat (first | refine blk_drewN ?_ _ | refine blk_drew ?_ | refine blk_alloc ?_ _)); refine blk_put (cs := #[.int .i64 a0_0, .int .i64 a0_1, .int .i64 a0_2, .int .i64 a0_3, .int .i64 0]) ?_ 4 _ rfl; (with_reducible repeat (first | refine blk_drewN ?_ _ | refine blk_drew ?_ | refine blk_alloc ?_ _)); refine blk_put (cs := #[.int .i64 a0_0, .int .i64 a0_1, .int .i64 a0_2, .int .i64 0, .int .i64 0]) ?_ 3 _ rfl; (with_reducible repeat (first | refine blk_drewN ?_ _ | refine blk_drew ?_ | refine blk_alloc ?_ _)); refine blk_put (cs := #[.int .i64 a0_0, .int .i64 a0_1, .int .i64 0, .int .i64 0, .int .i64 0]) ?_ 2 _ rfl; (with_reducible repeat (first | refine blk_drewN ?_ _ | refine blk_drew ?_ | refine blk_alloc ?_ _)); refine blk_put (cs := #[.int .i64 a0_0, .int .i64 0, .int .i64 0, .int .i64 0, .int .i64 0]) ?_ 1 _ rfl; (with_reducible repeat (first | refine blk_drewN ?_ _ | refine blk_drew ?_ | refine blk_alloc ?_ _)); refine blk_put (cs := #[.int .i64 0, .int .i64 0, .int .i64 0, .int .i64 0, .int .i64 0]) ?_ 0 _ rfl; exact bf NB257_258.out BK257) Try.underlying95 rfl (by kernel_rfl)) rfl ?_
 exact ⟨ee, bb HB⟩
def laws_toGameS.l0 : Nat → List (S147) → List (S95) → Int → Option ((List (S95)))
 | 0, _, _, _ => none
 | k + 1, x0, x3, x4 => if x4 < (x0.length : Int) then (if 0 ≤ x4 then ((laws_toGame.f ((rd_T147 x0 x4).f0) ((rd_T147 x0 x4).f1) ((rd_T147 x0 x4).f2) ((rd_T147 x0 x4).f3) ((rd_T147 x0 x4).f4)).bind fun bt263 => (if x4 < (x3.length : Int) then (laws_toGameS.l0 k x0 (x3.set (x4 : Int).toNat (⟨bt263.1, bt263.2.1, bt263.2.2.1, bt263.2.2.2.1, bt263.2.2.2.2⟩ : S95)) (wrap64 (x4 + 1))) else (none))) else (none)) else (some x3)
def laws_toGameS.f (k : Nat) (l0 : List (S147)) : Option ((List (S95))) := if 0 ≤ (l0.length : Int) then (if ((l0.length : Int) : Int).toNat ≤ 7036874417766 then (laws_toGameS.l0 k l0 (List.replicate ((l0.length : Int) : Int).toNat z95) 0) else (none)) else (none)
theorem laws_toGameS.calls (k : Nat) (A0 : Option Addr) (c0 : Nat) (l0 : List (S147)) (r : List (S95)) (w : World) (hr0 : Kd.C k147 w A0 l0.length l0) (hc0 : l0.length ≤ c0) (h : laws_toGameS.f k l0 = some r) :
  Calls Try.prog 60 #[.slice A0 l0.length c0] w fun e w' => ∃ v0_ : Value, e = .returned (v0_) ∧ Kd.R k95 95 w' w.heap.size (fun _ => True) v0_ r ∧ Below w.heap.size w w' := by
 have hu147 := Try.underlying147
 have hu95 := Try.underlying95
 have HR0 := dk hr0
 have HC0 := dk hc0
 clear hr0 hc0
 have HB := dk (Below.refl w.heap.size w)
 have H : (if 0 ≤ (l0.length : Int) then (if ((l0.length : Int) : Int).toNat ≤ 7036874417766 then (laws_toGameS.l0 k l0 (List.replicate ((l0.length : Int) : Int).toNat z95) 0) else (none)) else (none)) = some r := h
 clear h
 by_cases c2 : 0 ≤ (l0.length : Int)
 ·rw [if_pos c2] at H
  have c2b0 := eq_true c2
  have c2b1 : decide (0 ≤ (l0.length : Int)) = true := decide_eq_true c2
  clear c2
  by_cases c3 : ((l0.length : Int) : Int).toNat ≤ 7036874417766
  ·rw [if_pos c3] at H
   have c3b0 := eq_true c3
   have c3b1 : decide (((l0.length : Int) : Int).toNat ≤ 7036874417766) = true := decide_eq_true c3
   clear c3
   obtain ⟨y259, hy259⟩ : ∃ y_ : List (S95), y_ = (List.replicate ((l0.length : Int) : Int).toNat z95) := ⟨_, rfl⟩
   replace H : (laws_toGameS.l0 k l0 y259 0) = some r := by first | (rw [hy259]; with_reducible exact H) | (have H2_ := (Option.bind_some _ _).symm.trans H; rw [hy259]; with_reducible exact H2_) | (have H2_ := (Option.bind_some _ _).symm.trans H; with_reducible exact H2_) | with_reducible exact H | (rw [hy259]; exact H) | exact H
   have Ny259 := dk hy259
   clear hy259
   have H' := dk H
   clear H
   go_enter Try.func60, Try.ntmps60
   go_wp2_with (first | ((with_reducible refine gate_dst (N := 7) rfl ?_); refine Kd.R_make k95 _ 95 rfl (N := 7) rfl 34 _ _ rfl (l0.length : Int) rfl rfl Try.underlying34 (.agg #[(.int .i64 0), (.int .i64 0), (.int .i64 0), (.int .i64 0), (.int .i64 0)]) 40 info95 rfl (by decide) (by omega) z95 (ok := fun _ => True) (okp := fun _ => True) (k95_mkM _ _ _ z95 ) (fun _ hk => hk) trivial (oa) (Nat.le_trans (Nat.mul_le_mul_right _ (oa : (l0.length : Int).toNat ≤ 7036874417766)) (by omega)) (Below.refl _ _) (Nat.le_refl _) ?_; intro v260 w4 ho5 hb hg_ hnew_; clear hg_ hnew_; (first | rw [← Ny259.out] at ho5 | (simp only [Int.reduceToNat] at ho5; rw [← Ny259.out] at ho5)); have HO261 := kl ho5 HB; replace HB := hs_ HB hb; clear hb ho5))
   go_loopg [4] k (fun kq v4 w' => ∃ (x3_1 : List (S95)) (x4_1 : Int), v4 = .int .i64 x4_1 ∧ Aside0 (laws_toGameS.l0 kq l0 x3_1 x4_1 = some r) ∧ Aside0 (kq ≤ k) ∧ Aside0 (Kd.R k95 95 w' w.heap.size (fun _ => True) v260 x3_1) ∧ Aside0 (Below w.heap.size w w'))
   case atStart => exact ⟨(y259), (0), e2_, H', ⟨Nat.le_refl _⟩, ⟨rr HO261⟩, ⟨bb HB⟩⟩
   case round =>
    clear H'
    (try clear c2)
    (try clear c2b0)
    (try clear c2b1)
    (try clear p2)
    (try clear c3)
    (try clear c3b0)
    (try clear c3b1)
    obtain ⟨x3_1, x4_1, rfl, HA, HK1, HO_3, HB⟩ := hrel
    cases gk with
    | zero => exact absurd HA.out (by simp [laws_toGameS.l0])
    | succ k1 =>
     have H := HA.out
     clear HA
     simp only [laws_toGameS.l0] at H
     by_cases c6 : x4_1 < (l0.length : Int)
     ·rw [if_pos c6] at H
      have c6b0 : decide (x4_1 < (l0.length : Int)) = true := decide_eq_true c6
      clear c6
      by_cases c7 : 0 ≤ x4_1
      ·rw [if_pos c7] at H
       have c7b0 : decide (0 ≤ x4_1) = true := decide_eq_true c7
       clear c7
       replace H := Option.bind_eq_some_iff.mp H
       obtain ⟨⟨t263, t264, t265, t266, t267⟩, A80, H⟩ := H
       try dsimp only at H
       have A8 := dk A80
       clear A80
       by_cases c9 : x4_1 < (x3_1.length : Int)
       ·rw [if_pos c9] at H
        have c9b0 : decide (x4_1 < (x3_1.length : Int)) = true := decide_eq_true c9
        clear c9
        obtain ⟨y268, hy268⟩ : ∃ y_ : List (S95), y_ = (x3_1.set (x4_1 : Int).toNat (⟨t263, t264, t265, t266, t267⟩ : S95)) := ⟨_, rfl⟩
        replace H : (laws_toGameS.l0 k1 l0 y268 (wrap64 (x4_1 + 1))) = some r := by first | (rw [hy268]; with_reducible exact H) | (have H2_ := (Option.bind_some _ _).symm.trans H; rw [hy268]; with_reducible exact H2_) | (have H2_ := (Option.bind_some _ _).symm.trans H; with_reducible exact H2_) | with_reducible exact H | (rw [hy268]; exact H) | exact H
        have Ny268 := dk hy268
        clear hy268
        have H' := dk H
        clear H
        have p262 : 0 ≤ (x4_1 : Int) := oa
        have q262 : x4_1 < (l0.length : Int) := oa
        obtain ⟨ad262, e262, hx262_0, hx262_1, hx262_2, hx262_3, hx262_4⟩ := at_T147 HR0.out x4_1 p262 q262
        cases e262
        replace hx262_0 := hc HB hx262_0
        replace hx262_1 := hc HB hx262_1
        replace hx262_2 := hc HB hx262_2
        replace hx262_3 := hc HB hx262_3
        replace hx262_4 := hc HB hx262_4
        replace p262 := eq_true p262
        replace q262 := eq_true q262
        go_wp2_with (first | ((with_reducible refine gate_callee (f := 121) rfl ?_); refine gl (some 20) Try.func121 #[.agg #[.int .i64 ((rd_T147 l0 x4_1).f0), .int .i64 ((rd_T147 l0 x4_1).f1), .int .i64 ((rd_T147 l0 x4_1).f2), .int .i64 ((rd_T147 l0 x4_1).f3), .int .i64 ((rd_T147 l0 x4_1).f4)]] ?_; (with_reducible refine (laws_toGame.calls ((rd_T147 l0 x4_1).f0) ((rd_T147 l0 x4_1).f1) ((rd_T147 l0 x4_1).f2) ((rd_T147 l0 x4_1).f3) ((rd_T147 l0 x4_1).f4) t263 t264 t265 t266 t267 _ A8.out).mono ?_); rintro e w11 ⟨rfl, hb⟩; refine ⟨_, rfl, ?_⟩; replace HO_3 := kr HO_3 hb; replace HB := hs_ HB hb; (try clear hb hb2 hk hi); have p10 : 0 ≤ (x4_1 : Int) := oa; have q10 : (x4_1 : Int) < ((x3_1.length : Int) : Int) := oa; obtain ⟨go10, co10, eo10, gb10, gl10, cl10, HG10⟩ := Kd.R_form HO_3.out (by omega); (first | cases eo10 | (injection eo10 with ea_ en_ ec_; (first | subst ea_ | (injection ea_ with ea_; subst ea_)); subst ec_; clear en_)); have GB10 := dk gb10; have GG10 := dk HG10; clear gb10 gl10 HG10; obtain ⟨ce10, hcl10, hM10, hcc10, hfr10⟩ := Kd.R_elem HO_3.out z95 (x4_1 : Int) p10 q10; obtain rfl := k95_openM hM10; have hx10_0 : w11.cell? ⟨go10, (x4_1 : Int).toNat * 5, none⟩ = some (.int .i64 ((rd_T95 x3_1 x4_1).f0)) := hcc10 0 _ rfl; have hx10_1 : w11.cell? ⟨go10, (x4_1 : Int).toNat * 5 + 1, none⟩ = some (.int .i64 ((rd_T95 x3_1 x4_1).f1)) := hcc10 1 _ rfl; have hx10_2 : w11.cell? ⟨go10, (x4_1 : Int).toNat * 5 + 2, none⟩ = some (.int .i64 ((rd_T95 x3_1 x4_1).f2)) := hcc10 2 _ rfl; have hx10_3 : w11.cell? ⟨go10, (x4_1 : Int).toNat * 5 + 3, none⟩ = some (.int .i64 ((rd_T95 x3_1 x4_1).f3)) := hcc10 3 _ rfl; have hx10_4 : w11.cell? ⟨go10, (x4_1 : Int).toNat * 5 + 4, none⟩ = some (.int .i64 ((rd_T95 x3_1 x4_1).f4)) := hcc10 4 _ rfl; have hf10_0 : w11.frozen? ⟨go10, (x4_1 : Int).toNat * 5, none⟩ = false := hfr10 0; have hf10_1 : w11.frozen? ⟨go10, (x4_1 : Int).toNat * 5 + 1, none⟩ = false := hfr10 1; have hf10_2 : w11.frozen? ⟨go10, (x4_1 : Int).toNat * 5 + 2, none⟩ = false := hfr10 2; have hf10_3 : w11.frozen? ⟨go10, (x4_1 : Int).toNat * 5 + 3, none⟩ = false := hfr10 3; have hf10_4 : w11.frozen? ⟨go10, (x4_1 : Int).toNat * 5 + 4, none⟩ = false := hfr10 4; clear hcl10 hcc10 hfr10; (try clear hM10); replace p10 := eq_true p10; replace q10 := eq_true q10; have HX12 := dk (show Kd.R k95 95 w11 w.heap.size (fun _ => True) (.slice (some ⟨go10, 0, none⟩) x3_1.length co10) x3_1 from (rr HO_3)); obtain ⟨ce12, hcl12, hM12, hcc12, hfr12⟩ := Kd.R_elem HX12.out z95 (x4_1 : Int) (oa) (by have h_ : (x4_1 : Int) < ((x3_1.length : Int) : Int) := oa; first | exact h_ | (have e_ := (Kd.R_reads' HO_3.out).1; omega) | simpa using h_); obtain rfl := k95_openM hM12; have HP12 := Kd.R_seg HX12.out (x4_1 : Int) (oa) (by have h_ : (x4_1 : Int) < ((x3_1.length : Int) : Int) := oa; first | exact h_ | (have e_ := (Kd.R_reads' HO_3.out).1; omega) | simpa using h_) (seg := [.int .i64 t263, .int .i64 t264, .int .i64 t265, .int .i64 t266, .int .i64 t267]) (j := 0) hcl12 hcc12 (show 5 ≤ 5 from by decide) (x' := (⟨t263, t264, t265, t266, t267⟩ : S95)) (k95_mkM _ _ _ (⟨t263, t264, t265, t266, t267⟩ : S95) ) (fun _ hk => hk); have hx12_0 := hcc12 0 _ rfl; (try simp only [show (k95).sz = 5 from rfl, Nat.mul_one, Nat.add_zero] at hx12_0); have hf12_0 := hfr12 0; (try simp only [show (k95).sz = 5 from rfl, Nat.mul_one, Nat.add_zero] at hf12_0); have hx12_1 := hcc12 1 _ rfl; (try simp only [show (k95).sz = 5 from rfl, Nat.mul_one, Nat.add_zero] at hx12_1); have hf12_1 := hfr12 1; (try simp only [show (k95).sz = 5 from rfl, Nat.mul_one, Nat.add_zero] at hf12_1); have hx12_2 := hcc12 2 _ rfl; (try simp only [show (k95).sz = 5 from rfl, Nat.mul_one, Nat.add_zero] at hx12_2); have hf12_2 := hfr12 2; (try simp only [show (k95).sz = 5 from rfl, Nat.mul_one, Nat.add_zero] at hf12_2); have hx12_3 := hcc12 3 _ rfl; (try simp only [show (k95).sz = 5 from rfl, Nat.mul_one, Nat.add_zero] at hx12_3); have hf12_3 := hfr12 3; (try simp only [show (k95).sz = 5 from rfl, Nat.mul_one, Nat.add_zero] at hf12_3); have hx12_4 := hcc12 4 _ rfl; (try simp only [show (k95).sz = 5 from rfl, Nat.mul_one, Nat.add_zero] at hx12_4); have hf12_4 := hfr12 4; (try simp only [show (k95).sz = 5 from rfl, Nat.mul_one, Nat.add_zero] at hf12_4); clear hcl12 hcc12 hfr12; (try clear hM12)) | ((with_reducible refine gate_store (t := 95) (p := 21) rfl ?_); refine store_event (t := 95) (p := 21) (v := ?vo_w13) (w1 := (((((w11.setCell ⟨go10, (x4_1 : Int).toNat * 5, none⟩ (.int .i64 t263)).setCell ⟨go10, (x4_1 : Int).toNat * 5 + 1, none⟩ (.int .i64 t264)).setCell ⟨go10, (x4_1 : Int).toNat * 5 + 2, none⟩ (.int .i64 t265)).setCell ⟨go10, (x4_1 : Int).toNat * 5 + 3, none⟩ (.int .i64 t266)).setCell ⟨go10, (x4_1 : Int).toNat * 5 + 4, none⟩ (.int .i64 t267))) ?hg ?ho ?hn ?hr ?_; (case ho => rfl); (case hg => rfl); (case hn => rfl); (case hr => first | (go_simp; done) | (go_simp; rfl)); intro w13 hw; have hg : w11.grownBy w13 (some go10) := (by rw [hw]; exact HP12.2); have hp_ : Kd.R k95 95 w13 w.heap.size (fun _ => True) (.slice (some ⟨go10, 0, none⟩) x3_1.length co10) y268 := (by rw [hw, Ny268.out]; exact HP12.1); clear HP12; replace HO_3 := dk (hp_); replace HB := dk (by rw [hw]; exact below_set (below_set (below_set (below_set (below_set (HB.out) GB10.out) GB10.out) GB10.out) GB10.out) GB10.out : Below w.heap.size w w13); clear hg hw hp_))
        go_roundg k1
        case measure => have := HK1.out; omega
        case rel => exact ⟨(y268), (wrap64 (x4_1 + 1)), e2_, H', ⟨by have := HK1.out; omega⟩, ⟨rr HO_3⟩, ⟨bb HB⟩⟩
       ·rw [if_neg c9] at H
        exact absurd H (by simp)
      ·rw [if_neg c7] at H
       exact absurd H (by simp)
     ·rw [if_neg c6] at H
      have c6b0 : decide (x4_1 < (l0.length : Int)) = false := decide_eq_false c6
      clear c6
      obtain rfl := Option.some.inj H
      go_wp2
      go_ret
      exact ⟨_, ee, rr HO_3, bb HB⟩
  ·rw [if_neg c3] at H
   exact absurd H (by simp)
 ·rw [if_neg c2] at H
  exact absurd H (by simp)
end Go.Proofs.Ythfefanapneocaa.Q
