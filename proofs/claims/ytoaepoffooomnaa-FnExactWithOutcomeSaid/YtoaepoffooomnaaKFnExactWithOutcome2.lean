/- A part of the proof of FnExactWithOutcome: functions of the program, as plain functions, with the proof that the machine's call does what they say; plain lemmas; and those of the words that print.sh prints which this proof uses. No condition. -/
import Derived.Test.YtoaepoffooomnaaKFnExactWithOutcome1
import Derived.Test.YtoaepoffooomnaaProg
import Derived.Below
import Derived.Deep.Draws
import Derived.Deep.AppendLies
import Derived.Maps.AppendAt
import Derived.OwnWalk
import Derived.Laws.BytesArg
import Derived.Laws.MakeOwn
import Derived.Laws.OwnMore
import Derived.Deep.OwnRows
import Derived.Tactics
import Derived.Lib.ConvBytes
import Derived.Laws.Slices
import Derived.WalkKit
import Derived.KernelRfl
import Derived.RowKit3
import Derived.Deep.LoopGhost
import Derived.Deep.QuietTactic
import Derived.BigQuiet
import Derived.WideLaws
import Derived.Deep.DeepCutAuto
import Derived.Deep.CutBlock
import Derived.Deep.RegionHeld3
import Derived.Laws.Rows
import Derived.Lib.AppendStr
import Derived.ArgAppend
import Derived.Laws.IdiomCopy
import Derived.OrdersHeld
import Derived.Laws.BitsLemmas
import Derived.RowKit
import Derived.WalkSpells
import Derived.Laws.StructEq
namespace Go.Proofs.Ytoaepoffooomnaa.Q
open Go.RowKit Go.Proofs.YtoaepoffooomnaaW.PrintWords Go.Proofs.YtoaepoffooomnaaW.PrintLast Go.Proofs.YtoaepoffooomnaaW.PrintMore
attribute [local go_sem] max2_int min2_int max_two min_two max_three min_three max_four min_four
set_option linter.unusedVariables false
set_option linter.unusedSimpArgs false
def spec_GameOk.j0 : Nat → Bool → Int → Int → Int → Int → Int → Option (Bool)
 | 0, _, _, _, _, _, _ => none
 | k + 1, x36, x148000, x148001, x148002, x148003, x148004 => if x36 = true then (some false) else (if x148004 = 1 then ((spec_l01In.f x148002 0 99).bind fun t152 => (if t152 = true then ((spec_l01In.f x148003 0 99).bind fun t153 => (some t153)) else (some false))) else (if x148002 = 0 then (some (x148003 == 0)) else (some false)))
def spec_GameOk.f (k : Nat) (a0 : Int) (a1_0 : Int) (a1_1 : Int) (a1_2 : Int) (a1_3 : Int) (a1_4 : Int) : Option (Bool) := (spec_l01In.f a0 2 8).bind fun t148 => (if t148 = true then ((spec_l01In.f a1_0 0 (wrap64 (a0 - 1))).bind fun t149 => (if t149 = true then ((spec_l01In.f a1_1 0 (wrap64 (a0 - 1))).bind fun t150 => (if t150 = true then (if a1_0 = a1_1 then (spec_GameOk.j0 k true a1_0 a1_1 a1_2 a1_3 a1_4) else ((spec_l01In.f a1_4 0 4).bind fun t151 => (spec_GameOk.j0 k (!t151) a1_0 a1_1 a1_2 a1_3 a1_4))) else (spec_GameOk.j0 k true a1_0 a1_1 a1_2 a1_3 a1_4))) else (spec_GameOk.j0 k true a1_0 a1_1 a1_2 a1_3 a1_4))) else (spec_GameOk.j0 k true a1_0 a1_1 a1_2 a1_3 a1_4))
set_option maxHeartbeats 8000000 in
set_option maxRecDepth 100000 in
theorem spec_GameOk.calls (k : Nat) (a0 : Int) (a1_0 : Int) (a1_1 : Int) (a1_2 : Int) (a1_3 : Int) (a1_4 : Int) (r : Bool) (w : World) (h : spec_GameOk.f k a0 a1_0 a1_1 a1_2 a1_3 a1_4 = some r) :
  Calls Try.prog 93 #[.int .i64 a0, .agg #[.int .i64 a1_0, .int .i64 a1_1, .int .i64 a1_2, .int .i64 a1_3, .int .i64 a1_4]] w fun e w' => e = .returned (.bool r) ∧ Below w.heap.size w w' := by
 have hu75 := Try.underlying75
 have HB := Aside0.mk (Below.refl w.heap.size w)
 have H : ((spec_l01In.f a0 2 8).bind fun t148 => (if t148 = true then ((spec_l01In.f a1_0 0 (wrap64 (a0 - 1))).bind fun t149 => (if t149 = true then ((spec_l01In.f a1_1 0 (wrap64 (a0 - 1))).bind fun t150 => (if t150 = true then (if a1_0 = a1_1 then (spec_GameOk.j0 k true a1_0 a1_1 a1_2 a1_3 a1_4) else ((spec_l01In.f a1_4 0 4).bind fun t151 => (spec_GameOk.j0 k (!t151) a1_0 a1_1 a1_2 a1_3 a1_4))) else (spec_GameOk.j0 k true a1_0 a1_1 a1_2 a1_3 a1_4))) else (spec_GameOk.j0 k true a1_0 a1_1 a1_2 a1_3 a1_4))) else (spec_GameOk.j0 k true a1_0 a1_1 a1_2 a1_3 a1_4))) = some r := h
 clear h
 have HC3 := Aside0.mk H
 clear H
 go_enter Try.func93, Try.ntmps93
 go_upto_region 1 with (first | ((with_reducible refine gate_dst (N := 3) rfl ?_); refine bx (N := 3) (cs := #[.int .i64 a1_0, .int .i64 a1_1, .int .i64 a1_2, .int .i64 a1_3, .int .i64 a1_4]) (t := 75) ?_; intro gb147 hg w4 hbox hb; have BK147 := Aside0.mk (hbox); have GW147 := gs hg HB; have GE147 := gs hg HB; replace HB := hs_ HB hb; clear hb hbox hg))
 (try simp only [Act.put, List.setIfInBounds_toArray, List.set_cons_zero, List.set_cons_succ])
 go_cut [36] (fun v36 wc => ∃ (kq : Nat) (x36_2 : Bool), v36 = .bool x36_2 ∧ Aside0 (spec_GameOk.j0 kq x36_2 a1_0 a1_1 a1_2 a1_3 a1_4 = some r) ∧ Aside0 (kq ≤ k) ∧ Aside0 (wc.heap[gb147]? = some (.cells #[.int .i64 a1_0, .int .i64 a1_1, .int .i64 a1_2, .int .i64 a1_3, .int .i64 a1_4] 75 (0, 0))) ∧ Aside0 (Below w.heap.size w wc))
 case first =>
  have H := HC3.out
  clear HC3
  replace H := Option.bind_eq_some_iff.mp H
  obtain ⟨t148, A50, H⟩ := H
  try dsimp only at H
  have A5 := Aside0.mk A50
  clear A50
  by_cases c6 : t148 = true
  ·subst c6
   rw [if_pos rfl] at H
   replace H := Option.bind_eq_some_iff.mp H
   obtain ⟨t149, A70, H⟩ := H
   try dsimp only at H
   have A7 := Aside0.mk A70
   clear A70
   by_cases c8 : t149 = true
   ·subst c8
    rw [if_pos rfl] at H
    replace H := Option.bind_eq_some_iff.mp H
    obtain ⟨t150, A90, H⟩ := H
    try dsimp only at H
    have A9 := Aside0.mk A90
    clear A90
    by_cases c10 : t150 = true
    ·subst c10
     rw [if_pos rfl] at H
     by_cases c11 : a1_0 = a1_1
     ·rw [if_pos c11] at H
      have c11b0 : (a1_0 == a1_1) = true := beq_iff_eq.mpr c11
      have c11b1 : (a1_0 != a1_1) = false := bne_eq_false_iff_eq.mpr c11
      clear c11
      (first | rw [c11b0] | rw [c11b1] | (simp only [i64_w, i32_w]; rw [c11b0]) | skip)
      have H' := Aside0.mk H
      clear H
      go_wp2_with (first | ((with_reducible refine gate_callee (f := 48) rfl ?_); refine gl (some 6) Try.func48 #[.int .i64 a0, .int .i64 2, .int .i64 8] ?_; (with_reducible refine (spec_l01In.calls a0 2 8 true _ A5.out).mono ?_); rintro e w' ⟨rfl, ⟨nd, rfl⟩⟩; refine ⟨_, rfl, ?_⟩; have ⟨hcz12_0, hcz12_1, hcz12_2, hcz12_3, hcz12_4, hfz12_0, hfz12_1, hfz12_2, hfz12_3, hfz12_4⟩ := rz5 BK147) | (go_at_call 48; (with_reducible refine (spec_l01In.calls a1_0 0 (wrap64 (a0 - 1)) true _ A7.out).mono ?_); rintro e w' ⟨rfl, ⟨nd, rfl⟩⟩) | (go_at_call 48; (with_reducible refine (spec_l01In.calls a1_1 0 (wrap64 (a0 - 1)) true _ A9.out).mono ?_); rintro e w' ⟨rfl, ⟨nd, rfl⟩⟩))
      go_meet
      case rel => exact ⟨_, (true), e2_, H', ⟨by first | omega | exact Nat.le_refl _⟩, ⟨bk BK147⟩, ⟨bb HB⟩⟩
     ·rw [if_neg c11] at H
      have c11b0 : (a1_0 == a1_1) = false := beq_eq_false_iff_ne.mpr c11
      have c11b1 : (a1_0 != a1_1) = true := bne_iff_ne.mpr c11
      (first | rw [c11b0] | rw [c11b1] | (simp only [i64_w, i32_w]; rw [c11b0]) | skip)
      replace H := Option.bind_eq_some_iff.mp H
      obtain ⟨t151, A130, H⟩ := H
      try dsimp only at H
      have A13 := Aside0.mk A130
      clear A130
      have H' := Aside0.mk H
      clear H
      go_wp2_with (first | ((with_reducible refine gate_callee (f := 48) rfl ?_); refine gl (some 6) Try.func48 #[.int .i64 a0, .int .i64 2, .int .i64 8] ?_; (with_reducible refine (spec_l01In.calls a0 2 8 true _ A5.out).mono ?_); rintro e w' ⟨rfl, ⟨nd, rfl⟩⟩; refine ⟨_, rfl, ?_⟩; have ⟨hcz14_0, hcz14_1, hcz14_2, hcz14_3, hcz14_4, hfz14_0, hfz14_1, hfz14_2, hfz14_3, hfz14_4⟩ := rz5 BK147) | (go_at_call 48; (with_reducible refine (spec_l01In.calls a1_0 0 (wrap64 (a0 - 1)) true _ A7.out).mono ?_); rintro e w' ⟨rfl, ⟨nd, rfl⟩⟩) | (go_at_call 48; (with_reducible refine (spec_l01In.calls a1_1 0 (wrap64 (a0 - 1)) true _ A9.out).mono ?_); rintro e w' ⟨rfl, ⟨nd, rfl⟩⟩) | (go_at_call 48; (with_reducible refine (spec_l01In.calls a1_4 0 4 t151 _ A13.out).mono ?_); rintro e w' ⟨rfl, ⟨nd, rfl⟩⟩))
      go_meet
      case rel => exact ⟨_, (!t151), e2_, H', ⟨by first | omega | exact Nat.le_refl _⟩, ⟨bk BK147⟩, ⟨bb HB⟩⟩
    ·replace c10 := Bool.eq_false_iff.mpr c10
     subst c10
     rw [if_neg (show ¬ (false = true) by decide)] at H
     have H' := Aside0.mk H
     clear H
     go_wp2_with (first | ((with_reducible refine gate_callee (f := 48) rfl ?_); refine gl (some 6) Try.func48 #[.int .i64 a0, .int .i64 2, .int .i64 8] ?_; (with_reducible refine (spec_l01In.calls a0 2 8 true _ A5.out).mono ?_); rintro e w' ⟨rfl, ⟨nd, rfl⟩⟩; refine ⟨_, rfl, ?_⟩; have ⟨hcz15_0, hcz15_1, hcz15_2, hcz15_3, hcz15_4, hfz15_0, hfz15_1, hfz15_2, hfz15_3, hfz15_4⟩ := rz5 BK147) | (go_at_call 48; (with_reducible refine (spec_l01In.calls a1_0 0 (wrap64 (a0 - 1)) true _ A7.out).mono ?_); rintro e w' ⟨rfl, ⟨nd, rfl⟩⟩) | (go_at_call 48; (with_reducible refine (spec_l01In.calls a1_1 0 (wrap64 (a0 - 1)) false _ A9.out).mono ?_); rintro e w' ⟨rfl, ⟨nd, rfl⟩⟩))
     go_meet
     case rel => exact ⟨_, (true), e2_, H', ⟨by first | omega | exact Nat.le_refl _⟩, ⟨bk BK147⟩, ⟨bb HB⟩⟩
   ·replace c8 := Bool.eq_false_iff.mpr c8
    subst c8
    rw [if_neg (show ¬ (false = true) by decide)] at H
    have H' := Aside0.mk H
    clear H
    go_wp2_with (first | ((with_reducible refine gate_callee (f := 48) rfl ?_); refine gl (some 6) Try.func48 #[.int .i64 a0, .int .i64 2, .int .i64 8] ?_; (with_reducible refine (spec_l01In.calls a0 2 8 true _ A5.out).mono ?_); rintro e w' ⟨rfl, ⟨nd, rfl⟩⟩; refine ⟨_, rfl, ?_⟩; have ⟨hcz16_0, hcz16_1, hcz16_2, hcz16_3, hcz16_4, hfz16_0, hfz16_1, hfz16_2, hfz16_3, hfz16_4⟩ := rz5 BK147) | (go_at_call 48; (with_reducible refine (spec_l01In.calls a1_0 0 (wrap64 (a0 - 1)) false _ A7.out).mono ?_); rintro e w' ⟨rfl, ⟨nd, rfl⟩⟩))
    go_meet
    case rel => exact ⟨_, (true), e2_, H', ⟨by first | omega | exact Nat.le_refl _⟩, ⟨bk BK147⟩, ⟨bb HB⟩⟩
  ·replace c6 := Bool.eq_false_iff.mpr c6
   subst c6
   rw [if_neg (show ¬ (false = true) by decide)] at H
   have H' := Aside0.mk H
   clear H
   go_wp2_with (first | ((with_reducible refine gate_callee (f := 48) rfl ?_); refine gl (some 6) Try.func48 #[.int .i64 a0, .int .i64 2, .int .i64 8] ?_; (with_reducible refine (spec_l01In.calls a0 2 8 false _ A5.out).mono ?_); rintro e w' ⟨rfl, ⟨nd, rfl⟩⟩; refine ⟨_, rfl, ?_⟩))
   go_meet
   case rel => exact ⟨_, (true), e2_, H', ⟨by first | omega | exact Nat.le_refl _⟩, ⟨bk BK147⟩, ⟨bb HB⟩⟩
 case rest =>
  clear HC3
  (try clear c1)
  (try clear p2)
  (try clear c4)
  (try clear c6)
  (try clear p6)
  (try clear c8)
  (try clear c9)
  (try clear c10)
  (try clear c11)
  (try clear c11b0)
  (try clear c11b1)
  (try clear hcz12_0 hcz12_1 hcz12_2 hcz12_3 hcz12_4)
  (try clear hcz14_0 hcz14_1 hcz14_2 hcz14_3 hcz14_4)
  (try clear hcz15_0 hcz15_1 hcz15_2 hcz15_3 hcz15_4)
  (try clear hcz16_0 hcz16_1 hcz16_2 hcz16_3 hcz16_4)
  (try clear hfz12_0 hfz12_1 hfz12_2 hfz12_3 hfz12_4)
  (try clear hfz14_0 hfz14_1 hfz14_2 hfz14_3 hfz14_4)
  (try clear hfz15_0 hfz15_1 hfz15_2 hfz15_3 hfz15_4)
  (try clear hfz16_0 hfz16_1 hfz16_2 hfz16_3 hfz16_4)
  obtain ⟨kq, x36_2, rfl, HA, HJ2, BK147, HB⟩ := hcut
  cases kq with
  | zero => exact absurd HA.out (by simp [spec_GameOk.j0])
  | succ kj2 =>
   have H := HA.out
   clear HA
   simp only [spec_GameOk.j0] at H
   by_cases c17 : x36_2 = true
   ·subst c17
    rw [if_pos rfl] at H
    obtain rfl := Option.some.inj H
    go_wp2
    go_ret
    exact ⟨ee, bb HB⟩
   ·replace c17 := Bool.eq_false_iff.mpr c17
    subst c17
    rw [if_neg (show ¬ (false = true) by decide)] at H
    by_cases c18 : a1_4 = 1
    ·rw [if_pos c18] at H
     have c18b0 : (a1_4 == 1) = true := beq_iff_eq.mpr c18
     have c18b1 : (a1_4 != 1) = false := bne_eq_false_iff_eq.mpr c18
     clear c18
     replace H := Option.bind_eq_some_iff.mp H
     obtain ⟨t152, A190, H⟩ := H
     try dsimp only at H
     have A19 := Aside0.mk A190
     clear A190
     by_cases c20 : t152 = true
     ·subst c20
      rw [if_pos rfl] at H
      replace H := Option.bind_eq_some_iff.mp H
      obtain ⟨t153, A210, H⟩ := H
      try dsimp only at H
      have A21 := Aside0.mk A210
      clear A210
      obtain rfl := Option.some.inj H
      have ⟨hcz22_0, hcz22_1, hcz22_2, hcz22_3, hcz22_4, hfz22_0, hfz22_1, hfz22_2, hfz22_3, hfz22_4⟩ := rz5 BK147
      go_wp2_with (first | ((with_reducible refine gate_callee (f := 48) rfl ?_); refine gl (some 50) Try.func48 #[.int .i64 a1_2, .int .i64 0, .int .i64 99] ?_; (with_reducible refine (spec_l01In.calls a1_2 0 99 true _ A19.out).mono ?_); rintro e w' ⟨rfl, ⟨nd, rfl⟩⟩; refine ⟨_, rfl, ?_⟩) | (go_at_call 48; (with_reducible refine (spec_l01In.calls a1_3 0 99 t153 _ A21.out).mono ?_); rintro e w' ⟨rfl, ⟨nd, rfl⟩⟩))
      go_ret
      exact ⟨ee, bb HB⟩
     ·replace c20 := Bool.eq_false_iff.mpr c20
      subst c20
      rw [if_neg (show ¬ (false = true) by decide)] at H
      obtain rfl := Option.some.inj H
      have ⟨hcz23_0, hcz23_1, hcz23_2, hcz23_3, hcz23_4, hfz23_0, hfz23_1, hfz23_2, hfz23_3, hfz23_4⟩ := rz5 BK147
      go_wp2_with (first | ((with_reducible refine gate_callee (f := 48) rfl ?_); refine gl (some 50) Try.func48 #[.int .i64 a1_2, .int .i64 0, .int .i64 99] ?_; (with_reducible refine (spec_l01In.calls a1_2 0 99 false _ A19.out).mono ?_); rintro e w' ⟨rfl, ⟨nd, rfl⟩⟩; refine ⟨_, rfl, ?_⟩))
      go_ret
      exact ⟨ee, bb HB⟩
    ·rw [if_neg c18] at H
     have c18b0 : (a1_4 == 1) = false := beq_eq_false_iff_ne.mpr c18
     have c18b1 : (a1_4 != 1) = true := bne_iff_ne.mpr c18
     by_cases c24 : a1_2 = 0
     ·rw [if_pos c24] at H
      have c24b0 : (a1_2 == 0) = true := beq_iff_eq.mpr c24
      have c24b1 : (a1_2 != 0) = false := bne_eq_false_iff_eq.mpr c24
      clear c24
      obtain rfl := Option.some.inj H
      have ⟨hcz25_0, hcz25_1, hcz25_2, hcz25_3, hcz25_4, hfz25_0, hfz25_1, hfz25_2, hfz25_3, hfz25_4⟩ := rz5 BK147
      go_wp2
      go_ret
      exact ⟨ee, bb HB⟩
     ·rw [if_neg c24] at H
      have c24b0 : (a1_2 == 0) = false := beq_eq_false_iff_ne.mpr c24
      have c24b1 : (a1_2 != 0) = true := bne_iff_ne.mpr c24
      obtain rfl := Option.some.inj H
      have ⟨hcz26_0, hcz26_1, hcz26_2, hcz26_3, hcz26_4, hfz26_0, hfz26_1, hfz26_2, hfz26_3, hfz26_4⟩ := rz5 BK147
      go_wp2
      go_ret
      exact ⟨ee, bb HB⟩
end Go.Proofs.Ytoaepoffooomnaa.Q
namespace Go.Proofs.Ytoaepoffooomnaa.Q
open Go.RowKit Go.Proofs.YtoaepoffooomnaaW.PrintWords Go.Proofs.YtoaepoffooomnaaW.PrintLast Go.Proofs.YtoaepoffooomnaaW.PrintMore
attribute [local go_sem] max2_int min2_int max_two min_two max_three min_three max_four min_four
set_option linter.unusedVariables false
set_option linter.unusedSimpArgs false
def spec_GameOf.l0 : Nat → Int → Int → List (S75) → Int → Int → Option (Int)
 | 0, _, _, _, _, _ => none
 | k + 1, x1, x2, x9, x10, x11 => if x11 < x10 then (if 0 ≤ x11 then (if x11 < (x9.length : Int) then (if ((rd_T75 x9 x11).f0) = x1 then (if ((rd_T75 x9 x11).f1) = x2 then (some x11) else (spec_GameOf.l0 k x1 x2 x9 x10 (wrap64 (x11 + 1)))) else (spec_GameOf.l0 k x1 x2 x9 x10 (wrap64 (x11 + 1)))) else (none)) else (none)) else (some (-1))
def spec_GameOf.f (k : Nat) (l0 : List (S75)) (a1 : Int) (a2 : Int) : Option (Int) := spec_GameOf.l0 k a1 a2 l0 (l0.length : Int) 0
set_option maxHeartbeats 8000000 in
set_option maxRecDepth 100000 in
theorem spec_GameOf.calls (k : Nat) (A0 : Option Addr) (c0 : Nat) (l0 : List (S75)) (a1 : Int) (a2 : Int) (r : Int) (w : World) (hr0 : Kd.C k75 w A0 l0.length l0) (hc0 : l0.length ≤ c0) (h : spec_GameOf.f k l0 a1 a2 = some r) :
  Calls Try.prog 94 #[.slice A0 l0.length c0, .int .i64 a1, .int .i64 a2] w fun e w' => e = .returned (.int .i64 r) ∧ Below w.heap.size w w' := by
 have hu75 := Try.underlying75
 have HR0 := Aside0.mk hr0
 have HC0 := Aside0.mk hc0
 clear hr0 hc0
 have HB := Aside0.mk (Below.refl w.heap.size w)
 have H : (spec_GameOf.l0 k a1 a2 l0 (l0.length : Int) 0) = some r := h
 clear h
 have H' := Aside0.mk H
 clear H
 go_enter Try.func94, Try.ntmps94
 go_wp2
 go_loopg [11] k (fun kq v11 w' => ∃ (x11_1 : Int), v11 = .int .i64 x11_1 ∧ Aside0 (spec_GameOf.l0 kq a1 a2 l0 (l0.length : Int) x11_1 = some r) ∧ Aside0 (kq ≤ k) ∧ Aside0 (Below w.heap.size w w'))
 case atStart => exact ⟨(0), e2_, H', ⟨Nat.le_refl _⟩, ⟨bb HB⟩⟩
 case round =>
  clear H'
  (try clear p2)
  obtain ⟨x11_1, rfl, HA, HK1, HB⟩ := hrel
  cases gk with
  | zero => exact absurd HA.out (by simp [spec_GameOf.l0])
  | succ k1 =>
   have H := HA.out
   clear HA
   simp only [spec_GameOf.l0] at H
   by_cases c4 : x11_1 < (l0.length : Int)
   ·rw [if_pos c4] at H
    have c4b0 : decide (x11_1 < (l0.length : Int)) = true := decide_eq_true c4
    clear c4
    by_cases c5 : 0 ≤ x11_1
    ·rw [if_pos c5] at H
     have c5b0 : decide (0 ≤ x11_1) = true := decide_eq_true c5
     clear c5
     by_cases c6 : x11_1 < (l0.length : Int)
     ·rw [if_pos c6] at H
      have c6b0 : decide (x11_1 < (l0.length : Int)) = true := decide_eq_true c6
      clear c6
      by_cases c7 : ((rd_T75 l0 x11_1).f0) = a1
      ·rw [if_pos c7] at H
       have c7b0 : (((rd_T75 l0 x11_1).f0) == a1) = true := beq_iff_eq.mpr c7
       have c7b1 : (((rd_T75 l0 x11_1).f0) != a1) = false := bne_eq_false_iff_eq.mpr c7
       clear c7
       by_cases c8 : ((rd_T75 l0 x11_1).f1) = a2
       ·rw [if_pos c8] at H
        have c8b0 : (((rd_T75 l0 x11_1).f1) == a2) = true := beq_iff_eq.mpr c8
        have c8b1 : (((rd_T75 l0 x11_1).f1) != a2) = false := bne_eq_false_iff_eq.mpr c8
        clear c8
        obtain rfl := Option.some.inj H
        have p154 : 0 ≤ (x11_1 : Int) := of_decide_eq_true (by first | (with_reducible assumption) | assumption)
        have q154 : x11_1 < (l0.length : Int) := of_decide_eq_true (by first | (with_reducible assumption) | assumption)
        obtain ⟨ad154, e154, hx154_0, hx154_1, hx154_2, hx154_3, hx154_4⟩ := at_T75 HR0.out x11_1 p154 q154
        cases e154
        replace hx154_0 := (HB.out.cell (World.block_lt_of_cell? w _ hx154_0)).trans hx154_0
        replace hx154_1 := (HB.out.cell (World.block_lt_of_cell? w _ hx154_1)).trans hx154_1
        replace hx154_2 := (HB.out.cell (World.block_lt_of_cell? w _ hx154_2)).trans hx154_2
        replace hx154_3 := (HB.out.cell (World.block_lt_of_cell? w _ hx154_3)).trans hx154_3
        replace hx154_4 := (HB.out.cell (World.block_lt_of_cell? w _ hx154_4)).trans hx154_4
        replace p154 := eq_true p154
        replace q154 := eq_true q154
        go_wp2_with (first | ((with_reducible refine gate_dst (N := 8) rfl ?_); refine bx (N := 8) (cs := #[.int .i64 0, .int .i64 0, .int .i64 0, .int .i64 0, .int .i64 0]) (t := 75) ?_; intro gb155 hg w9 hbox hb; have BK155 := Aside0.mk (hbox); have GW155 := gs hg HB; have GE155 := gs hg HB; replace HB := hs_ HB hb; clear hb hbox hg; have ⟨hcz10_0, hcz10_1, hcz10_2, hcz10_3, hcz10_4, hfz10_0, hfz10_1, hfz10_2, hfz10_3, hfz10_4⟩ := rz5 BK155))
        go_ret
        exact ⟨ee, bb HB⟩
       ·rw [if_neg c8] at H
        have c8b0 : (((rd_T75 l0 x11_1).f1) == a2) = false := beq_eq_false_iff_ne.mpr c8
        have c8b1 : (((rd_T75 l0 x11_1).f1) != a2) = true := bne_iff_ne.mpr c8
        have H' := Aside0.mk H
        clear H
        have p154 : 0 ≤ (x11_1 : Int) := of_decide_eq_true (by first | (with_reducible assumption) | assumption)
        have q154 : x11_1 < (l0.length : Int) := of_decide_eq_true (by first | (with_reducible assumption) | assumption)
        obtain ⟨ad154, e154, hx154_0, hx154_1, hx154_2, hx154_3, hx154_4⟩ := at_T75 HR0.out x11_1 p154 q154
        cases e154
        replace hx154_0 := (HB.out.cell (World.block_lt_of_cell? w _ hx154_0)).trans hx154_0
        replace hx154_1 := (HB.out.cell (World.block_lt_of_cell? w _ hx154_1)).trans hx154_1
        replace hx154_2 := (HB.out.cell (World.block_lt_of_cell? w _ hx154_2)).trans hx154_2
        replace hx154_3 := (HB.out.cell (World.block_lt_of_cell? w _ hx154_3)).trans hx154_3
        replace hx154_4 := (HB.out.cell (World.block_lt_of_cell? w _ hx154_4)).trans hx154_4
        replace p154 := eq_true p154
        replace q154 := eq_true q154
        go_wp2_with (first | ((with_reducible refine gate_dst (N := 8) rfl ?_); refine bx (N := 8) (cs := #[.int .i64 0, .int .i64 0, .int .i64 0, .int .i64 0, .int .i64 0]) (t := 75) ?_; intro gb155 hg w11 hbox hb; have BK155 := Aside0.mk (hbox); have GW155 := gs hg HB; have GE155 := gs hg HB; replace HB := hs_ HB hb; clear hb hbox hg; have ⟨hcz12_0, hcz12_1, hcz12_2, hcz12_3, hcz12_4, hfz12_0, hfz12_1, hfz12_2, hfz12_3, hfz12_4⟩ := rz5 BK155))
        go_roundg k1
        case measure => have := HK1.out; omega
        case rel => exact ⟨(wrap64 (x11_1 + 1)), e2_, H', ⟨by have := HK1.out; omega⟩, ⟨bb HB⟩⟩
      ·rw [if_neg c7] at H
       have c7b0 : (((rd_T75 l0 x11_1).f0) == a1) = false := beq_eq_false_iff_ne.mpr c7
       have c7b1 : (((rd_T75 l0 x11_1).f0) != a1) = true := bne_iff_ne.mpr c7
       have H' := Aside0.mk H
       clear H
       have p154 : 0 ≤ (x11_1 : Int) := of_decide_eq_true (by first | (with_reducible assumption) | assumption)
       have q154 : x11_1 < (l0.length : Int) := of_decide_eq_true (by first | (with_reducible assumption) | assumption)
       obtain ⟨ad154, e154, hx154_0, hx154_1, hx154_2, hx154_3, hx154_4⟩ := at_T75 HR0.out x11_1 p154 q154
       cases e154
       replace hx154_0 := (HB.out.cell (World.block_lt_of_cell? w _ hx154_0)).trans hx154_0
       replace hx154_1 := (HB.out.cell (World.block_lt_of_cell? w _ hx154_1)).trans hx154_1
       replace hx154_2 := (HB.out.cell (World.block_lt_of_cell? w _ hx154_2)).trans hx154_2
       replace hx154_3 := (HB.out.cell (World.block_lt_of_cell? w _ hx154_3)).trans hx154_3
       replace hx154_4 := (HB.out.cell (World.block_lt_of_cell? w _ hx154_4)).trans hx154_4
       replace p154 := eq_true p154
       replace q154 := eq_true q154
       go_wp2_with (first | ((with_reducible refine gate_dst (N := 8) rfl ?_); refine bx (N := 8) (cs := #[.int .i64 0, .int .i64 0, .int .i64 0, .int .i64 0, .int .i64 0]) (t := 75) ?_; intro gb155 hg w13 hbox hb; have BK155 := Aside0.mk (hbox); have GW155 := gs hg HB; have GE155 := gs hg HB; replace HB := hs_ HB hb; clear hb hbox hg; have ⟨hcz14_0, hcz14_1, hcz14_2, hcz14_3, hcz14_4, hfz14_0, hfz14_1, hfz14_2, hfz14_3, hfz14_4⟩ := rz5 BK155))
       go_roundg k1
       case measure => have := HK1.out; omega
       case rel => exact ⟨(wrap64 (x11_1 + 1)), e2_, H', ⟨by have := HK1.out; omega⟩, ⟨bb HB⟩⟩
     ·rw [if_neg c6] at H
      exact absurd H (by simp)
    ·rw [if_neg c5] at H
     exact absurd H (by simp)
   ·rw [if_neg c4] at H
    have c4b0 : decide (x11_1 < (l0.length : Int)) = false := decide_eq_false c4
    clear c4
    obtain rfl := Option.some.inj H
    go_wp2
    go_ret
    exact ⟨ee, bb HB⟩
end Go.Proofs.Ytoaepoffooomnaa.Q
namespace Go.Proofs.Ytoaepoffooomnaa.Q
open Go.RowKit Go.Proofs.YtoaepoffooomnaaW.PrintWords Go.Proofs.YtoaepoffooomnaaW.PrintLast Go.Proofs.YtoaepoffooomnaaW.PrintMore
attribute [local go_sem] max2_int min2_int max_two min_two max_three min_three max_four min_four
set_option linter.unusedVariables false
set_option linter.unusedSimpArgs false
def spec_SeasonOk.l0 : Nat → Int → List (S75) → List (S75) → Int → Int → Option (Bool)
 | 0, _, _, _, _, _ => none
 | k + 1, x0, x1, x10, x11, x12 => if x12 < x11 then (if 0 ≤ x12 then (if x12 < (x10.length : Int) then ((spec_GameOk.f k x0 ((rd_T75 x10 x12).f0) ((rd_T75 x10 x12).f1) ((rd_T75 x10 x12).f2) ((rd_T75 x10 x12).f3) ((rd_T75 x10 x12).f4)).bind fun t158 => (if t158 = true then ((spec_GameOf.f k x1 ((rd_T75 x10 x12).f0) ((rd_T75 x10 x12).f1)).bind fun t159 => (if t159 = x12 then (spec_SeasonOk.l0 k x0 x1 x10 x11 (wrap64 (x12 + 1))) else (some false))) else (some false))) else (none)) else (none)) else (some true)
def spec_SeasonOk.f (k : Nat) (a0 : Int) (l1 : List (S75)) : Option (Bool) := if (l1.length : Int) > 60 then (some false) else (spec_SeasonOk.l0 k a0 l1 l1 (l1.length : Int) 0)
set_option maxHeartbeats 8000000 in
set_option maxRecDepth 100000 in
theorem spec_SeasonOk.calls (k : Nat) (a0 : Int) (A1 : Option Addr) (c1 : Nat) (l1 : List (S75)) (r : Bool) (w : World) (hr1 : Kd.C k75 w A1 l1.length l1) (hc1 : l1.length ≤ c1) (h : spec_SeasonOk.f k a0 l1 = some r) :
  Calls Try.prog 78 #[.int .i64 a0, .slice A1 l1.length c1] w fun e w' => e = .returned (.bool r) ∧ Below w.heap.size w w' := by
 have hu75 := Try.underlying75
 have HR1 := Aside0.mk hr1
 have HC1 := Aside0.mk hc1
 clear hr1 hc1
 have HB := Aside0.mk (Below.refl w.heap.size w)
 have H : (if (l1.length : Int) > 60 then (some false) else (spec_SeasonOk.l0 k a0 l1 l1 (l1.length : Int) 0)) = some r := h
 clear h
 by_cases c3 : (l1.length : Int) > 60
 ·rw [if_pos c3] at H
  have c3b0 : decide (60 < (l1.length : Int)) = true := decide_eq_true c3
  have c3b1 : decide (60 < l1.length) = true := decide_eq_true (by omega)
  clear c3
  obtain rfl := Option.some.inj H
  go_enter Try.func78, Try.ntmps78
  go_wp2
  go_ret
  exact ⟨ee, bb HB⟩
 ·rw [if_neg c3] at H
  have c3b0 : decide (60 < (l1.length : Int)) = false := decide_eq_false c3
  have c3b1 : decide (60 < l1.length) = false := decide_eq_false (by omega)
  clear c3
  have H' := Aside0.mk H
  clear H
  go_enter Try.func78, Try.ntmps78
  go_wp2
  go_loopg [12] k (fun kq v12 w' => ∃ (x12_1 : Int), v12 = .int .i64 x12_1 ∧ Aside0 (spec_SeasonOk.l0 kq a0 l1 l1 (l1.length : Int) x12_1 = some r) ∧ Aside0 (kq ≤ k) ∧ Aside0 (Below w.heap.size w w'))
  case atStart => exact ⟨(0), e2_, H', ⟨Nat.le_refl _⟩, ⟨bb HB⟩⟩
  case round =>
   clear H'
   (try clear c1)
   (try clear p2)
   (try clear c3)
   (try clear c3b0)
   (try clear c3b1)
   obtain ⟨x12_1, rfl, HA, HK1, HB⟩ := hrel
   cases gk with
   | zero => exact absurd HA.out (by simp [spec_SeasonOk.l0])
   | succ k1 =>
    have H := HA.out
    clear HA
    simp only [spec_SeasonOk.l0] at H
    by_cases c4 : x12_1 < (l1.length : Int)
    ·rw [if_pos c4] at H
     have c4b0 : decide (x12_1 < (l1.length : Int)) = true := decide_eq_true c4
     clear c4
     by_cases c5 : 0 ≤ x12_1
     ·rw [if_pos c5] at H
      have c5b0 : decide (0 ≤ x12_1) = true := decide_eq_true c5
      clear c5
      by_cases c6 : x12_1 < (l1.length : Int)
      ·rw [if_pos c6] at H
       have c6b0 : decide (x12_1 < (l1.length : Int)) = true := decide_eq_true c6
       clear c6
       replace H := Option.bind_eq_some_iff.mp H
       obtain ⟨t158, A70, H⟩ := H
       try dsimp only at H
       have A7 := Aside0.mk A70
       clear A70
       by_cases c8 : t158 = true
       ·subst c8
        rw [if_pos rfl] at H
        replace H := Option.bind_eq_some_iff.mp H
        obtain ⟨t159, A90, H⟩ := H
        try dsimp only at H
        have A9 := Aside0.mk A90
        clear A90
        by_cases c10 : t159 = x12_1
        ·rw [if_pos c10] at H
         have c10b0 : (t159 == x12_1) = true := beq_iff_eq.mpr c10
         have c10b1 : (t159 != x12_1) = false := bne_eq_false_iff_eq.mpr c10
         clear c10
         have H' := Aside0.mk H
         clear H
         have p156 : 0 ≤ (x12_1 : Int) := of_decide_eq_true (by first | (with_reducible assumption) | assumption)
         have q156 : x12_1 < (l1.length : Int) := of_decide_eq_true (by first | (with_reducible assumption) | assumption)
         obtain ⟨ad156, e156, hx156_0, hx156_1, hx156_2, hx156_3, hx156_4⟩ := at_T75 HR1.out x12_1 p156 q156
         cases e156
         replace hx156_0 := (HB.out.cell (World.block_lt_of_cell? w _ hx156_0)).trans hx156_0
         replace hx156_1 := (HB.out.cell (World.block_lt_of_cell? w _ hx156_1)).trans hx156_1
         replace hx156_2 := (HB.out.cell (World.block_lt_of_cell? w _ hx156_2)).trans hx156_2
         replace hx156_3 := (HB.out.cell (World.block_lt_of_cell? w _ hx156_3)).trans hx156_3
         replace hx156_4 := (HB.out.cell (World.block_lt_of_cell? w _ hx156_4)).trans hx156_4
         replace p156 := eq_true p156
         replace q156 := eq_true q156
         go_wp2_with (first | ((with_reducible refine gate_dst (N := 6) rfl ?_); refine bx (N := 6) (cs := #[.int .i64 0, .int .i64 0, .int .i64 0, .int .i64 0, .int .i64 0]) (t := 75) ?_; intro gb157 hg w11 hbox hb; have BK157 := Aside0.mk (hbox); have GW157 := gs hg HB; have GE157 := gs hg HB; replace HB := hs_ HB hb; clear hb hbox hg; have ⟨hcz12_0, hcz12_1, hcz12_2, hcz12_3, hcz12_4, hfz12_0, hfz12_1, hfz12_2, hfz12_3, hfz12_4⟩ := rz5 BK157) | ((with_reducible refine gate_callee (f := 93) rfl ?_); refine gl (some 19) Try.func93 #[.int .i64 a0, .agg #[.int .i64 ((rd_T75 l1 x12_1).f0), .int .i64 ((rd_T75 l1 x12_1).f1), .int .i64 ((rd_T75 l1 x12_1).f2), .int .i64 ((rd_T75 l1 x12_1).f3), .int .i64 ((rd_T75 l1 x12_1).f4)]] ?_; (with_reducible refine (spec_GameOk.calls k1 a0 ((rd_T75 l1 x12_1).f0) ((rd_T75 l1 x12_1).f1) ((rd_T75 l1 x12_1).f2) ((rd_T75 l1 x12_1).f3) ((rd_T75 l1 x12_1).f4) true _ A7.out).mono ?_); rintro e w13 ⟨rfl, hb⟩; refine ⟨_, rfl, ?_⟩; replace BK157 := Aside0.mk (blk_below (g := gb157) (o := .cells #[.int .i64 ((rd_T75 l1 x12_1).f0), .int .i64 ((rd_T75 l1 x12_1).f1), .int .i64 ((rd_T75 l1 x12_1).f2), .int .i64 ((rd_T75 l1 x12_1).f3), .int .i64 ((rd_T75 l1 x12_1).f4)] 75 (0, 0)) (by (with_reducible repeat (first | refine blk_drewN ?_ _ | refine blk_drew ?_ | refine blk_alloc ?_ _)); refine blk_put (cs := #[.int .i64 ((rd_T75 l1 x12_1).f0), .int .i64 ((rd_T75 l1 x12_1).f1), .int .i64 ((rd_T75 l1 x12_1).f2), .int .i64 ((rd_T75 l1 x12_1).f3), .int .i64 0]) ?_ 4 _ rfl; (with_reducible repeat (first | refine blk_drewN ?_ _ | refine blk_drew ?_ | refine blk_alloc ?_ _)); refine blk_put (cs := #[.int .i64 ((rd_T75 l1 x12_1).f0), .int .i64 ((rd_T75 l1 x12_1).f1), .int .i64 ((rd_T75 l1 x12_1).f2), .int .i64 0, .int .i64 0]) ?_ 3 _ rfl; (with_reducible repeat (first | refine blk_drewN ?_ _ | refine blk_drew ?_ | refine blk_alloc ?_ _)); refine blk_put (cs := #[.int .i64 ((rd_T75 l1 x12_1).f0), .int .i64 ((rd_T75 l1 x12_1).f1), .int .i64 0, .int .i64 0, .int .i64 0]) ?_ 2 _ rfl; (with_reducible repeat (first | refine blk_drewN ?_ _ | refine blk_drew ?_ | refine blk_alloc ?_ _)); refine blk_put (cs := #[.int .i64 ((rd_T75 l1 x12_1).f0), .int .i64 0, .int .i64 0, .int .i64 0, .int .i64 0]) ?_ 1 _ rfl; (with_reducible repeat (first | refine blk_drewN ?_ _ | refine blk_drew ?_ | refine blk_alloc ?_ _)); refine blk_put (cs := #[.int .i64 0, .int .i64 0, .int .i64 0, .int .i64 0, .int .i64 0]) ?_ 0 _ rfl; (with_reducible repeat (first | refine blk_drewN ?_ _ | refine blk_drew ?_ | refine blk_alloc ?_ _)); exact BK157.out) hb); replace HB := hs_ HB hb; (try clear hb hb2 hk hi); have ⟨hcz14_0, hcz14_1, hcz14_2, hcz14_3, hcz14_4, hfz14_0, hfz14_1, hfz14_2, hfz14_3, hfz14_4⟩ := rz5 BK157) | (go_at_call 94; (with_reducible refine (spec_GameOf.calls k1 _ _ l1 ((rd_T75 l1 x12_1).f0) ((rd_T75 l1 x12_1).f1) t159 _ ?side1 ?side2 A9.out).mono ?_); (case side1 => exact cc HR1 HB); (case side2 => exact HC1.out); rintro e w15 ⟨rfl, hb⟩; replace BK157 := kb BK157 hb; replace HB := hs_ HB hb; (try clear hb hb2 hk hi)))
         go_roundg k1
         case measure => have := HK1.out; omega
         case rel => exact ⟨(wrap64 (x12_1 + 1)), e2_, H', ⟨by have := HK1.out; omega⟩, ⟨bb HB⟩⟩
        ·rw [if_neg c10] at H
         have c10b0 : (t159 == x12_1) = false := beq_eq_false_iff_ne.mpr c10
         have c10b1 : (t159 != x12_1) = true := bne_iff_ne.mpr c10
         obtain rfl := Option.some.inj H
         have p156 : 0 ≤ (x12_1 : Int) := of_decide_eq_true (by first | (with_reducible assumption) | assumption)
         have q156 : x12_1 < (l1.length : Int) := of_decide_eq_true (by first | (with_reducible assumption) | assumption)
         obtain ⟨ad156, e156, hx156_0, hx156_1, hx156_2, hx156_3, hx156_4⟩ := at_T75 HR1.out x12_1 p156 q156
         cases e156
         replace hx156_0 := (HB.out.cell (World.block_lt_of_cell? w _ hx156_0)).trans hx156_0
         replace hx156_1 := (HB.out.cell (World.block_lt_of_cell? w _ hx156_1)).trans hx156_1
         replace hx156_2 := (HB.out.cell (World.block_lt_of_cell? w _ hx156_2)).trans hx156_2
         replace hx156_3 := (HB.out.cell (World.block_lt_of_cell? w _ hx156_3)).trans hx156_3
         replace hx156_4 := (HB.out.cell (World.block_lt_of_cell? w _ hx156_4)).trans hx156_4
         replace p156 := eq_true p156
         replace q156 := eq_true q156
         go_wp2_with (first | ((with_reducible refine gate_dst (N := 6) rfl ?_); refine bx (N := 6) (cs := #[.int .i64 0, .int .i64 0, .int .i64 0, .int .i64 0, .int .i64 0]) (t := 75) ?_; intro gb157 hg w16 hbox hb; have BK157 := Aside0.mk (hbox); have GW157 := gs hg HB; have GE157 := gs hg HB; replace HB := hs_ HB hb; clear hb hbox hg; have ⟨hcz17_0, hcz17_1, hcz17_2, hcz17_3, hcz17_4, hfz17_0, hfz17_1, hfz17_2, hfz17_3, hfz17_4⟩ := rz5 BK157) | ((with_reducible refine gate_callee (f := 93) rfl ?_); refine gl (some 19) Try.func93 #[.int .i64 a0, .agg #[.int .i64 ((rd_T75 l1 x12_1).f0), .int .i64 ((rd_T75 l1 x12_1).f1), .int .i64 ((rd_T75 l1 x12_1).f2), .int .i64 ((rd_T75 l1 x12_1).f3), .int .i64 ((rd_T75 l1 x12_1).f4)]] ?_; (with_reducible refine (spec_GameOk.calls k1 a0 ((rd_T75 l1 x12_1).f0) ((rd_T75 l1 x12_1).f1) ((rd_T75 l1 x12_1).f2) ((rd_T75 l1 x12_1).f3) ((rd_T75 l1 x12_1).f4) true _ A7.out).mono ?_); rintro e w18 ⟨rfl, hb⟩; refine ⟨_, rfl, ?_⟩; replace BK157 := Aside0.mk (blk_below (g := gb157) (o := .cells #[.int .i64 ((rd_T75 l1 x12_1).f0), .int .i64 ((rd_T75 l1 x12_1).f1), .int .i64 ((rd_T75 l1 x12_1).f2), .int .i64 ((rd_T75 l1 x12_1).f3), .int .i64 ((rd_T75 l1 x12_1).f4)] 75 (0, 0)) (by (with_reducible repeat (first | refine blk_drewN ?_ _ | refine blk_drew ?_ | refine blk_alloc ?_ _)); refine blk_put (cs := #[.int .i64 ((rd_T75 l1 x12_1).f0), .int .i64 ((rd_T75 l1 x12_1).f1), .int .i64 ((rd_T75 l1 x12_1).f2), .int .i64 ((rd_T75 l1 x12_1).f3), .int .i64 0]) ?_ 4 _ rfl; (with_reducible repeat (first | refine blk_drewN ?_ _ | refine blk_drew ?_ | refine blk_alloc ?_ _)); refine blk_put (cs := #[.int .i64 ((rd_T75 l1 x12_1).f0), .int .i64 ((rd_T75 l1 x12_1).f1), .int .i64 ((rd_T75 l1 x12_1).f2), .int .i64 0, .int .i64 0]) ?_ 3 _ rfl; (with_reducible repeat (first | refine blk_drewN ?_ _ | refine blk_drew ?_ | refine blk_alloc ?_ _)); refine blk_put (cs := #[.int .i64 ((rd_T75 l1 x12_1).f0), .int .i64 ((rd_T75 l1 x12_1).f1), .int .i64 0, .int .i64 0, .int .i64 0]) ?_ 2 _ rfl; (with_reducible repeat (first | refine blk_drewN ?_ _ | refine blk_drew ?_ | refine blk_alloc ?_ _)); refine blk_put (cs := #[.int .i64 ((rd_T75 l1 x12_1).f0), .int .i64 0, .int .i64 0, .int .i64 0, .int .i64 0]) ?_ 1 _ rfl; (with_reducible repeat (first | refine blk_drewN ?_ _ | refine blk_drew ?_ | refine blk_alloc ?_ _)); refine blk_put (cs := #[.int .i64 0, .int .i64 0, .int .i64 0, .int .i64 0, .int .i64 0]) ?_ 0 _ rfl; (with_reducible repeat (first | refine blk_drewN ?_ _ | refine blk_drew ?_ | refine blk_alloc ?_ _)); exact BK157.out) hb); replace HB := hs_ HB hb; (try clear hb hb2 hk hi); have ⟨hcz19_0, hcz19_1, hcz19_2, hcz19_3, hcz19_4, hfz19_0, hfz19_1, hfz19_2, hfz19_3, hfz19_4⟩ := rz5 BK157) | (go_at_call 94; (with_reducible refine (spec_GameOf.calls k1 _ _ l1 ((rd_T75 l1 x12_1).f0) ((rd_T75 l1 x12_1).f1) t159 _ ?side1 ?side2 A9.out).mono ?_); (case side1 => exact cc HR1 HB); (case side2 => exact HC1.out); rintro e w20 ⟨rfl, hb⟩; replace BK157 := kb BK157 hb; replace HB := hs_ HB hb; (try clear hb hb2 hk hi)))
         go_ret
         exact ⟨ee, bb HB⟩
       ·replace c8 := Bool.eq_false_iff.mpr c8
        subst c8
        rw [if_neg (show ¬ (false = true) by decide)] at H
        obtain rfl := Option.some.inj H
        have p156 : 0 ≤ (x12_1 : Int) := of_decide_eq_true (by first | (with_reducible assumption) | assumption)
        have q156 : x12_1 < (l1.length : Int) := of_decide_eq_true (by first | (with_reducible assumption) | assumption)
        obtain ⟨ad156, e156, hx156_0, hx156_1, hx156_2, hx156_3, hx156_4⟩ := at_T75 HR1.out x12_1 p156 q156
        cases e156
        replace hx156_0 := (HB.out.cell (World.block_lt_of_cell? w _ hx156_0)).trans hx156_0
        replace hx156_1 := (HB.out.cell (World.block_lt_of_cell? w _ hx156_1)).trans hx156_1
        replace hx156_2 := (HB.out.cell (World.block_lt_of_cell? w _ hx156_2)).trans hx156_2
        replace hx156_3 := (HB.out.cell (World.block_lt_of_cell? w _ hx156_3)).trans hx156_3
        replace hx156_4 := (HB.out.cell (World.block_lt_of_cell? w _ hx156_4)).trans hx156_4
        replace p156 := eq_true p156
        replace q156 := eq_true q156
        go_wp2_with (first | ((with_reducible refine gate_dst (N := 6) rfl ?_); refine bx (N := 6) (cs := #[.int .i64 0, .int .i64 0, .int .i64 0, .int .i64 0, .int .i64 0]) (t := 75) ?_; intro gb157 hg w21 hbox hb; have BK157 := Aside0.mk (hbox); have GW157 := gs hg HB; have GE157 := gs hg HB; replace HB := hs_ HB hb; clear hb hbox hg; have ⟨hcz22_0, hcz22_1, hcz22_2, hcz22_3, hcz22_4, hfz22_0, hfz22_1, hfz22_2, hfz22_3, hfz22_4⟩ := rz5 BK157) | ((with_reducible refine gate_callee (f := 93) rfl ?_); refine gl (some 19) Try.func93 #[.int .i64 a0, .agg #[.int .i64 ((rd_T75 l1 x12_1).f0), .int .i64 ((rd_T75 l1 x12_1).f1), .int .i64 ((rd_T75 l1 x12_1).f2), .int .i64 ((rd_T75 l1 x12_1).f3), .int .i64 ((rd_T75 l1 x12_1).f4)]] ?_; (with_reducible refine (spec_GameOk.calls k1 a0 ((rd_T75 l1 x12_1).f0) ((rd_T75 l1 x12_1).f1) ((rd_T75 l1 x12_1).f2) ((rd_T75 l1 x12_1).f3) ((rd_T75 l1 x12_1).f4) false _ A7.out).mono ?_); rintro e w23 ⟨rfl, hb⟩; refine ⟨_, rfl, ?_⟩; replace BK157 := Aside0.mk (blk_below (g := gb157) (o := .cells #[.int .i64 ((rd_T75 l1 x12_1).f0), .int .i64 ((rd_T75 l1 x12_1).f1), .int .i64 ((rd_T75 l1 x12_1).f2), .int .i64 ((rd_T75 l1 x12_1).f3), .int .i64 ((rd_T75 l1 x12_1).f4)] 75 (0, 0)) (by (with_reducible repeat (first | refine blk_drewN ?_ _ | refine blk_drew ?_ | refine blk_alloc ?_ _)); refine blk_put (cs := #[.int .i64 ((rd_T75 l1 x12_1).f0), .int .i64 ((rd_T75 l1 x12_1).f1), .int .i64 ((rd_T75 l1 x12_1).f2), .int .i64 ((rd_T75 l1 x12_1).f3), .int .i64 0]) ?_ 4 _ rfl; (with_reducible repeat (first | refine blk_drewN ?_ _ | refine blk_drew ?_ | refine blk_alloc ?_ _)); refine blk_put (cs := #[.int .i64 ((rd_T75 l1 x12_1).f0), .int .i64 ((rd_T75 l1 x12_1).f1), .int .i64 ((rd_T75 l1 x12_1).f2), .int .i64 0, .int .i64 0]) ?_ 3 _ rfl; (with_reducible repeat (first | refine blk_drewN ?_ _ | refine blk_drew ?_ | refine blk_alloc ?_ _)); refine blk_put (cs := #[.int .i64 ((rd_T75 l1 x12_1).f0), .int .i64 ((rd_T75 l1 x12_1).f1), .int .i64 0, .int .i64 0, .int .i64 0]) ?_ 2 _ rfl; (with_reducible repeat (first | refine blk_drewN ?_ _ | refine blk_drew ?_ | refine blk_alloc ?_ _)); refine blk_put (cs := #[.int .i64 ((rd_T75 l1 x12_1).f0), .int .i64 0, .int .i64 0, .int .i64 0, .int .i64 0]) ?_ 1 _ rfl; (with_reducible repeat (first | refine blk_drewN ?_ _ | refine blk_drew ?_ | refine blk_alloc ?_ _)); refine blk_put (cs := #[.int .i64 0, .int .i64 0, .int .i64 0, .int .i64 0, .int .i64 0]) ?_ 0 _ rfl; (with_reducible repeat (first | refine blk_drewN ?_ _ | refine blk_drew ?_ | refine blk_alloc ?_ _)); exact BK157.out) hb); replace HB := hs_ HB hb; (try clear hb hb2 hk hi)))
        go_ret
        exact ⟨ee, bb HB⟩
      ·rw [if_neg c6] at H
       exact absurd H (by simp)
     ·rw [if_neg c5] at H
      exact absurd H (by simp)
    ·rw [if_neg c4] at H
     have c4b0 : decide (x12_1 < (l1.length : Int)) = false := decide_eq_false c4
     clear c4
     obtain rfl := Option.some.inj H
     go_wp2
     go_ret
     exact ⟨ee, bb HB⟩
end Go.Proofs.Ytoaepoffooomnaa.Q
section
namespace Go.Proofs.Ytoaepoffooomnaa.Q
open Go.RowKit Go.Proofs.YtoaepoffooomnaaW.PrintWords Go.Proofs.YtoaepoffooomnaaW.PrintLast Go.Proofs.YtoaepoffooomnaaW.PrintMore
attribute [local go_sem] max2_int min2_int max_two min_two max_three min_three max_four min_four
set_option linter.unusedVariables false
set_option linter.unusedSimpArgs false
mutual
def spec_BookOk.j0 : Nat → Bool → List (S87) → Int → Int → Int → List Int → Bool → List (S75) → List Int → List Int → Option (Bool)
 | 0, _, _, _, _, _, _, _, _, _, _ => none
 | k + 1, x38, x161000, x161001, x161002, x161003, x161004, x161005, x161006, x161007, x161008 => if x38 = true then (some false) else (spec_BookOk.l0 k (x161000.length : Int) 0 x161000 x161001 x161002 x161003 x161004 x161005 x161006 x161007 x161008)
def spec_BookOk.l0 : Nat → Int → Int → List (S87) → Int → Int → Int → List Int → Bool → List (S75) → List Int → List Int → Option (Bool)
 | 0, _, _, _, _, _, _, _, _, _, _, _ => none
 | k + 1, x41, x42, x161000, x161001, x161002, x161003, x161004, x161005, x161006, x161007, x161008 => if x42 < x41 then (if 0 ≤ x42 then (if x42 < (x161007.length : Int) then ((spec_l01In.f (rd x161007 x42) 0 1000).bind fun t165 => (if t165 = true then (if x42 < (x161008.length : Int) then ((spec_l01In.f (rd x161008 x42) 0 1000).bind fun t167 => (if t167 = true then (spec_BookOk.l0 k x41 (wrap64 (x42 + 1)) x161000 x161001 x161002 x161003 x161004 x161005 x161006 x161007 x161008) else (some false))) else (none)) else (some false))) else (none)) else (none)) else (some true)
end
def spec_BookOk.f (k : Nat) (l0_0 : List (S87)) (a0_1 : Int) (a0_2 : Int) (a0_3 : Int) (l0_4 : List Int) (a0_5 : Bool) (l0_6 : List (S75)) (l0_7 : List Int) (l0_8 : List Int) : Option (Bool) := (spec_FieldOk.f k l0_0).bind fun t161 => (if t161 = true then ((spec_RulesOk.f k a0_1 a0_2 a0_3 l0_4 a0_5).bind fun t162 => (if t162 = true then ((spec_SeasonOk.f k (l0_0.length : Int) l0_6).bind fun t163 => (if t163 = true then (if (l0_7.length : Int) = (l0_0.length : Int) then (spec_BookOk.j0 k ((l0_8.length : Int) != (l0_0.length : Int)) l0_0 a0_1 a0_2 a0_3 l0_4 a0_5 l0_6 l0_7 l0_8) else (spec_BookOk.j0 k true l0_0 a0_1 a0_2 a0_3 l0_4 a0_5 l0_6 l0_7 l0_8)) else (spec_BookOk.j0 k true l0_0 a0_1 a0_2 a0_3 l0_4 a0_5 l0_6 l0_7 l0_8))) else (spec_BookOk.j0 k true l0_0 a0_1 a0_2 a0_3 l0_4 a0_5 l0_6 l0_7 l0_8))) else (spec_BookOk.j0 k true l0_0 a0_1 a0_2 a0_3 l0_4 a0_5 l0_6 l0_7 l0_8))
set_option maxHeartbeats 8000000 in
set_option maxRecDepth 100000 in
theorem spec_BookOk.calls (k : Nat) (A0_0 : Option Addr) (c0_0 : Nat) (l0_0 : List (S87)) (a0_1 : Int) (a0_2 : Int) (a0_3 : Int) (A0_4 : Option Addr) (c0_4 : Nat) (l0_4 : List Int) (a0_5 : Bool) (A0_6 : Option Addr) (c0_6 : Nat) (l0_6 : List (S75)) (A0_7 : Option Addr) (c0_7 : Nat) (l0_7 : List Int) (A0_8 : Option Addr) (c0_8 : Nat) (l0_8 : List Int) (r : Bool) (w : World) (hr0_0 : Kd.C k87 w A0_0 l0_0.length l0_0) (hc0_0 : l0_0.length ≤ c0_0) (hr0_4 : Kd.C (Kd.int .i64) w A0_4 l0_4.length l0_4) (hc0_4 : l0_4.length ≤ c0_4) (hr0_6 : Kd.C k75 w A0_6 l0_6.length l0_6) (hc0_6 : l0_6.length ≤ c0_6) (hr0_7 : Kd.C (Kd.int .i64) w A0_7 l0_7.length l0_7) (hc0_7 : l0_7.length ≤ c0_7) (hr0_8 : Kd.C (Kd.int .i64) w A0_8 l0_8.length l0_8) (hc0_8 : l0_8.length ≤ c0_8) (h : spec_BookOk.f k l0_0 a0_1 a0_2 a0_3 l0_4 a0_5 l0_6 l0_7 l0_8 = some r) :
  Calls Try.prog 47 #[.agg #[.slice A0_0 l0_0.length c0_0, .int .i64 a0_1, .int .i64 a0_2, .int .i64 a0_3, .slice A0_4 l0_4.length c0_4, .bool a0_5, .slice A0_6 l0_6.length c0_6, .slice A0_7 l0_7.length c0_7, .slice A0_8 l0_8.length c0_8]] w fun e w' => e = .returned (.bool r) ∧ Below w.heap.size w w' := by
 have hu34 := Try.underlying34
 have hu31 := Try.underlying31
 have HR0_0 := Aside0.mk hr0_0
 have HC0_0 := Aside0.mk hc0_0
 clear hr0_0 hc0_0
 have HR0_4 := Aside0.mk hr0_4
 have HC0_4 := Aside0.mk hc0_4
 clear hr0_4 hc0_4
 have HR0_6 := Aside0.mk hr0_6
 have HC0_6 := Aside0.mk hc0_6
 clear hr0_6 hc0_6
 have HR0_7 := Aside0.mk hr0_7
 have HC0_7 := Aside0.mk hc0_7
 clear hr0_7 hc0_7
 have HR0_8 := Aside0.mk hr0_8
 have HC0_8 := Aside0.mk hc0_8
 clear hr0_8 hc0_8
 have HB := Aside0.mk (Below.refl w.heap.size w)
 have H : ((spec_FieldOk.f k l0_0).bind fun t161 => (if t161 = true then ((spec_RulesOk.f k a0_1 a0_2 a0_3 l0_4 a0_5).bind fun t162 => (if t162 = true then ((spec_SeasonOk.f k (l0_0.length : Int) l0_6).bind fun t163 => (if t163 = true then (if (l0_7.length : Int) = (l0_0.length : Int) then (spec_BookOk.j0 k ((l0_8.length : Int) != (l0_0.length : Int)) l0_0 a0_1 a0_2 a0_3 l0_4 a0_5 l0_6 l0_7 l0_8) else (spec_BookOk.j0 k true l0_0 a0_1 a0_2 a0_3 l0_4 a0_5 l0_6 l0_7 l0_8)) else (spec_BookOk.j0 k true l0_0 a0_1 a0_2 a0_3 l0_4 a0_5 l0_6 l0_7 l0_8))) else (spec_BookOk.j0 k true l0_0 a0_1 a0_2 a0_3 l0_4 a0_5 l0_6 l0_7 l0_8))) else (spec_BookOk.j0 k true l0_0 a0_1 a0_2 a0_3 l0_4 a0_5 l0_6 l0_7 l0_8))) = some r := h
 clear h
 have HC2 := Aside0.mk H
 clear H
 go_enter Try.func47, Try.ntmps47
 go_upto_region 2 with (first | ((with_reducible refine gate_dst (N := 1) rfl ?_); (try (refine gate_guard (by rfl) ?_; dsimp only)); refine bx (N := 1) (cs := #[.slice A0_0 l0_0.length c0_0, .int .i64 a0_1, .int .i64 a0_2, .int .i64 a0_3, .slice A0_4 l0_4.length c0_4, .bool a0_5, .slice A0_6 l0_6.length c0_6, .slice A0_7 l0_7.length c0_7, .slice A0_8 l0_8.length c0_8]) (t := 34) ?_; intro gb160 hg w3 hbox hb; have BK160 := Aside0.mk (hbox); have GW160 := gs hg HB; have GE160 := gs hg HB; replace HB := hs_ HB hb; clear hb hbox hg; have ⟨hcz4_0, hcz4_1, hcz4_2, hcz4_3, hcz4_4, hcz4_5, hcz4_6, hcz4_7, hcz4_8, hfz4_0, hfz4_1, hfz4_2, hfz4_3, hfz4_4, hfz4_5, hfz4_6, hfz4_7, hfz4_8⟩ := rz9 BK160))
 (try simp only [Act.put, List.setIfInBounds_toArray, List.set_cons_zero, List.set_cons_succ])
 go_cut [38] (fun v38 wc => ∃ (kq : Nat) (x38_1 : Bool), v38 = .bool x38_1 ∧ Aside0 (spec_BookOk.j0 kq x38_1 l0_0 a0_1 a0_2 a0_3 l0_4 a0_5 l0_6 l0_7 l0_8 = some r) ∧ Aside0 (kq ≤ k) ∧ Aside0 (wc.heap[gb160]? = some (.cells #[(.slice A0_0 l0_0.length c0_0), .int .i64 a0_1, .int .i64 a0_2, .int .i64 a0_3, (.slice A0_4 l0_4.length c0_4), .bool a0_5, (.slice A0_6 l0_6.length c0_6), (.slice A0_7 l0_7.length c0_7), (.slice A0_8 l0_8.length c0_8)] 34 (0, 0))) ∧ Aside0 (Below w.heap.size w wc))
 case first =>
  have H := HC2.out
  clear HC2
  replace H := Option.bind_eq_some_iff.mp H
  obtain ⟨t161, A50, H⟩ := H
  try dsimp only at H
  have A5 := Aside0.mk A50
  clear A50
  by_cases c6 : t161 = true
  ·subst c6
   rw [if_pos rfl] at H
   replace H := Option.bind_eq_some_iff.mp H
   obtain ⟨t162, A70, H⟩ := H
   try dsimp only at H
   have A7 := Aside0.mk A70
   clear A70
   by_cases c8 : t162 = true
   ·subst c8
    rw [if_pos rfl] at H
    replace H := Option.bind_eq_some_iff.mp H
    obtain ⟨t163, A90, H⟩ := H
    try dsimp only at H
    have A9 := Aside0.mk A90
    clear A90
    by_cases c10 : t163 = true
    ·subst c10
     rw [if_pos rfl] at H
     by_cases c11 : (l0_7.length : Int) = (l0_0.length : Int)
     ·rw [if_pos c11] at H
      have c11b0 : ((l0_7.length : Int) == (l0_0.length : Int)) = true := beq_iff_eq.mpr c11
      have c11b1 : ((l0_7.length : Int) != (l0_0.length : Int)) = false := bne_eq_false_iff_eq.mpr c11
      have c11b2 : (l0_7.length == l0_0.length) = true := by first | simpa using c11 | (simp at c11 ⊢; omega)
      clear c11
      (first | rw [c11b0] | rw [c11b1] | (simp only [i64_w, i32_w]; rw [c11b0]) | skip)
      have H' := Aside0.mk H
      clear H
      have ⟨hcz12_0, hcz12_1, hcz12_2, hcz12_3, hcz12_4, hcz12_5, hcz12_6, hcz12_7, hcz12_8, hfz12_0, hfz12_1, hfz12_2, hfz12_3, hfz12_4, hfz12_5, hfz12_6, hfz12_7, hfz12_8⟩ := rz9 BK160
      go_wp2_with (first | ((with_reducible refine gate_callee (f := 76) rfl ?_); refine gl (some 10) Try.func76 #[.slice A0_0 l0_0.length c0_0] ?_; (with_reducible refine (spec_FieldOk.calls k _ _ l0_0 true _ ?side1 ?side2 A5.out).mono ?_); (case side1 => exact cc HR0_0 HB); (case side2 => exact HC0_0.out); rintro e w13 ⟨rfl, hb⟩; refine ⟨_, rfl, ?_⟩; replace BK160 := kb BK160 hb; replace HB := hs_ HB hb; (try clear hb hb2 hk hi); have ⟨hcz14_0, hcz14_1, hcz14_2, hcz14_3, hcz14_4, hcz14_5, hcz14_6, hcz14_7, hcz14_8, hfz14_0, hfz14_1, hfz14_2, hfz14_3, hfz14_4, hfz14_5, hfz14_6, hfz14_7, hfz14_8⟩ := rz9 BK160) | (go_at_call 77; (with_reducible refine (spec_RulesOk.calls k a0_1 a0_2 a0_3 _ _ l0_4 a0_5 true _ ?side1 ?side2 A7.out).mono ?_); (case side1 => exact cc HR0_4 HB); (case side2 => exact HC0_4.out); rintro e w15 ⟨rfl, hb⟩; replace BK160 := kb BK160 hb; replace HB := hs_ HB hb; (try clear hb hb2 hk hi); have ⟨hcz16_0, hcz16_1, hcz16_2, hcz16_3, hcz16_4, hcz16_5, hcz16_6, hcz16_7, hcz16_8, hfz16_0, hfz16_1, hfz16_2, hfz16_3, hfz16_4, hfz16_5, hfz16_6, hfz16_7, hfz16_8⟩ := rz9 BK160) | (go_at_call 78; (with_reducible refine (spec_SeasonOk.calls k (l0_0.length : Int) _ _ l0_6 true _ ?side1 ?side2 A9.out).mono ?_); (case side1 => exact cc HR0_6 HB); (case side2 => exact HC0_6.out); rintro e w17 ⟨rfl, hb⟩; replace BK160 := kb BK160 hb; replace HB := hs_ HB hb; (try clear hb hb2 hk hi); have ⟨hcz18_0, hcz18_1, hcz18_2, hcz18_3, hcz18_4, hcz18_5, hcz18_6, hcz18_7, hcz18_8, hfz18_0, hfz18_1, hfz18_2, hfz18_3, hfz18_4, hfz18_5, hfz18_6, hfz18_7, hfz18_8⟩ := rz9 BK160))
      go_meet
      case rel => exact ⟨_, (((l0_8.length : Int) != (l0_0.length : Int))), e2_, H', ⟨by first | omega | exact Nat.le_refl _⟩, ⟨bk BK160⟩, ⟨bb HB⟩⟩
     ·rw [if_neg c11] at H
      have c11b0 : ((l0_7.length : Int) == (l0_0.length : Int)) = false := beq_eq_false_iff_ne.mpr c11
      have c11b1 : ((l0_7.length : Int) != (l0_0.length : Int)) = true := bne_iff_ne.mpr c11
      have c11b2 : (l0_7.length == l0_0.length) = false := by first | simpa using c11 | (simp at c11 ⊢; omega)
      (first | rw [c11b0] | rw [c11b1] | (simp only [i64_w, i32_w]; rw [c11b0]) | skip)
      have H' := Aside0.mk H
      clear H
      have ⟨hcz19_0, hcz19_1, hcz19_2, hcz19_3, hcz19_4, hcz19_5, hcz19_6, hcz19_7, hcz19_8, hfz19_0, hfz19_1, hfz19_2, hfz19_3, hfz19_4, hfz19_5, hfz19_6, hfz19_7, hfz19_8⟩ := rz9 BK160
      go_wp2_with (first | ((with_reducible refine gate_callee (f := 76) rfl ?_); refine gl (some 10) Try.func76 #[.slice A0_0 l0_0.length c0_0] ?_; (with_reducible refine (spec_FieldOk.calls k _ _ l0_0 true _ ?side1 ?side2 A5.out).mono ?_); (case side1 => exact cc HR0_0 HB); (case side2 => exact HC0_0.out); rintro e w20 ⟨rfl, hb⟩; refine ⟨_, rfl, ?_⟩; replace BK160 := kb BK160 hb; replace HB := hs_ HB hb; (try clear hb hb2 hk hi); have ⟨hcz21_0, hcz21_1, hcz21_2, hcz21_3, hcz21_4, hcz21_5, hcz21_6, hcz21_7, hcz21_8, hfz21_0, hfz21_1, hfz21_2, hfz21_3, hfz21_4, hfz21_5, hfz21_6, hfz21_7, hfz21_8⟩ := rz9 BK160) | (go_at_call 77; (with_reducible refine (spec_RulesOk.calls k a0_1 a0_2 a0_3 _ _ l0_4 a0_5 true _ ?side1 ?side2 A7.out).mono ?_); (case side1 => exact cc HR0_4 HB); (case side2 => exact HC0_4.out); rintro e w22 ⟨rfl, hb⟩; replace BK160 := kb BK160 hb; replace HB := hs_ HB hb; (try clear hb hb2 hk hi); have ⟨hcz23_0, hcz23_1, hcz23_2, hcz23_3, hcz23_4, hcz23_5, hcz23_6, hcz23_7, hcz23_8, hfz23_0, hfz23_1, hfz23_2, hfz23_3, hfz23_4, hfz23_5, hfz23_6, hfz23_7, hfz23_8⟩ := rz9 BK160) | (go_at_call 78; (with_reducible refine (spec_SeasonOk.calls k (l0_0.length : Int) _ _ l0_6 true _ ?side1 ?side2 A9.out).mono ?_); (case side1 => exact cc HR0_6 HB); (case side2 => exact HC0_6.out); rintro e w24 ⟨rfl, hb⟩; replace BK160 := kb BK160 hb; replace HB := hs_ HB hb; (try clear hb hb2 hk hi); have ⟨hcz25_0, hcz25_1, hcz25_2, hcz25_3, hcz25_4, hcz25_5, hcz25_6, hcz25_7, hcz25_8, hfz25_0, hfz25_1, hfz25_2, hfz25_3, hfz25_4, hfz25_5, hfz25_6, hfz25_7, hfz25_8⟩ := rz9 BK160))
      go_meet
      case rel => exact ⟨_, (true), e2_, H', ⟨by first | omega | exact Nat.le_refl _⟩, ⟨bk BK160⟩, ⟨bb HB⟩⟩
    ·replace c10 := Bool.eq_false_iff.mpr c10
     subst c10
     rw [if_neg (show ¬ (false = true) by decide)] at H
     have H' := Aside0.mk H
     clear H
     have ⟨hcz26_0, hcz26_1, hcz26_2, hcz26_3, hcz26_4, hcz26_5, hcz26_6, hcz26_7, hcz26_8, hfz26_0, hfz26_1, hfz26_2, hfz26_3, hfz26_4, hfz26_5, hfz26_6, hfz26_7, hfz26_8⟩ := rz9 BK160
     go_wp2_with (first | ((with_reducible refine gate_callee (f := 76) rfl ?_); refine gl (some 10) Try.func76 #[.slice A0_0 l0_0.length c0_0] ?_; (with_reducible refine (spec_FieldOk.calls k _ _ l0_0 true _ ?side1 ?side2 A5.out).mono ?_); (case side1 => exact cc HR0_0 HB); (case side2 => exact HC0_0.out); rintro e w27 ⟨rfl, hb⟩; refine ⟨_, rfl, ?_⟩; replace BK160 := kb BK160 hb; replace HB := hs_ HB hb; (try clear hb hb2 hk hi); have ⟨hcz28_0, hcz28_1, hcz28_2, hcz28_3, hcz28_4, hcz28_5, hcz28_6, hcz28_7, hcz28_8, hfz28_0, hfz28_1, hfz28_2, hfz28_3, hfz28_4, hfz28_5, hfz28_6, hfz28_7, hfz28_8⟩ := rz9 BK160) | (go_at_call 77; (with_reducible refine (spec_RulesOk.calls k a0_1 a0_2 a0_3 _ _ l0_4 a0_5 true _ ?side1 ?side2 A7.out).mono ?_); (case side1 => exact cc HR0_4 HB); (case side2 => exact HC0_4.out); rintro e w29 ⟨rfl, hb⟩; replace BK160 := kb BK160 hb; replace HB := hs_ HB hb; (try clear hb hb2 hk hi); have ⟨hcz30_0, hcz30_1, hcz30_2, hcz30_3, hcz30_4, hcz30_5, hcz30_6, hcz30_7, hcz30_8, hfz30_0, hfz30_1, hfz30_2, hfz30_3, hfz30_4, hfz30_5, hfz30_6, hfz30_7, hfz30_8⟩ := rz9 BK160) | (go_at_call 78; (with_reducible refine (spec_SeasonOk.calls k (l0_0.length : Int) _ _ l0_6 false _ ?side1 ?side2 A9.out).mono ?_); (case side1 => exact cc HR0_6 HB); (case side2 => exact HC0_6.out); rintro e w31 ⟨rfl, hb⟩; replace BK160 := kb BK160 hb; replace HB := hs_ HB hb; (try clear hb hb2 hk hi)))
     go_meet
     case rel => exact ⟨_, (true), e2_, H', ⟨by first | omega | exact Nat.le_refl _⟩, ⟨bk BK160⟩, ⟨bb HB⟩⟩
   ·replace c8 := Bool.eq_false_iff.mpr c8
    subst c8
    rw [if_neg (show ¬ (false = true) by decide)] at H
    have H' := Aside0.mk H
    clear H
    have ⟨hcz32_0, hcz32_1, hcz32_2, hcz32_3, hcz32_4, hcz32_5, hcz32_6, hcz32_7, hcz32_8, hfz32_0, hfz32_1, hfz32_2, hfz32_3, hfz32_4, hfz32_5, hfz32_6, hfz32_7, hfz32_8⟩ := rz9 BK160
    go_wp2_with (first | ((with_reducible refine gate_callee (f := 76) rfl ?_); refine gl (some 10) Try.func76 #[.slice A0_0 l0_0.length c0_0] ?_; (with_reducible refine (spec_FieldOk.calls k _ _ l0_0 true _ ?side1 ?side2 A5.out).mono ?_); (case side1 => exact cc HR0_0 HB); (case side2 => exact HC0_0.out); rintro e w33 ⟨rfl, hb⟩; refine ⟨_, rfl, ?_⟩; replace BK160 := kb BK160 hb; replace HB := hs_ HB hb; (try clear hb hb2 hk hi); have ⟨hcz34_0, hcz34_1, hcz34_2, hcz34_3, hcz34_4, hcz34_5, hcz34_6, hcz34_7, hcz34_8, hfz34_0, hfz34_1, hfz34_2, hfz34_3, hfz34_4, hfz34_5, hfz34_6, hfz34_7, hfz34_8⟩ := rz9 BK160) | (go_at_call 77; (with_reducible refine (spec_RulesOk.calls k a0_1 a0_2 a0_3 _ _ l0_4 a0_5 false _ ?side1 ?side2 A7.out).mono ?_); (case side1 => exact cc HR0_4 HB); (case side2 => exact HC0_4.out); rintro e w35 ⟨rfl, hb⟩; replace BK160 := kb BK160 hb; replace HB := hs_ HB hb; (try clear hb hb2 hk hi)))
    go_meet
    case rel => exact ⟨_, (true), e2_, H', ⟨by first | omega | exact Nat.le_refl _⟩, ⟨bk BK160⟩, ⟨bb HB⟩⟩
  ·replace c6 := Bool.eq_false_iff.mpr c6
   subst c6
   rw [if_neg (show ¬ (false = true) by decide)] at H
   have H' := Aside0.mk H
   clear H
   have ⟨hcz36_0, hcz36_1, hcz36_2, hcz36_3, hcz36_4, hcz36_5, hcz36_6, hcz36_7, hcz36_8, hfz36_0, hfz36_1, hfz36_2, hfz36_3, hfz36_4, hfz36_5, hfz36_6, hfz36_7, hfz36_8⟩ := rz9 BK160
   go_wp2_with (first | ((with_reducible refine gate_callee (f := 76) rfl ?_); refine gl (some 10) Try.func76 #[.slice A0_0 l0_0.length c0_0] ?_; (with_reducible refine (spec_FieldOk.calls k _ _ l0_0 false _ ?side1 ?side2 A5.out).mono ?_); (case side1 => exact cc HR0_0 HB); (case side2 => exact HC0_0.out); rintro e w37 ⟨rfl, hb⟩; refine ⟨_, rfl, ?_⟩; replace BK160 := kb BK160 hb; replace HB := hs_ HB hb; (try clear hb hb2 hk hi)))
   go_meet
   case rel => exact ⟨_, (true), e2_, H', ⟨by first | omega | exact Nat.le_refl _⟩, ⟨bk BK160⟩, ⟨bb HB⟩⟩
 case rest =>
  clear HC2
  (try clear c1)
  (try clear p2)
  (try clear c4)
  (try clear c6)
  (try clear c7)
  (try clear c8)
  (try clear c10)
  (try clear c11)
  (try clear c11b0)
  (try clear c11b1)
  (try clear c11b2)
  (try clear hcz12_0 hcz12_1 hcz12_2 hcz12_3 hcz12_4 hcz12_5 hcz12_6 hcz12_7 hcz12_8)
  (try clear hcz14_0 hcz14_1 hcz14_2 hcz14_3 hcz14_4 hcz14_5 hcz14_6 hcz14_7 hcz14_8)
  (try clear hcz16_0 hcz16_1 hcz16_2 hcz16_3 hcz16_4 hcz16_5 hcz16_6 hcz16_7 hcz16_8)
  (try clear hcz18_0 hcz18_1 hcz18_2 hcz18_3 hcz18_4 hcz18_5 hcz18_6 hcz18_7 hcz18_8)
  (try clear hcz19_0 hcz19_1 hcz19_2 hcz19_3 hcz19_4 hcz19_5 hcz19_6 hcz19_7 hcz19_8)
  (try clear hcz21_0 hcz21_1 hcz21_2 hcz21_3 hcz21_4 hcz21_5 hcz21_6 hcz21_7 hcz21_8)
  (try clear hcz23_0 hcz23_1 hcz23_2 hcz23_3 hcz23_4 hcz23_5 hcz23_6 hcz23_7 hcz23_8)
  (try clear hcz25_0 hcz25_1 hcz25_2 hcz25_3 hcz25_4 hcz25_5 hcz25_6 hcz25_7 hcz25_8)
  (try clear hcz26_0 hcz26_1 hcz26_2 hcz26_3 hcz26_4 hcz26_5 hcz26_6 hcz26_7 hcz26_8)
  (try clear hcz28_0 hcz28_1 hcz28_2 hcz28_3 hcz28_4 hcz28_5 hcz28_6 hcz28_7 hcz28_8)
  (try clear hcz30_0 hcz30_1 hcz30_2 hcz30_3 hcz30_4 hcz30_5 hcz30_6 hcz30_7 hcz30_8)
  (try clear hcz32_0 hcz32_1 hcz32_2 hcz32_3 hcz32_4 hcz32_5 hcz32_6 hcz32_7 hcz32_8)
  (try clear hcz34_0 hcz34_1 hcz34_2 hcz34_3 hcz34_4 hcz34_5 hcz34_6 hcz34_7 hcz34_8)
  (try clear hcz36_0 hcz36_1 hcz36_2 hcz36_3 hcz36_4 hcz36_5 hcz36_6 hcz36_7 hcz36_8)
  (try clear hcz4_0 hcz4_1 hcz4_2 hcz4_3 hcz4_4 hcz4_5 hcz4_6 hcz4_7 hcz4_8)
  (try clear hfz12_0 hfz12_1 hfz12_2 hfz12_3 hfz12_4 hfz12_5 hfz12_6 hfz12_7 hfz12_8)
  (try clear hfz14_0 hfz14_1 hfz14_2 hfz14_3 hfz14_4 hfz14_5 hfz14_6 hfz14_7 hfz14_8)
  (try clear hfz16_0 hfz16_1 hfz16_2 hfz16_3 hfz16_4 hfz16_5 hfz16_6 hfz16_7 hfz16_8)
  (try clear hfz18_0 hfz18_1 hfz18_2 hfz18_3 hfz18_4 hfz18_5 hfz18_6 hfz18_7 hfz18_8)
  (try clear hfz19_0 hfz19_1 hfz19_2 hfz19_3 hfz19_4 hfz19_5 hfz19_6 hfz19_7 hfz19_8)
  (try clear hfz21_0 hfz21_1 hfz21_2 hfz21_3 hfz21_4 hfz21_5 hfz21_6 hfz21_7 hfz21_8)
  (try clear hfz23_0 hfz23_1 hfz23_2 hfz23_3 hfz23_4 hfz23_5 hfz23_6 hfz23_7 hfz23_8)
  (try clear hfz25_0 hfz25_1 hfz25_2 hfz25_3 hfz25_4 hfz25_5 hfz25_6 hfz25_7 hfz25_8)
  (try clear hfz26_0 hfz26_1 hfz26_2 hfz26_3 hfz26_4 hfz26_5 hfz26_6 hfz26_7 hfz26_8)
  (try clear hfz28_0 hfz28_1 hfz28_2 hfz28_3 hfz28_4 hfz28_5 hfz28_6 hfz28_7 hfz28_8)
  (try clear hfz30_0 hfz30_1 hfz30_2 hfz30_3 hfz30_4 hfz30_5 hfz30_6 hfz30_7 hfz30_8)
  (try clear hfz32_0 hfz32_1 hfz32_2 hfz32_3 hfz32_4 hfz32_5 hfz32_6 hfz32_7 hfz32_8)
  (try clear hfz34_0 hfz34_1 hfz34_2 hfz34_3 hfz34_4 hfz34_5 hfz34_6 hfz34_7 hfz34_8)
  (try clear hfz36_0 hfz36_1 hfz36_2 hfz36_3 hfz36_4 hfz36_5 hfz36_6 hfz36_7 hfz36_8)
  (try clear hfz4_0 hfz4_1 hfz4_2 hfz4_3 hfz4_4 hfz4_5 hfz4_6 hfz4_7 hfz4_8)
  obtain ⟨kq, x38_1, rfl, HA, HJ1, BK160, HB⟩ := hcut
  cases kq with
  | zero => exact absurd HA.out (by simp [spec_BookOk.j0])
  | succ kj1 =>
   have H := HA.out
   clear HA
   simp only [spec_BookOk.j0] at H
   by_cases c38 : x38_1 = true
   ·subst c38
    rw [if_pos rfl] at H
    obtain rfl := Option.some.inj H
    go_wp2
    go_ret
    exact ⟨ee, bb HB⟩
   ·replace c38 := Bool.eq_false_iff.mpr c38
    subst c38
    rw [if_neg (show ¬ (false = true) by decide)] at H
    have H' := Aside0.mk H
    clear H
    have ⟨hcz39_0, hcz39_1, hcz39_2, hcz39_3, hcz39_4, hcz39_5, hcz39_6, hcz39_7, hcz39_8, hfz39_0, hfz39_1, hfz39_2, hfz39_3, hfz39_4, hfz39_5, hfz39_6, hfz39_7, hfz39_8⟩ := rz9 BK160
    go_wp2
    go_loopg [42] kj1 (fun kq v42 w' => ∃ (x42_2 : Int), v42 = .int .i64 x42_2 ∧ Aside0 (spec_BookOk.l0 kq (l0_0.length : Int) x42_2 l0_0 a0_1 a0_2 a0_3 l0_4 a0_5 l0_6 l0_7 l0_8 = some r) ∧ Aside0 (kq ≤ kj1) ∧ Aside0 (w'.heap[gb160]? = some (.cells #[(.slice A0_0 l0_0.length c0_0), .int .i64 a0_1, .int .i64 a0_2, .int .i64 a0_3, (.slice A0_4 l0_4.length c0_4), .bool a0_5, (.slice A0_6 l0_6.length c0_6), (.slice A0_7 l0_7.length c0_7), (.slice A0_8 l0_8.length c0_8)] 34 (0, 0))) ∧ Aside0 (Below w.heap.size w w'))
    case atStart => exact ⟨(0), e2_, H', ⟨Nat.le_refl _⟩, ⟨bk BK160⟩, ⟨bb HB⟩⟩
    case round =>
     clear H'
     (try clear c1)
     (try clear p2)
     (try clear c3)
     (try clear c4)
     (try clear c6)
     (try clear c7)
     (try clear c8)
     (try clear c10)
     (try clear c11)
     (try clear c11b0)
     (try clear c11b1)
     (try clear c11b2)
     (try clear c38)
     (try clear hcz12_0 hcz12_1 hcz12_2 hcz12_3 hcz12_4 hcz12_5 hcz12_6 hcz12_7 hcz12_8)
     (try clear hcz14_0 hcz14_1 hcz14_2 hcz14_3 hcz14_4 hcz14_5 hcz14_6 hcz14_7 hcz14_8)
     (try clear hcz16_0 hcz16_1 hcz16_2 hcz16_3 hcz16_4 hcz16_5 hcz16_6 hcz16_7 hcz16_8)
     (try clear hcz18_0 hcz18_1 hcz18_2 hcz18_3 hcz18_4 hcz18_5 hcz18_6 hcz18_7 hcz18_8)
     (try clear hcz19_0 hcz19_1 hcz19_2 hcz19_3 hcz19_4 hcz19_5 hcz19_6 hcz19_7 hcz19_8)
     (try clear hcz21_0 hcz21_1 hcz21_2 hcz21_3 hcz21_4 hcz21_5 hcz21_6 hcz21_7 hcz21_8)
     (try clear hcz23_0 hcz23_1 hcz23_2 hcz23_3 hcz23_4 hcz23_5 hcz23_6 hcz23_7 hcz23_8)
     (try clear hcz25_0 hcz25_1 hcz25_2 hcz25_3 hcz25_4 hcz25_5 hcz25_6 hcz25_7 hcz25_8)
     (try clear hcz26_0 hcz26_1 hcz26_2 hcz26_3 hcz26_4 hcz26_5 hcz26_6 hcz26_7 hcz26_8)
     (try clear hcz28_0 hcz28_1 hcz28_2 hcz28_3 hcz28_4 hcz28_5 hcz28_6 hcz28_7 hcz28_8)
     (try clear hcz30_0 hcz30_1 hcz30_2 hcz30_3 hcz30_4 hcz30_5 hcz30_6 hcz30_7 hcz30_8)
     (try clear hcz32_0 hcz32_1 hcz32_2 hcz32_3 hcz32_4 hcz32_5 hcz32_6 hcz32_7 hcz32_8)
     (try clear hcz34_0 hcz34_1 hcz34_2 hcz34_3 hcz34_4 hcz34_5 hcz34_6 hcz34_7 hcz34_8)
     (try clear hcz36_0 hcz36_1 hcz36_2 hcz36_3 hcz36_4 hcz36_5 hcz36_6 hcz36_7 hcz36_8)
     (try clear hcz39_0 hcz39_1 hcz39_2 hcz39_3 hcz39_4 hcz39_5 hcz39_6 hcz39_7 hcz39_8)
     (try clear hcz4_0 hcz4_1 hcz4_2 hcz4_3 hcz4_4 hcz4_5 hcz4_6 hcz4_7 hcz4_8)
     (try clear hfz12_0 hfz12_1 hfz12_2 hfz12_3 hfz12_4 hfz12_5 hfz12_6 hfz12_7 hfz12_8)
     (try clear hfz14_0 hfz14_1 hfz14_2 hfz14_3 hfz14_4 hfz14_5 hfz14_6 hfz14_7 hfz14_8)
     (try clear hfz16_0 hfz16_1 hfz16_2 hfz16_3 hfz16_4 hfz16_5 hfz16_6 hfz16_7 hfz16_8)
     (try clear hfz18_0 hfz18_1 hfz18_2 hfz18_3 hfz18_4 hfz18_5 hfz18_6 hfz18_7 hfz18_8)
     (try clear hfz19_0 hfz19_1 hfz19_2 hfz19_3 hfz19_4 hfz19_5 hfz19_6 hfz19_7 hfz19_8)
     (try clear hfz21_0 hfz21_1 hfz21_2 hfz21_3 hfz21_4 hfz21_5 hfz21_6 hfz21_7 hfz21_8)
     (try clear hfz23_0 hfz23_1 hfz23_2 hfz23_3 hfz23_4 hfz23_5 hfz23_6 hfz23_7 hfz23_8)
     (try clear hfz25_0 hfz25_1 hfz25_2 hfz25_3 hfz25_4 hfz25_5 hfz25_6 hfz25_7 hfz25_8)
     (try clear hfz26_0 hfz26_1 hfz26_2 hfz26_3 hfz26_4 hfz26_5 hfz26_6 hfz26_7 hfz26_8)
     (try clear hfz28_0 hfz28_1 hfz28_2 hfz28_3 hfz28_4 hfz28_5 hfz28_6 hfz28_7 hfz28_8)
     (try clear hfz30_0 hfz30_1 hfz30_2 hfz30_3 hfz30_4 hfz30_5 hfz30_6 hfz30_7 hfz30_8)
     (try clear hfz32_0 hfz32_1 hfz32_2 hfz32_3 hfz32_4 hfz32_5 hfz32_6 hfz32_7 hfz32_8)
     (try clear hfz34_0 hfz34_1 hfz34_2 hfz34_3 hfz34_4 hfz34_5 hfz34_6 hfz34_7 hfz34_8)
     (try clear hfz36_0 hfz36_1 hfz36_2 hfz36_3 hfz36_4 hfz36_5 hfz36_6 hfz36_7 hfz36_8)
     (try clear hfz39_0 hfz39_1 hfz39_2 hfz39_3 hfz39_4 hfz39_5 hfz39_6 hfz39_7 hfz39_8)
     (try clear hfz4_0 hfz4_1 hfz4_2 hfz4_3 hfz4_4 hfz4_5 hfz4_6 hfz4_7 hfz4_8)
     (try clear p2)
     obtain ⟨x42_2, rfl, HA, HK2, BK160, HB⟩ := hrel
     cases gk with
     | zero => exact absurd HA.out (by simp [spec_BookOk.l0])
     | succ k2 =>
      have H := HA.out
      clear HA
      simp only [spec_BookOk.l0] at H
      by_cases c40 : x42_2 < (l0_0.length : Int)
      ·rw [if_pos c40] at H
       have c40b0 : decide (x42_2 < (l0_0.length : Int)) = true := decide_eq_true c40
       clear c40
       by_cases c41 : 0 ≤ x42_2
       ·rw [if_pos c41] at H
        have c41b0 : decide (0 ≤ x42_2) = true := decide_eq_true c41
        clear c41
        by_cases c42 : x42_2 < (l0_7.length : Int)
        ·rw [if_pos c42] at H
         have c42b0 : decide (x42_2 < (l0_7.length : Int)) = true := decide_eq_true c42
         clear c42
         replace H := Option.bind_eq_some_iff.mp H
         obtain ⟨t165, A430, H⟩ := H
         try dsimp only at H
         have A43 := Aside0.mk A430
         clear A430
         by_cases c44 : t165 = true
         ·subst c44
          rw [if_pos rfl] at H
          by_cases c45 : x42_2 < (l0_8.length : Int)
          ·rw [if_pos c45] at H
           have c45b0 : decide (x42_2 < (l0_8.length : Int)) = true := decide_eq_true c45
           clear c45
           replace H := Option.bind_eq_some_iff.mp H
           obtain ⟨t167, A460, H⟩ := H
           try dsimp only at H
           have A46 := Aside0.mk A460
           clear A460
           by_cases c47 : t167 = true
           ·subst c47
            rw [if_pos rfl] at H
            have H' := Aside0.mk H
            clear H
            have ⟨hcz48_0, hcz48_1, hcz48_2, hcz48_3, hcz48_4, hcz48_5, hcz48_6, hcz48_7, hcz48_8, hfz48_0, hfz48_1, hfz48_2, hfz48_3, hfz48_4, hfz48_5, hfz48_6, hfz48_7, hfz48_8⟩ := rz9 BK160
            have p164 : 0 ≤ (x42_2 : Int) := of_decide_eq_true (by first | (with_reducible assumption) | assumption)
            have q164 : x42_2 < (l0_7.length : Int) := of_decide_eq_true (by first | (with_reducible assumption) | assumption)
            obtain ⟨ad164, e164, hx164_0⟩ := Kd.at_int HR0_7.out x42_2 p164 q164
            cases e164
            replace hx164_0 := (HB.out.cell (World.block_lt_of_cell? w _ hx164_0)).trans hx164_0
            replace p164 := eq_true p164
            replace q164 := eq_true q164
            go_wp2_with (first | ((with_reducible refine gate_callee (f := 48) rfl ?_); refine gl (some 50) Try.func48 #[.int .i64 (rd l0_7 x42_2), .int .i64 0, .int .i64 1000] ?_; (with_reducible refine (spec_l01In.calls (rd l0_7 x42_2) 0 1000 true _ A43.out).mono ?_); rintro e w' ⟨rfl, ⟨nd, rfl⟩⟩; refine ⟨_, rfl, ?_⟩; have p166 : 0 ≤ (x42_2 : Int) := of_decide_eq_true (by first | (with_reducible assumption) | assumption); have q166 : x42_2 < (l0_8.length : Int) := of_decide_eq_true (by first | (with_reducible assumption) | assumption); obtain ⟨ad166, e166, hx166_0⟩ := Kd.at_int HR0_8.out x42_2 p166 q166; cases e166; replace hx166_0 := (HB.out.cell (World.block_lt_of_cell? w _ hx166_0)).trans hx166_0; replace p166 := eq_true p166; replace q166 := eq_true q166) | (go_at_call 48; (with_reducible refine (spec_l01In.calls (rd l0_8 x42_2) 0 1000 true _ A46.out).mono ?_); rintro e w' ⟨rfl, ⟨nd, rfl⟩⟩))
            go_roundg k2
            case measure => have := HJ1.out; have := HK2.out; omega
            case rel => exact ⟨(wrap64 (x42_2 + 1)), e2_, H', ⟨by have := HJ1.out; have := HK2.out; omega⟩, ⟨bk BK160⟩, ⟨bb HB⟩⟩
           ·replace c47 := Bool.eq_false_iff.mpr c47
            subst c47
            rw [if_neg (show ¬ (false = true) by decide)] at H
            obtain rfl := Option.some.inj H
            have ⟨hcz49_0, hcz49_1, hcz49_2, hcz49_3, hcz49_4, hcz49_5, hcz49_6, hcz49_7, hcz49_8, hfz49_0, hfz49_1, hfz49_2, hfz49_3, hfz49_4, hfz49_5, hfz49_6, hfz49_7, hfz49_8⟩ := rz9 BK160
            have p164 : 0 ≤ (x42_2 : Int) := of_decide_eq_true (by first | (with_reducible assumption) | assumption)
            have q164 : x42_2 < (l0_7.length : Int) := of_decide_eq_true (by first | (with_reducible assumption) | assumption)
            obtain ⟨ad164, e164, hx164_0⟩ := Kd.at_int HR0_7.out x42_2 p164 q164
            cases e164
            replace hx164_0 := (HB.out.cell (World.block_lt_of_cell? w _ hx164_0)).trans hx164_0
            replace p164 := eq_true p164
            replace q164 := eq_true q164
            go_wp2_with (first | ((with_reducible refine gate_callee (f := 48) rfl ?_); refine gl (some 50) Try.func48 #[.int .i64 (rd l0_7 x42_2), .int .i64 0, .int .i64 1000] ?_; (with_reducible refine (spec_l01In.calls (rd l0_7 x42_2) 0 1000 true _ A43.out).mono ?_); rintro e w' ⟨rfl, ⟨nd, rfl⟩⟩; refine ⟨_, rfl, ?_⟩; have p166 : 0 ≤ (x42_2 : Int) := of_decide_eq_true (by first | (with_reducible assumption) | assumption); have q166 : x42_2 < (l0_8.length : Int) := of_decide_eq_true (by first | (with_reducible assumption) | assumption); obtain ⟨ad166, e166, hx166_0⟩ := Kd.at_int HR0_8.out x42_2 p166 q166; cases e166; replace hx166_0 := (HB.out.cell (World.block_lt_of_cell? w _ hx166_0)).trans hx166_0; replace p166 := eq_true p166; replace q166 := eq_true q166) | (go_at_call 48; (with_reducible refine (spec_l01In.calls (rd l0_8 x42_2) 0 1000 false _ A46.out).mono ?_); rintro e w' ⟨rfl, ⟨nd, rfl⟩⟩))
            go_ret
            exact ⟨ee, bb HB⟩
          ·rw [if_neg c45] at H
           exact absurd H (by simp)
         ·replace c44 := Bool.eq_false_iff.mpr c44
          subst c44
          rw [if_neg (show ¬ (false = true) by decide)] at H
          obtain rfl := Option.some.inj H
          have ⟨hcz50_0, hcz50_1, hcz50_2, hcz50_3, hcz50_4, hcz50_5, hcz50_6, hcz50_7, hcz50_8, hfz50_0, hfz50_1, hfz50_2, hfz50_3, hfz50_4, hfz50_5, hfz50_6, hfz50_7, hfz50_8⟩ := rz9 BK160
          have p164 : 0 ≤ (x42_2 : Int) := of_decide_eq_true (by first | (with_reducible assumption) | assumption)
          have q164 : x42_2 < (l0_7.length : Int) := of_decide_eq_true (by first | (with_reducible assumption) | assumption)
          obtain ⟨ad164, e164, hx164_0⟩ := Kd.at_int HR0_7.out x42_2 p164 q164
          cases e164
          replace hx164_0 := (HB.out.cell (World.block_lt_of_cell? w _ hx164_0)).trans hx164_0
          replace p164 := eq_true p164
          replace q164 := eq_true q164
          go_wp2_with (first | ((with_reducible refine gate_callee (f := 48) rfl ?_); refine gl (some 50) Try.func48 #[.int .i64 (rd l0_7 x42_2), .int .i64 0, .int .i64 1000] ?_; (with_reducible refine (spec_l01In.calls (rd l0_7 x42_2) 0 1000 false _ A43.out).mono ?_); rintro e w' ⟨rfl, ⟨nd, rfl⟩⟩; refine ⟨_, rfl, ?_⟩))
          go_ret
          exact ⟨ee, bb HB⟩
        ·rw [if_neg c42] at H
         exact absurd H (by simp)
       ·rw [if_neg c41] at H
        exact absurd H (by simp)
      ·rw [if_neg c40] at H
       have c40b0 : decide (x42_2 < (l0_0.length : Int)) = false := decide_eq_false c40
       clear c40
       obtain rfl := Option.some.inj H
       go_wp2
       go_ret
       exact ⟨ee, bb HB⟩
end Go.Proofs.Ytoaepoffooomnaa.Q
end
namespace Go.Proofs.Ytoaepoffooomnaa.Q
open Go.RowKit Go.Proofs.YtoaepoffooomnaaW.PrintWords Go.Proofs.YtoaepoffooomnaaW.PrintLast Go.Proofs.YtoaepoffooomnaaW.PrintMore
attribute [local go_sem] max2_int min2_int max_two min_two max_three min_three max_four min_four
set_option linter.unusedVariables false
set_option linter.unusedSimpArgs false
def spec_l16Open.f (k : Nat) (l0_0 : List (S87)) (a0_1 : Int) (a0_2 : Int) (a0_3 : Int) (l0_4 : List Int) (a0_5 : Bool) (l0_6 : List (S75)) (l0_7 : List Int) (l0_8 : List Int) : Option (List Int × Bool) := (spec_OpenGames.f k l0_6).bind fun t169 => ((spec_BookOk.f k l0_0 a0_1 a0_2 a0_3 l0_4 a0_5 l0_6 l0_7 l0_8).bind fun t172 => (if t172 = true then (some (t169, decide ((t169.length : Int) ≤ 5))) else (some (t169, false))))
set_option maxHeartbeats 8000000 in
set_option maxRecDepth 100000 in
theorem spec_l16Open.calls (k : Nat) (A0_0 : Option Addr) (c0_0 : Nat) (l0_0 : List (S87)) (a0_1 : Int) (a0_2 : Int) (a0_3 : Int) (A0_4 : Option Addr) (c0_4 : Nat) (l0_4 : List Int) (a0_5 : Bool) (A0_6 : Option Addr) (c0_6 : Nat) (l0_6 : List (S75)) (A0_7 : Option Addr) (c0_7 : Nat) (l0_7 : List Int) (A0_8 : Option Addr) (c0_8 : Nat) (l0_8 : List Int) (r1 : List Int) (r2 : Bool) (w : World) (hr0_0 : Kd.C k87 w A0_0 l0_0.length l0_0) (hc0_0 : l0_0.length ≤ c0_0) (hr0_4 : Kd.C (Kd.int .i64) w A0_4 l0_4.length l0_4) (hc0_4 : l0_4.length ≤ c0_4) (hr0_6 : Kd.C k75 w A0_6 l0_6.length l0_6) (hc0_6 : l0_6.length ≤ c0_6) (hr0_7 : Kd.C (Kd.int .i64) w A0_7 l0_7.length l0_7) (hc0_7 : l0_7.length ≤ c0_7) (hr0_8 : Kd.C (Kd.int .i64) w A0_8 l0_8.length l0_8) (hc0_8 : l0_8.length ≤ c0_8) (h : spec_l16Open.f k l0_0 a0_1 a0_2 a0_3 l0_4 a0_5 l0_6 l0_7 l0_8 = some (r1, r2)) :
  Calls Try.prog 60 #[.agg #[.slice A0_0 l0_0.length c0_0, .int .i64 a0_1, .int .i64 a0_2, .int .i64 a0_3, .slice A0_4 l0_4.length c0_4, .bool a0_5, .slice A0_6 l0_6.length c0_6, .slice A0_7 l0_7.length c0_7, .slice A0_8 l0_8.length c0_8]] w fun e w' => ∃ v0_ : Value, e = .returned (.tuple #[v0_, .bool r2]) ∧ Kd.R (Kd.int .i64) 3 w' w.heap.size (fun _ => True) v0_ r1 ∧ Below w.heap.size w w' := by
 have hu34 := Try.underlying34
 have HR0_0 := Aside0.mk hr0_0
 have HC0_0 := Aside0.mk hc0_0
 clear hr0_0 hc0_0
 have HR0_4 := Aside0.mk hr0_4
 have HC0_4 := Aside0.mk hc0_4
 clear hr0_4 hc0_4
 have HR0_6 := Aside0.mk hr0_6
 have HC0_6 := Aside0.mk hc0_6
 clear hr0_6 hc0_6
 have HR0_7 := Aside0.mk hr0_7
 have HC0_7 := Aside0.mk hc0_7
 clear hr0_7 hc0_7
 have HR0_8 := Aside0.mk hr0_8
 have HC0_8 := Aside0.mk hc0_8
 clear hr0_8 hc0_8
 have HB := Aside0.mk (Below.refl w.heap.size w)
 have H : ((spec_OpenGames.f k l0_6).bind fun t169 => ((spec_BookOk.f k l0_0 a0_1 a0_2 a0_3 l0_4 a0_5 l0_6 l0_7 l0_8).bind fun t172 => (if t172 = true then (some (t169, decide ((t169.length : Int) ≤ 5))) else (some (t169, false))))) = some (r1, r2) := h
 clear h
 replace H := Option.bind_eq_some_iff.mp H
 obtain ⟨t169, A20, H⟩ := H
 replace H : ((spec_BookOk.f k l0_0 a0_1 a0_2 a0_3 l0_4 a0_5 l0_6 l0_7 l0_8).bind fun t172 => (if t172 = true then (some (t169, decide ((t169.length : Int) ≤ 5))) else (some (t169, false)))) = some (r1, r2) := H
 have A2 := Aside0.mk A20
 clear A20
 replace H := Option.bind_eq_some_iff.mp H
 obtain ⟨t172, A30, H⟩ := H
 replace H : (if t172 = true then (some (t169, decide ((t169.length : Int) ≤ 5))) else (some (t169, false))) = some (r1, r2) := H
 have A3 := Aside0.mk A30
 clear A30
 by_cases c4 : t172 = true
 ·subst c4
  have H1 : (some (t169, decide ((t169.length : Int) ≤ 5))) = some (r1, r2) := by rw [if_pos rfl] at H; exact H
  clear H
  have H := H1
  clear H1
  simp only [Option.some.injEq, Prod.mk.injEq] at H
  obtain ⟨rfl, rfl⟩ := H
  go_enter Try.func60, Try.ntmps60
  go_wp2_with (first | ((with_reducible refine gate_dst (N := 1) rfl ?_); (try (refine gate_guard (by rfl) ?_; dsimp only)); refine bx (N := 1) (cs := #[.slice A0_0 l0_0.length c0_0, .int .i64 a0_1, .int .i64 a0_2, .int .i64 a0_3, .slice A0_4 l0_4.length c0_4, .bool a0_5, .slice A0_6 l0_6.length c0_6, .slice A0_7 l0_7.length c0_7, .slice A0_8 l0_8.length c0_8]) (t := 34) ?_; intro gb168 hg w5 hbox hb; have BK168 := Aside0.mk (hbox); have GW168 := gs hg HB; have GE168 := gs hg HB; replace HB := hs_ HB hb; clear hb hbox hg; have ⟨hcz6_0, hcz6_1, hcz6_2, hcz6_3, hcz6_4, hcz6_5, hcz6_6, hcz6_7, hcz6_8, hfz6_0, hfz6_1, hfz6_2, hfz6_3, hfz6_4, hfz6_5, hfz6_6, hfz6_7, hfz6_8⟩ := rz9 BK168) | ((with_reducible refine gate_callee (f := 27) rfl ?_); refine gl (some 7) Try.func27 #[.slice A0_6 l0_6.length c0_6] ?_; (with_reducible refine (spec_OpenGames.calls k _ _ l0_6 t169 _ ?side1 ?side2 A2.out).mono ?_); (case side1 => exact cc HR0_6 HB); (case side2 => exact HC0_6.out); rintro e w7 ⟨v170, rfl, ho0, hb⟩; refine ⟨_, rfl, ?_⟩; have HO171 := kl ho0 HB; replace BK168 := kb BK168 hb; replace HB := hs_ HB hb; (try clear hb hb2 hk hi ho0); have ⟨hcz8_0, hcz8_1, hcz8_2, hcz8_3, hcz8_4, hcz8_5, hcz8_6, hcz8_7, hcz8_8, hfz8_0, hfz8_1, hfz8_2, hfz8_3, hfz8_4, hfz8_5, hfz8_6, hfz8_7, hfz8_8⟩ := rz9 BK168) | ((with_reducible refine gate_callee (f := 47) rfl ?_); refine gl (some 10) Try.func47 #[.agg #[.slice A0_0 l0_0.length c0_0, .int .i64 a0_1, .int .i64 a0_2, .int .i64 a0_3, .slice A0_4 l0_4.length c0_4, .bool a0_5, .slice A0_6 l0_6.length c0_6, .slice A0_7 l0_7.length c0_7, .slice A0_8 l0_8.length c0_8]] ?_; (with_reducible refine (spec_BookOk.calls k _ _ l0_0 a0_1 a0_2 a0_3 _ _ l0_4 a0_5 _ _ l0_6 _ _ l0_7 _ _ l0_8 true _ ?side1 ?side2 ?side3 ?side4 ?side5 ?side6 ?side7 ?side8 ?side9 ?side10 A3.out).mono ?_); (case side1 => exact cc HR0_0 HB); (case side2 => exact HC0_0.out); (case side3 => exact cc HR0_4 HB); (case side4 => exact HC0_4.out); (case side5 => exact cc HR0_6 HB); (case side6 => exact HC0_6.out); (case side7 => exact cc HR0_7 HB); (case side8 => exact HC0_7.out); (case side9 => exact cc HR0_8 HB); (case side10 => exact HC0_8.out); rintro e w9 ⟨rfl, hb⟩; refine ⟨_, rfl, ?_⟩; replace HO171 := kr HO171 hb; replace BK168 := kb BK168 hb; replace HB := hs_ HB hb; (try clear hb hb2 hk hi); obtain ⟨Ao10, co10, eo10⟩ := Kd.R_slice HO171.out; subst eo10))
  go_ret2
  exact ⟨_, ee, rr HO171, bb HB⟩
 ·replace c4 := Bool.eq_false_iff.mpr c4
  subst c4
  have H1 : (some (t169, false)) = some (r1, r2) := by rw [if_neg (show ¬ (false = true) by decide)] at H; exact H
  clear H
  have H := H1
  clear H1
  simp only [Option.some.injEq, Prod.mk.injEq] at H
  obtain ⟨rfl, rfl⟩ := H
  go_enter Try.func60, Try.ntmps60
  go_wp2_with (first | ((with_reducible refine gate_dst (N := 1) rfl ?_); (try (refine gate_guard (by rfl) ?_; dsimp only)); refine bx (N := 1) (cs := #[.slice A0_0 l0_0.length c0_0, .int .i64 a0_1, .int .i64 a0_2, .int .i64 a0_3, .slice A0_4 l0_4.length c0_4, .bool a0_5, .slice A0_6 l0_6.length c0_6, .slice A0_7 l0_7.length c0_7, .slice A0_8 l0_8.length c0_8]) (t := 34) ?_; intro gb168 hg w11 hbox hb; have BK168 := Aside0.mk (hbox); have GW168 := gs hg HB; have GE168 := gs hg HB; replace HB := hs_ HB hb; clear hb hbox hg; have ⟨hcz12_0, hcz12_1, hcz12_2, hcz12_3, hcz12_4, hcz12_5, hcz12_6, hcz12_7, hcz12_8, hfz12_0, hfz12_1, hfz12_2, hfz12_3, hfz12_4, hfz12_5, hfz12_6, hfz12_7, hfz12_8⟩ := rz9 BK168) | ((with_reducible refine gate_callee (f := 27) rfl ?_); refine gl (some 7) Try.func27 #[.slice A0_6 l0_6.length c0_6] ?_; (with_reducible refine (spec_OpenGames.calls k _ _ l0_6 t169 _ ?side1 ?side2 A2.out).mono ?_); (case side1 => exact cc HR0_6 HB); (case side2 => exact HC0_6.out); rintro e w13 ⟨v170, rfl, ho0, hb⟩; refine ⟨_, rfl, ?_⟩; have HO171 := kl ho0 HB; replace BK168 := kb BK168 hb; replace HB := hs_ HB hb; (try clear hb hb2 hk hi ho0); have ⟨hcz14_0, hcz14_1, hcz14_2, hcz14_3, hcz14_4, hcz14_5, hcz14_6, hcz14_7, hcz14_8, hfz14_0, hfz14_1, hfz14_2, hfz14_3, hfz14_4, hfz14_5, hfz14_6, hfz14_7, hfz14_8⟩ := rz9 BK168) | ((with_reducible refine gate_callee (f := 47) rfl ?_); refine gl (some 10) Try.func47 #[.agg #[.slice A0_0 l0_0.length c0_0, .int .i64 a0_1, .int .i64 a0_2, .int .i64 a0_3, .slice A0_4 l0_4.length c0_4, .bool a0_5, .slice A0_6 l0_6.length c0_6, .slice A0_7 l0_7.length c0_7, .slice A0_8 l0_8.length c0_8]] ?_; (with_reducible refine (spec_BookOk.calls k _ _ l0_0 a0_1 a0_2 a0_3 _ _ l0_4 a0_5 _ _ l0_6 _ _ l0_7 _ _ l0_8 false _ ?side1 ?side2 ?side3 ?side4 ?side5 ?side6 ?side7 ?side8 ?side9 ?side10 A3.out).mono ?_); (case side1 => exact cc HR0_0 HB); (case side2 => exact HC0_0.out); (case side3 => exact cc HR0_4 HB); (case side4 => exact HC0_4.out); (case side5 => exact cc HR0_6 HB); (case side6 => exact HC0_6.out); (case side7 => exact cc HR0_7 HB); (case side8 => exact HC0_7.out); (case side9 => exact cc HR0_8 HB); (case side10 => exact HC0_8.out); rintro e w15 ⟨rfl, hb⟩; refine ⟨_, rfl, ?_⟩; replace HO171 := kr HO171 hb; replace BK168 := kb BK168 hb; replace HB := hs_ HB hb; (try clear hb hb2 hk hi)))
  go_ret2
  exact ⟨_, ee, rr HO171, bb HB⟩
end Go.Proofs.Ytoaepoffooomnaa.Q
section
namespace Go.Proofs.Ytoaepoffooomnaa.Q
open Go.RowKit Go.Proofs.YtoaepoffooomnaaW.PrintWords Go.Proofs.YtoaepoffooomnaaW.PrintLast Go.Proofs.YtoaepoffooomnaaW.PrintMore
attribute [local go_sem] max2_int min2_int max_two min_two max_three min_three max_four min_four
set_option linter.unusedVariables false
set_option linter.unusedSimpArgs false
mutual
def spec_IsOutcome.j0 : Nat → List Int → Bool → Option (Bool)
 | 0, _, _ => none
 | k + 1, x1, x22 => if x22 = true then (some false) else (spec_IsOutcome.l0 k x1 (x1.length : Int) 0)
def spec_IsOutcome.l0 : Nat → List Int → Int → Int → Option (Bool)
 | 0, _, _, _ => none
 | k + 1, x23, x24, x25 => if x25 < x24 then (if 0 ≤ x25 then (if x25 < (x23.length : Int) then ((spec_l01In.f (rd x23 x25) 1 3).bind fun t179 => (if t179 = true then (spec_IsOutcome.l0 k x23 x24 (wrap64 (x25 + 1))) else (some false))) else (none)) else (none)) else (some true)
end
def spec_IsOutcome.f (k : Nat) (l0_0 : List (S87)) (a0_1 : Int) (a0_2 : Int) (a0_3 : Int) (l0_4 : List Int) (a0_5 : Bool) (l0_6 : List (S75)) (l0_7 : List Int) (l0_8 : List Int) (l1 : List Int) : Option (Bool) := (spec_l16Open.f k l0_0 a0_1 a0_2 a0_3 l0_4 a0_5 l0_6 l0_7 l0_8).bind fun bt174 => (if bt174.2 = true then (spec_IsOutcome.j0 k l1 ((l1.length : Int) != (bt174.1.length : Int))) else (spec_IsOutcome.j0 k l1 true))
set_option maxHeartbeats 8000000 in
set_option maxRecDepth 100000 in
theorem spec_IsOutcome.calls (k : Nat) (A0_0 : Option Addr) (c0_0 : Nat) (l0_0 : List (S87)) (a0_1 : Int) (a0_2 : Int) (a0_3 : Int) (A0_4 : Option Addr) (c0_4 : Nat) (l0_4 : List Int) (a0_5 : Bool) (A0_6 : Option Addr) (c0_6 : Nat) (l0_6 : List (S75)) (A0_7 : Option Addr) (c0_7 : Nat) (l0_7 : List Int) (A0_8 : Option Addr) (c0_8 : Nat) (l0_8 : List Int) (A1 : Option Addr) (c1 : Nat) (l1 : List Int) (r : Bool) (w : World) (hr0_0 : Kd.C k87 w A0_0 l0_0.length l0_0) (hc0_0 : l0_0.length ≤ c0_0) (hr0_4 : Kd.C (Kd.int .i64) w A0_4 l0_4.length l0_4) (hc0_4 : l0_4.length ≤ c0_4) (hr0_6 : Kd.C k75 w A0_6 l0_6.length l0_6) (hc0_6 : l0_6.length ≤ c0_6) (hr0_7 : Kd.C (Kd.int .i64) w A0_7 l0_7.length l0_7) (hc0_7 : l0_7.length ≤ c0_7) (hr0_8 : Kd.C (Kd.int .i64) w A0_8 l0_8.length l0_8) (hc0_8 : l0_8.length ≤ c0_8) (hr1 : Kd.C (Kd.int .i64) w A1 l1.length l1) (hc1 : l1.length ≤ c1) (h : spec_IsOutcome.f k l0_0 a0_1 a0_2 a0_3 l0_4 a0_5 l0_6 l0_7 l0_8 l1 = some r) :
  Calls Try.prog 25 #[.agg #[.slice A0_0 l0_0.length c0_0, .int .i64 a0_1, .int .i64 a0_2, .int .i64 a0_3, .slice A0_4 l0_4.length c0_4, .bool a0_5, .slice A0_6 l0_6.length c0_6, .slice A0_7 l0_7.length c0_7, .slice A0_8 l0_8.length c0_8], .slice A1 l1.length c1] w fun e w' => e = .returned (.bool r) ∧ Below w.heap.size w w' := by
 have hu34 := Try.underlying34
 have HR0_0 := Aside0.mk hr0_0
 have HC0_0 := Aside0.mk hc0_0
 clear hr0_0 hc0_0
 have HR0_4 := Aside0.mk hr0_4
 have HC0_4 := Aside0.mk hc0_4
 clear hr0_4 hc0_4
 have HR0_6 := Aside0.mk hr0_6
 have HC0_6 := Aside0.mk hc0_6
 clear hr0_6 hc0_6
 have HR0_7 := Aside0.mk hr0_7
 have HC0_7 := Aside0.mk hc0_7
 clear hr0_7 hc0_7
 have HR0_8 := Aside0.mk hr0_8
 have HC0_8 := Aside0.mk hc0_8
 clear hr0_8 hc0_8
 have HR1 := Aside0.mk hr1
 have HC1 := Aside0.mk hc1
 clear hr1 hc1
 have HB := Aside0.mk (Below.refl w.heap.size w)
 have H : ((spec_l16Open.f k l0_0 a0_1 a0_2 a0_3 l0_4 a0_5 l0_6 l0_7 l0_8).bind fun bt174 => (if bt174.2 = true then (spec_IsOutcome.j0 k l1 ((l1.length : Int) != (bt174.1.length : Int))) else (spec_IsOutcome.j0 k l1 true))) = some r := h
 clear h
 replace H := Option.bind_eq_some_iff.mp H
 obtain ⟨⟨t174, t177⟩, A30, H⟩ := H
 try dsimp only at H
 have A3 := Aside0.mk A30
 clear A30
 have HC4 := Aside0.mk H
 clear H
 go_enter Try.func25, Try.ntmps25
 go_upto_region 2 with (first | ((with_reducible refine gate_dst (N := 2) rfl ?_); (try (refine gate_guard (by rfl) ?_; dsimp only)); refine bx (N := 2) (cs := #[.slice A0_0 l0_0.length c0_0, .int .i64 a0_1, .int .i64 a0_2, .int .i64 a0_3, .slice A0_4 l0_4.length c0_4, .bool a0_5, .slice A0_6 l0_6.length c0_6, .slice A0_7 l0_7.length c0_7, .slice A0_8 l0_8.length c0_8]) (t := 34) ?_; intro gb173 hg w5 hbox hb; have BK173 := Aside0.mk (hbox); have GW173 := gs hg HB; have GE173 := gs hg HB; replace HB := hs_ HB hb; clear hb hbox hg; have ⟨hcz6_0, hcz6_1, hcz6_2, hcz6_3, hcz6_4, hcz6_5, hcz6_6, hcz6_7, hcz6_8, hfz6_0, hfz6_1, hfz6_2, hfz6_3, hfz6_4, hfz6_5, hfz6_6, hfz6_7, hfz6_8⟩ := rz9 BK173) | ((with_reducible refine gate_callee (f := 60) rfl ?_); refine gl (some 11) Try.func60 #[.agg #[.slice A0_0 l0_0.length c0_0, .int .i64 a0_1, .int .i64 a0_2, .int .i64 a0_3, .slice A0_4 l0_4.length c0_4, .bool a0_5, .slice A0_6 l0_6.length c0_6, .slice A0_7 l0_7.length c0_7, .slice A0_8 l0_8.length c0_8]] ?_; (with_reducible refine (spec_l16Open.calls k _ _ l0_0 a0_1 a0_2 a0_3 _ _ l0_4 a0_5 _ _ l0_6 _ _ l0_7 _ _ l0_8 t174 t177 _ ?side1 ?side2 ?side3 ?side4 ?side5 ?side6 ?side7 ?side8 ?side9 ?side10 A3.out).mono ?_); (case side1 => exact cc HR0_0 HB); (case side2 => exact HC0_0.out); (case side3 => exact cc HR0_4 HB); (case side4 => exact HC0_4.out); (case side5 => exact cc HR0_6 HB); (case side6 => exact HC0_6.out); (case side7 => exact cc HR0_7 HB); (case side8 => exact HC0_7.out); (case side9 => exact cc HR0_8 HB); (case side10 => exact HC0_8.out); rintro e w7 ⟨v175, rfl, ho0, hb⟩; refine ⟨_, rfl, ?_⟩; have HO176 := kl ho0 HB; replace BK173 := kb BK173 hb; replace HB := hs_ HB hb; (try clear hb hb2 hk hi ho0)))
 (try simp only [Act.put, List.setIfInBounds_toArray, List.set_cons_zero, List.set_cons_succ])
 go_cut [22] (fun v22 wc => ∃ (kq : Nat) (x22_3 : Bool), v22 = .bool x22_3 ∧ Aside0 (spec_IsOutcome.j0 kq l1 x22_3 = some r) ∧ Aside0 (kq ≤ k) ∧ Aside0 (wc.heap[gb173]? = some (.cells #[(.slice A0_0 l0_0.length c0_0), .int .i64 a0_1, .int .i64 a0_2, .int .i64 a0_3, (.slice A0_4 l0_4.length c0_4), .bool a0_5, (.slice A0_6 l0_6.length c0_6), (.slice A0_7 l0_7.length c0_7), (.slice A0_8 l0_8.length c0_8)] 34 (0, 0))) ∧ Aside0 (Below w.heap.size w wc))
 case first =>
  have H := HC4.out
  clear HC4
  by_cases c8 : t177 = true
  ·subst c8
   rw [if_pos rfl] at H
   have H' := Aside0.mk H
   clear H
   obtain ⟨Ao9, co9, eo9⟩ := Kd.R_slice HO176.out
   subst eo9
   go_wp2
   go_meet
   case rel => exact ⟨_, (((l1.length : Int) != (t174.length : Int))), e2_, H', ⟨by first | omega | exact Nat.le_refl _⟩, ⟨bk BK173⟩, ⟨bb HB⟩⟩
  ·replace c8 := Bool.eq_false_iff.mpr c8
   subst c8
   rw [if_neg (show ¬ (false = true) by decide)] at H
   have H' := Aside0.mk H
   clear H
   go_wp2
   go_meet
   case rel => exact ⟨_, (true), e2_, H', ⟨by first | omega | exact Nat.le_refl _⟩, ⟨bk BK173⟩, ⟨bb HB⟩⟩
 case rest =>
  clear HC4
  (try clear c1)
  (try clear c2)
  (try clear p2)
  (try clear c6)
  (try clear c8)
  (try clear hcz6_0 hcz6_1 hcz6_2 hcz6_3 hcz6_4 hcz6_5 hcz6_6 hcz6_7 hcz6_8)
  (try clear hfz6_0 hfz6_1 hfz6_2 hfz6_3 hfz6_4 hfz6_5 hfz6_6 hfz6_7 hfz6_8)
  obtain ⟨kq, x22_3, rfl, HA, HJ3, BK173, HB⟩ := hcut
  cases kq with
  | zero => exact absurd HA.out (by simp [spec_IsOutcome.j0])
  | succ kj3 =>
   have H := HA.out
   clear HA
   simp only [spec_IsOutcome.j0] at H
   by_cases c10 : x22_3 = true
   ·subst c10
    rw [if_pos rfl] at H
    obtain rfl := Option.some.inj H
    go_wp2
    go_ret
    exact ⟨ee, bb HB⟩
   ·replace c10 := Bool.eq_false_iff.mpr c10
    subst c10
    rw [if_neg (show ¬ (false = true) by decide)] at H
    have H' := Aside0.mk H
    clear H
    go_wp2
    go_loopg [25] kj3 (fun kq v25 w' => ∃ (x25_2 : Int), v25 = .int .i64 x25_2 ∧ Aside0 (spec_IsOutcome.l0 kq l1 (l1.length : Int) x25_2 = some r) ∧ Aside0 (kq ≤ kj3) ∧ Aside0 (w'.heap[gb173]? = some (.cells #[(.slice A0_0 l0_0.length c0_0), .int .i64 a0_1, .int .i64 a0_2, .int .i64 a0_3, (.slice A0_4 l0_4.length c0_4), .bool a0_5, (.slice A0_6 l0_6.length c0_6), (.slice A0_7 l0_7.length c0_7), (.slice A0_8 l0_8.length c0_8)] 34 (0, 0))) ∧ Aside0 (Below w.heap.size w w'))
    case atStart => exact ⟨(0), e2_, H', ⟨Nat.le_refl _⟩, ⟨bk BK173⟩, ⟨bb HB⟩⟩
    case round =>
     clear H'
     (try clear c1)
     (try clear c2)
     (try clear p2)
     (try clear c6)
     (try clear c8)
     (try clear c10)
     (try clear hcz6_0 hcz6_1 hcz6_2 hcz6_3 hcz6_4 hcz6_5 hcz6_6 hcz6_7 hcz6_8)
     (try clear hfz6_0 hfz6_1 hfz6_2 hfz6_3 hfz6_4 hfz6_5 hfz6_6 hfz6_7 hfz6_8)
     (try clear p2)
     obtain ⟨x25_2, rfl, HA, HK2, BK173, HB⟩ := hrel
     cases gk with
     | zero => exact absurd HA.out (by simp [spec_IsOutcome.l0])
     | succ k2 =>
      have H := HA.out
      clear HA
      simp only [spec_IsOutcome.l0] at H
      by_cases c11 : x25_2 < (l1.length : Int)
      ·rw [if_pos c11] at H
       have c11b0 : decide (x25_2 < (l1.length : Int)) = true := decide_eq_true c11
       clear c11
       by_cases c12 : 0 ≤ x25_2
       ·rw [if_pos c12] at H
        have c12b0 : decide (0 ≤ x25_2) = true := decide_eq_true c12
        clear c12
        by_cases c13 : x25_2 < (l1.length : Int)
        ·rw [if_pos c13] at H
         have c13b0 : decide (x25_2 < (l1.length : Int)) = true := decide_eq_true c13
         clear c13
         replace H := Option.bind_eq_some_iff.mp H
         obtain ⟨t179, A140, H⟩ := H
         try dsimp only at H
         have A14 := Aside0.mk A140
         clear A140
         by_cases c15 : t179 = true
         ·subst c15
          rw [if_pos rfl] at H
          have H' := Aside0.mk H
          clear H
          have p178 : 0 ≤ (x25_2 : Int) := of_decide_eq_true (by first | (with_reducible assumption) | assumption)
          have q178 : x25_2 < (l1.length : Int) := of_decide_eq_true (by first | (with_reducible assumption) | assumption)
          obtain ⟨ad178, e178, hx178_0⟩ := Kd.at_int HR1.out x25_2 p178 q178
          cases e178
          replace hx178_0 := (HB.out.cell (World.block_lt_of_cell? w _ hx178_0)).trans hx178_0
          replace p178 := eq_true p178
          replace q178 := eq_true q178
          go_wp2_with (first | ((with_reducible refine gate_callee (f := 48) rfl ?_); refine gl (some 30) Try.func48 #[.int .i64 (rd l1 x25_2), .int .i64 1, .int .i64 3] ?_; (with_reducible refine (spec_l01In.calls (rd l1 x25_2) 1 3 true _ A14.out).mono ?_); rintro e w' ⟨rfl, ⟨nd, rfl⟩⟩; refine ⟨_, rfl, ?_⟩))
          go_roundg k2
          case measure => have := HJ3.out; have := HK2.out; omega
          case rel => exact ⟨(wrap64 (x25_2 + 1)), e2_, H', ⟨by have := HJ3.out; have := HK2.out; omega⟩, ⟨bk BK173⟩, ⟨bb HB⟩⟩
         ·replace c15 := Bool.eq_false_iff.mpr c15
          subst c15
          rw [if_neg (show ¬ (false = true) by decide)] at H
          obtain rfl := Option.some.inj H
          have p178 : 0 ≤ (x25_2 : Int) := of_decide_eq_true (by first | (with_reducible assumption) | assumption)
          have q178 : x25_2 < (l1.length : Int) := of_decide_eq_true (by first | (with_reducible assumption) | assumption)
          obtain ⟨ad178, e178, hx178_0⟩ := Kd.at_int HR1.out x25_2 p178 q178
          cases e178
          replace hx178_0 := (HB.out.cell (World.block_lt_of_cell? w _ hx178_0)).trans hx178_0
          replace p178 := eq_true p178
          replace q178 := eq_true q178
          go_wp2_with (first | ((with_reducible refine gate_callee (f := 48) rfl ?_); refine gl (some 30) Try.func48 #[.int .i64 (rd l1 x25_2), .int .i64 1, .int .i64 3] ?_; (with_reducible refine (spec_l01In.calls (rd l1 x25_2) 1 3 false _ A14.out).mono ?_); rintro e w' ⟨rfl, ⟨nd, rfl⟩⟩; refine ⟨_, rfl, ?_⟩))
          go_ret
          exact ⟨ee, bb HB⟩
        ·rw [if_neg c13] at H
         exact absurd H (by simp)
       ·rw [if_neg c12] at H
        exact absurd H (by simp)
      ·rw [if_neg c11] at H
       have c11b0 : decide (x25_2 < (l1.length : Int)) = false := decide_eq_false c11
       clear c11
       obtain rfl := Option.some.inj H
       go_wp2
       go_ret
       exact ⟨ee, bb HB⟩
end Go.Proofs.Ytoaepoffooomnaa.Q
end
namespace Go.Proofs.Ytoaepoffooomnaa.Q
open Go.RowKit Go.Proofs.YtoaepoffooomnaaW.PrintWords Go.Proofs.YtoaepoffooomnaaW.PrintLast Go.Proofs.YtoaepoffooomnaaW.PrintMore
attribute [local go_sem] max2_int min2_int max_two min_two max_three min_three max_four min_four
set_option linter.unusedVariables false
set_option linter.unusedSimpArgs false
def spec_l16Copy.f (l0_0 : List (S87)) (a0_1 : Int) (a0_2 : Int) (a0_3 : Int) (l0_4 : List Int) (a0_5 : Bool) (l0_6 : List (S75)) (l0_7 : List Int) (l0_8 : List Int) : Option ((List (S87)) × Int × Int × Int × List Int × Bool × (List (S75)) × List Int × List Int) := (some (([] : List (S87)) : List (S87))).bind fun y182 => (if y182.length + l0_0.length < 4398046511104 then ((some (([] : List Int) : List Int)).bind fun y188 => (if y188.length + l0_4.length < 17592186044416 then ((some (([] : List (S75)) : List (S75))).bind fun y194 => (if y194.length + l0_6.length < 3518437208883 then ((some (([] : List Int) : List Int)).bind fun y200 => (if y200.length + l0_7.length < 17592186044416 then ((some (([] : List Int) : List Int)).bind fun y206 => (if y206.length + l0_8.length < 17592186044416 then (some ((y182 ++ l0_0), a0_1, a0_2, a0_3, (y188 ++ l0_4), a0_5, (y194 ++ l0_6), (y200 ++ l0_7), (y206 ++ l0_8))) else (none))) else (none))) else (none))) else (none))) else (none))
set_option maxHeartbeats 8000000 in
set_option maxRecDepth 100000 in
theorem spec_l16Copy.calls (A0_0 : Option Addr) (c0_0 : Nat) (l0_0 : List (S87)) (a0_1 : Int) (a0_2 : Int) (a0_3 : Int) (A0_4 : Option Addr) (c0_4 : Nat) (l0_4 : List Int) (a0_5 : Bool) (A0_6 : Option Addr) (c0_6 : Nat) (l0_6 : List (S75)) (A0_7 : Option Addr) (c0_7 : Nat) (l0_7 : List Int) (A0_8 : Option Addr) (c0_8 : Nat) (l0_8 : List Int) (r1 : List (S87)) (r2 : Int) (r3 : Int) (r4 : Int) (r5 : List Int) (r6 : Bool) (r7 : List (S75)) (r8 : List Int) (r9 : List Int) (w : World) (hr0_0 : Kd.C k87 w A0_0 l0_0.length l0_0) (hc0_0 : l0_0.length ≤ c0_0) (hr0_4 : Kd.C (Kd.int .i64) w A0_4 l0_4.length l0_4) (hc0_4 : l0_4.length ≤ c0_4) (hr0_6 : Kd.C k75 w A0_6 l0_6.length l0_6) (hc0_6 : l0_6.length ≤ c0_6) (hr0_7 : Kd.C (Kd.int .i64) w A0_7 l0_7.length l0_7) (hc0_7 : l0_7.length ≤ c0_7) (hr0_8 : Kd.C (Kd.int .i64) w A0_8 l0_8.length l0_8) (hc0_8 : l0_8.length ≤ c0_8) (h : spec_l16Copy.f l0_0 a0_1 a0_2 a0_3 l0_4 a0_5 l0_6 l0_7 l0_8 = some (r1, r2, r3, r4, r5, r6, r7, r8, r9)) :
  Calls Try.prog 49 #[.agg #[.slice A0_0 l0_0.length c0_0, .int .i64 a0_1, .int .i64 a0_2, .int .i64 a0_3, .slice A0_4 l0_4.length c0_4, .bool a0_5, .slice A0_6 l0_6.length c0_6, .slice A0_7 l0_7.length c0_7, .slice A0_8 l0_8.length c0_8]] w fun e w' => ∃ v0_ v4_ v6_ v7_ v8_ : Value, e = .returned (.agg #[v0_, .int .i64 r2, .int .i64 r3, .int .i64 r4, v4_, .bool r6, v6_, v7_, v8_]) ∧ Kd.R k87 87 w' w.heap.size (fun _ => True) v0_ r1 ∧ Kd.R (Kd.int .i64) 3 w' w.heap.size (fun k_ => some k_ ≠ (v7_ : Value).ownBlock ∧ some k_ ≠ (v8_ : Value).ownBlock) v4_ r5 ∧ Kd.R k75 75 w' w.heap.size (fun _ => True) v6_ r7 ∧ Kd.R (Kd.int .i64) 3 w' w.heap.size (fun k_ => some k_ ≠ (v4_ : Value).ownBlock ∧ some k_ ≠ (v8_ : Value).ownBlock) v7_ r8 ∧ Kd.R (Kd.int .i64) 3 w' w.heap.size (fun k_ => some k_ ≠ (v4_ : Value).ownBlock ∧ some k_ ≠ (v7_ : Value).ownBlock) v8_ r9 ∧ Below w.heap.size w w' := by
 have hu34 := Try.underlying34
 have HR0_0 := Aside0.mk hr0_0
 have HC0_0 := Aside0.mk hc0_0
 clear hr0_0 hc0_0
 have HR0_4 := Aside0.mk hr0_4
 have HC0_4 := Aside0.mk hc0_4
 clear hr0_4 hc0_4
 have HR0_6 := Aside0.mk hr0_6
 have HC0_6 := Aside0.mk hc0_6
 clear hr0_6 hc0_6
 have HR0_7 := Aside0.mk hr0_7
 have HC0_7 := Aside0.mk hc0_7
 clear hr0_7 hc0_7
 have HR0_8 := Aside0.mk hr0_8
 have HC0_8 := Aside0.mk hc0_8
 clear hr0_8 hc0_8
 have HB := Aside0.mk (Below.refl w.heap.size w)
 have H : ((some (([] : List (S87)) : List (S87))).bind fun y182 => (if y182.length + l0_0.length < 4398046511104 then ((some (([] : List Int) : List Int)).bind fun y188 => (if y188.length + l0_4.length < 17592186044416 then ((some (([] : List (S75)) : List (S75))).bind fun y194 => (if y194.length + l0_6.length < 3518437208883 then ((some (([] : List Int) : List Int)).bind fun y200 => (if y200.length + l0_7.length < 17592186044416 then ((some (([] : List Int) : List Int)).bind fun y206 => (if y206.length + l0_8.length < 17592186044416 then (some ((y182 ++ l0_0), a0_1, a0_2, a0_3, (y188 ++ l0_4), a0_5, (y194 ++ l0_6), (y200 ++ l0_7), (y206 ++ l0_8))) else (none))) else (none))) else (none))) else (none))) else (none))) = some (r1, r2, r3, r4, r5, r6, r7, r8, r9) := h
 clear h
 obtain ⟨y182, hy182⟩ : ∃ y_ : List (S87), y_ = (([] : List (S87))) := ⟨_, rfl⟩
 replace H : (if y182.length + l0_0.length < 4398046511104 then ((some (([] : List Int) : List Int)).bind fun y188 => (if y188.length + l0_4.length < 17592186044416 then ((some (([] : List (S75)) : List (S75))).bind fun y194 => (if y194.length + l0_6.length < 3518437208883 then ((some (([] : List Int) : List Int)).bind fun y200 => (if y200.length + l0_7.length < 17592186044416 then ((some (([] : List Int) : List Int)).bind fun y206 => (if y206.length + l0_8.length < 17592186044416 then (some ((y182 ++ l0_0), a0_1, a0_2, a0_3, (y188 ++ l0_4), a0_5, (y194 ++ l0_6), (y200 ++ l0_7), (y206 ++ l0_8))) else (none))) else (none))) else (none))) else (none))) else (none)) = some (r1, r2, r3, r4, r5, r6, r7, r8, r9) := by first | (rw [hy182]; with_reducible exact H) | (have H2_ := (Option.bind_some _ _).symm.trans H; rw [hy182]; with_reducible exact H2_) | (have H2_ := (Option.bind_some _ _).symm.trans H; with_reducible exact H2_) | with_reducible exact H | (rw [hy182]; exact H) | exact H
 have Ny182 := Aside0.mk hy182
 clear hy182
 by_cases c2 : y182.length + l0_0.length < 4398046511104
 ·rw [if_pos c2] at H
  have LMc2 := Aside0.mk c2
  clear c2
  obtain ⟨y185, hy185⟩ : ∃ y_ : List (S87), y_ = (y182 ++ l0_0) := ⟨_, rfl⟩
  replace H : ((some (([] : List Int) : List Int)).bind fun y188 => (if y188.length + l0_4.length < 17592186044416 then ((some (([] : List (S75)) : List (S75))).bind fun y194 => (if y194.length + l0_6.length < 3518437208883 then ((some (([] : List Int) : List Int)).bind fun y200 => (if y200.length + l0_7.length < 17592186044416 then ((some (([] : List Int) : List Int)).bind fun y206 => (if y206.length + l0_8.length < 17592186044416 then (some (y185, a0_1, a0_2, a0_3, (y188 ++ l0_4), a0_5, (y194 ++ l0_6), (y200 ++ l0_7), (y206 ++ l0_8))) else (none))) else (none))) else (none))) else (none))) = some (r1, r2, r3, r4, r5, r6, r7, r8, r9) := by first | (rw [hy185]; with_reducible exact H) | (have H2_ := (Option.bind_some _ _).symm.trans H; rw [hy185]; with_reducible exact H2_) | (have H2_ := (Option.bind_some _ _).symm.trans H; with_reducible exact H2_) | with_reducible exact H | (rw [hy185]; exact H) | exact H
  have Ny185 := Aside0.mk hy185
  clear hy185
  obtain ⟨y188, hy188⟩ : ∃ y_ : List Int, y_ = (([] : List Int)) := ⟨_, rfl⟩
  replace H : (if y188.length + l0_4.length < 17592186044416 then ((some (([] : List (S75)) : List (S75))).bind fun y194 => (if y194.length + l0_6.length < 3518437208883 then ((some (([] : List Int) : List Int)).bind fun y200 => (if y200.length + l0_7.length < 17592186044416 then ((some (([] : List Int) : List Int)).bind fun y206 => (if y206.length + l0_8.length < 17592186044416 then (some (y185, a0_1, a0_2, a0_3, (y188 ++ l0_4), a0_5, (y194 ++ l0_6), (y200 ++ l0_7), (y206 ++ l0_8))) else (none))) else (none))) else (none))) else (none)) = some (r1, r2, r3, r4, r5, r6, r7, r8, r9) := by first | (rw [hy188]; with_reducible exact H) | (have H2_ := (Option.bind_some _ _).symm.trans H; rw [hy188]; with_reducible exact H2_) | (have H2_ := (Option.bind_some _ _).symm.trans H; with_reducible exact H2_) | with_reducible exact H | (rw [hy188]; exact H) | exact H
  have Ny188 := Aside0.mk hy188
  clear hy188
  by_cases c3 : y188.length + l0_4.length < 17592186044416
  ·rw [if_pos c3] at H
   have LMc3 := Aside0.mk c3
   clear c3
   obtain ⟨y191, hy191⟩ : ∃ y_ : List Int, y_ = (y188 ++ l0_4) := ⟨_, rfl⟩
   replace H : ((some (([] : List (S75)) : List (S75))).bind fun y194 => (if y194.length + l0_6.length < 3518437208883 then ((some (([] : List Int) : List Int)).bind fun y200 => (if y200.length + l0_7.length < 17592186044416 then ((some (([] : List Int) : List Int)).bind fun y206 => (if y206.length + l0_8.length < 17592186044416 then (some (y185, a0_1, a0_2, a0_3, y191, a0_5, (y194 ++ l0_6), (y200 ++ l0_7), (y206 ++ l0_8))) else (none))) else (none))) else (none))) = some (r1, r2, r3, r4, r5, r6, r7, r8, r9) := by first | (rw [hy191]; with_reducible exact H) | (have H2_ := (Option.bind_some _ _).symm.trans H; rw [hy191]; with_reducible exact H2_) | (have H2_ := (Option.bind_some _ _).symm.trans H; with_reducible exact H2_) | with_reducible exact H | (rw [hy191]; exact H) | exact H
   have Ny191 := Aside0.mk hy191
   clear hy191
   obtain ⟨y194, hy194⟩ : ∃ y_ : List (S75), y_ = (([] : List (S75))) := ⟨_, rfl⟩
   replace H : (if y194.length + l0_6.length < 3518437208883 then ((some (([] : List Int) : List Int)).bind fun y200 => (if y200.length + l0_7.length < 17592186044416 then ((some (([] : List Int) : List Int)).bind fun y206 => (if y206.length + l0_8.length < 17592186044416 then (some (y185, a0_1, a0_2, a0_3, y191, a0_5, (y194 ++ l0_6), (y200 ++ l0_7), (y206 ++ l0_8))) else (none))) else (none))) else (none)) = some (r1, r2, r3, r4, r5, r6, r7, r8, r9) := by first | (rw [hy194]; with_reducible exact H) | (have H2_ := (Option.bind_some _ _).symm.trans H; rw [hy194]; with_reducible exact H2_) | (have H2_ := (Option.bind_some _ _).symm.trans H; with_reducible exact H2_) | with_reducible exact H | (rw [hy194]; exact H) | exact H
   have Ny194 := Aside0.mk hy194
   clear hy194
   by_cases c4 : y194.length + l0_6.length < 3518437208883
   ·rw [if_pos c4] at H
    have LMc4 := Aside0.mk c4
    clear c4
    obtain ⟨y197, hy197⟩ : ∃ y_ : List (S75), y_ = (y194 ++ l0_6) := ⟨_, rfl⟩
    replace H : ((some (([] : List Int) : List Int)).bind fun y200 => (if y200.length + l0_7.length < 17592186044416 then ((some (([] : List Int) : List Int)).bind fun y206 => (if y206.length + l0_8.length < 17592186044416 then (some (y185, a0_1, a0_2, a0_3, y191, a0_5, y197, (y200 ++ l0_7), (y206 ++ l0_8))) else (none))) else (none))) = some (r1, r2, r3, r4, r5, r6, r7, r8, r9) := by first | (rw [hy197]; with_reducible exact H) | (have H2_ := (Option.bind_some _ _).symm.trans H; rw [hy197]; with_reducible exact H2_) | (have H2_ := (Option.bind_some _ _).symm.trans H; with_reducible exact H2_) | with_reducible exact H | (rw [hy197]; exact H) | exact H
    have Ny197 := Aside0.mk hy197
    clear hy197
    obtain ⟨y200, hy200⟩ : ∃ y_ : List Int, y_ = (([] : List Int)) := ⟨_, rfl⟩
    replace H : (if y200.length + l0_7.length < 17592186044416 then ((some (([] : List Int) : List Int)).bind fun y206 => (if y206.length + l0_8.length < 17592186044416 then (some (y185, a0_1, a0_2, a0_3, y191, a0_5, y197, (y200 ++ l0_7), (y206 ++ l0_8))) else (none))) else (none)) = some (r1, r2, r3, r4, r5, r6, r7, r8, r9) := by first | (rw [hy200]; with_reducible exact H) | (have H2_ := (Option.bind_some _ _).symm.trans H; rw [hy200]; with_reducible exact H2_) | (have H2_ := (Option.bind_some _ _).symm.trans H; with_reducible exact H2_) | with_reducible exact H | (rw [hy200]; exact H) | exact H
    have Ny200 := Aside0.mk hy200
    clear hy200
    by_cases c5 : y200.length + l0_7.length < 17592186044416
    ·rw [if_pos c5] at H
     have LMc5 := Aside0.mk c5
     clear c5
     obtain ⟨y203, hy203⟩ : ∃ y_ : List Int, y_ = (y200 ++ l0_7) := ⟨_, rfl⟩
     replace H : ((some (([] : List Int) : List Int)).bind fun y206 => (if y206.length + l0_8.length < 17592186044416 then (some (y185, a0_1, a0_2, a0_3, y191, a0_5, y197, y203, (y206 ++ l0_8))) else (none))) = some (r1, r2, r3, r4, r5, r6, r7, r8, r9) := by first | (rw [hy203]; with_reducible exact H) | (have H2_ := (Option.bind_some _ _).symm.trans H; rw [hy203]; with_reducible exact H2_) | (have H2_ := (Option.bind_some _ _).symm.trans H; with_reducible exact H2_) | with_reducible exact H | (rw [hy203]; exact H) | exact H
     have Ny203 := Aside0.mk hy203
     clear hy203
     obtain ⟨y206, hy206⟩ : ∃ y_ : List Int, y_ = (([] : List Int)) := ⟨_, rfl⟩
     replace H : (if y206.length + l0_8.length < 17592186044416 then (some (y185, a0_1, a0_2, a0_3, y191, a0_5, y197, y203, (y206 ++ l0_8))) else (none)) = some (r1, r2, r3, r4, r5, r6, r7, r8, r9) := by first | (rw [hy206]; with_reducible exact H) | (have H2_ := (Option.bind_some _ _).symm.trans H; rw [hy206]; with_reducible exact H2_) | (have H2_ := (Option.bind_some _ _).symm.trans H; with_reducible exact H2_) | with_reducible exact H | (rw [hy206]; exact H) | exact H
     have Ny206 := Aside0.mk hy206
     clear hy206
     by_cases c6 : y206.length + l0_8.length < 17592186044416
     ·rw [if_pos c6] at H
      have LMc6 := Aside0.mk c6
      clear c6
      obtain ⟨y209, hy209⟩ : ∃ y_ : List Int, y_ = (y206 ++ l0_8) := ⟨_, rfl⟩
      replace H : (some (y185, a0_1, a0_2, a0_3, y191, a0_5, y197, y203, y209)) = some (r1, r2, r3, r4, r5, r6, r7, r8, r9) := by first | (rw [hy209]; with_reducible exact H) | (have H2_ := (Option.bind_some _ _).symm.trans H; rw [hy209]; with_reducible exact H2_) | (have H2_ := (Option.bind_some _ _).symm.trans H; with_reducible exact H2_) | with_reducible exact H | (rw [hy209]; exact H) | exact H
      have Ny209 := Aside0.mk hy209
      clear hy209
      simp only [Option.some.injEq, Prod.mk.injEq] at H
      obtain ⟨rfl, rfl, rfl, rfl, rfl, rfl, rfl, rfl, rfl⟩ := H
      go_enter Try.func49, Try.ntmps49
      go_wp2_with (first | ((with_reducible refine gate_dst (N := 1) rfl ?_); refine bx (N := 1) (cs := #[.slice A0_0 l0_0.length c0_0, .int .i64 a0_1, .int .i64 a0_2, .int .i64 a0_3, .slice A0_4 l0_4.length c0_4, .bool a0_5, .slice A0_6 l0_6.length c0_6, .slice A0_7 l0_7.length c0_7, .slice A0_8 l0_8.length c0_8]) (t := 34) ?_; intro gb180 hg w7 hbox hb; have BK180 := Aside0.mk (hbox); have GW180 := gs hg HB; have GE180 := gs hg HB; replace HB := hs_ HB hb; clear hb hbox hg) | ((with_reducible refine gate_dst (N := 2) rfl ?_); refine bx (N := 2) (cs := #[.slice none 0 0, .int .i64 0, .int .i64 0, .int .i64 0, .slice none 0 0, .bool false, .slice none 0 0, .slice none 0 0, .slice none 0 0]) (t := 34) ?_; intro gb181 hg w8 hbox hb; have BK181 := Aside0.mk (hbox); have GW181 := gs hg HB; have GE181 := gs hg HB; replace HB := hs_ HB hb; have NB180_181 := gn hg BK180; have NB181_180 := gm hg BK180; replace BK180 := kb BK180 hb; clear hb hbox hg) | ((with_reducible refine gate_dst (N := 3) rfl ?_); refine Kd.R_lit k87 _ 87 ?hg (N := 3) ?hd (xs := ([] : List (S87))) (inner := []) (ok := fun _ => True) (okp := fun _ => True) ?hr ?hp (fun _ hk => hk) trivial (Below.refl _ _) (Nat.le_refl _) (by simp) ?_; (case hd => rfl); (case hg => rfl); (case hr => first | (go_simp; done) | (go_simp; rfl)); (case hp => exact (Reps.none _ _)); intro v183 w9 ho10 hb hg_ hnew_; clear hg_ hnew_; (first | rw [← Ny182.out] at ho10 | (simp only [Int.reduceToNat] at ho10; rw [← Ny182.out] at ho10)); have HO184 := kl ho10 HB; replace BK180 := kb BK180 hb; replace BK181 := kb BK181 hb; replace HB := hs_ HB hb; clear hb ho10; have hnb11 := NB180_181.out; have hnc11 := NB181_180.out; have ⟨hcz12_0, hcz12_1, hcz12_2, hcz12_3, hcz12_4, hcz12_5, hcz12_6, hcz12_7, hcz12_8, hfz12_0, hfz12_1, hfz12_2, hfz12_3, hfz12_4, hfz12_5, hfz12_6, hfz12_7, hfz12_8⟩ := rz9 BK180) | ((with_reducible refine gate_builtin (b := .append) (xs := #[.tmp 3, .tmp 5]) rfl ?_); at_builtin; refine Kd.R_append_rows k87 (w0 := w) w.heap.size rfl (.tmp 3) (.tmp 5) 30 87 (.agg #[(.string ⟨#[]⟩), (.int .i64 0), (.int .i64 0)]) 32 rfl Try.underlying30 info87 rfl (by decide) (by omega) v183 y182 l0_0 _ _ _ (fun _ => True) (fun _ => False) rfl rfl ?aO ?aR (fun _ _ h => h) (fun _ h => h.elim) ?aF ?aB ?aS ?aL ?_; (case aR => exact cc HR0_0 HB); (case aB => exact (bb HB)); (case aF => exact (fun _ _ => trivial)); (case aO => exact (rr HO184)); (case aS => exact (below_size (bb HB))); (case aL => have := LMc2.out; omega); intro v186 w13 ho hb hg hat; rw [← Ny185.out] at ho; replace BK180 := Aside0.mk (blk_grown (g := gb180) (o := .cells #[.slice A0_0 l0_0.length c0_0, .int .i64 a0_1, .int .i64 a0_2, .int .i64 a0_3, .slice A0_4 l0_4.length c0_4, .bool a0_5, .slice A0_6 l0_6.length c0_6, .slice A0_7 l0_7.length c0_7, .slice A0_8 l0_8.length c0_8] 34 (0, 0)) (bk BK180) hg (Kd.R_ne HO184.out BK180.out (by decide))); replace BK181 := Aside0.mk (blk_grown (g := gb181) (o := .cells #[.slice none 0 0, .int .i64 0, .int .i64 0, .int .i64 0, .slice none 0 0, .bool false, .slice none 0 0, .slice none 0 0, .slice none 0 0] 34 (0, 0)) (bk BK181) hg (Kd.R_ne HO184.out BK181.out (by decide))); replace HB := Aside0.mk (hb); have HO187 := Aside0.mk (ho); clear HO184 ho hb hg hat; obtain ⟨Ao14, co14, eo14⟩ := Kd.R_slice HO187.out; subst eo14; have ⟨hcz15_0, hcz15_1, hcz15_2, hcz15_3, hcz15_4, hcz15_5, hcz15_6, hcz15_7, hcz15_8, hfz15_0, hfz15_1, hfz15_2, hfz15_3, hfz15_4, hfz15_5, hfz15_6, hfz15_7, hfz15_8⟩ := rz9 BK180) | ((with_reducible refine gate_dst (N := 8) rfl ?_); refine Kd.R_lit (Kd.int .i64) _ 3 ?hg (N := 8) ?hd (xs := ([] : List Int)) (inner := []) (ok := fun _ => True) (okp := fun _ => True) ?hr ?hp (fun _ hk => hk) trivial (Below.refl _ _) (Nat.le_refl _) (by simp) ?_; (case hd => rfl); (case hg => rfl); (case hr => first | (go_simp; done) | (go_simp; rfl)); (case hp => exact (Reps.none _ _)); intro v189 w16 ho17 hb hg_ hnew_; clear hg_ hnew_; (first | rw [← Ny188.out] at ho17 | (simp only [Int.reduceToNat] at ho17; rw [← Ny188.out] at ho17)); replace HO187 := kf HO187 BK180 hb; have HO190 := kl ho17 HB; replace BK180 := Aside0.mk (blk_below (g := gb180) (o := .cells #[.slice Ao14 y185.length co14, .int .i64 a0_1, .int .i64 a0_2, .int .i64 a0_3, .slice A0_4 l0_4.length c0_4, .bool a0_5, .slice A0_6 l0_6.length c0_6, .slice A0_7 l0_7.length c0_7, .slice A0_8 l0_8.length c0_8] 34 (0, 0)) (by (with_reducible repeat (first | refine blk_drewN ?_ _ | refine blk_drew ?_ | refine blk_alloc ?_ _)); refine blk_put (cs := #[.slice A0_0 l0_0.length c0_0, .int .i64 a0_1, .int .i64 a0_2, .int .i64 a0_3, .slice A0_4 l0_4.length c0_4, .bool a0_5, .slice A0_6 l0_6.length c0_6, .slice A0_7 l0_7.length c0_7, .slice A0_8 l0_8.length c0_8]) ?_ 0 _ rfl; (with_reducible repeat (first | refine blk_drewN ?_ _ | refine blk_drew ?_ | refine blk_alloc ?_ _)); exact BK180.out) hb); replace BK181 := Aside0.mk (blk_below (g := gb181) (o := .cells #[.slice none 0 0, .int .i64 0, .int .i64 0, .int .i64 0, .slice none 0 0, .bool false, .slice none 0 0, .slice none 0 0, .slice none 0 0] 34 (0, 0)) (by (with_reducible repeat (first | refine blk_drewN ?_ _ | refine blk_drew ?_ | refine blk_alloc ?_ _)); refine blk_far ?_ NB181_180.out _; (with_reducible repeat (first | refine blk_drewN ?_ _ | refine blk_drew ?_ | refine blk_alloc ?_ _)); exact BK181.out) hb); replace HB := hs_ HB hb; clear hb ho17; have ⟨hcz18_0, hcz18_1, hcz18_2, hcz18_3, hcz18_4, hcz18_5, hcz18_6, hcz18_7, hcz18_8, hfz18_0, hfz18_1, hfz18_2, hfz18_3, hfz18_4, hfz18_5, hfz18_6, hfz18_7, hfz18_8⟩ := rz9 BK180) | ((with_reducible refine gate_builtin (b := .append) (xs := #[.tmp 8, .tmp 11]) rfl ?_); at_builtin; refine Kd.R_append_rows (Kd.int .i64) (w0 := w) w.heap.size rfl (.tmp 8) (.tmp 11) 23 3 (.int .i64 0) 8 rfl Try.underlying23 info3 rfl (by decide) (by omega) v189 y188 l0_4 _ _ _ (fun _ => True) (fun _ => False) rfl rfl ?aO ?aR (fun _ _ h => h) (fun _ h => h.elim) ?aF ?aB ?aS ?aL ?_; (case aR => exact cc HR0_4 HB); (case aB => exact (bb HB)); (case aF => exact (fun _ _ => trivial)); (case aO => exact (rr HO190)); (case aS => exact (below_size (bb HB))); (case aL => have := LMc3.out; omega); intro v192 w19 ho hb hg hat; rw [← Ny191.out] at ho; replace BK180 := Aside0.mk (blk_grown (g := gb180) (o := .cells #[.slice Ao14 y185.length co14, .int .i64 a0_1, .int .i64 a0_2, .int .i64 a0_3, .slice A0_4 l0_4.length c0_4, .bool a0_5, .slice A0_6 l0_6.length c0_6, .slice A0_7 l0_7.length c0_7, .slice A0_8 l0_8.length c0_8] 34 (0, 0)) (bk BK180) hg (Kd.R_ne HO190.out BK180.out (by decide))); replace BK181 := Aside0.mk (blk_grown (g := gb181) (o := .cells #[.slice none 0 0, .int .i64 0, .int .i64 0, .int .i64 0, .slice none 0 0, .bool false, .slice none 0 0, .slice none 0 0, .slice none 0 0] 34 (0, 0)) (bk BK181) hg (Kd.R_ne HO190.out BK181.out (by decide))); replace HO187 := Aside0.mk (Kd.R_over' (rr HO187) (Kd.R_typed (rr HO190)) (by decide) hg); replace HB := Aside0.mk (hb); have HO193 := Aside0.mk (ho); clear HO190 ho hb hg hat; obtain ⟨Ao20, co20, eo20⟩ := Kd.R_slice HO193.out; subst eo20; have ⟨hcz21_0, hcz21_1, hcz21_2, hcz21_3, hcz21_4, hcz21_5, hcz21_6, hcz21_7, hcz21_8, hfz21_0, hfz21_1, hfz21_2, hfz21_3, hfz21_4, hfz21_5, hfz21_6, hfz21_7, hfz21_8⟩ := rz9 BK180) | ((with_reducible refine gate_dst (N := 15) rfl ?_); refine Kd.R_lit k75 _ 75 ?hg (N := 15) ?hd (xs := ([] : List (S75))) (inner := []) (ok := fun _ => True) (okp := fun _ => True) ?hr ?hp (fun _ hk => hk) trivial (Below.refl _ _) (Nat.le_refl _) (by simp) ?_; (case hd => rfl); (case hg => rfl); (case hr => first | (go_simp; done) | (go_simp; rfl)); (case hp => exact (Reps.none _ _)); intro v195 w22 ho23 hb hg_ hnew_; clear hg_ hnew_; (first | rw [← Ny194.out] at ho23 | (simp only [Int.reduceToNat] at ho23; rw [← Ny194.out] at ho23)); replace HO187 := kf HO187 BK180 hb; replace HO193 := kf HO193 BK180 hb; have HO196 := kl ho23 HB; replace BK180 := Aside0.mk (blk_below (g := gb180) (o := .cells #[.slice Ao14 y185.length co14, .int .i64 a0_1, .int .i64 a0_2, .int .i64 a0_3, .slice Ao20 y191.length co20, .bool a0_5, .slice A0_6 l0_6.length c0_6, .slice A0_7 l0_7.length c0_7, .slice A0_8 l0_8.length c0_8] 34 (0, 0)) (by (with_reducible repeat (first | refine blk_drewN ?_ _ | refine blk_drew ?_ | refine blk_alloc ?_ _)); refine blk_put (cs := #[.slice Ao14 y185.length co14, .int .i64 a0_1, .int .i64 a0_2, .int .i64 a0_3, .slice A0_4 l0_4.length c0_4, .bool a0_5, .slice A0_6 l0_6.length c0_6, .slice A0_7 l0_7.length c0_7, .slice A0_8 l0_8.length c0_8]) ?_ 4 _ rfl; (with_reducible repeat (first | refine blk_drewN ?_ _ | refine blk_drew ?_ | refine blk_alloc ?_ _)); exact BK180.out) hb); replace BK181 := Aside0.mk (blk_below (g := gb181) (o := .cells #[.slice none 0 0, .int .i64 0, .int .i64 0, .int .i64 0, .slice none 0 0, .bool false, .slice none 0 0, .slice none 0 0, .slice none 0 0] 34 (0, 0)) (by (with_reducible repeat (first | refine blk_drewN ?_ _ | refine blk_drew ?_ | refine blk_alloc ?_ _)); refine blk_far ?_ NB181_180.out _; (with_reducible repeat (first | refine blk_drewN ?_ _ | refine blk_drew ?_ | refine blk_alloc ?_ _)); exact BK181.out) hb); replace HB := hs_ HB hb; clear hb ho23; have ⟨hcz24_0, hcz24_1, hcz24_2, hcz24_3, hcz24_4, hcz24_5, hcz24_6, hcz24_7, hcz24_8, hfz24_0, hfz24_1, hfz24_2, hfz24_3, hfz24_4, hfz24_5, hfz24_6, hfz24_7, hfz24_8⟩ := rz9 BK180) | ((with_reducible refine gate_builtin (b := .append) (xs := #[.tmp 15, .tmp 17]) rfl ?_); at_builtin; refine Kd.R_append_rows k75 (w0 := w) w.heap.size rfl (.tmp 15) (.tmp 17) 32 75 (.agg #[(.int .i64 0), (.int .i64 0), (.int .i64 0), (.int .i64 0), (.int .i64 0)]) 40 rfl Try.underlying32 info75 rfl (by decide) (by omega) v195 y194 l0_6 _ _ _ (fun _ => True) (fun _ => False) rfl rfl ?aO ?aR (fun _ _ h => h) (fun _ h => h.elim) ?aF ?aB ?aS ?aL ?_; (case aR => exact cc HR0_6 HB); (case aB => exact (bb HB)); (case aF => exact (fun _ _ => trivial)); (case aO => exact (rr HO196)); (case aS => exact (below_size (bb HB))); (case aL => have := LMc4.out; omega); intro v198 w25 ho hb hg hat; rw [← Ny197.out] at ho; replace BK180 := Aside0.mk (blk_grown (g := gb180) (o := .cells #[.slice Ao14 y185.length co14, .int .i64 a0_1, .int .i64 a0_2, .int .i64 a0_3, .slice Ao20 y191.length co20, .bool a0_5, .slice A0_6 l0_6.length c0_6, .slice A0_7 l0_7.length c0_7, .slice A0_8 l0_8.length c0_8] 34 (0, 0)) (bk BK180) hg (Kd.R_ne HO196.out BK180.out (by decide))); replace BK181 := Aside0.mk (blk_grown (g := gb181) (o := .cells #[.slice none 0 0, .int .i64 0, .int .i64 0, .int .i64 0, .slice none 0 0, .bool false, .slice none 0 0, .slice none 0 0, .slice none 0 0] 34 (0, 0)) (bk BK181) hg (Kd.R_ne HO196.out BK181.out (by decide))); replace HO187 := Aside0.mk (Kd.R_over' (rr HO187) (Kd.R_typed (rr HO196)) (by decide) hg); replace HO193 := Aside0.mk (Kd.R_over' (rr HO193) (Kd.R_typed (rr HO196)) (by decide) hg); replace HB := Aside0.mk (hb); have HO199 := Aside0.mk (ho); clear HO196 ho hb hg hat; obtain ⟨Ao26, co26, eo26⟩ := Kd.R_slice HO199.out; subst eo26; have ⟨hcz27_0, hcz27_1, hcz27_2, hcz27_3, hcz27_4, hcz27_5, hcz27_6, hcz27_7, hcz27_8, hfz27_0, hfz27_1, hfz27_2, hfz27_3, hfz27_4, hfz27_5, hfz27_6, hfz27_7, hfz27_8⟩ := rz9 BK180) | ((with_reducible refine gate_dst (N := 20) rfl ?_); refine Kd.R_lit (Kd.int .i64) _ 3 ?hg (N := 20) ?hd (xs := ([] : List Int)) (inner := []) (ok := fun _ => True) (okp := fun _ => True) ?hr ?hp (fun _ hk => hk) trivial (Below.refl _ _) (Nat.le_refl _) (by simp) ?_; (case hd => rfl); (case hg => rfl); (case hr => first | (go_simp; done) | (go_simp; rfl)); (case hp => exact (Reps.none _ _)); intro v201 w28 ho29 hb hg_ hnew_; clear hg_ hnew_; (first | rw [← Ny200.out] at ho29 | (simp only [Int.reduceToNat] at ho29; rw [← Ny200.out] at ho29)); replace HO187 := kf HO187 BK180 hb; replace HO199 := kf HO199 BK180 hb; have HO202 := Aside0.mk (Kd.R_lower (Kd.R_new' ho29 (Kd.R_lt (rf HO193 BK180 (fun _ h_ => h_.1)))) (below_size (bb HB))); replace HO193 := Aside0.mk (Kd.R_elder' (rf HO193 BK180 (fun _ h_ => h_.1)) (Kd.R_base ho29) hb); replace BK180 := Aside0.mk (blk_below (g := gb180) (o := .cells #[.slice Ao14 y185.length co14, .int .i64 a0_1, .int .i64 a0_2, .int .i64 a0_3, .slice Ao20 y191.length co20, .bool a0_5, .slice Ao26 y197.length co26, .slice A0_7 l0_7.length c0_7, .slice A0_8 l0_8.length c0_8] 34 (0, 0)) (by (with_reducible repeat (first | refine blk_drewN ?_ _ | refine blk_drew ?_ | refine blk_alloc ?_ _)); refine blk_put (cs := #[.slice Ao14 y185.length co14, .int .i64 a0_1, .int .i64 a0_2, .int .i64 a0_3, .slice Ao20 y191.length co20, .bool a0_5, .slice A0_6 l0_6.length c0_6, .slice A0_7 l0_7.length c0_7, .slice A0_8 l0_8.length c0_8]) ?_ 6 _ rfl; (with_reducible repeat (first | refine blk_drewN ?_ _ | refine blk_drew ?_ | refine blk_alloc ?_ _)); exact BK180.out) hb); replace BK181 := Aside0.mk (blk_below (g := gb181) (o := .cells #[.slice none 0 0, .int .i64 0, .int .i64 0, .int .i64 0, .slice none 0 0, .bool false, .slice none 0 0, .slice none 0 0, .slice none 0 0] 34 (0, 0)) (by (with_reducible repeat (first | refine blk_drewN ?_ _ | refine blk_drew ?_ | refine blk_alloc ?_ _)); refine blk_far ?_ NB181_180.out _; (with_reducible repeat (first | refine blk_drewN ?_ _ | refine blk_drew ?_ | refine blk_alloc ?_ _)); exact BK181.out) hb); replace HB := hs_ HB hb; clear hb ho29; have ⟨hcz30_0, hcz30_1, hcz30_2, hcz30_3, hcz30_4, hcz30_5, hcz30_6, hcz30_7, hcz30_8, hfz30_0, hfz30_1, hfz30_2, hfz30_3, hfz30_4, hfz30_5, hfz30_6, hfz30_7, hfz30_8⟩ := rz9 BK180) | ((with_reducible refine gate_builtin (b := .append) (xs := #[.tmp 20, .tmp 22]) rfl ?_); at_builtin; refine Kd.R_append_rows (Kd.int .i64) (w0 := w) w.heap.size rfl (.tmp 20) (.tmp 22) 23 3 (.int .i64 0) 8 rfl Try.underlying23 info3 rfl (by decide) (by omega) v201 y200 l0_7 _ _ _ (fun k_ => nb k_ Ao20 y191.length co20) (fun _ => False) rfl rfl ?aO ?aR (fun _ _ h => h) (fun _ h => h.elim) ?aF ?aB ?aS ?aL ?_; (case aR => exact cc HR0_7 HB); (case aB => exact (bb HB)); (case aF => exact (fun k_ hk => Kd.fresh' (Kd.R_lt (rr HO193)) k_ hk)); (case aO => exact (ro HO202 (fun _ hk => hk.2))); (case aS => exact (below_size (bb HB))); (case aL => have := LMc5.out; omega); intro v204 w31 ho hb hg hat; rw [← Ny203.out] at ho; replace BK180 := Aside0.mk (blk_grown (g := gb180) (o := .cells #[.slice Ao14 y185.length co14, .int .i64 a0_1, .int .i64 a0_2, .int .i64 a0_3, .slice Ao20 y191.length co20, .bool a0_5, .slice Ao26 y197.length co26, .slice A0_7 l0_7.length c0_7, .slice A0_8 l0_8.length c0_8] 34 (0, 0)) (bk BK180) hg (Kd.R_ne HO202.out BK180.out (by decide))); replace BK181 := Aside0.mk (blk_grown (g := gb181) (o := .cells #[.slice none 0 0, .int .i64 0, .int .i64 0, .int .i64 0, .slice none 0 0, .bool false, .slice none 0 0, .slice none 0 0, .slice none 0 0] 34 (0, 0)) (bk BK181) hg (Kd.R_ne HO202.out BK181.out (by decide))); replace HO187 := Aside0.mk (Kd.R_over' (rr HO187) (Kd.R_typed (rr HO202)) (by decide) hg); replace HO193 := Aside0.mk (Kd.R_after (ok := (fun _ => True)) (rr HO193) hg hat); replace HO199 := Aside0.mk (Kd.R_over' (rr HO199) (Kd.R_typed (rr HO202)) (by decide) hg); replace HB := Aside0.mk (hb); have HO205 := Aside0.mk (ho); clear HO202 ho hb hg hat; obtain ⟨Ao32, co32, eo32⟩ := Kd.R_slice HO205.out; subst eo32; have ⟨hcz33_0, hcz33_1, hcz33_2, hcz33_3, hcz33_4, hcz33_5, hcz33_6, hcz33_7, hcz33_8, hfz33_0, hfz33_1, hfz33_2, hfz33_3, hfz33_4, hfz33_5, hfz33_6, hfz33_7, hfz33_8⟩ := rz9 BK180) | ((with_reducible refine gate_dst (N := 25) rfl ?_); refine Kd.R_lit (Kd.int .i64) _ 3 ?hg (N := 25) ?hd (xs := ([] : List Int)) (inner := []) (ok := fun _ => True) (okp := fun _ => True) ?hr ?hp (fun _ hk => hk) trivial (Below.refl _ _) (Nat.le_refl _) (by simp) ?_; (case hd => rfl); (case hg => rfl); (case hr => first | (go_simp; done) | (go_simp; rfl)); (case hp => exact (Reps.none _ _)); intro v207 w34 ho35 hb hg_ hnew_; clear hg_ hnew_; (first | rw [← Ny206.out] at ho35 | (simp only [Int.reduceToNat] at ho35; rw [← Ny206.out] at ho35)); replace HO187 := kf HO187 BK180 hb; replace HO199 := kf HO199 BK180 hb; have HO208 := Aside0.mk (Kd.R_lower (Kd.R_new' (Kd.R_new' ho35 (Kd.R_lt (rf HO193 BK180 (fun _ h_ => h_.1)))) (Kd.R_lt (rf HO205 BK180 (fun _ h_ => h_.1)))) (below_size (bb HB))); replace HO193 := Aside0.mk (Kd.R_elder' (rf HO193 BK180 (fun _ h_ => h_.1)) (Kd.R_base ho35) hb); replace HO205 := Aside0.mk (Kd.R_elder' (rf HO205 BK180 (fun _ h_ => h_.1)) (Kd.R_base ho35) hb); replace BK180 := Aside0.mk (blk_below (g := gb180) (o := .cells #[.slice Ao14 y185.length co14, .int .i64 a0_1, .int .i64 a0_2, .int .i64 a0_3, .slice Ao20 y191.length co20, .bool a0_5, .slice Ao26 y197.length co26, .slice Ao32 y203.length co32, .slice A0_8 l0_8.length c0_8] 34 (0, 0)) (by (with_reducible repeat (first | refine blk_drewN ?_ _ | refine blk_drew ?_ | refine blk_alloc ?_ _)); refine blk_put (cs := #[.slice Ao14 y185.length co14, .int .i64 a0_1, .int .i64 a0_2, .int .i64 a0_3, .slice Ao20 y191.length co20, .bool a0_5, .slice Ao26 y197.length co26, .slice A0_7 l0_7.length c0_7, .slice A0_8 l0_8.length c0_8]) ?_ 7 _ rfl; (with_reducible repeat (first | refine blk_drewN ?_ _ | refine blk_drew ?_ | refine blk_alloc ?_ _)); exact BK180.out) hb); replace BK181 := Aside0.mk (blk_below (g := gb181) (o := .cells #[.slice none 0 0, .int .i64 0, .int .i64 0, .int .i64 0, .slice none 0 0, .bool false, .slice none 0 0, .slice none 0 0, .slice none 0 0] 34 (0, 0)) (by (with_reducible repeat (first | refine blk_drewN ?_ _ | refine blk_drew ?_ | refine blk_alloc ?_ _)); refine blk_far ?_ NB181_180.out _; (with_reducible repeat (first | refine blk_drewN ?_ _ | refine blk_drew ?_ | refine blk_alloc ?_ _)); exact BK181.out) hb); replace HB := hs_ HB hb; clear hb ho35; have ⟨hcz36_0, hcz36_1, hcz36_2, hcz36_3, hcz36_4, hcz36_5, hcz36_6, hcz36_7, hcz36_8, hfz36_0, hfz36_1, hfz36_2, hfz36_3, hfz36_4, hfz36_5, hfz36_6, hfz36_7, hfz36_8⟩ := rz9 BK180) | ((with_reducible refine gate_builtin (b := .append) (xs := #[.tmp 25, .tmp 27]) rfl ?_); at_builtin; refine Kd.R_append_rows (Kd.int .i64) (w0 := w) w.heap.size rfl (.tmp 25) (.tmp 27) 23 3 (.int .i64 0) 8 rfl Try.underlying23 info3 rfl (by decide) (by omega) v207 y206 l0_8 _ _ _ (fun k_ => nb k_ Ao20 y191.length co20 ∧ nb k_ Ao32 y203.length co32) (fun _ => False) rfl rfl ?aO ?aR (fun _ _ h => h) (fun _ h => h.elim) ?aF ?aB ?aS ?aL ?_; (case aR => exact cc HR0_8 HB); (case aB => exact (bb HB)); (case aF => exact (fun k_ hk => ⟨Kd.fresh' (Kd.R_lt (rr HO193)) k_ hk, Kd.fresh' (Kd.R_lt (rr HO205)) k_ hk⟩)); (case aO => exact (ro HO208 (fun _ hk => ⟨hk.1.2, hk.2⟩))); (case aS => exact (below_size (bb HB))); (case aL => have := LMc6.out; omega); intro v210 w37 ho hb hg hat; rw [← Ny209.out] at ho; replace BK180 := Aside0.mk (blk_grown (g := gb180) (o := .cells #[.slice Ao14 y185.length co14, .int .i64 a0_1, .int .i64 a0_2, .int .i64 a0_3, .slice Ao20 y191.length co20, .bool a0_5, .slice Ao26 y197.length co26, .slice Ao32 y203.length co32, .slice A0_8 l0_8.length c0_8] 34 (0, 0)) (bk BK180) hg (Kd.R_ne HO208.out BK180.out (by decide))); replace BK181 := Aside0.mk (blk_grown (g := gb181) (o := .cells #[.slice none 0 0, .int .i64 0, .int .i64 0, .int .i64 0, .slice none 0 0, .bool false, .slice none 0 0, .slice none 0 0, .slice none 0 0] 34 (0, 0)) (bk BK181) hg (Kd.R_ne HO208.out BK181.out (by decide))); replace HO187 := Aside0.mk (Kd.R_over' (rr HO187) (Kd.R_typed (rr HO208)) (by decide) hg); replace HO193 := Aside0.mk (Kd.R_after (ok := (fun k_ => nb k_ Ao32 y203.length co32)) (ro HO193 (fun _ hk => ⟨hk.1.2, hk.2⟩)) hg hat); replace HO199 := Aside0.mk (Kd.R_over' (rr HO199) (Kd.R_typed (rr HO208)) (by decide) hg); replace HO205 := Aside0.mk (Kd.R_after (ok := (fun k_ => nb k_ Ao20 y191.length co20)) (rr HO205) hg hat); replace HB := Aside0.mk (hb); have HO211 := Aside0.mk (ho); clear HO208 ho hb hg hat; obtain ⟨Ao38, co38, eo38⟩ := Kd.R_slice HO211.out; subst eo38; have ⟨hcz39_0, hcz39_1, hcz39_2, hcz39_3, hcz39_4, hcz39_5, hcz39_6, hcz39_7, hcz39_8, hfz39_0, hfz39_1, hfz39_2, hfz39_3, hfz39_4, hfz39_5, hfz39_6, hfz39_7, hfz39_8⟩ := rz9 BK180; have ⟨hcz40_0, hcz40_1, hcz40_2, hcz40_3, hcz40_4, hcz40_5, hcz40_6, hcz40_7, hcz40_8, hfz40_0, hfz40_1, hfz40_2, hfz40_3, hfz40_4, hfz40_5, hfz40_6, hfz40_7, hfz40_8⟩ := rz9 BK181))
      refine bodyPost_ret (results_cell_row rfl _ _ gb181 34 #[.slice Ao14 y185.length co14, .int .i64 a0_1, .int .i64 a0_2, .int .i64 a0_3, .slice Ao20 y191.length co20, .bool a0_5, .slice Ao26 y197.length co26, .slice Ao32 y203.length co32, .slice Ao38 y209.length co38] (0, 0) _ rfl (by (with_reducible repeat (first | refine blk_drewN ?_ _ | refine blk_drew ?_ | refine blk_alloc ?_ _)); refine blk_put (cs := #[.slice Ao14 y185.length co14, .int .i64 a0_1, .int .i64 a0_2, .int .i64 a0_3, .slice Ao20 y191.length co20, .bool a0_5, .slice Ao26 y197.length co26, .slice Ao32 y203.length co32, .slice none 0 0]) ?_ 8 _ rfl; (with_reducible repeat (first | refine blk_drewN ?_ _ | refine blk_drew ?_ | refine blk_alloc ?_ _)); refine blk_put (cs := #[.slice Ao14 y185.length co14, .int .i64 a0_1, .int .i64 a0_2, .int .i64 a0_3, .slice Ao20 y191.length co20, .bool a0_5, .slice Ao26 y197.length co26, .slice none 0 0, .slice none 0 0]) ?_ 7 _ rfl; (with_reducible repeat (first | refine blk_drewN ?_ _ | refine blk_drew ?_ | refine blk_alloc ?_ _)); refine blk_put (cs := #[.slice Ao14 y185.length co14, .int .i64 a0_1, .int .i64 a0_2, .int .i64 a0_3, .slice Ao20 y191.length co20, .bool a0_5, .slice none 0 0, .slice none 0 0, .slice none 0 0]) ?_ 6 _ rfl; (with_reducible repeat (first | refine blk_drewN ?_ _ | refine blk_drew ?_ | refine blk_alloc ?_ _)); refine blk_put (cs := #[.slice Ao14 y185.length co14, .int .i64 a0_1, .int .i64 a0_2, .int .i64 a0_3, .slice Ao20 y191.length co20, .bool false, .slice none 0 0, .slice none 0 0, .slice none 0 0]) ?_ 5 _ rfl; (with_reducible repeat (first | refine blk_drewN ?_ _ | refine blk_drew ?_ | refine blk_alloc ?_ _)); refine blk_put (cs := #[.slice Ao14 y185.length co14, .int .i64 a0_1, .int .i64 a0_2, .int .i64 a0_3, .slice none 0 0, .bool false, .slice none 0 0, .slice none 0 0, .slice none 0 0]) ?_ 4 _ rfl; (with_reducible repeat (first | refine blk_drewN ?_ _ | refine blk_drew ?_ | refine blk_alloc ?_ _)); refine blk_put (cs := #[.slice Ao14 y185.length co14, .int .i64 a0_1, .int .i64 a0_2, .int .i64 0, .slice none 0 0, .bool false, .slice none 0 0, .slice none 0 0, .slice none 0 0]) ?_ 3 _ rfl; (with_reducible repeat (first | refine blk_drewN ?_ _ | refine blk_drew ?_ | refine blk_alloc ?_ _)); refine blk_put (cs := #[.slice Ao14 y185.length co14, .int .i64 a0_1, .int .i64 0, .int .i64 0, .slice none 0 0, .bool false, .slice none 0 0, .slice none 0 0, .slice none 0 0]) ?_ 2 _ rfl; (with_reducible repeat (first | refine blk_drewN ?_ _ | refine blk_drew ?_ | refine blk_alloc ?_ _)); refine blk_put (cs := #[.slice Ao14 y185.length co14, .int .i64 0, .int .i64 0, .int .i64 0, .slice none 0 0, .bool false, .slice none 0 0, .slice none 0 0, .slice none 0 0]) ?_ 1 _ rfl; (with_reducible repeat (first | refine blk_drewN ?_ _ | refine blk_drew ?_ | refine blk_alloc ?_ _)); refine blk_put (cs := #[.slice none 0 0, .int .i64 0, .int .i64 0, .int .i64 0, .slice none 0 0, .bool false, .slice none 0 0, .slice none 0 0, .slice none 0 0]) ?_ 0 _ rfl; (with_reducible repeat (first | refine blk_drewN ?_ _ | refine blk_drew ?_ | refine blk_alloc ?_ _)); refine blk_far ?_ NB181_180.out _; (with_reducible repeat (first | refine blk_drewN ?_ _ | refine blk_drew ?_ | refine blk_alloc ?_ _)); exact BK181.out) Try.underlying34 rfl (by kernel_rfl)) rfl ?_
      exact ⟨_, _, _, _, _, ee, by (with_reducible repeat (first | apply Kd.R_alloc | apply Kd.R_drewN | apply Kd.R_drew)); exact Kd.R_mono (Kd.R_far (p := ⟨gb181, 8, none⟩) (Kd.R_far (p := ⟨gb181, 7, none⟩) (Kd.R_far (p := ⟨gb181, 6, none⟩) (Kd.R_far (p := ⟨gb181, 5, none⟩) (Kd.R_far (p := ⟨gb181, 4, none⟩) (Kd.R_far (p := ⟨gb181, 3, none⟩) (Kd.R_far (p := ⟨gb181, 2, none⟩) (Kd.R_far (p := ⟨gb181, 1, none⟩) (Kd.R_far (p := ⟨gb181, 0, none⟩) (Kd.R_far (p := ⟨gb180, 8, none⟩) (Kd.R_types (Kd.R_types HO187.out BK180.out (by decide)) BK181.out (by decide)) (fun _ hk => hk.1.2) (.slice Ao38 y209.length co38)) (fun _ hk => hk.2) (.slice Ao14 y185.length co14)) (fun _ hk => hk.2) (.int .i64 a0_1)) (fun _ hk => hk.2) (.int .i64 a0_2)) (fun _ hk => hk.2) (.int .i64 a0_3)) (fun _ hk => hk.2) (.slice Ao20 y191.length co20)) (fun _ hk => hk.2) (.bool a0_5)) (fun _ hk => hk.2) (.slice Ao26 y197.length co26)) (fun _ hk => hk.2) (.slice Ao32 y203.length co32)) (fun _ hk => hk.2) (.slice Ao38 y209.length co38)) (fun _ hk => trivial), by (with_reducible repeat (first | apply Kd.R_alloc | apply Kd.R_drewN | apply Kd.R_drew)); exact Kd.R_mono (Kd.R_far (p := ⟨gb181, 8, none⟩) (Kd.R_far (p := ⟨gb181, 7, none⟩) (Kd.R_far (p := ⟨gb181, 6, none⟩) (Kd.R_far (p := ⟨gb181, 5, none⟩) (Kd.R_far (p := ⟨gb181, 4, none⟩) (Kd.R_far (p := ⟨gb181, 3, none⟩) (Kd.R_far (p := ⟨gb181, 2, none⟩) (Kd.R_far (p := ⟨gb181, 1, none⟩) (Kd.R_far (p := ⟨gb181, 0, none⟩) (Kd.R_far (p := ⟨gb180, 8, none⟩) (Kd.R_types (Kd.R_types HO193.out BK180.out (by decide)) BK181.out (by decide)) (fun _ hk => hk.1.2) (.slice Ao38 y209.length co38)) (fun _ hk => hk.2) (.slice Ao14 y185.length co14)) (fun _ hk => hk.2) (.int .i64 a0_1)) (fun _ hk => hk.2) (.int .i64 a0_2)) (fun _ hk => hk.2) (.int .i64 a0_3)) (fun _ hk => hk.2) (.slice Ao20 y191.length co20)) (fun _ hk => hk.2) (.bool a0_5)) (fun _ hk => hk.2) (.slice Ao26 y197.length co26)) (fun _ hk => hk.2) (.slice Ao32 y203.length co32)) (fun _ hk => hk.2) (.slice Ao38 y209.length co38)) (fun _ hk => ⟨hk.1.1.1, hk.1.1.2⟩), by (with_reducible repeat (first | apply Kd.R_alloc | apply Kd.R_drewN | apply Kd.R_drew)); exact Kd.R_mono (Kd.R_far (p := ⟨gb181, 8, none⟩) (Kd.R_far (p := ⟨gb181, 7, none⟩) (Kd.R_far (p := ⟨gb181, 6, none⟩) (Kd.R_far (p := ⟨gb181, 5, none⟩) (Kd.R_far (p := ⟨gb181, 4, none⟩) (Kd.R_far (p := ⟨gb181, 3, none⟩) (Kd.R_far (p := ⟨gb181, 2, none⟩) (Kd.R_far (p := ⟨gb181, 1, none⟩) (Kd.R_far (p := ⟨gb181, 0, none⟩) (Kd.R_far (p := ⟨gb180, 8, none⟩) (Kd.R_types (Kd.R_types HO199.out BK180.out (by decide)) BK181.out (by decide)) (fun _ hk => hk.1.2) (.slice Ao38 y209.length co38)) (fun _ hk => hk.2) (.slice Ao14 y185.length co14)) (fun _ hk => hk.2) (.int .i64 a0_1)) (fun _ hk => hk.2) (.int .i64 a0_2)) (fun _ hk => hk.2) (.int .i64 a0_3)) (fun _ hk => hk.2) (.slice Ao20 y191.length co20)) (fun _ hk => hk.2) (.bool a0_5)) (fun _ hk => hk.2) (.slice Ao26 y197.length co26)) (fun _ hk => hk.2) (.slice Ao32 y203.length co32)) (fun _ hk => hk.2) (.slice Ao38 y209.length co38)) (fun _ hk => trivial), by (with_reducible repeat (first | apply Kd.R_alloc | apply Kd.R_drewN | apply Kd.R_drew)); exact Kd.R_mono (Kd.R_far (p := ⟨gb181, 8, none⟩) (Kd.R_far (p := ⟨gb181, 7, none⟩) (Kd.R_far (p := ⟨gb181, 6, none⟩) (Kd.R_far (p := ⟨gb181, 5, none⟩) (Kd.R_far (p := ⟨gb181, 4, none⟩) (Kd.R_far (p := ⟨gb181, 3, none⟩) (Kd.R_far (p := ⟨gb181, 2, none⟩) (Kd.R_far (p := ⟨gb181, 1, none⟩) (Kd.R_far (p := ⟨gb181, 0, none⟩) (Kd.R_far (p := ⟨gb180, 8, none⟩) (Kd.R_types (Kd.R_types HO205.out BK180.out (by decide)) BK181.out (by decide)) (fun _ hk => hk.1.2) (.slice Ao38 y209.length co38)) (fun _ hk => hk.2) (.slice Ao14 y185.length co14)) (fun _ hk => hk.2) (.int .i64 a0_1)) (fun _ hk => hk.2) (.int .i64 a0_2)) (fun _ hk => hk.2) (.int .i64 a0_3)) (fun _ hk => hk.2) (.slice Ao20 y191.length co20)) (fun _ hk => hk.2) (.bool a0_5)) (fun _ hk => hk.2) (.slice Ao26 y197.length co26)) (fun _ hk => hk.2) (.slice Ao32 y203.length co32)) (fun _ hk => hk.2) (.slice Ao38 y209.length co38)) (fun _ hk => ⟨hk.1.1.1, hk.1.1.2⟩), by (with_reducible repeat (first | apply Kd.R_alloc | apply Kd.R_drewN | apply Kd.R_drew)); exact Kd.R_mono (Kd.R_far (p := ⟨gb181, 8, none⟩) (Kd.R_far (p := ⟨gb181, 7, none⟩) (Kd.R_far (p := ⟨gb181, 6, none⟩) (Kd.R_far (p := ⟨gb181, 5, none⟩) (Kd.R_far (p := ⟨gb181, 4, none⟩) (Kd.R_far (p := ⟨gb181, 3, none⟩) (Kd.R_far (p := ⟨gb181, 2, none⟩) (Kd.R_far (p := ⟨gb181, 1, none⟩) (Kd.R_far (p := ⟨gb181, 0, none⟩) (Kd.R_far (p := ⟨gb180, 8, none⟩) (Kd.R_types (Kd.R_types HO211.out BK180.out (by decide)) BK181.out (by decide)) (fun _ hk => hk.1.2) (.slice Ao38 y209.length co38)) (fun _ hk => hk.2) (.slice Ao14 y185.length co14)) (fun _ hk => hk.2) (.int .i64 a0_1)) (fun _ hk => hk.2) (.int .i64 a0_2)) (fun _ hk => hk.2) (.int .i64 a0_3)) (fun _ hk => hk.2) (.slice Ao20 y191.length co20)) (fun _ hk => hk.2) (.bool a0_5)) (fun _ hk => hk.2) (.slice Ao26 y197.length co26)) (fun _ hk => hk.2) (.slice Ao32 y203.length co32)) (fun _ hk => hk.2) (.slice Ao38 y209.length co38)) (fun _ hk => ⟨hk.1.1.1, hk.1.1.2⟩), bb HB⟩
     ·rw [if_neg c6] at H
      exact absurd H (by simp)
    ·rw [if_neg c5] at H
     exact absurd H (by simp)
   ·rw [if_neg c4] at H
    exact absurd H (by simp)
  ·rw [if_neg c3] at H
   exact absurd H (by simp)
 ·rw [if_neg c2] at H
  exact absurd H (by simp)
end Go.Proofs.Ytoaepoffooomnaa.Q
namespace Go.Proofs.Ytoaepoffooomnaa.Q
open Go.RowKit Go.Proofs.YtoaepoffooomnaaW.PrintWords Go.Proofs.YtoaepoffooomnaaW.PrintLast Go.Proofs.YtoaepoffooomnaaW.PrintMore
attribute [local go_sem] max2_int min2_int max_two min_two max_three min_three max_four min_four
set_option linter.unusedVariables false
set_option linter.unusedSimpArgs false
def spec_PlayGame.f (a0_0 : Int) (a0_1 : Int) (a0_2 : Int) (a0_3 : Int) (a0_4 : Int) (a1 : Int) : Option (Int × Int × Int × Int × Int) := (spec_l01In.f a1 1 3).bind fun t214 => (if t214 = true then (if a1 = 1 then (if a1 = 3 then (some (a0_0, a0_1, 1, 1, 1)) else (some (a0_0, a0_1, 1, 0, 1))) else (if a1 = 3 then (some (a0_0, a0_1, 0, 1, 1)) else (some (a0_0, a0_1, 0, 0, 1)))) else (some (a0_0, a0_1, a0_2, a0_3, a0_4)))
set_option maxHeartbeats 8000000 in
set_option maxRecDepth 100000 in
theorem spec_PlayGame.calls (a0_0 : Int) (a0_1 : Int) (a0_2 : Int) (a0_3 : Int) (a0_4 : Int) (a1 : Int) (r1 : Int) (r2 : Int) (r3 : Int) (r4 : Int) (r5 : Int) (w : World) (h : spec_PlayGame.f a0_0 a0_1 a0_2 a0_3 a0_4 a1 = some (r1, r2, r3, r4, r5)) :
    Calls Try.prog 61 #[.agg #[.int .i64 a0_0, .int .i64 a0_1, .int .i64 a0_2, .int .i64 a0_3, .int .i64 a0_4], .int .i64 a1] w fun e w' => e = .returned (.agg #[.int .i64 r1, .int .i64 r2, .int .i64 r3, .int .i64 r4, .int .i64 r5]) ∧ Below w.heap.size w w' := by
  unfold spec_PlayGame.f at h
  obtain ⟨b, hb, h⟩ := Option.bind_eq_some_iff.mp h
  have hb' := hb
  have HW := Aside0.mk hb
  clear hb
  unfold spec_l01In.f at hb'
  by_cases hc0 : 1 ≤ a1 ∧ a1 ≤ 3
  · have hbt : b = true := by rw [if_pos (show a1 ≥ 1 from hc0.1)] at hb'; simpa [hc0.2] using hb'.symm
    subst hbt
    clear hb'
    rw [if_pos rfl] at h
    have hc : a1 = 1 ∨ a1 = 2 ∨ a1 = 3 := by omega
    rcases hc with rfl | rfl | rfl
    all_goals
      simp at h
      obtain ⟨rfl, rfl, rfl, rfl, rfl⟩ := h
      clear hc0
      go_enter Try.func61, Try.ntmps61
      have sd := my_setCell_drewN
      have ad := my_alloc_drewN
      go_wp2_with (go_at_call 48; refine (spec_l01In.calls _ _ _ _ _ HW.out).mono ?_; rintro e w' ⟨rfl, ⟨nd, rfl⟩⟩)
      refine bodyPost_ret (v := .agg #[.int .i64 _, .int .i64 _, .int .i64 _, .int .i64 _, .int .i64 _]) (by simp [results, Try.results61, go_sem]) rfl ⟨rfl, (by repeat (first | exact Below.refl _ _ | apply below_alloc | apply pw_below_drewN | apply below_drew1 | refine below_set ?_ (by simp; try omega)))⟩
  · have hbt : b = false := by
      by_cases h1 : 1 ≤ a1
      · rw [if_pos h1] at hb'; simp at hb'; rw [← hb']; simp; omega
      · rw [if_neg h1] at hb'; simpa using hb'.symm
    subst hbt
    clear hb'
    simp at h
    obtain ⟨rfl, rfl, rfl, rfl, rfl⟩ := h
    clear hc0
    go_enter Try.func61, Try.ntmps61
    have sd := my_setCell_drewN
    have ad := my_alloc_drewN
    go_wp2_with (go_at_call 48; refine (spec_l01In.calls _ _ _ _ _ HW.out).mono ?_; rintro e w' ⟨rfl, ⟨nd, rfl⟩⟩)
    refine bodyPost_ret (v := .agg #[.int .i64 _, .int .i64 _, .int .i64 _, .int .i64 _, .int .i64 _]) (by simp [results, Try.results61, go_sem]) rfl ⟨rfl, (by repeat (first | exact Below.refl _ _ | apply below_alloc | apply pw_below_drewN | apply below_drew1 | refine below_set ?_ (by simp; try omega)))⟩
end Go.Proofs.Ytoaepoffooomnaa.Q
namespace Go.Proofs.Ytoaepoffooomnaa.Q
open Go.RowKit Go.Proofs.YtoaepoffooomnaaW.PrintWords Go.Proofs.YtoaepoffooomnaaW.PrintLast Go.Proofs.YtoaepoffooomnaaW.PrintMore
attribute [local go_sem] max2_int min2_int max_two min_two max_three min_three max_four min_four
set_option linter.unusedVariables false
set_option linter.unusedSimpArgs false
def spec_l16With.l0 : Nat → List Int → List Int → Int → Int → List (S87) → Int → Int → Int → List Int → Bool → List (S75) → List Int → List Int → Option ((List (S87)) × Int × Int × Int × List Int × Bool × (List (S75)) × List Int × List Int)
 | 0, _, _, _, _, _, _, _, _, _, _, _, _, _ => none
 | k + 1, x2, x12, x13, x14, x237000, x237001, x237002, x237003, x237004, x237005, x237006, x237007, x237008 => if x14 < x13 then (if 0 ≤ x14 then (if x14 < (x12.length : Int) then (if 0 ≤ (rd x12 x14) then (if (rd x12 x14) < (x237006.length : Int) then (if x14 < (x2.length : Int) then ((spec_PlayGame.f ((rd_T75 x237006 (rd x12 x14)).f0) ((rd_T75 x237006 (rd x12 x14)).f1) ((rd_T75 x237006 (rd x12 x14)).f2) ((rd_T75 x237006 (rd x12 x14)).f3) ((rd_T75 x237006 (rd x12 x14)).f4) (rd x2 x14)).bind fun bt240 => (spec_l16With.l0 k x2 x12 x13 (wrap64 (x14 + 1)) x237000 x237001 x237002 x237003 x237004 x237005 (x237006.set ((rd x12 x14) : Int).toNat (⟨bt240.1, bt240.2.1, bt240.2.2.1, bt240.2.2.2.1, bt240.2.2.2.2⟩ : S75)) x237007 x237008)) else (none)) else (none)) else (none)) else (none)) else (none)) else (some (x237000, x237001, x237002, x237003, x237004, x237005, x237006, x237007, x237008))
def spec_l16With.f (k : Nat) (l0_0 : List (S87)) (a0_1 : Int) (a0_2 : Int) (a0_3 : Int) (l0_4 : List Int) (a0_5 : Bool) (l0_6 : List (S75)) (l0_7 : List Int) (l0_8 : List Int) (l1 : List Int) (l2 : List Int) : Option ((List (S87)) × Int × Int × Int × List Int × Bool × (List (S75)) × List Int × List Int) := (spec_l16Copy.f l0_0 a0_1 a0_2 a0_3 l0_4 a0_5 l0_6 l0_7 l0_8).bind fun bt217 => (spec_l16With.l0 k l2 l1 (l1.length : Int) 0 bt217.1 bt217.2.1 bt217.2.2.1 bt217.2.2.2.1 bt217.2.2.2.2.1 bt217.2.2.2.2.2.1 bt217.2.2.2.2.2.2.1 bt217.2.2.2.2.2.2.2.1 bt217.2.2.2.2.2.2.2.2)
def spec_l16With.T5 : Bool × List (List Nat × List Nat) := (true, [([], []), ([0], [0]), ([], []), ([], []), ([3], [3]), ([], []), ([4, 5], [4, 5]), ([6], [6]), ([], []), ([], []), ([8, 9], [8, 9]), ([10], [10]), ([7, 11], [7, 11]), ([1, 2, 0, 1, 2, 3, 4, 5, 6, 7, 8, 9, 10, 11, 12], [1, 2]), ([13, 12, 12, 0, 1, 2, 3, 4, 5, 6, 7, 8, 9, 10, 11, 12], [12, 13])])
def spec_l16With.B5 : List Nat := [0, 1, 0, 0, 8, 0, 56, 120, 0, 0, 768, 1792, 4088, 8191, 16383]
theorem spec_l16With.tab5 : rtab .any (opsOf Try.f26 5) = spec_l16With.T5 := by kernel_rfl
theorem spec_l16With.bits5 : waitsOk spec_l16With.T5.2 spec_l16With.B5 = true := by kernel_rfl
set_option maxHeartbeats 8000000 in
set_option maxRecDepth 100000 in
theorem spec_l16With.calls (k : Nat) (A0_0 : Option Addr) (c0_0 : Nat) (l0_0 : List (S87)) (a0_1 : Int) (a0_2 : Int) (a0_3 : Int) (A0_4 : Option Addr) (c0_4 : Nat) (l0_4 : List Int) (a0_5 : Bool) (A0_6 : Option Addr) (c0_6 : Nat) (l0_6 : List (S75)) (A0_7 : Option Addr) (c0_7 : Nat) (l0_7 : List Int) (A0_8 : Option Addr) (c0_8 : Nat) (l0_8 : List Int) (A1 : Option Addr) (c1 : Nat) (l1 : List Int) (A2 : Option Addr) (c2 : Nat) (l2 : List Int) (r1 : List (S87)) (r2 : Int) (r3 : Int) (r4 : Int) (r5 : List Int) (r6 : Bool) (r7 : List (S75)) (r8 : List Int) (r9 : List Int) (w : World) (hr0_0 : Kd.C k87 w A0_0 l0_0.length l0_0) (hc0_0 : l0_0.length ≤ c0_0) (hr0_4 : Kd.C (Kd.int .i64) w A0_4 l0_4.length l0_4) (hc0_4 : l0_4.length ≤ c0_4) (hr0_6 : Kd.C k75 w A0_6 l0_6.length l0_6) (hc0_6 : l0_6.length ≤ c0_6) (hr0_7 : Kd.C (Kd.int .i64) w A0_7 l0_7.length l0_7) (hc0_7 : l0_7.length ≤ c0_7) (hr0_8 : Kd.C (Kd.int .i64) w A0_8 l0_8.length l0_8) (hc0_8 : l0_8.length ≤ c0_8) (hr1 : Kd.C (Kd.int .i64) w A1 l1.length l1) (hc1 : l1.length ≤ c1) (hr2 : Kd.C (Kd.int .i64) w A2 l2.length l2) (hc2 : l2.length ≤ c2) (h : spec_l16With.f k l0_0 a0_1 a0_2 a0_3 l0_4 a0_5 l0_6 l0_7 l0_8 l1 l2 = some (r1, r2, r3, r4, r5, r6, r7, r8, r9)) :
  Calls Try.prog 26 #[.agg #[.slice A0_0 l0_0.length c0_0, .int .i64 a0_1, .int .i64 a0_2, .int .i64 a0_3, .slice A0_4 l0_4.length c0_4, .bool a0_5, .slice A0_6 l0_6.length c0_6, .slice A0_7 l0_7.length c0_7, .slice A0_8 l0_8.length c0_8], .slice A1 l1.length c1, .slice A2 l2.length c2] w fun e w' => ∃ v0_ v4_ v6_ v7_ v8_ : Value, e = .returned (.agg #[v0_, .int .i64 r2, .int .i64 r3, .int .i64 r4, v4_, .bool r6, v6_, v7_, v8_]) ∧ Kd.R k87 87 w' w.heap.size (fun _ => True) v0_ r1 ∧ Kd.R (Kd.int .i64) 3 w' w.heap.size (fun k_ => some k_ ≠ (v7_ : Value).ownBlock ∧ some k_ ≠ (v8_ : Value).ownBlock) v4_ r5 ∧ Kd.R k75 75 w' w.heap.size (fun _ => True) v6_ r7 ∧ Kd.R (Kd.int .i64) 3 w' w.heap.size (fun k_ => some k_ ≠ (v4_ : Value).ownBlock ∧ some k_ ≠ (v8_ : Value).ownBlock) v7_ r8 ∧ Kd.R (Kd.int .i64) 3 w' w.heap.size (fun k_ => some k_ ≠ (v4_ : Value).ownBlock ∧ some k_ ≠ (v7_ : Value).ownBlock) v8_ r9 ∧ Below w.heap.size w w' := by
 have hu34 := Try.underlying34
 have hu75 := Try.underlying75
 have HR0_0 := Aside0.mk hr0_0
 have HC0_0 := Aside0.mk hc0_0
 clear hr0_0 hc0_0
 have HR0_4 := Aside0.mk hr0_4
 have HC0_4 := Aside0.mk hc0_4
 clear hr0_4 hc0_4
 have HR0_6 := Aside0.mk hr0_6
 have HC0_6 := Aside0.mk hc0_6
 clear hr0_6 hc0_6
 have HR0_7 := Aside0.mk hr0_7
 have HC0_7 := Aside0.mk hc0_7
 clear hr0_7 hc0_7
 have HR0_8 := Aside0.mk hr0_8
 have HC0_8 := Aside0.mk hc0_8
 clear hr0_8 hc0_8
 have HR1 := Aside0.mk hr1
 have HC1 := Aside0.mk hc1
 clear hr1 hc1
 have HR2 := Aside0.mk hr2
 have HC2 := Aside0.mk hc2
 clear hr2 hc2
 have HB := Aside0.mk (Below.refl w.heap.size w)
 have H : ((spec_l16Copy.f l0_0 a0_1 a0_2 a0_3 l0_4 a0_5 l0_6 l0_7 l0_8).bind fun bt217 => (spec_l16With.l0 k l2 l1 (l1.length : Int) 0 bt217.1 bt217.2.1 bt217.2.2.1 bt217.2.2.2.1 bt217.2.2.2.2.1 bt217.2.2.2.2.2.1 bt217.2.2.2.2.2.2.1 bt217.2.2.2.2.2.2.2.1 bt217.2.2.2.2.2.2.2.2)) = some (r1, r2, r3, r4, r5, r6, r7, r8, r9) := h
 clear h
 replace H := Option.bind_eq_some_iff.mp H
 obtain ⟨⟨t217, t220, t221, t222, t223, t226, t227, t230, t233⟩, A40, H⟩ := H
 replace H : (spec_l16With.l0 k l2 l1 (l1.length : Int) 0 t217 t220 t221 t222 t223 t226 t227 t230 t233) = some (r1, r2, r3, r4, r5, r6, r7, r8, r9) := H
 have A4 := Aside0.mk A40
 clear A40
 have H' := Aside0.mk H
 clear H
 go_enter Try.func26, Try.ntmps26
 go_wp2_with (first | ((with_reducible refine gate_dst (N := 3) rfl ?_); refine bx (N := 3) (cs := #[.slice A0_0 l0_0.length c0_0, .int .i64 a0_1, .int .i64 a0_2, .int .i64 a0_3, .slice A0_4 l0_4.length c0_4, .bool a0_5, .slice A0_6 l0_6.length c0_6, .slice A0_7 l0_7.length c0_7, .slice A0_8 l0_8.length c0_8]) (t := 34) ?_; intro gb215 hg w5 hbox hb; have BK215 := Aside0.mk (hbox); have GW215 := gs hg HB; have GE215 := gs hg HB; replace HB := hs_ HB hb; clear hb hbox hg) | ((with_reducible refine gate_dst (N := 6) rfl ?_); refine bx (N := 6) (cs := #[.slice none 0 0, .int .i64 0, .int .i64 0, .int .i64 0, .slice none 0 0, .bool false, .slice none 0 0, .slice none 0 0, .slice none 0 0]) (t := 34) ?_; intro gb216 hg w6 hbox hb; have BK216 := Aside0.mk (hbox); have GW216 := gs hg HB; have GE216 := gs hg HB; replace HB := hs_ HB hb; have NB215_216 := gn hg BK215; have NB216_215 := gm hg BK215; replace BK215 := kb BK215 hb; clear hb hbox hg; have hnb7 := NB215_216.out; have hnc7 := NB216_215.out; have ⟨hcz8_0, hcz8_1, hcz8_2, hcz8_3, hcz8_4, hcz8_5, hcz8_6, hcz8_7, hcz8_8, hfz8_0, hfz8_1, hfz8_2, hfz8_3, hfz8_4, hfz8_5, hfz8_6, hfz8_7, hfz8_8⟩ := rz9 BK215) | ((with_reducible refine gate_callee (f := 49) rfl ?_); refine gl (some 11) Try.func49 #[.agg #[.slice A0_0 l0_0.length c0_0, .int .i64 a0_1, .int .i64 a0_2, .int .i64 a0_3, .slice A0_4 l0_4.length c0_4, .bool a0_5, .slice A0_6 l0_6.length c0_6, .slice A0_7 l0_7.length c0_7, .slice A0_8 l0_8.length c0_8]] ?_; (with_reducible refine (spec_l16Copy.calls _ _ l0_0 a0_1 a0_2 a0_3 _ _ l0_4 a0_5 _ _ l0_6 _ _ l0_7 _ _ l0_8 t217 t220 t221 t222 t223 t226 t227 t230 t233 _ ?side1 ?side2 ?side3 ?side4 ?side5 ?side6 ?side7 ?side8 ?side9 ?side10 A4.out).mono ?_); (case side1 => exact cc HR0_0 HB); (case side2 => exact HC0_0.out); (case side3 => exact cc HR0_4 HB); (case side4 => exact HC0_4.out); (case side5 => exact cc HR0_6 HB); (case side6 => exact HC0_6.out); (case side7 => exact cc HR0_7 HB); (case side8 => exact HC0_7.out); (case side9 => exact cc HR0_8 HB); (case side10 => exact HC0_8.out); rintro e w9 ⟨v218, v224, v228, v231, v234, rfl, ho0, ho1, ho2, ho3, ho4, hb⟩; refine ⟨_, rfl, ?_⟩; have HO219 := kl ho0 HB; have HO225 := kl ho1 HB; have HO229 := kl ho2 HB; have HO232 := kl ho3 HB; have HO235 := kl ho4 HB; replace BK215 := kb BK215 hb; replace BK216 := kb BK216 hb; replace HB := hs_ HB hb; (try clear hb hb2 hk hi ho0 ho1 ho2 ho3 ho4)) | ((with_reducible refine gate_dst (N := 7) rfl ?_); refine bx (N := 7) (cs := #[.slice none 0 0, .int .i64 0, .int .i64 0, .int .i64 0, .slice none 0 0, .bool false, .slice none 0 0, .slice none 0 0, .slice none 0 0]) (t := 34) ?_; intro gb236 hg w10 hbox hb; replace HO219 := kr HO219 hb; replace HO225 := kr HO225 hb; replace HO229 := kr HO229 hb; replace HO232 := kr HO232 hb; replace HO235 := kr HO235 hb; have BK236 := Aside0.mk (hbox); have GW236 := gs hg HB; have GE236 := gs hg HB; replace HB := hs_ HB hb; have NB215_236 := gn hg BK215; have NB236_215 := gm hg BK215; replace BK215 := kb BK215 hb; have NB216_236 := gn hg BK216; have NB236_216 := gm hg BK216; replace BK216 := kb BK216 hb; clear hb hbox hg; obtain ⟨Ao11, co11, eo11⟩ := Kd.R_slice HO219.out; subst eo11; have hnb12 := NB236_215.out; have hnc12 := NB215_236.out; have hnb13 := NB236_216.out; have hnc13 := NB216_236.out; have ⟨hcz14_0, hcz14_1, hcz14_2, hcz14_3, hcz14_4, hcz14_5, hcz14_6, hcz14_7, hcz14_8, hfz14_0, hfz14_1, hfz14_2, hfz14_3, hfz14_4, hfz14_5, hfz14_6, hfz14_7, hfz14_8⟩ := rz9 BK236; obtain ⟨Ao15, co15, eo15⟩ := Kd.R_slice HO225.out; subst eo15; obtain ⟨Ao16, co16, eo16⟩ := Kd.R_slice HO229.out; subst eo16; obtain ⟨Ao17, co17, eo17⟩ := Kd.R_slice HO232.out; subst eo17; obtain ⟨Ao18, co18, eo18⟩ := Kd.R_slice HO235.out; subst eo18))
 go_loopg [14] k (fun kq v14 w' => ∃ (x14_1 : Int) (x237006_1 : List (S75)) (u237006 : Value), v14 = .int .i64 x14_1 ∧ Aside0 (spec_l16With.l0 kq l2 l1 (l1.length : Int) x14_1 t217 t220 t221 t222 t223 t226 x237006_1 t230 t233 = some (r1, r2, r3, r4, r5, r6, r7, r8, r9)) ∧ Aside0 (kq ≤ k) ∧ Aside0 (Kd.R k87 87 w' w.heap.size (fun _ => True) (.slice Ao11 t217.length co11) t217) ∧ Aside0 (Kd.R (Kd.int .i64) 3 w' w.heap.size (fun k_ => nb k_ Ao17 t230.length co17 ∧ nb k_ Ao18 t233.length co18) (.slice Ao15 t223.length co15) t223) ∧ Aside0 (Kd.R k75 75 w' w.heap.size (fun _ => True) u237006 x237006_1) ∧ Aside0 (Kd.R (Kd.int .i64) 3 w' w.heap.size (fun k_ => nb k_ Ao15 t223.length co15 ∧ nb k_ Ao18 t233.length co18) (.slice Ao17 t230.length co17) t230) ∧ Aside0 (Kd.R (Kd.int .i64) 3 w' w.heap.size (fun k_ => nb k_ Ao15 t223.length co15 ∧ nb k_ Ao17 t230.length co17) (.slice Ao18 t233.length co18) t233) ∧ Aside0 (w'.heap[gb215]? = some (.cells #[(.slice A0_0 l0_0.length c0_0), .int .i64 a0_1, .int .i64 a0_2, .int .i64 a0_3, (.slice A0_4 l0_4.length c0_4), .bool a0_5, (.slice A0_6 l0_6.length c0_6), (.slice A0_7 l0_7.length c0_7), (.slice A0_8 l0_8.length c0_8)] 34 (0, 0))) ∧ Aside0 (w'.heap[gb216]? = some (.cells #[(.slice none 0 0), .int .i64 0, .int .i64 0, .int .i64 0, (.slice none 0 0), .bool false, (.slice none 0 0), (.slice none 0 0), (.slice none 0 0)] 34 (0, 0))) ∧ Aside0 (w'.heap[gb236]? = some (.cells #[(.slice Ao11 t217.length co11), .int .i64 t220, .int .i64 t221, .int .i64 t222, (.slice Ao15 t223.length co15), .bool t226, u237006, (.slice Ao17 t230.length co17), (.slice Ao18 t233.length co18)] 34 (0, 0))) ∧ Aside0 (Below w.heap.size w w'))
 case atStart => exact ⟨(0), (t227), (.slice Ao16 t227.length co16), e2_, H', ⟨Nat.le_refl _⟩, ⟨rf HO219 BK236 (fun _ hk => trivial)⟩, ⟨rf HO225 BK236 (fun _ hk => ⟨hk.1.1, hk.1.2⟩)⟩, ⟨rf HO229 BK236 (fun _ hk => trivial)⟩, ⟨rf HO232 BK236 (fun _ hk => ⟨hk.1.1, hk.1.2⟩)⟩, ⟨rf HO235 BK236 (fun _ hk => ⟨hk.1.1, hk.1.2⟩)⟩, ⟨by (with_reducible repeat (first | refine blk_drewN ?_ _ | refine blk_drew ?_ | refine blk_alloc ?_ _)); refine blk_far ?_ NB215_236.out _; (with_reducible repeat (first | refine blk_drewN ?_ _ | refine blk_drew ?_ | refine blk_alloc ?_ _)); refine blk_far ?_ NB215_236.out _; (with_reducible repeat (first | refine blk_drewN ?_ _ | refine blk_drew ?_ | refine blk_alloc ?_ _)); refine blk_far ?_ NB215_236.out _; (with_reducible repeat (first | refine blk_drewN ?_ _ | refine blk_drew ?_ | refine blk_alloc ?_ _)); refine blk_far ?_ NB215_236.out _; (with_reducible repeat (first | refine blk_drewN ?_ _ | refine blk_drew ?_ | refine blk_alloc ?_ _)); refine blk_far ?_ NB215_236.out _; (with_reducible repeat (first | refine blk_drewN ?_ _ | refine blk_drew ?_ | refine blk_alloc ?_ _)); refine blk_far ?_ NB215_236.out _; (with_reducible repeat (first | refine blk_drewN ?_ _ | refine blk_drew ?_ | refine blk_alloc ?_ _)); refine blk_far ?_ NB215_236.out _; (with_reducible repeat (first | refine blk_drewN ?_ _ | refine blk_drew ?_ | refine blk_alloc ?_ _)); refine blk_far ?_ NB215_236.out _; (with_reducible repeat (first | refine blk_drewN ?_ _ | refine blk_drew ?_ | refine blk_alloc ?_ _)); refine blk_far ?_ NB215_236.out _; (with_reducible repeat (first | refine blk_drewN ?_ _ | refine blk_drew ?_ | refine blk_alloc ?_ _)); exact BK215.out⟩, ⟨by (with_reducible repeat (first | refine blk_drewN ?_ _ | refine blk_drew ?_ | refine blk_alloc ?_ _)); refine blk_far ?_ NB216_236.out _; (with_reducible repeat (first | refine blk_drewN ?_ _ | refine blk_drew ?_ | refine blk_alloc ?_ _)); refine blk_far ?_ NB216_236.out _; (with_reducible repeat (first | refine blk_drewN ?_ _ | refine blk_drew ?_ | refine blk_alloc ?_ _)); refine blk_far ?_ NB216_236.out _; (with_reducible repeat (first | refine blk_drewN ?_ _ | refine blk_drew ?_ | refine blk_alloc ?_ _)); refine blk_far ?_ NB216_236.out _; (with_reducible repeat (first | refine blk_drewN ?_ _ | refine blk_drew ?_ | refine blk_alloc ?_ _)); refine blk_far ?_ NB216_236.out _; (with_reducible repeat (first | refine blk_drewN ?_ _ | refine blk_drew ?_ | refine blk_alloc ?_ _)); refine blk_far ?_ NB216_236.out _; (with_reducible repeat (first | refine blk_drewN ?_ _ | refine blk_drew ?_ | refine blk_alloc ?_ _)); refine blk_far ?_ NB216_236.out _; (with_reducible repeat (first | refine blk_drewN ?_ _ | refine blk_drew ?_ | refine blk_alloc ?_ _)); refine blk_far ?_ NB216_236.out _; (with_reducible repeat (first | refine blk_drewN ?_ _ | refine blk_drew ?_ | refine blk_alloc ?_ _)); refine blk_far ?_ NB216_236.out _; (with_reducible repeat (first | refine blk_drewN ?_ _ | refine blk_drew ?_ | refine blk_alloc ?_ _)); exact BK216.out⟩, ⟨by (with_reducible repeat (first | refine blk_drewN ?_ _ | refine blk_drew ?_ | refine blk_alloc ?_ _)); refine blk_put (cs := #[.slice Ao11 t217.length co11, .int .i64 t220, .int .i64 t221, .int .i64 t222, .slice Ao15 t223.length co15, .bool t226, .slice Ao16 t227.length co16, .slice Ao17 t230.length co17, .slice none 0 0]) ?_ 8 _ rfl; (with_reducible repeat (first | refine blk_drewN ?_ _ | refine blk_drew ?_ | refine blk_alloc ?_ _)); refine blk_put (cs := #[.slice Ao11 t217.length co11, .int .i64 t220, .int .i64 t221, .int .i64 t222, .slice Ao15 t223.length co15, .bool t226, .slice Ao16 t227.length co16, .slice none 0 0, .slice none 0 0]) ?_ 7 _ rfl; (with_reducible repeat (first | refine blk_drewN ?_ _ | refine blk_drew ?_ | refine blk_alloc ?_ _)); refine blk_put (cs := #[.slice Ao11 t217.length co11, .int .i64 t220, .int .i64 t221, .int .i64 t222, .slice Ao15 t223.length co15, .bool t226, .slice none 0 0, .slice none 0 0, .slice none 0 0]) ?_ 6 _ rfl; (with_reducible repeat (first | refine blk_drewN ?_ _ | refine blk_drew ?_ | refine blk_alloc ?_ _)); refine blk_put (cs := #[.slice Ao11 t217.length co11, .int .i64 t220, .int .i64 t221, .int .i64 t222, .slice Ao15 t223.length co15, .bool false, .slice none 0 0, .slice none 0 0, .slice none 0 0]) ?_ 5 _ rfl; (with_reducible repeat (first | refine blk_drewN ?_ _ | refine blk_drew ?_ | refine blk_alloc ?_ _)); refine blk_put (cs := #[.slice Ao11 t217.length co11, .int .i64 t220, .int .i64 t221, .int .i64 t222, .slice none 0 0, .bool false, .slice none 0 0, .slice none 0 0, .slice none 0 0]) ?_ 4 _ rfl; (with_reducible repeat (first | refine blk_drewN ?_ _ | refine blk_drew ?_ | refine blk_alloc ?_ _)); refine blk_put (cs := #[.slice Ao11 t217.length co11, .int .i64 t220, .int .i64 t221, .int .i64 0, .slice none 0 0, .bool false, .slice none 0 0, .slice none 0 0, .slice none 0 0]) ?_ 3 _ rfl; (with_reducible repeat (first | refine blk_drewN ?_ _ | refine blk_drew ?_ | refine blk_alloc ?_ _)); refine blk_put (cs := #[.slice Ao11 t217.length co11, .int .i64 t220, .int .i64 0, .int .i64 0, .slice none 0 0, .bool false, .slice none 0 0, .slice none 0 0, .slice none 0 0]) ?_ 2 _ rfl; (with_reducible repeat (first | refine blk_drewN ?_ _ | refine blk_drew ?_ | refine blk_alloc ?_ _)); refine blk_put (cs := #[.slice Ao11 t217.length co11, .int .i64 0, .int .i64 0, .int .i64 0, .slice none 0 0, .bool false, .slice none 0 0, .slice none 0 0, .slice none 0 0]) ?_ 1 _ rfl; (with_reducible repeat (first | refine blk_drewN ?_ _ | refine blk_drew ?_ | refine blk_alloc ?_ _)); refine blk_put (cs := #[.slice none 0 0, .int .i64 0, .int .i64 0, .int .i64 0, .slice none 0 0, .bool false, .slice none 0 0, .slice none 0 0, .slice none 0 0]) ?_ 0 _ rfl; (with_reducible repeat (first | refine blk_drewN ?_ _ | refine blk_drew ?_ | refine blk_alloc ?_ _)); exact BK236.out⟩, ⟨bb HB⟩⟩
 case round =>
  clear H'
  (try clear c1)
  (try clear c2)
  (try clear p2)
  (try clear c4)
  (try clear c7)
  (try clear c12)
  (try clear c13)
  (try clear hcz14_0 hcz14_1 hcz14_2 hcz14_3 hcz14_4 hcz14_5 hcz14_6 hcz14_7 hcz14_8)
  (try clear hcz8_0 hcz8_1 hcz8_2 hcz8_3 hcz8_4 hcz8_5 hcz8_6 hcz8_7 hcz8_8)
  (try clear hfz14_0 hfz14_1 hfz14_2 hfz14_3 hfz14_4 hfz14_5 hfz14_6 hfz14_7 hfz14_8)
  (try clear hfz8_0 hfz8_1 hfz8_2 hfz8_3 hfz8_4 hfz8_5 hfz8_6 hfz8_7 hfz8_8)
  obtain ⟨x14_1, x237006_1, u237006, rfl, HA, HK1, HO_237000, HO_237004, HO_237006, HO_237007, HO_237008, BK215, BK216, BK236, HB⟩ := hrel
  cases gk with
  | zero => exact absurd HA.out (by simp [spec_l16With.l0])
  | succ k1 =>
   have H := HA.out
   clear HA
   simp only [spec_l16With.l0] at H
   by_cases c19 : x14_1 < (l1.length : Int)
   ·rw [if_pos c19] at H
    have c19b0 : decide (x14_1 < (l1.length : Int)) = true := decide_eq_true c19
    clear c19
    by_cases c20 : 0 ≤ x14_1
    ·rw [if_pos c20] at H
     have c20b0 : decide (0 ≤ x14_1) = true := decide_eq_true c20
     clear c20
     by_cases c21 : x14_1 < (l1.length : Int)
     ·rw [if_pos c21] at H
      have c21b0 : decide (x14_1 < (l1.length : Int)) = true := decide_eq_true c21
      clear c21
      by_cases c22 : 0 ≤ (rd l1 x14_1)
      ·rw [if_pos c22] at H
       have c22b0 : decide (0 ≤ (rd l1 x14_1)) = true := decide_eq_true c22
       clear c22
       by_cases c23 : (rd l1 x14_1) < (x237006_1.length : Int)
       ·rw [if_pos c23] at H
        have c23b0 : decide ((rd l1 x14_1) < (x237006_1.length : Int)) = true := decide_eq_true c23
        clear c23
        by_cases c24 : x14_1 < (l2.length : Int)
        ·rw [if_pos c24] at H
         have c24b0 : decide (x14_1 < (l2.length : Int)) = true := decide_eq_true c24
         clear c24
         replace H := Option.bind_eq_some_iff.mp H
         obtain ⟨⟨t240, t241, t242, t243, t244⟩, A250, H⟩ := H
         replace H : (spec_l16With.l0 k1 l2 l1 (l1.length : Int) (wrap64 (x14_1 + 1)) t217 t220 t221 t222 t223 t226 (x237006_1.set ((rd l1 x14_1) : Int).toNat (⟨t240, t241, t242, t243, t244⟩ : S75)) t230 t233) = some (r1, r2, r3, r4, r5, r6, r7, r8, r9) := H
         have A25 := Aside0.mk A250
         clear A250
         obtain ⟨y245, hy245⟩ : ∃ y_ : List (S75), y_ = (x237006_1.set ((rd l1 x14_1) : Int).toNat (⟨t240, t241, t242, t243, t244⟩ : S75)) := ⟨_, rfl⟩
         replace H : (spec_l16With.l0 k1 l2 l1 (l1.length : Int) (wrap64 (x14_1 + 1)) t217 t220 t221 t222 t223 t226 y245 t230 t233) = some (r1, r2, r3, r4, r5, r6, r7, r8, r9) := by first | (rw [hy245]; with_reducible exact H) | (have H2_ := (Option.bind_some _ _).symm.trans H; rw [hy245]; with_reducible exact H2_) | (have H2_ := (Option.bind_some _ _).symm.trans H; with_reducible exact H2_) | with_reducible exact H | (rw [hy245]; exact H) | exact H
         have Ny245 := Aside0.mk hy245
         clear hy245
         have H' := Aside0.mk H
         clear H
         have p237 : 0 ≤ (x14_1 : Int) := of_decide_eq_true (by first | (with_reducible assumption) | assumption)
         have q237 : x14_1 < (l1.length : Int) := of_decide_eq_true (by first | (with_reducible assumption) | assumption)
         obtain ⟨ad237, e237, hx237_0⟩ := Kd.at_int HR1.out x14_1 p237 q237
         cases e237
         replace hx237_0 := (HB.out.cell (World.block_lt_of_cell? w _ hx237_0)).trans hx237_0
         replace p237 := eq_true p237
         replace q237 := eq_true q237
         try go_wp2
         replace HO_237000 := Aside0.mk (Kd.R_drew HO_237000.out)
         replace HO_237004 := Aside0.mk (Kd.R_drew HO_237004.out)
         replace HO_237006 := Aside0.mk (Kd.R_drew HO_237006.out)
         replace HO_237007 := Aside0.mk (Kd.R_drew HO_237007.out)
         replace HO_237008 := Aside0.mk (Kd.R_drew HO_237008.out)
         replace BK215 := Aside0.mk (blk_drew BK215.out)
         replace BK216 := Aside0.mk (blk_drew BK216.out)
         replace BK236 := Aside0.mk (blk_drew BK236.out)
         replace HB := Aside0.mk (below_drew1 HB.out)
         obtain ⟨Ao28, co28, eo28⟩ := Kd.R_slice HO_237006.out
         (first | subst eo28 | (injection eo28 with f1_ f2_ f3_; have f4_ := f1_.symm; have f5_ := f3_.symm; clear f1_ f2_ f3_; subst f4_; subst f5_))
         have p238 : 0 ≤ ((rd l1 x14_1) : Int) := of_decide_eq_true (by first | (with_reducible assumption) | assumption)
         have q238 : (rd l1 x14_1) < (x237006_1.length : Int) := of_decide_eq_true (by first | (with_reducible assumption) | assumption)
         obtain ⟨ad238, e238, hx238_0, hx238_1, hx238_2, hx238_3, hx238_4⟩ := at_T75 (Kd.R_reads' HO_237006.out).2.2 (rd l1 x14_1) p238 q238
         cases e238
         replace p238 := eq_true p238
         replace q238 := eq_true q238
         have p239 : 0 ≤ (x14_1 : Int) := of_decide_eq_true (by first | (with_reducible assumption) | assumption)
         have q239 : x14_1 < (l2.length : Int) := of_decide_eq_true (by first | (with_reducible assumption) | assumption)
         obtain ⟨ad239, e239, hx239_0⟩ := Kd.at_int HR2.out x14_1 p239 q239
         have hw239_0 := hx239_0
         cases e239
         replace hx239_0 := (HB.out.cell (World.block_lt_of_cell? w _ hx239_0)).trans hx239_0
         replace p239 := eq_true p239
         replace q239 := eq_true q239
         refine start_ (n := 15) (S := fun w' => w'.cell? ⟨gb236, 0, none⟩ = some (.slice Ao11 t217.length co11) ∧ w'.cell? ⟨gb236, 1, none⟩ = some (.int .i64 t220) ∧ w'.cell? ⟨gb236, 2, none⟩ = some (.int .i64 t221) ∧ w'.cell? ⟨gb236, 3, none⟩ = some (.int .i64 t222) ∧ w'.cell? ⟨gb236, 4, none⟩ = some (.slice Ao15 t223.length co15) ∧ w'.cell? ⟨gb236, 5, none⟩ = some (.bool t226) ∧ w'.cell? ⟨gb236, 6, none⟩ = some (.slice (some ad238) x237006_1.length co28) ∧ w'.cell? ⟨gb236, 7, none⟩ = some (.slice Ao17 t230.length co17) ∧ w'.cell? ⟨gb236, 8, none⟩ = some (.slice Ao18 t233.length co18) ∧ w'.cell? (ad238.add (((rd l1 x14_1)).toNat * 5)) = some (.int .i64 ((rd_T75 x237006_1 (rd l1 x14_1)).f0)) ∧ w'.cell? ⟨(ad238.add (((rd l1 x14_1)).toNat * 5)).block, (ad238.add (((rd l1 x14_1)).toNat * 5)).off + 1, none⟩ = some (.int .i64 ((rd_T75 x237006_1 (rd l1 x14_1)).f1)) ∧ w'.cell? ⟨(ad238.add (((rd l1 x14_1)).toNat * 5)).block, (ad238.add (((rd l1 x14_1)).toNat * 5)).off + 2, none⟩ = some (.int .i64 ((rd_T75 x237006_1 (rd l1 x14_1)).f2)) ∧ w'.cell? ⟨(ad238.add (((rd l1 x14_1)).toNat * 5)).block, (ad238.add (((rd l1 x14_1)).toNat * 5)).off + 3, none⟩ = some (.int .i64 ((rd_T75 x237006_1 (rd l1 x14_1)).f3)) ∧ w'.cell? ⟨(ad238.add (((rd l1 x14_1)).toNat * 5)).block, (ad238.add (((rd l1 x14_1)).toNat * 5)).off + 4, none⟩ = some (.int .i64 ((rd_T75 x237006_1 (rd l1 x14_1)).f4)) ∧ w'.cell? (ad239.add (x14_1).toNat) = some (.int .i64 (rd l2 x14_1))) (ds := [14]) #[false, false, false, false, false, false, false, false, false, false, false, false, false, false, false] (by kernel_rfl) rfl rfl ⟨(blk_cell BK236.out 0).trans rfl, (blk_cell BK236.out 1).trans rfl, (blk_cell BK236.out 2).trans rfl, (blk_cell BK236.out 3).trans rfl, (blk_cell BK236.out 4).trans rfl, (blk_cell BK236.out 5).trans rfl, (blk_cell BK236.out 6).trans rfl, (blk_cell BK236.out 7).trans rfl, (blk_cell BK236.out 8).trans rfl, hx238_0, hx238_1, hx238_2, hx238_3, hx238_4, ((HB.out.cell (World.block_lt_of_cell? w _ hw239_0)).trans hw239_0)⟩ (fun hHeld => ?_); refine with_tabW spec_l16With.tab5 spec_l16With.bits5 (fun HT_ HW_ => ?_)
         generalize wr.drew = w27 at HO_237000 HO_237004 HO_237006 HO_237007 HO_237008 BK215 BK216 BK236 HB hx238_0 hx238_1 hx238_2 hx238_3 hx238_4 hx239_0 hHeld ⊢
         refine pz_ 0 19 ?_
         refine pz_ 2 21 ?_
         refine pz_ 3 22 ?_
         refine pz_ 5 24 ?_
         refine pz_ 8 27 ?_
         refine pz_ 9 28 ?_
         refine pz_ 10 29 ?_
         refine take_ (i := 1) (N := some 20) (v := ?_) (a' := ?_) #[true, true, true, true, false, true, false, false, true, true, true, false, false, false, false] rfl rfl (take_ofW HT_.out HW_.out (by kernel_rfl)) (fun _ _ _ h => h) (Or.inl ⟨by rfl, ?_⟩) hHeld ?_ ?_
         rotate_left
         ·rintro w' ⟨s0, s1, s2, s3, s4, s5, s6, s7, s8, s9, s10, s11, s12, s13, s14⟩
          go_simp
          with_reducible rfl
         rotate_left
         ·simp only [Act.put, List.setIfInBounds_toArray, List.set_cons_zero, List.set_cons_succ, i64_w, i32_w]
          rfl
         refine take_ (i := 4) (N := some 23) (v := ?_) (a' := ?_) #[true, true, true, true, true, true, false, false, true, true, true, false, false, false, false] rfl rfl (take_ofW HT_.out HW_.out (by kernel_rfl)) (fun _ _ _ h => h) (Or.inl ⟨by rfl, ?_⟩) hHeld ?_ ?_
         rotate_left
         ·rintro w' ⟨s0, s1, s2, s3, s4, s5, s6, s7, s8, s9, s10, s11, s12, s13, s14⟩
          go_simp
          with_reducible rfl
         rotate_left
         ·simp only [Act.put, List.setIfInBounds_toArray, List.set_cons_zero, List.set_cons_succ, i64_w, i32_w]
          rfl
         refine pz_ 6 25 ?_
         refine take_ (i := 7) (N := some 26) (v := ?_) (a' := ?_) #[true, true, true, true, true, true, true, true, true, true, true, false, false, false, false] rfl rfl (take_ofW HT_.out HW_.out (by kernel_rfl)) (fun _ _ _ h => h) (Or.inl ⟨by rfl, ?_⟩) hHeld ?_ ?_
         rotate_left
         ·rintro w' ⟨s0, s1, s2, s3, s4, s5, s6, s7, s8, s9, s10, s11, s12, s13, s14⟩
          go_simp
          with_reducible rfl
         rotate_left
         ·simp only [Act.put, List.setIfInBounds_toArray, List.set_cons_zero, List.set_cons_succ, i64_w, i32_w]
          rfl
         refine take_ (i := 11) (N := some 30) (v := ?_) (a' := ?_) #[true, true, true, true, true, true, true, true, true, true, true, true, false, false, false] rfl rfl (take_ofW HT_.out HW_.out (by kernel_rfl)) (fun _ _ _ h => h) (Or.inl ⟨by rfl, ?_⟩) hHeld ?_ ?_
         rotate_left
         ·rintro w' ⟨s0, s1, s2, s3, s4, s5, s6, s7, s8, s9, s10, s11, s12, s13, s14⟩
          go_simp
          with_reducible rfl
         rotate_left
         ·simp only [Act.put, List.setIfInBounds_toArray, List.set_cons_zero, List.set_cons_succ, i64_w, i32_w]
          rfl
         refine one_ (i := 12) (N := some 31) #[true, true, true, true, true, true, true, true, true, true, true, true, true, false, false] rfl rfl (one_of HT_.out (by kernel_rfl)) (by decide) (fun K hK => ?_)
         refine goes_ Try.func61 (by kernel_rfl) rfl #[.agg #[.int .i64 ((rd_T75 x237006_1 (rd l1 x14_1)).f0), .int .i64 ((rd_T75 x237006_1 (rd l1 x14_1)).f1), .int .i64 ((rd_T75 x237006_1 (rd l1 x14_1)).f2), .int .i64 ((rd_T75 x237006_1 (rd l1 x14_1)).f3), .int .i64 ((rd_T75 x237006_1 (rd l1 x14_1)).f4)], .int .i64 (rd l2 x14_1)] (by rfl) rfl rfl (by (try simp only [List.map_toArray, List.map_cons, List.map_nil]); first | done | rfl | (simp only [List.length_drop, List.length_take]; rfl)) ?_
         with_reducible refine (spec_PlayGame.calls ((rd_T75 x237006_1 (rd l1 x14_1)).f0) ((rd_T75 x237006_1 (rd l1 x14_1)).f1) ((rd_T75 x237006_1 (rd l1 x14_1)).f2) ((rd_T75 x237006_1 (rd l1 x14_1)).f3) ((rd_T75 x237006_1 (rd l1 x14_1)).f4) (rd l2 x14_1) t240 t241 t242 t243 t244 _ A25.out).mono ?_
         rintro e w29 ⟨rfl, hb⟩
         have HS9_ := (hb.cell (World.block_lt_of_cell? _ _ (hHeld.2.2.2.2.2.2.2.2.2.1))).trans (hHeld.2.2.2.2.2.2.2.2.2.1)
         have HS10_ := (hb.cell (World.block_lt_of_cell? _ _ (hHeld.2.2.2.2.2.2.2.2.2.2.1))).trans (hHeld.2.2.2.2.2.2.2.2.2.2.1)
         have HS11_ := (hb.cell (World.block_lt_of_cell? _ _ (hHeld.2.2.2.2.2.2.2.2.2.2.2.1))).trans (hHeld.2.2.2.2.2.2.2.2.2.2.2.1)
         have HS12_ := (hb.cell (World.block_lt_of_cell? _ _ (hHeld.2.2.2.2.2.2.2.2.2.2.2.2.1))).trans (hHeld.2.2.2.2.2.2.2.2.2.2.2.2.1)
         have HS13_ := (hb.cell (World.block_lt_of_cell? _ _ (hHeld.2.2.2.2.2.2.2.2.2.2.2.2.2.1))).trans (hHeld.2.2.2.2.2.2.2.2.2.2.2.2.2.1)
         refine ⟨_, rfl, ?_⟩
         replace HO_237000 := kr HO_237000 hb
         replace HO_237004 := kr HO_237004 hb
         replace HO_237006 := kr HO_237006 hb
         replace HO_237007 := kr HO_237007 hb
         replace HO_237008 := kr HO_237008 hb
         replace BK215 := kb BK215 hb
         replace BK216 := kb BK216 hb
         replace BK236 := kb BK236 hb
         replace HB := hs_ HB hb
         (try clear hb hb2 hk hi)
         have p26 : 0 ≤ ((rd l1 x14_1) : Int) := of_decide_eq_true (by first | (with_reducible assumption) | assumption)
         have q26 : ((rd l1 x14_1) : Int) < ((x237006_1.length : Int) : Int) := of_decide_eq_true (by first | (with_reducible assumption) | assumption)
         obtain ⟨go26, co26, eo26, gb26, gl26, cl26, HG26⟩ := Kd.R_form HO_237006.out (by omega)
         (first | cases eo26 | (injection eo26 with ea_ en_ ec_; (first | subst ea_ | (injection ea_ with ea_; subst ea_)); subst ec_; clear en_))
         have GB26 := Aside0.mk gb26
         have GG26 := Aside0.mk HG26
         clear gb26 gl26 HG26
         (first | simp only [add_plain] at hx238_0 | skip)
         (first | simp only [add_plain] at hx238_1 | skip)
         (first | simp only [add_plain] at hx238_2 | skip)
         (first | simp only [add_plain] at hx238_3 | skip)
         (first | simp only [add_plain] at hx238_4 | skip)
         obtain ⟨ce26, hcl26, hM26, hcc26, hfr26⟩ := Kd.R_elem HO_237006.out z75 ((rd l1 x14_1) : Int) p26 q26
         obtain rfl := k75_openM hM26
         have hx26_0 : World.cell? _ ⟨go26, ((rd l1 x14_1) : Int).toNat * 5, none⟩ = some (.int .i64 ((rd_T75 x237006_1 (rd l1 x14_1)).f0)) := hcc26 0 _ rfl
         have hx26_1 : World.cell? _ ⟨go26, ((rd l1 x14_1) : Int).toNat * 5 + 1, none⟩ = some (.int .i64 ((rd_T75 x237006_1 (rd l1 x14_1)).f1)) := hcc26 1 _ rfl
         have hx26_2 : World.cell? _ ⟨go26, ((rd l1 x14_1) : Int).toNat * 5 + 2, none⟩ = some (.int .i64 ((rd_T75 x237006_1 (rd l1 x14_1)).f2)) := hcc26 2 _ rfl
         have hx26_3 : World.cell? _ ⟨go26, ((rd l1 x14_1) : Int).toNat * 5 + 3, none⟩ = some (.int .i64 ((rd_T75 x237006_1 (rd l1 x14_1)).f3)) := hcc26 3 _ rfl
         have hx26_4 : World.cell? _ ⟨go26, ((rd l1 x14_1) : Int).toNat * 5 + 4, none⟩ = some (.int .i64 ((rd_T75 x237006_1 (rd l1 x14_1)).f4)) := hcc26 4 _ rfl
         have hf26_0 : World.frozen? _ ⟨go26, ((rd l1 x14_1) : Int).toNat * 5, none⟩ = false := hfr26 0
         have hf26_1 : World.frozen? _ ⟨go26, ((rd l1 x14_1) : Int).toNat * 5 + 1, none⟩ = false := hfr26 1
         have hf26_2 : World.frozen? _ ⟨go26, ((rd l1 x14_1) : Int).toNat * 5 + 2, none⟩ = false := hfr26 2
         have hf26_3 : World.frozen? _ ⟨go26, ((rd l1 x14_1) : Int).toNat * 5 + 3, none⟩ = false := hfr26 3
         have hf26_4 : World.frozen? _ ⟨go26, ((rd l1 x14_1) : Int).toNat * 5 + 4, none⟩ = false := hfr26 4
         clear hcl26 hcc26 hfr26; (try clear hM26)
         replace p26 := eq_true p26
         replace q26 := eq_true q26
         obtain ⟨ce30, hcl30, hM30, hcc30, hfr30⟩ := Kd.R_elem HO_237006.out z75 ((rd l1 x14_1) : Int) (of_decide_eq_true (by first | (with_reducible assumption) | assumption)) (by have h_ : ((rd l1 x14_1) : Int) < ((x237006_1.length : Int) : Int) := of_decide_eq_true (by first | (with_reducible assumption) | assumption); first | exact h_ | (have e_ := (Kd.R_reads' HO_237006.out).1; omega) | simpa using h_)
         obtain rfl := k75_openM hM30
         have HP30 := (Kd.R_seg HO_237006.out ((rd l1 x14_1) : Int) (of_decide_eq_true (by first | (with_reducible assumption) | assumption)) (by have h_ : ((rd l1 x14_1) : Int) < ((x237006_1.length : Int) : Int) := of_decide_eq_true (by first | (with_reducible assumption) | assumption); first | exact h_ | (have e_ := (Kd.R_reads' HO_237006.out).1; omega) | simpa using h_) (seg := [.int .i64 t240, .int .i64 t241, .int .i64 t242, .int .i64 t243, .int .i64 t244]) (j := 0) hcl30 hcc30 (show 5 ≤ 5 from by decide) (x' := (⟨t240, t241, t242, t243, t244⟩ : S75)) (k75_mkM _ _ _ (⟨t240, t241, t242, t243, t244⟩ : S75) ) (fun _ hk => hk)).1
         rw [← Ny245.out] at HP30
         have HQ30 := Aside0.mk HP30
         clear hcl30 hcc30 hfr30 hM30 HP30
         refine hK.out _ _ ⟨(blk_cell BK236.out 0).trans rfl, (blk_cell BK236.out 1).trans rfl, (blk_cell BK236.out 2).trans rfl, (blk_cell BK236.out 3).trans rfl, (blk_cell BK236.out 4).trans rfl, (blk_cell BK236.out 5).trans rfl, (blk_cell BK236.out 6).trans rfl, (blk_cell BK236.out 7).trans rfl, (blk_cell BK236.out 8).trans rfl, HS9_, HS10_, HS11_, HS12_, HS13_, ((HB.out.cell (World.block_lt_of_cell? w _ hw239_0)).trans hw239_0)⟩ (fun hHeld => ?_)
         clear hK K
         refine norm_ (a' := ?_) ?_ ?_
         rotate_left
         ·show Act.put _ (some 31) _ = _
          simp only [Act.put, List.setIfInBounds_toArray, List.set_cons_zero, List.set_cons_succ, i64_w, i32_w]
          rfl
         refine pz_ 13 32 ?_
         refine last_ (i := 14) (N := none) #[true, true, true, true, true, true, true, true, true, true, true, true, true, true, true] rfl rfl (one_of HT_.out (by kernel_rfl)) (by decide) (fun K hK => ?_)
         refine skip_ (w1 := ?_) (by rfl) rfl ?_ ?_
         rotate_left
         ·go_simp
          rfl
         refine hK.out _ _ ?_
         clear hK K
         refine done_ (done_of HT_.out (by kernel_rfl)) ?_
         try go_wp2
         go_roundg k1
         case measure => have := HK1.out; omega
         case rel => exact ⟨(wrap64 (x14_1 + 1)), (y245), (.slice (some ⟨go26, 0, none⟩) x237006_1.length co28), e2_, H', ⟨by have := HK1.out; omega⟩, ⟨by (with_reducible repeat (first | apply Kd.R_alloc | apply Kd.R_drewN | apply Kd.R_drew)); exact Kd.R_mono (Kd.R_far (p := ⟨go26, ((rd l1 x14_1) : Int).toNat * 5 + 4, none⟩) (Kd.R_far (p := ⟨go26, ((rd l1 x14_1) : Int).toNat * 5 + 3, none⟩) (Kd.R_far (p := ⟨go26, ((rd l1 x14_1) : Int).toNat * 5 + 2, none⟩) (Kd.R_far (p := ⟨go26, ((rd l1 x14_1) : Int).toNat * 5 + 1, none⟩) (Kd.R_far (p := ⟨go26, ((rd l1 x14_1) : Int).toNat * 5, none⟩) (Kd.R_types HO_237000.out GG26.out (by decide)) (fun _ hk => hk.2) (.int .i64 t240)) (fun _ hk => hk.2) (.int .i64 t241)) (fun _ hk => hk.2) (.int .i64 t242)) (fun _ hk => hk.2) (.int .i64 t243)) (fun _ hk => hk.2) (.int .i64 t244)) (fun _ hk => trivial)⟩, ⟨by (with_reducible repeat (first | apply Kd.R_alloc | apply Kd.R_drewN | apply Kd.R_drew)); exact Kd.R_mono (Kd.R_far (p := ⟨go26, ((rd l1 x14_1) : Int).toNat * 5 + 4, none⟩) (Kd.R_far (p := ⟨go26, ((rd l1 x14_1) : Int).toNat * 5 + 3, none⟩) (Kd.R_far (p := ⟨go26, ((rd l1 x14_1) : Int).toNat * 5 + 2, none⟩) (Kd.R_far (p := ⟨go26, ((rd l1 x14_1) : Int).toNat * 5 + 1, none⟩) (Kd.R_far (p := ⟨go26, ((rd l1 x14_1) : Int).toNat * 5, none⟩) (Kd.R_types HO_237004.out GG26.out (by decide)) (fun _ hk => hk.2) (.int .i64 t240)) (fun _ hk => hk.2) (.int .i64 t241)) (fun _ hk => hk.2) (.int .i64 t242)) (fun _ hk => hk.2) (.int .i64 t243)) (fun _ hk => hk.2) (.int .i64 t244)) (fun _ hk => ⟨hk.1.1, hk.1.2⟩)⟩, ⟨rr HQ30⟩, ⟨by (with_reducible repeat (first | apply Kd.R_alloc | apply Kd.R_drewN | apply Kd.R_drew)); exact Kd.R_mono (Kd.R_far (p := ⟨go26, ((rd l1 x14_1) : Int).toNat * 5 + 4, none⟩) (Kd.R_far (p := ⟨go26, ((rd l1 x14_1) : Int).toNat * 5 + 3, none⟩) (Kd.R_far (p := ⟨go26, ((rd l1 x14_1) : Int).toNat * 5 + 2, none⟩) (Kd.R_far (p := ⟨go26, ((rd l1 x14_1) : Int).toNat * 5 + 1, none⟩) (Kd.R_far (p := ⟨go26, ((rd l1 x14_1) : Int).toNat * 5, none⟩) (Kd.R_types HO_237007.out GG26.out (by decide)) (fun _ hk => hk.2) (.int .i64 t240)) (fun _ hk => hk.2) (.int .i64 t241)) (fun _ hk => hk.2) (.int .i64 t242)) (fun _ hk => hk.2) (.int .i64 t243)) (fun _ hk => hk.2) (.int .i64 t244)) (fun _ hk => ⟨hk.1.1, hk.1.2⟩)⟩, ⟨by (with_reducible repeat (first | apply Kd.R_alloc | apply Kd.R_drewN | apply Kd.R_drew)); exact Kd.R_mono (Kd.R_far (p := ⟨go26, ((rd l1 x14_1) : Int).toNat * 5 + 4, none⟩) (Kd.R_far (p := ⟨go26, ((rd l1 x14_1) : Int).toNat * 5 + 3, none⟩) (Kd.R_far (p := ⟨go26, ((rd l1 x14_1) : Int).toNat * 5 + 2, none⟩) (Kd.R_far (p := ⟨go26, ((rd l1 x14_1) : Int).toNat * 5 + 1, none⟩) (Kd.R_far (p := ⟨go26, ((rd l1 x14_1) : Int).toNat * 5, none⟩) (Kd.R_types HO_237008.out GG26.out (by decide)) (fun _ hk => hk.2) (.int .i64 t240)) (fun _ hk => hk.2) (.int .i64 t241)) (fun _ hk => hk.2) (.int .i64 t242)) (fun _ hk => hk.2) (.int .i64 t243)) (fun _ hk => hk.2) (.int .i64 t244)) (fun _ hk => ⟨hk.1.1, hk.1.2⟩)⟩, ⟨by (with_reducible repeat (first | refine blk_drewN ?_ _ | refine blk_drew ?_ | refine blk_alloc ?_ _)); refine blk_far ?_ (by have h_ := Kd.R_ne HO_237006.out BK215.out (by decide); intro e_; exact h_ (by rw [e_]; rfl)) _; (with_reducible repeat (first | refine blk_drewN ?_ _ | refine blk_drew ?_ | refine blk_alloc ?_ _)); refine blk_far ?_ (by have h_ := Kd.R_ne HO_237006.out BK215.out (by decide); intro e_; exact h_ (by rw [e_]; rfl)) _; (with_reducible repeat (first | refine blk_drewN ?_ _ | refine blk_drew ?_ | refine blk_alloc ?_ _)); refine blk_far ?_ (by have h_ := Kd.R_ne HO_237006.out BK215.out (by decide); intro e_; exact h_ (by rw [e_]; rfl)) _; (with_reducible repeat (first | refine blk_drewN ?_ _ | refine blk_drew ?_ | refine blk_alloc ?_ _)); refine blk_far ?_ (by have h_ := Kd.R_ne HO_237006.out BK215.out (by decide); intro e_; exact h_ (by rw [e_]; rfl)) _; (with_reducible repeat (first | refine blk_drewN ?_ _ | refine blk_drew ?_ | refine blk_alloc ?_ _)); refine blk_far ?_ (by have h_ := Kd.R_ne HO_237006.out BK215.out (by decide); intro e_; exact h_ (by rw [e_]; rfl)) _; (with_reducible repeat (first | refine blk_drewN ?_ _ | refine blk_drew ?_ | refine blk_alloc ?_ _)); exact BK215.out⟩, ⟨by (with_reducible repeat (first | refine blk_drewN ?_ _ | refine blk_drew ?_ | refine blk_alloc ?_ _)); refine blk_far ?_ (by have h_ := Kd.R_ne HO_237006.out BK216.out (by decide); intro e_; exact h_ (by rw [e_]; rfl)) _; (with_reducible repeat (first | refine blk_drewN ?_ _ | refine blk_drew ?_ | refine blk_alloc ?_ _)); refine blk_far ?_ (by have h_ := Kd.R_ne HO_237006.out BK216.out (by decide); intro e_; exact h_ (by rw [e_]; rfl)) _; (with_reducible repeat (first | refine blk_drewN ?_ _ | refine blk_drew ?_ | refine blk_alloc ?_ _)); refine blk_far ?_ (by have h_ := Kd.R_ne HO_237006.out BK216.out (by decide); intro e_; exact h_ (by rw [e_]; rfl)) _; (with_reducible repeat (first | refine blk_drewN ?_ _ | refine blk_drew ?_ | refine blk_alloc ?_ _)); refine blk_far ?_ (by have h_ := Kd.R_ne HO_237006.out BK216.out (by decide); intro e_; exact h_ (by rw [e_]; rfl)) _; (with_reducible repeat (first | refine blk_drewN ?_ _ | refine blk_drew ?_ | refine blk_alloc ?_ _)); refine blk_far ?_ (by have h_ := Kd.R_ne HO_237006.out BK216.out (by decide); intro e_; exact h_ (by rw [e_]; rfl)) _; (with_reducible repeat (first | refine blk_drewN ?_ _ | refine blk_drew ?_ | refine blk_alloc ?_ _)); exact BK216.out⟩, ⟨by (with_reducible repeat (first | refine blk_drewN ?_ _ | refine blk_drew ?_ | refine blk_alloc ?_ _)); refine blk_far ?_ (by have h_ := Kd.R_ne HO_237006.out BK236.out (by decide); intro e_; exact h_ (by rw [e_]; rfl)) _; (with_reducible repeat (first | refine blk_drewN ?_ _ | refine blk_drew ?_ | refine blk_alloc ?_ _)); refine blk_far ?_ (by have h_ := Kd.R_ne HO_237006.out BK236.out (by decide); intro e_; exact h_ (by rw [e_]; rfl)) _; (with_reducible repeat (first | refine blk_drewN ?_ _ | refine blk_drew ?_ | refine blk_alloc ?_ _)); refine blk_far ?_ (by have h_ := Kd.R_ne HO_237006.out BK236.out (by decide); intro e_; exact h_ (by rw [e_]; rfl)) _; (with_reducible repeat (first | refine blk_drewN ?_ _ | refine blk_drew ?_ | refine blk_alloc ?_ _)); refine blk_far ?_ (by have h_ := Kd.R_ne HO_237006.out BK236.out (by decide); intro e_; exact h_ (by rw [e_]; rfl)) _; (with_reducible repeat (first | refine blk_drewN ?_ _ | refine blk_drew ?_ | refine blk_alloc ?_ _)); refine blk_far ?_ (by have h_ := Kd.R_ne HO_237006.out BK236.out (by decide); intro e_; exact h_ (by rw [e_]; rfl)) _; (with_reducible repeat (first | refine blk_drewN ?_ _ | refine blk_drew ?_ | refine blk_alloc ?_ _)); exact BK236.out⟩, ⟨bb HB⟩⟩
        ·rw [if_neg c24] at H
         exact absurd H (by simp)
       ·rw [if_neg c23] at H
        exact absurd H (by simp)
      ·rw [if_neg c22] at H
       exact absurd H (by simp)
     ·rw [if_neg c21] at H
      exact absurd H (by simp)
    ·rw [if_neg c20] at H
     exact absurd H (by simp)
   ·rw [if_neg c19] at H
    have c19b0 : decide (x14_1 < (l1.length : Int)) = false := decide_eq_false c19
    clear c19
    simp only [Option.some.injEq, Prod.mk.injEq] at H
    obtain ⟨rfl, rfl, rfl, rfl, rfl, rfl, rfl, rfl, rfl⟩ := H
    have hnb31 := NB236_215.out
    have hnc31 := NB215_236.out
    have hnb32 := NB236_216.out
    have hnc32 := NB216_236.out
    have ⟨hcz33_0, hcz33_1, hcz33_2, hcz33_3, hcz33_4, hcz33_5, hcz33_6, hcz33_7, hcz33_8, hfz33_0, hfz33_1, hfz33_2, hfz33_3, hfz33_4, hfz33_5, hfz33_6, hfz33_7, hfz33_8⟩ := rz9 BK236
    have hnb34 := NB216_215.out
    have hnc34 := NB215_216.out
    have ⟨hcz35_0, hcz35_1, hcz35_2, hcz35_3, hcz35_4, hcz35_5, hcz35_6, hcz35_7, hcz35_8, hfz35_0, hfz35_1, hfz35_2, hfz35_3, hfz35_4, hfz35_5, hfz35_6, hfz35_7, hfz35_8⟩ := rz9 BK216
    obtain ⟨Ao36, co36, eo36⟩ := Kd.R_slice HO_237006.out
    subst eo36
    go_wp2
    refine bodyPost_ret (results_cell_row rfl _ _ gb216 34 #[.slice Ao11 t217.length co11, .int .i64 t220, .int .i64 t221, .int .i64 t222, .slice Ao15 t223.length co15, .bool t226, .slice Ao36 x237006_1.length co36, .slice Ao17 t230.length co17, .slice Ao18 t233.length co18] (0, 0) _ rfl (by (with_reducible repeat (first | refine blk_drewN ?_ _ | refine blk_drew ?_ | refine blk_alloc ?_ _)); refine blk_put (cs := #[.slice Ao11 t217.length co11, .int .i64 t220, .int .i64 t221, .int .i64 t222, .slice Ao15 t223.length co15, .bool t226, .slice Ao36 x237006_1.length co36, .slice Ao17 t230.length co17, .slice none 0 0]) ?_ 8 _ rfl; (with_reducible repeat (first | refine blk_drewN ?_ _ | refine blk_drew ?_ | refine blk_alloc ?_ _)); refine blk_put (cs := #[.slice Ao11 t217.length co11, .int .i64 t220, .int .i64 t221, .int .i64 t222, .slice Ao15 t223.length co15, .bool t226, .slice Ao36 x237006_1.length co36, .slice none 0 0, .slice none 0 0]) ?_ 7 _ rfl; (with_reducible repeat (first | refine blk_drewN ?_ _ | refine blk_drew ?_ | refine blk_alloc ?_ _)); refine blk_put (cs := #[.slice Ao11 t217.length co11, .int .i64 t220, .int .i64 t221, .int .i64 t222, .slice Ao15 t223.length co15, .bool t226, .slice none 0 0, .slice none 0 0, .slice none 0 0]) ?_ 6 _ rfl; (with_reducible repeat (first | refine blk_drewN ?_ _ | refine blk_drew ?_ | refine blk_alloc ?_ _)); refine blk_put (cs := #[.slice Ao11 t217.length co11, .int .i64 t220, .int .i64 t221, .int .i64 t222, .slice Ao15 t223.length co15, .bool false, .slice none 0 0, .slice none 0 0, .slice none 0 0]) ?_ 5 _ rfl; (with_reducible repeat (first | refine blk_drewN ?_ _ | refine blk_drew ?_ | refine blk_alloc ?_ _)); refine blk_put (cs := #[.slice Ao11 t217.length co11, .int .i64 t220, .int .i64 t221, .int .i64 t222, .slice none 0 0, .bool false, .slice none 0 0, .slice none 0 0, .slice none 0 0]) ?_ 4 _ rfl; (with_reducible repeat (first | refine blk_drewN ?_ _ | refine blk_drew ?_ | refine blk_alloc ?_ _)); refine blk_put (cs := #[.slice Ao11 t217.length co11, .int .i64 t220, .int .i64 t221, .int .i64 0, .slice none 0 0, .bool false, .slice none 0 0, .slice none 0 0, .slice none 0 0]) ?_ 3 _ rfl; (with_reducible repeat (first | refine blk_drewN ?_ _ | refine blk_drew ?_ | refine blk_alloc ?_ _)); refine blk_put (cs := #[.slice Ao11 t217.length co11, .int .i64 t220, .int .i64 0, .int .i64 0, .slice none 0 0, .bool false, .slice none 0 0, .slice none 0 0, .slice none 0 0]) ?_ 2 _ rfl; (with_reducible repeat (first | refine blk_drewN ?_ _ | refine blk_drew ?_ | refine blk_alloc ?_ _)); refine blk_put (cs := #[.slice Ao11 t217.length co11, .int .i64 0, .int .i64 0, .int .i64 0, .slice none 0 0, .bool false, .slice none 0 0, .slice none 0 0, .slice none 0 0]) ?_ 1 _ rfl; (with_reducible repeat (first | refine blk_drewN ?_ _ | refine blk_drew ?_ | refine blk_alloc ?_ _)); refine blk_put (cs := #[.slice none 0 0, .int .i64 0, .int .i64 0, .int .i64 0, .slice none 0 0, .bool false, .slice none 0 0, .slice none 0 0, .slice none 0 0]) ?_ 0 _ rfl; (with_reducible repeat (first | refine blk_drewN ?_ _ | refine blk_drew ?_ | refine blk_alloc ?_ _)); exact BK216.out) Try.underlying34 rfl (by kernel_rfl)) rfl ?_
    exact ⟨_, _, _, _, _, ee, rf HO_237000 BK216 (fun _ hk => trivial), rf HO_237004 BK216 (fun _ hk => ⟨hk.1.1, hk.1.2⟩), rf HO_237006 BK216 (fun _ hk => trivial), rf HO_237007 BK216 (fun _ hk => ⟨hk.1.1, hk.1.2⟩), rf HO_237008 BK216 (fun _ hk => ⟨hk.1.1, hk.1.2⟩), bb HB⟩
end Go.Proofs.Ytoaepoffooomnaa.Q
namespace Go.Proofs.Ytoaepoffooomnaa.Q
open Go.RowKit Go.Proofs.YtoaepoffooomnaaW.PrintWords Go.Proofs.YtoaepoffooomnaaW.PrintLast Go.Proofs.YtoaepoffooomnaaW.PrintMore
attribute [local go_sem] max2_int min2_int max_two min_two max_three min_three max_four min_four
set_option linter.unusedVariables false
set_option linter.unusedSimpArgs false
def spec_WithOutcome.f (k : Nat) (l0_0 : List (S87)) (a0_1 : Int) (a0_2 : Int) (a0_3 : Int) (l0_4 : List Int) (a0_5 : Bool) (l0_6 : List (S75)) (l0_7 : List Int) (l0_8 : List Int) (l1 : List Int) : Option ((List (S87)) × Int × Int × Int × List Int × Bool × (List (S75)) × List Int × List Int × Bool) := (spec_IsOutcome.f k l0_0 a0_1 a0_2 a0_3 l0_4 a0_5 l0_6 l0_7 l0_8 l1).bind fun t248 => (if t248 = true then ((spec_OpenGames.f k l0_6).bind fun t249 => ((spec_l16With.f k l0_0 a0_1 a0_2 a0_3 l0_4 a0_5 l0_6 l0_7 l0_8 t249 l1).bind fun bt252 => (some (bt252.1, bt252.2.1, bt252.2.2.1, bt252.2.2.2.1, bt252.2.2.2.2.1, bt252.2.2.2.2.2.1, bt252.2.2.2.2.2.2.1, bt252.2.2.2.2.2.2.2.1, bt252.2.2.2.2.2.2.2.2, true)))) else (some (([] : List (S87)), 0, 0, 0, ([] : List Int), false, ([] : List (S75)), ([] : List Int), ([] : List Int), false)))
def spec_WithOutcome.T3 : Bool × List (List Nat × List Nat) := (true, [([], []), ([], []), ([1], [1]), ([2], [2]), ([], []), ([0, 3, 4, 3], [0, 3, 4]), ([5, 5, 0, 1, 2, 3, 4, 5], [5]), ([6, 0, 1, 2, 3, 4, 5, 6], [])])
def spec_WithOutcome.B3 : List Nat := [0, 0, 2, 6, 0, 31, 63, 127]
theorem spec_WithOutcome.tab3 : rtab .any (opsOf Try.f7 3) = spec_WithOutcome.T3 := by kernel_rfl
theorem spec_WithOutcome.bits3 : waitsOk spec_WithOutcome.T3.2 spec_WithOutcome.B3 = true := by kernel_rfl
set_option maxHeartbeats 8000000 in
set_option maxRecDepth 100000 in
theorem spec_WithOutcome.calls (k : Nat) (A0_0 : Option Addr) (c0_0 : Nat) (l0_0 : List (S87)) (a0_1 : Int) (a0_2 : Int) (a0_3 : Int) (A0_4 : Option Addr) (c0_4 : Nat) (l0_4 : List Int) (a0_5 : Bool) (A0_6 : Option Addr) (c0_6 : Nat) (l0_6 : List (S75)) (A0_7 : Option Addr) (c0_7 : Nat) (l0_7 : List Int) (A0_8 : Option Addr) (c0_8 : Nat) (l0_8 : List Int) (A1 : Option Addr) (c1 : Nat) (l1 : List Int) (r1 : List (S87)) (r2 : Int) (r3 : Int) (r4 : Int) (r5 : List Int) (r6 : Bool) (r7 : List (S75)) (r8 : List Int) (r9 : List Int) (r10 : Bool) (w : World) (hr0_0 : Kd.C k87 w A0_0 l0_0.length l0_0) (hc0_0 : l0_0.length ≤ c0_0) (hr0_4 : Kd.C (Kd.int .i64) w A0_4 l0_4.length l0_4) (hc0_4 : l0_4.length ≤ c0_4) (hr0_6 : Kd.C k75 w A0_6 l0_6.length l0_6) (hc0_6 : l0_6.length ≤ c0_6) (hr0_7 : Kd.C (Kd.int .i64) w A0_7 l0_7.length l0_7) (hc0_7 : l0_7.length ≤ c0_7) (hr0_8 : Kd.C (Kd.int .i64) w A0_8 l0_8.length l0_8) (hc0_8 : l0_8.length ≤ c0_8) (hr1 : Kd.C (Kd.int .i64) w A1 l1.length l1) (hc1 : l1.length ≤ c1) (h : spec_WithOutcome.f k l0_0 a0_1 a0_2 a0_3 l0_4 a0_5 l0_6 l0_7 l0_8 l1 = some (r1, r2, r3, r4, r5, r6, r7, r8, r9, r10)) :
  Calls Try.prog 7 #[.agg #[.slice A0_0 l0_0.length c0_0, .int .i64 a0_1, .int .i64 a0_2, .int .i64 a0_3, .slice A0_4 l0_4.length c0_4, .bool a0_5, .slice A0_6 l0_6.length c0_6, .slice A0_7 l0_7.length c0_7, .slice A0_8 l0_8.length c0_8], .slice A1 l1.length c1] w fun e w' => ∃ v0_ v4_ v6_ v7_ v8_ : Value, e = .returned (.tuple #[.agg #[v0_, .int .i64 r2, .int .i64 r3, .int .i64 r4, v4_, .bool r6, v6_, v7_, v8_], .bool r10]) ∧ Kd.R k87 87 w' w.heap.size (fun _ => True) v0_ r1 ∧ Kd.R (Kd.int .i64) 3 w' w.heap.size (fun k_ => some k_ ≠ (v7_ : Value).ownBlock ∧ some k_ ≠ (v8_ : Value).ownBlock) v4_ r5 ∧ Kd.R k75 75 w' w.heap.size (fun _ => True) v6_ r7 ∧ Kd.R (Kd.int .i64) 3 w' w.heap.size (fun k_ => some k_ ≠ (v4_ : Value).ownBlock ∧ some k_ ≠ (v8_ : Value).ownBlock) v7_ r8 ∧ Kd.R (Kd.int .i64) 3 w' w.heap.size (fun k_ => some k_ ≠ (v4_ : Value).ownBlock ∧ some k_ ≠ (v7_ : Value).ownBlock) v8_ r9 ∧ Below w.heap.size w w' := by
 have hu34 := Try.underlying34
 have HR0_0 := Aside0.mk hr0_0
 have HC0_0 := Aside0.mk hc0_0
 clear hr0_0 hc0_0
 have HR0_4 := Aside0.mk hr0_4
 have HC0_4 := Aside0.mk hc0_4
 clear hr0_4 hc0_4
 have HR0_6 := Aside0.mk hr0_6
 have HC0_6 := Aside0.mk hc0_6
 clear hr0_6 hc0_6
 have HR0_7 := Aside0.mk hr0_7
 have HC0_7 := Aside0.mk hc0_7
 clear hr0_7 hc0_7
 have HR0_8 := Aside0.mk hr0_8
 have HC0_8 := Aside0.mk hc0_8
 clear hr0_8 hc0_8
 have HR1 := Aside0.mk hr1
 have HC1 := Aside0.mk hc1
 clear hr1 hc1
 have HB := Aside0.mk (Below.refl w.heap.size w)
 have H : ((spec_IsOutcome.f k l0_0 a0_1 a0_2 a0_3 l0_4 a0_5 l0_6 l0_7 l0_8 l1).bind fun t248 => (if t248 = true then ((spec_OpenGames.f k l0_6).bind fun t249 => ((spec_l16With.f k l0_0 a0_1 a0_2 a0_3 l0_4 a0_5 l0_6 l0_7 l0_8 t249 l1).bind fun bt252 => (some (bt252.1, bt252.2.1, bt252.2.2.1, bt252.2.2.2.1, bt252.2.2.2.2.1, bt252.2.2.2.2.2.1, bt252.2.2.2.2.2.2.1, bt252.2.2.2.2.2.2.2.1, bt252.2.2.2.2.2.2.2.2, true)))) else (some (([] : List (S87)), 0, 0, 0, ([] : List Int), false, ([] : List (S75)), ([] : List Int), ([] : List Int), false)))) = some (r1, r2, r3, r4, r5, r6, r7, r8, r9, r10) := h
 clear h
 replace H := Option.bind_eq_some_iff.mp H
 obtain ⟨t248, A30, H⟩ := H
 replace H : (if t248 = true then ((spec_OpenGames.f k l0_6).bind fun t249 => ((spec_l16With.f k l0_0 a0_1 a0_2 a0_3 l0_4 a0_5 l0_6 l0_7 l0_8 t249 l1).bind fun bt252 => (some (bt252.1, bt252.2.1, bt252.2.2.1, bt252.2.2.2.1, bt252.2.2.2.2.1, bt252.2.2.2.2.2.1, bt252.2.2.2.2.2.2.1, bt252.2.2.2.2.2.2.2.1, bt252.2.2.2.2.2.2.2.2, true)))) else (some (([] : List (S87)), 0, 0, 0, ([] : List Int), false, ([] : List (S75)), ([] : List Int), ([] : List Int), false))) = some (r1, r2, r3, r4, r5, r6, r7, r8, r9, r10) := H
 have A3 := Aside0.mk A30
 clear A30
 by_cases c4 : t248 = true
 ·subst c4
  have H1 : ((spec_OpenGames.f k l0_6).bind fun t249 => ((spec_l16With.f k l0_0 a0_1 a0_2 a0_3 l0_4 a0_5 l0_6 l0_7 l0_8 t249 l1).bind fun bt252 => (some (bt252.1, bt252.2.1, bt252.2.2.1, bt252.2.2.2.1, bt252.2.2.2.2.1, bt252.2.2.2.2.2.1, bt252.2.2.2.2.2.2.1, bt252.2.2.2.2.2.2.2.1, bt252.2.2.2.2.2.2.2.2, true)))) = some (r1, r2, r3, r4, r5, r6, r7, r8, r9, r10) := by rw [if_pos rfl] at H; exact H
  clear H
  have H := H1
  clear H1
  replace H := Option.bind_eq_some_iff.mp H
  obtain ⟨t249, A50, H⟩ := H
  replace H : ((spec_l16With.f k l0_0 a0_1 a0_2 a0_3 l0_4 a0_5 l0_6 l0_7 l0_8 t249 l1).bind fun bt252 => (some (bt252.1, bt252.2.1, bt252.2.2.1, bt252.2.2.2.1, bt252.2.2.2.2.1, bt252.2.2.2.2.2.1, bt252.2.2.2.2.2.2.1, bt252.2.2.2.2.2.2.2.1, bt252.2.2.2.2.2.2.2.2, true))) = some (r1, r2, r3, r4, r5, r6, r7, r8, r9, r10) := H
  have A5 := Aside0.mk A50
  clear A50
  replace H := Option.bind_eq_some_iff.mp H
  obtain ⟨⟨t252, t255, t256, t257, t258, t261, t262, t265, t268⟩, A60, H⟩ := H
  replace H : (some (t252, t255, t256, t257, t258, t261, t262, t265, t268, true)) = some (r1, r2, r3, r4, r5, r6, r7, r8, r9, r10) := H
  have A6 := Aside0.mk A60
  clear A60
  simp only [Option.some.injEq, Prod.mk.injEq] at H
  obtain ⟨rfl, rfl, rfl, rfl, rfl, rfl, rfl, rfl, rfl, rfl⟩ := H
  go_enter Try.func7, Try.ntmps7
  try go_wp2_with (first | ((with_reducible refine gate_dst (N := 2) rfl ?_); refine bx (N := 2) (cs := #[.slice A0_0 l0_0.length c0_0, .int .i64 a0_1, .int .i64 a0_2, .int .i64 a0_3, .slice A0_4 l0_4.length c0_4, .bool a0_5, .slice A0_6 l0_6.length c0_6, .slice A0_7 l0_7.length c0_7, .slice A0_8 l0_8.length c0_8]) (t := 34) ?_; intro gb246 hg w7 hbox hb; have BK246 := Aside0.mk (hbox); have GW246 := gs hg HB; have GE246 := gs hg HB; replace HB := hs_ HB hb; clear hb hbox hg) | ((with_reducible refine gate_dst (N := 4) rfl ?_); refine bx (N := 4) (cs := #[.slice none 0 0, .int .i64 0, .int .i64 0, .int .i64 0, .slice none 0 0, .bool false, .slice none 0 0, .slice none 0 0, .slice none 0 0]) (t := 34) ?_; intro gb247 hg w8 hbox hb; have BK247 := Aside0.mk (hbox); have GW247 := gs hg HB; have GE247 := gs hg HB; replace HB := hs_ HB hb; have NB246_247 := gn hg BK246; have NB247_246 := gm hg BK246; replace BK246 := kb BK246 hb; clear hb hbox hg; have hnb9 := NB246_247.out; have hnc9 := NB247_246.out; have ⟨hcz10_0, hcz10_1, hcz10_2, hcz10_3, hcz10_4, hcz10_5, hcz10_6, hcz10_7, hcz10_8, hfz10_0, hfz10_1, hfz10_2, hfz10_3, hfz10_4, hfz10_5, hfz10_6, hfz10_7, hfz10_8⟩ := rz9 BK246) | ((with_reducible refine gate_callee (f := 25) rfl ?_); refine gl (some 8) Try.func25 #[.agg #[.slice A0_0 l0_0.length c0_0, .int .i64 a0_1, .int .i64 a0_2, .int .i64 a0_3, .slice A0_4 l0_4.length c0_4, .bool a0_5, .slice A0_6 l0_6.length c0_6, .slice A0_7 l0_7.length c0_7, .slice A0_8 l0_8.length c0_8], .slice A1 l1.length c1] ?_; (with_reducible refine (spec_IsOutcome.calls k _ _ l0_0 a0_1 a0_2 a0_3 _ _ l0_4 a0_5 _ _ l0_6 _ _ l0_7 _ _ l0_8 _ _ l1 true _ ?side1 ?side2 ?side3 ?side4 ?side5 ?side6 ?side7 ?side8 ?side9 ?side10 ?side11 ?side12 A3.out).mono ?_); (case side1 => exact cc HR0_0 HB); (case side2 => exact HC0_0.out); (case side3 => exact cc HR0_4 HB); (case side4 => exact HC0_4.out); (case side5 => exact cc HR0_6 HB); (case side6 => exact HC0_6.out); (case side7 => exact cc HR0_7 HB); (case side8 => exact HC0_7.out); (case side9 => exact cc HR0_8 HB); (case side10 => exact HC0_8.out); (case side11 => exact cc HR1 HB); (case side12 => exact HC1.out); rintro e w11 ⟨rfl, hb⟩; refine ⟨_, rfl, ?_⟩; replace BK246 := kb BK246 hb; replace BK247 := kb BK247 hb; replace HB := hs_ HB hb; (try clear hb hb2 hk hi)))
  replace BK246 := Aside0.mk (blk_drew BK246.out)
  replace BK247 := Aside0.mk (blk_drew BK247.out)
  replace HB := Aside0.mk (below_drew1 HB.out)
  refine start_ (n := 8) (S := fun w' => w'.cell? ⟨gb246, 0, none⟩ = some (.slice A0_0 l0_0.length c0_0) ∧ w'.cell? ⟨gb246, 1, none⟩ = some (.int .i64 a0_1) ∧ w'.cell? ⟨gb246, 2, none⟩ = some (.int .i64 a0_2) ∧ w'.cell? ⟨gb246, 3, none⟩ = some (.int .i64 a0_3) ∧ w'.cell? ⟨gb246, 4, none⟩ = some (.slice A0_4 l0_4.length c0_4) ∧ w'.cell? ⟨gb246, 5, none⟩ = some (.bool a0_5) ∧ w'.cell? ⟨gb246, 6, none⟩ = some (.slice A0_6 l0_6.length c0_6) ∧ w'.cell? ⟨gb246, 7, none⟩ = some (.slice A0_7 l0_7.length c0_7) ∧ w'.cell? ⟨gb246, 8, none⟩ = some (.slice A0_8 l0_8.length c0_8)) (ds := []) #[false, false, false, false, false, false, false, false] (by kernel_rfl) rfl rfl ⟨(blk_cell BK246.out 0).trans rfl, (blk_cell BK246.out 1).trans rfl, (blk_cell BK246.out 2).trans rfl, (blk_cell BK246.out 3).trans rfl, (blk_cell BK246.out 4).trans rfl, (blk_cell BK246.out 5).trans rfl, (blk_cell BK246.out 6).trans rfl, (blk_cell BK246.out 7).trans rfl, (blk_cell BK246.out 8).trans rfl⟩ (fun hHeld => ?_); refine with_tabW spec_WithOutcome.tab3 spec_WithOutcome.bits3 (fun HT_ HW_ => ?_)
  generalize w11.drew = w12 at BK246 BK247 HB hHeld ⊢
  refine pz_ 1 12 ?_
  refine pz_ 4 15 ?_
  refine take_ (i := 0) (N := some 11) (v := ?_) (a' := ?_) #[true, true, false, false, true, false, false, false] rfl rfl (take_ofW HT_.out HW_.out (by kernel_rfl)) (fun _ _ _ h => h) (Or.inl ⟨by rfl, ?_⟩) hHeld ?_ ?_
  rotate_left
  ·rintro w' ⟨s0, s1, s2, s3, s4, s5, s6, s7, s8⟩
   go_simp
   with_reducible rfl
  rotate_left
  ·simp only [Act.put, List.setIfInBounds_toArray, List.set_cons_zero, List.set_cons_succ, i64_w, i32_w]
   rfl
  refine take_ (i := 2) (N := some 13) (v := ?_) (a' := ?_) #[true, true, true, false, true, false, false, false] rfl rfl (take_ofW HT_.out HW_.out (by kernel_rfl)) (fun _ _ _ h => h) (Or.inl ⟨by rfl, ?_⟩) hHeld ?_ ?_
  rotate_left
  ·rintro w' ⟨s0, s1, s2, s3, s4, s5, s6, s7, s8⟩
   go_simp
   with_reducible rfl
  rotate_left
  ·simp only [Act.put, List.setIfInBounds_toArray, List.set_cons_zero, List.set_cons_succ, i64_w, i32_w]
   rfl
  refine one_ (i := 3) (N := some 14) #[true, true, true, true, true, false, false, false] rfl rfl (one_of HT_.out (by kernel_rfl)) (by decide) (fun K hK => ?_)
  refine goes_ Try.func27 (by kernel_rfl) rfl #[.slice A0_6 l0_6.length c0_6] (by rfl) rfl rfl (by (try simp only [List.map_toArray, List.map_cons, List.map_nil]); first | done | rfl | (simp only [List.length_drop, List.length_take]; rfl)) ?_
  with_reducible refine (spec_OpenGames.calls k _ _ l0_6 t249 _ ?side1 ?side2 A5.out).mono ?_
  (case side1 => exact cc HR0_6 HB)
  (case side2 => exact HC0_6.out)
  rintro e w13 ⟨v250, rfl, ho0, hb⟩
  refine ⟨_, rfl, ?_⟩
  have HO251 := kl ho0 HB
  replace BK246 := kb BK246 hb
  replace BK247 := kb BK247 hb
  replace HB := hs_ HB hb
  (try clear hb hb2 hk hi ho0)
  obtain ⟨Ao14, co14, eo14⟩ := Kd.R_slice HO251.out
  (first | subst eo14 | (injection eo14 with f1_ f2_ f3_; have f4_ := f1_.symm; have f5_ := f3_.symm; clear f1_ f2_ f3_; subst f4_; subst f5_))
  refine hK.out _ _ ⟨(blk_cell BK246.out 0).trans rfl, (blk_cell BK246.out 1).trans rfl, (blk_cell BK246.out 2).trans rfl, (blk_cell BK246.out 3).trans rfl, (blk_cell BK246.out 4).trans rfl, (blk_cell BK246.out 5).trans rfl, (blk_cell BK246.out 6).trans rfl, (blk_cell BK246.out 7).trans rfl, (blk_cell BK246.out 8).trans rfl⟩ (fun hHeld => ?_)
  clear hK K
  refine norm_ (a' := ?_) ?_ ?_
  rotate_left
  ·show Act.put _ (some 14) _ = _
   simp only [Act.put, List.setIfInBounds_toArray, List.set_cons_zero, List.set_cons_succ, i64_w, i32_w]
   rfl
  refine one_ (i := 5) (N := some 16) #[true, true, true, true, true, true, false, false] rfl rfl (one_of HT_.out (by kernel_rfl)) (by decide) (fun K hK => ?_)
  refine goes_ Try.func26 (by kernel_rfl) rfl #[.agg #[.slice A0_0 l0_0.length c0_0, .int .i64 a0_1, .int .i64 a0_2, .int .i64 a0_3, .slice A0_4 l0_4.length c0_4, .bool a0_5, .slice A0_6 l0_6.length c0_6, .slice A0_7 l0_7.length c0_7, .slice A0_8 l0_8.length c0_8], .slice Ao14 t249.length co14, .slice A1 l1.length c1] (by rfl) rfl rfl (by (try simp only [List.map_toArray, List.map_cons, List.map_nil]); first | done | rfl | (simp only [List.length_drop, List.length_take]; rfl)) ?_
  with_reducible refine (spec_l16With.calls k _ _ l0_0 a0_1 a0_2 a0_3 _ _ l0_4 a0_5 _ _ l0_6 _ _ l0_7 _ _ l0_8 _ _ t249 _ _ l1 t252 t255 t256 t257 t258 t261 t262 t265 t268 _ ?side1 ?side2 ?side3 ?side4 ?side5 ?side6 ?side7 ?side8 ?side9 ?side10 ?side11 ?side12 ?side13 ?side14 A6.out).mono ?_
  (case side1 => exact cc HR0_0 HB)
  (case side2 => exact HC0_0.out)
  (case side3 => exact cc HR0_4 HB)
  (case side4 => exact HC0_4.out)
  (case side5 => exact cc HR0_6 HB)
  (case side6 => exact HC0_6.out)
  (case side7 => exact cc HR0_7 HB)
  (case side8 => exact HC0_7.out)
  (case side9 => exact cc HR0_8 HB)
  (case side10 => exact HC0_8.out)
  (case side11 => exact cr HO251)
  (case side12 => exact (Kd.R_reads' HO251.out).2.1)
  (case side13 => exact cc HR1 HB)
  (case side14 => exact HC1.out)
  rintro e w15 ⟨v253, v259, v263, v266, v269, rfl, ho0, ho1, ho2, ho3, ho4, hb⟩
  refine ⟨_, rfl, ?_⟩
  have HO254 := kl ho0 HB
  have HO260 := Aside0.mk (Kd.R_lower (Kd.R_new' ho1 (rt HO251)) (below_size (bb HB)))
  have HO264 := kl ho2 HB
  have HO267 := Aside0.mk (Kd.R_lower (Kd.R_new' ho3 (rt HO251)) (below_size (bb HB)))
  have HO270 := Aside0.mk (Kd.R_lower (Kd.R_new' ho4 (rt HO251)) (below_size (bb HB)))
  replace HO251 := Aside0.mk (Kd.R_mono (Kd.R_told (Kd.R_told (Kd.R_told (Kd.R_old (rr HO251) hb) (Kd.R_base ho1)) (Kd.R_base ho3)) (Kd.R_base ho4)) (fun _ h_ => h_.1))
  replace BK246 := kb BK246 hb
  replace BK247 := kb BK247 hb
  replace HB := hs_ HB hb
  (try clear hb hb2 hk hi ho0 ho1 ho2 ho3 ho4)
  obtain ⟨Ao16, co16, eo16⟩ := Kd.R_slice HO254.out
  (first | subst eo16 | (injection eo16 with f1_ f2_ f3_; have f4_ := f1_.symm; have f5_ := f3_.symm; clear f1_ f2_ f3_; subst f4_; subst f5_))
  obtain ⟨Ao21, co21, eo21⟩ := Kd.R_slice HO260.out
  (first | subst eo21 | (injection eo21 with f1_ f2_ f3_; have f4_ := f1_.symm; have f5_ := f3_.symm; clear f1_ f2_ f3_; subst f4_; subst f5_))
  obtain ⟨Ao24, co24, eo24⟩ := Kd.R_slice HO264.out
  (first | subst eo24 | (injection eo24 with f1_ f2_ f3_; have f4_ := f1_.symm; have f5_ := f3_.symm; clear f1_ f2_ f3_; subst f4_; subst f5_))
  obtain ⟨Ao26, co26, eo26⟩ := Kd.R_slice HO267.out
  (first | subst eo26 | (injection eo26 with f1_ f2_ f3_; have f4_ := f1_.symm; have f5_ := f3_.symm; clear f1_ f2_ f3_; subst f4_; subst f5_))
  obtain ⟨Ao28, co28, eo28⟩ := Kd.R_slice HO270.out
  (first | subst eo28 | (injection eo28 with f1_ f2_ f3_; have f4_ := f1_.symm; have f5_ := f3_.symm; clear f1_ f2_ f3_; subst f4_; subst f5_))
  refine hK.out _ _ ⟨(blk_cell BK246.out 0).trans rfl, (blk_cell BK246.out 1).trans rfl, (blk_cell BK246.out 2).trans rfl, (blk_cell BK246.out 3).trans rfl, (blk_cell BK246.out 4).trans rfl, (blk_cell BK246.out 5).trans rfl, (blk_cell BK246.out 6).trans rfl, (blk_cell BK246.out 7).trans rfl, (blk_cell BK246.out 8).trans rfl⟩ (fun hHeld => ?_)
  clear hK K
  refine norm_ (a' := ?_) ?_ ?_
  rotate_left
  ·show Act.put _ (some 16) _ = _
   simp only [Act.put, List.setIfInBounds_toArray, List.set_cons_zero, List.set_cons_succ, i64_w, i32_w]
   rfl
  refine one_ (i := 6) (N := none) #[true, true, true, true, true, true, true, false] rfl rfl (one_of HT_.out (by kernel_rfl)) (by decide) (fun K hK => ?_)
  have hs17 : w15.cell? ⟨gb247, 0, none⟩ = some (.slice none 0 0) := (blk_cell BK247.out 0).trans rfl
  have hfs17 := blk_frozen BK247.out 0
  have hns17_0 := NB246_247.out
  have hms17_0 := NB247_246.out
  have hs18 : w15.cell? ⟨gb247, 1, none⟩ = some (.int .i64 0) := (blk_cell BK247.out 1).trans rfl
  have hfs18 := blk_frozen BK247.out 1
  have hns18_0 := NB246_247.out
  have hms18_0 := NB247_246.out
  have hs19 : w15.cell? ⟨gb247, 2, none⟩ = some (.int .i64 0) := (blk_cell BK247.out 2).trans rfl
  have hfs19 := blk_frozen BK247.out 2
  have hns19_0 := NB246_247.out
  have hms19_0 := NB247_246.out
  have hs20 : w15.cell? ⟨gb247, 3, none⟩ = some (.int .i64 0) := (blk_cell BK247.out 3).trans rfl
  have hfs20 := blk_frozen BK247.out 3
  have hns20_0 := NB246_247.out
  have hms20_0 := NB247_246.out
  have hs22 : w15.cell? ⟨gb247, 4, none⟩ = some (.slice none 0 0) := (blk_cell BK247.out 4).trans rfl
  have hfs22 := blk_frozen BK247.out 4
  have hns22_0 := NB246_247.out
  have hms22_0 := NB247_246.out
  have hs23 : w15.cell? ⟨gb247, 5, none⟩ = some (.bool false) := (blk_cell BK247.out 5).trans rfl
  have hfs23 := blk_frozen BK247.out 5
  have hns23_0 := NB246_247.out
  have hms23_0 := NB247_246.out
  have hs25 : w15.cell? ⟨gb247, 6, none⟩ = some (.slice none 0 0) := (blk_cell BK247.out 6).trans rfl
  have hfs25 := blk_frozen BK247.out 6
  have hns25_0 := NB246_247.out
  have hms25_0 := NB247_246.out
  have hs27 : w15.cell? ⟨gb247, 7, none⟩ = some (.slice none 0 0) := (blk_cell BK247.out 7).trans rfl
  have hfs27 := blk_frozen BK247.out 7
  have hns27_0 := NB246_247.out
  have hms27_0 := NB247_246.out
  have hs29 : w15.cell? ⟨gb247, 8, none⟩ = some (.slice none 0 0) := (blk_cell BK247.out 8).trans rfl
  have hfs29 := blk_frozen BK247.out 8
  have hns29_0 := NB246_247.out
  have hms29_0 := NB247_246.out
  refine skip_ (w1 := ?_) (by rfl) rfl ?_ ?_
  rotate_left
  ·go_simp
   rfl
  refine hK.out _ _ ⟨((cell_far (p := ⟨gb247, _, none⟩) NB246_247.out _).trans (((cell_far (p := ⟨gb247, _, none⟩) NB246_247.out _).trans (((cell_far (p := ⟨gb247, _, none⟩) NB246_247.out _).trans (((cell_far (p := ⟨gb247, _, none⟩) NB246_247.out _).trans (((cell_far (p := ⟨gb247, _, none⟩) NB246_247.out _).trans (((cell_far (p := ⟨gb247, _, none⟩) NB246_247.out _).trans (((cell_far (p := ⟨gb247, _, none⟩) NB246_247.out _).trans (((cell_far (p := ⟨gb247, _, none⟩) NB246_247.out _).trans (((cell_far (p := ⟨gb247, _, none⟩) NB246_247.out _).trans (hHeld.1)))))))))))))))))), ((cell_far (p := ⟨gb247, _, none⟩) NB246_247.out _).trans (((cell_far (p := ⟨gb247, _, none⟩) NB246_247.out _).trans (((cell_far (p := ⟨gb247, _, none⟩) NB246_247.out _).trans (((cell_far (p := ⟨gb247, _, none⟩) NB246_247.out _).trans (((cell_far (p := ⟨gb247, _, none⟩) NB246_247.out _).trans (((cell_far (p := ⟨gb247, _, none⟩) NB246_247.out _).trans (((cell_far (p := ⟨gb247, _, none⟩) NB246_247.out _).trans (((cell_far (p := ⟨gb247, _, none⟩) NB246_247.out _).trans (((cell_far (p := ⟨gb247, _, none⟩) NB246_247.out _).trans (hHeld.2.1)))))))))))))))))), ((cell_far (p := ⟨gb247, _, none⟩) NB246_247.out _).trans (((cell_far (p := ⟨gb247, _, none⟩) NB246_247.out _).trans (((cell_far (p := ⟨gb247, _, none⟩) NB246_247.out _).trans (((cell_far (p := ⟨gb247, _, none⟩) NB246_247.out _).trans (((cell_far (p := ⟨gb247, _, none⟩) NB246_247.out _).trans (((cell_far (p := ⟨gb247, _, none⟩) NB246_247.out _).trans (((cell_far (p := ⟨gb247, _, none⟩) NB246_247.out _).trans (((cell_far (p := ⟨gb247, _, none⟩) NB246_247.out _).trans (((cell_far (p := ⟨gb247, _, none⟩) NB246_247.out _).trans (hHeld.2.2.1)))))))))))))))))), ((cell_far (p := ⟨gb247, _, none⟩) NB246_247.out _).trans (((cell_far (p := ⟨gb247, _, none⟩) NB246_247.out _).trans (((cell_far (p := ⟨gb247, _, none⟩) NB246_247.out _).trans (((cell_far (p := ⟨gb247, _, none⟩) NB246_247.out _).trans (((cell_far (p := ⟨gb247, _, none⟩) NB246_247.out _).trans (((cell_far (p := ⟨gb247, _, none⟩) NB246_247.out _).trans (((cell_far (p := ⟨gb247, _, none⟩) NB246_247.out _).trans (((cell_far (p := ⟨gb247, _, none⟩) NB246_247.out _).trans (((cell_far (p := ⟨gb247, _, none⟩) NB246_247.out _).trans (hHeld.2.2.2.1)))))))))))))))))), ((cell_far (p := ⟨gb247, _, none⟩) NB246_247.out _).trans (((cell_far (p := ⟨gb247, _, none⟩) NB246_247.out _).trans (((cell_far (p := ⟨gb247, _, none⟩) NB246_247.out _).trans (((cell_far (p := ⟨gb247, _, none⟩) NB246_247.out _).trans (((cell_far (p := ⟨gb247, _, none⟩) NB246_247.out _).trans (((cell_far (p := ⟨gb247, _, none⟩) NB246_247.out _).trans (((cell_far (p := ⟨gb247, _, none⟩) NB246_247.out _).trans (((cell_far (p := ⟨gb247, _, none⟩) NB246_247.out _).trans (((cell_far (p := ⟨gb247, _, none⟩) NB246_247.out _).trans (hHeld.2.2.2.2.1)))))))))))))))))), ((cell_far (p := ⟨gb247, _, none⟩) NB246_247.out _).trans (((cell_far (p := ⟨gb247, _, none⟩) NB246_247.out _).trans (((cell_far (p := ⟨gb247, _, none⟩) NB246_247.out _).trans (((cell_far (p := ⟨gb247, _, none⟩) NB246_247.out _).trans (((cell_far (p := ⟨gb247, _, none⟩) NB246_247.out _).trans (((cell_far (p := ⟨gb247, _, none⟩) NB246_247.out _).trans (((cell_far (p := ⟨gb247, _, none⟩) NB246_247.out _).trans (((cell_far (p := ⟨gb247, _, none⟩) NB246_247.out _).trans (((cell_far (p := ⟨gb247, _, none⟩) NB246_247.out _).trans (hHeld.2.2.2.2.2.1)))))))))))))))))), ((cell_far (p := ⟨gb247, _, none⟩) NB246_247.out _).trans (((cell_far (p := ⟨gb247, _, none⟩) NB246_247.out _).trans (((cell_far (p := ⟨gb247, _, none⟩) NB246_247.out _).trans (((cell_far (p := ⟨gb247, _, none⟩) NB246_247.out _).trans (((cell_far (p := ⟨gb247, _, none⟩) NB246_247.out _).trans (((cell_far (p := ⟨gb247, _, none⟩) NB246_247.out _).trans (((cell_far (p := ⟨gb247, _, none⟩) NB246_247.out _).trans (((cell_far (p := ⟨gb247, _, none⟩) NB246_247.out _).trans (((cell_far (p := ⟨gb247, _, none⟩) NB246_247.out _).trans (hHeld.2.2.2.2.2.2.1)))))))))))))))))), ((cell_far (p := ⟨gb247, _, none⟩) NB246_247.out _).trans (((cell_far (p := ⟨gb247, _, none⟩) NB246_247.out _).trans (((cell_far (p := ⟨gb247, _, none⟩) NB246_247.out _).trans (((cell_far (p := ⟨gb247, _, none⟩) NB246_247.out _).trans (((cell_far (p := ⟨gb247, _, none⟩) NB246_247.out _).trans (((cell_far (p := ⟨gb247, _, none⟩) NB246_247.out _).trans (((cell_far (p := ⟨gb247, _, none⟩) NB246_247.out _).trans (((cell_far (p := ⟨gb247, _, none⟩) NB246_247.out _).trans (((cell_far (p := ⟨gb247, _, none⟩) NB246_247.out _).trans (hHeld.2.2.2.2.2.2.2.1)))))))))))))))))), ((cell_far (p := ⟨gb247, _, none⟩) NB246_247.out _).trans (((cell_far (p := ⟨gb247, _, none⟩) NB246_247.out _).trans (((cell_far (p := ⟨gb247, _, none⟩) NB246_247.out _).trans (((cell_far (p := ⟨gb247, _, none⟩) NB246_247.out _).trans (((cell_far (p := ⟨gb247, _, none⟩) NB246_247.out _).trans (((cell_far (p := ⟨gb247, _, none⟩) NB246_247.out _).trans (((cell_far (p := ⟨gb247, _, none⟩) NB246_247.out _).trans (((cell_far (p := ⟨gb247, _, none⟩) NB246_247.out _).trans (((cell_far (p := ⟨gb247, _, none⟩) NB246_247.out _).trans (hHeld.2.2.2.2.2.2.2.2))))))))))))))))))⟩ (fun hHeld => ?_)
  clear hK K
  refine pz_ 7 5 ?_
  refine done_ (done_of HT_.out (by kernel_rfl)) ?_
  try go_wp2
  refine bodyPost_ret (results_ct rfl _ _ gb247 34 #[.slice Ao16 t252.length co16, .int .i64 t255, .int .i64 t256, .int .i64 t257, .slice Ao21 t258.length co21, .bool t261, .slice Ao24 t262.length co24, .slice Ao26 t265.length co26, .slice Ao28 t268.length co28] (0, 0) _ rfl (by (with_reducible repeat (first | refine blk_drewN ?_ _ | refine blk_drew ?_ | refine blk_alloc ?_ _)); refine blk_put (cs := #[.slice Ao16 t252.length co16, .int .i64 t255, .int .i64 t256, .int .i64 t257, .slice Ao21 t258.length co21, .bool t261, .slice Ao24 t262.length co24, .slice Ao26 t265.length co26, .slice none 0 0]) ?_ 8 _ rfl; (with_reducible repeat (first | refine blk_drewN ?_ _ | refine blk_drew ?_ | refine blk_alloc ?_ _)); refine blk_put (cs := #[.slice Ao16 t252.length co16, .int .i64 t255, .int .i64 t256, .int .i64 t257, .slice Ao21 t258.length co21, .bool t261, .slice Ao24 t262.length co24, .slice none 0 0, .slice none 0 0]) ?_ 7 _ rfl; (with_reducible repeat (first | refine blk_drewN ?_ _ | refine blk_drew ?_ | refine blk_alloc ?_ _)); refine blk_put (cs := #[.slice Ao16 t252.length co16, .int .i64 t255, .int .i64 t256, .int .i64 t257, .slice Ao21 t258.length co21, .bool t261, .slice none 0 0, .slice none 0 0, .slice none 0 0]) ?_ 6 _ rfl; (with_reducible repeat (first | refine blk_drewN ?_ _ | refine blk_drew ?_ | refine blk_alloc ?_ _)); refine blk_put (cs := #[.slice Ao16 t252.length co16, .int .i64 t255, .int .i64 t256, .int .i64 t257, .slice Ao21 t258.length co21, .bool false, .slice none 0 0, .slice none 0 0, .slice none 0 0]) ?_ 5 _ rfl; (with_reducible repeat (first | refine blk_drewN ?_ _ | refine blk_drew ?_ | refine blk_alloc ?_ _)); refine blk_put (cs := #[.slice Ao16 t252.length co16, .int .i64 t255, .int .i64 t256, .int .i64 t257, .slice none 0 0, .bool false, .slice none 0 0, .slice none 0 0, .slice none 0 0]) ?_ 4 _ rfl; (with_reducible repeat (first | refine blk_drewN ?_ _ | refine blk_drew ?_ | refine blk_alloc ?_ _)); refine blk_put (cs := #[.slice Ao16 t252.length co16, .int .i64 t255, .int .i64 t256, .int .i64 0, .slice none 0 0, .bool false, .slice none 0 0, .slice none 0 0, .slice none 0 0]) ?_ 3 _ rfl; (with_reducible repeat (first | refine blk_drewN ?_ _ | refine blk_drew ?_ | refine blk_alloc ?_ _)); refine blk_put (cs := #[.slice Ao16 t252.length co16, .int .i64 t255, .int .i64 0, .int .i64 0, .slice none 0 0, .bool false, .slice none 0 0, .slice none 0 0, .slice none 0 0]) ?_ 2 _ rfl; (with_reducible repeat (first | refine blk_drewN ?_ _ | refine blk_drew ?_ | refine blk_alloc ?_ _)); refine blk_put (cs := #[.slice Ao16 t252.length co16, .int .i64 0, .int .i64 0, .int .i64 0, .slice none 0 0, .bool false, .slice none 0 0, .slice none 0 0, .slice none 0 0]) ?_ 1 _ rfl; (with_reducible repeat (first | refine blk_drewN ?_ _ | refine blk_drew ?_ | refine blk_alloc ?_ _)); refine blk_put (cs := #[.slice none 0 0, .int .i64 0, .int .i64 0, .int .i64 0, .slice none 0 0, .bool false, .slice none 0 0, .slice none 0 0, .slice none 0 0]) ?_ 0 _ rfl; (with_reducible repeat (first | refine blk_drewN ?_ _ | refine blk_drew ?_ | refine blk_alloc ?_ _)); exact BK247.out) Try.underlying34 rfl (by kernel_rfl)) rfl ?_
  exact ⟨_, _, _, _, _, ee, rf HO254 BK247 (fun _ hk => trivial), rf HO260 BK247 (fun _ hk => ⟨hk.1.1.1, hk.1.1.2⟩), rf HO264 BK247 (fun _ hk => trivial), rf HO267 BK247 (fun _ hk => ⟨hk.1.1.1, hk.1.1.2⟩), rf HO270 BK247 (fun _ hk => ⟨hk.1.1.1, hk.1.1.2⟩), bb HB⟩
 ·replace c4 := Bool.eq_false_iff.mpr c4
  subst c4
  have H1 : (some (([] : List (S87)), 0, 0, 0, ([] : List Int), false, ([] : List (S75)), ([] : List Int), ([] : List Int), false)) = some (r1, r2, r3, r4, r5, r6, r7, r8, r9, r10) := by rw [if_neg (show ¬ (false = true) by decide)] at H; exact H
  clear H
  have H := H1
  clear H1
  simp only [Option.some.injEq, Prod.mk.injEq] at H
  obtain ⟨rfl, rfl, rfl, rfl, rfl, rfl, rfl, rfl, rfl, rfl⟩ := H
  go_enter Try.func7, Try.ntmps7
  go_wp2_with (first | ((with_reducible refine gate_dst (N := 2) rfl ?_); refine bx (N := 2) (cs := #[.slice A0_0 l0_0.length c0_0, .int .i64 a0_1, .int .i64 a0_2, .int .i64 a0_3, .slice A0_4 l0_4.length c0_4, .bool a0_5, .slice A0_6 l0_6.length c0_6, .slice A0_7 l0_7.length c0_7, .slice A0_8 l0_8.length c0_8]) (t := 34) ?_; intro gb246 hg w30 hbox hb; have BK246 := Aside0.mk (hbox); have GW246 := gs hg HB; have GE246 := gs hg HB; replace HB := hs_ HB hb; clear hb hbox hg) | ((with_reducible refine gate_dst (N := 4) rfl ?_); refine bx (N := 4) (cs := #[.slice none 0 0, .int .i64 0, .int .i64 0, .int .i64 0, .slice none 0 0, .bool false, .slice none 0 0, .slice none 0 0, .slice none 0 0]) (t := 34) ?_; intro gb247 hg w31 hbox hb; have BK247 := Aside0.mk (hbox); have GW247 := gs hg HB; have GE247 := gs hg HB; replace HB := hs_ HB hb; have NB246_247 := gn hg BK246; have NB247_246 := gm hg BK246; replace BK246 := kb BK246 hb; clear hb hbox hg; have hnb32 := NB246_247.out; have hnc32 := NB247_246.out; have ⟨hcz33_0, hcz33_1, hcz33_2, hcz33_3, hcz33_4, hcz33_5, hcz33_6, hcz33_7, hcz33_8, hfz33_0, hfz33_1, hfz33_2, hfz33_3, hfz33_4, hfz33_5, hfz33_6, hfz33_7, hfz33_8⟩ := rz9 BK246) | ((with_reducible refine gate_callee (f := 25) rfl ?_); refine gl (some 8) Try.func25 #[.agg #[.slice A0_0 l0_0.length c0_0, .int .i64 a0_1, .int .i64 a0_2, .int .i64 a0_3, .slice A0_4 l0_4.length c0_4, .bool a0_5, .slice A0_6 l0_6.length c0_6, .slice A0_7 l0_7.length c0_7, .slice A0_8 l0_8.length c0_8], .slice A1 l1.length c1] ?_; (with_reducible refine (spec_IsOutcome.calls k _ _ l0_0 a0_1 a0_2 a0_3 _ _ l0_4 a0_5 _ _ l0_6 _ _ l0_7 _ _ l0_8 _ _ l1 false _ ?side1 ?side2 ?side3 ?side4 ?side5 ?side6 ?side7 ?side8 ?side9 ?side10 ?side11 ?side12 A3.out).mono ?_); (case side1 => exact cc HR0_0 HB); (case side2 => exact HC0_0.out); (case side3 => exact cc HR0_4 HB); (case side4 => exact HC0_4.out); (case side5 => exact cc HR0_6 HB); (case side6 => exact HC0_6.out); (case side7 => exact cc HR0_7 HB); (case side8 => exact HC0_7.out); (case side9 => exact cc HR0_8 HB); (case side10 => exact HC0_8.out); (case side11 => exact cc HR1 HB); (case side12 => exact HC1.out); rintro e w34 ⟨rfl, hb⟩; refine ⟨_, rfl, ?_⟩; replace BK246 := kb BK246 hb; replace BK247 := kb BK247 hb; replace HB := hs_ HB hb; (try clear hb hb2 hk hi); have ⟨hcz35_0, hcz35_1, hcz35_2, hcz35_3, hcz35_4, hcz35_5, hcz35_6, hcz35_7, hcz35_8, hfz35_0, hfz35_1, hfz35_2, hfz35_3, hfz35_4, hfz35_5, hfz35_6, hfz35_7, hfz35_8⟩ := rz9 BK247))
  refine bodyPost_ret (results_ct rfl _ _ gb247 34 #[.slice none 0 0, .int .i64 0, .int .i64 0, .int .i64 0, .slice none 0 0, .bool false, .slice none 0 0, .slice none 0 0, .slice none 0 0] (0, 0) _ rfl (by (with_reducible repeat (first | refine blk_drewN ?_ _ | refine blk_drew ?_ | refine blk_alloc ?_ _)); refine blk_put (cs := #[.slice none 0 0, .int .i64 0, .int .i64 0, .int .i64 0, .slice none 0 0, .bool false, .slice none 0 0, .slice none 0 0, .slice none 0 0]) ?_ 8 _ rfl; (with_reducible repeat (first | refine blk_drewN ?_ _ | refine blk_drew ?_ | refine blk_alloc ?_ _)); refine blk_put (cs := #[.slice none 0 0, .int .i64 0, .int .i64 0, .int .i64 0, .slice none 0 0, .bool false, .slice none 0 0, .slice none 0 0, .slice none 0 0]) ?_ 7 _ rfl; (with_reducible repeat (first | refine blk_drewN ?_ _ | refine blk_drew ?_ | refine blk_alloc ?_ _)); refine blk_put (cs := #[.slice none 0 0, .int .i64 0, .int .i64 0, .int .i64 0, .slice none 0 0, .bool false, .slice none 0 0, .slice none 0 0, .slice none 0 0]) ?_ 6 _ rfl; (with_reducible repeat (first | refine blk_drewN ?_ _ | refine blk_drew ?_ | refine blk_alloc ?_ _)); refine blk_put (cs := #[.slice none 0 0, .int .i64 0, .int .i64 0, .int .i64 0, .slice none 0 0, .bool false, .slice none 0 0, .slice none 0 0, .slice none 0 0]) ?_ 5 _ rfl; (with_reducible repeat (first | refine blk_drewN ?_ _ | refine blk_drew ?_ | refine blk_alloc ?_ _)); refine blk_put (cs := #[.slice none 0 0, .int .i64 0, .int .i64 0, .int .i64 0, .slice none 0 0, .bool false, .slice none 0 0, .slice none 0 0, .slice none 0 0]) ?_ 4 _ rfl; (with_reducible repeat (first | refine blk_drewN ?_ _ | refine blk_drew ?_ | refine blk_alloc ?_ _)); refine blk_put (cs := #[.slice none 0 0, .int .i64 0, .int .i64 0, .int .i64 0, .slice none 0 0, .bool false, .slice none 0 0, .slice none 0 0, .slice none 0 0]) ?_ 3 _ rfl; (with_reducible repeat (first | refine blk_drewN ?_ _ | refine blk_drew ?_ | refine blk_alloc ?_ _)); refine blk_put (cs := #[.slice none 0 0, .int .i64 0, .int .i64 0, .int .i64 0, .slice none 0 0, .bool false, .slice none 0 0, .slice none 0 0, .slice none 0 0]) ?_ 2 _ rfl; (with_reducible repeat (first | refine blk_drewN ?_ _ | refine blk_drew ?_ | refine blk_alloc ?_ _)); refine blk_put (cs := #[.slice none 0 0, .int .i64 0, .int .i64 0, .int .i64 0, .slice none 0 0, .bool false, .slice none 0 0, .slice none 0 0, .slice none 0 0]) ?_ 1 _ rfl; (with_reducible repeat (first | refine blk_drewN ?_ _ | refine blk_drew ?_ | refine blk_alloc ?_ _)); refine blk_put (cs := #[.slice none 0 0, .int .i64 0, .int .i64 0, .int .i64 0, .slice none 0 0, .bool false, .slice none 0 0, .slice none 0 0, .slice none 0 0]) ?_ 0 _ rfl; (with_reducible repeat (first | refine blk_drewN ?_ _ | refine blk_drew ?_ | refine blk_alloc ?_ _)); exact BK247.out) Try.underlying34 rfl (by kernel_rfl)) rfl ?_
  exact ⟨_, _, _, _, _, ee, by first | exact Kd.R_nil _ _ _ _ _ | exact Kd.N_nil _ _ _ _ _ | exact Kd.V_nil _ _ _ _ _ | exact Kd.Q_nil _ _ _ _ _ | exact Kd.S_nil _ _ _ _ _, by first | exact Kd.R_nil _ _ _ _ _ | exact Kd.N_nil _ _ _ _ _ | exact Kd.V_nil _ _ _ _ _ | exact Kd.Q_nil _ _ _ _ _ | exact Kd.S_nil _ _ _ _ _, by first | exact Kd.R_nil _ _ _ _ _ | exact Kd.N_nil _ _ _ _ _ | exact Kd.V_nil _ _ _ _ _ | exact Kd.Q_nil _ _ _ _ _ | exact Kd.S_nil _ _ _ _ _, by first | exact Kd.R_nil _ _ _ _ _ | exact Kd.N_nil _ _ _ _ _ | exact Kd.V_nil _ _ _ _ _ | exact Kd.Q_nil _ _ _ _ _ | exact Kd.S_nil _ _ _ _ _, by first | exact Kd.R_nil _ _ _ _ _ | exact Kd.N_nil _ _ _ _ _ | exact Kd.V_nil _ _ _ _ _ | exact Kd.Q_nil _ _ _ _ _ | exact Kd.S_nil _ _ _ _ _, bb HB⟩
end Go.Proofs.Ytoaepoffooomnaa.Q
namespace Go.Proofs.Ytoaepoffooomnaa.Q
open Go.RowKit Go.Proofs.YtoaepoffooomnaaW.PrintWords Go.Proofs.YtoaepoffooomnaaW.PrintLast Go.Proofs.YtoaepoffooomnaaW.PrintMore
attribute [local go_sem] max2_int min2_int max_two min_two max_three min_three max_four min_four
set_option linter.unusedVariables false
set_option linter.unusedSimpArgs false
def laws_toIntS.l0 : Nat → List Int → List Int → Int → Option (List Int)
 | 0, _, _, _ => none
 | k + 1, x0, x3, x4 => if x4 < (x0.length : Int) then (if 0 ≤ x4 then (if x4 < (x3.length : Int) then (laws_toIntS.l0 k x0 (x3.set (x4 : Int).toNat (rd x0 x4)) (wrap64 (x4 + 1))) else (none)) else (none)) else (some x3)
def laws_toIntS.f (k : Nat) (l0 : List Int) : Option (List Int) := if 0 ≤ (l0.length : Int) then (if ((l0.length : Int) : Int).toNat ≤ 35184372088832 then (laws_toIntS.l0 k l0 (List.replicate ((l0.length : Int) : Int).toNat 0) 0) else (none)) else (none)
set_option maxHeartbeats 8000000 in
set_option maxRecDepth 100000 in
theorem laws_toIntS.calls (k : Nat) (A0 : Option Addr) (c0 : Nat) (l0 : List Int) (r : List Int) (w : World) (hr0 : Kd.C (Kd.int .i64) w A0 l0.length l0) (hc0 : l0.length ≤ c0) (h : laws_toIntS.f k l0 = some r) :
  Calls Try.prog 9 #[.slice A0 l0.length c0] w fun e w' => ∃ v0_ : Value, e = .returned (v0_) ∧ Kd.R (Kd.int .i64) 3 w' w.heap.size (fun _ => True) v0_ r ∧ Below w.heap.size w w' := by
 have HR0 := Aside0.mk hr0
 have HC0 := Aside0.mk hc0
 clear hr0 hc0
 have HB := Aside0.mk (Below.refl w.heap.size w)
 have H : (if 0 ≤ (l0.length : Int) then (if ((l0.length : Int) : Int).toNat ≤ 35184372088832 then (laws_toIntS.l0 k l0 (List.replicate ((l0.length : Int) : Int).toNat 0) 0) else (none)) else (none)) = some r := h
 clear h
 by_cases c2 : 0 ≤ (l0.length : Int)
 ·rw [if_pos c2] at H
  have c2b0 := eq_true c2
  have c2b1 : decide (0 ≤ (l0.length : Int)) = true := decide_eq_true c2
  clear c2
  by_cases c3 : ((l0.length : Int) : Int).toNat ≤ 35184372088832
  ·rw [if_pos c3] at H
   have c3b0 := eq_true c3
   have c3b1 : decide (((l0.length : Int) : Int).toNat ≤ 35184372088832) = true := decide_eq_true c3
   clear c3
   obtain ⟨y271, hy271⟩ : ∃ y_ : List Int, y_ = (List.replicate ((l0.length : Int) : Int).toNat 0) := ⟨_, rfl⟩
   replace H : (laws_toIntS.l0 k l0 y271 0) = some r := by first | (rw [hy271]; with_reducible exact H) | (have H2_ := (Option.bind_some _ _).symm.trans H; rw [hy271]; with_reducible exact H2_) | (have H2_ := (Option.bind_some _ _).symm.trans H; with_reducible exact H2_) | with_reducible exact H | (rw [hy271]; exact H) | exact H
   have Ny271 := Aside0.mk hy271
   clear hy271
   have H' := Aside0.mk H
   clear H
   go_enter Try.func9, Try.ntmps9
   go_wp2_with (first | ((with_reducible refine gate_dst (N := 7) rfl ?_); refine Kd.R_make (Kd.int .i64) _ 3 rfl (N := 7) rfl 23 _ _ rfl (l0.length : Int) rfl rfl Try.underlying23 (.int .i64 0) 8 info3 rfl (by decide) (by omega) 0 (ok := fun _ => True) (okp := fun _ => True) rfl (fun _ hk => hk) trivial (of_decide_eq_true (by first | (with_reducible assumption) | assumption)) (Nat.le_trans (Nat.mul_le_mul_right _ (of_decide_eq_true (by first | (with_reducible assumption) | assumption) : (l0.length : Int).toNat ≤ 35184372088832)) (by omega)) (Below.refl _ _) (Nat.le_refl _) ?_; intro v272 w4 ho5 hb hg_ hnew_; clear hg_ hnew_; (first | rw [← Ny271.out] at ho5 | (simp only [Int.reduceToNat] at ho5; rw [← Ny271.out] at ho5)); have HO273 := kl ho5 HB; replace HB := hs_ HB hb; clear hb ho5))
   go_loopg [4] k (fun kq v4 w' => ∃ (x3_1 : List Int) (x4_1 : Int), v4 = .int .i64 x4_1 ∧ Aside0 (laws_toIntS.l0 kq l0 x3_1 x4_1 = some r) ∧ Aside0 (kq ≤ k) ∧ Aside0 (Kd.R (Kd.int .i64) 3 w' w.heap.size (fun _ => True) v272 x3_1) ∧ Aside0 (Below w.heap.size w w'))
   case atStart => exact ⟨(y271), (0), e2_, H', ⟨Nat.le_refl _⟩, ⟨rr HO273⟩, ⟨bb HB⟩⟩
   case round =>
    clear H'
    (try clear c2)
    (try clear c2b0)
    (try clear c2b1)
    (try clear p2)
    (try clear c3)
    (try clear c3b0)
    (try clear c3b1)
    obtain ⟨x3_1, x4_1, rfl, HA, HK1, HO_3, HB⟩ := hrel
    cases gk with
    | zero => exact absurd HA.out (by simp [laws_toIntS.l0])
    | succ k1 =>
     have H := HA.out
     clear HA
     simp only [laws_toIntS.l0] at H
     by_cases c6 : x4_1 < (l0.length : Int)
     ·rw [if_pos c6] at H
      have c6b0 : decide (x4_1 < (l0.length : Int)) = true := decide_eq_true c6
      clear c6
      by_cases c7 : 0 ≤ x4_1
      ·rw [if_pos c7] at H
       have c7b0 : decide (0 ≤ x4_1) = true := decide_eq_true c7
       clear c7
       by_cases c8 : x4_1 < (x3_1.length : Int)
       ·rw [if_pos c8] at H
        have c8b0 : decide (x4_1 < (x3_1.length : Int)) = true := decide_eq_true c8
        clear c8
        obtain ⟨y275, hy275⟩ : ∃ y_ : List Int, y_ = (x3_1.set (x4_1 : Int).toNat (rd l0 x4_1)) := ⟨_, rfl⟩
        replace H : (laws_toIntS.l0 k1 l0 y275 (wrap64 (x4_1 + 1))) = some r := by first | (rw [hy275]; with_reducible exact H) | (have H2_ := (Option.bind_some _ _).symm.trans H; rw [hy275]; with_reducible exact H2_) | (have H2_ := (Option.bind_some _ _).symm.trans H; with_reducible exact H2_) | with_reducible exact H | (rw [hy275]; exact H) | exact H
        have Ny275 := Aside0.mk hy275
        clear hy275
        have H' := Aside0.mk H
        clear H
        have p274 : 0 ≤ (x4_1 : Int) := of_decide_eq_true (by first | (with_reducible assumption) | assumption)
        have q274 : x4_1 < (l0.length : Int) := of_decide_eq_true (by first | (with_reducible assumption) | assumption)
        obtain ⟨ad274, e274, hx274_0⟩ := Kd.at_int HR0.out x4_1 p274 q274
        cases e274
        replace hx274_0 := (HB.out.cell (World.block_lt_of_cell? w _ hx274_0)).trans hx274_0
        replace p274 := eq_true p274
        replace q274 := eq_true q274
        have p9 : 0 ≤ (x4_1 : Int) := of_decide_eq_true (by first | (with_reducible assumption) | assumption)
        have q9 : (x4_1 : Int) < ((x3_1.length : Int) : Int) := of_decide_eq_true (by first | (with_reducible assumption) | assumption)
        obtain ⟨go9, co9, eo9, gb9, gl9, cl9, HG9⟩ := Kd.R_form HO_3.out (by omega)
        (first | cases eo9 | (injection eo9 with ea_ en_ ec_; (first | subst ea_ | (injection ea_ with ea_; subst ea_)); subst ec_; clear en_))
        have GB9 := Aside0.mk gb9
        have GG9 := Aside0.mk HG9
        clear gb9 gl9 HG9
        obtain ⟨hx9_0, hf9_0⟩ := Kd.R_celln 0 HO_3.out (x4_1 : Int) p9 q9
        replace p9 := eq_true p9
        replace q9 := eq_true q9
        have HP10 := Kd.R_putg HO_3.out (x4_1 : Int) (rd l0 x4_1)
        go_wp2_with (first | ((with_reducible refine gate_store (t := 3) (p := 20) rfl ?_); refine store_event (t := 3) (p := 20) (v := ?vo_w11) (w1 := (wr.setCell ⟨go9, (x4_1 : Int).toNat, none⟩ (.int .i64 (rd l0 x4_1)))) ?hg ?ho ?hn ?hr ?_; (case ho => rfl); (case hg => rfl); (case hn => rfl); (case hr => first | (go_simp; done) | (go_simp; rfl)); intro w11 hw; have hg : wr.grownBy w11 (some go9) := (by rw [hw]; exact HP10.2); have hp_ : Kd.R (Kd.int .i64) 3 w11 w.heap.size (fun _ => True) (.slice (some ⟨go9, 0, none⟩) x3_1.length co9) y275 := (by rw [hw, Ny275.out]; exact HP10.1); clear HP10; replace HO_3 := Aside0.mk (hp_); replace HB := Aside0.mk (by rw [hw]; exact below_set (HB.out) GB9.out : Below w.heap.size w w11); clear hg hw hp_))
        go_roundg k1
        case measure => have := HK1.out; omega
        case rel => exact ⟨(y275), (wrap64 (x4_1 + 1)), e2_, H', ⟨by have := HK1.out; omega⟩, ⟨rr HO_3⟩, ⟨bb HB⟩⟩
       ·rw [if_neg c8] at H
        exact absurd H (by simp)
      ·rw [if_neg c7] at H
       exact absurd H (by simp)
     ·rw [if_neg c6] at H
      have c6b0 : decide (x4_1 < (l0.length : Int)) = false := decide_eq_false c6
      clear c6
      obtain rfl := Option.some.inj H
      go_wp2
      go_ret
      exact ⟨_, ee, rr HO_3, bb HB⟩
  ·rw [if_neg c3] at H
   exact absurd H (by simp)
 ·rw [if_neg c2] at H
  exact absurd H (by simp)
end Go.Proofs.Ytoaepoffooomnaa.Q
namespace Go.Proofs.Ytoaepoffooomnaa.Q
open Go.RowKit Go.Proofs.YtoaepoffooomnaaW.PrintWords Go.Proofs.YtoaepoffooomnaaW.PrintLast Go.Proofs.YtoaepoffooomnaaW.PrintMore
attribute [local go_sem] max2_int min2_int max_two min_two max_three min_three max_four min_four
set_option linter.unusedVariables false
set_option linter.unusedSimpArgs false
def laws_toTeam.f (a0_0 : ByteArray) (a0_1 : Int) (a0_2 : Int) : Option (ByteArray × Int × Int) := some (a0_0, a0_1, a0_2)
set_option maxHeartbeats 8000000 in
set_option maxRecDepth 100000 in
theorem laws_toTeam.calls (a0_0 : ByteArray) (a0_1 : Int) (a0_2 : Int) (r1 : ByteArray) (r2 : Int) (r3 : Int) (w : World) (h : laws_toTeam.f a0_0 a0_1 a0_2 = some (r1, r2, r3)) :
  Calls Try.prog 62 #[.agg #[.string a0_0, .int .i64 a0_1, .int .i64 a0_2]] w fun e w' => e = .returned (.agg #[.string r1, .int .i64 r2, .int .i64 r3]) ∧ Below w.heap.size w w' := by
 have hu84 := Try.underlying84
 have hu87 := Try.underlying87
 have HB := Aside0.mk (Below.refl w.heap.size w)
 have H : (some (a0_0, a0_1, a0_2)) = some (r1, r2, r3) := h
 clear h
 simp only [Option.some.injEq, Prod.mk.injEq] at H
 obtain ⟨rfl, rfl, rfl⟩ := H
 go_enter Try.func62, Try.ntmps62
 go_wp2_with (first | ((with_reducible refine gate_dst (N := 1) rfl ?_); refine bx (N := 1) (cs := #[.string a0_0, .int .i64 a0_1, .int .i64 a0_2]) (t := 84) ?_; intro gb276 hg w2 hbox hb; have BK276 := Aside0.mk (hbox); have GW276 := gs hg HB; have GE276 := gs hg HB; replace HB := hs_ HB hb; clear hb hbox hg) | ((with_reducible refine gate_dst (N := 2) rfl ?_); refine bx (N := 2) (cs := #[.string (⟨#[]⟩ : ByteArray), .int .i64 0, .int .i64 0]) (t := 87) ?_; intro gb277 hg w3 hbox hb; have BK277 := Aside0.mk (hbox); have GW277 := gs hg HB; have GE277 := gs hg HB; replace HB := hs_ HB hb; have NB276_277 := gn hg BK276; have NB277_276 := gm hg BK276; replace BK276 := kb BK276 hb; clear hb hbox hg) | ((with_reducible refine gate_dst (N := 3) rfl ?_); refine bx (N := 3) (cs := #[.string (⟨#[]⟩ : ByteArray), .int .i64 0, .int .i64 0]) (t := 87) ?_; intro gb278 hg w4 hbox hb; have BK278 := Aside0.mk (hbox); have GW278 := gs hg HB; have GE278 := gs hg HB; replace HB := hs_ HB hb; have NB276_278 := gn hg BK276; have NB278_276 := gm hg BK276; replace BK276 := kb BK276 hb; have NB277_278 := gn hg BK277; have NB278_277 := gm hg BK277; replace BK277 := kb BK277 hb; clear hb hbox hg; have hnb5 := NB276_277.out; have hnc5 := NB277_276.out; have hnb6 := NB276_278.out; have hnc6 := NB278_276.out; have ⟨hcz7_0, hcz7_1, hcz7_2, hfz7_0, hfz7_1, hfz7_2⟩ := rz3 BK276; have hnb8 := NB278_277.out; have hnc8 := NB277_278.out; have ⟨hcz9_0, hcz9_1, hcz9_2, hfz9_0, hfz9_1, hfz9_2⟩ := rz3 BK278; have ⟨hcz10_0, hcz10_1, hcz10_2, hfz10_0, hfz10_1, hfz10_2⟩ := rz3 BK277))
 refine bodyPost_ret (results_cell_row rfl _ _ gb277 87 #[.string a0_0, .int .i64 a0_1, .int .i64 a0_2] (0, 0) _ rfl (by (with_reducible repeat (first | refine blk_drewN ?_ _ | refine blk_drew ?_ | refine blk_alloc ?_ _)); refine blk_put (cs := #[.string a0_0, .int .i64 a0_1, .int .i64 0]) ?_ 2 _ rfl; (with_reducible repeat (first | refine blk_drewN ?_ _ | refine blk_drew ?_ | refine blk_alloc ?_ _)); refine blk_put (cs := #[.string a0_0, .int .i64 0, .int .i64 0]) ?_ 1 _ rfl; (with_reducible repeat (first | refine blk_drewN ?_ _ | refine blk_drew ?_ | refine blk_alloc ?_ _)); refine blk_put (cs := #[.string (⟨#[]⟩ : ByteArray), .int .i64 0, .int .i64 0]) ?_ 0 _ rfl; (with_reducible repeat (first | refine blk_drewN ?_ _ | refine blk_drew ?_ | refine blk_alloc ?_ _)); refine blk_far ?_ NB277_278.out _; (with_reducible repeat (first | refine blk_drewN ?_ _ | refine blk_drew ?_ | refine blk_alloc ?_ _)); refine blk_far ?_ NB277_278.out _; (with_reducible repeat (first | refine blk_drewN ?_ _ | refine blk_drew ?_ | refine blk_alloc ?_ _)); refine blk_far ?_ NB277_278.out _; (with_reducible repeat (first | refine blk_drewN ?_ _ | refine blk_drew ?_ | refine blk_alloc ?_ _)); exact BK277.out) Try.underlying87 rfl (by kernel_rfl)) rfl ?_
 exact ⟨ee, bb HB⟩
end Go.Proofs.Ytoaepoffooomnaa.Q
namespace Go.Proofs.Ytoaepoffooomnaa.Q
open Go.RowKit Go.Proofs.YtoaepoffooomnaaW.PrintWords Go.Proofs.YtoaepoffooomnaaW.PrintLast Go.Proofs.YtoaepoffooomnaaW.PrintMore
attribute [local go_sem] max2_int min2_int max_two min_two max_three min_three max_four min_four
set_option linter.unusedVariables false
set_option linter.unusedSimpArgs false
def laws_toTeamS.l0 : Nat → List (S84) → List (S87) → Int → Option ((List (S87)))
 | 0, _, _, _ => none
 | k + 1, x0, x3, x4 => if x4 < (x0.length : Int) then (if 0 ≤ x4 then ((laws_toTeam.f ((rd_T84 x0 x4).f0) ((rd_T84 x0 x4).f1) ((rd_T84 x0 x4).f2)).bind fun bt283 => (if x4 < (x3.length : Int) then (laws_toTeamS.l0 k x0 (x3.set (x4 : Int).toNat (⟨bt283.1, bt283.2.1, bt283.2.2⟩ : S87)) (wrap64 (x4 + 1))) else (none))) else (none)) else (some x3)
def laws_toTeamS.f (k : Nat) (l0 : List (S84)) : Option ((List (S87))) := if 0 ≤ (l0.length : Int) then (if ((l0.length : Int) : Int).toNat ≤ 8796093022208 then (laws_toTeamS.l0 k l0 (List.replicate ((l0.length : Int) : Int).toNat z87) 0) else (none)) else (none)
set_option maxHeartbeats 8000000 in
set_option maxRecDepth 100000 in
theorem laws_toTeamS.calls (k : Nat) (A0 : Option Addr) (c0 : Nat) (l0 : List (S84)) (r : List (S87)) (w : World) (hr0 : Kd.C k84 w A0 l0.length l0) (hc0 : l0.length ≤ c0) (h : laws_toTeamS.f k l0 = some r) :
  Calls Try.prog 28 #[.slice A0 l0.length c0] w fun e w' => ∃ v0_ : Value, e = .returned (v0_) ∧ Kd.R k87 87 w' w.heap.size (fun _ => True) v0_ r ∧ Below w.heap.size w w' := by
 have hu84 := Try.underlying84
 have hu87 := Try.underlying87
 have HR0 := Aside0.mk hr0
 have HC0 := Aside0.mk hc0
 clear hr0 hc0
 have HB := Aside0.mk (Below.refl w.heap.size w)
 have H : (if 0 ≤ (l0.length : Int) then (if ((l0.length : Int) : Int).toNat ≤ 8796093022208 then (laws_toTeamS.l0 k l0 (List.replicate ((l0.length : Int) : Int).toNat z87) 0) else (none)) else (none)) = some r := h
 clear h
 by_cases c2 : 0 ≤ (l0.length : Int)
 ·rw [if_pos c2] at H
  have c2b0 := eq_true c2
  have c2b1 : decide (0 ≤ (l0.length : Int)) = true := decide_eq_true c2
  clear c2
  by_cases c3 : ((l0.length : Int) : Int).toNat ≤ 8796093022208
  ·rw [if_pos c3] at H
   have c3b0 := eq_true c3
   have c3b1 : decide (((l0.length : Int) : Int).toNat ≤ 8796093022208) = true := decide_eq_true c3
   clear c3
   obtain ⟨y279, hy279⟩ : ∃ y_ : List (S87), y_ = (List.replicate ((l0.length : Int) : Int).toNat z87) := ⟨_, rfl⟩
   replace H : (laws_toTeamS.l0 k l0 y279 0) = some r := by first | (rw [hy279]; with_reducible exact H) | (have H2_ := (Option.bind_some _ _).symm.trans H; rw [hy279]; with_reducible exact H2_) | (have H2_ := (Option.bind_some _ _).symm.trans H; with_reducible exact H2_) | with_reducible exact H | (rw [hy279]; exact H) | exact H
   have Ny279 := Aside0.mk hy279
   clear hy279
   have H' := Aside0.mk H
   clear H
   go_enter Try.func28, Try.ntmps28
   go_wp2_with (first | ((with_reducible refine gate_dst (N := 7) rfl ?_); refine Kd.R_make k87 _ 87 rfl (N := 7) rfl 30 _ _ rfl (l0.length : Int) rfl rfl Try.underlying30 (.agg #[(.string ⟨#[]⟩), (.int .i64 0), (.int .i64 0)]) 32 info87 rfl (by decide) (by omega) z87 (ok := fun _ => True) (okp := fun _ => True) (k87_mkM _ _ _ z87 ) (fun _ hk => hk) trivial (of_decide_eq_true (by first | (with_reducible assumption) | assumption)) (Nat.le_trans (Nat.mul_le_mul_right _ (of_decide_eq_true (by first | (with_reducible assumption) | assumption) : (l0.length : Int).toNat ≤ 8796093022208)) (by omega)) (Below.refl _ _) (Nat.le_refl _) ?_; intro v280 w4 ho5 hb hg_ hnew_; clear hg_ hnew_; (first | rw [← Ny279.out] at ho5 | (simp only [Int.reduceToNat] at ho5; rw [← Ny279.out] at ho5)); have HO281 := kl ho5 HB; replace HB := hs_ HB hb; clear hb ho5))
   go_loopg [4] k (fun kq v4 w' => ∃ (x3_1 : List (S87)) (x4_1 : Int), v4 = .int .i64 x4_1 ∧ Aside0 (laws_toTeamS.l0 kq l0 x3_1 x4_1 = some r) ∧ Aside0 (kq ≤ k) ∧ Aside0 (Kd.R k87 87 w' w.heap.size (fun _ => True) v280 x3_1) ∧ Aside0 (Below w.heap.size w w'))
   case atStart => exact ⟨(y279), (0), e2_, H', ⟨Nat.le_refl _⟩, ⟨rr HO281⟩, ⟨bb HB⟩⟩
   case round =>
    clear H'
    (try clear c2)
    (try clear c2b0)
    (try clear c2b1)
    (try clear p2)
    (try clear c3)
    (try clear c3b0)
    (try clear c3b1)
    obtain ⟨x3_1, x4_1, rfl, HA, HK1, HO_3, HB⟩ := hrel
    cases gk with
    | zero => exact absurd HA.out (by simp [laws_toTeamS.l0])
    | succ k1 =>
     have H := HA.out
     clear HA
     simp only [laws_toTeamS.l0] at H
     by_cases c6 : x4_1 < (l0.length : Int)
     ·rw [if_pos c6] at H
      have c6b0 : decide (x4_1 < (l0.length : Int)) = true := decide_eq_true c6
      clear c6
      by_cases c7 : 0 ≤ x4_1
      ·rw [if_pos c7] at H
       have c7b0 : decide (0 ≤ x4_1) = true := decide_eq_true c7
       clear c7
       replace H := Option.bind_eq_some_iff.mp H
       obtain ⟨⟨t283, t284, t285⟩, A80, H⟩ := H
       try dsimp only at H
       have A8 := Aside0.mk A80
       clear A80
       by_cases c9 : x4_1 < (x3_1.length : Int)
       ·rw [if_pos c9] at H
        have c9b0 : decide (x4_1 < (x3_1.length : Int)) = true := decide_eq_true c9
        clear c9
        obtain ⟨y286, hy286⟩ : ∃ y_ : List (S87), y_ = (x3_1.set (x4_1 : Int).toNat (⟨t283, t284, t285⟩ : S87)) := ⟨_, rfl⟩
        replace H : (laws_toTeamS.l0 k1 l0 y286 (wrap64 (x4_1 + 1))) = some r := by first | (rw [hy286]; with_reducible exact H) | (have H2_ := (Option.bind_some _ _).symm.trans H; rw [hy286]; with_reducible exact H2_) | (have H2_ := (Option.bind_some _ _).symm.trans H; with_reducible exact H2_) | with_reducible exact H | (rw [hy286]; exact H) | exact H
        have Ny286 := Aside0.mk hy286
        clear hy286
        have H' := Aside0.mk H
        clear H
        have p282 : 0 ≤ (x4_1 : Int) := of_decide_eq_true (by first | (with_reducible assumption) | assumption)
        have q282 : x4_1 < (l0.length : Int) := of_decide_eq_true (by first | (with_reducible assumption) | assumption)
        obtain ⟨ad282, e282, hx282_0, hx282_1, hx282_2⟩ := at_T84 HR0.out x4_1 p282 q282
        cases e282
        replace hx282_0 := (HB.out.cell (World.block_lt_of_cell? w _ hx282_0)).trans hx282_0
        replace hx282_1 := (HB.out.cell (World.block_lt_of_cell? w _ hx282_1)).trans hx282_1
        replace hx282_2 := (HB.out.cell (World.block_lt_of_cell? w _ hx282_2)).trans hx282_2
        replace p282 := eq_true p282
        replace q282 := eq_true q282
        go_wp2_with (first | ((with_reducible refine gate_callee (f := 62) rfl ?_); refine gl (some 20) Try.func62 #[.agg #[.string ((rd_T84 l0 x4_1).f0), .int .i64 ((rd_T84 l0 x4_1).f1), .int .i64 ((rd_T84 l0 x4_1).f2)]] ?_; (with_reducible refine (laws_toTeam.calls ((rd_T84 l0 x4_1).f0) ((rd_T84 l0 x4_1).f1) ((rd_T84 l0 x4_1).f2) t283 t284 t285 _ A8.out).mono ?_); rintro e w11 ⟨rfl, hb⟩; refine ⟨_, rfl, ?_⟩; replace HO_3 := kr HO_3 hb; replace HB := hs_ HB hb; (try clear hb hb2 hk hi); have p10 : 0 ≤ (x4_1 : Int) := of_decide_eq_true (by first | (with_reducible assumption) | assumption); have q10 : (x4_1 : Int) < ((x3_1.length : Int) : Int) := of_decide_eq_true (by first | (with_reducible assumption) | assumption); obtain ⟨go10, co10, eo10, gb10, gl10, cl10, HG10⟩ := Kd.R_form HO_3.out (by omega); (first | cases eo10 | (injection eo10 with ea_ en_ ec_; (first | subst ea_ | (injection ea_ with ea_; subst ea_)); subst ec_; clear en_)); have GB10 := Aside0.mk gb10; have GG10 := Aside0.mk HG10; clear gb10 gl10 HG10; obtain ⟨ce10, hcl10, hM10, hcc10, hfr10⟩ := Kd.R_elem HO_3.out z87 (x4_1 : Int) p10 q10; obtain rfl := k87_openM hM10; have hx10_0 : w11.cell? ⟨go10, (x4_1 : Int).toNat * 3, none⟩ = some (.string ((rd_T87 x3_1 x4_1).f0)) := hcc10 0 _ rfl; have hx10_1 : w11.cell? ⟨go10, (x4_1 : Int).toNat * 3 + 1, none⟩ = some (.int .i64 ((rd_T87 x3_1 x4_1).f1)) := hcc10 1 _ rfl; have hx10_2 : w11.cell? ⟨go10, (x4_1 : Int).toNat * 3 + 2, none⟩ = some (.int .i64 ((rd_T87 x3_1 x4_1).f2)) := hcc10 2 _ rfl; have hf10_0 : w11.frozen? ⟨go10, (x4_1 : Int).toNat * 3, none⟩ = false := hfr10 0; have hf10_1 : w11.frozen? ⟨go10, (x4_1 : Int).toNat * 3 + 1, none⟩ = false := hfr10 1; have hf10_2 : w11.frozen? ⟨go10, (x4_1 : Int).toNat * 3 + 2, none⟩ = false := hfr10 2; clear hcl10 hcc10 hfr10; (try clear hM10); replace p10 := eq_true p10; replace q10 := eq_true q10; have HX12 := Aside0.mk (show Kd.R k87 87 w11 w.heap.size (fun _ => True) (.slice (some ⟨go10, 0, none⟩) x3_1.length co10) x3_1 from (rr HO_3)); obtain ⟨ce12, hcl12, hM12, hcc12, hfr12⟩ := Kd.R_elem HX12.out z87 (x4_1 : Int) (of_decide_eq_true (by first | (with_reducible assumption) | assumption)) (by have h_ : (x4_1 : Int) < ((x3_1.length : Int) : Int) := of_decide_eq_true (by first | (with_reducible assumption) | assumption); first | exact h_ | (have e_ := (Kd.R_reads' HO_3.out).1; omega) | simpa using h_); obtain rfl := k87_openM hM12; have HP12 := Kd.R_seg HX12.out (x4_1 : Int) (of_decide_eq_true (by first | (with_reducible assumption) | assumption)) (by have h_ : (x4_1 : Int) < ((x3_1.length : Int) : Int) := of_decide_eq_true (by first | (with_reducible assumption) | assumption); first | exact h_ | (have e_ := (Kd.R_reads' HO_3.out).1; omega) | simpa using h_) (seg := [.string t283, .int .i64 t284, .int .i64 t285]) (j := 0) hcl12 hcc12 (show 3 ≤ 3 from by decide) (x' := (⟨t283, t284, t285⟩ : S87)) (k87_mkM _ _ _ (⟨t283, t284, t285⟩ : S87) ) (fun _ hk => hk); have hx12_0 := hcc12 0 _ rfl; (try simp only [show (k87).sz = 3 from rfl, Nat.mul_one, Nat.add_zero] at hx12_0); have hf12_0 := hfr12 0; (try simp only [show (k87).sz = 3 from rfl, Nat.mul_one, Nat.add_zero] at hf12_0); have hx12_1 := hcc12 1 _ rfl; (try simp only [show (k87).sz = 3 from rfl, Nat.mul_one, Nat.add_zero] at hx12_1); have hf12_1 := hfr12 1; (try simp only [show (k87).sz = 3 from rfl, Nat.mul_one, Nat.add_zero] at hf12_1); have hx12_2 := hcc12 2 _ rfl; (try simp only [show (k87).sz = 3 from rfl, Nat.mul_one, Nat.add_zero] at hx12_2); have hf12_2 := hfr12 2; (try simp only [show (k87).sz = 3 from rfl, Nat.mul_one, Nat.add_zero] at hf12_2); clear hcl12 hcc12 hfr12; (try clear hM12)) | ((with_reducible refine gate_store (t := 87) (p := 21) rfl ?_); refine store_event (t := 87) (p := 21) (v := ?vo_w13) (w1 := (((w11.setCell ⟨go10, (x4_1 : Int).toNat * 3, none⟩ (.string t283)).setCell ⟨go10, (x4_1 : Int).toNat * 3 + 1, none⟩ (.int .i64 t284)).setCell ⟨go10, (x4_1 : Int).toNat * 3 + 2, none⟩ (.int .i64 t285))) ?hg ?ho ?hn ?hr ?_; (case ho => rfl); (case hg => rfl); (case hn => rfl); (case hr => first | (go_simp; done) | (go_simp; rfl)); intro w13 hw; have hg : w11.grownBy w13 (some go10) := (by rw [hw]; exact HP12.2); have hp_ : Kd.R k87 87 w13 w.heap.size (fun _ => True) (.slice (some ⟨go10, 0, none⟩) x3_1.length co10) y286 := (by rw [hw, Ny286.out]; exact HP12.1); clear HP12; replace HO_3 := Aside0.mk (hp_); replace HB := Aside0.mk (by rw [hw]; exact below_set (below_set (below_set (HB.out) GB10.out) GB10.out) GB10.out : Below w.heap.size w w13); clear hg hw hp_))
        go_roundg k1
        case measure => have := HK1.out; omega
        case rel => exact ⟨(y286), (wrap64 (x4_1 + 1)), e2_, H', ⟨by have := HK1.out; omega⟩, ⟨rr HO_3⟩, ⟨bb HB⟩⟩
       ·rw [if_neg c9] at H
        exact absurd H (by simp)
      ·rw [if_neg c7] at H
       exact absurd H (by simp)
     ·rw [if_neg c6] at H
      have c6b0 : decide (x4_1 < (l0.length : Int)) = false := decide_eq_false c6
      clear c6
      obtain rfl := Option.some.inj H
      go_wp2
      go_ret
      exact ⟨_, ee, rr HO_3, bb HB⟩
  ·rw [if_neg c3] at H
   exact absurd H (by simp)
 ·rw [if_neg c2] at H
  exact absurd H (by simp)
end Go.Proofs.Ytoaepoffooomnaa.Q
namespace Go.Proofs.Ytoaepoffooomnaa.Q
open Go.RowKit Go.Proofs.YtoaepoffooomnaaW.PrintWords Go.Proofs.YtoaepoffooomnaaW.PrintLast Go.Proofs.YtoaepoffooomnaaW.PrintMore
attribute [local go_sem] max2_int min2_int max_two min_two max_three min_three max_four min_four
set_option linter.unusedVariables false
set_option linter.unusedSimpArgs false
def laws_toRules.f (k : Nat) (a0_0 : Int) (a0_1 : Int) (a0_2 : Int) (l0_3 : List Int) (a0_4 : Bool) : Option (Int × Int × Int × List Int × Bool) := (laws_toIntS.f k l0_3).bind fun t290 => (some (a0_0, a0_1, a0_2, t290, a0_4))
set_option maxHeartbeats 8000000 in
set_option maxRecDepth 100000 in
theorem laws_toRules.calls (k : Nat) (a0_0 : Int) (a0_1 : Int) (a0_2 : Int) (A0_3 : Option Addr) (c0_3 : Nat) (l0_3 : List Int) (a0_4 : Bool) (r1 : Int) (r2 : Int) (r3 : Int) (r4 : List Int) (r5 : Bool) (w : World) (hr0_3 : Kd.C (Kd.int .i64) w A0_3 l0_3.length l0_3) (hc0_3 : l0_3.length ≤ c0_3) (h : laws_toRules.f k a0_0 a0_1 a0_2 l0_3 a0_4 = some (r1, r2, r3, r4, r5)) :
  Calls Try.prog 29 #[.agg #[.int .i64 a0_0, .int .i64 a0_1, .int .i64 a0_2, .slice A0_3 l0_3.length c0_3, .bool a0_4]] w fun e w' => ∃ v3_ : Value, e = .returned (.agg #[.int .i64 r1, .int .i64 r2, .int .i64 r3, v3_, .bool r5]) ∧ Kd.R (Kd.int .i64) 3 w' w.heap.size (fun _ => True) v3_ r4 ∧ Below w.heap.size w w' := by
 have hu25 := Try.underlying25
 have hu31 := Try.underlying31
 have HR0_3 := Aside0.mk hr0_3
 have HC0_3 := Aside0.mk hc0_3
 clear hr0_3 hc0_3
 have HB := Aside0.mk (Below.refl w.heap.size w)
 have H : ((laws_toIntS.f k l0_3).bind fun t290 => (some (a0_0, a0_1, a0_2, t290, a0_4))) = some (r1, r2, r3, r4, r5) := h
 clear h
 replace H := Option.bind_eq_some_iff.mp H
 obtain ⟨t290, A20, H⟩ := H
 replace H : (some (a0_0, a0_1, a0_2, t290, a0_4)) = some (r1, r2, r3, r4, r5) := H
 have A2 := Aside0.mk A20
 clear A20
 simp only [Option.some.injEq, Prod.mk.injEq] at H
 obtain ⟨rfl, rfl, rfl, rfl, rfl⟩ := H
 go_enter Try.func29, Try.ntmps29
 go_wp2_with (first | ((with_reducible refine gate_dst (N := 1) rfl ?_); refine bx (N := 1) (cs := #[.int .i64 a0_0, .int .i64 a0_1, .int .i64 a0_2, .slice A0_3 l0_3.length c0_3, .bool a0_4]) (t := 25) ?_; intro gb287 hg w3 hbox hb; have BK287 := Aside0.mk (hbox); have GW287 := gs hg HB; have GE287 := gs hg HB; replace HB := hs_ HB hb; clear hb hbox hg) | ((with_reducible refine gate_dst (N := 2) rfl ?_); refine bx (N := 2) (cs := #[.int .i64 0, .int .i64 0, .int .i64 0, .slice none 0 0, .bool false]) (t := 31) ?_; intro gb288 hg w4 hbox hb; have BK288 := Aside0.mk (hbox); have GW288 := gs hg HB; have GE288 := gs hg HB; replace HB := hs_ HB hb; have NB287_288 := gn hg BK287; have NB288_287 := gm hg BK287; replace BK287 := kb BK287 hb; clear hb hbox hg) | ((with_reducible refine gate_dst (N := 3) rfl ?_); refine bx (N := 3) (cs := #[.int .i64 0, .int .i64 0, .int .i64 0, .slice none 0 0, .bool false]) (t := 31) ?_; intro gb289 hg w5 hbox hb; have BK289 := Aside0.mk (hbox); have GW289 := gs hg HB; have GE289 := gs hg HB; replace HB := hs_ HB hb; have NB287_289 := gn hg BK287; have NB289_287 := gm hg BK287; replace BK287 := kb BK287 hb; have NB288_289 := gn hg BK288; have NB289_288 := gm hg BK288; replace BK288 := kb BK288 hb; clear hb hbox hg; have hnb6 := NB287_288.out; have hnc6 := NB288_287.out; have hnb7 := NB287_289.out; have hnc7 := NB289_287.out; have ⟨hcz8_0, hcz8_1, hcz8_2, hcz8_3, hcz8_4, hfz8_0, hfz8_1, hfz8_2, hfz8_3, hfz8_4⟩ := rz5 BK287; have hnb9 := NB289_288.out; have hnc9 := NB288_289.out; have ⟨hcz10_0, hcz10_1, hcz10_2, hcz10_3, hcz10_4, hfz10_0, hfz10_1, hfz10_2, hfz10_3, hfz10_4⟩ := rz5 BK289) | ((with_reducible refine gate_callee (f := 9) rfl ?_); refine gl (some 15) Try.func9 #[.slice A0_3 l0_3.length c0_3] ?_; (with_reducible refine (laws_toIntS.calls k _ _ l0_3 t290 _ ?side1 ?side2 A2.out).mono ?_); (case side1 => exact Kd.C_below HR0_3.out (bb HB)); (case side2 => exact HC0_3.out); rintro e w11 ⟨v291, rfl, ho0, hb⟩; refine ⟨_, rfl, ?_⟩; have HO292 := kl ho0 HB; replace BK287 := Aside0.mk (blk_below (g := gb287) (o := .cells #[.int .i64 a0_0, .int .i64 a0_1, .int .i64 a0_2, .slice A0_3 l0_3.length c0_3, .bool a0_4] 25 (0, 0)) (by (with_reducible repeat (first | refine blk_drewN ?_ _ | refine blk_drew ?_ | refine blk_alloc ?_ _)); refine blk_far ?_ NB287_289.out _; (with_reducible repeat (first | refine blk_drewN ?_ _ | refine blk_drew ?_ | refine blk_alloc ?_ _)); refine blk_far ?_ NB287_289.out _; (with_reducible repeat (first | refine blk_drewN ?_ _ | refine blk_drew ?_ | refine blk_alloc ?_ _)); refine blk_far ?_ NB287_289.out _; (with_reducible repeat (first | refine blk_drewN ?_ _ | refine blk_drew ?_ | refine blk_alloc ?_ _)); exact BK287.out) hb); replace BK288 := Aside0.mk (blk_below (g := gb288) (o := .cells #[.int .i64 0, .int .i64 0, .int .i64 0, .slice none 0 0, .bool false] 31 (0, 0)) (by (with_reducible repeat (first | refine blk_drewN ?_ _ | refine blk_drew ?_ | refine blk_alloc ?_ _)); refine blk_far ?_ NB288_289.out _; (with_reducible repeat (first | refine blk_drewN ?_ _ | refine blk_drew ?_ | refine blk_alloc ?_ _)); refine blk_far ?_ NB288_289.out _; (with_reducible repeat (first | refine blk_drewN ?_ _ | refine blk_drew ?_ | refine blk_alloc ?_ _)); refine blk_far ?_ NB288_289.out _; (with_reducible repeat (first | refine blk_drewN ?_ _ | refine blk_drew ?_ | refine blk_alloc ?_ _)); exact BK288.out) hb); replace BK289 := Aside0.mk (blk_below (g := gb289) (o := .cells #[.int .i64 a0_0, .int .i64 a0_1, .int .i64 a0_2, .slice none 0 0, .bool false] 31 (0, 0)) (by (with_reducible repeat (first | refine blk_drewN ?_ _ | refine blk_drew ?_ | refine blk_alloc ?_ _)); refine blk_put (cs := #[.int .i64 a0_0, .int .i64 a0_1, .int .i64 0, .slice none 0 0, .bool false]) ?_ 2 _ rfl; (with_reducible repeat (first | refine blk_drewN ?_ _ | refine blk_drew ?_ | refine blk_alloc ?_ _)); refine blk_put (cs := #[.int .i64 a0_0, .int .i64 0, .int .i64 0, .slice none 0 0, .bool false]) ?_ 1 _ rfl; (with_reducible repeat (first | refine blk_drewN ?_ _ | refine blk_drew ?_ | refine blk_alloc ?_ _)); refine blk_put (cs := #[.int .i64 0, .int .i64 0, .int .i64 0, .slice none 0 0, .bool false]) ?_ 0 _ rfl; (with_reducible repeat (first | refine blk_drewN ?_ _ | refine blk_drew ?_ | refine blk_alloc ?_ _)); exact BK289.out) hb); replace HB := hs_ HB hb; (try clear hb hb2 hk hi ho0); obtain ⟨Ao12, co12, eo12⟩ := Kd.R_slice HO292.out; subst eo12; have ⟨hcz13_0, hcz13_1, hcz13_2, hcz13_3, hcz13_4, hfz13_0, hfz13_1, hfz13_2, hfz13_3, hfz13_4⟩ := rz5 BK289; have ⟨hcz14_0, hcz14_1, hcz14_2, hcz14_3, hcz14_4, hfz14_0, hfz14_1, hfz14_2, hfz14_3, hfz14_4⟩ := rz5 BK287; have ⟨hcz15_0, hcz15_1, hcz15_2, hcz15_3, hcz15_4, hfz15_0, hfz15_1, hfz15_2, hfz15_3, hfz15_4⟩ := rz5 BK288))
 refine bodyPost_ret (results_cell_row rfl _ _ gb288 31 #[.int .i64 a0_0, .int .i64 a0_1, .int .i64 a0_2, .slice Ao12 t290.length co12, .bool a0_4] (0, 0) _ rfl (by (with_reducible repeat (first | refine blk_drewN ?_ _ | refine blk_drew ?_ | refine blk_alloc ?_ _)); refine blk_put (cs := #[.int .i64 a0_0, .int .i64 a0_1, .int .i64 a0_2, .slice Ao12 t290.length co12, .bool false]) ?_ 4 _ rfl; (with_reducible repeat (first | refine blk_drewN ?_ _ | refine blk_drew ?_ | refine blk_alloc ?_ _)); refine blk_put (cs := #[.int .i64 a0_0, .int .i64 a0_1, .int .i64 a0_2, .slice none 0 0, .bool false]) ?_ 3 _ rfl; (with_reducible repeat (first | refine blk_drewN ?_ _ | refine blk_drew ?_ | refine blk_alloc ?_ _)); refine blk_put (cs := #[.int .i64 a0_0, .int .i64 a0_1, .int .i64 0, .slice none 0 0, .bool false]) ?_ 2 _ rfl; (with_reducible repeat (first | refine blk_drewN ?_ _ | refine blk_drew ?_ | refine blk_alloc ?_ _)); refine blk_put (cs := #[.int .i64 a0_0, .int .i64 0, .int .i64 0, .slice none 0 0, .bool false]) ?_ 1 _ rfl; (with_reducible repeat (first | refine blk_drewN ?_ _ | refine blk_drew ?_ | refine blk_alloc ?_ _)); refine blk_put (cs := #[.int .i64 0, .int .i64 0, .int .i64 0, .slice none 0 0, .bool false]) ?_ 0 _ rfl; (with_reducible repeat (first | refine blk_drewN ?_ _ | refine blk_drew ?_ | refine blk_alloc ?_ _)); refine blk_far ?_ NB288_289.out _; (with_reducible repeat (first | refine blk_drewN ?_ _ | refine blk_drew ?_ | refine blk_alloc ?_ _)); refine blk_far ?_ NB288_289.out _; (with_reducible repeat (first | refine blk_drewN ?_ _ | refine blk_drew ?_ | refine blk_alloc ?_ _)); exact BK288.out) Try.underlying31 rfl (by kernel_rfl)) rfl ?_
 exact ⟨_, ee, by (with_reducible repeat (first | apply Kd.R_alloc | apply Kd.R_drewN | apply Kd.R_drew)); exact Kd.R_mono (Kd.R_far (p := ⟨gb288, 4, none⟩) (Kd.R_far (p := ⟨gb288, 3, none⟩) (Kd.R_far (p := ⟨gb288, 2, none⟩) (Kd.R_far (p := ⟨gb288, 1, none⟩) (Kd.R_far (p := ⟨gb288, 0, none⟩) (Kd.R_far (p := ⟨gb289, 4, none⟩) (Kd.R_far (p := ⟨gb289, 3, none⟩) (Kd.R_types (Kd.R_types HO292.out BK289.out (by decide)) BK288.out (by decide)) (fun _ hk => hk.1.2) (.slice Ao12 t290.length co12)) (fun _ hk => hk.1.2) (.bool a0_4)) (fun _ hk => hk.2) (.int .i64 a0_0)) (fun _ hk => hk.2) (.int .i64 a0_1)) (fun _ hk => hk.2) (.int .i64 a0_2)) (fun _ hk => hk.2) (.slice Ao12 t290.length co12)) (fun _ hk => hk.2) (.bool a0_4)) (fun _ hk => trivial), bb HB⟩
end Go.Proofs.Ytoaepoffooomnaa.Q
namespace Go.Proofs.Ytoaepoffooomnaa.Q
open Go.RowKit Go.Proofs.YtoaepoffooomnaaW.PrintWords Go.Proofs.YtoaepoffooomnaaW.PrintLast Go.Proofs.YtoaepoffooomnaaW.PrintMore
attribute [local go_sem] max2_int min2_int max_two min_two max_three min_three max_four min_four
set_option linter.unusedVariables false
set_option linter.unusedSimpArgs false
def laws_toGame.f (a0_0 : Int) (a0_1 : Int) (a0_2 : Int) (a0_3 : Int) (a0_4 : Int) : Option (Int × Int × Int × Int × Int) := some (a0_0, a0_1, a0_2, a0_3, a0_4)
set_option maxHeartbeats 8000000 in
set_option maxRecDepth 100000 in
theorem laws_toGame.calls (a0_0 : Int) (a0_1 : Int) (a0_2 : Int) (a0_3 : Int) (a0_4 : Int) (r1 : Int) (r2 : Int) (r3 : Int) (r4 : Int) (r5 : Int) (w : World) (h : laws_toGame.f a0_0 a0_1 a0_2 a0_3 a0_4 = some (r1, r2, r3, r4, r5)) :
  Calls Try.prog 63 #[.agg #[.int .i64 a0_0, .int .i64 a0_1, .int .i64 a0_2, .int .i64 a0_3, .int .i64 a0_4]] w fun e w' => e = .returned (.agg #[.int .i64 r1, .int .i64 r2, .int .i64 r3, .int .i64 r4, .int .i64 r5]) ∧ Below w.heap.size w w' := by
 have hu90 := Try.underlying90
 have hu75 := Try.underlying75
 have HB := Aside0.mk (Below.refl w.heap.size w)
 have H : (some (a0_0, a0_1, a0_2, a0_3, a0_4)) = some (r1, r2, r3, r4, r5) := h
 clear h
 simp only [Option.some.injEq, Prod.mk.injEq] at H
 obtain ⟨rfl, rfl, rfl, rfl, rfl⟩ := H
 go_enter Try.func63, Try.ntmps63
 go_wp2_with (first | ((with_reducible refine gate_dst (N := 1) rfl ?_); refine bx (N := 1) (cs := #[.int .i64 a0_0, .int .i64 a0_1, .int .i64 a0_2, .int .i64 a0_3, .int .i64 a0_4]) (t := 90) ?_; intro gb293 hg w2 hbox hb; have BK293 := Aside0.mk (hbox); have GW293 := gs hg HB; have GE293 := gs hg HB; replace HB := hs_ HB hb; clear hb hbox hg) | ((with_reducible refine gate_dst (N := 2) rfl ?_); refine bx (N := 2) (cs := #[.int .i64 0, .int .i64 0, .int .i64 0, .int .i64 0, .int .i64 0]) (t := 75) ?_; intro gb294 hg w3 hbox hb; have BK294 := Aside0.mk (hbox); have GW294 := gs hg HB; have GE294 := gs hg HB; replace HB := hs_ HB hb; have NB293_294 := gn hg BK293; have NB294_293 := gm hg BK293; replace BK293 := kb BK293 hb; clear hb hbox hg) | ((with_reducible refine gate_dst (N := 3) rfl ?_); refine bx (N := 3) (cs := #[.int .i64 0, .int .i64 0, .int .i64 0, .int .i64 0, .int .i64 0]) (t := 75) ?_; intro gb295 hg w4 hbox hb; have BK295 := Aside0.mk (hbox); have GW295 := gs hg HB; have GE295 := gs hg HB; replace HB := hs_ HB hb; have NB293_295 := gn hg BK293; have NB295_293 := gm hg BK293; replace BK293 := kb BK293 hb; have NB294_295 := gn hg BK294; have NB295_294 := gm hg BK294; replace BK294 := kb BK294 hb; clear hb hbox hg; have hnb5 := NB293_294.out; have hnc5 := NB294_293.out; have hnb6 := NB293_295.out; have hnc6 := NB295_293.out; have ⟨hcz7_0, hcz7_1, hcz7_2, hcz7_3, hcz7_4, hfz7_0, hfz7_1, hfz7_2, hfz7_3, hfz7_4⟩ := rz5 BK293; have hnb8 := NB295_294.out; have hnc8 := NB294_295.out; have ⟨hcz9_0, hcz9_1, hcz9_2, hcz9_3, hcz9_4, hfz9_0, hfz9_1, hfz9_2, hfz9_3, hfz9_4⟩ := rz5 BK295; have ⟨hcz10_0, hcz10_1, hcz10_2, hcz10_3, hcz10_4, hfz10_0, hfz10_1, hfz10_2, hfz10_3, hfz10_4⟩ := rz5 BK294))
 refine bodyPost_ret (results_cell_row rfl _ _ gb294 75 #[.int .i64 a0_0, .int .i64 a0_1, .int .i64 a0_2, .int .i64 a0_3, .int .i64 a0_4] (0, 0) _ rfl (by (with_reducible repeat (first | refine blk_drewN ?_ _ | refine blk_drew ?_ | refine blk_alloc ?_ _)); refine blk_put (cs := #[.int .i64 a0_0, .int .i64 a0_1, .int .i64 a0_2, .int .i64 a0_3, .int .i64 0]) ?_ 4 _ rfl; (with_reducible repeat (first | refine blk_drewN ?_ _ | refine blk_drew ?_ | refine blk_alloc ?_ _)); refine blk_put (cs := #[.int .i64 a0_0, .int .i64 a0_1, .int .i64 a0_2, .int .i64 0, .int .i64 0]) ?_ 3 _ rfl; (with_reducible repeat (first | refine blk_drewN ?_ _ | refine blk_drew ?_ | refine blk_alloc ?_ _)); refine blk_put (cs := #[.int .i64 a0_0, .int .i64 a0_1, .int .i64 0, .int .i64 0, .int .i64 0]) ?_ 2 _ rfl; (with_reducible repeat (first | refine blk_drewN ?_ _ | refine blk_drew ?_ | refine blk_alloc ?_ _)); refine blk_put (cs := #[.int .i64 a0_0, .int .i64 0, .int .i64 0, .int .i64 0, .int .i64 0]) ?_ 1 _ rfl; (with_reducible repeat (first | refine blk_drewN ?_ _ | refine blk_drew ?_ | refine blk_alloc ?_ _)); refine blk_put (cs := #[.int .i64 0, .int .i64 0, .int .i64 0, .int .i64 0, .int .i64 0]) ?_ 0 _ rfl; (with_reducible repeat (first | refine blk_drewN ?_ _ | refine blk_drew ?_ | refine blk_alloc ?_ _)); refine blk_far ?_ NB294_295.out _; (with_reducible repeat (first | refine blk_drewN ?_ _ | refine blk_drew ?_ | refine blk_alloc ?_ _)); refine blk_far ?_ NB294_295.out _; (with_reducible repeat (first | refine blk_drewN ?_ _ | refine blk_drew ?_ | refine blk_alloc ?_ _)); refine blk_far ?_ NB294_295.out _; (with_reducible repeat (first | refine blk_drewN ?_ _ | refine blk_drew ?_ | refine blk_alloc ?_ _)); refine blk_far ?_ NB294_295.out _; (with_reducible repeat (first | refine blk_drewN ?_ _ | refine blk_drew ?_ | refine blk_alloc ?_ _)); refine blk_far ?_ NB294_295.out _; (with_reducible repeat (first | refine blk_drewN ?_ _ | refine blk_drew ?_ | refine blk_alloc ?_ _)); exact BK294.out) Try.underlying75 rfl (by kernel_rfl)) rfl ?_
 exact ⟨ee, bb HB⟩
end Go.Proofs.Ytoaepoffooomnaa.Q
namespace Go.Proofs.Ytoaepoffooomnaa.Q
open Go.RowKit Go.Proofs.YtoaepoffooomnaaW.PrintWords Go.Proofs.YtoaepoffooomnaaW.PrintLast Go.Proofs.YtoaepoffooomnaaW.PrintMore
attribute [local go_sem] max2_int min2_int max_two min_two max_three min_three max_four min_four
set_option linter.unusedVariables false
set_option linter.unusedSimpArgs false
def laws_toGameS.l0 : Nat → List (S90) → List (S75) → Int → Option ((List (S75)))
 | 0, _, _, _ => none
 | k + 1, x0, x3, x4 => if x4 < (x0.length : Int) then (if 0 ≤ x4 then ((laws_toGame.f ((rd_T90 x0 x4).f0) ((rd_T90 x0 x4).f1) ((rd_T90 x0 x4).f2) ((rd_T90 x0 x4).f3) ((rd_T90 x0 x4).f4)).bind fun bt300 => (if x4 < (x3.length : Int) then (laws_toGameS.l0 k x0 (x3.set (x4 : Int).toNat (⟨bt300.1, bt300.2.1, bt300.2.2.1, bt300.2.2.2.1, bt300.2.2.2.2⟩ : S75)) (wrap64 (x4 + 1))) else (none))) else (none)) else (some x3)
def laws_toGameS.f (k : Nat) (l0 : List (S90)) : Option ((List (S75))) := if 0 ≤ (l0.length : Int) then (if ((l0.length : Int) : Int).toNat ≤ 7036874417766 then (laws_toGameS.l0 k l0 (List.replicate ((l0.length : Int) : Int).toNat z75) 0) else (none)) else (none)
set_option maxHeartbeats 8000000 in
set_option maxRecDepth 100000 in
theorem laws_toGameS.calls (k : Nat) (A0 : Option Addr) (c0 : Nat) (l0 : List (S90)) (r : List (S75)) (w : World) (hr0 : Kd.C k90 w A0 l0.length l0) (hc0 : l0.length ≤ c0) (h : laws_toGameS.f k l0 = some r) :
  Calls Try.prog 30 #[.slice A0 l0.length c0] w fun e w' => ∃ v0_ : Value, e = .returned (v0_) ∧ Kd.R k75 75 w' w.heap.size (fun _ => True) v0_ r ∧ Below w.heap.size w w' := by
 have hu90 := Try.underlying90
 have hu75 := Try.underlying75
 have HR0 := Aside0.mk hr0
 have HC0 := Aside0.mk hc0
 clear hr0 hc0
 have HB := Aside0.mk (Below.refl w.heap.size w)
 have H : (if 0 ≤ (l0.length : Int) then (if ((l0.length : Int) : Int).toNat ≤ 7036874417766 then (laws_toGameS.l0 k l0 (List.replicate ((l0.length : Int) : Int).toNat z75) 0) else (none)) else (none)) = some r := h
 clear h
 by_cases c2 : 0 ≤ (l0.length : Int)
 ·rw [if_pos c2] at H
  have c2b0 := eq_true c2
  have c2b1 : decide (0 ≤ (l0.length : Int)) = true := decide_eq_true c2
  clear c2
  by_cases c3 : ((l0.length : Int) : Int).toNat ≤ 7036874417766
  ·rw [if_pos c3] at H
   have c3b0 := eq_true c3
   have c3b1 : decide (((l0.length : Int) : Int).toNat ≤ 7036874417766) = true := decide_eq_true c3
   clear c3
   obtain ⟨y296, hy296⟩ : ∃ y_ : List (S75), y_ = (List.replicate ((l0.length : Int) : Int).toNat z75) := ⟨_, rfl⟩
   replace H : (laws_toGameS.l0 k l0 y296 0) = some r := by first | (rw [hy296]; with_reducible exact H) | (have H2_ := (Option.bind_some _ _).symm.trans H; rw [hy296]; with_reducible exact H2_) | (have H2_ := (Option.bind_some _ _).symm.trans H; with_reducible exact H2_) | with_reducible exact H | (rw [hy296]; exact H) | exact H
   have Ny296 := Aside0.mk hy296
   clear hy296
   have H' := Aside0.mk H
   clear H
   go_enter Try.func30, Try.ntmps30
   go_wp2_with (first | ((with_reducible refine gate_dst (N := 7) rfl ?_); refine Kd.R_make k75 _ 75 rfl (N := 7) rfl 32 _ _ rfl (l0.length : Int) rfl rfl Try.underlying32 (.agg #[(.int .i64 0), (.int .i64 0), (.int .i64 0), (.int .i64 0), (.int .i64 0)]) 40 info75 rfl (by decide) (by omega) z75 (ok := fun _ => True) (okp := fun _ => True) (k75_mkM _ _ _ z75 ) (fun _ hk => hk) trivial (of_decide_eq_true (by first | (with_reducible assumption) | assumption)) (Nat.le_trans (Nat.mul_le_mul_right _ (of_decide_eq_true (by first | (with_reducible assumption) | assumption) : (l0.length : Int).toNat ≤ 7036874417766)) (by omega)) (Below.refl _ _) (Nat.le_refl _) ?_; intro v297 w4 ho5 hb hg_ hnew_; clear hg_ hnew_; (first | rw [← Ny296.out] at ho5 | (simp only [Int.reduceToNat] at ho5; rw [← Ny296.out] at ho5)); have HO298 := kl ho5 HB; replace HB := hs_ HB hb; clear hb ho5))
   go_loopg [4] k (fun kq v4 w' => ∃ (x3_1 : List (S75)) (x4_1 : Int), v4 = .int .i64 x4_1 ∧ Aside0 (laws_toGameS.l0 kq l0 x3_1 x4_1 = some r) ∧ Aside0 (kq ≤ k) ∧ Aside0 (Kd.R k75 75 w' w.heap.size (fun _ => True) v297 x3_1) ∧ Aside0 (Below w.heap.size w w'))
   case atStart => exact ⟨(y296), (0), e2_, H', ⟨Nat.le_refl _⟩, ⟨rr HO298⟩, ⟨bb HB⟩⟩
   case round =>
    clear H'
    (try clear c2)
    (try clear c2b0)
    (try clear c2b1)
    (try clear p2)
    (try clear c3)
    (try clear c3b0)
    (try clear c3b1)
    obtain ⟨x3_1, x4_1, rfl, HA, HK1, HO_3, HB⟩ := hrel
    cases gk with
    | zero => exact absurd HA.out (by simp [laws_toGameS.l0])
    | succ k1 =>
     have H := HA.out
     clear HA
     simp only [laws_toGameS.l0] at H
     by_cases c6 : x4_1 < (l0.length : Int)
     ·rw [if_pos c6] at H
      have c6b0 : decide (x4_1 < (l0.length : Int)) = true := decide_eq_true c6
      clear c6
      by_cases c7 : 0 ≤ x4_1
      ·rw [if_pos c7] at H
       have c7b0 : decide (0 ≤ x4_1) = true := decide_eq_true c7
       clear c7
       replace H := Option.bind_eq_some_iff.mp H
       obtain ⟨⟨t300, t301, t302, t303, t304⟩, A80, H⟩ := H
       try dsimp only at H
       have A8 := Aside0.mk A80
       clear A80
       by_cases c9 : x4_1 < (x3_1.length : Int)
       ·rw [if_pos c9] at H
        have c9b0 : decide (x4_1 < (x3_1.length : Int)) = true := decide_eq_true c9
        clear c9
        obtain ⟨y305, hy305⟩ : ∃ y_ : List (S75), y_ = (x3_1.set (x4_1 : Int).toNat (⟨t300, t301, t302, t303, t304⟩ : S75)) := ⟨_, rfl⟩
        replace H : (laws_toGameS.l0 k1 l0 y305 (wrap64 (x4_1 + 1))) = some r := by first | (rw [hy305]; with_reducible exact H) | (have H2_ := (Option.bind_some _ _).symm.trans H; rw [hy305]; with_reducible exact H2_) | (have H2_ := (Option.bind_some _ _).symm.trans H; with_reducible exact H2_) | with_reducible exact H | (rw [hy305]; exact H) | exact H
        have Ny305 := Aside0.mk hy305
        clear hy305
        have H' := Aside0.mk H
        clear H
        have p299 : 0 ≤ (x4_1 : Int) := of_decide_eq_true (by first | (with_reducible assumption) | assumption)
        have q299 : x4_1 < (l0.length : Int) := of_decide_eq_true (by first | (with_reducible assumption) | assumption)
        obtain ⟨ad299, e299, hx299_0, hx299_1, hx299_2, hx299_3, hx299_4⟩ := at_T90 HR0.out x4_1 p299 q299
        cases e299
        replace hx299_0 := (HB.out.cell (World.block_lt_of_cell? w _ hx299_0)).trans hx299_0
        replace hx299_1 := (HB.out.cell (World.block_lt_of_cell? w _ hx299_1)).trans hx299_1
        replace hx299_2 := (HB.out.cell (World.block_lt_of_cell? w _ hx299_2)).trans hx299_2
        replace hx299_3 := (HB.out.cell (World.block_lt_of_cell? w _ hx299_3)).trans hx299_3
        replace hx299_4 := (HB.out.cell (World.block_lt_of_cell? w _ hx299_4)).trans hx299_4
        replace p299 := eq_true p299
        replace q299 := eq_true q299
        go_wp2_with (first | ((with_reducible refine gate_callee (f := 63) rfl ?_); refine gl (some 20) Try.func63 #[.agg #[.int .i64 ((rd_T90 l0 x4_1).f0), .int .i64 ((rd_T90 l0 x4_1).f1), .int .i64 ((rd_T90 l0 x4_1).f2), .int .i64 ((rd_T90 l0 x4_1).f3), .int .i64 ((rd_T90 l0 x4_1).f4)]] ?_; (with_reducible refine (laws_toGame.calls ((rd_T90 l0 x4_1).f0) ((rd_T90 l0 x4_1).f1) ((rd_T90 l0 x4_1).f2) ((rd_T90 l0 x4_1).f3) ((rd_T90 l0 x4_1).f4) t300 t301 t302 t303 t304 _ A8.out).mono ?_); rintro e w11 ⟨rfl, hb⟩; refine ⟨_, rfl, ?_⟩; replace HO_3 := kr HO_3 hb; replace HB := hs_ HB hb; (try clear hb hb2 hk hi); have p10 : 0 ≤ (x4_1 : Int) := of_decide_eq_true (by first | (with_reducible assumption) | assumption); have q10 : (x4_1 : Int) < ((x3_1.length : Int) : Int) := of_decide_eq_true (by first | (with_reducible assumption) | assumption); obtain ⟨go10, co10, eo10, gb10, gl10, cl10, HG10⟩ := Kd.R_form HO_3.out (by omega); (first | cases eo10 | (injection eo10 with ea_ en_ ec_; (first | subst ea_ | (injection ea_ with ea_; subst ea_)); subst ec_; clear en_)); have GB10 := Aside0.mk gb10; have GG10 := Aside0.mk HG10; clear gb10 gl10 HG10; obtain ⟨ce10, hcl10, hM10, hcc10, hfr10⟩ := Kd.R_elem HO_3.out z75 (x4_1 : Int) p10 q10; obtain rfl := k75_openM hM10; have hx10_0 : w11.cell? ⟨go10, (x4_1 : Int).toNat * 5, none⟩ = some (.int .i64 ((rd_T75 x3_1 x4_1).f0)) := hcc10 0 _ rfl; have hx10_1 : w11.cell? ⟨go10, (x4_1 : Int).toNat * 5 + 1, none⟩ = some (.int .i64 ((rd_T75 x3_1 x4_1).f1)) := hcc10 1 _ rfl; have hx10_2 : w11.cell? ⟨go10, (x4_1 : Int).toNat * 5 + 2, none⟩ = some (.int .i64 ((rd_T75 x3_1 x4_1).f2)) := hcc10 2 _ rfl; have hx10_3 : w11.cell? ⟨go10, (x4_1 : Int).toNat * 5 + 3, none⟩ = some (.int .i64 ((rd_T75 x3_1 x4_1).f3)) := hcc10 3 _ rfl; have hx10_4 : w11.cell? ⟨go10, (x4_1 : Int).toNat * 5 + 4, none⟩ = some (.int .i64 ((rd_T75 x3_1 x4_1).f4)) := hcc10 4 _ rfl; have hf10_0 : w11.frozen? ⟨go10, (x4_1 : Int).toNat * 5, none⟩ = false := hfr10 0; have hf10_1 : w11.frozen? ⟨go10, (x4_1 : Int).toNat * 5 + 1, none⟩ = false := hfr10 1; have hf10_2 : w11.frozen? ⟨go10, (x4_1 : Int).toNat * 5 + 2, none⟩ = false := hfr10 2; have hf10_3 : w11.frozen? ⟨go10, (x4_1 : Int).toNat * 5 + 3, none⟩ = false := hfr10 3; have hf10_4 : w11.frozen? ⟨go10, (x4_1 : Int).toNat * 5 + 4, none⟩ = false := hfr10 4; clear hcl10 hcc10 hfr10; (try clear hM10); replace p10 := eq_true p10; replace q10 := eq_true q10; have HX12 := Aside0.mk (show Kd.R k75 75 w11 w.heap.size (fun _ => True) (.slice (some ⟨go10, 0, none⟩) x3_1.length co10) x3_1 from (rr HO_3)); obtain ⟨ce12, hcl12, hM12, hcc12, hfr12⟩ := Kd.R_elem HX12.out z75 (x4_1 : Int) (of_decide_eq_true (by first | (with_reducible assumption) | assumption)) (by have h_ : (x4_1 : Int) < ((x3_1.length : Int) : Int) := of_decide_eq_true (by first | (with_reducible assumption) | assumption); first | exact h_ | (have e_ := (Kd.R_reads' HO_3.out).1; omega) | simpa using h_); obtain rfl := k75_openM hM12; have HP12 := Kd.R_seg HX12.out (x4_1 : Int) (of_decide_eq_true (by first | (with_reducible assumption) | assumption)) (by have h_ : (x4_1 : Int) < ((x3_1.length : Int) : Int) := of_decide_eq_true (by first | (with_reducible assumption) | assumption); first | exact h_ | (have e_ := (Kd.R_reads' HO_3.out).1; omega) | simpa using h_) (seg := [.int .i64 t300, .int .i64 t301, .int .i64 t302, .int .i64 t303, .int .i64 t304]) (j := 0) hcl12 hcc12 (show 5 ≤ 5 from by decide) (x' := (⟨t300, t301, t302, t303, t304⟩ : S75)) (k75_mkM _ _ _ (⟨t300, t301, t302, t303, t304⟩ : S75) ) (fun _ hk => hk); have hx12_0 := hcc12 0 _ rfl; (try simp only [show (k75).sz = 5 from rfl, Nat.mul_one, Nat.add_zero] at hx12_0); have hf12_0 := hfr12 0; (try simp only [show (k75).sz = 5 from rfl, Nat.mul_one, Nat.add_zero] at hf12_0); have hx12_1 := hcc12 1 _ rfl; (try simp only [show (k75).sz = 5 from rfl, Nat.mul_one, Nat.add_zero] at hx12_1); have hf12_1 := hfr12 1; (try simp only [show (k75).sz = 5 from rfl, Nat.mul_one, Nat.add_zero] at hf12_1); have hx12_2 := hcc12 2 _ rfl; (try simp only [show (k75).sz = 5 from rfl, Nat.mul_one, Nat.add_zero] at hx12_2); have hf12_2 := hfr12 2; (try simp only [show (k75).sz = 5 from rfl, Nat.mul_one, Nat.add_zero] at hf12_2); have hx12_3 := hcc12 3 _ rfl; (try simp only [show (k75).sz = 5 from rfl, Nat.mul_one, Nat.add_zero] at hx12_3); have hf12_3 := hfr12 3; (try simp only [show (k75).sz = 5 from rfl, Nat.mul_one, Nat.add_zero] at hf12_3); have hx12_4 := hcc12 4 _ rfl; (try simp only [show (k75).sz = 5 from rfl, Nat.mul_one, Nat.add_zero] at hx12_4); have hf12_4 := hfr12 4; (try simp only [show (k75).sz = 5 from rfl, Nat.mul_one, Nat.add_zero] at hf12_4); clear hcl12 hcc12 hfr12; (try clear hM12)) | ((with_reducible refine gate_store (t := 75) (p := 21) rfl ?_); refine store_event (t := 75) (p := 21) (v := ?vo_w13) (w1 := (((((w11.setCell ⟨go10, (x4_1 : Int).toNat * 5, none⟩ (.int .i64 t300)).setCell ⟨go10, (x4_1 : Int).toNat * 5 + 1, none⟩ (.int .i64 t301)).setCell ⟨go10, (x4_1 : Int).toNat * 5 + 2, none⟩ (.int .i64 t302)).setCell ⟨go10, (x4_1 : Int).toNat * 5 + 3, none⟩ (.int .i64 t303)).setCell ⟨go10, (x4_1 : Int).toNat * 5 + 4, none⟩ (.int .i64 t304))) ?hg ?ho ?hn ?hr ?_; (case ho => rfl); (case hg => rfl); (case hn => rfl); (case hr => first | (go_simp; done) | (go_simp; rfl)); intro w13 hw; have hg : w11.grownBy w13 (some go10) := (by rw [hw]; exact HP12.2); have hp_ : Kd.R k75 75 w13 w.heap.size (fun _ => True) (.slice (some ⟨go10, 0, none⟩) x3_1.length co10) y305 := (by rw [hw, Ny305.out]; exact HP12.1); clear HP12; replace HO_3 := Aside0.mk (hp_); replace HB := Aside0.mk (by rw [hw]; exact below_set (below_set (below_set (below_set (below_set (HB.out) GB10.out) GB10.out) GB10.out) GB10.out) GB10.out : Below w.heap.size w w13); clear hg hw hp_))
        go_roundg k1
        case measure => have := HK1.out; omega
        case rel => exact ⟨(y305), (wrap64 (x4_1 + 1)), e2_, H', ⟨by have := HK1.out; omega⟩, ⟨rr HO_3⟩, ⟨bb HB⟩⟩
       ·rw [if_neg c9] at H
        exact absurd H (by simp)
      ·rw [if_neg c7] at H
       exact absurd H (by simp)
     ·rw [if_neg c6] at H
      have c6b0 : decide (x4_1 < (l0.length : Int)) = false := decide_eq_false c6
      clear c6
      obtain rfl := Option.some.inj H
      go_wp2
      go_ret
      exact ⟨_, ee, rr HO_3, bb HB⟩
  ·rw [if_neg c3] at H
   exact absurd H (by simp)
 ·rw [if_neg c2] at H
  exact absurd H (by simp)
end Go.Proofs.Ytoaepoffooomnaa.Q
