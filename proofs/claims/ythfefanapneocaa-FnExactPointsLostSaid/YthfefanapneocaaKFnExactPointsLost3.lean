/- A part of the proof of FnExactPointsLost: functions of the program, as plain functions, with the proof that the machine's call does what they say; plain lemmas; and those of the words that print.sh prints which this proof uses. No condition. -/
import Derived.Test.YthfefanapneocaaKFnExactPointsLost1
import Derived.Test.YthfefanapneocaaProg
import Derived.Below
import Derived.Deep.Draws
import Derived.Deep.AppendLies
import Derived.Maps.AppendAt
import Derived.OwnWalk
import Derived.Laws.BytesArg
import Derived.Laws.MakeOwn
import Derived.Laws.OwnMore
import Derived.Deep.OwnRows
import Derived.Tactics
import Derived.Lib.ConvBytes
import Derived.Laws.Slices
import Derived.WalkKit
import Derived.KernelRfl
import Derived.RowKit3
import Derived.Deep.LoopGhost
import Derived.Deep.QuietTactic
import Derived.BigQuiet
import Derived.WideLaws
import Derived.Deep.DeepCutAuto
import Derived.Deep.CutBlock
import Derived.Deep.RegionHeld3
import Derived.Laws.Rows
import Derived.Lib.AppendStr
import Derived.ArgAppend
import Derived.Laws.IdiomCopy
import Derived.OrdersHeld
import Derived.Laws.BitsLemmas
import Derived.RowKit
import Derived.WalkSpells
import Derived.Shelf.Strings.Builder1
import Derived.Shelf.Strings.Builder2
import Derived.Shelf.Small.Bits
import Derived.Shelf.Strconv.Itoa0
import Derived.Ground.Names2Prog
import Derived.Shelf.Slices.Clone
import Derived.Shelf.Slices.SearchI
import Derived.Ground.SlgnProg
import Derived.Shelf.SlicesE.Clone
import Derived.Lib.AppendIntMem
import Derived.Laws.StructEq
import Derived.Test.YthfefanapneocaaKFnExactPointsLost2
section
namespace Go.Proofs.Ythfefanapneocaa.Q
open Go.RowKit Go.Proofs.YthfefanapneocaaW.PrintWords Go.Proofs.YthfefanapneocaaW.PrintLast Go.Proofs.YthfefanapneocaaW.PrintMore
attribute [local go_sem] max2_int min2_int max_two min_two max_three min_three max_four min_four
set_option linter.unusedVariables false
set_option linter.unusedSimpArgs false
set_option maxRecDepth 100000
set_option maxHeartbeats 8000000
mutual
def spec_BookOk.j0 : Nat → Bool → List (S139) → Int → Int → Int → List Int → Bool → List (S95) → List Int → List Int → Option (Bool)
 | 0, _, _, _, _, _, _, _, _, _, _ => none
 | k + 1, x38, x151000, x151001, x151002, x151003, x151004, x151005, x151006, x151007, x151008 => if x38 = true then (some false) else (spec_BookOk.l0 k (x151000.length : Int) 0 x151000 x151001 x151002 x151003 x151004 x151005 x151006 x151007 x151008)
def spec_BookOk.l0 : Nat → Int → Int → List (S139) → Int → Int → Int → List Int → Bool → List (S95) → List Int → List Int → Option (Bool)
 | 0, _, _, _, _, _, _, _, _, _, _, _ => none
 | k + 1, x41, x42, x151000, x151001, x151002, x151003, x151004, x151005, x151006, x151007, x151008 => if x42 < x41 then (if 0 ≤ x42 then (if x42 < (x151007.length : Int) then ((spec_l01In.f (rd x151007 x42) 0 1000).bind fun t155 => (if t155 = true then (if x42 < (x151008.length : Int) then ((spec_l01In.f (rd x151008 x42) 0 1000).bind fun t157 => (if t157 = true then (spec_BookOk.l0 k x41 (wrap64 (x42 + 1)) x151000 x151001 x151002 x151003 x151004 x151005 x151006 x151007 x151008) else (some false))) else (none)) else (some false))) else (none)) else (none)) else (some true)
end
def spec_BookOk.f (k : Nat) (l0_0 : List (S139)) (a0_1 : Int) (a0_2 : Int) (a0_3 : Int) (l0_4 : List Int) (a0_5 : Bool) (l0_6 : List (S95)) (l0_7 : List Int) (l0_8 : List Int) : Option (Bool) := (spec_FieldOk.f k l0_0).bind fun t151 => (if t151 = true then ((spec_RulesOk.f k a0_1 a0_2 a0_3 l0_4 a0_5).bind fun t152 => (if t152 = true then ((spec_SeasonOk.f k (l0_0.length : Int) l0_6).bind fun t153 => (if t153 = true then (if (l0_7.length : Int) = (l0_0.length : Int) then (spec_BookOk.j0 k ((l0_8.length : Int) != (l0_0.length : Int)) l0_0 a0_1 a0_2 a0_3 l0_4 a0_5 l0_6 l0_7 l0_8) else (spec_BookOk.j0 k true l0_0 a0_1 a0_2 a0_3 l0_4 a0_5 l0_6 l0_7 l0_8)) else (spec_BookOk.j0 k true l0_0 a0_1 a0_2 a0_3 l0_4 a0_5 l0_6 l0_7 l0_8))) else (spec_BookOk.j0 k true l0_0 a0_1 a0_2 a0_3 l0_4 a0_5 l0_6 l0_7 l0_8))) else (spec_BookOk.j0 k true l0_0 a0_1 a0_2 a0_3 l0_4 a0_5 l0_6 l0_7 l0_8))
theorem spec_BookOk.calls (k : Nat) (A0_0 : Option Addr) (c0_0 : Nat) (l0_0 : List (S139)) (a0_1 : Int) (a0_2 : Int) (a0_3 : Int) (A0_4 : Option Addr) (c0_4 : Nat) (l0_4 : List Int) (a0_5 : Bool) (A0_6 : Option Addr) (c0_6 : Nat) (l0_6 : List (S95)) (A0_7 : Option Addr) (c0_7 : Nat) (l0_7 : List Int) (A0_8 : Option Addr) (c0_8 : Nat) (l0_8 : List Int) (r : Bool) (w : World) (hr0_0 : Kd.C k139 w A0_0 l0_0.length l0_0) (hc0_0 : l0_0.length ≤ c0_0) (hr0_4 : Kd.C (Kd.int .i64) w A0_4 l0_4.length l0_4) (hc0_4 : l0_4.length ≤ c0_4) (hr0_6 : Kd.C k95 w A0_6 l0_6.length l0_6) (hc0_6 : l0_6.length ≤ c0_6) (hr0_7 : Kd.C (Kd.int .i64) w A0_7 l0_7.length l0_7) (hc0_7 : l0_7.length ≤ c0_7) (hr0_8 : Kd.C (Kd.int .i64) w A0_8 l0_8.length l0_8) (hc0_8 : l0_8.length ≤ c0_8) (h : spec_BookOk.f k l0_0 a0_1 a0_2 a0_3 l0_4 a0_5 l0_6 l0_7 l0_8 = some r) :
  Calls Try.prog 55 #[.agg #[.slice A0_0 l0_0.length c0_0, .int .i64 a0_1, .int .i64 a0_2, .int .i64 a0_3, .slice A0_4 l0_4.length c0_4, .bool a0_5, .slice A0_6 l0_6.length c0_6, .slice A0_7 l0_7.length c0_7, .slice A0_8 l0_8.length c0_8]] w fun e w' => e = .returned (.bool r) ∧ Below w.heap.size w w' := by
 have hu36 := Try.underlying36
 have hu33 := Try.underlying33
 have HR0_0 := dk hr0_0
 have HC0_0 := dk hc0_0
 clear hr0_0 hc0_0
 have HR0_4 := dk hr0_4
 have HC0_4 := dk hc0_4
 clear hr0_4 hc0_4
 have HR0_6 := dk hr0_6
 have HC0_6 := dk hc0_6
 clear hr0_6 hc0_6
 have HR0_7 := dk hr0_7
 have HC0_7 := dk hc0_7
 clear hr0_7 hc0_7
 have HR0_8 := dk hr0_8
 have HC0_8 := dk hc0_8
 clear hr0_8 hc0_8
 have HB := dk (Below.refl w.heap.size w)
 have H : ((spec_FieldOk.f k l0_0).bind fun t151 => (if t151 = true then ((spec_RulesOk.f k a0_1 a0_2 a0_3 l0_4 a0_5).bind fun t152 => (if t152 = true then ((spec_SeasonOk.f k (l0_0.length : Int) l0_6).bind fun t153 => (if t153 = true then (if (l0_7.length : Int) = (l0_0.length : Int) then (spec_BookOk.j0 k ((l0_8.length : Int) != (l0_0.length : Int)) l0_0 a0_1 a0_2 a0_3 l0_4 a0_5 l0_6 l0_7 l0_8) else (spec_BookOk.j0 k true l0_0 a0_1 a0_2 a0_3 l0_4 a0_5 l0_6 l0_7 l0_8)) else (spec_BookOk.j0 k true l0_0 a0_1 a0_2 a0_3 l0_4 a0_5 l0_6 l0_7 l0_8))) else (spec_BookOk.j0 k true l0_0 a0_1 a0_2 a0_3 l0_4 a0_5 l0_6 l0_7 l0_8))) else (spec_BookOk.j0 k true l0_0 a0_1 a0_2 a0_3 l0_4 a0_5 l0_6 l0_7 l0_8))) = some r := h
 clear h
 have HC2 := dk H
 clear H
 go_enter Try.func55, Try.ntmps55
 go_upto_region 2 with (first | ((with_reducible refine gate_dst (N := 1) rfl ?_); (try (refine gate_guard (by rfl) ?_; dsimp only)); refine bx (N := 1) (cs := #[.slice A0_0 l0_0.length c0_0, .int .i64 a0_1, .int .i64 a0_2, .int .i64 a0_3, .slice A0_4 l0_4.length c0_4, .bool a0_5, .slice A0_6 l0_6.length c0_6, .slice A0_7 l0_7.length c0_7, .slice A0_8 l0_8.length c0_8]) (t := 36) ?_; intro gb150 hg w3 hbox hb; have BK150 := dk (hbox); have GW150 := gs hg HB; have GE150 := gs hg HB; replace HB := hs_ HB hb; clear hb hbox hg; have ⟨z4_0, z4_1, z4_2, z4_3, z4_4, z4_5, z4_6, z4_7, z4_8, v4_0, v4_1, v4_2, v4_3, v4_4, v4_5, v4_6, v4_7, v4_8⟩ := rz9 BK150))
 (try simp only [Act.put, List.setIfInBounds_toArray, List.set_cons_zero, List.set_cons_succ])
 go_cut [38] (fun v38 wc => ∃ (kq : Nat) (x38_1 : Bool), v38 = .bool x38_1 ∧ Aside0 (spec_BookOk.j0 kq x38_1 l0_0 a0_1 a0_2 a0_3 l0_4 a0_5 l0_6 l0_7 l0_8 = some r) ∧ Aside0 (kq ≤ k) ∧ Aside0 (wc.heap[gb150]? = some (.cells #[(.slice A0_0 l0_0.length c0_0), .int .i64 a0_1, .int .i64 a0_2, .int .i64 a0_3, (.slice A0_4 l0_4.length c0_4), .bool a0_5, (.slice A0_6 l0_6.length c0_6), (.slice A0_7 l0_7.length c0_7), (.slice A0_8 l0_8.length c0_8)] 36 (0, 0))) ∧ Aside0 (Below w.heap.size w wc))
 case first =>
  have H := HC2.out
  clear HC2
  replace H := Option.bind_eq_some_iff.mp H
  obtain ⟨t151, A50, H⟩ := H
  try dsimp only at H
  have A5 := dk A50
  clear A50
  by_cases c6 : t151 = true
  ·subst c6
   rw [if_pos rfl] at H
   replace H := Option.bind_eq_some_iff.mp H
   obtain ⟨t152, A70, H⟩ := H
   try dsimp only at H
   have A7 := dk A70
   clear A70
   by_cases c8 : t152 = true
   ·subst c8
    rw [if_pos rfl] at H
    replace H := Option.bind_eq_some_iff.mp H
    obtain ⟨t153, A90, H⟩ := H
    try dsimp only at H
    have A9 := dk A90
    clear A90
    by_cases c10 : t153 = true
    ·subst c10
     rw [if_pos rfl] at H
     by_cases c11 : (l0_7.length : Int) = (l0_0.length : Int)
     ·rw [if_pos c11] at H
      have c11b0 : ((l0_7.length : Int) == (l0_0.length : Int)) = true := beq_iff_eq.mpr c11
      have c11b1 : ((l0_7.length : Int) != (l0_0.length : Int)) = false := bne_eq_false_iff_eq.mpr c11
      have c11b2 : (l0_7.length == l0_0.length) = true := by first | simpa using c11 | (simp at c11 ⊢; omega)
      clear c11
      (first | rw [c11b0] | rw [c11b1] | (simp only [i64_w, i32_w]; rw [c11b0]) | skip)
      have H' := dk H
      clear H
      have ⟨z12_0, z12_1, z12_2, z12_3, z12_4, z12_5, z12_6, z12_7, z12_8, v12_0, v12_1, v12_2, v12_3, v12_4, v12_5, v12_6, v12_7, v12_8⟩ := rz9 BK150
      go_wp2_with (first | ((with_reducible refine gate_callee (f := 118) rfl ?_); refine gl (some 10) Try.func118 #[.slice A0_0 l0_0.length c0_0] ?_; (with_reducible refine (spec_FieldOk.calls k _ _ l0_0 true _ ?side1 ?side2 A5.out).mono ?_); (case side1 => exact cc HR0_0 HB); (case side2 => exact HC0_0.out); rintro e w13 ⟨rfl, hb⟩; refine ⟨_, rfl, ?_⟩; replace BK150 := kb BK150 hb; replace HB := hs_ HB hb; (try clear hb hb2 hk hi); have ⟨z14_0, z14_1, z14_2, z14_3, z14_4, z14_5, z14_6, z14_7, z14_8, v14_0, v14_1, v14_2, v14_3, v14_4, v14_5, v14_6, v14_7, v14_8⟩ := rz9 BK150) | (go_at_call 119; (with_reducible refine (spec_RulesOk.calls k a0_1 a0_2 a0_3 _ _ l0_4 a0_5 true _ ?side1 ?side2 A7.out).mono ?_); (case side1 => exact cc HR0_4 HB); (case side2 => exact HC0_4.out); rintro e w15 ⟨rfl, hb⟩; replace BK150 := kb BK150 hb; replace HB := hs_ HB hb; (try clear hb hb2 hk hi); have ⟨z16_0, z16_1, z16_2, z16_3, z16_4, z16_5, z16_6, z16_7, z16_8, v16_0, v16_1, v16_2, v16_3, v16_4, v16_5, v16_6, v16_7, v16_8⟩ := rz9 BK150) | (go_at_call 120; (with_reducible refine (spec_SeasonOk.calls k (l0_0.length : Int) _ _ l0_6 true _ ?side1 ?side2 A9.out).mono ?_); (case side1 => exact cc HR0_6 HB); (case side2 => exact HC0_6.out); rintro e w17 ⟨rfl, hb⟩; replace BK150 := kb BK150 hb; replace HB := hs_ HB hb; (try clear hb hb2 hk hi); have ⟨z18_0, z18_1, z18_2, z18_3, z18_4, z18_5, z18_6, z18_7, z18_8, v18_0, v18_1, v18_2, v18_3, v18_4, v18_5, v18_6, v18_7, v18_8⟩ := rz9 BK150))
      go_meet
      case rel => exact ⟨_, (((l0_8.length : Int) != (l0_0.length : Int))), e2_, H', ⟨by first | omega | exact Nat.le_refl _⟩, ⟨bk BK150⟩, ⟨bb HB⟩⟩
     ·rw [if_neg c11] at H
      have c11b0 : ((l0_7.length : Int) == (l0_0.length : Int)) = false := beq_eq_false_iff_ne.mpr c11
      have c11b1 : ((l0_7.length : Int) != (l0_0.length : Int)) = true := bne_iff_ne.mpr c11
      have c11b2 : (l0_7.length == l0_0.length) = false := by first | simpa using c11 | (simp at c11 ⊢; omega)
      (first | rw [c11b0] | rw [c11b1] | (simp only [i64_w, i32_w]; rw [c11b0]) | skip)
      have H' := dk H
      clear H
      have ⟨z19_0, z19_1, z19_2, z19_3, z19_4, z19_5, z19_6, z19_7, z19_8, v19_0, v19_1, v19_2, v19_3, v19_4, v19_5, v19_6, v19_7, v19_8⟩ := rz9 BK150
      go_wp2_with (first | ((with_reducible refine gate_callee (f := 118) rfl ?_); refine gl (some 10) Try.func118 #[.slice A0_0 l0_0.length c0_0] ?_; (with_reducible refine (spec_FieldOk.calls k _ _ l0_0 true _ ?side1 ?side2 A5.out).mono ?_); (case side1 => exact cc HR0_0 HB); (case side2 => exact HC0_0.out); rintro e w20 ⟨rfl, hb⟩; refine ⟨_, rfl, ?_⟩; replace BK150 := kb BK150 hb; replace HB := hs_ HB hb; (try clear hb hb2 hk hi); have ⟨z21_0, z21_1, z21_2, z21_3, z21_4, z21_5, z21_6, z21_7, z21_8, v21_0, v21_1, v21_2, v21_3, v21_4, v21_5, v21_6, v21_7, v21_8⟩ := rz9 BK150) | (go_at_call 119; (with_reducible refine (spec_RulesOk.calls k a0_1 a0_2 a0_3 _ _ l0_4 a0_5 true _ ?side1 ?side2 A7.out).mono ?_); (case side1 => exact cc HR0_4 HB); (case side2 => exact HC0_4.out); rintro e w22 ⟨rfl, hb⟩; replace BK150 := kb BK150 hb; replace HB := hs_ HB hb; (try clear hb hb2 hk hi); have ⟨z23_0, z23_1, z23_2, z23_3, z23_4, z23_5, z23_6, z23_7, z23_8, v23_0, v23_1, v23_2, v23_3, v23_4, v23_5, v23_6, v23_7, v23_8⟩ := rz9 BK150) | (go_at_call 120; (with_reducible refine (spec_SeasonOk.calls k (l0_0.length : Int) _ _ l0_6 true _ ?side1 ?side2 A9.out).mono ?_); (case side1 => exact cc HR0_6 HB); (case side2 => exact HC0_6.out); rintro e w24 ⟨rfl, hb⟩; replace BK150 := kb BK150 hb; replace HB := hs_ HB hb; (try clear hb hb2 hk hi); have ⟨z25_0, z25_1, z25_2, z25_3, z25_4, z25_5, z25_6, z25_7, z25_8, v25_0, v25_1, v25_2, v25_3, v25_4, v25_5, v25_6, v25_7, v25_8⟩ := rz9 BK150))
      go_meet
      case rel => exact ⟨_, (true), e2_, H', ⟨by first | omega | exact Nat.le_refl _⟩, ⟨bk BK150⟩, ⟨bb HB⟩⟩
    ·replace c10 := Bool.eq_false_iff.mpr c10
     subst c10
     rw [if_neg (show ¬ (false = true) by decide)] at H
     have H' := dk H
     clear H
     have ⟨z26_0, z26_1, z26_2, z26_3, z26_4, z26_5, z26_6, z26_7, z26_8, v26_0, v26_1, v26_2, v26_3, v26_4, v26_5, v26_6, v26_7, v26_8⟩ := rz9 BK150
     go_wp2_with (first | ((with_reducible refine gate_callee (f := 118) rfl ?_); refine gl (some 10) Try.func118 #[.slice A0_0 l0_0.length c0_0] ?_; (with_reducible refine (spec_FieldOk.calls k _ _ l0_0 true _ ?side1 ?side2 A5.out).mono ?_); (case side1 => exact cc HR0_0 HB); (case side2 => exact HC0_0.out); rintro e w27 ⟨rfl, hb⟩; refine ⟨_, rfl, ?_⟩; replace BK150 := kb BK150 hb; replace HB := hs_ HB hb; (try clear hb hb2 hk hi); have ⟨z28_0, z28_1, z28_2, z28_3, z28_4, z28_5, z28_6, z28_7, z28_8, v28_0, v28_1, v28_2, v28_3, v28_4, v28_5, v28_6, v28_7, v28_8⟩ := rz9 BK150) | (go_at_call 119; (with_reducible refine (spec_RulesOk.calls k a0_1 a0_2 a0_3 _ _ l0_4 a0_5 true _ ?side1 ?side2 A7.out).mono ?_); (case side1 => exact cc HR0_4 HB); (case side2 => exact HC0_4.out); rintro e w29 ⟨rfl, hb⟩; replace BK150 := kb BK150 hb; replace HB := hs_ HB hb; (try clear hb hb2 hk hi); have ⟨z30_0, z30_1, z30_2, z30_3, z30_4, z30_5, z30_6, z30_7, z30_8, v30_0, v30_1, v30_2, v30_3, v30_4, v30_5, v30_6, v30_7, v30_8⟩ := rz9 BK150) | (go_at_call 120; (with_reducible refine (spec_SeasonOk.calls k (l0_0.length : Int) _ _ l0_6 false _ ?side1 ?side2 A9.out).mono ?_); (case side1 => exact cc HR0_6 HB); (case side2 => exact HC0_6.out); rintro e w31 ⟨rfl, hb⟩; replace BK150 := kb BK150 hb; replace HB := hs_ HB hb; (try clear hb hb2 hk hi)))
     go_meet
     case rel => exact ⟨_, (true), e2_, H', ⟨by first | omega | exact Nat.le_refl _⟩, ⟨bk BK150⟩, ⟨bb HB⟩⟩
   ·replace c8 := Bool.eq_false_iff.mpr c8
    subst c8
    rw [if_neg (show ¬ (false = true) by decide)] at H
    have H' := dk H
    clear H
    have ⟨z32_0, z32_1, z32_2, z32_3, z32_4, z32_5, z32_6, z32_7, z32_8, v32_0, v32_1, v32_2, v32_3, v32_4, v32_5, v32_6, v32_7, v32_8⟩ := rz9 BK150
    go_wp2_with (first | ((with_reducible refine gate_callee (f := 118) rfl ?_); refine gl (some 10) Try.func118 #[.slice A0_0 l0_0.length c0_0] ?_; (with_reducible refine (spec_FieldOk.calls k _ _ l0_0 true _ ?side1 ?side2 A5.out).mono ?_); (case side1 => exact cc HR0_0 HB); (case side2 => exact HC0_0.out); rintro e w33 ⟨rfl, hb⟩; refine ⟨_, rfl, ?_⟩; replace BK150 := kb BK150 hb; replace HB := hs_ HB hb; (try clear hb hb2 hk hi); have ⟨z34_0, z34_1, z34_2, z34_3, z34_4, z34_5, z34_6, z34_7, z34_8, v34_0, v34_1, v34_2, v34_3, v34_4, v34_5, v34_6, v34_7, v34_8⟩ := rz9 BK150) | (go_at_call 119; (with_reducible refine (spec_RulesOk.calls k a0_1 a0_2 a0_3 _ _ l0_4 a0_5 false _ ?side1 ?side2 A7.out).mono ?_); (case side1 => exact cc HR0_4 HB); (case side2 => exact HC0_4.out); rintro e w35 ⟨rfl, hb⟩; replace BK150 := kb BK150 hb; replace HB := hs_ HB hb; (try clear hb hb2 hk hi)))
    go_meet
    case rel => exact ⟨_, (true), e2_, H', ⟨by first | omega | exact Nat.le_refl _⟩, ⟨bk BK150⟩, ⟨bb HB⟩⟩
  ·replace c6 := Bool.eq_false_iff.mpr c6
   subst c6
   rw [if_neg (show ¬ (false = true) by decide)] at H
   have H' := dk H
   clear H
   have ⟨z36_0, z36_1, z36_2, z36_3, z36_4, z36_5, z36_6, z36_7, z36_8, v36_0, v36_1, v36_2, v36_3, v36_4, v36_5, v36_6, v36_7, v36_8⟩ := rz9 BK150
   go_wp2_with (first | ((with_reducible refine gate_callee (f := 118) rfl ?_); refine gl (some 10) Try.func118 #[.slice A0_0 l0_0.length c0_0] ?_; (with_reducible refine (spec_FieldOk.calls k _ _ l0_0 false _ ?side1 ?side2 A5.out).mono ?_); (case side1 => exact cc HR0_0 HB); (case side2 => exact HC0_0.out); rintro e w37 ⟨rfl, hb⟩; refine ⟨_, rfl, ?_⟩; replace BK150 := kb BK150 hb; replace HB := hs_ HB hb; (try clear hb hb2 hk hi)))
   go_meet
   case rel => exact ⟨_, (true), e2_, H', ⟨by first | omega | exact Nat.le_refl _⟩, ⟨bk BK150⟩, ⟨bb HB⟩⟩
 case rest =>
  clear HC2
  (try clear c1)
  (try clear p2)
  (try clear c5)
  (try clear c6)
  (try clear c8)
  (try clear c10)
  (try clear c11)
  (try clear c11b0)
  (try clear c11b1)
  (try clear c11b2)
  (try clear z12_0 z12_1 z12_2 z12_3 z12_4 z12_5 z12_6 z12_7 z12_8)
  (try clear z14_0 z14_1 z14_2 z14_3 z14_4 z14_5 z14_6 z14_7 z14_8)
  (try clear z16_0 z16_1 z16_2 z16_3 z16_4 z16_5 z16_6 z16_7 z16_8)
  (try clear z18_0 z18_1 z18_2 z18_3 z18_4 z18_5 z18_6 z18_7 z18_8)
  (try clear z19_0 z19_1 z19_2 z19_3 z19_4 z19_5 z19_6 z19_7 z19_8)
  (try clear z21_0 z21_1 z21_2 z21_3 z21_4 z21_5 z21_6 z21_7 z21_8)
  (try clear z23_0 z23_1 z23_2 z23_3 z23_4 z23_5 z23_6 z23_7 z23_8)
  (try clear z25_0 z25_1 z25_2 z25_3 z25_4 z25_5 z25_6 z25_7 z25_8)
  (try clear z26_0 z26_1 z26_2 z26_3 z26_4 z26_5 z26_6 z26_7 z26_8)
  (try clear z28_0 z28_1 z28_2 z28_3 z28_4 z28_5 z28_6 z28_7 z28_8)
  (try clear z30_0 z30_1 z30_2 z30_3 z30_4 z30_5 z30_6 z30_7 z30_8)
  (try clear z32_0 z32_1 z32_2 z32_3 z32_4 z32_5 z32_6 z32_7 z32_8)
  (try clear z34_0 z34_1 z34_2 z34_3 z34_4 z34_5 z34_6 z34_7 z34_8)
  (try clear z36_0 z36_1 z36_2 z36_3 z36_4 z36_5 z36_6 z36_7 z36_8)
  (try clear z4_0 z4_1 z4_2 z4_3 z4_4 z4_5 z4_6 z4_7 z4_8)
  (try clear v12_0 v12_1 v12_2 v12_3 v12_4 v12_5 v12_6 v12_7 v12_8)
  (try clear v14_0 v14_1 v14_2 v14_3 v14_4 v14_5 v14_6 v14_7 v14_8)
  (try clear v16_0 v16_1 v16_2 v16_3 v16_4 v16_5 v16_6 v16_7 v16_8)
  (try clear v18_0 v18_1 v18_2 v18_3 v18_4 v18_5 v18_6 v18_7 v18_8)
  (try clear v19_0 v19_1 v19_2 v19_3 v19_4 v19_5 v19_6 v19_7 v19_8)
  (try clear v21_0 v21_1 v21_2 v21_3 v21_4 v21_5 v21_6 v21_7 v21_8)
  (try clear v23_0 v23_1 v23_2 v23_3 v23_4 v23_5 v23_6 v23_7 v23_8)
  (try clear v25_0 v25_1 v25_2 v25_3 v25_4 v25_5 v25_6 v25_7 v25_8)
  (try clear v26_0 v26_1 v26_2 v26_3 v26_4 v26_5 v26_6 v26_7 v26_8)
  (try clear v28_0 v28_1 v28_2 v28_3 v28_4 v28_5 v28_6 v28_7 v28_8)
  (try clear v30_0 v30_1 v30_2 v30_3 v30_4 v30_5 v30_6 v30_7 v30_8)
  (try clear v32_0 v32_1 v32_2 v32_3 v32_4 v32_5 v32_6 v32_7 v32_8)
  (try clear v34_0 v34_1 v34_2 v34_3 v34_4 v34_5 v34_6 v34_7 v34_8)
  (try clear v36_0 v36_1 v36_2 v36_3 v36_4 v36_5 v36_6 v36_7 v36_8)
  (try clear v4_0 v4_1 v4_2 v4_3 v4_4 v4_5 v4_6 v4_7 v4_8)
  obtain ⟨kq, x38_1, rfl, HA, HJ1, BK150, HB⟩ := hcut
  cases kq with
  | zero => exact absurd HA.out (by simp [spec_BookOk.j0])
  | succ kj1 =>
   have H := HA.out
   clear HA
   simp only [spec_BookOk.j0] at H
   by_cases c38 : x38_1 = true
   ·subst c38
    rw [if_pos rfl] at H
    obtain rfl := Option.some.inj H
    go_wp2
    go_ret
    exact ⟨ee, bb HB⟩
   ·replace c38 := Bool.eq_false_iff.mpr c38
    subst c38
    rw [if_neg (show ¬ (false = true) by decide)] at H
    have H' := dk H
    clear H
    have ⟨z39_0, z39_1, z39_2, z39_3, z39_4, z39_5, z39_6, z39_7, z39_8, v39_0, v39_1, v39_2, v39_3, v39_4, v39_5, v39_6, v39_7, v39_8⟩ := rz9 BK150
    go_wp2
    go_loopg [42] kj1 (fun kq v42 w' => ∃ (x42_2 : Int), v42 = .int .i64 x42_2 ∧ Aside0 (spec_BookOk.l0 kq (l0_0.length : Int) x42_2 l0_0 a0_1 a0_2 a0_3 l0_4 a0_5 l0_6 l0_7 l0_8 = some r) ∧ Aside0 (kq ≤ kj1) ∧ Aside0 (w'.heap[gb150]? = some (.cells #[(.slice A0_0 l0_0.length c0_0), .int .i64 a0_1, .int .i64 a0_2, .int .i64 a0_3, (.slice A0_4 l0_4.length c0_4), .bool a0_5, (.slice A0_6 l0_6.length c0_6), (.slice A0_7 l0_7.length c0_7), (.slice A0_8 l0_8.length c0_8)] 36 (0, 0))) ∧ Aside0 (Below w.heap.size w w'))
    case atStart => exact ⟨(0), e2_, H', ⟨Nat.le_refl _⟩, ⟨bk BK150⟩, ⟨bb HB⟩⟩
    case round =>
     clear H'
     (try clear c1)
     (try clear p2)
     (try clear c3)
     (try clear c5)
     (try clear c6)
     (try clear c8)
     (try clear c10)
     (try clear c11)
     (try clear c11b0)
     (try clear c11b1)
     (try clear c11b2)
     (try clear c38)
     (try clear z12_0 z12_1 z12_2 z12_3 z12_4 z12_5 z12_6 z12_7 z12_8)
     (try clear z14_0 z14_1 z14_2 z14_3 z14_4 z14_5 z14_6 z14_7 z14_8)
     (try clear z16_0 z16_1 z16_2 z16_3 z16_4 z16_5 z16_6 z16_7 z16_8)
     (try clear z18_0 z18_1 z18_2 z18_3 z18_4 z18_5 z18_6 z18_7 z18_8)
     (try clear z19_0 z19_1 z19_2 z19_3 z19_4 z19_5 z19_6 z19_7 z19_8)
     (try clear z21_0 z21_1 z21_2 z21_3 z21_4 z21_5 z21_6 z21_7 z21_8)
     (try clear z23_0 z23_1 z23_2 z23_3 z23_4 z23_5 z23_6 z23_7 z23_8)
     (try clear z25_0 z25_1 z25_2 z25_3 z25_4 z25_5 z25_6 z25_7 z25_8)
     (try clear z26_0 z26_1 z26_2 z26_3 z26_4 z26_5 z26_6 z26_7 z26_8)
     (try clear z28_0 z28_1 z28_2 z28_3 z28_4 z28_5 z28_6 z28_7 z28_8)
     (try clear z30_0 z30_1 z30_2 z30_3 z30_4 z30_5 z30_6 z30_7 z30_8)
     (try clear z32_0 z32_1 z32_2 z32_3 z32_4 z32_5 z32_6 z32_7 z32_8)
     (try clear z34_0 z34_1 z34_2 z34_3 z34_4 z34_5 z34_6 z34_7 z34_8)
     (try clear z36_0 z36_1 z36_2 z36_3 z36_4 z36_5 z36_6 z36_7 z36_8)
     (try clear z39_0 z39_1 z39_2 z39_3 z39_4 z39_5 z39_6 z39_7 z39_8)
     (try clear z4_0 z4_1 z4_2 z4_3 z4_4 z4_5 z4_6 z4_7 z4_8)
     (try clear v12_0 v12_1 v12_2 v12_3 v12_4 v12_5 v12_6 v12_7 v12_8)
     (try clear v14_0 v14_1 v14_2 v14_3 v14_4 v14_5 v14_6 v14_7 v14_8)
     (try clear v16_0 v16_1 v16_2 v16_3 v16_4 v16_5 v16_6 v16_7 v16_8)
     (try clear v18_0 v18_1 v18_2 v18_3 v18_4 v18_5 v18_6 v18_7 v18_8)
     (try clear v19_0 v19_1 v19_2 v19_3 v19_4 v19_5 v19_6 v19_7 v19_8)
     (try clear v21_0 v21_1 v21_2 v21_3 v21_4 v21_5 v21_6 v21_7 v21_8)
     (try clear v23_0 v23_1 v23_2 v23_3 v23_4 v23_5 v23_6 v23_7 v23_8)
     (try clear v25_0 v25_1 v25_2 v25_3 v25_4 v25_5 v25_6 v25_7 v25_8)
     (try clear v26_0 v26_1 v26_2 v26_3 v26_4 v26_5 v26_6 v26_7 v26_8)
     (try clear v28_0 v28_1 v28_2 v28_3 v28_4 v28_5 v28_6 v28_7 v28_8)
     (try clear v30_0 v30_1 v30_2 v30_3 v30_4 v30_5 v30_6 v30_7 v30_8)
     (try clear v32_0 v32_1 v32_2 v32_3 v32_4 v32_5 v32_6 v32_7 v32_8)
     (try clear v34_0 v34_1 v34_2 v34_3 v34_4 v34_5 v34_6 v34_7 v34_8)
     (try clear v36_0 v36_1 v36_2 v36_3 v36_4 v36_5 v36_6 v36_7 v36_8)
     (try clear v39_0 v39_1 v39_2 v39_3 v39_4 v39_5 v39_6 v39_7 v39_8)
     (try clear v4_0 v4_1 v4_2 v4_3 v4_4 v4_5 v4_6 v4_7 v4_8)
     (try clear p2)
     obtain ⟨x42_2, rfl, HA, HK2, BK150, HB⟩ := hrel
     cases gk with
     | zero => exact absurd HA.out (by simp [spec_BookOk.l0])
     | succ k2 =>
      have H := HA.out
      clear HA
      simp only [spec_BookOk.l0] at H
      by_cases c40 : x42_2 < (l0_0.length : Int)
      ·rw [if_pos c40] at H
       have c40b0 : decide (x42_2 < (l0_0.length : Int)) = true := decide_eq_true c40
       clear c40
       by_cases c41 : 0 ≤ x42_2
       ·rw [if_pos c41] at H
        have c41b0 : decide (0 ≤ x42_2) = true := decide_eq_true c41
        clear c41
        by_cases c42 : x42_2 < (l0_7.length : Int)
        ·rw [if_pos c42] at H
         have c42b0 : decide (x42_2 < (l0_7.length : Int)) = true := decide_eq_true c42
         clear c42
         replace H := Option.bind_eq_some_iff.mp H
         obtain ⟨t155, A430, H⟩ := H
         try dsimp only at H
         have A43 := dk A430
         clear A430
         by_cases c44 : t155 = true
         ·subst c44
          rw [if_pos rfl] at H
          by_cases c45 : x42_2 < (l0_8.length : Int)
          ·rw [if_pos c45] at H
           have c45b0 : decide (x42_2 < (l0_8.length : Int)) = true := decide_eq_true c45
           clear c45
           replace H := Option.bind_eq_some_iff.mp H
           obtain ⟨t157, A460, H⟩ := H
           try dsimp only at H
           have A46 := dk A460
           clear A460
           by_cases c47 : t157 = true
           ·subst c47
            rw [if_pos rfl] at H
            have H' := dk H
            clear H
            have ⟨z48_0, z48_1, z48_2, z48_3, z48_4, z48_5, z48_6, z48_7, z48_8, v48_0, v48_1, v48_2, v48_3, v48_4, v48_5, v48_6, v48_7, v48_8⟩ := rz9 BK150
            have p154 : 0 ≤ (x42_2 : Int) := oa
            have q154 : x42_2 < (l0_7.length : Int) := oa
            obtain ⟨ad154, e154, hx154_0⟩ := Kd.at_int HR0_7.out x42_2 p154 q154
            cases e154
            replace hx154_0 := hc HB hx154_0
            replace p154 := eq_true p154
            replace q154 := eq_true q154
            go_wp2_with (first | ((with_reducible refine gate_callee (f := 76) rfl ?_); refine gl (some 50) Try.func76 #[.int .i64 (rd l0_7 x42_2), .int .i64 0, .int .i64 1000] ?_; (with_reducible refine (spec_l01In.calls (rd l0_7 x42_2) 0 1000 true _ A43.out).mono ?_); rintro e w' ⟨rfl, ⟨nd, rfl⟩⟩; refine ⟨_, rfl, ?_⟩; have p156 : 0 ≤ (x42_2 : Int) := oa; have q156 : x42_2 < (l0_8.length : Int) := oa; obtain ⟨ad156, e156, hx156_0⟩ := Kd.at_int HR0_8.out x42_2 p156 q156; cases e156; replace hx156_0 := hc HB hx156_0; replace p156 := eq_true p156; replace q156 := eq_true q156) | (go_at_call 76; (with_reducible refine (spec_l01In.calls (rd l0_8 x42_2) 0 1000 true _ A46.out).mono ?_); rintro e w' ⟨rfl, ⟨nd, rfl⟩⟩))
            go_roundg k2
            case measure => have := HJ1.out; have := HK2.out; omega
            case rel => exact ⟨(wrap64 (x42_2 + 1)), e2_, H', ⟨by have := HJ1.out; have := HK2.out; omega⟩, ⟨bk BK150⟩, ⟨bb HB⟩⟩
           ·replace c47 := Bool.eq_false_iff.mpr c47
            subst c47
            rw [if_neg (show ¬ (false = true) by decide)] at H
            obtain rfl := Option.some.inj H
            have ⟨z49_0, z49_1, z49_2, z49_3, z49_4, z49_5, z49_6, z49_7, z49_8, v49_0, v49_1, v49_2, v49_3, v49_4, v49_5, v49_6, v49_7, v49_8⟩ := rz9 BK150
            have p154 : 0 ≤ (x42_2 : Int) := oa
            have q154 : x42_2 < (l0_7.length : Int) := oa
            obtain ⟨ad154, e154, hx154_0⟩ := Kd.at_int HR0_7.out x42_2 p154 q154
            cases e154
            replace hx154_0 := hc HB hx154_0
            replace p154 := eq_true p154
            replace q154 := eq_true q154
            go_wp2_with (first | ((with_reducible refine gate_callee (f := 76) rfl ?_); refine gl (some 50) Try.func76 #[.int .i64 (rd l0_7 x42_2), .int .i64 0, .int .i64 1000] ?_; (with_reducible refine (spec_l01In.calls (rd l0_7 x42_2) 0 1000 true _ A43.out).mono ?_); rintro e w' ⟨rfl, ⟨nd, rfl⟩⟩; refine ⟨_, rfl, ?_⟩; have p156 : 0 ≤ (x42_2 : Int) := oa; have q156 : x42_2 < (l0_8.length : Int) := oa; obtain ⟨ad156, e156, hx156_0⟩ := Kd.at_int HR0_8.out x42_2 p156 q156; cases e156; replace hx156_0 := hc HB hx156_0; replace p156 := eq_true p156; replace q156 := eq_true q156) | (go_at_call 76; (with_reducible refine (spec_l01In.calls (rd l0_8 x42_2) 0 1000 false _ A46.out).mono ?_); rintro e w' ⟨rfl, ⟨nd, rfl⟩⟩))
            go_ret
            exact ⟨ee, bb HB⟩
          ·rw [if_neg c45] at H
           exact absurd H (by simp)
         ·replace c44 := Bool.eq_false_iff.mpr c44
          subst c44
          rw [if_neg (show ¬ (false = true) by decide)] at H
          obtain rfl := Option.some.inj H
          have ⟨z50_0, z50_1, z50_2, z50_3, z50_4, z50_5, z50_6, z50_7, z50_8, v50_0, v50_1, v50_2, v50_3, v50_4, v50_5, v50_6, v50_7, v50_8⟩ := rz9 BK150
          have p154 : 0 ≤ (x42_2 : Int) := oa
          have q154 : x42_2 < (l0_7.length : Int) := oa
          obtain ⟨ad154, e154, hx154_0⟩ := Kd.at_int HR0_7.out x42_2 p154 q154
          cases e154
          replace hx154_0 := hc HB hx154_0
          replace p154 := eq_true p154
          replace q154 := eq_true q154
          go_wp2_with (first | ((with_reducible refine gate_callee (f := 76) rfl ?_); refine gl (some 50) Try.func76 #[.int .i64 (rd l0_7 x42_2), .int .i64 0, .int .i64 1000] ?_; (with_reducible refine (spec_l01In.calls (rd l0_7 x42_2) 0 1000 false _ A43.out).mono ?_); rintro e w' ⟨rfl, ⟨nd, rfl⟩⟩; refine ⟨_, rfl, ?_⟩))
          go_ret
          exact ⟨ee, bb HB⟩
        ·rw [if_neg c42] at H
         exact absurd H (by simp)
       ·rw [if_neg c41] at H
        exact absurd H (by simp)
      ·rw [if_neg c40] at H
       have c40b0 : decide (x42_2 < (l0_0.length : Int)) = false := decide_eq_false c40
       clear c40
       obtain rfl := Option.some.inj H
       go_wp2
       go_ret
       exact ⟨ee, bb HB⟩
end Go.Proofs.Ythfefanapneocaa.Q
end
namespace Go.Proofs.Ythfefanapneocaa.Q
open Go.RowKit Go.Proofs.YthfefanapneocaaW.PrintWords Go.Proofs.YthfefanapneocaaW.PrintLast Go.Proofs.YthfefanapneocaaW.PrintMore
attribute [local go_sem] max2_int min2_int max_two min_two max_three min_three max_four min_four
set_option linter.unusedVariables false
set_option linter.unusedSimpArgs false
set_option maxRecDepth 100000
set_option maxHeartbeats 8000000
def spec_l16Copy.f (l0_0 : List (S139)) (a0_1 : Int) (a0_2 : Int) (a0_3 : Int) (l0_4 : List Int) (a0_5 : Bool) (l0_6 : List (S95)) (l0_7 : List Int) (l0_8 : List Int) : Option ((List (S139)) × Int × Int × Int × List Int × Bool × (List (S95)) × List Int × List Int) := (some (([] : List (S139)) : List (S139))).bind fun y160 => (if y160.length + l0_0.length < 4398046511104 then ((some (([] : List Int) : List Int)).bind fun y166 => (if y166.length + l0_4.length < 17592186044416 then ((some (([] : List (S95)) : List (S95))).bind fun y172 => (if y172.length + l0_6.length < 3518437208883 then ((some (([] : List Int) : List Int)).bind fun y178 => (if y178.length + l0_7.length < 17592186044416 then ((some (([] : List Int) : List Int)).bind fun y184 => (if y184.length + l0_8.length < 17592186044416 then (some ((y160 ++ l0_0), a0_1, a0_2, a0_3, (y166 ++ l0_4), a0_5, (y172 ++ l0_6), (y178 ++ l0_7), (y184 ++ l0_8))) else (none))) else (none))) else (none))) else (none))) else (none))
theorem spec_l16Copy.calls (A0_0 : Option Addr) (c0_0 : Nat) (l0_0 : List (S139)) (a0_1 : Int) (a0_2 : Int) (a0_3 : Int) (A0_4 : Option Addr) (c0_4 : Nat) (l0_4 : List Int) (a0_5 : Bool) (A0_6 : Option Addr) (c0_6 : Nat) (l0_6 : List (S95)) (A0_7 : Option Addr) (c0_7 : Nat) (l0_7 : List Int) (A0_8 : Option Addr) (c0_8 : Nat) (l0_8 : List Int) (r1 : List (S139)) (r2 : Int) (r3 : Int) (r4 : Int) (r5 : List Int) (r6 : Bool) (r7 : List (S95)) (r8 : List Int) (r9 : List Int) (w : World) (hr0_0 : Kd.C k139 w A0_0 l0_0.length l0_0) (hc0_0 : l0_0.length ≤ c0_0) (hr0_4 : Kd.C (Kd.int .i64) w A0_4 l0_4.length l0_4) (hc0_4 : l0_4.length ≤ c0_4) (hr0_6 : Kd.C k95 w A0_6 l0_6.length l0_6) (hc0_6 : l0_6.length ≤ c0_6) (hr0_7 : Kd.C (Kd.int .i64) w A0_7 l0_7.length l0_7) (hc0_7 : l0_7.length ≤ c0_7) (hr0_8 : Kd.C (Kd.int .i64) w A0_8 l0_8.length l0_8) (hc0_8 : l0_8.length ≤ c0_8) (h : spec_l16Copy.f l0_0 a0_1 a0_2 a0_3 l0_4 a0_5 l0_6 l0_7 l0_8 = some (r1, r2, r3, r4, r5, r6, r7, r8, r9)) :
  Calls Try.prog 56 #[.agg #[.slice A0_0 l0_0.length c0_0, .int .i64 a0_1, .int .i64 a0_2, .int .i64 a0_3, .slice A0_4 l0_4.length c0_4, .bool a0_5, .slice A0_6 l0_6.length c0_6, .slice A0_7 l0_7.length c0_7, .slice A0_8 l0_8.length c0_8]] w fun e w' => ∃ v0_ v4_ v6_ v7_ v8_ : Value, e = .returned (.agg #[v0_, .int .i64 r2, .int .i64 r3, .int .i64 r4, v4_, .bool r6, v6_, v7_, v8_]) ∧ Kd.R k139 139 w' w.heap.size (fun _ => True) v0_ r1 ∧ Kd.R (Kd.int .i64) 3 w' w.heap.size (fun k_ => some k_ ≠ (v7_ : Value).ownBlock ∧ some k_ ≠ (v8_ : Value).ownBlock) v4_ r5 ∧ Kd.R k95 95 w' w.heap.size (fun _ => True) v6_ r7 ∧ Kd.R (Kd.int .i64) 3 w' w.heap.size (fun k_ => some k_ ≠ (v4_ : Value).ownBlock ∧ some k_ ≠ (v8_ : Value).ownBlock) v7_ r8 ∧ Kd.R (Kd.int .i64) 3 w' w.heap.size (fun k_ => some k_ ≠ (v4_ : Value).ownBlock ∧ some k_ ≠ (v7_ : Value).ownBlock) v8_ r9 ∧ Below w.heap.size w w' := by
 have hu36 := Try.underlying36
 have HR0_0 := dk hr0_0
 have HC0_0 := dk hc0_0
 clear hr0_0 hc0_0
 have HR0_4 := dk hr0_4
 have HC0_4 := dk hc0_4
 clear hr0_4 hc0_4
 have HR0_6 := dk hr0_6
 have HC0_6 := dk hc0_6
 clear hr0_6 hc0_6
 have HR0_7 := dk hr0_7
 have HC0_7 := dk hc0_7
 clear hr0_7 hc0_7
 have HR0_8 := dk hr0_8
 have HC0_8 := dk hc0_8
 clear hr0_8 hc0_8
 have HB := dk (Below.refl w.heap.size w)
 have H : ((some (([] : List (S139)) : List (S139))).bind fun y160 => (if y160.length + l0_0.length < 4398046511104 then ((some (([] : List Int) : List Int)).bind fun y166 => (if y166.length + l0_4.length < 17592186044416 then ((some (([] : List (S95)) : List (S95))).bind fun y172 => (if y172.length + l0_6.length < 3518437208883 then ((some (([] : List Int) : List Int)).bind fun y178 => (if y178.length + l0_7.length < 17592186044416 then ((some (([] : List Int) : List Int)).bind fun y184 => (if y184.length + l0_8.length < 17592186044416 then (some ((y160 ++ l0_0), a0_1, a0_2, a0_3, (y166 ++ l0_4), a0_5, (y172 ++ l0_6), (y178 ++ l0_7), (y184 ++ l0_8))) else (none))) else (none))) else (none))) else (none))) else (none))) = some (r1, r2, r3, r4, r5, r6, r7, r8, r9) := h
 clear h
 obtain ⟨y160, hy160⟩ : ∃ y_ : List (S139), y_ = (([] : List (S139))) := ⟨_, rfl⟩
 replace H : (if y160.length + l0_0.length < 4398046511104 then ((some (([] : List Int) : List Int)).bind fun y166 => (if y166.length + l0_4.length < 17592186044416 then ((some (([] : List (S95)) : List (S95))).bind fun y172 => (if y172.length + l0_6.length < 3518437208883 then ((some (([] : List Int) : List Int)).bind fun y178 => (if y178.length + l0_7.length < 17592186044416 then ((some (([] : List Int) : List Int)).bind fun y184 => (if y184.length + l0_8.length < 17592186044416 then (some ((y160 ++ l0_0), a0_1, a0_2, a0_3, (y166 ++ l0_4), a0_5, (y172 ++ l0_6), (y178 ++ l0_7), (y184 ++ l0_8))) else (none))) else (none))) else (none))) else (none))) else (none)) = some (r1, r2, r3, r4, r5, r6, r7, r8, r9) := by first | (rw [hy160]; with_reducible exact H) | (have H2_ := (Option.bind_some _ _).symm.trans H; rw [hy160]; with_reducible exact H2_) | (have H2_ := (Option.bind_some _ _).symm.trans H; with_reducible exact H2_) | with_reducible exact H | (rw [hy160]; exact H) | exact H
 have Ny160 := dk hy160
 clear hy160
 by_cases c2 : y160.length + l0_0.length < 4398046511104
 ·rw [if_pos c2] at H
  have LMc2 := dk c2
  clear c2
  obtain ⟨y163, hy163⟩ : ∃ y_ : List (S139), y_ = (y160 ++ l0_0) := ⟨_, rfl⟩
  replace H : ((some (([] : List Int) : List Int)).bind fun y166 => (if y166.length + l0_4.length < 17592186044416 then ((some (([] : List (S95)) : List (S95))).bind fun y172 => (if y172.length + l0_6.length < 3518437208883 then ((some (([] : List Int) : List Int)).bind fun y178 => (if y178.length + l0_7.length < 17592186044416 then ((some (([] : List Int) : List Int)).bind fun y184 => (if y184.length + l0_8.length < 17592186044416 then (some (y163, a0_1, a0_2, a0_3, (y166 ++ l0_4), a0_5, (y172 ++ l0_6), (y178 ++ l0_7), (y184 ++ l0_8))) else (none))) else (none))) else (none))) else (none))) = some (r1, r2, r3, r4, r5, r6, r7, r8, r9) := by first | (rw [hy163]; with_reducible exact H) | (have H2_ := (Option.bind_some _ _).symm.trans H; rw [hy163]; with_reducible exact H2_) | (have H2_ := (Option.bind_some _ _).symm.trans H; with_reducible exact H2_) | with_reducible exact H | (rw [hy163]; exact H) | exact H
  have Ny163 := dk hy163
  clear hy163
  obtain ⟨y166, hy166⟩ : ∃ y_ : List Int, y_ = (([] : List Int)) := ⟨_, rfl⟩
  replace H : (if y166.length + l0_4.length < 17592186044416 then ((some (([] : List (S95)) : List (S95))).bind fun y172 => (if y172.length + l0_6.length < 3518437208883 then ((some (([] : List Int) : List Int)).bind fun y178 => (if y178.length + l0_7.length < 17592186044416 then ((some (([] : List Int) : List Int)).bind fun y184 => (if y184.length + l0_8.length < 17592186044416 then (some (y163, a0_1, a0_2, a0_3, (y166 ++ l0_4), a0_5, (y172 ++ l0_6), (y178 ++ l0_7), (y184 ++ l0_8))) else (none))) else (none))) else (none))) else (none)) = some (r1, r2, r3, r4, r5, r6, r7, r8, r9) := by first | (rw [hy166]; with_reducible exact H) | (have H2_ := (Option.bind_some _ _).symm.trans H; rw [hy166]; with_reducible exact H2_) | (have H2_ := (Option.bind_some _ _).symm.trans H; with_reducible exact H2_) | with_reducible exact H | (rw [hy166]; exact H) | exact H
  have Ny166 := dk hy166
  clear hy166
  by_cases c3 : y166.length + l0_4.length < 17592186044416
  ·rw [if_pos c3] at H
   have LMc3 := dk c3
   clear c3
   obtain ⟨y169, hy169⟩ : ∃ y_ : List Int, y_ = (y166 ++ l0_4) := ⟨_, rfl⟩
   replace H : ((some (([] : List (S95)) : List (S95))).bind fun y172 => (if y172.length + l0_6.length < 3518437208883 then ((some (([] : List Int) : List Int)).bind fun y178 => (if y178.length + l0_7.length < 17592186044416 then ((some (([] : List Int) : List Int)).bind fun y184 => (if y184.length + l0_8.length < 17592186044416 then (some (y163, a0_1, a0_2, a0_3, y169, a0_5, (y172 ++ l0_6), (y178 ++ l0_7), (y184 ++ l0_8))) else (none))) else (none))) else (none))) = some (r1, r2, r3, r4, r5, r6, r7, r8, r9) := by first | (rw [hy169]; with_reducible exact H) | (have H2_ := (Option.bind_some _ _).symm.trans H; rw [hy169]; with_reducible exact H2_) | (have H2_ := (Option.bind_some _ _).symm.trans H; with_reducible exact H2_) | with_reducible exact H | (rw [hy169]; exact H) | exact H
   have Ny169 := dk hy169
   clear hy169
   obtain ⟨y172, hy172⟩ : ∃ y_ : List (S95), y_ = (([] : List (S95))) := ⟨_, rfl⟩
   replace H : (if y172.length + l0_6.length < 3518437208883 then ((some (([] : List Int) : List Int)).bind fun y178 => (if y178.length + l0_7.length < 17592186044416 then ((some (([] : List Int) : List Int)).bind fun y184 => (if y184.length + l0_8.length < 17592186044416 then (some (y163, a0_1, a0_2, a0_3, y169, a0_5, (y172 ++ l0_6), (y178 ++ l0_7), (y184 ++ l0_8))) else (none))) else (none))) else (none)) = some (r1, r2, r3, r4, r5, r6, r7, r8, r9) := by first | (rw [hy172]; with_reducible exact H) | (have H2_ := (Option.bind_some _ _).symm.trans H; rw [hy172]; with_reducible exact H2_) | (have H2_ := (Option.bind_some _ _).symm.trans H; with_reducible exact H2_) | with_reducible exact H | (rw [hy172]; exact H) | exact H
   have Ny172 := dk hy172
   clear hy172
   by_cases c4 : y172.length + l0_6.length < 3518437208883
   ·rw [if_pos c4] at H
    have LMc4 := dk c4
    clear c4
    obtain ⟨y175, hy175⟩ : ∃ y_ : List (S95), y_ = (y172 ++ l0_6) := ⟨_, rfl⟩
    replace H : ((some (([] : List Int) : List Int)).bind fun y178 => (if y178.length + l0_7.length < 17592186044416 then ((some (([] : List Int) : List Int)).bind fun y184 => (if y184.length + l0_8.length < 17592186044416 then (some (y163, a0_1, a0_2, a0_3, y169, a0_5, y175, (y178 ++ l0_7), (y184 ++ l0_8))) else (none))) else (none))) = some (r1, r2, r3, r4, r5, r6, r7, r8, r9) := by first | (rw [hy175]; with_reducible exact H) | (have H2_ := (Option.bind_some _ _).symm.trans H; rw [hy175]; with_reducible exact H2_) | (have H2_ := (Option.bind_some _ _).symm.trans H; with_reducible exact H2_) | with_reducible exact H | (rw [hy175]; exact H) | exact H
    have Ny175 := dk hy175
    clear hy175
    obtain ⟨y178, hy178⟩ : ∃ y_ : List Int, y_ = (([] : List Int)) := ⟨_, rfl⟩
    replace H : (if y178.length + l0_7.length < 17592186044416 then ((some (([] : List Int) : List Int)).bind fun y184 => (if y184.length + l0_8.length < 17592186044416 then (some (y163, a0_1, a0_2, a0_3, y169, a0_5, y175, (y178 ++ l0_7), (y184 ++ l0_8))) else (none))) else (none)) = some (r1, r2, r3, r4, r5, r6, r7, r8, r9) := by first | (rw [hy178]; with_reducible exact H) | (have H2_ := (Option.bind_some _ _).symm.trans H; rw [hy178]; with_reducible exact H2_) | (have H2_ := (Option.bind_some _ _).symm.trans H; with_reducible exact H2_) | with_reducible exact H | (rw [hy178]; exact H) | exact H
    have Ny178 := dk hy178
    clear hy178
    by_cases c5 : y178.length + l0_7.length < 17592186044416
    ·rw [if_pos c5] at H
     have LMc5 := dk c5
     clear c5
     obtain ⟨y181, hy181⟩ : ∃ y_ : List Int, y_ = (y178 ++ l0_7) := ⟨_, rfl⟩
     replace H : ((some (([] : List Int) : List Int)).bind fun y184 => (if y184.length + l0_8.length < 17592186044416 then (some (y163, a0_1, a0_2, a0_3, y169, a0_5, y175, y181, (y184 ++ l0_8))) else (none))) = some (r1, r2, r3, r4, r5, r6, r7, r8, r9) := by first | (rw [hy181]; with_reducible exact H) | (have H2_ := (Option.bind_some _ _).symm.trans H; rw [hy181]; with_reducible exact H2_) | (have H2_ := (Option.bind_some _ _).symm.trans H; with_reducible exact H2_) | with_reducible exact H | (rw [hy181]; exact H) | exact H
     have Ny181 := dk hy181
     clear hy181
     obtain ⟨y184, hy184⟩ : ∃ y_ : List Int, y_ = (([] : List Int)) := ⟨_, rfl⟩
     replace H : (if y184.length + l0_8.length < 17592186044416 then (some (y163, a0_1, a0_2, a0_3, y169, a0_5, y175, y181, (y184 ++ l0_8))) else (none)) = some (r1, r2, r3, r4, r5, r6, r7, r8, r9) := by first | (rw [hy184]; with_reducible exact H) | (have H2_ := (Option.bind_some _ _).symm.trans H; rw [hy184]; with_reducible exact H2_) | (have H2_ := (Option.bind_some _ _).symm.trans H; with_reducible exact H2_) | with_reducible exact H | (rw [hy184]; exact H) | exact H
     have Ny184 := dk hy184
     clear hy184
     by_cases c6 : y184.length + l0_8.length < 17592186044416
     ·rw [if_pos c6] at H
      have LMc6 := dk c6
      clear c6
      obtain ⟨y187, hy187⟩ : ∃ y_ : List Int, y_ = (y184 ++ l0_8) := ⟨_, rfl⟩
      replace H : (some (y163, a0_1, a0_2, a0_3, y169, a0_5, y175, y181, y187)) = some (r1, r2, r3, r4, r5, r6, r7, r8, r9) := by first | (rw [hy187]; with_reducible exact H) | (have H2_ := (Option.bind_some _ _).symm.trans H; rw [hy187]; with_reducible exact H2_) | (have H2_ := (Option.bind_some _ _).symm.trans H; with_reducible exact H2_) | with_reducible exact H | (rw [hy187]; exact H) | exact H
      have Ny187 := dk hy187
      clear hy187
      simp only [Option.some.injEq, Prod.mk.injEq] at H
      obtain ⟨rfl, rfl, rfl, rfl, rfl, rfl, rfl, rfl, rfl⟩ := H
      go_enter Try.func56, Try.ntmps56
      go_wp2_with (first | ((with_reducible refine gate_dst (N := 1) rfl ?_); refine bx (N := 1) (cs := #[.slice A0_0 l0_0.length c0_0, .int .i64 a0_1, .int .i64 a0_2, .int .i64 a0_3, .slice A0_4 l0_4.length c0_4, .bool a0_5, .slice A0_6 l0_6.length c0_6, .slice A0_7 l0_7.length c0_7, .slice A0_8 l0_8.length c0_8]) (t := 36) ?_; intro gb158 hg w7 hbox hb; have BK158 := dk (hbox); have GW158 := gs hg HB; have GE158 := gs hg HB; replace HB := hs_ HB hb; clear hb hbox hg) | ((with_reducible refine gate_dst (N := 2) rfl ?_); refine bx (N := 2) (cs := #[.slice none 0 0, .int .i64 0, .int .i64 0, .int .i64 0, .slice none 0 0, .bool false, .slice none 0 0, .slice none 0 0, .slice none 0 0]) (t := 36) ?_; intro gb159 hg w8 hbox hb; have BK159 := dk (hbox); have GW159 := gs hg HB; have GE159 := gs hg HB; replace HB := hs_ HB hb; have NB158_159 := gn hg BK158; have NB159_158 := gm hg BK158; replace BK158 := kb BK158 hb; clear hb hbox hg) | ((with_reducible refine gate_dst (N := 3) rfl ?_); refine Kd.R_lit k139 _ 139 ?hg (N := 3) ?hd (xs := ([] : List (S139))) (inner := []) (ok := fun _ => True) (okp := fun _ => True) ?hr ?hp (fun _ hk => hk) trivial (Below.refl _ _) (Nat.le_refl _) (by simp) ?_; (case hd => rfl); (case hg => rfl); (case hr => first | (go_simp; done) | (go_simp; rfl)); (case hp => exact (Reps.none _ _)); intro v161 w9 ho10 hb hg_ hnew_; clear hg_ hnew_; (first | rw [← Ny160.out] at ho10 | (simp only [Int.reduceToNat] at ho10; rw [← Ny160.out] at ho10)); have HO162 := kl ho10 HB; replace BK158 := kb BK158 hb; replace BK159 := kb BK159 hb; replace HB := hs_ HB hb; clear hb ho10; have hnb11 := NB158_159.out; have hnc11 := NB159_158.out; have ⟨z12_0, z12_1, z12_2, z12_3, z12_4, z12_5, z12_6, z12_7, z12_8, v12_0, v12_1, v12_2, v12_3, v12_4, v12_5, v12_6, v12_7, v12_8⟩ := rz9 BK158) | ((with_reducible refine gate_builtin (b := .append) (xs := #[.tmp 3, .tmp 5]) rfl ?_); at_builtin; refine Kd.R_append_rows k139 (w0 := w) w.heap.size rfl (.tmp 3) (.tmp 5) 32 139 (.agg #[(.string ⟨#[]⟩), (.int .i64 0), (.int .i64 0)]) 32 rfl Try.underlying32 info139 rfl (by decide) (by omega) v161 y160 l0_0 _ _ _ (fun _ => True) (fun _ => False) rfl rfl ?aO ?aR (fun _ _ h => h) (fun _ h => h.elim) ?aF ?aB ?aS ?aL ?_; (case aR => exact cc HR0_0 HB); (case aB => exact (bb HB)); (case aF => exact (fun _ _ => trivial)); (case aO => exact (rr HO162)); (case aS => exact (below_size (bb HB))); (case aL => have := LMc2.out; omega); intro v164 w13 ho hb hg hat; rw [← Ny163.out] at ho; replace BK158 := dk (blk_grown (g := gb158) (o := .cells #[.slice A0_0 l0_0.length c0_0, .int .i64 a0_1, .int .i64 a0_2, .int .i64 a0_3, .slice A0_4 l0_4.length c0_4, .bool a0_5, .slice A0_6 l0_6.length c0_6, .slice A0_7 l0_7.length c0_7, .slice A0_8 l0_8.length c0_8] 36 (0, 0)) (bk BK158) hg (Kd.R_ne HO162.out BK158.out (by decide))); replace BK159 := dk (blk_grown (g := gb159) (o := .cells #[.slice none 0 0, .int .i64 0, .int .i64 0, .int .i64 0, .slice none 0 0, .bool false, .slice none 0 0, .slice none 0 0, .slice none 0 0] 36 (0, 0)) (bk BK159) hg (Kd.R_ne HO162.out BK159.out (by decide))); replace HB := dk (hb); have HO165 := dk (ho); clear HO162 ho hb hg hat; obtain ⟨Ao14, co14, eo14⟩ := Kd.R_slice HO165.out; subst eo14; have ⟨z15_0, z15_1, z15_2, z15_3, z15_4, z15_5, z15_6, z15_7, z15_8, v15_0, v15_1, v15_2, v15_3, v15_4, v15_5, v15_6, v15_7, v15_8⟩ := rz9 BK158) | ((with_reducible refine gate_dst (N := 8) rfl ?_); refine Kd.R_lit (Kd.int .i64) _ 3 ?hg (N := 8) ?hd (xs := ([] : List Int)) (inner := []) (ok := fun _ => True) (okp := fun _ => True) ?hr ?hp (fun _ hk => hk) trivial (Below.refl _ _) (Nat.le_refl _) (by simp) ?_; (case hd => rfl); (case hg => rfl); (case hr => first | (go_simp; done) | (go_simp; rfl)); (case hp => exact (Reps.none _ _)); intro v167 w16 ho17 hb hg_ hnew_; clear hg_ hnew_; (first | rw [← Ny166.out] at ho17 | (simp only [Int.reduceToNat] at ho17; rw [← Ny166.out] at ho17)); replace HO165 := kf HO165 BK158 hb; have HO168 := kl ho17 HB; replace BK158 := dk (blk_below (g := gb158) (o := .cells #[.slice Ao14 y163.length co14, .int .i64 a0_1, .int .i64 a0_2, .int .i64 a0_3, .slice A0_4 l0_4.length c0_4, .bool a0_5, .slice A0_6 l0_6.length c0_6, .slice A0_7 l0_7.length c0_7, .slice A0_8 l0_8.length c0_8] 36 (0, 0)) (bp BK158) hb); replace BK159 := dk (blk_below (bf NB159_158.out BK159) hb); replace HB := hs_ HB hb; clear hb ho17; have ⟨z18_0, z18_1, z18_2, z18_3, z18_4, z18_5, z18_6, z18_7, z18_8, v18_0, v18_1, v18_2, v18_3, v18_4, v18_5, v18_6, v18_7, v18_8⟩ := rz9 BK158) | ((with_reducible refine gate_builtin (b := .append) (xs := #[.tmp 8, .tmp 11]) rfl ?_); at_builtin; refine Kd.R_append_rows (Kd.int .i64) (w0 := w) w.heap.size rfl (.tmp 8) (.tmp 11) 23 3 (.int .i64 0) 8 rfl Try.underlying23 info3 rfl (by decide) (by omega) v167 y166 l0_4 _ _ _ (fun _ => True) (fun _ => False) rfl rfl ?aO ?aR (fun _ _ h => h) (fun _ h => h.elim) ?aF ?aB ?aS ?aL ?_; (case aR => exact cc HR0_4 HB); (case aB => exact (bb HB)); (case aF => exact (fun _ _ => trivial)); (case aO => exact (rr HO168)); (case aS => exact (below_size (bb HB))); (case aL => have := LMc3.out; omega); intro v170 w19 ho hb hg hat; rw [← Ny169.out] at ho; replace BK158 := dk (blk_grown (g := gb158) (o := .cells #[.slice Ao14 y163.length co14, .int .i64 a0_1, .int .i64 a0_2, .int .i64 a0_3, .slice A0_4 l0_4.length c0_4, .bool a0_5, .slice A0_6 l0_6.length c0_6, .slice A0_7 l0_7.length c0_7, .slice A0_8 l0_8.length c0_8] 36 (0, 0)) (bk BK158) hg (Kd.R_ne HO168.out BK158.out (by decide))); replace BK159 := dk (blk_grown (g := gb159) (o := .cells #[.slice none 0 0, .int .i64 0, .int .i64 0, .int .i64 0, .slice none 0 0, .bool false, .slice none 0 0, .slice none 0 0, .slice none 0 0] 36 (0, 0)) (bk BK159) hg (Kd.R_ne HO168.out BK159.out (by decide))); replace HO165 := dk (Kd.R_over' (rr HO165) (Kd.R_typed (rr HO168)) (by decide) hg); replace HB := dk (hb); have HO171 := dk (ho); clear HO168 ho hb hg hat; obtain ⟨Ao20, co20, eo20⟩ := Kd.R_slice HO171.out; subst eo20; have ⟨z21_0, z21_1, z21_2, z21_3, z21_4, z21_5, z21_6, z21_7, z21_8, v21_0, v21_1, v21_2, v21_3, v21_4, v21_5, v21_6, v21_7, v21_8⟩ := rz9 BK158) | ((with_reducible refine gate_dst (N := 15) rfl ?_); refine Kd.R_lit k95 _ 95 ?hg (N := 15) ?hd (xs := ([] : List (S95))) (inner := []) (ok := fun _ => True) (okp := fun _ => True) ?hr ?hp (fun _ hk => hk) trivial (Below.refl _ _) (Nat.le_refl _) (by simp) ?_; (case hd => rfl); (case hg => rfl); (case hr => first | (go_simp; done) | (go_simp; rfl)); (case hp => exact (Reps.none _ _)); intro v173 w22 ho23 hb hg_ hnew_; clear hg_ hnew_; (first | rw [← Ny172.out] at ho23 | (simp only [Int.reduceToNat] at ho23; rw [← Ny172.out] at ho23)); replace HO165 := kf HO165 BK158 hb; replace HO171 := kf HO171 BK158 hb; have HO174 := kl ho23 HB; replace BK158 := dk (blk_below (g := gb158) (o := .cells #[.slice Ao14 y163.length co14, .int .i64 a0_1, .int .i64 a0_2, .int .i64 a0_3, .slice Ao20 y169.length co20, .bool a0_5, .slice A0_6 l0_6.length c0_6, .slice A0_7 l0_7.length c0_7, .slice A0_8 l0_8.length c0_8] 36 (0, 0)) (bp BK158) hb); replace BK159 := dk (blk_below (bf NB159_158.out BK159) hb); replace HB := hs_ HB hb; clear hb ho23; have ⟨z24_0, z24_1, z24_2, z24_3, z24_4, z24_5, z24_6, z24_7, z24_8, v24_0, v24_1, v24_2, v24_3, v24_4, v24_5, v24_6, v24_7, v24_8⟩ := rz9 BK158) | ((with_reducible refine gate_builtin (b := .append) (xs := #[.tmp 15, .tmp 17]) rfl ?_); at_builtin; refine Kd.R_append_rows k95 (w0 := w) w.heap.size rfl (.tmp 15) (.tmp 17) 34 95 (.agg #[(.int .i64 0), (.int .i64 0), (.int .i64 0), (.int .i64 0), (.int .i64 0)]) 40 rfl Try.underlying34 info95 rfl (by decide) (by omega) v173 y172 l0_6 _ _ _ (fun _ => True) (fun _ => False) rfl rfl ?aO ?aR (fun _ _ h => h) (fun _ h => h.elim) ?aF ?aB ?aS ?aL ?_; (case aR => exact cc HR0_6 HB); (case aB => exact (bb HB)); (case aF => exact (fun _ _ => trivial)); (case aO => exact (rr HO174)); (case aS => exact (below_size (bb HB))); (case aL => have := LMc4.out; omega); intro v176 w25 ho hb hg hat; rw [← Ny175.out] at ho; replace BK158 := dk (blk_grown (g := gb158) (o := .cells #[.slice Ao14 y163.length co14, .int .i64 a0_1, .int .i64 a0_2, .int .i64 a0_3, .slice Ao20 y169.length co20, .bool a0_5, .slice A0_6 l0_6.length c0_6, .slice A0_7 l0_7.length c0_7, .slice A0_8 l0_8.length c0_8] 36 (0, 0)) (bk BK158) hg (Kd.R_ne HO174.out BK158.out (by decide))); replace BK159 := dk (blk_grown (g := gb159) (o := .cells #[.slice none 0 0, .int .i64 0, .int .i64 0, .int .i64 0, .slice none 0 0, .bool false, .slice none 0 0, .slice none 0 0, .slice none 0 0] 36 (0, 0)) (bk BK159) hg (Kd.R_ne HO174.out BK159.out (by decide))); replace HO165 := dk (Kd.R_over' (rr HO165) (Kd.R_typed (rr HO174)) (by decide) hg); replace HO171 := dk (Kd.R_over' (rr HO171) (Kd.R_typed (rr HO174)) (by decide) hg); replace HB := dk (hb); have HO177 := dk (ho); clear HO174 ho hb hg hat; obtain ⟨Ao26, co26, eo26⟩ := Kd.R_slice HO177.out; subst eo26; have ⟨z27_0, z27_1, z27_2, z27_3, z27_4, z27_5, z27_6, z27_7, z27_8, v27_0, v27_1, v27_2, v27_3, v27_4, v27_5, v27_6, v27_7, v27_8⟩ := rz9 BK158) | ((with_reducible refine gate_dst (N := 20) rfl ?_); refine Kd.R_lit (Kd.int .i64) _ 3 ?hg (N := 20) ?hd (xs := ([] : List Int)) (inner := []) (ok := fun _ => True) (okp := fun _ => True) ?hr ?hp (fun _ hk => hk) trivial (Below.refl _ _) (Nat.le_refl _) (by simp) ?_; (case hd => rfl); (case hg => rfl); (case hr => first | (go_simp; done) | (go_simp; rfl)); (case hp => exact (Reps.none _ _)); intro v179 w28 ho29 hb hg_ hnew_; clear hg_ hnew_; (first | rw [← Ny178.out] at ho29 | (simp only [Int.reduceToNat] at ho29; rw [← Ny178.out] at ho29)); replace HO165 := kf HO165 BK158 hb; replace HO177 := kf HO177 BK158 hb; have HO180 := dk (Kd.R_lower (Kd.R_new' ho29 (Kd.R_lt (rf HO171 BK158 (fun _ h_ => h_.1)))) (below_size (bb HB))); replace HO171 := dk (Kd.R_elder' (rf HO171 BK158 (fun _ h_ => h_.1)) (Kd.R_base ho29) hb); replace BK158 := dk (blk_below (g := gb158) (o := .cells #[.slice Ao14 y163.length co14, .int .i64 a0_1, .int .i64 a0_2, .int .i64 a0_3, .slice Ao20 y169.length co20, .bool a0_5, .slice Ao26 y175.length co26, .slice A0_7 l0_7.length c0_7, .slice A0_8 l0_8.length c0_8] 36 (0, 0)) (bp BK158) hb); replace BK159 := dk (blk_below (bf NB159_158.out BK159) hb); replace HB := hs_ HB hb; clear hb ho29; have ⟨z30_0, z30_1, z30_2, z30_3, z30_4, z30_5, z30_6, z30_7, z30_8, v30_0, v30_1, v30_2, v30_3, v30_4, v30_5, v30_6, v30_7, v30_8⟩ := rz9 BK158) | ((with_reducible refine gate_builtin (b := .append) (xs := #[.tmp 20, .tmp 22]) rfl ?_); at_builtin; refine Kd.R_append_rows (Kd.int .i64) (w0 := w) w.heap.size rfl (.tmp 20) (.tmp 22) 23 3 (.int .i64 0) 8 rfl Try.underlying23 info3 rfl (by decide) (by omega) v179 y178 l0_7 _ _ _ (fun k_ => nb k_ Ao20 y169.length co20) (fun _ => False) rfl rfl ?aO ?aR (fun _ _ h => h) (fun _ h => h.elim) ?aF ?aB ?aS ?aL ?_; (case aR => exact cc HR0_7 HB); (case aB => exact (bb HB)); (case aF => exact (fun k_ hk => Kd.fresh' (Kd.R_lt (rr HO171)) k_ hk)); (case aO => exact (ro HO180 (fun _ hk => hk.2))); (case aS => exact (below_size (bb HB))); (case aL => have := LMc5.out; omega); intro v182 w31 ho hb hg hat; rw [← Ny181.out] at ho; replace BK158 := dk (blk_grown (g := gb158) (o := .cells #[.slice Ao14 y163.length co14, .int .i64 a0_1, .int .i64 a0_2, .int .i64 a0_3, .slice Ao20 y169.length co20, .bool a0_5, .slice Ao26 y175.length co26, .slice A0_7 l0_7.length c0_7, .slice A0_8 l0_8.length c0_8] 36 (0, 0)) (bk BK158) hg (Kd.R_ne HO180.out BK158.out (by decide))); replace BK159 := dk (blk_grown (g := gb159) (o := .cells #[.slice none 0 0, .int .i64 0, .int .i64 0, .int .i64 0, .slice none 0 0, .bool false, .slice none 0 0, .slice none 0 0, .slice none 0 0] 36 (0, 0)) (bk BK159) hg (Kd.R_ne HO180.out BK159.out (by decide))); replace HO165 := dk (Kd.R_over' (rr HO165) (Kd.R_typed (rr HO180)) (by decide) hg); replace HO171 := dk (Kd.R_after (ok := (fun _ => True)) (rr HO171) hg hat); replace HO177 := dk (Kd.R_over' (rr HO177) (Kd.R_typed (rr HO180)) (by decide) hg); replace HB := dk (hb); have HO183 := dk (ho); clear HO180 ho hb hg hat; obtain ⟨Ao32, co32, eo32⟩ := Kd.R_slice HO183.out; subst eo32; have ⟨z33_0, z33_1, z33_2, z33_3, z33_4, z33_5, z33_6, z33_7, z33_8, v33_0, v33_1, v33_2, v33_3, v33_4, v33_5, v33_6, v33_7, v33_8⟩ := rz9 BK158) | ((with_reducible refine gate_dst (N := 25) rfl ?_); refine Kd.R_lit (Kd.int .i64) _ 3 ?hg (N := 25) ?hd (xs := ([] : List Int)) (inner := []) (ok := fun _ => True) (okp := fun _ => True) ?hr ?hp (fun _ hk => hk) trivial (Below.refl _ _) (Nat.le_refl _) (by simp) ?_; (case hd => rfl); (case hg => rfl); (case hr => first | (go_simp; done) | (go_simp; rfl)); (case hp => exact (Reps.none _ _)); intro v185 w34 ho35 hb hg_ hnew_; clear hg_ hnew_; (first | rw [← Ny184.out] at ho35 | (simp only [Int.reduceToNat] at ho35; rw [← Ny184.out] at ho35)); replace HO165 := kf HO165 BK158 hb; replace HO177 := kf HO177 BK158 hb; have HO186 := dk (Kd.R_lower (Kd.R_new' (Kd.R_new' ho35 (Kd.R_lt (rf HO171 BK158 (fun _ h_ => h_.1)))) (Kd.R_lt (rf HO183 BK158 (fun _ h_ => h_.1)))) (below_size (bb HB))); replace HO171 := dk (Kd.R_elder' (rf HO171 BK158 (fun _ h_ => h_.1)) (Kd.R_base ho35) hb); replace HO183 := dk (Kd.R_elder' (rf HO183 BK158 (fun _ h_ => h_.1)) (Kd.R_base ho35) hb); replace BK158 := dk (blk_below (g := gb158) (o := .cells #[.slice Ao14 y163.length co14, .int .i64 a0_1, .int .i64 a0_2, .int .i64 a0_3, .slice Ao20 y169.length co20, .bool a0_5, .slice Ao26 y175.length co26, .slice Ao32 y181.length co32, .slice A0_8 l0_8.length c0_8] 36 (0, 0)) (bp BK158) hb); replace BK159 := dk (blk_below (bf NB159_158.out BK159) hb); replace HB := hs_ HB hb; clear hb ho35; have ⟨z36_0, z36_1, z36_2, z36_3, z36_4, z36_5, z36_6, z36_7, z36_8, v36_0, v36_1, v36_2, v36_3, v36_4, v36_5, v36_6, v36_7, v36_8⟩ := rz9 BK158) | ((with_reducible refine gate_builtin (b := .append) (xs := #[.tmp 25, .tmp 27]) rfl ?_); at_builtin; refine Kd.R_append_rows (Kd.int .i64) (w0 := w) w.heap.size rfl (.tmp 25) (.tmp 27) 23 3 (.int .i64 0) 8 rfl Try.underlying23 info3 rfl (by decide) (by omega) v185 y184 l0_8 _ _ _ (fun k_ => nb k_ Ao20 y169.length co20 ∧ nb k_ Ao32 y181.length co32) (fun _ => False) rfl rfl ?aO ?aR (fun _ _ h => h) (fun _ h => h.elim) ?aF ?aB ?aS ?aL ?_; (case aR => exact cc HR0_8 HB); (case aB => exact (bb HB)); (case aF => exact (fun k_ hk => ⟨Kd.fresh' (Kd.R_lt (rr HO171)) k_ hk, Kd.fresh' (Kd.R_lt (rr HO183)) k_ hk⟩)); (case aO => exact (ro HO186 (fun _ hk => ⟨hk.1.2, hk.2⟩))); (case aS => exact (below_size (bb HB))); (case aL => have := LMc6.out; omega); intro v188 w37 ho hb hg hat; rw [← Ny187.out] at ho; replace BK158 := dk (blk_grown (g := gb158) (o := .cells #[.slice Ao14 y163.length co14, .int .i64 a0_1, .int .i64 a0_2, .int .i64 a0_3, .slice Ao20 y169.length co20, .bool a0_5, .slice Ao26 y175.length co26, .slice Ao32 y181.length co32, .slice A0_8 l0_8.length c0_8] 36 (0, 0)) (bk BK158) hg (Kd.R_ne HO186.out BK158.out (by decide))); replace BK159 := dk (blk_grown (g := gb159) (o := .cells #[.slice none 0 0, .int .i64 0, .int .i64 0, .int .i64 0, .slice none 0 0, .bool false, .slice none 0 0, .slice none 0 0, .slice none 0 0] 36 (0, 0)) (bk BK159) hg (Kd.R_ne HO186.out BK159.out (by decide))); replace HO165 := dk (Kd.R_over' (rr HO165) (Kd.R_typed (rr HO186)) (by decide) hg); replace HO171 := dk (Kd.R_after (ok := (fun k_ => nb k_ Ao32 y181.length co32)) (ro HO171 (fun _ hk => ⟨hk.1.2, hk.2⟩)) hg hat); replace HO177 := dk (Kd.R_over' (rr HO177) (Kd.R_typed (rr HO186)) (by decide) hg); replace HO183 := dk (Kd.R_after (ok := (fun k_ => nb k_ Ao20 y169.length co20)) (rr HO183) hg hat); replace HB := dk (hb); have HO189 := dk (ho); clear HO186 ho hb hg hat; obtain ⟨Ao38, co38, eo38⟩ := Kd.R_slice HO189.out; subst eo38; have ⟨z39_0, z39_1, z39_2, z39_3, z39_4, z39_5, z39_6, z39_7, z39_8, v39_0, v39_1, v39_2, v39_3, v39_4, v39_5, v39_6, v39_7, v39_8⟩ := rz9 BK158; have ⟨z40_0, z40_1, z40_2, z40_3, z40_4, z40_5, z40_6, z40_7, z40_8, v40_0, v40_1, v40_2, v40_3, v40_4, v40_5, v40_6, v40_7, v40_8⟩ := rz9 BK159))
      refine bodyPost_ret (results_cell_row rfl _ _ gb159 36 #[.slice Ao14 y163.length co14, .int .i64 a0_1, .int .i64 a0_2, .int .i64 a0_3, .slice Ao20 y169.length co20, .bool a0_5, .slice Ao26 y175.length co26, .slice Ao32 y181.length co32, .slice Ao38 y187.length co38] (0, 0) _ rfl (by (with_reducible repeat (first | refine blk_drewN ?_ _ | refine blk_drew ?_ | refine blk_alloc ?_ _)); refine blk_put (cs := #[.slice Ao14 y163.length co14, .int .i64 a0_1, .int .i64 a0_2, .int .i64 a0_3, .slice Ao20 y169.length co20, .bool a0_5, .slice Ao26 y175.length co26, .slice Ao32 y181.length co32, .slice none 0 0]) ?_ 8 _ rfl; (with_reducible repeat (first | refine blk_drewN ?_ _ | refine blk_drew ?_ | refine blk_alloc ?_ _)); refine blk_put (cs := #[.slice Ao14 y163.length co14, .int .i64 a0_1, .int .i64 a0_2, .int .i64 a0_3, .slice Ao20 y169.length co20, .bool a0_5, .slice Ao26 y175.length co26, .slice none 0 0, .slice none 0 0]) ?_ 7 _ rfl; (with_reducible repeat (first | refine blk_drewN ?_ _ | refine blk_drew ?_ | refine blk_alloc ?_ _)); refine blk_put (cs := #[.slice Ao14 y163.length co14, .int .i64 a0_1, .int .i64 a0_2, .int .i64 a0_3, .slice Ao20 y169.length co20, .bool a0_5, .slice none 0 0, .slice none 0 0, .slice none 0 0]) ?_ 6 _ rfl; (with_reducible repeat (first | refine blk_drewN ?_ _ | refine blk_drew ?_ | refine blk_alloc ?_ _)); refine blk_put (cs := #[.slice Ao14 y163.length co14, .int .i64 a0_1, .int .i64 a0_2, .int .i64 a0_3, .slice Ao20 y169.length co20, .bool false, .slice none 0 0, .slice none 0 0, .slice none 0 0]) ?_ 5 _ rfl; (with_reducible repeat (first | refine blk_drewN ?_ _ | refine blk_drew ?_ | refine blk_alloc ?_ _)); refine blk_put (cs := #[.slice Ao14 y163.length co14, .int .i64 a0_1, .int .i64 a0_2, .int .i64 a0_3, .slice none 0 0, .bool false, .slice none 0 0, .slice none 0 0, .slice none 0 0]) ?_ 4 _ rfl; (with_reducible repeat (first | refine blk_drewN ?_ _ | refine blk_drew ?_ | refine blk_alloc ?_ _)); refine blk_put (cs := #[.slice Ao14 y163.length co14, .int .i64 a0_1, .int .i64 a0_2, .int .i64 0, .slice none 0 0, .bool false, .slice none 0 0, .slice none 0 0, .slice none 0 0]) ?_ 3 _ rfl; (with_reducible repeat (first | refine blk_drewN ?_ _ | refine blk_drew ?_ | refine blk_alloc ?_ _)); refine blk_put (cs := #[.slice Ao14 y163.length co14, .int .i64 a0_1, .int .i64 0, .int .i64 0, .slice none 0 0, .bool false, .slice none 0 0, .slice none 0 0, .slice none 0 0]) ?_ 2 _ rfl; (with_reducible repeat (first | refine blk_drewN ?_ _ | refine blk_drew ?_ | refine blk_alloc ?_ _)); refine blk_put (cs := #[.slice Ao14 y163.length co14, .int .i64 0, .int .i64 0, .int .i64 0, .slice none 0 0, .bool false, .slice none 0 0, .slice none 0 0, .slice none 0 0]) ?_ 1 _ rfl; (with_reducible repeat (first | refine blk_drewN ?_ _ | refine blk_drew ?_ | refine blk_alloc ?_ _)); refine blk_put (cs := #[.slice none 0 0, .int .i64 0, .int .i64 0, .int .i64 0, .slice none 0 0, .bool false, .slice none 0 0, .slice none 0 0, .slice none 0 0]) ?_ 0 _ rfl; exact bf NB159_158.out BK159) Try.underlying36 rfl (by kernel_rfl)) rfl ?_
      exact ⟨_, _, _, _, _, ee, by (with_reducible repeat (first | apply Kd.R_alloc | apply Kd.R_drewN | apply Kd.R_drew)); exact Kd.R_mono (Kd.R_far (p := ⟨gb159, 8, none⟩) (Kd.R_far (p := ⟨gb159, 7, none⟩) (Kd.R_far (p := ⟨gb159, 6, none⟩) (Kd.R_far (p := ⟨gb159, 5, none⟩) (Kd.R_far (p := ⟨gb159, 4, none⟩) (Kd.R_far (p := ⟨gb159, 3, none⟩) (Kd.R_far (p := ⟨gb159, 2, none⟩) (Kd.R_far (p := ⟨gb159, 1, none⟩) (Kd.R_far (p := ⟨gb159, 0, none⟩) (Kd.R_far (p := ⟨gb158, 8, none⟩) (Kd.R_types (Kd.R_types HO165.out BK158.out (by decide)) BK159.out (by decide)) (fun _ hk => hk.1.2) (.slice Ao38 y187.length co38)) (fun _ hk => hk.2) (.slice Ao14 y163.length co14)) (fun _ hk => hk.2) (.int .i64 a0_1)) (fun _ hk => hk.2) (.int .i64 a0_2)) (fun _ hk => hk.2) (.int .i64 a0_3)) (fun _ hk => hk.2) (.slice Ao20 y169.length co20)) (fun _ hk => hk.2) (.bool a0_5)) (fun _ hk => hk.2) (.slice Ao26 y175.length co26)) (fun _ hk => hk.2) (.slice Ao32 y181.length co32)) (fun _ hk => hk.2) (.slice Ao38 y187.length co38)) (fun _ hk => trivial), by (with_reducible repeat (first | apply Kd.R_alloc | apply Kd.R_drewN | apply Kd.R_drew)); exact Kd.R_mono (Kd.R_far (p := ⟨gb159, 8, none⟩) (Kd.R_far (p := ⟨gb159, 7, none⟩) (Kd.R_far (p := ⟨gb159, 6, none⟩) (Kd.R_far (p := ⟨gb159, 5, none⟩) (Kd.R_far (p := ⟨gb159, 4, none⟩) (Kd.R_far (p := ⟨gb159, 3, none⟩) (Kd.R_far (p := ⟨gb159, 2, none⟩) (Kd.R_far (p := ⟨gb159, 1, none⟩) (Kd.R_far (p := ⟨gb159, 0, none⟩) (Kd.R_far (p := ⟨gb158, 8, none⟩) (Kd.R_types (Kd.R_types HO171.out BK158.out (by decide)) BK159.out (by decide)) (fun _ hk => hk.1.2) (.slice Ao38 y187.length co38)) (fun _ hk => hk.2) (.slice Ao14 y163.length co14)) (fun _ hk => hk.2) (.int .i64 a0_1)) (fun _ hk => hk.2) (.int .i64 a0_2)) (fun _ hk => hk.2) (.int .i64 a0_3)) (fun _ hk => hk.2) (.slice Ao20 y169.length co20)) (fun _ hk => hk.2) (.bool a0_5)) (fun _ hk => hk.2) (.slice Ao26 y175.length co26)) (fun _ hk => hk.2) (.slice Ao32 y181.length co32)) (fun _ hk => hk.2) (.slice Ao38 y187.length co38)) (fun _ hk => ⟨hk.1.1.1, hk.1.1.2⟩), by (with_reducible repeat (first | apply Kd.R_alloc | apply Kd.R_drewN | apply Kd.R_drew)); exact Kd.R_mono (Kd.R_far (p := ⟨gb159, 8, none⟩) (Kd.R_far (p := ⟨gb159, 7, none⟩) (Kd.R_far (p := ⟨gb159, 6, none⟩) (Kd.R_far (p := ⟨gb159, 5, none⟩) (Kd.R_far (p := ⟨gb159, 4, none⟩) (Kd.R_far (p := ⟨gb159, 3, none⟩) (Kd.R_far (p := ⟨gb159, 2, none⟩) (Kd.R_far (p := ⟨gb159, 1, none⟩) (Kd.R_far (p := ⟨gb159, 0, none⟩) (Kd.R_far (p := ⟨gb158, 8, none⟩) (Kd.R_types (Kd.R_types HO177.out BK158.out (by decide)) BK159.out (by decide)) (fun _ hk => hk.1.2) (.slice Ao38 y187.length co38)) (fun _ hk => hk.2) (.slice Ao14 y163.length co14)) (fun _ hk => hk.2) (.int .i64 a0_1)) (fun _ hk => hk.2) (.int .i64 a0_2)) (fun _ hk => hk.2) (.int .i64 a0_3)) (fun _ hk => hk.2) (.slice Ao20 y169.length co20)) (fun _ hk => hk.2) (.bool a0_5)) (fun _ hk => hk.2) (.slice Ao26 y175.length co26)) (fun _ hk => hk.2) (.slice Ao32 y181.length co32)) (fun _ hk => hk.2) (.slice Ao38 y187.length co38)) (fun _ hk => trivial), by (with_reducible repeat (first | apply Kd.R_alloc | apply Kd.R_drewN | apply Kd.R_drew)); exact Kd.R_mono (Kd.R_far (p := ⟨gb159, 8, none⟩) (Kd.R_far (p := ⟨gb159, 7, none⟩) (Kd.R_far (p := ⟨gb159, 6, none⟩) (Kd.R_far (p := ⟨gb159, 5, none⟩) (Kd.R_far (p := ⟨gb159, 4, none⟩) (Kd.R_far (p := ⟨gb159, 3, none⟩) (Kd.R_far (p := ⟨gb159, 2, none⟩) (Kd.R_far (p := ⟨gb159, 1, none⟩) (Kd.R_far (p := ⟨gb159, 0, none⟩) (Kd.R_far (p := ⟨gb158, 8, none⟩) (Kd.R_types (Kd.R_types HO183.out BK158.out (by decide)) BK159.out (by decide)) (fun _ hk => hk.1.2) (.slice Ao38 y187.length co38)) (fun _ hk => hk.2) (.slice Ao14 y163.length co14)) (fun _ hk => hk.2) (.int .i64 a0_1)) (fun _ hk => hk.2) (.int .i64 a0_2)) (fun _ hk => hk.2) (.int .i64 a0_3)) (fun _ hk => hk.2) (.slice Ao20 y169.length co20)) (fun _ hk => hk.2) (.bool a0_5)) (fun _ hk => hk.2) (.slice Ao26 y175.length co26)) (fun _ hk => hk.2) (.slice Ao32 y181.length co32)) (fun _ hk => hk.2) (.slice Ao38 y187.length co38)) (fun _ hk => ⟨hk.1.1.1, hk.1.1.2⟩), by (with_reducible repeat (first | apply Kd.R_alloc | apply Kd.R_drewN | apply Kd.R_drew)); exact Kd.R_mono (Kd.R_far (p := ⟨gb159, 8, none⟩) (Kd.R_far (p := ⟨gb159, 7, none⟩) (Kd.R_far (p := ⟨gb159, 6, none⟩) (Kd.R_far (p := ⟨gb159, 5, none⟩) (Kd.R_far (p := ⟨gb159, 4, none⟩) (Kd.R_far (p := ⟨gb159, 3, none⟩) (Kd.R_far (p := ⟨gb159, 2, none⟩) (Kd.R_far (p := ⟨gb159, 1, none⟩) (Kd.R_far (p := ⟨gb159, 0, none⟩) (Kd.R_far (p := ⟨gb158, 8, none⟩) (Kd.R_types (Kd.R_types HO189.out BK158.out (by decide)) BK159.out (by decide)) (fun _ hk => hk.1.2) (.slice Ao38 y187.length co38)) (fun _ hk => hk.2) (.slice Ao14 y163.length co14)) (fun _ hk => hk.2) (.int .i64 a0_1)) (fun _ hk => hk.2) (.int .i64 a0_2)) (fun _ hk => hk.2) (.int .i64 a0_3)) (fun _ hk => hk.2) (.slice Ao20 y169.length co20)) (fun _ hk => hk.2) (.bool a0_5)) (fun _ hk => hk.2) (.slice Ao26 y175.length co26)) (fun _ hk => hk.2) (.slice Ao32 y181.length co32)) (fun _ hk => hk.2) (.slice Ao38 y187.length co38)) (fun _ hk => ⟨hk.1.1.1, hk.1.1.2⟩), bb HB⟩
     ·rw [if_neg c6] at H
      exact absurd H (by simp)
    ·rw [if_neg c5] at H
     exact absurd H (by simp)
   ·rw [if_neg c4] at H
    exact absurd H (by simp)
  ·rw [if_neg c3] at H
   exact absurd H (by simp)
 ·rw [if_neg c2] at H
  exact absurd H (by simp)
def spec_l21Award.f (a0_0 : Int) (a0_1 : Int) (a0_2 : Int) (a0_3 : Int) (a0_4 : Int) (a1 : Int) : Option (Int × Int × Int × Int × Int) := if a0_0 = a1 then (some (a0_0, a0_1, 0, 0, 2)) else (some (a0_0, a0_1, 0, 0, 3))
theorem spec_l21Award.calls (a0_0 : Int) (a0_1 : Int) (a0_2 : Int) (a0_3 : Int) (a0_4 : Int) (a1 : Int) (r1 : Int) (r2 : Int) (r3 : Int) (r4 : Int) (r5 : Int) (w : World) (h : spec_l21Award.f a0_0 a0_1 a0_2 a0_3 a0_4 a1 = some (r1, r2, r3, r4, r5)) :
    Calls Try.prog 58 #[.agg #[.int .i64 a0_0, .int .i64 a0_1, .int .i64 a0_2, .int .i64 a0_3, .int .i64 a0_4], .int .i64 a1] w fun e w' => e = .returned (.agg #[.int .i64 r1, .int .i64 r2, .int .i64 r3, .int .i64 r4, .int .i64 r5]) ∧ Below w.heap.size w w' := by
  unfold spec_l21Award.f at h
  by_cases hc : a0_0 = a1
  · rw [if_pos hc] at h
    have hb : (a0_0 == a1) = true := beq_iff_eq.mpr hc
    clear hc
    simp only [Option.some.injEq, Prod.mk.injEq] at h
    obtain ⟨rfl, rfl, rfl, rfl, rfl⟩ := h
    go_enter Try.func58, Try.ntmps58
    go_wp2
    exact bodyPost_ret (v := .agg #[.int .i64 _, .int .i64 _, .int .i64 _, .int .i64 _, .int .i64 _]) (by simp [results, Try.results58, go_sem]) rfl ⟨rfl, (by repeat (first | exact Below.refl _ _ | apply below_alloc | apply pw_below_drewN | apply below_drew1 | refine below_set ?_ (by simp; try omega)))⟩
  · rw [if_neg hc] at h
    have hb : (a0_0 == a1) = false := beq_eq_false_iff_ne.mpr hc
    clear hc
    simp only [Option.some.injEq, Prod.mk.injEq] at h
    obtain ⟨rfl, rfl, rfl, rfl, rfl⟩ := h
    go_enter Try.func58, Try.ntmps58
    go_wp2
    exact bodyPost_ret (v := .agg #[.int .i64 _, .int .i64 _, .int .i64 _, .int .i64 _, .int .i64 _]) (by simp [results, Try.results58, go_sem]) rfl ⟨rfl, (by repeat (first | exact Below.refl _ _ | apply below_alloc | apply pw_below_drewN | apply below_drew1 | refine below_set ?_ (by simp; try omega)))⟩
def spec_IsOpen.f (a0_0 : Int) (a0_1 : Int) (a0_2 : Int) (a0_3 : Int) (a0_4 : Int) : Option (Bool) := some (a0_4 == 0)
theorem spec_IsOpen.calls (a0_0 : Int) (a0_1 : Int) (a0_2 : Int) (a0_3 : Int) (a0_4 : Int) (r : Bool) (w : World) (h : spec_IsOpen.f a0_0 a0_1 a0_2 a0_3 a0_4 = some r) :
  Calls Try.prog 77 #[.agg #[.int .i64 a0_0, .int .i64 a0_1, .int .i64 a0_2, .int .i64 a0_3, .int .i64 a0_4]] w fun e w' => e = .returned (.bool r) ∧ Below w.heap.size w w' := by
 have hu95 := Try.underlying95
 have HB := dk (Below.refl w.heap.size w)
 have H : (some (a0_4 == 0)) = some r := h
 clear h
 obtain rfl := Option.some.inj H
 go_enter Try.func77, Try.ntmps77
 go_wp2_with (first | ((with_reducible refine gate_dst (N := 1) rfl ?_); refine bx (N := 1) (cs := #[.int .i64 a0_0, .int .i64 a0_1, .int .i64 a0_2, .int .i64 a0_3, .int .i64 a0_4]) (t := 95) ?_; intro gb871 hg w2 hbox hb; have BK871 := dk (hbox); have GW871 := gs hg HB; have GE871 := gs hg HB; replace HB := hs_ HB hb; clear hb hbox hg; have ⟨z3_0, z3_1, z3_2, z3_3, z3_4, v3_0, v3_1, v3_2, v3_3, v3_4⟩ := rz5 BK871))
 go_ret
 exact ⟨ee, bb HB⟩
end Go.Proofs.Ythfefanapneocaa.Q
section
namespace Go.Proofs.Ythfefanapneocaa.Q
open Go.RowKit Go.Proofs.YthfefanapneocaaW.PrintWords Go.Proofs.YthfefanapneocaaW.PrintLast Go.Proofs.YthfefanapneocaaW.PrintMore
attribute [local go_sem] max2_int min2_int max_two min_two max_three min_three max_four min_four
set_option linter.unusedVariables false
set_option linter.unusedSimpArgs false
set_option maxRecDepth 100000
set_option maxHeartbeats 8000000
mutual
def spec_Withdraw.j0 : Nat → Int → Int → Bool → List (S139) → Int → Int → Int → List Int → Bool → List (S95) → List Int → List Int → Option ((List (S139)) × Int × Int × Int × List Int × Bool × (List (S95)) × List Int × List Int × Bool)
 | 0, _, _, _, _, _, _, _, _, _, _, _, _ => none
 | k + 1, x1, x2, x27, x873000, x873001, x873002, x873003, x873004, x873005, x873006, x873007, x873008 => if x27 = true then (some (([] : List (S139)), 0, 0, 0, ([] : List Int), false, ([] : List (S95)), ([] : List Int), ([] : List Int), false)) else ((spec_l16Copy.f x873000 x873001 x873002 x873003 x873004 x873005 x873006 x873007 x873008).bind fun bt877 => (spec_Withdraw.l0 k x1 x2 (bt877.2.2.2.2.2.2.1.length : Int) 0 bt877.1 bt877.2.1 bt877.2.2.1 bt877.2.2.2.1 bt877.2.2.2.2.1 bt877.2.2.2.2.2.1 bt877.2.2.2.2.2.2.1 bt877.2.2.2.2.2.2.2.1 bt877.2.2.2.2.2.2.2.2))
def spec_Withdraw.l0 : Nat → Int → Int → Int → Int → List (S139) → Int → Int → Int → List Int → Bool → List (S95) → List Int → List Int → Option ((List (S139)) × Int × Int × Int × List Int × Bool × (List (S95)) × List Int × List Int × Bool)
 | 0, _, _, _, _, _, _, _, _, _, _, _, _, _ => none
 | k + 1, x1, x2, x33, x34, x897000, x897001, x897002, x897003, x897004, x897005, x897006, x897007, x897008 => if x34 < x33 then (if 0 ≤ x34 then (if x34 < (x897006.length : Int) then (if ((rd_T95 x897006 x34).f0) = x1 then (spec_Withdraw.j2 k x1 x2 x34 x33 x34 false x897000 x897001 x897002 x897003 x897004 x897005 x897006 x897007 x897008 ((rd_T95 x897006 x34).f0) ((rd_T95 x897006 x34).f1) ((rd_T95 x897006 x34).f2) ((rd_T95 x897006 x34).f3) ((rd_T95 x897006 x34).f4)) else (spec_Withdraw.j2 k x1 x2 x34 x33 x34 (((rd_T95 x897006 x34).f1) != x1) x897000 x897001 x897002 x897003 x897004 x897005 x897006 x897007 x897008 ((rd_T95 x897006 x34).f0) ((rd_T95 x897006 x34).f1) ((rd_T95 x897006 x34).f2) ((rd_T95 x897006 x34).f3) ((rd_T95 x897006 x34).f4))) else (none)) else (none)) else (some (x897000, x897001, x897002, x897003, x897004, x897005, x897006, x897007, x897008, true))
def spec_Withdraw.j2 : Nat → Int → Int → Int → Int → Int → Bool → List (S139) → Int → Int → Int → List Int → Bool → List (S95) → List Int → List Int → Int → Int → Int → Int → Int → Option ((List (S139)) × Int × Int × Int × List Int × Bool × (List (S95)) × List Int × List Int × Bool)
 | 0, _, _, _, _, _, _, _, _, _, _, _, _, _, _, _, _, _, _, _, _ => none
 | k + 1, x1, x2, x9, x33, x34, x48, x897000, x897001, x897002, x897003, x897004, x897005, x897006, x897007, x897008, x899000, x899001, x899002, x899003, x899004 => if x48 = true then (spec_Withdraw.l0 k x1 x2 x33 (wrap64 (x34 + 1)) x897000 x897001 x897002 x897003 x897004 x897005 x897006 x897007 x897008) else (if x2 = 1 then (if 0 ≤ x9 then (if x9 < (x897006.length : Int) then (spec_Withdraw.l0 k x1 x2 x33 (wrap64 (x34 + 1)) x897000 x897001 x897002 x897003 x897004 x897005 (x897006.set (x9 : Int).toNat (⟨x899000, x899001, 0, 0, 4⟩ : S95)) x897007 x897008) else (none)) else (none)) else ((spec_IsOpen.f x899000 x899001 x899002 x899003 x899004).bind fun t900 => (if t900 = true then ((spec_l21Award.f x899000 x899001 x899002 x899003 x899004 (wrap64 ((wrap64 (x899000 + x899001)) - x1))).bind fun bt901 => (if 0 ≤ x9 then (if x9 < (x897006.length : Int) then (spec_Withdraw.l0 k x1 x2 x33 (wrap64 (x34 + 1)) x897000 x897001 x897002 x897003 x897004 x897005 (x897006.set (x9 : Int).toNat (⟨bt901.1, bt901.2.1, bt901.2.2.1, bt901.2.2.2.1, bt901.2.2.2.2⟩ : S95)) x897007 x897008) else (none)) else (none))) else (spec_Withdraw.l0 k x1 x2 x33 (wrap64 (x34 + 1)) x897000 x897001 x897002 x897003 x897004 x897005 x897006 x897007 x897008))))
end
def spec_Withdraw.f (k : Nat) (l0_0 : List (S139)) (a0_1 : Int) (a0_2 : Int) (a0_3 : Int) (l0_4 : List Int) (a0_5 : Bool) (l0_6 : List (S95)) (l0_7 : List Int) (l0_8 : List Int) (a1 : Int) (a2 : Int) : Option ((List (S139)) × Int × Int × Int × List Int × Bool × (List (S95)) × List Int × List Int × Bool) := (spec_BookOk.f k l0_0 a0_1 a0_2 a0_3 l0_4 a0_5 l0_6 l0_7 l0_8).bind fun t874 => (if t874 = true then ((spec_l01In.f a1 0 (wrap64 ((l0_0.length : Int) - 1))).bind fun t875 => (if t875 = true then ((spec_l01In.f a2 1 2).bind fun t876 => (spec_Withdraw.j0 k a1 a2 (!t876) l0_0 a0_1 a0_2 a0_3 l0_4 a0_5 l0_6 l0_7 l0_8)) else (spec_Withdraw.j0 k a1 a2 true l0_0 a0_1 a0_2 a0_3 l0_4 a0_5 l0_6 l0_7 l0_8))) else (spec_Withdraw.j0 k a1 a2 true l0_0 a0_1 a0_2 a0_3 l0_4 a0_5 l0_6 l0_7 l0_8))
def spec_Withdraw.T11 : Bool × List (List Nat × List Nat) := (true, [([], []), ([0], [0]), ([], []), ([], []), ([], []), ([4], [4]), ([], []), ([6], [6]), ([5, 7], [5, 7]), ([], []), ([8, 9], [8, 9]), ([3, 10], [3, 10]), ([1, 2, 0, 1, 2, 3, 4, 5, 6, 7, 8, 9, 10, 11], [1, 2]), ([12, 11, 11, 0, 1, 2, 3, 4, 5, 6, 7, 8, 9, 10, 11], [11, 12])])
def spec_Withdraw.B11 : List Nat := [0, 1, 0, 0, 0, 16, 0, 64, 240, 0, 1008, 2040, 4095, 8191]
theorem spec_Withdraw.tab11 : rtab .any (opsOf Try.f24 11) = spec_Withdraw.T11 := by kernel_rfl
theorem spec_Withdraw.bits11 : waitsOk spec_Withdraw.T11.2 spec_Withdraw.B11 = true := by kernel_rfl
theorem spec_Withdraw.calls (k : Nat) (A0_0 : Option Addr) (c0_0 : Nat) (l0_0 : List (S139)) (a0_1 : Int) (a0_2 : Int) (a0_3 : Int) (A0_4 : Option Addr) (c0_4 : Nat) (l0_4 : List Int) (a0_5 : Bool) (A0_6 : Option Addr) (c0_6 : Nat) (l0_6 : List (S95)) (A0_7 : Option Addr) (c0_7 : Nat) (l0_7 : List Int) (A0_8 : Option Addr) (c0_8 : Nat) (l0_8 : List Int) (a1 : Int) (a2 : Int) (r1 : List (S139)) (r2 : Int) (r3 : Int) (r4 : Int) (r5 : List Int) (r6 : Bool) (r7 : List (S95)) (r8 : List Int) (r9 : List Int) (r10 : Bool) (w : World) (hr0_0 : Kd.C k139 w A0_0 l0_0.length l0_0) (hc0_0 : l0_0.length ≤ c0_0) (hr0_4 : Kd.C (Kd.int .i64) w A0_4 l0_4.length l0_4) (hc0_4 : l0_4.length ≤ c0_4) (hr0_6 : Kd.C k95 w A0_6 l0_6.length l0_6) (hc0_6 : l0_6.length ≤ c0_6) (hr0_7 : Kd.C (Kd.int .i64) w A0_7 l0_7.length l0_7) (hc0_7 : l0_7.length ≤ c0_7) (hr0_8 : Kd.C (Kd.int .i64) w A0_8 l0_8.length l0_8) (hc0_8 : l0_8.length ≤ c0_8) (h : spec_Withdraw.f k l0_0 a0_1 a0_2 a0_3 l0_4 a0_5 l0_6 l0_7 l0_8 a1 a2 = some (r1, r2, r3, r4, r5, r6, r7, r8, r9, r10)) :
  Calls Try.prog 24 #[.agg #[.slice A0_0 l0_0.length c0_0, .int .i64 a0_1, .int .i64 a0_2, .int .i64 a0_3, .slice A0_4 l0_4.length c0_4, .bool a0_5, .slice A0_6 l0_6.length c0_6, .slice A0_7 l0_7.length c0_7, .slice A0_8 l0_8.length c0_8], .int .i64 a1, .int .i64 a2] w fun e w' => ∃ v0_ v4_ v6_ v7_ v8_ : Value, e = .returned (.tuple #[.agg #[v0_, .int .i64 r2, .int .i64 r3, .int .i64 r4, v4_, .bool r6, v6_, v7_, v8_], .bool r10]) ∧ Kd.R k139 139 w' w.heap.size (fun _ => True) v0_ r1 ∧ Kd.R (Kd.int .i64) 3 w' w.heap.size (fun k_ => some k_ ≠ (v7_ : Value).ownBlock ∧ some k_ ≠ (v8_ : Value).ownBlock) v4_ r5 ∧ Kd.R k95 95 w' w.heap.size (fun _ => True) v6_ r7 ∧ Kd.R (Kd.int .i64) 3 w' w.heap.size (fun k_ => some k_ ≠ (v4_ : Value).ownBlock ∧ some k_ ≠ (v8_ : Value).ownBlock) v7_ r8 ∧ Kd.R (Kd.int .i64) 3 w' w.heap.size (fun k_ => some k_ ≠ (v4_ : Value).ownBlock ∧ some k_ ≠ (v7_ : Value).ownBlock) v8_ r9 ∧ Below w.heap.size w w' := by
 have hu36 := Try.underlying36
 have hu95 := Try.underlying95
 have HR0_0 := dk hr0_0
 have HC0_0 := dk hc0_0
 clear hr0_0 hc0_0
 have HR0_4 := dk hr0_4
 have HC0_4 := dk hc0_4
 clear hr0_4 hc0_4
 have HR0_6 := dk hr0_6
 have HC0_6 := dk hc0_6
 clear hr0_6 hc0_6
 have HR0_7 := dk hr0_7
 have HC0_7 := dk hc0_7
 clear hr0_7 hc0_7
 have HR0_8 := dk hr0_8
 have HC0_8 := dk hc0_8
 clear hr0_8 hc0_8
 have HB := dk (Below.refl w.heap.size w)
 have H : ((spec_BookOk.f k l0_0 a0_1 a0_2 a0_3 l0_4 a0_5 l0_6 l0_7 l0_8).bind fun t874 => (if t874 = true then ((spec_l01In.f a1 0 (wrap64 ((l0_0.length : Int) - 1))).bind fun t875 => (if t875 = true then ((spec_l01In.f a2 1 2).bind fun t876 => (spec_Withdraw.j0 k a1 a2 (!t876) l0_0 a0_1 a0_2 a0_3 l0_4 a0_5 l0_6 l0_7 l0_8)) else (spec_Withdraw.j0 k a1 a2 true l0_0 a0_1 a0_2 a0_3 l0_4 a0_5 l0_6 l0_7 l0_8))) else (spec_Withdraw.j0 k a1 a2 true l0_0 a0_1 a0_2 a0_3 l0_4 a0_5 l0_6 l0_7 l0_8))) = some (r1, r2, r3, r4, r5, r6, r7, r8, r9, r10) := h
 clear h
 have HC4 := dk H
 clear H
 go_enter Try.func24, Try.ntmps24
 go_upto_region 1 with (first | ((with_reducible refine gate_dst (N := 3) rfl ?_); (try (refine gate_guard (by rfl) ?_; dsimp only)); refine bx (N := 3) (cs := #[.slice A0_0 l0_0.length c0_0, .int .i64 a0_1, .int .i64 a0_2, .int .i64 a0_3, .slice A0_4 l0_4.length c0_4, .bool a0_5, .slice A0_6 l0_6.length c0_6, .slice A0_7 l0_7.length c0_7, .slice A0_8 l0_8.length c0_8]) (t := 36) ?_; intro gb872 hg w5 hbox hb; have BK872 := dk (hbox); have GW872 := gs hg HB; have GE872 := gs hg HB; replace HB := hs_ HB hb; clear hb hbox hg) | ((with_reducible refine gate_dst (N := 6) rfl ?_); (try (refine gate_guard (by rfl) ?_; dsimp only)); refine bx (N := 6) (cs := #[.slice none 0 0, .int .i64 0, .int .i64 0, .int .i64 0, .slice none 0 0, .bool false, .slice none 0 0, .slice none 0 0, .slice none 0 0]) (t := 36) ?_; intro gb873 hg w6 hbox hb; have BK873 := dk (hbox); have GW873 := gs hg HB; have GE873 := gs hg HB; replace HB := hs_ HB hb; have NB872_873 := gn hg BK872; have NB873_872 := gm hg BK872; replace BK872 := kb BK872 hb; clear hb hbox hg))
 (try simp only [Act.put, List.setIfInBounds_toArray, List.set_cons_zero, List.set_cons_succ])
 go_cut [27] (fun v27 wc => ∃ (kq : Nat) (x27_3 : Bool), v27 = .bool x27_3 ∧ Aside0 (spec_Withdraw.j0 kq a1 a2 x27_3 l0_0 a0_1 a0_2 a0_3 l0_4 a0_5 l0_6 l0_7 l0_8 = some (r1, r2, r3, r4, r5, r6, r7, r8, r9, r10)) ∧ Aside0 (kq ≤ k) ∧ Aside0 (wc.heap[gb872]? = some (.cells #[(.slice A0_0 l0_0.length c0_0), .int .i64 a0_1, .int .i64 a0_2, .int .i64 a0_3, (.slice A0_4 l0_4.length c0_4), .bool a0_5, (.slice A0_6 l0_6.length c0_6), (.slice A0_7 l0_7.length c0_7), (.slice A0_8 l0_8.length c0_8)] 36 (0, 0))) ∧ Aside0 (wc.heap[gb873]? = some (.cells #[(.slice none 0 0), .int .i64 0, .int .i64 0, .int .i64 0, (.slice none 0 0), .bool false, (.slice none 0 0), (.slice none 0 0), (.slice none 0 0)] 36 (0, 0))) ∧ Aside0 (Below w.heap.size w wc))
 case first =>
  have H := HC4.out
  clear HC4
  replace H := Option.bind_eq_some_iff.mp H
  obtain ⟨t874, A70, H⟩ := H
  replace H : (if t874 = true then ((spec_l01In.f a1 0 (wrap64 ((l0_0.length : Int) - 1))).bind fun t875 => (if t875 = true then ((spec_l01In.f a2 1 2).bind fun t876 => (spec_Withdraw.j0 k a1 a2 (!t876) l0_0 a0_1 a0_2 a0_3 l0_4 a0_5 l0_6 l0_7 l0_8)) else (spec_Withdraw.j0 k a1 a2 true l0_0 a0_1 a0_2 a0_3 l0_4 a0_5 l0_6 l0_7 l0_8))) else (spec_Withdraw.j0 k a1 a2 true l0_0 a0_1 a0_2 a0_3 l0_4 a0_5 l0_6 l0_7 l0_8)) = some (r1, r2, r3, r4, r5, r6, r7, r8, r9, r10) := H
  have A7 := dk A70
  clear A70
  by_cases c8 : t874 = true
  ·subst c8
   have H1 : ((spec_l01In.f a1 0 (wrap64 ((l0_0.length : Int) - 1))).bind fun t875 => (if t875 = true then ((spec_l01In.f a2 1 2).bind fun t876 => (spec_Withdraw.j0 k a1 a2 (!t876) l0_0 a0_1 a0_2 a0_3 l0_4 a0_5 l0_6 l0_7 l0_8)) else (spec_Withdraw.j0 k a1 a2 true l0_0 a0_1 a0_2 a0_3 l0_4 a0_5 l0_6 l0_7 l0_8))) = some (r1, r2, r3, r4, r5, r6, r7, r8, r9, r10) := by rw [if_pos rfl] at H; exact H
   clear H
   have H := H1
   clear H1
   replace H := Option.bind_eq_some_iff.mp H
   obtain ⟨t875, A90, H⟩ := H
   replace H : (if t875 = true then ((spec_l01In.f a2 1 2).bind fun t876 => (spec_Withdraw.j0 k a1 a2 (!t876) l0_0 a0_1 a0_2 a0_3 l0_4 a0_5 l0_6 l0_7 l0_8)) else (spec_Withdraw.j0 k a1 a2 true l0_0 a0_1 a0_2 a0_3 l0_4 a0_5 l0_6 l0_7 l0_8)) = some (r1, r2, r3, r4, r5, r6, r7, r8, r9, r10) := H
   have A9 := dk A90
   clear A90
   by_cases c10 : t875 = true
   ·subst c10
    have H1 : ((spec_l01In.f a2 1 2).bind fun t876 => (spec_Withdraw.j0 k a1 a2 (!t876) l0_0 a0_1 a0_2 a0_3 l0_4 a0_5 l0_6 l0_7 l0_8)) = some (r1, r2, r3, r4, r5, r6, r7, r8, r9, r10) := by rw [if_pos rfl] at H; exact H
    clear H
    have H := H1
    clear H1
    replace H := Option.bind_eq_some_iff.mp H
    obtain ⟨t876, A110, H⟩ := H
    replace H : (spec_Withdraw.j0 k a1 a2 (!t876) l0_0 a0_1 a0_2 a0_3 l0_4 a0_5 l0_6 l0_7 l0_8) = some (r1, r2, r3, r4, r5, r6, r7, r8, r9, r10) := H
    have A11 := dk A110
    clear A110
    have H' := dk H
    clear H
    have hnb12 := NB872_873.out
    have hnc12 := NB873_872.out
    have ⟨z13_0, z13_1, z13_2, z13_3, z13_4, z13_5, z13_6, z13_7, z13_8, v13_0, v13_1, v13_2, v13_3, v13_4, v13_5, v13_6, v13_7, v13_8⟩ := rz9 BK872
    go_wp2_with (first | ((with_reducible refine gate_callee (f := 55) rfl ?_); refine gl (some 12) Try.func55 #[.agg #[.slice A0_0 l0_0.length c0_0, .int .i64 a0_1, .int .i64 a0_2, .int .i64 a0_3, .slice A0_4 l0_4.length c0_4, .bool a0_5, .slice A0_6 l0_6.length c0_6, .slice A0_7 l0_7.length c0_7, .slice A0_8 l0_8.length c0_8]] ?_; (with_reducible refine (spec_BookOk.calls k _ _ l0_0 a0_1 a0_2 a0_3 _ _ l0_4 a0_5 _ _ l0_6 _ _ l0_7 _ _ l0_8 true _ ?side1 ?side2 ?side3 ?side4 ?side5 ?side6 ?side7 ?side8 ?side9 ?side10 A7.out).mono ?_); (case side1 => exact cc HR0_0 HB); (case side2 => exact HC0_0.out); (case side3 => exact cc HR0_4 HB); (case side4 => exact HC0_4.out); (case side5 => exact cc HR0_6 HB); (case side6 => exact HC0_6.out); (case side7 => exact cc HR0_7 HB); (case side8 => exact HC0_7.out); (case side9 => exact cc HR0_8 HB); (case side10 => exact HC0_8.out); rintro e w14 ⟨rfl, hb⟩; refine ⟨_, rfl, ?_⟩; replace BK872 := kb BK872 hb; replace BK873 := kb BK873 hb; replace HB := hs_ HB hb; (try clear hb hb2 hk hi); have ⟨z15_0, z15_1, z15_2, z15_3, z15_4, z15_5, z15_6, z15_7, z15_8, v15_0, v15_1, v15_2, v15_3, v15_4, v15_5, v15_6, v15_7, v15_8⟩ := rz9 BK872) | (go_at_call 76; (with_reducible refine (spec_l01In.calls a1 0 (wrap64 ((l0_0.length : Int) - 1)) true _ A9.out).mono ?_); rintro e w' ⟨rfl, ⟨nd, rfl⟩⟩) | (go_at_call 76; (with_reducible refine (spec_l01In.calls a2 1 2 t876 _ A11.out).mono ?_); rintro e w' ⟨rfl, ⟨nd, rfl⟩⟩))
    go_meet
    case rel => exact ⟨_, (!t876), e2_, H', ⟨by first | omega | exact Nat.le_refl _⟩, ⟨bk BK872⟩, ⟨bk BK873⟩, ⟨bb HB⟩⟩
   ·replace c10 := Bool.eq_false_iff.mpr c10
    subst c10
    have H1 : (spec_Withdraw.j0 k a1 a2 true l0_0 a0_1 a0_2 a0_3 l0_4 a0_5 l0_6 l0_7 l0_8) = some (r1, r2, r3, r4, r5, r6, r7, r8, r9, r10) := by rw [if_neg (show ¬ (false = true) by decide)] at H; exact H
    clear H
    have H := H1
    clear H1
    have H' := dk H
    clear H
    have hnb16 := NB872_873.out
    have hnc16 := NB873_872.out
    have ⟨z17_0, z17_1, z17_2, z17_3, z17_4, z17_5, z17_6, z17_7, z17_8, v17_0, v17_1, v17_2, v17_3, v17_4, v17_5, v17_6, v17_7, v17_8⟩ := rz9 BK872
    go_wp2_with (first | ((with_reducible refine gate_callee (f := 55) rfl ?_); refine gl (some 12) Try.func55 #[.agg #[.slice A0_0 l0_0.length c0_0, .int .i64 a0_1, .int .i64 a0_2, .int .i64 a0_3, .slice A0_4 l0_4.length c0_4, .bool a0_5, .slice A0_6 l0_6.length c0_6, .slice A0_7 l0_7.length c0_7, .slice A0_8 l0_8.length c0_8]] ?_; (with_reducible refine (spec_BookOk.calls k _ _ l0_0 a0_1 a0_2 a0_3 _ _ l0_4 a0_5 _ _ l0_6 _ _ l0_7 _ _ l0_8 true _ ?side1 ?side2 ?side3 ?side4 ?side5 ?side6 ?side7 ?side8 ?side9 ?side10 A7.out).mono ?_); (case side1 => exact cc HR0_0 HB); (case side2 => exact HC0_0.out); (case side3 => exact cc HR0_4 HB); (case side4 => exact HC0_4.out); (case side5 => exact cc HR0_6 HB); (case side6 => exact HC0_6.out); (case side7 => exact cc HR0_7 HB); (case side8 => exact HC0_7.out); (case side9 => exact cc HR0_8 HB); (case side10 => exact HC0_8.out); rintro e w18 ⟨rfl, hb⟩; refine ⟨_, rfl, ?_⟩; replace BK872 := kb BK872 hb; replace BK873 := kb BK873 hb; replace HB := hs_ HB hb; (try clear hb hb2 hk hi); have ⟨z19_0, z19_1, z19_2, z19_3, z19_4, z19_5, z19_6, z19_7, z19_8, v19_0, v19_1, v19_2, v19_3, v19_4, v19_5, v19_6, v19_7, v19_8⟩ := rz9 BK872) | (go_at_call 76; (with_reducible refine (spec_l01In.calls a1 0 (wrap64 ((l0_0.length : Int) - 1)) false _ A9.out).mono ?_); rintro e w' ⟨rfl, ⟨nd, rfl⟩⟩))
    go_meet
    case rel => exact ⟨_, (true), e2_, H', ⟨by first | omega | exact Nat.le_refl _⟩, ⟨bk BK872⟩, ⟨bk BK873⟩, ⟨bb HB⟩⟩
  ·replace c8 := Bool.eq_false_iff.mpr c8
   subst c8
   have H1 : (spec_Withdraw.j0 k a1 a2 true l0_0 a0_1 a0_2 a0_3 l0_4 a0_5 l0_6 l0_7 l0_8) = some (r1, r2, r3, r4, r5, r6, r7, r8, r9, r10) := by rw [if_neg (show ¬ (false = true) by decide)] at H; exact H
   clear H
   have H := H1
   clear H1
   have H' := dk H
   clear H
   have hnb20 := NB872_873.out
   have hnc20 := NB873_872.out
   have ⟨z21_0, z21_1, z21_2, z21_3, z21_4, z21_5, z21_6, z21_7, z21_8, v21_0, v21_1, v21_2, v21_3, v21_4, v21_5, v21_6, v21_7, v21_8⟩ := rz9 BK872
   go_wp2_with (first | ((with_reducible refine gate_callee (f := 55) rfl ?_); refine gl (some 12) Try.func55 #[.agg #[.slice A0_0 l0_0.length c0_0, .int .i64 a0_1, .int .i64 a0_2, .int .i64 a0_3, .slice A0_4 l0_4.length c0_4, .bool a0_5, .slice A0_6 l0_6.length c0_6, .slice A0_7 l0_7.length c0_7, .slice A0_8 l0_8.length c0_8]] ?_; (with_reducible refine (spec_BookOk.calls k _ _ l0_0 a0_1 a0_2 a0_3 _ _ l0_4 a0_5 _ _ l0_6 _ _ l0_7 _ _ l0_8 false _ ?side1 ?side2 ?side3 ?side4 ?side5 ?side6 ?side7 ?side8 ?side9 ?side10 A7.out).mono ?_); (case side1 => exact cc HR0_0 HB); (case side2 => exact HC0_0.out); (case side3 => exact cc HR0_4 HB); (case side4 => exact HC0_4.out); (case side5 => exact cc HR0_6 HB); (case side6 => exact HC0_6.out); (case side7 => exact cc HR0_7 HB); (case side8 => exact HC0_7.out); (case side9 => exact cc HR0_8 HB); (case side10 => exact HC0_8.out); rintro e w22 ⟨rfl, hb⟩; refine ⟨_, rfl, ?_⟩; replace BK872 := kb BK872 hb; replace BK873 := kb BK873 hb; replace HB := hs_ HB hb; (try clear hb hb2 hk hi)))
   go_meet
   case rel => exact ⟨_, (true), e2_, H', ⟨by first | omega | exact Nat.le_refl _⟩, ⟨bk BK872⟩, ⟨bk BK873⟩, ⟨bb HB⟩⟩
 case rest =>
  clear HC4
  (try clear c1)
  (try clear c2)
  (try clear p2)
  (try clear c5)
  (try clear p6)
  (try clear c8)
  (try clear c10)
  (try clear c12)
  (try clear c16)
  (try clear c20)
  (try clear z13_0 z13_1 z13_2 z13_3 z13_4 z13_5 z13_6 z13_7 z13_8)
  (try clear z15_0 z15_1 z15_2 z15_3 z15_4 z15_5 z15_6 z15_7 z15_8)
  (try clear z17_0 z17_1 z17_2 z17_3 z17_4 z17_5 z17_6 z17_7 z17_8)
  (try clear z19_0 z19_1 z19_2 z19_3 z19_4 z19_5 z19_6 z19_7 z19_8)
  (try clear z21_0 z21_1 z21_2 z21_3 z21_4 z21_5 z21_6 z21_7 z21_8)
  (try clear v13_0 v13_1 v13_2 v13_3 v13_4 v13_5 v13_6 v13_7 v13_8)
  (try clear v15_0 v15_1 v15_2 v15_3 v15_4 v15_5 v15_6 v15_7 v15_8)
  (try clear v17_0 v17_1 v17_2 v17_3 v17_4 v17_5 v17_6 v17_7 v17_8)
  (try clear v19_0 v19_1 v19_2 v19_3 v19_4 v19_5 v19_6 v19_7 v19_8)
  (try clear v21_0 v21_1 v21_2 v21_3 v21_4 v21_5 v21_6 v21_7 v21_8)
  obtain ⟨kq, x27_3, rfl, HA, HJ3, BK872, BK873, HB⟩ := hcut
  cases kq with
  | zero => exact absurd HA.out (by simp [spec_Withdraw.j0])
  | succ kj3 =>
   have H := HA.out
   clear HA
   simp only [spec_Withdraw.j0] at H
   by_cases c23 : x27_3 = true
   ·subst c23
    have H1 : (some (([] : List (S139)), 0, 0, 0, ([] : List Int), false, ([] : List (S95)), ([] : List Int), ([] : List Int), false)) = some (r1, r2, r3, r4, r5, r6, r7, r8, r9, r10) := by rw [if_pos rfl] at H; exact H
    clear H
    have H := H1
    clear H1
    simp only [Option.some.injEq, Prod.mk.injEq] at H
    obtain ⟨rfl, rfl, rfl, rfl, rfl, rfl, rfl, rfl, rfl, rfl⟩ := H
    have hnb24 := NB873_872.out
    have hnc24 := NB872_873.out
    have ⟨z25_0, z25_1, z25_2, z25_3, z25_4, z25_5, z25_6, z25_7, z25_8, v25_0, v25_1, v25_2, v25_3, v25_4, v25_5, v25_6, v25_7, v25_8⟩ := rz9 BK873
    go_wp2
    refine bodyPost_ret (results_ct rfl _ _ gb873 36 #[.slice none 0 0, .int .i64 0, .int .i64 0, .int .i64 0, .slice none 0 0, .bool false, .slice none 0 0, .slice none 0 0, .slice none 0 0] (0, 0) _ rfl (bp BK873) Try.underlying36 rfl (by kernel_rfl)) rfl ?_
    exact ⟨_, _, _, _, _, ee, by first | exact Kd.R_nil _ _ _ _ _ | exact Kd.N_nil _ _ _ _ _ | exact Kd.V_nil _ _ _ _ _ | exact Kd.Q_nil _ _ _ _ _ | exact Kd.S_nil _ _ _ _ _, by first | exact Kd.R_nil _ _ _ _ _ | exact Kd.N_nil _ _ _ _ _ | exact Kd.V_nil _ _ _ _ _ | exact Kd.Q_nil _ _ _ _ _ | exact Kd.S_nil _ _ _ _ _, by first | exact Kd.R_nil _ _ _ _ _ | exact Kd.N_nil _ _ _ _ _ | exact Kd.V_nil _ _ _ _ _ | exact Kd.Q_nil _ _ _ _ _ | exact Kd.S_nil _ _ _ _ _, by first | exact Kd.R_nil _ _ _ _ _ | exact Kd.N_nil _ _ _ _ _ | exact Kd.V_nil _ _ _ _ _ | exact Kd.Q_nil _ _ _ _ _ | exact Kd.S_nil _ _ _ _ _, by first | exact Kd.R_nil _ _ _ _ _ | exact Kd.N_nil _ _ _ _ _ | exact Kd.V_nil _ _ _ _ _ | exact Kd.Q_nil _ _ _ _ _ | exact Kd.S_nil _ _ _ _ _, bb HB⟩
   ·replace c23 := Bool.eq_false_iff.mpr c23
    subst c23
    have H1 : ((spec_l16Copy.f l0_0 a0_1 a0_2 a0_3 l0_4 a0_5 l0_6 l0_7 l0_8).bind fun bt877 => (spec_Withdraw.l0 kj3 a1 a2 (bt877.2.2.2.2.2.2.1.length : Int) 0 bt877.1 bt877.2.1 bt877.2.2.1 bt877.2.2.2.1 bt877.2.2.2.2.1 bt877.2.2.2.2.2.1 bt877.2.2.2.2.2.2.1 bt877.2.2.2.2.2.2.2.1 bt877.2.2.2.2.2.2.2.2)) = some (r1, r2, r3, r4, r5, r6, r7, r8, r9, r10) := by rw [if_neg (show ¬ (false = true) by decide)] at H; exact H
    clear H
    have H := H1
    clear H1
    replace H := Option.bind_eq_some_iff.mp H
    obtain ⟨⟨t877, t880, t881, t882, t883, t886, t887, t890, t893⟩, A260, H⟩ := H
    replace H : (spec_Withdraw.l0 kj3 a1 a2 (t887.length : Int) 0 t877 t880 t881 t882 t883 t886 t887 t890 t893) = some (r1, r2, r3, r4, r5, r6, r7, r8, r9, r10) := H
    have A26 := dk A260
    clear A260
    have H' := dk H
    clear H
    have hnb27 := NB872_873.out
    have hnc27 := NB873_872.out
    have ⟨z28_0, z28_1, z28_2, z28_3, z28_4, z28_5, z28_6, z28_7, z28_8, v28_0, v28_1, v28_2, v28_3, v28_4, v28_5, v28_6, v28_7, v28_8⟩ := rz9 BK872
    go_wp2_with (first | ((with_reducible refine gate_callee (f := 56) rfl ?_); refine gl (some 30) Try.func56 #[.agg #[.slice A0_0 l0_0.length c0_0, .int .i64 a0_1, .int .i64 a0_2, .int .i64 a0_3, .slice A0_4 l0_4.length c0_4, .bool a0_5, .slice A0_6 l0_6.length c0_6, .slice A0_7 l0_7.length c0_7, .slice A0_8 l0_8.length c0_8]] ?_; (with_reducible refine (spec_l16Copy.calls _ _ l0_0 a0_1 a0_2 a0_3 _ _ l0_4 a0_5 _ _ l0_6 _ _ l0_7 _ _ l0_8 t877 t880 t881 t882 t883 t886 t887 t890 t893 _ ?side1 ?side2 ?side3 ?side4 ?side5 ?side6 ?side7 ?side8 ?side9 ?side10 A26.out).mono ?_); (case side1 => exact cc HR0_0 HB); (case side2 => exact HC0_0.out); (case side3 => exact cc HR0_4 HB); (case side4 => exact HC0_4.out); (case side5 => exact cc HR0_6 HB); (case side6 => exact HC0_6.out); (case side7 => exact cc HR0_7 HB); (case side8 => exact HC0_7.out); (case side9 => exact cc HR0_8 HB); (case side10 => exact HC0_8.out); rintro e w29 ⟨v878, v884, v888, v891, v894, rfl, ho0, ho1, ho2, ho3, ho4, hb⟩; refine ⟨_, rfl, ?_⟩; have HO879 := kl ho0 HB; have HO885 := kl ho1 HB; have HO889 := kl ho2 HB; have HO892 := kl ho3 HB; have HO895 := kl ho4 HB; replace BK872 := kb BK872 hb; replace BK873 := kb BK873 hb; replace HB := hs_ HB hb; (try clear hb hb2 hk hi ho0 ho1 ho2 ho3 ho4)) | ((with_reducible refine gate_dst (N := 8) rfl ?_); (try (refine gate_guard (by rfl) ?_; dsimp only)); refine bx (N := 8) (cs := #[.slice none 0 0, .int .i64 0, .int .i64 0, .int .i64 0, .slice none 0 0, .bool false, .slice none 0 0, .slice none 0 0, .slice none 0 0]) (t := 36) ?_; intro gb896 hg w30 hbox hb; replace HO879 := kr HO879 hb; replace HO885 := kr HO885 hb; replace HO889 := kr HO889 hb; replace HO892 := kr HO892 hb; replace HO895 := kr HO895 hb; have BK896 := dk (hbox); have GW896 := gs hg HB; have GE896 := gs hg HB; replace HB := hs_ HB hb; have NB872_896 := gn hg BK872; have NB896_872 := gm hg BK872; replace BK872 := kb BK872 hb; have NB873_896 := gn hg BK873; have NB896_873 := gm hg BK873; replace BK873 := kb BK873 hb; clear hb hbox hg; obtain ⟨Ao31, co31, eo31⟩ := Kd.R_slice HO879.out; subst eo31; have hnb32 := NB896_872.out; have hnc32 := NB872_896.out; have hnb33 := NB896_873.out; have hnc33 := NB873_896.out; have ⟨z34_0, z34_1, z34_2, z34_3, z34_4, z34_5, z34_6, z34_7, z34_8, v34_0, v34_1, v34_2, v34_3, v34_4, v34_5, v34_6, v34_7, v34_8⟩ := rz9 BK896; obtain ⟨Ao35, co35, eo35⟩ := Kd.R_slice HO885.out; subst eo35; obtain ⟨Ao36, co36, eo36⟩ := Kd.R_slice HO889.out; subst eo36; obtain ⟨Ao37, co37, eo37⟩ := Kd.R_slice HO892.out; subst eo37; obtain ⟨Ao38, co38, eo38⟩ := Kd.R_slice HO895.out; subst eo38))
    go_loopg [34] kj3 (fun kq v34 w' => ∃ (x34_2 : Int) (x897006_2 : List (S95)), v34 = .int .i64 x34_2 ∧ Aside0 (spec_Withdraw.l0 kq a1 a2 (t887.length : Int) x34_2 t877 t880 t881 t882 t883 t886 x897006_2 t890 t893 = some (r1, r2, r3, r4, r5, r6, r7, r8, r9, r10)) ∧ Aside0 (kq ≤ kj3) ∧ Aside0 (Kd.R k139 139 w' w.heap.size (fun _ => True) (.slice Ao31 t877.length co31) t877) ∧ Aside0 (Kd.R (Kd.int .i64) 3 w' w.heap.size (fun k_ => nb k_ Ao37 t890.length co37 ∧ nb k_ Ao38 t893.length co38) (.slice Ao35 t883.length co35) t883) ∧ Aside0 (Kd.R k95 95 w' w.heap.size (fun _ => True) (.slice Ao36 t887.length co36) x897006_2) ∧ Aside0 (Kd.R (Kd.int .i64) 3 w' w.heap.size (fun k_ => nb k_ Ao35 t883.length co35 ∧ nb k_ Ao38 t893.length co38) (.slice Ao37 t890.length co37) t890) ∧ Aside0 (Kd.R (Kd.int .i64) 3 w' w.heap.size (fun k_ => nb k_ Ao35 t883.length co35 ∧ nb k_ Ao37 t890.length co37) (.slice Ao38 t893.length co38) t893) ∧ Aside0 (w'.heap[gb872]? = some (.cells #[(.slice A0_0 l0_0.length c0_0), .int .i64 a0_1, .int .i64 a0_2, .int .i64 a0_3, (.slice A0_4 l0_4.length c0_4), .bool a0_5, (.slice A0_6 l0_6.length c0_6), (.slice A0_7 l0_7.length c0_7), (.slice A0_8 l0_8.length c0_8)] 36 (0, 0))) ∧ Aside0 (w'.heap[gb873]? = some (.cells #[(.slice none 0 0), .int .i64 0, .int .i64 0, .int .i64 0, (.slice none 0 0), .bool false, (.slice none 0 0), (.slice none 0 0), (.slice none 0 0)] 36 (0, 0))) ∧ Aside0 (w'.heap[gb896]? = some (.cells #[(.slice Ao31 t877.length co31), .int .i64 t880, .int .i64 t881, .int .i64 t882, (.slice Ao35 t883.length co35), .bool t886, (.slice Ao36 t887.length co36), (.slice Ao37 t890.length co37), (.slice Ao38 t893.length co38)] 36 (0, 0))) ∧ Aside0 (Below w.heap.size w w'))
    case atStart => exact ⟨(0), (t887), e2_, H', ⟨Nat.le_refl _⟩, ⟨rf HO879 BK896 (fun _ hk => trivial)⟩, ⟨rf HO885 BK896 (fun _ hk => ⟨hk.1.1, hk.1.2⟩)⟩, ⟨rf HO889 BK896 (fun _ hk => trivial)⟩, ⟨rf HO892 BK896 (fun _ hk => ⟨hk.1.1, hk.1.2⟩)⟩, ⟨rf HO895 BK896 (fun _ hk => ⟨hk.1.1, hk.1.2⟩)⟩, ⟨bf NB872_896.out BK872⟩, ⟨bf NB873_896.out BK873⟩, ⟨by (with_reducible repeat (first | refine blk_drewN ?_ _ | refine blk_drew ?_ | refine blk_alloc ?_ _)); refine blk_put (cs := #[.slice Ao31 t877.length co31, .int .i64 t880, .int .i64 t881, .int .i64 t882, .slice Ao35 t883.length co35, .bool t886, .slice Ao36 t887.length co36, .slice Ao37 t890.length co37, .slice none 0 0]) ?_ 8 _ rfl; (with_reducible repeat (first | refine blk_drewN ?_ _ | refine blk_drew ?_ | refine blk_alloc ?_ _)); refine blk_put (cs := #[.slice Ao31 t877.length co31, .int .i64 t880, .int .i64 t881, .int .i64 t882, .slice Ao35 t883.length co35, .bool t886, .slice Ao36 t887.length co36, .slice none 0 0, .slice none 0 0]) ?_ 7 _ rfl; (with_reducible repeat (first | refine blk_drewN ?_ _ | refine blk_drew ?_ | refine blk_alloc ?_ _)); refine blk_put (cs := #[.slice Ao31 t877.length co31, .int .i64 t880, .int .i64 t881, .int .i64 t882, .slice Ao35 t883.length co35, .bool t886, .slice none 0 0, .slice none 0 0, .slice none 0 0]) ?_ 6 _ rfl; (with_reducible repeat (first | refine blk_drewN ?_ _ | refine blk_drew ?_ | refine blk_alloc ?_ _)); refine blk_put (cs := #[.slice Ao31 t877.length co31, .int .i64 t880, .int .i64 t881, .int .i64 t882, .slice Ao35 t883.length co35, .bool false, .slice none 0 0, .slice none 0 0, .slice none 0 0]) ?_ 5 _ rfl; (with_reducible repeat (first | refine blk_drewN ?_ _ | refine blk_drew ?_ | refine blk_alloc ?_ _)); refine blk_put (cs := #[.slice Ao31 t877.length co31, .int .i64 t880, .int .i64 t881, .int .i64 t882, .slice none 0 0, .bool false, .slice none 0 0, .slice none 0 0, .slice none 0 0]) ?_ 4 _ rfl; (with_reducible repeat (first | refine blk_drewN ?_ _ | refine blk_drew ?_ | refine blk_alloc ?_ _)); refine blk_put (cs := #[.slice Ao31 t877.length co31, .int .i64 t880, .int .i64 t881, .int .i64 0, .slice none 0 0, .bool false, .slice none 0 0, .slice none 0 0, .slice none 0 0]) ?_ 3 _ rfl; (with_reducible repeat (first | refine blk_drewN ?_ _ | refine blk_drew ?_ | refine blk_alloc ?_ _)); refine blk_put (cs := #[.slice Ao31 t877.length co31, .int .i64 t880, .int .i64 0, .int .i64 0, .slice none 0 0, .bool false, .slice none 0 0, .slice none 0 0, .slice none 0 0]) ?_ 2 _ rfl; (with_reducible repeat (first | refine blk_drewN ?_ _ | refine blk_drew ?_ | refine blk_alloc ?_ _)); refine blk_put (cs := #[.slice Ao31 t877.length co31, .int .i64 0, .int .i64 0, .int .i64 0, .slice none 0 0, .bool false, .slice none 0 0, .slice none 0 0, .slice none 0 0]) ?_ 1 _ rfl; (with_reducible repeat (first | refine blk_drewN ?_ _ | refine blk_drew ?_ | refine blk_alloc ?_ _)); refine blk_put (cs := #[.slice none 0 0, .int .i64 0, .int .i64 0, .int .i64 0, .slice none 0 0, .bool false, .slice none 0 0, .slice none 0 0, .slice none 0 0]) ?_ 0 _ rfl; (with_reducible repeat (first | refine blk_drewN ?_ _ | refine blk_drew ?_ | refine blk_alloc ?_ _)); exact BK896.out⟩, ⟨bb HB⟩⟩
    case round =>
     clear H'
     (try clear c1)
     (try clear c2)
     (try clear p2)
     (try clear c3)
     (try clear c5)
     (try clear p6)
     (try clear c8)
     (try clear c10)
     (try clear c12)
     (try clear c16)
     (try clear c20)
     (try clear c23)
     (try clear c24)
     (try clear c27)
     (try clear c32)
     (try clear c33)
     (try clear z13_0 z13_1 z13_2 z13_3 z13_4 z13_5 z13_6 z13_7 z13_8)
     (try clear z15_0 z15_1 z15_2 z15_3 z15_4 z15_5 z15_6 z15_7 z15_8)
     (try clear z17_0 z17_1 z17_2 z17_3 z17_4 z17_5 z17_6 z17_7 z17_8)
     (try clear z19_0 z19_1 z19_2 z19_3 z19_4 z19_5 z19_6 z19_7 z19_8)
     (try clear z21_0 z21_1 z21_2 z21_3 z21_4 z21_5 z21_6 z21_7 z21_8)
     (try clear z25_0 z25_1 z25_2 z25_3 z25_4 z25_5 z25_6 z25_7 z25_8)
     (try clear z28_0 z28_1 z28_2 z28_3 z28_4 z28_5 z28_6 z28_7 z28_8)
     (try clear z34_0 z34_1 z34_2 z34_3 z34_4 z34_5 z34_6 z34_7 z34_8)
     (try clear v13_0 v13_1 v13_2 v13_3 v13_4 v13_5 v13_6 v13_7 v13_8)
     (try clear v15_0 v15_1 v15_2 v15_3 v15_4 v15_5 v15_6 v15_7 v15_8)
     (try clear v17_0 v17_1 v17_2 v17_3 v17_4 v17_5 v17_6 v17_7 v17_8)
     (try clear v19_0 v19_1 v19_2 v19_3 v19_4 v19_5 v19_6 v19_7 v19_8)
     (try clear v21_0 v21_1 v21_2 v21_3 v21_4 v21_5 v21_6 v21_7 v21_8)
     (try clear v25_0 v25_1 v25_2 v25_3 v25_4 v25_5 v25_6 v25_7 v25_8)
     (try clear v28_0 v28_1 v28_2 v28_3 v28_4 v28_5 v28_6 v28_7 v28_8)
     (try clear v34_0 v34_1 v34_2 v34_3 v34_4 v34_5 v34_6 v34_7 v34_8)
     (try clear p2)
     (try clear p6)
     obtain ⟨x34_2, x897006_2, rfl, HA, HK2, HO_897000, HO_897004, HO_897006, HO_897007, HO_897008, BK872, BK873, BK896, HB⟩ := hrel
     have hl897006_2 := (Kd.R_reads' HO_897006.out).1
     rw [hl897006_2] at HO_897006
     (try simp only [hl897006_2] at BK872 BK873 BK896 HO_897000 HO_897004 HO_897007 HO_897008 ⊢)
     cases gk with
     | zero => exact absurd HA.out (by simp [spec_Withdraw.l0])
     | succ k2 =>
      have H := HA.out
      clear HA
      simp only [spec_Withdraw.l0] at H
      by_cases c39 : x34_2 < (t887.length : Int)
      ·rw [if_pos c39] at H
       have c39b0 : decide (x34_2 < (t887.length : Int)) = true := decide_eq_true c39
       clear c39
       by_cases c40 : 0 ≤ x34_2
       ·rw [if_pos c40] at H
        have c40b0 : decide (0 ≤ x34_2) = true := decide_eq_true c40
        clear c40
        by_cases c41 : x34_2 < (x897006_2.length : Int)
        ·rw [if_pos c41] at H
         have c41b0 : decide (x34_2 < (x897006_2.length : Int)) = true := decide_eq_true c41
         clear c41
         have HC42 := dk H
         clear H
         have p897 : 0 ≤ (x34_2 : Int) := oa
         have q897 : x34_2 < (x897006_2.length : Int) := oa
         obtain ⟨ad897, e897, hx897_0, hx897_1, hx897_2, hx897_3, hx897_4⟩ := at_T95 (Kd.R_reads' HO_897006.out).2.2 x34_2 p897 q897
         cases e897
         replace p897 := eq_true p897
         replace q897 := eq_true q897
         go_upto_region 7 with (first | ((with_reducible refine gate_dst (N := 10) rfl ?_); (try (refine gate_guard (by rfl) ?_; dsimp only)); refine bx (N := 10) (cs := #[.int .i64 0, .int .i64 0, .int .i64 0, .int .i64 0, .int .i64 0]) (t := 95) ?_; intro gb898 hg w43 hbox hb; replace HO_897000 := kr HO_897000 hb; replace HO_897004 := kr HO_897004 hb; replace HO_897006 := dk (Kd.R_below (Kd.R_elderB (rr HO_897006) gb898 (Nat.le_of_eq hg.symm)) hb); replace HO_897007 := kr HO_897007 hb; replace HO_897008 := kr HO_897008 hb; have BK898 := dk (hbox); have GW898 := gs hg HB; have GE898 := gs hg HB; replace HB := hs_ HB hb; have NB872_898 := gn hg BK872; have NB898_872 := gm hg BK872; replace BK872 := kb BK872 hb; have NB873_898 := gn hg BK873; have NB898_873 := gm hg BK873; replace BK873 := kb BK873 hb; have NB896_898 := gn hg BK896; have NB898_896 := gm hg BK896; replace BK896 := kb BK896 hb; clear hb hbox hg; have hnb44 := NB898_872.out; have hnc44 := NB872_898.out; have hnb45 := NB898_873.out; have hnc45 := NB873_898.out; have hnb46 := NB898_896.out; have hnc46 := NB896_898.out; have ⟨z47_0, z47_1, z47_2, z47_3, z47_4, v47_0, v47_1, v47_2, v47_3, v47_4⟩ := rz5 BK898))
         (try simp only [Act.put, List.setIfInBounds_toArray, List.set_cons_zero, List.set_cons_succ])
         go_cut [48] (fun v48 wc => ∃ (kq : Nat) (x48_41 : Bool), v48 = .bool x48_41 ∧ Aside0 (spec_Withdraw.j2 kq a1 a2 x34_2 (t887.length : Int) x34_2 x48_41 t877 t880 t881 t882 t883 t886 x897006_2 t890 t893 ((rd_T95 x897006_2 x34_2).f0) ((rd_T95 x897006_2 x34_2).f1) ((rd_T95 x897006_2 x34_2).f2) ((rd_T95 x897006_2 x34_2).f3) ((rd_T95 x897006_2 x34_2).f4) = some (r1, r2, r3, r4, r5, r6, r7, r8, r9, r10)) ∧ Aside0 (kq ≤ k2) ∧ Aside0 (Kd.R k139 139 wc w.heap.size (fun _ => True) (.slice Ao31 t877.length co31) t877) ∧ Aside0 (Kd.R (Kd.int .i64) 3 wc w.heap.size (fun k_ => nb k_ Ao37 t890.length co37 ∧ nb k_ Ao38 t893.length co38) (.slice Ao35 t883.length co35) t883) ∧ Aside0 (Kd.R k95 95 wc w.heap.size (fun k_ => k_ ≠ gb898) (.slice (some ad897) x897006_2.length co36) x897006_2) ∧ Aside0 (Kd.R (Kd.int .i64) 3 wc w.heap.size (fun k_ => nb k_ Ao35 t883.length co35 ∧ nb k_ Ao38 t893.length co38) (.slice Ao37 t890.length co37) t890) ∧ Aside0 (Kd.R (Kd.int .i64) 3 wc w.heap.size (fun k_ => nb k_ Ao35 t883.length co35 ∧ nb k_ Ao37 t890.length co37) (.slice Ao38 t893.length co38) t893) ∧ Aside0 (wc.heap[gb872]? = some (.cells #[(.slice A0_0 l0_0.length c0_0), .int .i64 a0_1, .int .i64 a0_2, .int .i64 a0_3, (.slice A0_4 l0_4.length c0_4), .bool a0_5, (.slice A0_6 l0_6.length c0_6), (.slice A0_7 l0_7.length c0_7), (.slice A0_8 l0_8.length c0_8)] 36 (0, 0))) ∧ Aside0 (wc.heap[gb873]? = some (.cells #[(.slice none 0 0), .int .i64 0, .int .i64 0, .int .i64 0, (.slice none 0 0), .bool false, (.slice none 0 0), (.slice none 0 0), (.slice none 0 0)] 36 (0, 0))) ∧ Aside0 (wc.heap[gb896]? = some (.cells #[(.slice Ao31 t877.length co31), .int .i64 t880, .int .i64 t881, .int .i64 t882, (.slice Ao35 t883.length co35), .bool t886, (.slice (some ad897) x897006_2.length co36), (.slice Ao37 t890.length co37), (.slice Ao38 t893.length co38)] 36 (0, 0))) ∧ Aside0 (wc.heap[gb898]? = some (.cells #[.int .i64 ((rd_T95 x897006_2 x34_2).f0), .int .i64 ((rd_T95 x897006_2 x34_2).f1), .int .i64 ((rd_T95 x897006_2 x34_2).f2), .int .i64 ((rd_T95 x897006_2 x34_2).f3), .int .i64 ((rd_T95 x897006_2 x34_2).f4)] 95 (0, 0))) ∧ Aside0 (Below w.heap.size w wc))
         case first =>
          have H := HC42.out
          clear HC42
          by_cases c48 : ((rd_T95 x897006_2 x34_2).f0) = a1
          ·rw [if_pos c48] at H
           have c48b0 : (((rd_T95 x897006_2 x34_2).f0) == a1) = true := beq_iff_eq.mpr c48
           have c48b1 : (((rd_T95 x897006_2 x34_2).f0) != a1) = false := bne_eq_false_iff_eq.mpr c48
           clear c48
           (first | rw [c48b0] | rw [c48b1] | (simp only [i64_w, i32_w]; rw [c48b0]) | skip)
           have H' := dk H
           clear H
           have hnb49 := NB898_872.out
           have hnc49 := NB872_898.out
           have hnb50 := NB898_873.out
           have hnc50 := NB873_898.out
           have hnb51 := NB898_896.out
           have hnc51 := NB896_898.out
           have ⟨z52_0, z52_1, z52_2, z52_3, z52_4, v52_0, v52_1, v52_2, v52_3, v52_4⟩ := rz5 BK898
           go_wp2
           go_meet
           case rel => exact ⟨_, (false), e2_, H', ⟨by have := HJ3.out; have := HK2.out; first | omega | exact Nat.le_refl _⟩, ⟨by (try simp only [hl897006_2]); (with_reducible repeat (first | apply Kd.R_alloc | apply Kd.R_drewN | apply Kd.R_drew)); exact Kd.R_mono (Kd.R_far (p := ⟨gb898, 4, none⟩) (Kd.R_far (p := ⟨gb898, 3, none⟩) (Kd.R_far (p := ⟨gb898, 2, none⟩) (Kd.R_far (p := ⟨gb898, 1, none⟩) (Kd.R_far (p := ⟨gb898, 0, none⟩) (Kd.R_types HO_897000.out BK898.out (by decide)) (fun _ hk => hk.2) (.int .i64 ((rd_T95 x897006_2 x34_2).f0))) (fun _ hk => hk.2) (.int .i64 ((rd_T95 x897006_2 x34_2).f1))) (fun _ hk => hk.2) (.int .i64 ((rd_T95 x897006_2 x34_2).f2))) (fun _ hk => hk.2) (.int .i64 ((rd_T95 x897006_2 x34_2).f3))) (fun _ hk => hk.2) (.int .i64 ((rd_T95 x897006_2 x34_2).f4))) (fun _ hk => trivial)⟩, ⟨by (try simp only [hl897006_2]); (with_reducible repeat (first | apply Kd.R_alloc | apply Kd.R_drewN | apply Kd.R_drew)); exact Kd.R_mono (Kd.R_far (p := ⟨gb898, 4, none⟩) (Kd.R_far (p := ⟨gb898, 3, none⟩) (Kd.R_far (p := ⟨gb898, 2, none⟩) (Kd.R_far (p := ⟨gb898, 1, none⟩) (Kd.R_far (p := ⟨gb898, 0, none⟩) (Kd.R_types HO_897004.out BK898.out (by decide)) (fun _ hk => hk.2) (.int .i64 ((rd_T95 x897006_2 x34_2).f0))) (fun _ hk => hk.2) (.int .i64 ((rd_T95 x897006_2 x34_2).f1))) (fun _ hk => hk.2) (.int .i64 ((rd_T95 x897006_2 x34_2).f2))) (fun _ hk => hk.2) (.int .i64 ((rd_T95 x897006_2 x34_2).f3))) (fun _ hk => hk.2) (.int .i64 ((rd_T95 x897006_2 x34_2).f4))) (fun _ hk => ⟨hk.1.1, hk.1.2⟩)⟩, ⟨by (try simp only [hl897006_2]); (with_reducible repeat (first | apply Kd.R_alloc | apply Kd.R_drewN | apply Kd.R_drew)); exact Kd.R_mono (Kd.R_far (p := ⟨gb898, 4, none⟩) (Kd.R_far (p := ⟨gb898, 3, none⟩) (Kd.R_far (p := ⟨gb898, 2, none⟩) (Kd.R_far (p := ⟨gb898, 1, none⟩) (Kd.R_far (p := ⟨gb898, 0, none⟩) (Kd.R_mono HO_897006.out (fun k_ hk => (⟨hk, hk.2⟩ : _ ∧ k_ ≠ gb898))) (fun _ hk => hk.2) (.int .i64 ((rd_T95 x897006_2 x34_2).f0))) (fun _ hk => hk.2) (.int .i64 ((rd_T95 x897006_2 x34_2).f1))) (fun _ hk => hk.2) (.int .i64 ((rd_T95 x897006_2 x34_2).f2))) (fun _ hk => hk.2) (.int .i64 ((rd_T95 x897006_2 x34_2).f3))) (fun _ hk => hk.2) (.int .i64 ((rd_T95 x897006_2 x34_2).f4))) (fun _ hk => hk.1.2)⟩, ⟨by (try simp only [hl897006_2]); (with_reducible repeat (first | apply Kd.R_alloc | apply Kd.R_drewN | apply Kd.R_drew)); exact Kd.R_mono (Kd.R_far (p := ⟨gb898, 4, none⟩) (Kd.R_far (p := ⟨gb898, 3, none⟩) (Kd.R_far (p := ⟨gb898, 2, none⟩) (Kd.R_far (p := ⟨gb898, 1, none⟩) (Kd.R_far (p := ⟨gb898, 0, none⟩) (Kd.R_types HO_897007.out BK898.out (by decide)) (fun _ hk => hk.2) (.int .i64 ((rd_T95 x897006_2 x34_2).f0))) (fun _ hk => hk.2) (.int .i64 ((rd_T95 x897006_2 x34_2).f1))) (fun _ hk => hk.2) (.int .i64 ((rd_T95 x897006_2 x34_2).f2))) (fun _ hk => hk.2) (.int .i64 ((rd_T95 x897006_2 x34_2).f3))) (fun _ hk => hk.2) (.int .i64 ((rd_T95 x897006_2 x34_2).f4))) (fun _ hk => ⟨hk.1.1, hk.1.2⟩)⟩, ⟨by (try simp only [hl897006_2]); (with_reducible repeat (first | apply Kd.R_alloc | apply Kd.R_drewN | apply Kd.R_drew)); exact Kd.R_mono (Kd.R_far (p := ⟨gb898, 4, none⟩) (Kd.R_far (p := ⟨gb898, 3, none⟩) (Kd.R_far (p := ⟨gb898, 2, none⟩) (Kd.R_far (p := ⟨gb898, 1, none⟩) (Kd.R_far (p := ⟨gb898, 0, none⟩) (Kd.R_types HO_897008.out BK898.out (by decide)) (fun _ hk => hk.2) (.int .i64 ((rd_T95 x897006_2 x34_2).f0))) (fun _ hk => hk.2) (.int .i64 ((rd_T95 x897006_2 x34_2).f1))) (fun _ hk => hk.2) (.int .i64 ((rd_T95 x897006_2 x34_2).f2))) (fun _ hk => hk.2) (.int .i64 ((rd_T95 x897006_2 x34_2).f3))) (fun _ hk => hk.2) (.int .i64 ((rd_T95 x897006_2 x34_2).f4))) (fun _ hk => ⟨hk.1.1, hk.1.2⟩)⟩, ⟨by (try simp only [hl897006_2]); exact bf NB872_898.out BK872⟩, ⟨by (try simp only [hl897006_2]); exact bf NB873_898.out BK873⟩, ⟨by (try simp only [hl897006_2]); exact bf NB896_898.out BK896⟩, ⟨by (try simp only [hl897006_2]); (with_reducible repeat (first | refine blk_drewN ?_ _ | refine blk_drew ?_ | refine blk_alloc ?_ _)); refine blk_put (cs := #[.int .i64 ((rd_T95 x897006_2 x34_2).f0), .int .i64 ((rd_T95 x897006_2 x34_2).f1), .int .i64 ((rd_T95 x897006_2 x34_2).f2), .int .i64 ((rd_T95 x897006_2 x34_2).f3), .int .i64 0]) ?_ 4 _ rfl; (with_reducible repeat (first | refine blk_drewN ?_ _ | refine blk_drew ?_ | refine blk_alloc ?_ _)); refine blk_put (cs := #[.int .i64 ((rd_T95 x897006_2 x34_2).f0), .int .i64 ((rd_T95 x897006_2 x34_2).f1), .int .i64 ((rd_T95 x897006_2 x34_2).f2), .int .i64 0, .int .i64 0]) ?_ 3 _ rfl; (with_reducible repeat (first | refine blk_drewN ?_ _ | refine blk_drew ?_ | refine blk_alloc ?_ _)); refine blk_put (cs := #[.int .i64 ((rd_T95 x897006_2 x34_2).f0), .int .i64 ((rd_T95 x897006_2 x34_2).f1), .int .i64 0, .int .i64 0, .int .i64 0]) ?_ 2 _ rfl; (with_reducible repeat (first | refine blk_drewN ?_ _ | refine blk_drew ?_ | refine blk_alloc ?_ _)); refine blk_put (cs := #[.int .i64 ((rd_T95 x897006_2 x34_2).f0), .int .i64 0, .int .i64 0, .int .i64 0, .int .i64 0]) ?_ 1 _ rfl; (with_reducible repeat (first | refine blk_drewN ?_ _ | refine blk_drew ?_ | refine blk_alloc ?_ _)); refine blk_put (cs := #[.int .i64 0, .int .i64 0, .int .i64 0, .int .i64 0, .int .i64 0]) ?_ 0 _ rfl; (with_reducible repeat (first | refine blk_drewN ?_ _ | refine blk_drew ?_ | refine blk_alloc ?_ _)); exact BK898.out⟩, ⟨bb HB⟩⟩
          ·rw [if_neg c48] at H
           have c48b0 : (((rd_T95 x897006_2 x34_2).f0) == a1) = false := beq_eq_false_iff_ne.mpr c48
           have c48b1 : (((rd_T95 x897006_2 x34_2).f0) != a1) = true := bne_iff_ne.mpr c48
           (first | rw [c48b0] | rw [c48b1] | (simp only [i64_w, i32_w]; rw [c48b0]) | skip)
           have H' := dk H
           clear H
           have hnb53 := NB898_872.out
           have hnc53 := NB872_898.out
           have hnb54 := NB898_873.out
           have hnc54 := NB873_898.out
           have hnb55 := NB898_896.out
           have hnc55 := NB896_898.out
           have ⟨z56_0, z56_1, z56_2, z56_3, z56_4, v56_0, v56_1, v56_2, v56_3, v56_4⟩ := rz5 BK898
           go_wp2
           go_meet
           case rel => exact ⟨_, ((((rd_T95 x897006_2 x34_2).f1) != a1)), e2_, H', ⟨by have := HJ3.out; have := HK2.out; first | omega | exact Nat.le_refl _⟩, ⟨by (try simp only [hl897006_2]); (with_reducible repeat (first | apply Kd.R_alloc | apply Kd.R_drewN | apply Kd.R_drew)); exact Kd.R_mono (Kd.R_far (p := ⟨gb898, 4, none⟩) (Kd.R_far (p := ⟨gb898, 3, none⟩) (Kd.R_far (p := ⟨gb898, 2, none⟩) (Kd.R_far (p := ⟨gb898, 1, none⟩) (Kd.R_far (p := ⟨gb898, 0, none⟩) (Kd.R_types HO_897000.out BK898.out (by decide)) (fun _ hk => hk.2) (.int .i64 ((rd_T95 x897006_2 x34_2).f0))) (fun _ hk => hk.2) (.int .i64 ((rd_T95 x897006_2 x34_2).f1))) (fun _ hk => hk.2) (.int .i64 ((rd_T95 x897006_2 x34_2).f2))) (fun _ hk => hk.2) (.int .i64 ((rd_T95 x897006_2 x34_2).f3))) (fun _ hk => hk.2) (.int .i64 ((rd_T95 x897006_2 x34_2).f4))) (fun _ hk => trivial)⟩, ⟨by (try simp only [hl897006_2]); (with_reducible repeat (first | apply Kd.R_alloc | apply Kd.R_drewN | apply Kd.R_drew)); exact Kd.R_mono (Kd.R_far (p := ⟨gb898, 4, none⟩) (Kd.R_far (p := ⟨gb898, 3, none⟩) (Kd.R_far (p := ⟨gb898, 2, none⟩) (Kd.R_far (p := ⟨gb898, 1, none⟩) (Kd.R_far (p := ⟨gb898, 0, none⟩) (Kd.R_types HO_897004.out BK898.out (by decide)) (fun _ hk => hk.2) (.int .i64 ((rd_T95 x897006_2 x34_2).f0))) (fun _ hk => hk.2) (.int .i64 ((rd_T95 x897006_2 x34_2).f1))) (fun _ hk => hk.2) (.int .i64 ((rd_T95 x897006_2 x34_2).f2))) (fun _ hk => hk.2) (.int .i64 ((rd_T95 x897006_2 x34_2).f3))) (fun _ hk => hk.2) (.int .i64 ((rd_T95 x897006_2 x34_2).f4))) (fun _ hk => ⟨hk.1.1, hk.1.2⟩)⟩, ⟨by (try simp only [hl897006_2]); (with_reducible repeat (first | apply Kd.R_alloc | apply Kd.R_drewN | apply Kd.R_drew)); exact Kd.R_mono (Kd.R_far (p := ⟨gb898, 4, none⟩) (Kd.R_far (p := ⟨gb898, 3, none⟩) (Kd.R_far (p := ⟨gb898, 2, none⟩) (Kd.R_far (p := ⟨gb898, 1, none⟩) (Kd.R_far (p := ⟨gb898, 0, none⟩) (Kd.R_mono HO_897006.out (fun k_ hk => (⟨hk, hk.2⟩ : _ ∧ k_ ≠ gb898))) (fun _ hk => hk.2) (.int .i64 ((rd_T95 x897006_2 x34_2).f0))) (fun _ hk => hk.2) (.int .i64 ((rd_T95 x897006_2 x34_2).f1))) (fun _ hk => hk.2) (.int .i64 ((rd_T95 x897006_2 x34_2).f2))) (fun _ hk => hk.2) (.int .i64 ((rd_T95 x897006_2 x34_2).f3))) (fun _ hk => hk.2) (.int .i64 ((rd_T95 x897006_2 x34_2).f4))) (fun _ hk => hk.1.2)⟩, ⟨by (try simp only [hl897006_2]); (with_reducible repeat (first | apply Kd.R_alloc | apply Kd.R_drewN | apply Kd.R_drew)); exact Kd.R_mono (Kd.R_far (p := ⟨gb898, 4, none⟩) (Kd.R_far (p := ⟨gb898, 3, none⟩) (Kd.R_far (p := ⟨gb898, 2, none⟩) (Kd.R_far (p := ⟨gb898, 1, none⟩) (Kd.R_far (p := ⟨gb898, 0, none⟩) (Kd.R_types HO_897007.out BK898.out (by decide)) (fun _ hk => hk.2) (.int .i64 ((rd_T95 x897006_2 x34_2).f0))) (fun _ hk => hk.2) (.int .i64 ((rd_T95 x897006_2 x34_2).f1))) (fun _ hk => hk.2) (.int .i64 ((rd_T95 x897006_2 x34_2).f2))) (fun _ hk => hk.2) (.int .i64 ((rd_T95 x897006_2 x34_2).f3))) (fun _ hk => hk.2) (.int .i64 ((rd_T95 x897006_2 x34_2).f4))) (fun _ hk => ⟨hk.1.1, hk.1.2⟩)⟩, ⟨by (try simp only [hl897006_2]); (with_reducible repeat (first | apply Kd.R_alloc | apply Kd.R_drewN | apply Kd.R_drew)); exact Kd.R_mono (Kd.R_far (p := ⟨gb898, 4, none⟩) (Kd.R_far (p := ⟨gb898, 3, none⟩) (Kd.R_far (p := ⟨gb898, 2, none⟩) (Kd.R_far (p := ⟨gb898, 1, none⟩) (Kd.R_far (p := ⟨gb898, 0, none⟩) (Kd.R_types HO_897008.out BK898.out (by decide)) (fun _ hk => hk.2) (.int .i64 ((rd_T95 x897006_2 x34_2).f0))) (fun _ hk => hk.2) (.int .i64 ((rd_T95 x897006_2 x34_2).f1))) (fun _ hk => hk.2) (.int .i64 ((rd_T95 x897006_2 x34_2).f2))) (fun _ hk => hk.2) (.int .i64 ((rd_T95 x897006_2 x34_2).f3))) (fun _ hk => hk.2) (.int .i64 ((rd_T95 x897006_2 x34_2).f4))) (fun _ hk => ⟨hk.1.1, hk.1.2⟩)⟩, ⟨by (try simp only [hl897006_2]); exact bf NB872_898.out BK872⟩, ⟨by (try simp only [hl897006_2]); exact bf NB873_898.out BK873⟩, ⟨by (try simp only [hl897006_2]); exact bf NB896_898.out BK896⟩, ⟨by (try simp only [hl897006_2]); (with_reducible repeat (first | refine blk_drewN ?_ _ | refine blk_drew ?_ | refine blk_alloc ?_ _)); refine blk_put (cs := #[.int .i64 ((rd_T95 x897006_2 x34_2).f0), .int .i64 ((rd_T95 x897006_2 x34_2).f1), .int .i64 ((rd_T95 x897006_2 x34_2).f2), .int .i64 ((rd_T95 x897006_2 x34_2).f3), .int .i64 0]) ?_ 4 _ rfl; (with_reducible repeat (first | refine blk_drewN ?_ _ | refine blk_drew ?_ | refine blk_alloc ?_ _)); refine blk_put (cs := #[.int .i64 ((rd_T95 x897006_2 x34_2).f0), .int .i64 ((rd_T95 x897006_2 x34_2).f1), .int .i64 ((rd_T95 x897006_2 x34_2).f2), .int .i64 0, .int .i64 0]) ?_ 3 _ rfl; (with_reducible repeat (first | refine blk_drewN ?_ _ | refine blk_drew ?_ | refine blk_alloc ?_ _)); refine blk_put (cs := #[.int .i64 ((rd_T95 x897006_2 x34_2).f0), .int .i64 ((rd_T95 x897006_2 x34_2).f1), .int .i64 0, .int .i64 0, .int .i64 0]) ?_ 2 _ rfl; (with_reducible repeat (first | refine blk_drewN ?_ _ | refine blk_drew ?_ | refine blk_alloc ?_ _)); refine blk_put (cs := #[.int .i64 ((rd_T95 x897006_2 x34_2).f0), .int .i64 0, .int .i64 0, .int .i64 0, .int .i64 0]) ?_ 1 _ rfl; (with_reducible repeat (first | refine blk_drewN ?_ _ | refine blk_drew ?_ | refine blk_alloc ?_ _)); refine blk_put (cs := #[.int .i64 0, .int .i64 0, .int .i64 0, .int .i64 0, .int .i64 0]) ?_ 0 _ rfl; (with_reducible repeat (first | refine blk_drewN ?_ _ | refine blk_drew ?_ | refine blk_alloc ?_ _)); exact BK898.out⟩, ⟨bb HB⟩⟩
         case rest =>
          clear HC42
          (try clear c1)
          (try clear c2)
          (try clear p2)
          (try clear c3)
          (try clear c4)
          (try clear c5)
          (try clear p6)
          (try clear c8)
          (try clear p8)
          (try clear q8)
          (try clear hx8)
          (try clear c10)
          (try clear c12)
          (try clear c16)
          (try clear c20)
          (try clear c23)
          (try clear c24)
          (try clear c27)
          (try clear c32)
          (try clear c33)
          (try clear c39)
          (try clear c39b0)
          (try clear c40)
          (try clear c40b0)
          (try clear c41)
          (try clear c41b0)
          (try clear c44)
          (try clear c45)
          (try clear c46)
          (try clear c48)
          (try clear c48b0)
          (try clear c48b1)
          (try clear c49)
          (try clear c50)
          (try clear c51)
          (try clear c53)
          (try clear c54)
          (try clear c55)
          (try clear c56)
          (try clear z13_0 z13_1 z13_2 z13_3 z13_4 z13_5 z13_6 z13_7 z13_8)
          (try clear z15_0 z15_1 z15_2 z15_3 z15_4 z15_5 z15_6 z15_7 z15_8)
          (try clear z17_0 z17_1 z17_2 z17_3 z17_4 z17_5 z17_6 z17_7 z17_8)
          (try clear z19_0 z19_1 z19_2 z19_3 z19_4 z19_5 z19_6 z19_7 z19_8)
          (try clear z21_0 z21_1 z21_2 z21_3 z21_4 z21_5 z21_6 z21_7 z21_8)
          (try clear z25_0 z25_1 z25_2 z25_3 z25_4 z25_5 z25_6 z25_7 z25_8)
          (try clear z28_0 z28_1 z28_2 z28_3 z28_4 z28_5 z28_6 z28_7 z28_8)
          (try clear z34_0 z34_1 z34_2 z34_3 z34_4 z34_5 z34_6 z34_7 z34_8)
          (try clear z47_0 z47_1 z47_2 z47_3 z47_4)
          (try clear z52_0 z52_1 z52_2 z52_3 z52_4)
          (try clear z56_0 z56_1 z56_2 z56_3 z56_4)
          (try clear v13_0 v13_1 v13_2 v13_3 v13_4 v13_5 v13_6 v13_7 v13_8)
          (try clear v15_0 v15_1 v15_2 v15_3 v15_4 v15_5 v15_6 v15_7 v15_8)
          (try clear v17_0 v17_1 v17_2 v17_3 v17_4 v17_5 v17_6 v17_7 v17_8)
          (try clear v19_0 v19_1 v19_2 v19_3 v19_4 v19_5 v19_6 v19_7 v19_8)
          (try clear v21_0 v21_1 v21_2 v21_3 v21_4 v21_5 v21_6 v21_7 v21_8)
          (try clear v25_0 v25_1 v25_2 v25_3 v25_4 v25_5 v25_6 v25_7 v25_8)
          (try clear v28_0 v28_1 v28_2 v28_3 v28_4 v28_5 v28_6 v28_7 v28_8)
          (try clear v34_0 v34_1 v34_2 v34_3 v34_4 v34_5 v34_6 v34_7 v34_8)
          (try clear v47_0 v47_1 v47_2 v47_3 v47_4)
          (try clear v52_0 v52_1 v52_2 v52_3 v52_4)
          (try clear v56_0 v56_1 v56_2 v56_3 v56_4)
          (try clear hx897_0)
          (try clear hx897_1)
          (try clear hx897_2)
          (try clear hx897_3)
          (try clear hx897_4)
          (try clear p2)
          (try clear p6)
          (try clear p897)
          (try clear q897)
          obtain ⟨kq, x48_41, rfl, HA, HJ41, HO_897000, HO_897004, HO_897006, HO_897007, HO_897008, BK872, BK873, BK896, BK898, HB⟩ := hcut
          cases kq with
          | zero => exact absurd HA.out (by simp [spec_Withdraw.j2])
          | succ kj41 =>
           have H := HA.out
           clear HA
           simp only [spec_Withdraw.j2] at H
           by_cases c57 : x48_41 = true
           ·subst c57
            have H1 : (spec_Withdraw.l0 kj41 a1 a2 (t887.length : Int) (wrap64 (x34_2 + 1)) t877 t880 t881 t882 t883 t886 x897006_2 t890 t893) = some (r1, r2, r3, r4, r5, r6, r7, r8, r9, r10) := by rw [if_pos rfl] at H; exact H
            clear H
            have H := H1
            clear H1
            have H' := dk H
            clear H
            go_wp2
            (try simp only [← hl897006_2])
            go_roundg kj41
            case measure => have := HJ3.out; have := HK2.out; have := HJ41.out; omega
            case rel => exact ⟨(wrap64 (x34_2 + 1)), (x897006_2), e2_, H', ⟨by have := HJ3.out; have := HK2.out; have := HJ41.out; omega⟩, ⟨by (try simp only [hl897006_2]); (with_reducible repeat (first | apply Kd.R_alloc | apply Kd.R_drewN | apply Kd.R_drew)); exact HO_897000.out⟩, ⟨by (try simp only [hl897006_2]); (with_reducible repeat (first | apply Kd.R_alloc | apply Kd.R_drewN | apply Kd.R_drew)); exact HO_897004.out⟩, ⟨by (try simp only [hl897006_2]); (with_reducible repeat (first | apply Kd.R_alloc | apply Kd.R_drewN | apply Kd.R_drew)); exact Kd.R_mono HO_897006.out (fun _ hk => trivial)⟩, ⟨by (try simp only [hl897006_2]); (with_reducible repeat (first | apply Kd.R_alloc | apply Kd.R_drewN | apply Kd.R_drew)); exact HO_897007.out⟩, ⟨by (try simp only [hl897006_2]); (with_reducible repeat (first | apply Kd.R_alloc | apply Kd.R_drewN | apply Kd.R_drew)); exact HO_897008.out⟩, ⟨by (try simp only [hl897006_2]); (with_reducible repeat (first | refine blk_drewN ?_ _ | refine blk_drew ?_ | refine blk_alloc ?_ _)); exact BK872.out⟩, ⟨by (try simp only [hl897006_2]); (with_reducible repeat (first | refine blk_drewN ?_ _ | refine blk_drew ?_ | refine blk_alloc ?_ _)); exact BK873.out⟩, ⟨by (try simp only [hl897006_2]); (with_reducible repeat (first | refine blk_drewN ?_ _ | refine blk_drew ?_ | refine blk_alloc ?_ _)); exact BK896.out⟩, ⟨bb HB⟩⟩
           ·replace c57 := Bool.eq_false_iff.mpr c57
            subst c57
            have H1 : (if a2 = 1 then (if 0 ≤ x34_2 then (if x34_2 < (x897006_2.length : Int) then (spec_Withdraw.l0 kj41 a1 a2 (t887.length : Int) (wrap64 (x34_2 + 1)) t877 t880 t881 t882 t883 t886 (x897006_2.set (x34_2 : Int).toNat (⟨((rd_T95 x897006_2 x34_2).f0), ((rd_T95 x897006_2 x34_2).f1), 0, 0, 4⟩ : S95)) t890 t893) else (none)) else (none)) else ((spec_IsOpen.f ((rd_T95 x897006_2 x34_2).f0) ((rd_T95 x897006_2 x34_2).f1) ((rd_T95 x897006_2 x34_2).f2) ((rd_T95 x897006_2 x34_2).f3) ((rd_T95 x897006_2 x34_2).f4)).bind fun t900 => (if t900 = true then ((spec_l21Award.f ((rd_T95 x897006_2 x34_2).f0) ((rd_T95 x897006_2 x34_2).f1) ((rd_T95 x897006_2 x34_2).f2) ((rd_T95 x897006_2 x34_2).f3) ((rd_T95 x897006_2 x34_2).f4) (wrap64 ((wrap64 (((rd_T95 x897006_2 x34_2).f0) + ((rd_T95 x897006_2 x34_2).f1))) - a1))).bind fun bt901 => (if 0 ≤ x34_2 then (if x34_2 < (x897006_2.length : Int) then (spec_Withdraw.l0 kj41 a1 a2 (t887.length : Int) (wrap64 (x34_2 + 1)) t877 t880 t881 t882 t883 t886 (x897006_2.set (x34_2 : Int).toNat (⟨bt901.1, bt901.2.1, bt901.2.2.1, bt901.2.2.2.1, bt901.2.2.2.2⟩ : S95)) t890 t893) else (none)) else (none))) else (spec_Withdraw.l0 kj41 a1 a2 (t887.length : Int) (wrap64 (x34_2 + 1)) t877 t880 t881 t882 t883 t886 x897006_2 t890 t893)))) = some (r1, r2, r3, r4, r5, r6, r7, r8, r9, r10) := by rw [if_neg (show ¬ (false = true) by decide)] at H; exact H
            clear H
            have H := H1
            clear H1
            by_cases c58 : a2 = 1
            ·rw [if_pos c58] at H
             have c58b0 : (a2 == 1) = true := beq_iff_eq.mpr c58
             have c58b1 : (a2 != 1) = false := bne_eq_false_iff_eq.mpr c58
             clear c58
             by_cases c59 : 0 ≤ x34_2
             ·rw [if_pos c59] at H
              have c59b0 : decide (0 ≤ x34_2) = true := decide_eq_true c59
              clear c59
              by_cases c60 : x34_2 < (x897006_2.length : Int)
              ·rw [if_pos c60] at H
               have c60b0 : decide (x34_2 < (x897006_2.length : Int)) = true := decide_eq_true c60
               clear c60
               obtain ⟨y899, hy899⟩ : ∃ y_ : List (S95), y_ = (x897006_2.set (x34_2 : Int).toNat (⟨((rd_T95 x897006_2 x34_2).f0), ((rd_T95 x897006_2 x34_2).f1), 0, 0, 4⟩ : S95)) := ⟨_, rfl⟩
               replace H : (spec_Withdraw.l0 kj41 a1 a2 (t887.length : Int) (wrap64 (x34_2 + 1)) t877 t880 t881 t882 t883 t886 y899 t890 t893) = some (r1, r2, r3, r4, r5, r6, r7, r8, r9, r10) := by first | (rw [hy899]; with_reducible exact H) | (have H2_ := (Option.bind_some _ _).symm.trans H; rw [hy899]; with_reducible exact H2_) | (have H2_ := (Option.bind_some _ _).symm.trans H; with_reducible exact H2_) | with_reducible exact H | (rw [hy899]; exact H) | exact H
               have Ny899 := dk hy899
               clear hy899
               have H' := dk H
               clear H
               have hnb62 := NB896_872.out
               have hnc62 := NB872_896.out
               have hnb63 := NB896_873.out
               have hnc63 := NB873_896.out
               have hnb64 := NB896_898.out
               have hnc64 := NB898_896.out
               have ⟨z65_0, z65_1, z65_2, z65_3, z65_4, z65_5, z65_6, z65_7, z65_8, v65_0, v65_1, v65_2, v65_3, v65_4, v65_5, v65_6, v65_7, v65_8⟩ := rz9 BK896
               have hnb66 := NB898_872.out
               have hnc66 := NB872_898.out
               have hnb67 := NB898_873.out
               have hnc67 := NB873_898.out
               have ⟨z68_0, z68_1, z68_2, z68_3, z68_4, v68_0, v68_1, v68_2, v68_3, v68_4⟩ := rz5 BK898
               have p61 : 0 ≤ (x34_2 : Int) := oa
               have q61 : (x34_2 : Int) < ((x897006_2.length : Int) : Int) := oa
               obtain ⟨go61, co61, eo61, gb61, gl61, cl61, HG61⟩ := Kd.R_form HO_897006.out (by omega)
               (first | cases eo61 | (injection eo61 with ea_ en_ ec_; (first | subst ea_ | (injection ea_ with ea_; subst ea_)); subst ec_; clear en_))
               have GB61 := dk gb61
               have GG61 := dk HG61
               clear gb61 gl61 HG61
               (first | simp only [add_plain] at hx897_0 | skip)
               (first | simp only [add_plain] at hx897_1 | skip)
               (first | simp only [add_plain] at hx897_2 | skip)
               (first | simp only [add_plain] at hx897_3 | skip)
               (first | simp only [add_plain] at hx897_4 | skip)
               obtain ⟨ce61, hcl61, hM61, hcc61, hfr61⟩ := Kd.R_elem HO_897006.out z95 (x34_2 : Int) p61 q61
               obtain rfl := k95_openM hM61
               have hx61_0 : wc.cell? ⟨go61, (x34_2 : Int).toNat * 5, none⟩ = some (.int .i64 ((rd_T95 x897006_2 x34_2).f0)) := hcc61 0 _ rfl
               have hx61_1 : wc.cell? ⟨go61, (x34_2 : Int).toNat * 5 + 1, none⟩ = some (.int .i64 ((rd_T95 x897006_2 x34_2).f1)) := hcc61 1 _ rfl
               have hx61_2 : wc.cell? ⟨go61, (x34_2 : Int).toNat * 5 + 2, none⟩ = some (.int .i64 ((rd_T95 x897006_2 x34_2).f2)) := hcc61 2 _ rfl
               have hx61_3 : wc.cell? ⟨go61, (x34_2 : Int).toNat * 5 + 3, none⟩ = some (.int .i64 ((rd_T95 x897006_2 x34_2).f3)) := hcc61 3 _ rfl
               have hx61_4 : wc.cell? ⟨go61, (x34_2 : Int).toNat * 5 + 4, none⟩ = some (.int .i64 ((rd_T95 x897006_2 x34_2).f4)) := hcc61 4 _ rfl
               have hf61_0 : wc.frozen? ⟨go61, (x34_2 : Int).toNat * 5, none⟩ = false := hfr61 0
               have hf61_1 : wc.frozen? ⟨go61, (x34_2 : Int).toNat * 5 + 1, none⟩ = false := hfr61 1
               have hf61_2 : wc.frozen? ⟨go61, (x34_2 : Int).toNat * 5 + 2, none⟩ = false := hfr61 2
               have hf61_3 : wc.frozen? ⟨go61, (x34_2 : Int).toNat * 5 + 3, none⟩ = false := hfr61 3
               have hf61_4 : wc.frozen? ⟨go61, (x34_2 : Int).toNat * 5 + 4, none⟩ = false := hfr61 4
               clear hcl61 hcc61 hfr61; (try clear hM61)
               replace p61 := eq_true p61
               replace q61 := eq_true q61
               have HX69 := dk (show Kd.R k95 95 wc w.heap.size (fun k_ => k_ ≠ gb898) (.slice (some ⟨go61, 0, none⟩) x897006_2.length co36) x897006_2 from (rr HO_897006))
               obtain ⟨ce69, hcl69, hM69, hcc69, hfr69⟩ := Kd.R_elem HX69.out z95 (x34_2 : Int) (oa) (by have h_ : (x34_2 : Int) < ((x897006_2.length : Int) : Int) := oa; first | exact h_ | (have e_ := (Kd.R_reads' HO_897006.out).1; omega) | simpa using h_)
               obtain rfl := k95_openM hM69
               have HP69 := Kd.R_seg HX69.out (x34_2 : Int) (oa) (by have h_ : (x34_2 : Int) < ((x897006_2.length : Int) : Int) := oa; first | exact h_ | (have e_ := (Kd.R_reads' HO_897006.out).1; omega) | simpa using h_) (seg := [.int .i64 ((rd_T95 x897006_2 x34_2).f0), .int .i64 ((rd_T95 x897006_2 x34_2).f1), .int .i64 0, .int .i64 0, .int .i64 4]) (j := 0) hcl69 hcc69 (show 5 ≤ 5 from by decide) (x' := (⟨((rd_T95 x897006_2 x34_2).f0), ((rd_T95 x897006_2 x34_2).f1), 0, 0, 4⟩ : S95)) (k95_mkM _ _ _ (⟨((rd_T95 x897006_2 x34_2).f0), ((rd_T95 x897006_2 x34_2).f1), 0, 0, 4⟩ : S95) ) (fun _ hk => hk)
               have hx69_0 := hcc69 0 _ rfl
               (try simp only [show (k95).sz = 5 from rfl, Nat.mul_one, Nat.add_zero] at hx69_0)
               have hf69_0 := hfr69 0
               (try simp only [show (k95).sz = 5 from rfl, Nat.mul_one, Nat.add_zero] at hf69_0)
               have hx69_1 := hcc69 1 _ rfl
               (try simp only [show (k95).sz = 5 from rfl, Nat.mul_one, Nat.add_zero] at hx69_1)
               have hf69_1 := hfr69 1
               (try simp only [show (k95).sz = 5 from rfl, Nat.mul_one, Nat.add_zero] at hf69_1)
               have hx69_2 := hcc69 2 _ rfl
               (try simp only [show (k95).sz = 5 from rfl, Nat.mul_one, Nat.add_zero] at hx69_2)
               have hf69_2 := hfr69 2
               (try simp only [show (k95).sz = 5 from rfl, Nat.mul_one, Nat.add_zero] at hf69_2)
               have hx69_3 := hcc69 3 _ rfl
               (try simp only [show (k95).sz = 5 from rfl, Nat.mul_one, Nat.add_zero] at hx69_3)
               have hf69_3 := hfr69 3
               (try simp only [show (k95).sz = 5 from rfl, Nat.mul_one, Nat.add_zero] at hf69_3)
               have hx69_4 := hcc69 4 _ rfl
               (try simp only [show (k95).sz = 5 from rfl, Nat.mul_one, Nat.add_zero] at hx69_4)
               have hf69_4 := hfr69 4
               (try simp only [show (k95).sz = 5 from rfl, Nat.mul_one, Nat.add_zero] at hf69_4)
               clear hcl69 hcc69 hfr69; (try clear hM69)
               go_wp2_with (first | ((with_reducible refine gate_store (t := 95) (p := 60) rfl ?_); refine store_event (t := 95) (p := 60) (v := ?vo_w70) (w1 := (((((wc.setCell ⟨go61, (x34_2 : Int).toNat * 5, none⟩ (.int .i64 ((rd_T95 x897006_2 x34_2).f0))).setCell ⟨go61, (x34_2 : Int).toNat * 5 + 1, none⟩ (.int .i64 ((rd_T95 x897006_2 x34_2).f1))).setCell ⟨go61, (x34_2 : Int).toNat * 5 + 2, none⟩ (.int .i64 0)).setCell ⟨go61, (x34_2 : Int).toNat * 5 + 3, none⟩ (.int .i64 0)).setCell ⟨go61, (x34_2 : Int).toNat * 5 + 4, none⟩ (.int .i64 4))) ?hg ?ho ?hn ?hr ?_; (case ho => rfl); (case hg => rfl); (case hn => rfl); (case hr => first | (go_simp; done) | (go_simp; rfl)); intro w70 hw; have hg : wc.grownBy w70 (some go61) := (by rw [hw]; exact HP69.2); have hp_ : Kd.R k95 95 w70 w.heap.size (fun k_ => k_ ≠ gb898) (.slice (some ⟨go61, 0, none⟩) x897006_2.length co36) y899 := (by rw [hw, Ny899.out]; exact HP69.1); clear HP69; replace HO_897000 := dk (Kd.R_over' (v := (.slice (some ⟨go61, 0, none⟩) x897006_2.length co36)) (rr HO_897000) (Kd.R_typed HO_897006.out) (by decide) hg); replace HO_897004 := dk (Kd.R_over' (v := (.slice (some ⟨go61, 0, none⟩) x897006_2.length co36)) (rr HO_897004) (Kd.R_typed HO_897006.out) (by decide) hg); replace HO_897007 := dk (Kd.R_over' (v := (.slice (some ⟨go61, 0, none⟩) x897006_2.length co36)) (rr HO_897007) (Kd.R_typed HO_897006.out) (by decide) hg); replace HO_897008 := dk (Kd.R_over' (v := (.slice (some ⟨go61, 0, none⟩) x897006_2.length co36)) (rr HO_897008) (Kd.R_typed HO_897006.out) (by decide) hg); replace BK872 := dk (blk_grown (g := gb872) (o := .cells #[.slice A0_0 l0_0.length c0_0, .int .i64 a0_1, .int .i64 a0_2, .int .i64 a0_3, .slice A0_4 l0_4.length c0_4, .bool a0_5, .slice A0_6 l0_6.length c0_6, .slice A0_7 l0_7.length c0_7, .slice A0_8 l0_8.length c0_8] 36 (0, 0)) (bk BK872) hg (Kd.R_ne HO_897006.out BK872.out (by decide))); replace BK873 := dk (blk_grown (g := gb873) (o := .cells #[.slice none 0 0, .int .i64 0, .int .i64 0, .int .i64 0, .slice none 0 0, .bool false, .slice none 0 0, .slice none 0 0, .slice none 0 0] 36 (0, 0)) (bk BK873) hg (Kd.R_ne HO_897006.out BK873.out (by decide))); replace BK896 := dk (blk_grown (g := gb896) (o := .cells #[.slice Ao31 t877.length co31, .int .i64 t880, .int .i64 t881, .int .i64 t882, .slice Ao35 t883.length co35, .bool t886, .slice (some ⟨go61, 0, none⟩) x897006_2.length co36, .slice Ao37 t890.length co37, .slice Ao38 t893.length co38] 36 (0, 0)) (bk BK896) hg (Kd.R_ne HO_897006.out BK896.out (by decide))); replace BK898 := dk (blk_grown (g := gb898) (o := .cells #[.int .i64 ((rd_T95 x897006_2 x34_2).f0), .int .i64 ((rd_T95 x897006_2 x34_2).f1), .int .i64 ((rd_T95 x897006_2 x34_2).f2), .int .i64 ((rd_T95 x897006_2 x34_2).f3), .int .i64 ((rd_T95 x897006_2 x34_2).f4)] 95 (0, 0)) (bk BK898) hg (Kd.R_away HO_897006.out (fun _ hk => hk))); replace HO_897006 := dk (hp_); replace HB := dk (by rw [hw]; exact below_set (below_set (below_set (below_set (below_set (HB.out) GB61.out) GB61.out) GB61.out) GB61.out) GB61.out : Below w.heap.size w w70); clear hg hw hp_))
               (try simp only [← hl897006_2])
               go_roundg kj41
               case measure => have := HJ3.out; have := HK2.out; have := HJ41.out; omega
               case rel => exact ⟨(wrap64 (x34_2 + 1)), (y899), e2_, H', ⟨by have := HJ3.out; have := HK2.out; have := HJ41.out; omega⟩, ⟨by (try simp only [hl897006_2]); (with_reducible repeat (first | apply Kd.R_alloc | apply Kd.R_drewN | apply Kd.R_drew)); exact HO_897000.out⟩, ⟨by (try simp only [hl897006_2]); (with_reducible repeat (first | apply Kd.R_alloc | apply Kd.R_drewN | apply Kd.R_drew)); exact HO_897004.out⟩, ⟨by (try simp only [hl897006_2]); (with_reducible repeat (first | apply Kd.R_alloc | apply Kd.R_drewN | apply Kd.R_drew)); exact Kd.R_mono HO_897006.out (fun _ hk => trivial)⟩, ⟨by (try simp only [hl897006_2]); (with_reducible repeat (first | apply Kd.R_alloc | apply Kd.R_drewN | apply Kd.R_drew)); exact HO_897007.out⟩, ⟨by (try simp only [hl897006_2]); (with_reducible repeat (first | apply Kd.R_alloc | apply Kd.R_drewN | apply Kd.R_drew)); exact HO_897008.out⟩, ⟨by (try simp only [hl897006_2]); (with_reducible repeat (first | refine blk_drewN ?_ _ | refine blk_drew ?_ | refine blk_alloc ?_ _)); exact BK872.out⟩, ⟨by (try simp only [hl897006_2]); (with_reducible repeat (first | refine blk_drewN ?_ _ | refine blk_drew ?_ | refine blk_alloc ?_ _)); exact BK873.out⟩, ⟨by (try simp only [hl897006_2]); (with_reducible repeat (first | refine blk_drewN ?_ _ | refine blk_drew ?_ | refine blk_alloc ?_ _)); exact BK896.out⟩, ⟨bb HB⟩⟩
              ·rw [if_neg c60] at H
               exact absurd H (by simp)
             ·rw [if_neg c59] at H
              exact absurd H (by simp)
            ·rw [if_neg c58] at H
             have c58b0 : (a2 == 1) = false := beq_eq_false_iff_ne.mpr c58
             have c58b1 : (a2 != 1) = true := bne_iff_ne.mpr c58
             replace H := Option.bind_eq_some_iff.mp H
             obtain ⟨t900, A710, H⟩ := H
             replace H : (if t900 = true then ((spec_l21Award.f ((rd_T95 x897006_2 x34_2).f0) ((rd_T95 x897006_2 x34_2).f1) ((rd_T95 x897006_2 x34_2).f2) ((rd_T95 x897006_2 x34_2).f3) ((rd_T95 x897006_2 x34_2).f4) (wrap64 ((wrap64 (((rd_T95 x897006_2 x34_2).f0) + ((rd_T95 x897006_2 x34_2).f1))) - a1))).bind fun bt901 => (if 0 ≤ x34_2 then (if x34_2 < (x897006_2.length : Int) then (spec_Withdraw.l0 kj41 a1 a2 (t887.length : Int) (wrap64 (x34_2 + 1)) t877 t880 t881 t882 t883 t886 (x897006_2.set (x34_2 : Int).toNat (⟨bt901.1, bt901.2.1, bt901.2.2.1, bt901.2.2.2.1, bt901.2.2.2.2⟩ : S95)) t890 t893) else (none)) else (none))) else (spec_Withdraw.l0 kj41 a1 a2 (t887.length : Int) (wrap64 (x34_2 + 1)) t877 t880 t881 t882 t883 t886 x897006_2 t890 t893)) = some (r1, r2, r3, r4, r5, r6, r7, r8, r9, r10) := H
             have A71 := dk A710
             clear A710
             by_cases c72 : t900 = true
             ·subst c72
              have H1 : ((spec_l21Award.f ((rd_T95 x897006_2 x34_2).f0) ((rd_T95 x897006_2 x34_2).f1) ((rd_T95 x897006_2 x34_2).f2) ((rd_T95 x897006_2 x34_2).f3) ((rd_T95 x897006_2 x34_2).f4) (wrap64 ((wrap64 (((rd_T95 x897006_2 x34_2).f0) + ((rd_T95 x897006_2 x34_2).f1))) - a1))).bind fun bt901 => (if 0 ≤ x34_2 then (if x34_2 < (x897006_2.length : Int) then (spec_Withdraw.l0 kj41 a1 a2 (t887.length : Int) (wrap64 (x34_2 + 1)) t877 t880 t881 t882 t883 t886 (x897006_2.set (x34_2 : Int).toNat (⟨bt901.1, bt901.2.1, bt901.2.2.1, bt901.2.2.2.1, bt901.2.2.2.2⟩ : S95)) t890 t893) else (none)) else (none))) = some (r1, r2, r3, r4, r5, r6, r7, r8, r9, r10) := by rw [if_pos rfl] at H; exact H
              clear H
              have H := H1
              clear H1
              replace H := Option.bind_eq_some_iff.mp H
              obtain ⟨⟨t901, t902, t903, t904, t905⟩, A730, H⟩ := H
              replace H : (if 0 ≤ x34_2 then (if x34_2 < (x897006_2.length : Int) then (spec_Withdraw.l0 kj41 a1 a2 (t887.length : Int) (wrap64 (x34_2 + 1)) t877 t880 t881 t882 t883 t886 (x897006_2.set (x34_2 : Int).toNat (⟨t901, t902, t903, t904, t905⟩ : S95)) t890 t893) else (none)) else (none)) = some (r1, r2, r3, r4, r5, r6, r7, r8, r9, r10) := H
              have A73 := dk A730
              clear A730
              by_cases c74 : 0 ≤ x34_2
              ·rw [if_pos c74] at H
               have c74b0 : decide (0 ≤ x34_2) = true := decide_eq_true c74
               clear c74
               by_cases c75 : x34_2 < (x897006_2.length : Int)
               ·rw [if_pos c75] at H
                have c75b0 : decide (x34_2 < (x897006_2.length : Int)) = true := decide_eq_true c75
                clear c75
                obtain ⟨y906, hy906⟩ : ∃ y_ : List (S95), y_ = (x897006_2.set (x34_2 : Int).toNat (⟨t901, t902, t903, t904, t905⟩ : S95)) := ⟨_, rfl⟩
                replace H : (spec_Withdraw.l0 kj41 a1 a2 (t887.length : Int) (wrap64 (x34_2 + 1)) t877 t880 t881 t882 t883 t886 y906 t890 t893) = some (r1, r2, r3, r4, r5, r6, r7, r8, r9, r10) := by first | (rw [hy906]; with_reducible exact H) | (have H2_ := (Option.bind_some _ _).symm.trans H; rw [hy906]; with_reducible exact H2_) | (have H2_ := (Option.bind_some _ _).symm.trans H; with_reducible exact H2_) | with_reducible exact H | (rw [hy906]; exact H) | exact H
                have Ny906 := dk hy906
                clear hy906
                have H' := dk H
                clear H
                have hnb77 := NB898_872.out
                have hnc77 := NB872_898.out
                have hnb78 := NB898_873.out
                have hnc78 := NB873_898.out
                have hnb79 := NB898_896.out
                have hnc79 := NB896_898.out
                have ⟨z80_0, z80_1, z80_2, z80_3, z80_4, v80_0, v80_1, v80_2, v80_3, v80_4⟩ := rz5 BK898
                try go_wp2_with (first | ((with_reducible refine gate_callee (f := 77) rfl ?_); refine gl (some 63) Try.func77 #[.agg #[.int .i64 ((rd_T95 x897006_2 x34_2).f0), .int .i64 ((rd_T95 x897006_2 x34_2).f1), .int .i64 ((rd_T95 x897006_2 x34_2).f2), .int .i64 ((rd_T95 x897006_2 x34_2).f3), .int .i64 ((rd_T95 x897006_2 x34_2).f4)]] ?_; (with_reducible refine (spec_IsOpen.calls ((rd_T95 x897006_2 x34_2).f0) ((rd_T95 x897006_2 x34_2).f1) ((rd_T95 x897006_2 x34_2).f2) ((rd_T95 x897006_2 x34_2).f3) ((rd_T95 x897006_2 x34_2).f4) true _ A71.out).mono ?_); rintro e w81 ⟨rfl, hb⟩; refine ⟨_, rfl, ?_⟩; replace HO_897000 := kr HO_897000 hb; replace HO_897004 := kr HO_897004 hb; replace HO_897006 := kr HO_897006 hb; replace HO_897007 := kr HO_897007 hb; replace HO_897008 := kr HO_897008 hb; replace BK872 := kb BK872 hb; replace BK873 := kb BK873 hb; replace BK896 := kb BK896 hb; replace BK898 := kb BK898 hb; replace HB := hs_ HB hb; (try clear hb hb2 hk hi)))
                replace HO_897000 := dk (Kd.R_drew HO_897000.out)
                replace HO_897004 := dk (Kd.R_drew HO_897004.out)
                replace HO_897006 := dk (Kd.R_drew HO_897006.out)
                replace HO_897007 := dk (Kd.R_drew HO_897007.out)
                replace HO_897008 := dk (Kd.R_drew HO_897008.out)
                replace BK872 := dk (blk_drew BK872.out)
                replace BK873 := dk (blk_drew BK873.out)
                replace BK896 := dk (blk_drew BK896.out)
                replace BK898 := dk (blk_drew BK898.out)
                replace HB := dk (below_drew1 HB.out)
                refine start_ (n := 14) (S := fun w' => w'.cell? ⟨gb896, 0, none⟩ = some (.slice Ao31 t877.length co31) ∧ w'.cell? ⟨gb896, 1, none⟩ = some (.int .i64 t880) ∧ w'.cell? ⟨gb896, 2, none⟩ = some (.int .i64 t881) ∧ w'.cell? ⟨gb896, 3, none⟩ = some (.int .i64 t882) ∧ w'.cell? ⟨gb896, 4, none⟩ = some (.slice Ao35 t883.length co35) ∧ w'.cell? ⟨gb896, 5, none⟩ = some (.bool t886) ∧ w'.cell? ⟨gb896, 6, none⟩ = some (.slice (some ad897) x897006_2.length co36) ∧ w'.cell? ⟨gb896, 7, none⟩ = some (.slice Ao37 t890.length co37) ∧ w'.cell? ⟨gb896, 8, none⟩ = some (.slice Ao38 t893.length co38) ∧ w'.cell? ⟨gb898, 0, none⟩ = some (.int .i64 ((rd_T95 x897006_2 x34_2).f0)) ∧ w'.cell? ⟨gb898, 1, none⟩ = some (.int .i64 ((rd_T95 x897006_2 x34_2).f1)) ∧ w'.cell? ⟨gb898, 2, none⟩ = some (.int .i64 ((rd_T95 x897006_2 x34_2).f2)) ∧ w'.cell? ⟨gb898, 3, none⟩ = some (.int .i64 ((rd_T95 x897006_2 x34_2).f3)) ∧ w'.cell? ⟨gb898, 4, none⟩ = some (.int .i64 ((rd_T95 x897006_2 x34_2).f4))) (ds := [13]) #[false, false, false, false, false, false, false, false, false, false, false, false, false, false] (by kernel_rfl) rfl rfl ⟨bc BK896 0, bc BK896 1, bc BK896 2, bc BK896 3, bc BK896 4, bc BK896 5, bc BK896 6, bc BK896 7, bc BK896 8, bc BK898 0, bc BK898 1, bc BK898 2, bc BK898 3, bc BK898 4⟩ (fun hHeld => ?_); refine with_tabW spec_Withdraw.tab11 spec_Withdraw.bits11 (fun HT_ HW_ => ?_)
                generalize w81.drew = w82 at HO_897000 HO_897004 HO_897006 HO_897007 HO_897008 BK872 BK873 BK896 BK898 HB hHeld ⊢
                refine pz_ 0 64 ?_
                refine pz_ 2 66 ?_
                refine pz_ 4 68 ?_
                refine pz_ 6 70 ?_
                refine pz_ 9 73 ?_
                refine tk_ 1 65 ?_
                refine tk_ 3 67 ?_
                refine tk_ 5 69 ?_
                refine tk_ 7 71 ?_
                refine pz_ 8 72 ?_
                refine pz_ 10 74 ?_
                refine one_ (i := 11) (N := some 75) #[true, true, true, true, true, true, true, true, true, true, true, true, false, false] rfl rfl (one_of HT_.out (by kernel_rfl)) (by decide) (fun K hK => ?_)
                refine goes_ Try.func58 (by kernel_rfl) rfl #[.agg #[.int .i64 ((rd_T95 x897006_2 x34_2).f0), .int .i64 ((rd_T95 x897006_2 x34_2).f1), .int .i64 ((rd_T95 x897006_2 x34_2).f2), .int .i64 ((rd_T95 x897006_2 x34_2).f3), .int .i64 ((rd_T95 x897006_2 x34_2).f4)], .int .i64 (wrap64 ((wrap64 (((rd_T95 x897006_2 x34_2).f0) + ((rd_T95 x897006_2 x34_2).f1))) - a1))] (by rfl) rfl rfl (by (try simp only [List.map_toArray, List.map_cons, List.map_nil]); first | done | rfl | (simp only [List.length_drop, List.length_take]; rfl)) ?_
                with_reducible refine (spec_l21Award.calls ((rd_T95 x897006_2 x34_2).f0) ((rd_T95 x897006_2 x34_2).f1) ((rd_T95 x897006_2 x34_2).f2) ((rd_T95 x897006_2 x34_2).f3) ((rd_T95 x897006_2 x34_2).f4) (wrap64 ((wrap64 (((rd_T95 x897006_2 x34_2).f0) + ((rd_T95 x897006_2 x34_2).f1))) - a1)) t901 t902 t903 t904 t905 _ A73.out).mono ?_
                rintro e w83 ⟨rfl, hb⟩
                refine ⟨_, rfl, ?_⟩
                replace HO_897000 := kr HO_897000 hb
                replace HO_897004 := kr HO_897004 hb
                replace HO_897006 := kr HO_897006 hb
                replace HO_897007 := kr HO_897007 hb
                replace HO_897008 := kr HO_897008 hb
                replace BK872 := kb BK872 hb
                replace BK873 := kb BK873 hb
                replace BK896 := kb BK896 hb
                replace BK898 := kb BK898 hb
                replace HB := hs_ HB hb
                (try clear hb hb2 hk hi)
                have p76 : 0 ≤ (x34_2 : Int) := oa
                have q76 : (x34_2 : Int) < ((x897006_2.length : Int) : Int) := oa
                obtain ⟨go76, co76, eo76, gb76, gl76, cl76, HG76⟩ := Kd.R_form HO_897006.out (by omega)
                (first | cases eo76 | (injection eo76 with ea_ en_ ec_; (first | subst ea_ | (injection ea_ with ea_; subst ea_)); subst ec_; clear en_))
                have GB76 := dk gb76
                have GG76 := dk HG76
                clear gb76 gl76 HG76
                obtain ⟨ce76, hcl76, hM76, hcc76, hfr76⟩ := Kd.R_elem HO_897006.out z95 (x34_2 : Int) p76 q76
                obtain rfl := k95_openM hM76
                have hx76_0 : World.cell? _ ⟨go76, (x34_2 : Int).toNat * 5, none⟩ = some (.int .i64 ((rd_T95 x897006_2 x34_2).f0)) := hcc76 0 _ rfl
                have hx76_1 : World.cell? _ ⟨go76, (x34_2 : Int).toNat * 5 + 1, none⟩ = some (.int .i64 ((rd_T95 x897006_2 x34_2).f1)) := hcc76 1 _ rfl
                have hx76_2 : World.cell? _ ⟨go76, (x34_2 : Int).toNat * 5 + 2, none⟩ = some (.int .i64 ((rd_T95 x897006_2 x34_2).f2)) := hcc76 2 _ rfl
                have hx76_3 : World.cell? _ ⟨go76, (x34_2 : Int).toNat * 5 + 3, none⟩ = some (.int .i64 ((rd_T95 x897006_2 x34_2).f3)) := hcc76 3 _ rfl
                have hx76_4 : World.cell? _ ⟨go76, (x34_2 : Int).toNat * 5 + 4, none⟩ = some (.int .i64 ((rd_T95 x897006_2 x34_2).f4)) := hcc76 4 _ rfl
                have hf76_0 : World.frozen? _ ⟨go76, (x34_2 : Int).toNat * 5, none⟩ = false := hfr76 0
                have hf76_1 : World.frozen? _ ⟨go76, (x34_2 : Int).toNat * 5 + 1, none⟩ = false := hfr76 1
                have hf76_2 : World.frozen? _ ⟨go76, (x34_2 : Int).toNat * 5 + 2, none⟩ = false := hfr76 2
                have hf76_3 : World.frozen? _ ⟨go76, (x34_2 : Int).toNat * 5 + 3, none⟩ = false := hfr76 3
                have hf76_4 : World.frozen? _ ⟨go76, (x34_2 : Int).toNat * 5 + 4, none⟩ = false := hfr76 4
                clear hcl76 hcc76 hfr76; (try clear hM76)
                replace p76 := eq_true p76
                replace q76 := eq_true q76
                obtain ⟨ce84, hcl84, hM84, hcc84, hfr84⟩ := Kd.R_elem HO_897006.out z95 (x34_2 : Int) (oa) (by have h_ : (x34_2 : Int) < ((x897006_2.length : Int) : Int) := oa; first | exact h_ | (have e_ := (Kd.R_reads' HO_897006.out).1; omega) | simpa using h_)
                obtain rfl := k95_openM hM84
                have HP84 := (Kd.R_seg HO_897006.out (x34_2 : Int) (oa) (by have h_ : (x34_2 : Int) < ((x897006_2.length : Int) : Int) := oa; first | exact h_ | (have e_ := (Kd.R_reads' HO_897006.out).1; omega) | simpa using h_) (seg := [.int .i64 t901, .int .i64 t902, .int .i64 t903, .int .i64 t904, .int .i64 t905]) (j := 0) hcl84 hcc84 (show 5 ≤ 5 from by decide) (x' := (⟨t901, t902, t903, t904, t905⟩ : S95)) (k95_mkM _ _ _ (⟨t901, t902, t903, t904, t905⟩ : S95) ) (fun _ hk => hk)).1
                rw [← Ny906.out] at HP84
                have HQ84 := dk HP84
                clear hcl84 hcc84 hfr84 hM84 HP84
                refine hK.out _ _ ⟨bc BK896 0, bc BK896 1, bc BK896 2, bc BK896 3, bc BK896 4, bc BK896 5, bc BK896 6, bc BK896 7, bc BK896 8, bc BK898 0, bc BK898 1, bc BK898 2, bc BK898 3, bc BK898 4⟩ (fun hHeld => ?_)
                clear hK K
                refine norm_ (a' := ?_) ?_ ?_
                rotate_left
                ·show Act.put _ (some 75) _ = _
                 simp only [Act.put, List.setIfInBounds_toArray, List.set_cons_zero, List.set_cons_succ, i64_w, i32_w]
                 rfl
                refine pz_ 12 76 ?_
                refine last_ (i := 13) (N := none) #[true, true, true, true, true, true, true, true, true, true, true, true, true, true] rfl rfl (one_of HT_.out (by kernel_rfl)) (by decide) (fun K hK => ?_)
                refine skip_ (w1 := ?_) (by rfl) rfl ?_ ?_
                rotate_left
                ·go_simp
                 rfl
                refine hK.out _ _ ?_
                clear hK K
                refine done_ (done_of HT_.out (by kernel_rfl)) ?_
                try go_wp2
                (try simp only [← hl897006_2])
                go_roundg kj41
                case measure => have := HJ3.out; have := HK2.out; have := HJ41.out; omega
                case rel => exact ⟨(wrap64 (x34_2 + 1)), (y906), e2_, H', ⟨by have := HJ3.out; have := HK2.out; have := HJ41.out; omega⟩, ⟨by (try simp only [hl897006_2]); (with_reducible repeat (first | apply Kd.R_alloc | apply Kd.R_drewN | apply Kd.R_drew)); exact Kd.R_mono (Kd.R_far (p := ⟨go76, (x34_2 : Int).toNat * 5 + 4, none⟩) (Kd.R_far (p := ⟨go76, (x34_2 : Int).toNat * 5 + 3, none⟩) (Kd.R_far (p := ⟨go76, (x34_2 : Int).toNat * 5 + 2, none⟩) (Kd.R_far (p := ⟨go76, (x34_2 : Int).toNat * 5 + 1, none⟩) (Kd.R_far (p := ⟨go76, (x34_2 : Int).toNat * 5, none⟩) (Kd.R_types HO_897000.out GG76.out (by decide)) (fun _ hk => hk.2) (.int .i64 t901)) (fun _ hk => hk.2) (.int .i64 t902)) (fun _ hk => hk.2) (.int .i64 t903)) (fun _ hk => hk.2) (.int .i64 t904)) (fun _ hk => hk.2) (.int .i64 t905)) (fun _ hk => trivial)⟩, ⟨by (try simp only [hl897006_2]); (with_reducible repeat (first | apply Kd.R_alloc | apply Kd.R_drewN | apply Kd.R_drew)); exact Kd.R_mono (Kd.R_far (p := ⟨go76, (x34_2 : Int).toNat * 5 + 4, none⟩) (Kd.R_far (p := ⟨go76, (x34_2 : Int).toNat * 5 + 3, none⟩) (Kd.R_far (p := ⟨go76, (x34_2 : Int).toNat * 5 + 2, none⟩) (Kd.R_far (p := ⟨go76, (x34_2 : Int).toNat * 5 + 1, none⟩) (Kd.R_far (p := ⟨go76, (x34_2 : Int).toNat * 5, none⟩) (Kd.R_types HO_897004.out GG76.out (by decide)) (fun _ hk => hk.2) (.int .i64 t901)) (fun _ hk => hk.2) (.int .i64 t902)) (fun _ hk => hk.2) (.int .i64 t903)) (fun _ hk => hk.2) (.int .i64 t904)) (fun _ hk => hk.2) (.int .i64 t905)) (fun _ hk => ⟨hk.1.1, hk.1.2⟩)⟩, ⟨by (try simp only [hl897006_2]); (with_reducible repeat (first | apply Kd.R_alloc | apply Kd.R_drewN | apply Kd.R_drew)); exact Kd.R_mono HQ84.out (fun _ hk => trivial)⟩, ⟨by (try simp only [hl897006_2]); (with_reducible repeat (first | apply Kd.R_alloc | apply Kd.R_drewN | apply Kd.R_drew)); exact Kd.R_mono (Kd.R_far (p := ⟨go76, (x34_2 : Int).toNat * 5 + 4, none⟩) (Kd.R_far (p := ⟨go76, (x34_2 : Int).toNat * 5 + 3, none⟩) (Kd.R_far (p := ⟨go76, (x34_2 : Int).toNat * 5 + 2, none⟩) (Kd.R_far (p := ⟨go76, (x34_2 : Int).toNat * 5 + 1, none⟩) (Kd.R_far (p := ⟨go76, (x34_2 : Int).toNat * 5, none⟩) (Kd.R_types HO_897007.out GG76.out (by decide)) (fun _ hk => hk.2) (.int .i64 t901)) (fun _ hk => hk.2) (.int .i64 t902)) (fun _ hk => hk.2) (.int .i64 t903)) (fun _ hk => hk.2) (.int .i64 t904)) (fun _ hk => hk.2) (.int .i64 t905)) (fun _ hk => ⟨hk.1.1, hk.1.2⟩)⟩, ⟨by (try simp only [hl897006_2]); (with_reducible repeat (first | apply Kd.R_alloc | apply Kd.R_drewN | apply Kd.R_drew)); exact Kd.R_mono (Kd.R_far (p := ⟨go76, (x34_2 : Int).toNat * 5 + 4, none⟩) (Kd.R_far (p := ⟨go76, (x34_2 : Int).toNat * 5 + 3, none⟩) (Kd.R_far (p := ⟨go76, (x34_2 : Int).toNat * 5 + 2, none⟩) (Kd.R_far (p := ⟨go76, (x34_2 : Int).toNat * 5 + 1, none⟩) (Kd.R_far (p := ⟨go76, (x34_2 : Int).toNat * 5, none⟩) (Kd.R_types HO_897008.out GG76.out (by decide)) (fun _ hk => hk.2) (.int .i64 t901)) (fun _ hk => hk.2) (.int .i64 t902)) (fun _ hk => hk.2) (.int .i64 t903)) (fun _ hk => hk.2) (.int .i64 t904)) (fun _ hk => hk.2) (.int .i64 t905)) (fun _ hk => ⟨hk.1.1, hk.1.2⟩)⟩, ⟨by (try simp only [hl897006_2]); exact bg HO_897006 BK872⟩, ⟨by (try simp only [hl897006_2]); exact bg HO_897006 BK873⟩, ⟨by (try simp only [hl897006_2]); exact bg HO_897006 BK896⟩, ⟨bb HB⟩⟩
               ·rw [if_neg c75] at H
                exact absurd H (by simp)
              ·rw [if_neg c74] at H
               exact absurd H (by simp)
             ·replace c72 := Bool.eq_false_iff.mpr c72
              subst c72
              have H1 : (spec_Withdraw.l0 kj41 a1 a2 (t887.length : Int) (wrap64 (x34_2 + 1)) t877 t880 t881 t882 t883 t886 x897006_2 t890 t893) = some (r1, r2, r3, r4, r5, r6, r7, r8, r9, r10) := by rw [if_neg (show ¬ (false = true) by decide)] at H; exact H
              clear H
              have H := H1
              clear H1
              have H' := dk H
              clear H
              have hnb85 := NB898_872.out
              have hnc85 := NB872_898.out
              have hnb86 := NB898_873.out
              have hnc86 := NB873_898.out
              have hnb87 := NB898_896.out
              have hnc87 := NB896_898.out
              have ⟨z88_0, z88_1, z88_2, z88_3, z88_4, v88_0, v88_1, v88_2, v88_3, v88_4⟩ := rz5 BK898
              go_wp2_with (first | ((with_reducible refine gate_callee (f := 77) rfl ?_); refine gl (some 63) Try.func77 #[.agg #[.int .i64 ((rd_T95 x897006_2 x34_2).f0), .int .i64 ((rd_T95 x897006_2 x34_2).f1), .int .i64 ((rd_T95 x897006_2 x34_2).f2), .int .i64 ((rd_T95 x897006_2 x34_2).f3), .int .i64 ((rd_T95 x897006_2 x34_2).f4)]] ?_; (with_reducible refine (spec_IsOpen.calls ((rd_T95 x897006_2 x34_2).f0) ((rd_T95 x897006_2 x34_2).f1) ((rd_T95 x897006_2 x34_2).f2) ((rd_T95 x897006_2 x34_2).f3) ((rd_T95 x897006_2 x34_2).f4) false _ A71.out).mono ?_); rintro e w89 ⟨rfl, hb⟩; refine ⟨_, rfl, ?_⟩; replace HO_897000 := kr HO_897000 hb; replace HO_897004 := kr HO_897004 hb; replace HO_897006 := kr HO_897006 hb; replace HO_897007 := kr HO_897007 hb; replace HO_897008 := kr HO_897008 hb; replace BK872 := kb BK872 hb; replace BK873 := kb BK873 hb; replace BK896 := kb BK896 hb; replace BK898 := kb BK898 hb; replace HB := hs_ HB hb; (try clear hb hb2 hk hi)))
              (try simp only [← hl897006_2])
              go_roundg kj41
              case measure => have := HJ3.out; have := HK2.out; have := HJ41.out; omega
              case rel => exact ⟨(wrap64 (x34_2 + 1)), (x897006_2), e2_, H', ⟨by have := HJ3.out; have := HK2.out; have := HJ41.out; omega⟩, ⟨by (try simp only [hl897006_2]); (with_reducible repeat (first | apply Kd.R_alloc | apply Kd.R_drewN | apply Kd.R_drew)); exact HO_897000.out⟩, ⟨by (try simp only [hl897006_2]); (with_reducible repeat (first | apply Kd.R_alloc | apply Kd.R_drewN | apply Kd.R_drew)); exact HO_897004.out⟩, ⟨by (try simp only [hl897006_2]); (with_reducible repeat (first | apply Kd.R_alloc | apply Kd.R_drewN | apply Kd.R_drew)); exact Kd.R_mono HO_897006.out (fun _ hk => trivial)⟩, ⟨by (try simp only [hl897006_2]); (with_reducible repeat (first | apply Kd.R_alloc | apply Kd.R_drewN | apply Kd.R_drew)); exact HO_897007.out⟩, ⟨by (try simp only [hl897006_2]); (with_reducible repeat (first | apply Kd.R_alloc | apply Kd.R_drewN | apply Kd.R_drew)); exact HO_897008.out⟩, ⟨by (try simp only [hl897006_2]); (with_reducible repeat (first | refine blk_drewN ?_ _ | refine blk_drew ?_ | refine blk_alloc ?_ _)); exact BK872.out⟩, ⟨by (try simp only [hl897006_2]); (with_reducible repeat (first | refine blk_drewN ?_ _ | refine blk_drew ?_ | refine blk_alloc ?_ _)); exact BK873.out⟩, ⟨by (try simp only [hl897006_2]); (with_reducible repeat (first | refine blk_drewN ?_ _ | refine blk_drew ?_ | refine blk_alloc ?_ _)); exact BK896.out⟩, ⟨bb HB⟩⟩
        ·rw [if_neg c41] at H
         exact absurd H (by simp)
       ·rw [if_neg c40] at H
        exact absurd H (by simp)
      ·rw [if_neg c39] at H
       have c39b0 : decide (x34_2 < (t887.length : Int)) = false := decide_eq_false c39
       have c39r0 := c39b0
       (try simp only [hl897006_2] at c39r0)
       clear c39
       simp only [Option.some.injEq, Prod.mk.injEq] at H
       obtain ⟨rfl, rfl, rfl, rfl, rfl, rfl, rfl, rfl, rfl, rfl⟩ := H
       have hnb90 := NB896_872.out
       have hnc90 := NB872_896.out
       have hnb91 := NB896_873.out
       have hnc91 := NB873_896.out
       have ⟨z92_0, z92_1, z92_2, z92_3, z92_4, z92_5, z92_6, z92_7, z92_8, v92_0, v92_1, v92_2, v92_3, v92_4, v92_5, v92_6, v92_7, v92_8⟩ := rz9 BK896
       have hnb93 := NB873_872.out
       have hnc93 := NB872_873.out
       have ⟨z94_0, z94_1, z94_2, z94_3, z94_4, z94_5, z94_6, z94_7, z94_8, v94_0, v94_1, v94_2, v94_3, v94_4, v94_5, v94_6, v94_7, v94_8⟩ := rz9 BK873
       go_wp2
       refine bodyPost_ret (results_ct rfl _ _ gb873 36 #[.slice Ao31 t877.length co31, .int .i64 t880, .int .i64 t881, .int .i64 t882, .slice Ao35 t883.length co35, .bool t886, .slice Ao36 x897006_2.length co36, .slice Ao37 t890.length co37, .slice Ao38 t893.length co38] (0, 0) _ rfl (bp BK873) Try.underlying36 rfl (by kernel_rfl)) rfl ?_
       exact ⟨_, _, _, _, _, ee, rf HO_897000 BK873 (fun _ hk => trivial), rf HO_897004 BK873 (fun _ hk => ⟨hk.1.1, hk.1.2⟩), rf HO_897006 BK873 (fun _ hk => trivial), rf HO_897007 BK873 (fun _ hk => ⟨hk.1.1, hk.1.2⟩), rf HO_897008 BK873 (fun _ hk => ⟨hk.1.1, hk.1.2⟩), bb HB⟩
end Go.Proofs.Ythfefanapneocaa.Q
end
namespace Go.Proofs.Ythfefanapneocaa.Q
open Go.RowKit Go.Proofs.YthfefanapneocaaW.PrintWords Go.Proofs.YthfefanapneocaaW.PrintLast Go.Proofs.YthfefanapneocaaW.PrintMore
attribute [local go_sem] max2_int min2_int max_two min_two max_three min_three max_four min_four
set_option linter.unusedVariables false
set_option linter.unusedSimpArgs false
set_option maxRecDepth 100000
set_option maxHeartbeats 8000000
def spec_GoalsOf.f (a0_0 : Int) (a0_1 : Int) (a0_2 : Int) (a0_3 : Int) (a0_4 : Int) : Option (Int × Int × Bool) := if a0_4 = 1 then (some (a0_2, a0_3, true)) else (if a0_4 = 2 then (some (3, 0, true)) else (if a0_4 = 3 then (some (0, 3, true)) else (some (0, 0, false))))
theorem spec_GoalsOf.calls (a0_0 : Int) (a0_1 : Int) (a0_2 : Int) (a0_3 : Int) (a0_4 : Int) (r1 : Int) (r2 : Int) (r3 : Bool) (w : World) (h : spec_GoalsOf.f a0_0 a0_1 a0_2 a0_3 a0_4 = some (r1, r2, r3)) :
  Calls Try.prog 168 #[.agg #[.int .i64 a0_0, .int .i64 a0_1, .int .i64 a0_2, .int .i64 a0_3, .int .i64 a0_4]] w fun e w' => e = .returned (.tuple #[.int .i64 r1, .int .i64 r2, .bool r3]) ∧ Below w.heap.size w w' := by
 have hu95 := Try.underlying95
 have HB := dk (Below.refl w.heap.size w)
 have H : (if a0_4 = 1 then (some (a0_2, a0_3, true)) else (if a0_4 = 2 then (some (3, 0, true)) else (if a0_4 = 3 then (some (0, 3, true)) else (some (0, 0, false))))) = some (r1, r2, r3) := h
 clear h
 by_cases c2 : a0_4 = 1
 ·rw [if_pos c2] at H
  have c2b0 : (a0_4 == 1) = true := beq_iff_eq.mpr c2
  have c2b1 : (a0_4 != 1) = false := bne_eq_false_iff_eq.mpr c2
  clear c2
  simp only [Option.some.injEq, Prod.mk.injEq] at H
  obtain ⟨rfl, rfl, rfl⟩ := H
  go_enter Try.func168, Try.ntmps168
  go_wp2_with (first | ((with_reducible refine gate_dst (N := 1) rfl ?_); refine bx (N := 1) (cs := #[.int .i64 a0_0, .int .i64 a0_1, .int .i64 a0_2, .int .i64 a0_3, .int .i64 a0_4]) (t := 95) ?_; intro gb1106 hg w3 hbox hb; have BK1106 := dk (hbox); have GW1106 := gs hg HB; have GE1106 := gs hg HB; replace HB := hs_ HB hb; clear hb hbox hg; have ⟨z4_0, z4_1, z4_2, z4_3, z4_4, v4_0, v4_1, v4_2, v4_3, v4_4⟩ := rz5 BK1106))
  repeat (go_quiet (first | ((with_reducible refine gate_dst (N := 1) rfl ?_); refine bx (N := 1) (cs := #[.int .i64 a0_0, .int .i64 a0_1, .int .i64 a0_2, .int .i64 a0_3, .int .i64 a0_4]) (t := 95) ?_; intro gb1106 hg w3 hbox hb; have BK1106 := dk (hbox); have GW1106 := gs hg HB; have GE1106 := gs hg HB; replace HB := hs_ HB hb; clear hb hbox hg; have ⟨z4_0, z4_1, z4_2, z4_3, z4_4, v4_0, v4_1, v4_2, v4_3, v4_4⟩ := rz5 BK1106)); try go_wp2_with (first | ((with_reducible refine gate_dst (N := 1) rfl ?_); refine bx (N := 1) (cs := #[.int .i64 a0_0, .int .i64 a0_1, .int .i64 a0_2, .int .i64 a0_3, .int .i64 a0_4]) (t := 95) ?_; intro gb1106 hg w3 hbox hb; have BK1106 := dk (hbox); have GW1106 := gs hg HB; have GE1106 := gs hg HB; replace HB := hs_ HB hb; clear hb hbox hg; have ⟨z4_0, z4_1, z4_2, z4_3, z4_4, v4_0, v4_1, v4_2, v4_3, v4_4⟩ := rz5 BK1106)))
  go_ret3
  exact ⟨ee, bb HB⟩
 ·rw [if_neg c2] at H
  have c2b0 : (a0_4 == 1) = false := beq_eq_false_iff_ne.mpr c2
  have c2b1 : (a0_4 != 1) = true := bne_iff_ne.mpr c2
  by_cases c5 : a0_4 = 2
  ·rw [if_pos c5] at H
   have c5b0 : (a0_4 == 2) = true := beq_iff_eq.mpr c5
   have c5b1 : (a0_4 != 2) = false := bne_eq_false_iff_eq.mpr c5
   clear c5
   simp only [Option.some.injEq, Prod.mk.injEq] at H
   obtain ⟨rfl, rfl, rfl⟩ := H
   go_enter Try.func168, Try.ntmps168
   go_wp2_with (first | ((with_reducible refine gate_dst (N := 1) rfl ?_); refine bx (N := 1) (cs := #[.int .i64 a0_0, .int .i64 a0_1, .int .i64 a0_2, .int .i64 a0_3, .int .i64 a0_4]) (t := 95) ?_; intro gb1106 hg w6 hbox hb; have BK1106 := dk (hbox); have GW1106 := gs hg HB; have GE1106 := gs hg HB; replace HB := hs_ HB hb; clear hb hbox hg; have ⟨z7_0, z7_1, z7_2, z7_3, z7_4, v7_0, v7_1, v7_2, v7_3, v7_4⟩ := rz5 BK1106))
   repeat (go_quiet (first | ((with_reducible refine gate_dst (N := 1) rfl ?_); refine bx (N := 1) (cs := #[.int .i64 a0_0, .int .i64 a0_1, .int .i64 a0_2, .int .i64 a0_3, .int .i64 a0_4]) (t := 95) ?_; intro gb1106 hg w6 hbox hb; have BK1106 := dk (hbox); have GW1106 := gs hg HB; have GE1106 := gs hg HB; replace HB := hs_ HB hb; clear hb hbox hg; have ⟨z7_0, z7_1, z7_2, z7_3, z7_4, v7_0, v7_1, v7_2, v7_3, v7_4⟩ := rz5 BK1106)); try go_wp2_with (first | ((with_reducible refine gate_dst (N := 1) rfl ?_); refine bx (N := 1) (cs := #[.int .i64 a0_0, .int .i64 a0_1, .int .i64 a0_2, .int .i64 a0_3, .int .i64 a0_4]) (t := 95) ?_; intro gb1106 hg w6 hbox hb; have BK1106 := dk (hbox); have GW1106 := gs hg HB; have GE1106 := gs hg HB; replace HB := hs_ HB hb; clear hb hbox hg; have ⟨z7_0, z7_1, z7_2, z7_3, z7_4, v7_0, v7_1, v7_2, v7_3, v7_4⟩ := rz5 BK1106)))
   go_ret3
   exact ⟨ee, bb HB⟩
  ·rw [if_neg c5] at H
   have c5b0 : (a0_4 == 2) = false := beq_eq_false_iff_ne.mpr c5
   have c5b1 : (a0_4 != 2) = true := bne_iff_ne.mpr c5
   by_cases c8 : a0_4 = 3
   ·rw [if_pos c8] at H
    have c8b0 : (a0_4 == 3) = true := beq_iff_eq.mpr c8
    have c8b1 : (a0_4 != 3) = false := bne_eq_false_iff_eq.mpr c8
    clear c8
    simp only [Option.some.injEq, Prod.mk.injEq] at H
    obtain ⟨rfl, rfl, rfl⟩ := H
    go_enter Try.func168, Try.ntmps168
    go_wp2_with (first | ((with_reducible refine gate_dst (N := 1) rfl ?_); refine bx (N := 1) (cs := #[.int .i64 a0_0, .int .i64 a0_1, .int .i64 a0_2, .int .i64 a0_3, .int .i64 a0_4]) (t := 95) ?_; intro gb1106 hg w9 hbox hb; have BK1106 := dk (hbox); have GW1106 := gs hg HB; have GE1106 := gs hg HB; replace HB := hs_ HB hb; clear hb hbox hg; have ⟨z10_0, z10_1, z10_2, z10_3, z10_4, v10_0, v10_1, v10_2, v10_3, v10_4⟩ := rz5 BK1106))
    repeat (go_quiet (first | ((with_reducible refine gate_dst (N := 1) rfl ?_); refine bx (N := 1) (cs := #[.int .i64 a0_0, .int .i64 a0_1, .int .i64 a0_2, .int .i64 a0_3, .int .i64 a0_4]) (t := 95) ?_; intro gb1106 hg w9 hbox hb; have BK1106 := dk (hbox); have GW1106 := gs hg HB; have GE1106 := gs hg HB; replace HB := hs_ HB hb; clear hb hbox hg; have ⟨z10_0, z10_1, z10_2, z10_3, z10_4, v10_0, v10_1, v10_2, v10_3, v10_4⟩ := rz5 BK1106)); try go_wp2_with (first | ((with_reducible refine gate_dst (N := 1) rfl ?_); refine bx (N := 1) (cs := #[.int .i64 a0_0, .int .i64 a0_1, .int .i64 a0_2, .int .i64 a0_3, .int .i64 a0_4]) (t := 95) ?_; intro gb1106 hg w9 hbox hb; have BK1106 := dk (hbox); have GW1106 := gs hg HB; have GE1106 := gs hg HB; replace HB := hs_ HB hb; clear hb hbox hg; have ⟨z10_0, z10_1, z10_2, z10_3, z10_4, v10_0, v10_1, v10_2, v10_3, v10_4⟩ := rz5 BK1106)))
    go_ret3
    exact ⟨ee, bb HB⟩
   ·rw [if_neg c8] at H
    have c8b0 : (a0_4 == 3) = false := beq_eq_false_iff_ne.mpr c8
    have c8b1 : (a0_4 != 3) = true := bne_iff_ne.mpr c8
    simp only [Option.some.injEq, Prod.mk.injEq] at H
    obtain ⟨rfl, rfl, rfl⟩ := H
    go_enter Try.func168, Try.ntmps168
    go_wp2_with (first | ((with_reducible refine gate_dst (N := 1) rfl ?_); refine bx (N := 1) (cs := #[.int .i64 a0_0, .int .i64 a0_1, .int .i64 a0_2, .int .i64 a0_3, .int .i64 a0_4]) (t := 95) ?_; intro gb1106 hg w11 hbox hb; have BK1106 := dk (hbox); have GW1106 := gs hg HB; have GE1106 := gs hg HB; replace HB := hs_ HB hb; clear hb hbox hg; have ⟨z12_0, z12_1, z12_2, z12_3, z12_4, v12_0, v12_1, v12_2, v12_3, v12_4⟩ := rz5 BK1106))
    repeat (go_quiet (first | ((with_reducible refine gate_dst (N := 1) rfl ?_); refine bx (N := 1) (cs := #[.int .i64 a0_0, .int .i64 a0_1, .int .i64 a0_2, .int .i64 a0_3, .int .i64 a0_4]) (t := 95) ?_; intro gb1106 hg w11 hbox hb; have BK1106 := dk (hbox); have GW1106 := gs hg HB; have GE1106 := gs hg HB; replace HB := hs_ HB hb; clear hb hbox hg; have ⟨z12_0, z12_1, z12_2, z12_3, z12_4, v12_0, v12_1, v12_2, v12_3, v12_4⟩ := rz5 BK1106)); try go_wp2_with (first | ((with_reducible refine gate_dst (N := 1) rfl ?_); refine bx (N := 1) (cs := #[.int .i64 a0_0, .int .i64 a0_1, .int .i64 a0_2, .int .i64 a0_3, .int .i64 a0_4]) (t := 95) ?_; intro gb1106 hg w11 hbox hb; have BK1106 := dk (hbox); have GW1106 := gs hg HB; have GE1106 := gs hg HB; replace HB := hs_ HB hb; clear hb hbox hg; have ⟨z12_0, z12_1, z12_2, z12_3, z12_4, v12_0, v12_1, v12_2, v12_3, v12_4⟩ := rz5 BK1106)))
    go_ret3
    exact ⟨ee, bb HB⟩
def spec_OutcomeOf.f (a0_0 : Int) (a0_1 : Int) (a0_2 : Int) (a0_3 : Int) (a0_4 : Int) : Option (Int) := (spec_GoalsOf.f a0_0 a0_1 a0_2 a0_3 a0_4).bind fun bt1108 => (if bt1108.2.2 = true then (if bt1108.1 > bt1108.2.1 then (some 1) else (if bt1108.1 = bt1108.2.1 then (some 2) else (some 3))) else (some 0))
theorem spec_OutcomeOf.calls (a0_0 : Int) (a0_1 : Int) (a0_2 : Int) (a0_3 : Int) (a0_4 : Int) (r : Int) (w : World) (h : spec_OutcomeOf.f a0_0 a0_1 a0_2 a0_3 a0_4 = some r) :
  Calls Try.prog 169 #[.agg #[.int .i64 a0_0, .int .i64 a0_1, .int .i64 a0_2, .int .i64 a0_3, .int .i64 a0_4]] w fun e w' => e = .returned (.int .i64 r) ∧ Below w.heap.size w w' := by
 have hu95 := Try.underlying95
 have HB := dk (Below.refl w.heap.size w)
 have H : ((spec_GoalsOf.f a0_0 a0_1 a0_2 a0_3 a0_4).bind fun bt1108 => (if bt1108.2.2 = true then (if bt1108.1 > bt1108.2.1 then (some 1) else (if bt1108.1 = bt1108.2.1 then (some 2) else (some 3))) else (some 0))) = some r := h
 clear h
 replace H := Option.bind_eq_some_iff.mp H
 obtain ⟨⟨t1108, t1109, t1110⟩, A20, H⟩ := H
 try dsimp only at H
 have A2 := dk A20
 clear A20
 by_cases c3 : t1110 = true
 ·subst c3
  rw [if_pos rfl] at H
  by_cases c4 : t1108 > t1109
  ·rw [if_pos c4] at H
   have c4b0 : decide (t1109 < t1108) = true := decide_eq_true c4
   clear c4
   obtain rfl := Option.some.inj H
   go_enter Try.func169, Try.ntmps169
   go_wp2_with (first | ((with_reducible refine gate_dst (N := 1) rfl ?_); refine bx (N := 1) (cs := #[.int .i64 a0_0, .int .i64 a0_1, .int .i64 a0_2, .int .i64 a0_3, .int .i64 a0_4]) (t := 95) ?_; intro gb1107 hg w5 hbox hb; have BK1107 := dk (hbox); have GW1107 := gs hg HB; have GE1107 := gs hg HB; replace HB := hs_ HB hb; clear hb hbox hg; have ⟨z6_0, z6_1, z6_2, z6_3, z6_4, v6_0, v6_1, v6_2, v6_3, v6_4⟩ := rz5 BK1107) | ((with_reducible refine gate_callee (f := 168) rfl ?_); refine gl (some 8) Try.func168 #[.agg #[.int .i64 a0_0, .int .i64 a0_1, .int .i64 a0_2, .int .i64 a0_3, .int .i64 a0_4]] ?_; (with_reducible refine (spec_GoalsOf.calls a0_0 a0_1 a0_2 a0_3 a0_4 t1108 t1109 true _ A2.out).mono ?_); rintro e w7 ⟨rfl, hb⟩; refine ⟨_, rfl, ?_⟩; replace BK1107 := kb BK1107 hb; replace HB := hs_ HB hb; (try clear hb hb2 hk hi)))
   go_ret
   exact ⟨ee, bb HB⟩
  ·rw [if_neg c4] at H
   have c4b0 : decide (t1109 < t1108) = false := decide_eq_false c4
   clear c4
   by_cases c8 : t1108 = t1109
   ·rw [if_pos c8] at H
    have c8b0 : (t1108 == t1109) = true := beq_iff_eq.mpr c8
    have c8b1 : (t1108 != t1109) = false := bne_eq_false_iff_eq.mpr c8
    clear c8
    obtain rfl := Option.some.inj H
    go_enter Try.func169, Try.ntmps169
    go_wp2_with (first | ((with_reducible refine gate_dst (N := 1) rfl ?_); refine bx (N := 1) (cs := #[.int .i64 a0_0, .int .i64 a0_1, .int .i64 a0_2, .int .i64 a0_3, .int .i64 a0_4]) (t := 95) ?_; intro gb1107 hg w9 hbox hb; have BK1107 := dk (hbox); have GW1107 := gs hg HB; have GE1107 := gs hg HB; replace HB := hs_ HB hb; clear hb hbox hg; have ⟨z10_0, z10_1, z10_2, z10_3, z10_4, v10_0, v10_1, v10_2, v10_3, v10_4⟩ := rz5 BK1107) | ((with_reducible refine gate_callee (f := 168) rfl ?_); refine gl (some 8) Try.func168 #[.agg #[.int .i64 a0_0, .int .i64 a0_1, .int .i64 a0_2, .int .i64 a0_3, .int .i64 a0_4]] ?_; (with_reducible refine (spec_GoalsOf.calls a0_0 a0_1 a0_2 a0_3 a0_4 t1108 t1109 true _ A2.out).mono ?_); rintro e w11 ⟨rfl, hb⟩; refine ⟨_, rfl, ?_⟩; replace BK1107 := kb BK1107 hb; replace HB := hs_ HB hb; (try clear hb hb2 hk hi)))
    go_ret
    exact ⟨ee, bb HB⟩
   ·rw [if_neg c8] at H
    have c8b0 : (t1108 == t1109) = false := beq_eq_false_iff_ne.mpr c8
    have c8b1 : (t1108 != t1109) = true := bne_iff_ne.mpr c8
    obtain rfl := Option.some.inj H
    go_enter Try.func169, Try.ntmps169
    go_wp2_with (first | ((with_reducible refine gate_dst (N := 1) rfl ?_); refine bx (N := 1) (cs := #[.int .i64 a0_0, .int .i64 a0_1, .int .i64 a0_2, .int .i64 a0_3, .int .i64 a0_4]) (t := 95) ?_; intro gb1107 hg w12 hbox hb; have BK1107 := dk (hbox); have GW1107 := gs hg HB; have GE1107 := gs hg HB; replace HB := hs_ HB hb; clear hb hbox hg; have ⟨z13_0, z13_1, z13_2, z13_3, z13_4, v13_0, v13_1, v13_2, v13_3, v13_4⟩ := rz5 BK1107) | ((with_reducible refine gate_callee (f := 168) rfl ?_); refine gl (some 8) Try.func168 #[.agg #[.int .i64 a0_0, .int .i64 a0_1, .int .i64 a0_2, .int .i64 a0_3, .int .i64 a0_4]] ?_; (with_reducible refine (spec_GoalsOf.calls a0_0 a0_1 a0_2 a0_3 a0_4 t1108 t1109 true _ A2.out).mono ?_); rintro e w14 ⟨rfl, hb⟩; refine ⟨_, rfl, ?_⟩; replace BK1107 := kb BK1107 hb; replace HB := hs_ HB hb; (try clear hb hb2 hk hi)))
    go_ret
    exact ⟨ee, bb HB⟩
 ·replace c3 := Bool.eq_false_iff.mpr c3
  subst c3
  rw [if_neg (show ¬ (false = true) by decide)] at H
  obtain rfl := Option.some.inj H
  go_enter Try.func169, Try.ntmps169
  go_wp2_with (first | ((with_reducible refine gate_dst (N := 1) rfl ?_); refine bx (N := 1) (cs := #[.int .i64 a0_0, .int .i64 a0_1, .int .i64 a0_2, .int .i64 a0_3, .int .i64 a0_4]) (t := 95) ?_; intro gb1107 hg w15 hbox hb; have BK1107 := dk (hbox); have GW1107 := gs hg HB; have GE1107 := gs hg HB; replace HB := hs_ HB hb; clear hb hbox hg; have ⟨z16_0, z16_1, z16_2, z16_3, z16_4, v16_0, v16_1, v16_2, v16_3, v16_4⟩ := rz5 BK1107) | ((with_reducible refine gate_callee (f := 168) rfl ?_); refine gl (some 8) Try.func168 #[.agg #[.int .i64 a0_0, .int .i64 a0_1, .int .i64 a0_2, .int .i64 a0_3, .int .i64 a0_4]] ?_; (with_reducible refine (spec_GoalsOf.calls a0_0 a0_1 a0_2 a0_3 a0_4 t1108 t1109 false _ A2.out).mono ?_); rintro e w17 ⟨rfl, hb⟩; refine ⟨_, rfl, ?_⟩; replace BK1107 := kb BK1107 hb; replace HB := hs_ HB hb; (try clear hb hb2 hk hi)))
  go_ret
  exact ⟨ee, bb HB⟩
def spec_AddRows.f (a0_0 : Int) (a0_1 : Int) (a0_2 : Int) (a0_3 : Int) (a0_4 : Int) (a0_5 : Int) (a0_6 : Int) (a1_0 : Int) (a1_1 : Int) (a1_2 : Int) (a1_3 : Int) (a1_4 : Int) (a1_5 : Int) (a1_6 : Int) : Option (Int × Int × Int × Int × Int × Int × Int) := some (wrap64 (a0_0 + a1_0), wrap64 (a0_1 + a1_1), wrap64 (a0_2 + a1_2), wrap64 (a0_3 + a1_3), wrap64 (a0_4 + a1_4), wrap64 (a0_5 + a1_5), wrap64 (a0_6 + a1_6))
theorem spec_AddRows.calls (a0_0 : Int) (a0_1 : Int) (a0_2 : Int) (a0_3 : Int) (a0_4 : Int) (a0_5 : Int) (a0_6 : Int) (a1_0 : Int) (a1_1 : Int) (a1_2 : Int) (a1_3 : Int) (a1_4 : Int) (a1_5 : Int) (a1_6 : Int) (r1 : Int) (r2 : Int) (r3 : Int) (r4 : Int) (r5 : Int) (r6 : Int) (r7 : Int) (w : World) (h : spec_AddRows.f a0_0 a0_1 a0_2 a0_3 a0_4 a0_5 a0_6 a1_0 a1_1 a1_2 a1_3 a1_4 a1_5 a1_6 = some (r1, r2, r3, r4, r5, r6, r7)) :
  Calls Try.prog 170 #[.agg #[.int .i64 a0_0, .int .i64 a0_1, .int .i64 a0_2, .int .i64 a0_3, .int .i64 a0_4, .int .i64 a0_5, .int .i64 a0_6], .agg #[.int .i64 a1_0, .int .i64 a1_1, .int .i64 a1_2, .int .i64 a1_3, .int .i64 a1_4, .int .i64 a1_5, .int .i64 a1_6]] w fun e w' => e = .returned (.agg #[.int .i64 r1, .int .i64 r2, .int .i64 r3, .int .i64 r4, .int .i64 r5, .int .i64 r6, .int .i64 r7]) ∧ Below w.heap.size w w' := by
 have hu115 := Try.underlying115
 have HB := dk (Below.refl w.heap.size w)
 have H : (some (wrap64 (a0_0 + a1_0), wrap64 (a0_1 + a1_1), wrap64 (a0_2 + a1_2), wrap64 (a0_3 + a1_3), wrap64 (a0_4 + a1_4), wrap64 (a0_5 + a1_5), wrap64 (a0_6 + a1_6))) = some (r1, r2, r3, r4, r5, r6, r7) := h
 clear h
 simp only [Option.some.injEq, Prod.mk.injEq] at H
 obtain ⟨rfl, rfl, rfl, rfl, rfl, rfl, rfl⟩ := H
 go_enter Try.func170, Try.ntmps170
 go_wp2_with (first | ((with_reducible refine gate_dst (N := 2) rfl ?_); refine bx (N := 2) (cs := #[.int .i64 a0_0, .int .i64 a0_1, .int .i64 a0_2, .int .i64 a0_3, .int .i64 a0_4, .int .i64 a0_5, .int .i64 a0_6]) (t := 115) ?_; intro gb1111 hg w3 hbox hb; have BK1111 := dk (hbox); have GW1111 := gs hg HB; have GE1111 := gs hg HB; replace HB := hs_ HB hb; clear hb hbox hg) | ((with_reducible refine gate_dst (N := 3) rfl ?_); refine bx (N := 3) (cs := #[.int .i64 a1_0, .int .i64 a1_1, .int .i64 a1_2, .int .i64 a1_3, .int .i64 a1_4, .int .i64 a1_5, .int .i64 a1_6]) (t := 115) ?_; intro gb1112 hg w4 hbox hb; have BK1112 := dk (hbox); have GW1112 := gs hg HB; have GE1112 := gs hg HB; replace HB := hs_ HB hb; have NB1111_1112 := gn hg BK1111; have NB1112_1111 := gm hg BK1111; replace BK1111 := kb BK1111 hb; clear hb hbox hg) | ((with_reducible refine gate_dst (N := 4) rfl ?_); refine bx (N := 4) (cs := #[.int .i64 0, .int .i64 0, .int .i64 0, .int .i64 0, .int .i64 0, .int .i64 0, .int .i64 0]) (t := 115) ?_; intro gb1113 hg w5 hbox hb; have BK1113 := dk (hbox); have GW1113 := gs hg HB; have GE1113 := gs hg HB; replace HB := hs_ HB hb; have NB1111_1113 := gn hg BK1111; have NB1113_1111 := gm hg BK1111; replace BK1111 := kb BK1111 hb; have NB1112_1113 := gn hg BK1112; have NB1113_1112 := gm hg BK1112; replace BK1112 := kb BK1112 hb; clear hb hbox hg; have hnb6 := NB1111_1112.out; have hnc6 := NB1112_1111.out; have hnb7 := NB1111_1113.out; have hnc7 := NB1113_1111.out; have ⟨z8_0, z8_1, z8_2, z8_3, z8_4, z8_5, z8_6, v8_0, v8_1, v8_2, v8_3, v8_4, v8_5, v8_6⟩ := rz7 BK1111; have hnb9 := NB1112_1113.out; have hnc9 := NB1113_1112.out; have ⟨z10_0, z10_1, z10_2, z10_3, z10_4, z10_5, z10_6, v10_0, v10_1, v10_2, v10_3, v10_4, v10_5, v10_6⟩ := rz7 BK1112; have ⟨z11_0, z11_1, z11_2, z11_3, z11_4, z11_5, z11_6, v11_0, v11_1, v11_2, v11_3, v11_4, v11_5, v11_6⟩ := rz7 BK1113))
 refine bodyPost_ret (results_cell_row rfl _ _ gb1113 115 #[.int .i64 (wrap64 (a0_0 + a1_0)), .int .i64 (wrap64 (a0_1 + a1_1)), .int .i64 (wrap64 (a0_2 + a1_2)), .int .i64 (wrap64 (a0_3 + a1_3)), .int .i64 (wrap64 (a0_4 + a1_4)), .int .i64 (wrap64 (a0_5 + a1_5)), .int .i64 (wrap64 (a0_6 + a1_6))] (0, 0) _ rfl (bp BK1113) Try.underlying115 rfl (by kernel_rfl)) rfl ?_
 exact ⟨ee, bb HB⟩
def spec_l06Add.j0 : Nat → List (S115) → Int → Int → Int → Int → Int → Int → Int → Int → Int → Int → Int → Int → Int → Int → Int → Int → Int → Int → Int → Option ((List (S115)))
 | 0, _, _, _, _, _, _, _, _, _, _, _, _, _, _, _, _, _, _, _, _ => none
 | k + 1, x1, x1116000, x1116001, x1116002, x1116003, x1116004, x1120000, x1120001, x1120002, x1120003, x1120004, x1120005, x1120006, x1121000, x1121001, x1121002, x1121003, x1121004, x1121005, x1121006 => if 0 ≤ x1116000 then (if x1116000 < (x1.length : Int) then ((spec_AddRows.f ((rd_T115 x1 x1116000).f0) ((rd_T115 x1 x1116000).f1) ((rd_T115 x1 x1116000).f2) ((rd_T115 x1 x1116000).f3) ((rd_T115 x1 x1116000).f4) ((rd_T115 x1 x1116000).f5) ((rd_T115 x1 x1116000).f6) x1120000 x1120001 x1120002 x1120003 x1120004 x1120005 x1120006).bind fun bt1123 => ((some (x1.set (x1116000 : Int).toNat (⟨bt1123.1, bt1123.2.1, bt1123.2.2.1, bt1123.2.2.2.1, bt1123.2.2.2.2.1, bt1123.2.2.2.2.2.1, bt1123.2.2.2.2.2.2⟩ : S115) : List (S115))).bind fun y1130 => (if 0 ≤ x1116001 then (if x1116001 < (x1.length : Int) then ((spec_AddRows.f ((rd_T115 y1130 x1116001).f0) ((rd_T115 y1130 x1116001).f1) ((rd_T115 y1130 x1116001).f2) ((rd_T115 y1130 x1116001).f3) ((rd_T115 y1130 x1116001).f4) ((rd_T115 y1130 x1116001).f5) ((rd_T115 y1130 x1116001).f6) x1121000 x1121001 x1121002 x1121003 x1121004 x1121005 x1121006).bind fun bt1132 => (some (y1130.set (x1116001 : Int).toNat (⟨bt1132.1, bt1132.2.1, bt1132.2.2.1, bt1132.2.2.2.1, bt1132.2.2.2.2.1, bt1132.2.2.2.2.2.1, bt1132.2.2.2.2.2.2⟩ : S115)))) else (none)) else (none)))) else (none)) else (none)
def spec_l06Add.f (k : Nat) (a0_0 : Int) (a0_1 : Int) (a0_2 : Int) (l0_3 : List Int) (a0_4 : Bool) (l1 : List (S115)) (a2_0 : Int) (a2_1 : Int) (a2_2 : Int) (a2_3 : Int) (a2_4 : Int) : Option ((List (S115))) := (spec_GoalsOf.f a2_0 a2_1 a2_2 a2_3 a2_4).bind fun bt1116 => (if bt1116.2.2 = true then ((spec_OutcomeOf.f a2_0 a2_1 a2_2 a2_3 a2_4).bind fun t1121 => (if t1121 = 1 then (spec_l06Add.j0 k l1 a2_0 a2_1 a2_2 a2_3 a2_4 1 1 0 0 bt1116.1 bt1116.2.1 a0_0 1 0 0 1 bt1116.2.1 bt1116.1 a0_2) else (if t1121 = 2 then (spec_l06Add.j0 k l1 a2_0 a2_1 a2_2 a2_3 a2_4 1 0 1 0 bt1116.1 bt1116.2.1 a0_1 1 0 1 0 bt1116.2.1 bt1116.1 a0_1) else (if t1121 = 3 then (spec_l06Add.j0 k l1 a2_0 a2_1 a2_2 a2_3 a2_4 1 0 0 1 bt1116.1 bt1116.2.1 a0_2 1 1 0 0 bt1116.2.1 bt1116.1 a0_0) else (spec_l06Add.j0 k l1 a2_0 a2_1 a2_2 a2_3 a2_4 1 0 0 0 bt1116.1 bt1116.2.1 0 1 0 0 0 bt1116.2.1 bt1116.1 0))))) else (some l1))
def spec_l06Add.T21 : Bool × List (List Nat × List Nat) := (true, [([], []), ([], []), ([1], [1]), ([], []), ([], []), ([4], [4]), ([3, 5], [3, 5]), ([6], [6]), ([], []), ([7, 8], [7, 8]), ([0, 2, 0, 1, 2, 3, 4, 5, 6, 7, 8, 9], [0, 2]), ([10, 9, 9, 0, 1, 2, 3, 4, 5, 6, 7, 8, 9], [9, 10])])
def spec_l06Add.B21 : List Nat := [0, 0, 2, 0, 0, 16, 56, 120, 0, 504, 1023, 2047]
theorem spec_l06Add.tab21 : rtab .any (opsOf Try.f134 21) = spec_l06Add.T21 := by kernel_rfl
theorem spec_l06Add.bits21 : waitsOk spec_l06Add.T21.2 spec_l06Add.B21 = true := by kernel_rfl
def spec_l06Add.T22 : Bool × List (List Nat × List Nat) := (true, [([], []), ([], []), ([1], [1]), ([], []), ([], []), ([4], [4]), ([3, 5], [3, 5]), ([6], [6]), ([], []), ([7, 8], [7, 8]), ([0, 2, 0, 1, 2, 3, 4, 5, 6, 7, 8, 9], [0, 2]), ([10, 9, 9, 0, 1, 2, 3, 4, 5, 6, 7, 8, 9], [9, 10])])
def spec_l06Add.B22 : List Nat := [0, 0, 2, 0, 0, 16, 56, 120, 0, 504, 1023, 2047]
theorem spec_l06Add.tab22 : rtab .any (opsOf Try.f134 22) = spec_l06Add.T22 := by kernel_rfl
theorem spec_l06Add.bits22 : waitsOk spec_l06Add.T22.2 spec_l06Add.B22 = true := by kernel_rfl
theorem spec_l06Add.calls (k : Nat) (a0_0 : Int) (a0_1 : Int) (a0_2 : Int) (A0_3 : Option Addr) (c0_3 : Nat) (l0_3 : List Int) (a0_4 : Bool) (P1_ : Nat → Prop) (u9000_ : Value) (l1 : List (S115)) (a2_0 : Int) (a2_1 : Int) (a2_2 : Int) (a2_3 : Int) (a2_4 : Int) (r : List (S115)) (w0 w : World) (hB : Below w0.heap.size w0 w) (hr0_3 : ∀ W_, Kept w W_ (fun k_ => P1_ k_) → Kd.C (Kd.int .i64) W_ A0_3 l0_3.length l0_3) (hc0_3 : l0_3.length ≤ c0_3) (ho1 : Kd.R k115 115 w w0.heap.size P1_ u9000_ l1) (h : spec_l06Add.f k a0_0 a0_1 a0_2 l0_3 a0_4 l1 a2_0 a2_1 a2_2 a2_3 a2_4 = some r) :
  Calls Try.prog 134 #[.agg #[.int .i64 a0_0, .int .i64 a0_1, .int .i64 a0_2, .slice A0_3 l0_3.length c0_3, .bool a0_4], u9000_, .agg #[.int .i64 a2_0, .int .i64 a2_1, .int .i64 a2_2, .int .i64 a2_3, .int .i64 a2_4]] w fun e w' => e = .returned (.tuple #[]) ∧ Kd.R k115 115 w' w0.heap.size (fun k_ => (P1_ k_ ∨ w.heap.size ≤ k_)) u9000_ r ∧ Below w0.heap.size w0 w' ∧ Kept w w' (fun k_ => P1_ k_) := by
 have hu33 := Try.underlying33
 have hu95 := Try.underlying95
 have hu115 := Try.underlying115
 have HR0_3 := dk hr0_3
 have HC0_3 := dk hc0_3
 clear hr0_3 hc0_3
 have HO1 := dk (show Kd.R k115 115 w w0.heap.size (fun k_ => (P1_ k_ ∨ w.heap.size ≤ k_)) u9000_ l1 from Kd.R_mono ho1 (fun k_ hk => (.inl hk)))
 have HK := dk (Kept.refl w (fun k_ => P1_ k_))
 have HW0 := dk hB.size
 have HB := dk hB
 clear hB
 have H : ((spec_GoalsOf.f a2_0 a2_1 a2_2 a2_3 a2_4).bind fun bt1116 => (if bt1116.2.2 = true then ((spec_OutcomeOf.f a2_0 a2_1 a2_2 a2_3 a2_4).bind fun t1121 => (if t1121 = 1 then (spec_l06Add.j0 k l1 a2_0 a2_1 a2_2 a2_3 a2_4 1 1 0 0 bt1116.1 bt1116.2.1 a0_0 1 0 0 1 bt1116.2.1 bt1116.1 a0_2) else (if t1121 = 2 then (spec_l06Add.j0 k l1 a2_0 a2_1 a2_2 a2_3 a2_4 1 0 1 0 bt1116.1 bt1116.2.1 a0_1 1 0 1 0 bt1116.2.1 bt1116.1 a0_1) else (if t1121 = 3 then (spec_l06Add.j0 k l1 a2_0 a2_1 a2_2 a2_3 a2_4 1 0 0 1 bt1116.1 bt1116.2.1 a0_2 1 1 0 0 bt1116.2.1 bt1116.1 a0_0) else (spec_l06Add.j0 k l1 a2_0 a2_1 a2_2 a2_3 a2_4 1 0 0 0 bt1116.1 bt1116.2.1 0 1 0 0 0 bt1116.2.1 bt1116.1 0))))) else (some l1))) = some r := h
 clear h
 replace H := Option.bind_eq_some_iff.mp H
 obtain ⟨⟨t1116, t1117, t1118⟩, A40, H⟩ := H
 try dsimp only at H
 have A4 := dk A40
 clear A40
 have HC5 := dk H
 clear H
 go_enter Try.func134, Try.ntmps134
 go_upto_if 18 with (first | ((with_reducible refine gate_dst (N := 3) rfl ?_); refine bx (N := 3) (cs := #[.int .i64 a0_0, .int .i64 a0_1, .int .i64 a0_2, .slice A0_3 l0_3.length c0_3, .bool a0_4]) (t := 33) ?_; intro gb1114 hg w6 hbox hb; replace HO1 := kr HO1 hb; have BK1114 := dk (hbox); have GW1114 := dk (by rw [hg]; exact (by first | exact HK.out.1 | exact (show Kept w _ (fun k_ => P1_ k_) from by repeat (first | (with_reducible first | exact HK.out | apply Kept.alloc | apply Kept.drewN | apply Kept.drew) | exact HK.out)).1) : w.heap.size ≤ gb1114); replace HK := dk (Kept.below (S := (fun k_ => P1_ k_)) (by repeat (first | (with_reducible first | exact HK.out | apply Kept.alloc | apply Kept.drewN | apply Kept.drew) | exact HK.out)) hb); have GE1114 := gs hg HB; replace HB := hs_ HB hb; clear hb hbox hg) | ((with_reducible refine gate_dst (N := 5) rfl ?_); refine bx (N := 5) (cs := #[.int .i64 a2_0, .int .i64 a2_1, .int .i64 a2_2, .int .i64 a2_3, .int .i64 a2_4]) (t := 95) ?_; intro gb1115 hg w7 hbox hb; replace HO1 := kr HO1 hb; have BK1115 := dk (hbox); have GW1115 := dk (by rw [hg]; exact (by first | exact HK.out.1 | exact (show Kept w _ (fun k_ => P1_ k_) from by repeat (first | (with_reducible first | exact HK.out | apply Kept.alloc | apply Kept.drewN | apply Kept.drew | refine Kept.setCell ?_ (.inr GW1114.out) _) | exact HK.out)).1) : w.heap.size ≤ gb1115); replace HK := dk (Kept.below (S := (fun k_ => P1_ k_)) (by repeat (first | (with_reducible first | exact HK.out | apply Kept.alloc | apply Kept.drewN | apply Kept.drew | refine Kept.setCell ?_ (.inr GW1114.out) _) | exact HK.out)) hb); have GE1115 := gs hg HB; replace HB := hs_ HB hb; have NB1114_1115 := gn hg BK1114; have NB1115_1114 := gm hg BK1114; replace BK1114 := kb BK1114 hb; clear hb hbox hg; have hnb8 := NB1115_1114.out; have hnc8 := NB1114_1115.out; have ⟨z9_0, z9_1, z9_2, z9_3, z9_4, v9_0, v9_1, v9_2, v9_3, v9_4⟩ := rz5 BK1115) | ((with_reducible refine gate_callee (f := 168) rfl ?_); refine gl (some 13) Try.func168 #[.agg #[.int .i64 a2_0, .int .i64 a2_1, .int .i64 a2_2, .int .i64 a2_3, .int .i64 a2_4]] ?_; (with_reducible refine (spec_GoalsOf.calls a2_0 a2_1 a2_2 a2_3 a2_4 t1116 t1117 t1118 _ A4.out).mono ?_); rintro e w10 ⟨rfl, hb⟩; refine ⟨_, rfl, ?_⟩; replace HO1 := kr HO1 hb; replace BK1114 := kb BK1114 hb; replace BK1115 := kb BK1115 hb; replace HK := dk (Kept.below (S := (fun k_ => P1_ k_)) (by repeat (first | (with_reducible first | exact HK.out | apply Kept.alloc | apply Kept.drewN | apply Kept.drew | refine Kept.setCell ?_ (.inr GW1114.out) _ | refine Kept.setCell ?_ (.inr GW1115.out) _) | exact HK.out)) hb); replace HB := hs_ HB hb; (try clear hb hb2 hk hi)))
 (try simp only [Act.put, List.setIfInBounds_toArray, List.set_cons_zero, List.set_cons_succ])
 have H := HC5.out
 clear HC5
 by_cases c11 : t1118 = true
 ·subst c11
  rw [if_pos rfl] at H
  replace H := Option.bind_eq_some_iff.mp H
  obtain ⟨t1121, A120, H⟩ := H
  try dsimp only at H
  have A12 := dk A120
  clear A120
  have HC13 := dk H
  clear H
  go_upto_block 0 with (first | ((with_reducible refine gate_dst (N := 9) rfl ?_); refine bx (N := 9) (cs := #[.int .i64 0, .int .i64 0, .int .i64 0, .int .i64 0, .int .i64 0, .int .i64 0, .int .i64 0]) (t := 115) ?_; intro gb1119 hg w14 hbox hb; replace HO1 := dk (Kd.R_below (Kd.R_elderB (rr HO1) gb1119 (Nat.le_of_eq hg.symm)) hb); have BK1119 := dk (hbox); have GW1119 := dk (by rw [hg]; exact (by first | exact HK.out.1 | exact (show Kept w _ (fun k_ => P1_ k_) from by repeat (first | (with_reducible first | exact HK.out | apply Kept.alloc | apply Kept.drewN | apply Kept.drew | refine Kept.setCell ?_ (.inr GW1114.out) _ | refine Kept.setCell ?_ (.inr GW1115.out) _) | exact HK.out)).1) : w.heap.size ≤ gb1119); replace HK := dk (Kept.below (S := (fun k_ => P1_ k_)) (by repeat (first | (with_reducible first | exact HK.out | apply Kept.alloc | apply Kept.drewN | apply Kept.drew | refine Kept.setCell ?_ (.inr GW1114.out) _ | refine Kept.setCell ?_ (.inr GW1115.out) _) | exact HK.out)) hb); have GE1119 := gs hg HB; replace HB := hs_ HB hb; have NB1114_1119 := gn hg BK1114; have NB1119_1114 := gm hg BK1114; replace BK1114 := kb BK1114 hb; have NB1115_1119 := gn hg BK1115; have NB1119_1115 := gm hg BK1115; replace BK1115 := kb BK1115 hb; clear hb hbox hg; have hnb15 := NB1119_1114.out; have hnc15 := NB1114_1119.out; have hnb16 := NB1119_1115.out; have hnc16 := NB1115_1119.out; have ⟨z17_0, z17_1, z17_2, z17_3, z17_4, z17_5, z17_6, v17_0, v17_1, v17_2, v17_3, v17_4, v17_5, v17_6⟩ := rz7 BK1119) | ((with_reducible refine gate_dst (N := 10) rfl ?_); refine bx (N := 10) (cs := #[.int .i64 0, .int .i64 0, .int .i64 0, .int .i64 0, .int .i64 0, .int .i64 0, .int .i64 0]) (t := 115) ?_; intro gb1120 hg w18 hbox hb; replace HO1 := dk (Kd.R_below (Kd.R_elderB (by (with_reducible repeat (first | apply Kd.R_alloc | apply Kd.R_drewN | apply Kd.R_drew)); exact (Kd.R_mono (Kd.R_far (p := ⟨gb1119, 6, none⟩) (Kd.R_far (p := ⟨gb1119, 5, none⟩) (Kd.R_far (p := ⟨gb1119, 4, none⟩) (Kd.R_far (p := ⟨gb1119, 3, none⟩) (Kd.R_far (p := ⟨gb1119, 2, none⟩) (Kd.R_far (p := ⟨gb1119, 1, none⟩) (Kd.R_far (p := ⟨gb1119, 0, none⟩) (Kd.R_mono HO1.out (fun k_ hk => (⟨hk, hk.2⟩ : _ ∧ k_ ≠ gb1119))) (fun _ hk => hk.2) (.int .i64 1)) (fun _ hk => hk.2) (.int .i64 0)) (fun _ hk => hk.2) (.int .i64 0)) (fun _ hk => hk.2) (.int .i64 0)) (fun _ hk => hk.2) (.int .i64 t1116)) (fun _ hk => hk.2) (.int .i64 t1117)) (fun _ hk => hk.2) (.int .i64 0)) (fun _ h_ => h_.1))) gb1120 (Nat.le_of_eq hg.symm)) hb); have BK1120 := dk (hbox); have GW1120 := dk (by rw [hg]; exact (show Kept w _ (fun k_ => P1_ k_) from by repeat (first | (with_reducible first | exact HK.out | apply Kept.alloc | apply Kept.drewN | apply Kept.drew | refine Kept.setCell ?_ (.inr GW1114.out) _ | refine Kept.setCell ?_ (.inr GW1115.out) _ | refine Kept.setCell ?_ (.inr GW1119.out) _) | exact HK.out)).1 : w.heap.size ≤ gb1120); replace HK := dk (Kept.below (S := (fun k_ => P1_ k_)) (by repeat (first | (with_reducible first | exact HK.out | apply Kept.alloc | apply Kept.drewN | apply Kept.drew | refine Kept.setCell ?_ (.inr GW1114.out) _ | refine Kept.setCell ?_ (.inr GW1115.out) _ | refine Kept.setCell ?_ (.inr GW1119.out) _) | exact HK.out)) hb); have GE1120 := gs hg HB; replace HB := hs_ HB hb; have NB1114_1120 := dk (by rw [hg]; exact Nat.ne_of_lt (blk_lt (g := gb1114) (o := .cells #[.int .i64 a0_0, .int .i64 a0_1, .int .i64 a0_2, .slice A0_3 l0_3.length c0_3, .bool a0_4] 33 (0, 0)) (bf NB1114_1119.out BK1114)) : gb1114 ≠ gb1120); have NB1120_1114 := dk (by rw [hg]; exact Nat.ne_of_gt (blk_lt (g := gb1114) (o := .cells #[.int .i64 a0_0, .int .i64 a0_1, .int .i64 a0_2, .slice A0_3 l0_3.length c0_3, .bool a0_4] 33 (0, 0)) (bf NB1114_1119.out BK1114)) : gb1120 ≠ gb1114); replace BK1114 := dk (blk_below (bf NB1114_1119.out BK1114) hb); have NB1115_1120 := dk (by rw [hg]; exact Nat.ne_of_lt (blk_lt (g := gb1115) (o := .cells #[.int .i64 a2_0, .int .i64 a2_1, .int .i64 a2_2, .int .i64 a2_3, .int .i64 a2_4] 95 (0, 0)) (bf NB1115_1119.out BK1115)) : gb1115 ≠ gb1120); have NB1120_1115 := dk (by rw [hg]; exact Nat.ne_of_gt (blk_lt (g := gb1115) (o := .cells #[.int .i64 a2_0, .int .i64 a2_1, .int .i64 a2_2, .int .i64 a2_3, .int .i64 a2_4] 95 (0, 0)) (bf NB1115_1119.out BK1115)) : gb1120 ≠ gb1115); replace BK1115 := dk (blk_below (bf NB1115_1119.out BK1115) hb); have NB1119_1120 := dk (by rw [hg]; exact Nat.ne_of_lt (blk_lt (g := gb1119) (o := .cells #[.int .i64 1, .int .i64 0, .int .i64 0, .int .i64 0, .int .i64 t1116, .int .i64 t1117, .int .i64 0] 115 (0, 0)) (bp BK1119)) : gb1119 ≠ gb1120); have NB1120_1119 := dk (by rw [hg]; exact Nat.ne_of_gt (blk_lt (g := gb1119) (o := .cells #[.int .i64 1, .int .i64 0, .int .i64 0, .int .i64 0, .int .i64 t1116, .int .i64 t1117, .int .i64 0] 115 (0, 0)) (bp BK1119)) : gb1120 ≠ gb1119); replace BK1119 := dk (blk_below (g := gb1119) (o := .cells #[.int .i64 1, .int .i64 0, .int .i64 0, .int .i64 0, .int .i64 t1116, .int .i64 t1117, .int .i64 0] 115 (0, 0)) (bp BK1119) hb); clear hb hbox hg; have hnb19 := NB1120_1114.out; have hnc19 := NB1114_1120.out; have hnb20 := NB1120_1115.out; have hnc20 := NB1115_1120.out; have hnb21 := NB1120_1119.out; have hnc21 := NB1119_1120.out; have ⟨z22_0, z22_1, z22_2, z22_3, z22_4, z22_5, z22_6, v22_0, v22_1, v22_2, v22_3, v22_4, v22_5, v22_6⟩ := rz7 BK1120; have hnb23 := NB1115_1114.out; have hnc23 := NB1114_1115.out; have ⟨z24_0, z24_1, z24_2, z24_3, z24_4, v24_0, v24_1, v24_2, v24_3, v24_4⟩ := rz5 BK1115) | ((with_reducible refine gate_callee (f := 169) rfl ?_); refine gl (some 26) Try.func169 #[.agg #[.int .i64 a2_0, .int .i64 a2_1, .int .i64 a2_2, .int .i64 a2_3, .int .i64 a2_4]] ?_; (with_reducible refine (spec_OutcomeOf.calls a2_0 a2_1 a2_2 a2_3 a2_4 t1121 _ A12.out).mono ?_); rintro e w25 ⟨rfl, hb⟩; refine ⟨_, rfl, ?_⟩; replace HO1 := dk (Kd.R_below (by (with_reducible repeat (first | apply Kd.R_alloc | apply Kd.R_drewN | apply Kd.R_drew)); exact (Kd.R_mono (Kd.R_far (p := ⟨gb1120, 6, none⟩) (Kd.R_far (p := ⟨gb1120, 5, none⟩) (Kd.R_far (p := ⟨gb1120, 4, none⟩) (Kd.R_far (p := ⟨gb1120, 3, none⟩) (Kd.R_far (p := ⟨gb1120, 2, none⟩) (Kd.R_far (p := ⟨gb1120, 1, none⟩) (Kd.R_far (p := ⟨gb1120, 0, none⟩) (Kd.R_mono HO1.out (fun k_ hk => (⟨hk, hk.2⟩ : _ ∧ k_ ≠ gb1120))) (fun _ hk => hk.2) (.int .i64 1)) (fun _ hk => hk.2) (.int .i64 0)) (fun _ hk => hk.2) (.int .i64 0)) (fun _ hk => hk.2) (.int .i64 0)) (fun _ hk => hk.2) (.int .i64 t1117)) (fun _ hk => hk.2) (.int .i64 t1116)) (fun _ hk => hk.2) (.int .i64 0)) (fun _ h_ => h_.1))) hb); replace BK1114 := dk (blk_below (bf NB1114_1120.out BK1114) hb); replace BK1115 := dk (blk_below (bf NB1115_1120.out BK1115) hb); replace BK1119 := dk (blk_below (bf NB1119_1120.out BK1119) hb); replace BK1120 := dk (blk_below (g := gb1120) (o := .cells #[.int .i64 1, .int .i64 0, .int .i64 0, .int .i64 0, .int .i64 t1117, .int .i64 t1116, .int .i64 0] 115 (0, 0)) (bp BK1120) hb); replace HK := dk (Kept.below (S := (fun k_ => P1_ k_)) (by repeat (first | (with_reducible first | exact HK.out | apply Kept.alloc | apply Kept.drewN | apply Kept.drew | refine Kept.setCell ?_ (.inr GW1114.out) _ | refine Kept.setCell ?_ (.inr GW1115.out) _ | refine Kept.setCell ?_ (.inr GW1119.out) _ | refine Kept.setCell ?_ (.inr GW1120.out) _) | exact HK.out)) hb); replace HB := hs_ HB hb; (try clear hb hb2 hk hi)))
  (try simp only [Act.put, List.setIfInBounds_toArray, List.set_cons_zero, List.set_cons_succ])
  go_cut [] (fun wc => ∃ (kq : Nat) (x1120001_12 : Int) (x1120002_12 : Int) (x1120003_12 : Int) (x1120006_12 : Int) (x1121001_12 : Int) (x1121002_12 : Int) (x1121003_12 : Int) (x1121006_12 : Int), Aside0 (spec_l06Add.j0 kq l1 a2_0 a2_1 a2_2 a2_3 a2_4 1 x1120001_12 x1120002_12 x1120003_12 t1116 t1117 x1120006_12 1 x1121001_12 x1121002_12 x1121003_12 t1117 t1116 x1121006_12 = some r) ∧ Aside0 (kq ≤ k) ∧ Aside0 (Kd.R k115 115 wc w0.heap.size (fun k_ => (P1_ k_ ∨ w.heap.size ≤ k_) ∧ k_ ≠ gb1119 ∧ k_ ≠ gb1120) u9000_ l1) ∧ Aside0 (wc.heap[gb1114]? = some (.cells #[.int .i64 a0_0, .int .i64 a0_1, .int .i64 a0_2, (.slice A0_3 l0_3.length c0_3), .bool a0_4] 33 (0, 0))) ∧ Aside0 (wc.heap[gb1115]? = some (.cells #[.int .i64 a2_0, .int .i64 a2_1, .int .i64 a2_2, .int .i64 a2_3, .int .i64 a2_4] 95 (0, 0))) ∧ Aside0 (wc.heap[gb1119]? = some (.cells #[.int .i64 1, .int .i64 x1120001_12, .int .i64 x1120002_12, .int .i64 x1120003_12, .int .i64 t1116, .int .i64 t1117, .int .i64 x1120006_12] 115 (0, 0))) ∧ Aside0 (wc.heap[gb1120]? = some (.cells #[.int .i64 1, .int .i64 x1121001_12, .int .i64 x1121002_12, .int .i64 x1121003_12, .int .i64 t1117, .int .i64 t1116, .int .i64 x1121006_12] 115 (0, 0))) ∧ Aside0 (Kept w wc (fun k_ => P1_ k_)) ∧ Aside0 (Below w0.heap.size w0 wc))
  case first =>
   have H := HC13.out
   clear HC13
   by_cases c26 : t1121 = 1
   ·rw [if_pos c26] at H
    have c26b0 : (t1121 == 1) = true := beq_iff_eq.mpr c26
    have c26b1 : (t1121 != 1) = false := bne_eq_false_iff_eq.mpr c26
    clear c26
    (first | rw [c26b0] | rw [c26b1] | (simp only [i64_w, i32_w]; rw [c26b0]) | skip)
    have H' := dk H
    clear H
    have hnb27 := NB1119_1114.out
    have hnc27 := NB1114_1119.out
    have hnb28 := NB1119_1115.out
    have hnc28 := NB1115_1119.out
    have hnb29 := NB1119_1120.out
    have hnc29 := NB1120_1119.out
    have ⟨z30_0, z30_1, z30_2, z30_3, z30_4, z30_5, z30_6, v30_0, v30_1, v30_2, v30_3, v30_4, v30_5, v30_6⟩ := rz7 BK1119
    have hnb31 := NB1120_1114.out
    have hnc31 := NB1114_1120.out
    have hnb32 := NB1120_1115.out
    have hnc32 := NB1115_1120.out
    have ⟨z33_0, z33_1, z33_2, z33_3, z33_4, z33_5, z33_6, v33_0, v33_1, v33_2, v33_3, v33_4, v33_5, v33_6⟩ := rz7 BK1120
    have hnb34 := NB1114_1115.out
    have hnc34 := NB1115_1114.out
    have ⟨z35_0, z35_1, z35_2, z35_3, z35_4, v35_0, v35_1, v35_2, v35_3, v35_4⟩ := rz5 BK1114
    go_wp2
    go_meet
    case rel => exact ⟨_, (1), (0), (0), (a0_0), (0), (0), (1), (a0_2), H', ⟨by first | omega | exact Nat.le_refl _⟩, ⟨by (with_reducible repeat (first | apply Kd.R_alloc | apply Kd.R_drewN | apply Kd.R_drew)); exact Kd.R_mono (Kd.R_far (p := ⟨gb1120, 6, none⟩) (Kd.R_far (p := ⟨gb1119, 6, none⟩) (Kd.R_far (p := ⟨gb1120, 3, none⟩) (Kd.R_far (p := ⟨gb1119, 1, none⟩) (Kd.R_mono (Kd.R_mono HO1.out (fun k_ hk => (⟨hk, hk.1.2⟩ : _ ∧ k_ ≠ gb1119))) (fun k_ hk => (⟨hk, hk.1.2⟩ : _ ∧ k_ ≠ gb1120))) (fun _ hk => hk.1.2) (.int .i64 1)) (fun _ hk => hk.2) (.int .i64 1)) (fun _ hk => hk.1.2) (.int .i64 a0_0)) (fun _ hk => hk.2) (.int .i64 a0_2)) (fun _ hk => ⟨hk.1.1.1.1, ⟨hk.1.1.1.2, hk.1.1.2⟩⟩)⟩, ⟨by (with_reducible repeat (first | refine blk_drewN ?_ _ | refine blk_drew ?_ | refine blk_alloc ?_ _)); refine blk_far ?_ NB1114_1120.out _; (with_reducible repeat (first | refine blk_drewN ?_ _ | refine blk_drew ?_ | refine blk_alloc ?_ _)); refine blk_far ?_ NB1114_1119.out _; (with_reducible repeat (first | refine blk_drewN ?_ _ | refine blk_drew ?_ | refine blk_alloc ?_ _)); refine blk_far ?_ NB1114_1120.out _; exact bf NB1114_1119.out BK1114⟩, ⟨by (with_reducible repeat (first | refine blk_drewN ?_ _ | refine blk_drew ?_ | refine blk_alloc ?_ _)); refine blk_far ?_ NB1115_1120.out _; (with_reducible repeat (first | refine blk_drewN ?_ _ | refine blk_drew ?_ | refine blk_alloc ?_ _)); refine blk_far ?_ NB1115_1119.out _; (with_reducible repeat (first | refine blk_drewN ?_ _ | refine blk_drew ?_ | refine blk_alloc ?_ _)); refine blk_far ?_ NB1115_1120.out _; exact bf NB1115_1119.out BK1115⟩, ⟨by (with_reducible repeat (first | refine blk_drewN ?_ _ | refine blk_drew ?_ | refine blk_alloc ?_ _)); refine blk_far ?_ NB1119_1120.out _; (with_reducible repeat (first | refine blk_drewN ?_ _ | refine blk_drew ?_ | refine blk_alloc ?_ _)); refine blk_put (cs := #[.int .i64 1, .int .i64 1, .int .i64 0, .int .i64 0, .int .i64 t1116, .int .i64 t1117, .int .i64 0]) ?_ 6 _ rfl; (with_reducible repeat (first | refine blk_drewN ?_ _ | refine blk_drew ?_ | refine blk_alloc ?_ _)); refine blk_far ?_ NB1119_1120.out _; (with_reducible repeat (first | refine blk_drewN ?_ _ | refine blk_drew ?_ | refine blk_alloc ?_ _)); refine blk_put (cs := #[.int .i64 1, .int .i64 0, .int .i64 0, .int .i64 0, .int .i64 t1116, .int .i64 t1117, .int .i64 0]) ?_ 1 _ rfl; (with_reducible repeat (first | refine blk_drewN ?_ _ | refine blk_drew ?_ | refine blk_alloc ?_ _)); exact BK1119.out⟩, ⟨by (with_reducible repeat (first | refine blk_drewN ?_ _ | refine blk_drew ?_ | refine blk_alloc ?_ _)); refine blk_put (cs := #[.int .i64 1, .int .i64 0, .int .i64 0, .int .i64 1, .int .i64 t1117, .int .i64 t1116, .int .i64 0]) ?_ 6 _ rfl; (with_reducible repeat (first | refine blk_drewN ?_ _ | refine blk_drew ?_ | refine blk_alloc ?_ _)); refine blk_far ?_ NB1120_1119.out _; (with_reducible repeat (first | refine blk_drewN ?_ _ | refine blk_drew ?_ | refine blk_alloc ?_ _)); refine blk_put (cs := #[.int .i64 1, .int .i64 0, .int .i64 0, .int .i64 0, .int .i64 t1117, .int .i64 t1116, .int .i64 0]) ?_ 3 _ rfl; exact bf NB1120_1119.out BK1120⟩, ⟨by repeat (first | (with_reducible first | exact HK.out | apply Kept.alloc | apply Kept.drewN | apply Kept.drew | refine Kept.setCell ?_ (.inr GW1114.out) _ | refine Kept.setCell ?_ (.inr GW1115.out) _ | refine Kept.setCell ?_ (.inr GW1119.out) _ | refine Kept.setCell ?_ (.inr GW1120.out) _) | exact HK.out)⟩, ⟨bb HB⟩⟩
   ·rw [if_neg c26] at H
    have c26b0 : (t1121 == 1) = false := beq_eq_false_iff_ne.mpr c26
    have c26b1 : (t1121 != 1) = true := bne_iff_ne.mpr c26
    (first | rw [c26b0] | rw [c26b1] | (simp only [i64_w, i32_w]; rw [c26b0]) | skip)
    by_cases c36 : t1121 = 2
    ·rw [if_pos c36] at H
     have c36b0 : (t1121 == 2) = true := beq_iff_eq.mpr c36
     have c36b1 : (t1121 != 2) = false := bne_eq_false_iff_eq.mpr c36
     clear c36
     have H' := dk H
     clear H
     have hnb37 := NB1119_1114.out
     have hnc37 := NB1114_1119.out
     have hnb38 := NB1119_1115.out
     have hnc38 := NB1115_1119.out
     have hnb39 := NB1119_1120.out
     have hnc39 := NB1120_1119.out
     have ⟨z40_0, z40_1, z40_2, z40_3, z40_4, z40_5, z40_6, v40_0, v40_1, v40_2, v40_3, v40_4, v40_5, v40_6⟩ := rz7 BK1119
     have hnb41 := NB1120_1114.out
     have hnc41 := NB1114_1120.out
     have hnb42 := NB1120_1115.out
     have hnc42 := NB1115_1120.out
     have ⟨z43_0, z43_1, z43_2, z43_3, z43_4, z43_5, z43_6, v43_0, v43_1, v43_2, v43_3, v43_4, v43_5, v43_6⟩ := rz7 BK1120
     have hnb44 := NB1114_1115.out
     have hnc44 := NB1115_1114.out
     have ⟨z45_0, z45_1, z45_2, z45_3, z45_4, v45_0, v45_1, v45_2, v45_3, v45_4⟩ := rz5 BK1114
     go_wp2
     go_meet
     case rel => exact ⟨_, (0), (1), (0), (a0_1), (0), (1), (0), (a0_1), H', ⟨by first | omega | exact Nat.le_refl _⟩, ⟨by (with_reducible repeat (first | apply Kd.R_alloc | apply Kd.R_drewN | apply Kd.R_drew)); exact Kd.R_mono (Kd.R_far (p := ⟨gb1120, 6, none⟩) (Kd.R_far (p := ⟨gb1119, 6, none⟩) (Kd.R_far (p := ⟨gb1120, 2, none⟩) (Kd.R_far (p := ⟨gb1119, 2, none⟩) (Kd.R_mono (Kd.R_mono HO1.out (fun k_ hk => (⟨hk, hk.1.2⟩ : _ ∧ k_ ≠ gb1119))) (fun k_ hk => (⟨hk, hk.1.2⟩ : _ ∧ k_ ≠ gb1120))) (fun _ hk => hk.1.2) (.int .i64 1)) (fun _ hk => hk.2) (.int .i64 1)) (fun _ hk => hk.1.2) (.int .i64 a0_1)) (fun _ hk => hk.2) (.int .i64 a0_1)) (fun _ hk => ⟨hk.1.1.1.1, ⟨hk.1.1.1.2, hk.1.1.2⟩⟩)⟩, ⟨by (with_reducible repeat (first | refine blk_drewN ?_ _ | refine blk_drew ?_ | refine blk_alloc ?_ _)); refine blk_far ?_ NB1114_1120.out _; (with_reducible repeat (first | refine blk_drewN ?_ _ | refine blk_drew ?_ | refine blk_alloc ?_ _)); refine blk_far ?_ NB1114_1119.out _; (with_reducible repeat (first | refine blk_drewN ?_ _ | refine blk_drew ?_ | refine blk_alloc ?_ _)); refine blk_far ?_ NB1114_1120.out _; exact bf NB1114_1119.out BK1114⟩, ⟨by (with_reducible repeat (first | refine blk_drewN ?_ _ | refine blk_drew ?_ | refine blk_alloc ?_ _)); refine blk_far ?_ NB1115_1120.out _; (with_reducible repeat (first | refine blk_drewN ?_ _ | refine blk_drew ?_ | refine blk_alloc ?_ _)); refine blk_far ?_ NB1115_1119.out _; (with_reducible repeat (first | refine blk_drewN ?_ _ | refine blk_drew ?_ | refine blk_alloc ?_ _)); refine blk_far ?_ NB1115_1120.out _; exact bf NB1115_1119.out BK1115⟩, ⟨by (with_reducible repeat (first | refine blk_drewN ?_ _ | refine blk_drew ?_ | refine blk_alloc ?_ _)); refine blk_far ?_ NB1119_1120.out _; (with_reducible repeat (first | refine blk_drewN ?_ _ | refine blk_drew ?_ | refine blk_alloc ?_ _)); refine blk_put (cs := #[.int .i64 1, .int .i64 0, .int .i64 1, .int .i64 0, .int .i64 t1116, .int .i64 t1117, .int .i64 0]) ?_ 6 _ rfl; (with_reducible repeat (first | refine blk_drewN ?_ _ | refine blk_drew ?_ | refine blk_alloc ?_ _)); refine blk_far ?_ NB1119_1120.out _; (with_reducible repeat (first | refine blk_drewN ?_ _ | refine blk_drew ?_ | refine blk_alloc ?_ _)); refine blk_put (cs := #[.int .i64 1, .int .i64 0, .int .i64 0, .int .i64 0, .int .i64 t1116, .int .i64 t1117, .int .i64 0]) ?_ 2 _ rfl; (with_reducible repeat (first | refine blk_drewN ?_ _ | refine blk_drew ?_ | refine blk_alloc ?_ _)); exact BK1119.out⟩, ⟨by (with_reducible repeat (first | refine blk_drewN ?_ _ | refine blk_drew ?_ | refine blk_alloc ?_ _)); refine blk_put (cs := #[.int .i64 1, .int .i64 0, .int .i64 1, .int .i64 0, .int .i64 t1117, .int .i64 t1116, .int .i64 0]) ?_ 6 _ rfl; (with_reducible repeat (first | refine blk_drewN ?_ _ | refine blk_drew ?_ | refine blk_alloc ?_ _)); refine blk_far ?_ NB1120_1119.out _; (with_reducible repeat (first | refine blk_drewN ?_ _ | refine blk_drew ?_ | refine blk_alloc ?_ _)); refine blk_put (cs := #[.int .i64 1, .int .i64 0, .int .i64 0, .int .i64 0, .int .i64 t1117, .int .i64 t1116, .int .i64 0]) ?_ 2 _ rfl; exact bf NB1120_1119.out BK1120⟩, ⟨by repeat (first | (with_reducible first | exact HK.out | apply Kept.alloc | apply Kept.drewN | apply Kept.drew | refine Kept.setCell ?_ (.inr GW1114.out) _ | refine Kept.setCell ?_ (.inr GW1115.out) _ | refine Kept.setCell ?_ (.inr GW1119.out) _ | refine Kept.setCell ?_ (.inr GW1120.out) _) | exact HK.out)⟩, ⟨bb HB⟩⟩
    ·rw [if_neg c36] at H
     have c36b0 : (t1121 == 2) = false := beq_eq_false_iff_ne.mpr c36
     have c36b1 : (t1121 != 2) = true := bne_iff_ne.mpr c36
     by_cases c46 : t1121 = 3
     ·rw [if_pos c46] at H
      have c46b0 : (t1121 == 3) = true := beq_iff_eq.mpr c46
      have c46b1 : (t1121 != 3) = false := bne_eq_false_iff_eq.mpr c46
      clear c46
      have H' := dk H
      clear H
      have hnb47 := NB1119_1114.out
      have hnc47 := NB1114_1119.out
      have hnb48 := NB1119_1115.out
      have hnc48 := NB1115_1119.out
      have hnb49 := NB1119_1120.out
      have hnc49 := NB1120_1119.out
      have ⟨z50_0, z50_1, z50_2, z50_3, z50_4, z50_5, z50_6, v50_0, v50_1, v50_2, v50_3, v50_4, v50_5, v50_6⟩ := rz7 BK1119
      have hnb51 := NB1120_1114.out
      have hnc51 := NB1114_1120.out
      have hnb52 := NB1120_1115.out
      have hnc52 := NB1115_1120.out
      have ⟨z53_0, z53_1, z53_2, z53_3, z53_4, z53_5, z53_6, v53_0, v53_1, v53_2, v53_3, v53_4, v53_5, v53_6⟩ := rz7 BK1120
      have hnb54 := NB1114_1115.out
      have hnc54 := NB1115_1114.out
      have ⟨z55_0, z55_1, z55_2, z55_3, z55_4, v55_0, v55_1, v55_2, v55_3, v55_4⟩ := rz5 BK1114
      go_wp2
      go_meet
      case rel => exact ⟨_, (0), (0), (1), (a0_2), (1), (0), (0), (a0_0), H', ⟨by first | omega | exact Nat.le_refl _⟩, ⟨by (with_reducible repeat (first | apply Kd.R_alloc | apply Kd.R_drewN | apply Kd.R_drew)); exact Kd.R_mono (Kd.R_far (p := ⟨gb1120, 6, none⟩) (Kd.R_far (p := ⟨gb1119, 6, none⟩) (Kd.R_far (p := ⟨gb1120, 1, none⟩) (Kd.R_far (p := ⟨gb1119, 3, none⟩) (Kd.R_mono (Kd.R_mono HO1.out (fun k_ hk => (⟨hk, hk.1.2⟩ : _ ∧ k_ ≠ gb1119))) (fun k_ hk => (⟨hk, hk.1.2⟩ : _ ∧ k_ ≠ gb1120))) (fun _ hk => hk.1.2) (.int .i64 1)) (fun _ hk => hk.2) (.int .i64 1)) (fun _ hk => hk.1.2) (.int .i64 a0_2)) (fun _ hk => hk.2) (.int .i64 a0_0)) (fun _ hk => ⟨hk.1.1.1.1, ⟨hk.1.1.1.2, hk.1.1.2⟩⟩)⟩, ⟨by (with_reducible repeat (first | refine blk_drewN ?_ _ | refine blk_drew ?_ | refine blk_alloc ?_ _)); refine blk_far ?_ NB1114_1120.out _; (with_reducible repeat (first | refine blk_drewN ?_ _ | refine blk_drew ?_ | refine blk_alloc ?_ _)); refine blk_far ?_ NB1114_1119.out _; (with_reducible repeat (first | refine blk_drewN ?_ _ | refine blk_drew ?_ | refine blk_alloc ?_ _)); refine blk_far ?_ NB1114_1120.out _; exact bf NB1114_1119.out BK1114⟩, ⟨by (with_reducible repeat (first | refine blk_drewN ?_ _ | refine blk_drew ?_ | refine blk_alloc ?_ _)); refine blk_far ?_ NB1115_1120.out _; (with_reducible repeat (first | refine blk_drewN ?_ _ | refine blk_drew ?_ | refine blk_alloc ?_ _)); refine blk_far ?_ NB1115_1119.out _; (with_reducible repeat (first | refine blk_drewN ?_ _ | refine blk_drew ?_ | refine blk_alloc ?_ _)); refine blk_far ?_ NB1115_1120.out _; exact bf NB1115_1119.out BK1115⟩, ⟨by (with_reducible repeat (first | refine blk_drewN ?_ _ | refine blk_drew ?_ | refine blk_alloc ?_ _)); refine blk_far ?_ NB1119_1120.out _; (with_reducible repeat (first | refine blk_drewN ?_ _ | refine blk_drew ?_ | refine blk_alloc ?_ _)); refine blk_put (cs := #[.int .i64 1, .int .i64 0, .int .i64 0, .int .i64 1, .int .i64 t1116, .int .i64 t1117, .int .i64 0]) ?_ 6 _ rfl; (with_reducible repeat (first | refine blk_drewN ?_ _ | refine blk_drew ?_ | refine blk_alloc ?_ _)); refine blk_far ?_ NB1119_1120.out _; (with_reducible repeat (first | refine blk_drewN ?_ _ | refine blk_drew ?_ | refine blk_alloc ?_ _)); refine blk_put (cs := #[.int .i64 1, .int .i64 0, .int .i64 0, .int .i64 0, .int .i64 t1116, .int .i64 t1117, .int .i64 0]) ?_ 3 _ rfl; (with_reducible repeat (first | refine blk_drewN ?_ _ | refine blk_drew ?_ | refine blk_alloc ?_ _)); exact BK1119.out⟩, ⟨by (with_reducible repeat (first | refine blk_drewN ?_ _ | refine blk_drew ?_ | refine blk_alloc ?_ _)); refine blk_put (cs := #[.int .i64 1, .int .i64 1, .int .i64 0, .int .i64 0, .int .i64 t1117, .int .i64 t1116, .int .i64 0]) ?_ 6 _ rfl; (with_reducible repeat (first | refine blk_drewN ?_ _ | refine blk_drew ?_ | refine blk_alloc ?_ _)); refine blk_far ?_ NB1120_1119.out _; (with_reducible repeat (first | refine blk_drewN ?_ _ | refine blk_drew ?_ | refine blk_alloc ?_ _)); refine blk_put (cs := #[.int .i64 1, .int .i64 0, .int .i64 0, .int .i64 0, .int .i64 t1117, .int .i64 t1116, .int .i64 0]) ?_ 1 _ rfl; exact bf NB1120_1119.out BK1120⟩, ⟨by repeat (first | (with_reducible first | exact HK.out | apply Kept.alloc | apply Kept.drewN | apply Kept.drew | refine Kept.setCell ?_ (.inr GW1114.out) _ | refine Kept.setCell ?_ (.inr GW1115.out) _ | refine Kept.setCell ?_ (.inr GW1119.out) _ | refine Kept.setCell ?_ (.inr GW1120.out) _) | exact HK.out)⟩, ⟨bb HB⟩⟩
     ·rw [if_neg c46] at H
      have c46b0 : (t1121 == 3) = false := beq_eq_false_iff_ne.mpr c46
      have c46b1 : (t1121 != 3) = true := bne_iff_ne.mpr c46
      have H' := dk H
      clear H
      go_wp2
      go_meet
      case rel => exact ⟨_, (0), (0), (0), (0), (0), (0), (0), (0), H', ⟨by first | omega | exact Nat.le_refl _⟩, ⟨rp HO1⟩, ⟨bk BK1114⟩, ⟨bk BK1115⟩, ⟨bk BK1119⟩, ⟨bk BK1120⟩, ⟨by repeat (first | (with_reducible first | exact HK.out | apply Kept.alloc | apply Kept.drewN | apply Kept.drew | refine Kept.setCell ?_ (.inr GW1114.out) _ | refine Kept.setCell ?_ (.inr GW1115.out) _ | refine Kept.setCell ?_ (.inr GW1119.out) _ | refine Kept.setCell ?_ (.inr GW1120.out) _) | exact HK.out)⟩, ⟨bb HB⟩⟩
  case rest =>
   clear HC13
   (try clear c1)
   (try clear c2)
   (try clear p2)
   (try clear c3)
   (try clear c4)
   (try clear c5)
   (try clear c8)
   (try clear c11)
   (try clear c13)
   (try clear c15)
   (try clear c16)
   (try clear c19)
   (try clear c20)
   (try clear c21)
   (try clear c23)
   (try clear c26)
   (try clear c26b0)
   (try clear c26b1)
   (try clear c27)
   (try clear c28)
   (try clear c29)
   (try clear c31)
   (try clear c32)
   (try clear c34)
   (try clear c36)
   (try clear c36b0)
   (try clear c36b1)
   (try clear c37)
   (try clear c38)
   (try clear c39)
   (try clear c41)
   (try clear c42)
   (try clear c44)
   (try clear c46)
   (try clear c46b0)
   (try clear c46b1)
   (try clear c47)
   (try clear c48)
   (try clear c49)
   (try clear c51)
   (try clear c52)
   (try clear c54)
   (try clear z17_0 z17_1 z17_2 z17_3 z17_4 z17_5 z17_6)
   (try clear z22_0 z22_1 z22_2 z22_3 z22_4 z22_5 z22_6)
   (try clear z24_0 z24_1 z24_2 z24_3 z24_4)
   (try clear z30_0 z30_1 z30_2 z30_3 z30_4 z30_5 z30_6)
   (try clear z33_0 z33_1 z33_2 z33_3 z33_4 z33_5 z33_6)
   (try clear z35_0 z35_1 z35_2 z35_3 z35_4)
   (try clear z40_0 z40_1 z40_2 z40_3 z40_4 z40_5 z40_6)
   (try clear z43_0 z43_1 z43_2 z43_3 z43_4 z43_5 z43_6)
   (try clear z45_0 z45_1 z45_2 z45_3 z45_4)
   (try clear z50_0 z50_1 z50_2 z50_3 z50_4 z50_5 z50_6)
   (try clear z53_0 z53_1 z53_2 z53_3 z53_4 z53_5 z53_6)
   (try clear z55_0 z55_1 z55_2 z55_3 z55_4)
   (try clear z9_0 z9_1 z9_2 z9_3 z9_4)
   (try clear v17_0 v17_1 v17_2 v17_3 v17_4 v17_5 v17_6)
   (try clear v22_0 v22_1 v22_2 v22_3 v22_4 v22_5 v22_6)
   (try clear v24_0 v24_1 v24_2 v24_3 v24_4)
   (try clear v30_0 v30_1 v30_2 v30_3 v30_4 v30_5 v30_6)
   (try clear v33_0 v33_1 v33_2 v33_3 v33_4 v33_5 v33_6)
   (try clear v35_0 v35_1 v35_2 v35_3 v35_4)
   (try clear v40_0 v40_1 v40_2 v40_3 v40_4 v40_5 v40_6)
   (try clear v43_0 v43_1 v43_2 v43_3 v43_4 v43_5 v43_6)
   (try clear v45_0 v45_1 v45_2 v45_3 v45_4)
   (try clear v50_0 v50_1 v50_2 v50_3 v50_4 v50_5 v50_6)
   (try clear v53_0 v53_1 v53_2 v53_3 v53_4 v53_5 v53_6)
   (try clear v55_0 v55_1 v55_2 v55_3 v55_4)
   (try clear v9_0 v9_1 v9_2 v9_3 v9_4)
   obtain ⟨kq, x1120001_12, x1120002_12, x1120003_12, x1120006_12, x1121001_12, x1121002_12, x1121003_12, x1121006_12, HA, HJ12, HO_1, BK1114, BK1115, BK1119, BK1120, HK, HB⟩ := hcut
   cases kq with
   | zero => exact absurd HA.out (by simp [spec_l06Add.j0])
   | succ kj12 =>
    have H := HA.out
    clear HA
    simp only [spec_l06Add.j0] at H
    by_cases c56 : 0 ≤ a2_0
    ·rw [if_pos c56] at H
     have c56b0 : decide (0 ≤ a2_0) = true := decide_eq_true c56
     clear c56
     by_cases c57 : a2_0 < (l1.length : Int)
     ·rw [if_pos c57] at H
      have c57b0 : decide (a2_0 < (l1.length : Int)) = true := decide_eq_true c57
      clear c57
      replace H := Option.bind_eq_some_iff.mp H
      obtain ⟨⟨t1123, t1124, t1125, t1126, t1127, t1128, t1129⟩, A580, H⟩ := H
      try dsimp only at H
      have A58 := dk A580
      clear A580
      obtain ⟨y1130, hy1130⟩ : ∃ y_ : List (S115), y_ = (l1.set (a2_0 : Int).toNat (⟨t1123, t1124, t1125, t1126, t1127, t1128, t1129⟩ : S115)) := ⟨_, rfl⟩
      replace H : (if 0 ≤ a2_1 then (if a2_1 < (l1.length : Int) then ((spec_AddRows.f ((rd_T115 y1130 a2_1).f0) ((rd_T115 y1130 a2_1).f1) ((rd_T115 y1130 a2_1).f2) ((rd_T115 y1130 a2_1).f3) ((rd_T115 y1130 a2_1).f4) ((rd_T115 y1130 a2_1).f5) ((rd_T115 y1130 a2_1).f6) 1 x1121001_12 x1121002_12 x1121003_12 t1117 t1116 x1121006_12).bind fun bt1132 => (some (y1130.set (a2_1 : Int).toNat (⟨bt1132.1, bt1132.2.1, bt1132.2.2.1, bt1132.2.2.2.1, bt1132.2.2.2.2.1, bt1132.2.2.2.2.2.1, bt1132.2.2.2.2.2.2⟩ : S115)))) else (none)) else (none)) = some r := by first | (rw [hy1130]; with_reducible exact H) | (have H2_ := (Option.bind_some _ _).symm.trans H; rw [hy1130]; with_reducible exact H2_) | (have H2_ := (Option.bind_some _ _).symm.trans H; with_reducible exact H2_) | with_reducible exact H | (rw [hy1130]; exact H) | exact H
      have Ny1130 := dk hy1130
      clear hy1130
      by_cases c60 : 0 ≤ a2_1
      ·rw [if_pos c60] at H
       have c60b0 : decide (0 ≤ a2_1) = true := decide_eq_true c60
       clear c60
       by_cases c61 : a2_1 < (l1.length : Int)
       ·rw [if_pos c61] at H
        have c61b0 : decide (a2_1 < (l1.length : Int)) = true := decide_eq_true c61
        clear c61
        replace H := Option.bind_eq_some_iff.mp H
        obtain ⟨⟨t1132, t1133, t1134, t1135, t1136, t1137, t1138⟩, A620, H⟩ := H
        try dsimp only at H
        have A62 := dk A620
        clear A620
        obtain ⟨y1139, hy1139⟩ : ∃ y_ : List (S115), y_ = (y1130.set (a2_1 : Int).toNat (⟨t1132, t1133, t1134, t1135, t1136, t1137, t1138⟩ : S115)) := ⟨_, rfl⟩
        replace H : (some y1139) = some r := by first | (rw [hy1139]; with_reducible exact H) | (have H2_ := (Option.bind_some _ _).symm.trans H; rw [hy1139]; with_reducible exact H2_) | (have H2_ := (Option.bind_some _ _).symm.trans H; with_reducible exact H2_) | with_reducible exact H | (rw [hy1139]; exact H) | exact H
        have Ny1139 := dk hy1139
        clear hy1139
        obtain rfl := Option.some.inj H
        try go_wp2
        replace HO_1 := dk (Kd.R_drew HO_1.out)
        replace BK1114 := dk (blk_drew BK1114.out)
        replace BK1115 := dk (blk_drew BK1115.out)
        replace BK1119 := dk (blk_drew BK1119.out)
        replace BK1120 := dk (blk_drew BK1120.out)
        replace HK := dk (Kept.drew HK.out)
        replace HB := dk (below_drew1 HB.out)
        obtain ⟨Ao65, co65, eo65⟩ := Kd.R_slice HO_1.out
        (first | subst eo65 | (injection eo65 with f1_ f2_ f3_; have f4_ := f1_.symm; have f5_ := f3_.symm; clear f1_ f2_ f3_; subst f4_; subst f5_))
        have p1122 : 0 ≤ (a2_0 : Int) := oa
        have q1122 : a2_0 < (l1.length : Int) := oa
        obtain ⟨ad1122, e1122, hx1122_0, hx1122_1, hx1122_2, hx1122_3, hx1122_4, hx1122_5, hx1122_6⟩ := at_T115 (Kd.R_reads' HO_1.out).2.2 a2_0 p1122 q1122
        cases e1122
        replace p1122 := eq_true p1122
        replace q1122 := eq_true q1122
        refine start_ (n := 12) (S := fun w' => w'.cell? ⟨gb1115, 0, none⟩ = some (.int .i64 a2_0) ∧ w'.cell? ⟨gb1115, 1, none⟩ = some (.int .i64 a2_1) ∧ w'.cell? ⟨gb1115, 2, none⟩ = some (.int .i64 a2_2) ∧ w'.cell? ⟨gb1115, 3, none⟩ = some (.int .i64 a2_3) ∧ w'.cell? ⟨gb1115, 4, none⟩ = some (.int .i64 a2_4) ∧ w'.cell? ⟨gb1119, 0, none⟩ = some (.int .i64 1) ∧ w'.cell? ⟨gb1119, 1, none⟩ = some (.int .i64 x1120001_12) ∧ w'.cell? ⟨gb1119, 2, none⟩ = some (.int .i64 x1120002_12) ∧ w'.cell? ⟨gb1119, 3, none⟩ = some (.int .i64 x1120003_12) ∧ w'.cell? ⟨gb1119, 4, none⟩ = some (.int .i64 t1116) ∧ w'.cell? ⟨gb1119, 5, none⟩ = some (.int .i64 t1117) ∧ w'.cell? ⟨gb1119, 6, none⟩ = some (.int .i64 x1120006_12) ∧ w'.cell? (ad1122.add ((a2_0).toNat * 7)) = some (.int .i64 ((rd_T115 l1 a2_0).f0)) ∧ w'.cell? ⟨(ad1122.add ((a2_0).toNat * 7)).block, (ad1122.add ((a2_0).toNat * 7)).off + 1, none⟩ = some (.int .i64 ((rd_T115 l1 a2_0).f1)) ∧ w'.cell? ⟨(ad1122.add ((a2_0).toNat * 7)).block, (ad1122.add ((a2_0).toNat * 7)).off + 2, none⟩ = some (.int .i64 ((rd_T115 l1 a2_0).f2)) ∧ w'.cell? ⟨(ad1122.add ((a2_0).toNat * 7)).block, (ad1122.add ((a2_0).toNat * 7)).off + 3, none⟩ = some (.int .i64 ((rd_T115 l1 a2_0).f3)) ∧ w'.cell? ⟨(ad1122.add ((a2_0).toNat * 7)).block, (ad1122.add ((a2_0).toNat * 7)).off + 4, none⟩ = some (.int .i64 ((rd_T115 l1 a2_0).f4)) ∧ w'.cell? ⟨(ad1122.add ((a2_0).toNat * 7)).block, (ad1122.add ((a2_0).toNat * 7)).off + 5, none⟩ = some (.int .i64 ((rd_T115 l1 a2_0).f5)) ∧ w'.cell? ⟨(ad1122.add ((a2_0).toNat * 7)).block, (ad1122.add ((a2_0).toNat * 7)).off + 6, none⟩ = some (.int .i64 ((rd_T115 l1 a2_0).f6))) (ds := [11]) #[false, false, false, false, false, false, false, false, false, false, false, false] (by kernel_rfl) rfl rfl ⟨bc BK1115 0, bc BK1115 1, bc BK1115 2, bc BK1115 3, bc BK1115 4, bc BK1119 0, bc BK1119 1, bc BK1119 2, bc BK1119 3, bc BK1119 4, bc BK1119 5, bc BK1119 6, hx1122_0, hx1122_1, hx1122_2, hx1122_3, hx1122_4, hx1122_5, hx1122_6⟩ (fun hHeld => ?_); refine with_tabW spec_l06Add.tab21 spec_l06Add.bits21 (fun HT_ HW_ => ?_)
        generalize wc.drew = w64 at HO_1 BK1114 BK1115 BK1119 BK1120 HK HB hx1122_0 hx1122_1 hx1122_2 hx1122_3 hx1122_4 hx1122_5 hx1122_6 hHeld ⊢
        refine pz_ 0 57 ?_
        refine pz_ 1 58 ?_
        refine pz_ 3 60 ?_
        refine pz_ 4 61 ?_
        refine tk_ 2 59 ?_
        refine tk_ 5 62 ?_
        refine pz_ 6 63 ?_
        refine tk_ 7 64 ?_
        refine tk_ 8 65 ?_
        refine one_ (i := 9) (N := some 66) #[true, true, true, true, true, true, true, true, true, true, false, false] rfl rfl (one_of HT_.out (by kernel_rfl)) (by decide) (fun K hK => ?_)
        refine goes_ Try.func170 (by kernel_rfl) rfl #[.agg #[.int .i64 ((rd_T115 l1 a2_0).f0), .int .i64 ((rd_T115 l1 a2_0).f1), .int .i64 ((rd_T115 l1 a2_0).f2), .int .i64 ((rd_T115 l1 a2_0).f3), .int .i64 ((rd_T115 l1 a2_0).f4), .int .i64 ((rd_T115 l1 a2_0).f5), .int .i64 ((rd_T115 l1 a2_0).f6)], .agg #[.int .i64 1, .int .i64 x1120001_12, .int .i64 x1120002_12, .int .i64 x1120003_12, .int .i64 t1116, .int .i64 t1117, .int .i64 x1120006_12]] (by rfl) rfl rfl (by (try simp only [List.map_toArray, List.map_cons, List.map_nil]); first | done | rfl | (simp only [List.length_drop, List.length_take]; rfl)) ?_
        with_reducible refine (spec_AddRows.calls ((rd_T115 l1 a2_0).f0) ((rd_T115 l1 a2_0).f1) ((rd_T115 l1 a2_0).f2) ((rd_T115 l1 a2_0).f3) ((rd_T115 l1 a2_0).f4) ((rd_T115 l1 a2_0).f5) ((rd_T115 l1 a2_0).f6) 1 x1120001_12 x1120002_12 x1120003_12 t1116 t1117 x1120006_12 t1123 t1124 t1125 t1126 t1127 t1128 t1129 _ A58.out).mono ?_
        rintro e w66 ⟨rfl, hb⟩
        have HS12_ := (hb.cell (World.block_lt_of_cell? _ _ (hHeld.2.2.2.2.2.2.2.2.2.2.2.2.1))).trans (hHeld.2.2.2.2.2.2.2.2.2.2.2.2.1)
        have HS13_ := (hb.cell (World.block_lt_of_cell? _ _ (hHeld.2.2.2.2.2.2.2.2.2.2.2.2.2.1))).trans (hHeld.2.2.2.2.2.2.2.2.2.2.2.2.2.1)
        have HS14_ := (hb.cell (World.block_lt_of_cell? _ _ (hHeld.2.2.2.2.2.2.2.2.2.2.2.2.2.2.1))).trans (hHeld.2.2.2.2.2.2.2.2.2.2.2.2.2.2.1)
        have HS15_ := (hb.cell (World.block_lt_of_cell? _ _ (hHeld.2.2.2.2.2.2.2.2.2.2.2.2.2.2.2.1))).trans (hHeld.2.2.2.2.2.2.2.2.2.2.2.2.2.2.2.1)
        have HS16_ := (hb.cell (World.block_lt_of_cell? _ _ (hHeld.2.2.2.2.2.2.2.2.2.2.2.2.2.2.2.2.1))).trans (hHeld.2.2.2.2.2.2.2.2.2.2.2.2.2.2.2.2.1)
        have HS17_ := (hb.cell (World.block_lt_of_cell? _ _ (hHeld.2.2.2.2.2.2.2.2.2.2.2.2.2.2.2.2.2.1))).trans (hHeld.2.2.2.2.2.2.2.2.2.2.2.2.2.2.2.2.2.1)
        have HS18_ := (hb.cell (World.block_lt_of_cell? _ _ (hHeld.2.2.2.2.2.2.2.2.2.2.2.2.2.2.2.2.2.2))).trans (hHeld.2.2.2.2.2.2.2.2.2.2.2.2.2.2.2.2.2.2)
        refine ⟨_, rfl, ?_⟩
        replace HO_1 := kr HO_1 hb
        replace BK1114 := kb BK1114 hb
        replace BK1115 := kb BK1115 hb
        replace BK1119 := kb BK1119 hb
        replace BK1120 := kb BK1120 hb
        replace HK := dk (Kept.below (S := (fun k_ => P1_ k_)) (by repeat (first | (with_reducible first | exact HK.out | apply Kept.alloc | apply Kept.drewN | apply Kept.drew | refine Kept.setCell ?_ (.inr GW1114.out) _ | refine Kept.setCell ?_ (.inr GW1115.out) _ | refine Kept.setCell ?_ (.inr GW1119.out) _ | refine Kept.setCell ?_ (.inr GW1120.out) _) | exact HK.out)) hb)
        replace HB := hs_ HB hb
        (try clear hb hb2 hk hi)
        have p59 : 0 ≤ (a2_0 : Int) := oa
        have q59 : (a2_0 : Int) < ((l1.length : Int) : Int) := oa
        obtain ⟨go59, co59, eo59, gb59, gl59, cl59, HG59⟩ := Kd.R_form HO_1.out (by omega)
        (first | cases eo59 | (injection eo59 with ea_ en_ ec_; (first | subst ea_ | (injection ea_ with ea_; subst ea_)); subst ec_; clear en_))
        have GB59 := dk gb59
        have GG59 := dk HG59
        clear gb59 gl59 HG59
        have HMgo59 := dk (show (P1_ go59 ∨ w.heap.size ≤ go59) from (HO_1.out.1 _ rfl).1)
        (first | simp only [add_plain] at hx1122_0 | skip)
        (first | simp only [add_plain] at hx1122_1 | skip)
        (first | simp only [add_plain] at hx1122_2 | skip)
        (first | simp only [add_plain] at hx1122_3 | skip)
        (first | simp only [add_plain] at hx1122_4 | skip)
        (first | simp only [add_plain] at hx1122_5 | skip)
        (first | simp only [add_plain] at hx1122_6 | skip)
        obtain ⟨ce59, hcl59, hM59, hcc59, hfr59⟩ := Kd.R_elem HO_1.out z115 (a2_0 : Int) p59 q59
        obtain rfl := k115_openM hM59
        have hx59_0 : World.cell? _ ⟨go59, (a2_0 : Int).toNat * 7, none⟩ = some (.int .i64 ((rd_T115 l1 a2_0).f0)) := hcc59 0 _ rfl
        have hx59_1 : World.cell? _ ⟨go59, (a2_0 : Int).toNat * 7 + 1, none⟩ = some (.int .i64 ((rd_T115 l1 a2_0).f1)) := hcc59 1 _ rfl
        have hx59_2 : World.cell? _ ⟨go59, (a2_0 : Int).toNat * 7 + 2, none⟩ = some (.int .i64 ((rd_T115 l1 a2_0).f2)) := hcc59 2 _ rfl
        have hx59_3 : World.cell? _ ⟨go59, (a2_0 : Int).toNat * 7 + 3, none⟩ = some (.int .i64 ((rd_T115 l1 a2_0).f3)) := hcc59 3 _ rfl
        have hx59_4 : World.cell? _ ⟨go59, (a2_0 : Int).toNat * 7 + 4, none⟩ = some (.int .i64 ((rd_T115 l1 a2_0).f4)) := hcc59 4 _ rfl
        have hx59_5 : World.cell? _ ⟨go59, (a2_0 : Int).toNat * 7 + 5, none⟩ = some (.int .i64 ((rd_T115 l1 a2_0).f5)) := hcc59 5 _ rfl
        have hx59_6 : World.cell? _ ⟨go59, (a2_0 : Int).toNat * 7 + 6, none⟩ = some (.int .i64 ((rd_T115 l1 a2_0).f6)) := hcc59 6 _ rfl
        have hf59_0 : World.frozen? _ ⟨go59, (a2_0 : Int).toNat * 7, none⟩ = false := hfr59 0
        have hf59_1 : World.frozen? _ ⟨go59, (a2_0 : Int).toNat * 7 + 1, none⟩ = false := hfr59 1
        have hf59_2 : World.frozen? _ ⟨go59, (a2_0 : Int).toNat * 7 + 2, none⟩ = false := hfr59 2
        have hf59_3 : World.frozen? _ ⟨go59, (a2_0 : Int).toNat * 7 + 3, none⟩ = false := hfr59 3
        have hf59_4 : World.frozen? _ ⟨go59, (a2_0 : Int).toNat * 7 + 4, none⟩ = false := hfr59 4
        have hf59_5 : World.frozen? _ ⟨go59, (a2_0 : Int).toNat * 7 + 5, none⟩ = false := hfr59 5
        have hf59_6 : World.frozen? _ ⟨go59, (a2_0 : Int).toNat * 7 + 6, none⟩ = false := hfr59 6
        clear hcl59 hcc59 hfr59; (try clear hM59)
        replace p59 := eq_true p59
        replace q59 := eq_true q59
        obtain ⟨ce67, hcl67, hM67, hcc67, hfr67⟩ := Kd.R_elem HO_1.out z115 (a2_0 : Int) (oa) (by have h_ : (a2_0 : Int) < ((l1.length : Int) : Int) := oa; first | exact h_ | (have e_ := (Kd.R_reads' HO_1.out).1; omega) | simpa using h_)
        obtain rfl := k115_openM hM67
        have HP67 := (Kd.R_seg HO_1.out (a2_0 : Int) (oa) (by have h_ : (a2_0 : Int) < ((l1.length : Int) : Int) := oa; first | exact h_ | (have e_ := (Kd.R_reads' HO_1.out).1; omega) | simpa using h_) (seg := [.int .i64 t1123, .int .i64 t1124, .int .i64 t1125, .int .i64 t1126, .int .i64 t1127, .int .i64 t1128, .int .i64 t1129]) (j := 0) hcl67 hcc67 (show 7 ≤ 7 from by decide) (x' := (⟨t1123, t1124, t1125, t1126, t1127, t1128, t1129⟩ : S115)) (k115_mkM _ _ _ (⟨t1123, t1124, t1125, t1126, t1127, t1128, t1129⟩ : S115) ) (fun _ hk => hk)).1
        rw [← Ny1130.out] at HP67
        have HQ67 := dk HP67
        clear hcl67 hcc67 hfr67 hM67 HP67
        refine hK.out _ _ ⟨bc BK1115 0, bc BK1115 1, bc BK1115 2, bc BK1115 3, bc BK1115 4, bc BK1119 0, bc BK1119 1, bc BK1119 2, bc BK1119 3, bc BK1119 4, bc BK1119 5, bc BK1119 6, HS12_, HS13_, HS14_, HS15_, HS16_, HS17_, HS18_⟩ (fun hHeld => ?_)
        clear hK K
        refine norm_ (a' := ?_) ?_ ?_
        rotate_left
        ·show Act.put _ (some 66) _ = _
         simp only [Act.put, List.setIfInBounds_toArray, List.set_cons_zero, List.set_cons_succ, i64_w, i32_w]
         rfl
        refine pz_ 10 67 ?_
        refine last_ (i := 11) (N := none) #[true, true, true, true, true, true, true, true, true, true, true, true] rfl rfl (one_of HT_.out (by kernel_rfl)) (by decide) (fun K hK => ?_)
        refine skip_ (w1 := ?_) (by rfl) rfl ?_ ?_
        rotate_left
        ·go_simp
         rfl
        refine hK.out _ _ ?_
        clear hK K
        refine done_ (done_of HT_.out (by kernel_rfl)) ?_
        try go_wp2
        have n0_ : Aside0 (Kd.R k115 115 (((((((w66.setCell ⟨go59, (a2_0 : Int).toNat * 7, none⟩ (.int .i64 t1123)).setCell ⟨go59, (a2_0 : Int).toNat * 7 + 1, none⟩ (.int .i64 t1124)).setCell ⟨go59, (a2_0 : Int).toNat * 7 + 2, none⟩ (.int .i64 t1125)).setCell ⟨go59, (a2_0 : Int).toNat * 7 + 3, none⟩ (.int .i64 t1126)).setCell ⟨go59, (a2_0 : Int).toNat * 7 + 4, none⟩ (.int .i64 t1127)).setCell ⟨go59, (a2_0 : Int).toNat * 7 + 5, none⟩ (.int .i64 t1128)).setCell ⟨go59, (a2_0 : Int).toNat * 7 + 6, none⟩ (.int .i64 t1129)) w0.heap.size (fun k_ => (P1_ k_ ∨ w.heap.size ≤ k_) ∧ k_ ≠ gb1119 ∧ k_ ≠ gb1120) (.slice (some ⟨go59, 0, none⟩) l1.length co65) y1130) := ⟨rr HQ67⟩
        have n1_ : Aside0 ((((((((w66.setCell ⟨go59, (a2_0 : Int).toNat * 7, none⟩ (.int .i64 t1123)).setCell ⟨go59, (a2_0 : Int).toNat * 7 + 1, none⟩ (.int .i64 t1124)).setCell ⟨go59, (a2_0 : Int).toNat * 7 + 2, none⟩ (.int .i64 t1125)).setCell ⟨go59, (a2_0 : Int).toNat * 7 + 3, none⟩ (.int .i64 t1126)).setCell ⟨go59, (a2_0 : Int).toNat * 7 + 4, none⟩ (.int .i64 t1127)).setCell ⟨go59, (a2_0 : Int).toNat * 7 + 5, none⟩ (.int .i64 t1128)).setCell ⟨go59, (a2_0 : Int).toNat * 7 + 6, none⟩ (.int .i64 t1129)).heap[gb1114]? = some (.cells #[.int .i64 a0_0, .int .i64 a0_1, .int .i64 a0_2, .slice A0_3 l0_3.length c0_3, .bool a0_4] 33 (0, 0))) := ⟨bg HO_1 BK1114⟩
        have n2_ : Aside0 ((((((((w66.setCell ⟨go59, (a2_0 : Int).toNat * 7, none⟩ (.int .i64 t1123)).setCell ⟨go59, (a2_0 : Int).toNat * 7 + 1, none⟩ (.int .i64 t1124)).setCell ⟨go59, (a2_0 : Int).toNat * 7 + 2, none⟩ (.int .i64 t1125)).setCell ⟨go59, (a2_0 : Int).toNat * 7 + 3, none⟩ (.int .i64 t1126)).setCell ⟨go59, (a2_0 : Int).toNat * 7 + 4, none⟩ (.int .i64 t1127)).setCell ⟨go59, (a2_0 : Int).toNat * 7 + 5, none⟩ (.int .i64 t1128)).setCell ⟨go59, (a2_0 : Int).toNat * 7 + 6, none⟩ (.int .i64 t1129)).heap[gb1115]? = some (.cells #[.int .i64 a2_0, .int .i64 a2_1, .int .i64 a2_2, .int .i64 a2_3, .int .i64 a2_4] 95 (0, 0))) := ⟨bg HO_1 BK1115⟩
        have n3_ : Aside0 ((((((((w66.setCell ⟨go59, (a2_0 : Int).toNat * 7, none⟩ (.int .i64 t1123)).setCell ⟨go59, (a2_0 : Int).toNat * 7 + 1, none⟩ (.int .i64 t1124)).setCell ⟨go59, (a2_0 : Int).toNat * 7 + 2, none⟩ (.int .i64 t1125)).setCell ⟨go59, (a2_0 : Int).toNat * 7 + 3, none⟩ (.int .i64 t1126)).setCell ⟨go59, (a2_0 : Int).toNat * 7 + 4, none⟩ (.int .i64 t1127)).setCell ⟨go59, (a2_0 : Int).toNat * 7 + 5, none⟩ (.int .i64 t1128)).setCell ⟨go59, (a2_0 : Int).toNat * 7 + 6, none⟩ (.int .i64 t1129)).heap[gb1119]? = some (.cells #[.int .i64 1, .int .i64 x1120001_12, .int .i64 x1120002_12, .int .i64 x1120003_12, .int .i64 t1116, .int .i64 t1117, .int .i64 x1120006_12] 115 (0, 0))) := ⟨by (with_reducible repeat (first | refine blk_drewN ?_ _ | refine blk_drew ?_ | refine blk_alloc ?_ _)); refine blk_far ?_ (by have h_ := Kd.R_away HO_1.out (fun _ hk => hk.2.1); intro e_; exact h_ (by rw [e_]; rfl)) _; (with_reducible repeat (first | refine blk_drewN ?_ _ | refine blk_drew ?_ | refine blk_alloc ?_ _)); refine blk_far ?_ (by have h_ := Kd.R_away HO_1.out (fun _ hk => hk.2.1); intro e_; exact h_ (by rw [e_]; rfl)) _; (with_reducible repeat (first | refine blk_drewN ?_ _ | refine blk_drew ?_ | refine blk_alloc ?_ _)); refine blk_far ?_ (by have h_ := Kd.R_away HO_1.out (fun _ hk => hk.2.1); intro e_; exact h_ (by rw [e_]; rfl)) _; (with_reducible repeat (first | refine blk_drewN ?_ _ | refine blk_drew ?_ | refine blk_alloc ?_ _)); refine blk_far ?_ (by have h_ := Kd.R_away HO_1.out (fun _ hk => hk.2.1); intro e_; exact h_ (by rw [e_]; rfl)) _; (with_reducible repeat (first | refine blk_drewN ?_ _ | refine blk_drew ?_ | refine blk_alloc ?_ _)); refine blk_far ?_ (by have h_ := Kd.R_away HO_1.out (fun _ hk => hk.2.1); intro e_; exact h_ (by rw [e_]; rfl)) _; (with_reducible repeat (first | refine blk_drewN ?_ _ | refine blk_drew ?_ | refine blk_alloc ?_ _)); refine blk_far ?_ (by have h_ := Kd.R_away HO_1.out (fun _ hk => hk.2.1); intro e_; exact h_ (by rw [e_]; rfl)) _; (with_reducible repeat (first | refine blk_drewN ?_ _ | refine blk_drew ?_ | refine blk_alloc ?_ _)); refine blk_far ?_ (by have h_ := Kd.R_away HO_1.out (fun _ hk => hk.2.1); intro e_; exact h_ (by rw [e_]; rfl)) _; (with_reducible repeat (first | refine blk_drewN ?_ _ | refine blk_drew ?_ | refine blk_alloc ?_ _)); exact BK1119.out⟩
        have n4_ : Aside0 ((((((((w66.setCell ⟨go59, (a2_0 : Int).toNat * 7, none⟩ (.int .i64 t1123)).setCell ⟨go59, (a2_0 : Int).toNat * 7 + 1, none⟩ (.int .i64 t1124)).setCell ⟨go59, (a2_0 : Int).toNat * 7 + 2, none⟩ (.int .i64 t1125)).setCell ⟨go59, (a2_0 : Int).toNat * 7 + 3, none⟩ (.int .i64 t1126)).setCell ⟨go59, (a2_0 : Int).toNat * 7 + 4, none⟩ (.int .i64 t1127)).setCell ⟨go59, (a2_0 : Int).toNat * 7 + 5, none⟩ (.int .i64 t1128)).setCell ⟨go59, (a2_0 : Int).toNat * 7 + 6, none⟩ (.int .i64 t1129)).heap[gb1120]? = some (.cells #[.int .i64 1, .int .i64 x1121001_12, .int .i64 x1121002_12, .int .i64 x1121003_12, .int .i64 t1117, .int .i64 t1116, .int .i64 x1121006_12] 115 (0, 0))) := ⟨by (with_reducible repeat (first | refine blk_drewN ?_ _ | refine blk_drew ?_ | refine blk_alloc ?_ _)); refine blk_far ?_ (by have h_ := Kd.R_away HO_1.out (fun _ hk => hk.2.2); intro e_; exact h_ (by rw [e_]; rfl)) _; (with_reducible repeat (first | refine blk_drewN ?_ _ | refine blk_drew ?_ | refine blk_alloc ?_ _)); refine blk_far ?_ (by have h_ := Kd.R_away HO_1.out (fun _ hk => hk.2.2); intro e_; exact h_ (by rw [e_]; rfl)) _; (with_reducible repeat (first | refine blk_drewN ?_ _ | refine blk_drew ?_ | refine blk_alloc ?_ _)); refine blk_far ?_ (by have h_ := Kd.R_away HO_1.out (fun _ hk => hk.2.2); intro e_; exact h_ (by rw [e_]; rfl)) _; (with_reducible repeat (first | refine blk_drewN ?_ _ | refine blk_drew ?_ | refine blk_alloc ?_ _)); refine blk_far ?_ (by have h_ := Kd.R_away HO_1.out (fun _ hk => hk.2.2); intro e_; exact h_ (by rw [e_]; rfl)) _; (with_reducible repeat (first | refine blk_drewN ?_ _ | refine blk_drew ?_ | refine blk_alloc ?_ _)); refine blk_far ?_ (by have h_ := Kd.R_away HO_1.out (fun _ hk => hk.2.2); intro e_; exact h_ (by rw [e_]; rfl)) _; (with_reducible repeat (first | refine blk_drewN ?_ _ | refine blk_drew ?_ | refine blk_alloc ?_ _)); refine blk_far ?_ (by have h_ := Kd.R_away HO_1.out (fun _ hk => hk.2.2); intro e_; exact h_ (by rw [e_]; rfl)) _; (with_reducible repeat (first | refine blk_drewN ?_ _ | refine blk_drew ?_ | refine blk_alloc ?_ _)); refine blk_far ?_ (by have h_ := Kd.R_away HO_1.out (fun _ hk => hk.2.2); intro e_; exact h_ (by rw [e_]; rfl)) _; (with_reducible repeat (first | refine blk_drewN ?_ _ | refine blk_drew ?_ | refine blk_alloc ?_ _)); exact BK1120.out⟩
        have n5_ : Aside0 (Kept w (((((((w66.setCell ⟨go59, (a2_0 : Int).toNat * 7, none⟩ (.int .i64 t1123)).setCell ⟨go59, (a2_0 : Int).toNat * 7 + 1, none⟩ (.int .i64 t1124)).setCell ⟨go59, (a2_0 : Int).toNat * 7 + 2, none⟩ (.int .i64 t1125)).setCell ⟨go59, (a2_0 : Int).toNat * 7 + 3, none⟩ (.int .i64 t1126)).setCell ⟨go59, (a2_0 : Int).toNat * 7 + 4, none⟩ (.int .i64 t1127)).setCell ⟨go59, (a2_0 : Int).toNat * 7 + 5, none⟩ (.int .i64 t1128)).setCell ⟨go59, (a2_0 : Int).toNat * 7 + 6, none⟩ (.int .i64 t1129)) (fun k_ => P1_ k_)) := ⟨by repeat (first | (with_reducible first | exact HK.out | apply Kept.alloc | apply Kept.drewN | apply Kept.drew | refine Kept.setCell ?_ HMgo59.out _ | refine Kept.setCell ?_ HMgo59.out _ | refine Kept.setCell ?_ HMgo59.out _ | refine Kept.setCell ?_ HMgo59.out _ | refine Kept.setCell ?_ HMgo59.out _ | refine Kept.setCell ?_ HMgo59.out _ | refine Kept.setCell ?_ HMgo59.out _ | refine Kept.setCell ?_ (.inr GW1114.out) _ | refine Kept.setCell ?_ (.inr GW1115.out) _ | refine Kept.setCell ?_ (.inr GW1119.out) _ | refine Kept.setCell ?_ (.inr GW1120.out) _) | exact HK.out)⟩
        have n6_ : Aside0 (Below w0.heap.size w0 (((((((w66.setCell ⟨go59, (a2_0 : Int).toNat * 7, none⟩ (.int .i64 t1123)).setCell ⟨go59, (a2_0 : Int).toNat * 7 + 1, none⟩ (.int .i64 t1124)).setCell ⟨go59, (a2_0 : Int).toNat * 7 + 2, none⟩ (.int .i64 t1125)).setCell ⟨go59, (a2_0 : Int).toNat * 7 + 3, none⟩ (.int .i64 t1126)).setCell ⟨go59, (a2_0 : Int).toNat * 7 + 4, none⟩ (.int .i64 t1127)).setCell ⟨go59, (a2_0 : Int).toNat * 7 + 5, none⟩ (.int .i64 t1128)).setCell ⟨go59, (a2_0 : Int).toNat * 7 + 6, none⟩ (.int .i64 t1129))) := ⟨bb HB⟩
        (try clear HO_1)
        (try clear BK1114)
        (try clear BK1115)
        (try clear BK1119)
        (try clear BK1120)
        (try clear HK)
        (try clear HB)
        generalize (((((((w66.setCell ⟨go59, (a2_0 : Int).toNat * 7, none⟩ (.int .i64 t1123)).setCell ⟨go59, (a2_0 : Int).toNat * 7 + 1, none⟩ (.int .i64 t1124)).setCell ⟨go59, (a2_0 : Int).toNat * 7 + 2, none⟩ (.int .i64 t1125)).setCell ⟨go59, (a2_0 : Int).toNat * 7 + 3, none⟩ (.int .i64 t1126)).setCell ⟨go59, (a2_0 : Int).toNat * 7 + 4, none⟩ (.int .i64 t1127)).setCell ⟨go59, (a2_0 : Int).toNat * 7 + 5, none⟩ (.int .i64 t1128)).setCell ⟨go59, (a2_0 : Int).toNat * 7 + 6, none⟩ (.int .i64 t1129)) = w68 at n0_ n1_ n2_ n3_ n4_ n5_ n6_ ⊢
        have HO_1 := n0_
        have BK1114 := n1_
        have BK1115 := n2_
        have BK1119 := n3_
        have BK1120 := n4_
        have HK := n5_
        have HB := n6_
        clear n0_ n1_ n2_ n3_ n4_ n5_ n6_
        replace HO_1 := dk (Kd.R_drew HO_1.out)
        replace BK1114 := dk (blk_drew BK1114.out)
        replace BK1115 := dk (blk_drew BK1115.out)
        replace BK1119 := dk (blk_drew BK1119.out)
        replace BK1120 := dk (blk_drew BK1120.out)
        replace HK := dk (Kept.drew HK.out)
        replace HB := dk (below_drew1 HB.out)
        have p1131 : 0 ≤ (a2_1 : Int) := oa
        have q1131 : a2_1 < (y1130.length : Int) := (by have h_ : (a2_1 : Int) < ((l1.length : Int) : Int) := oa; first | (have e_ := (Kd.R_reads' HO_1.out).1; omega) | simpa only [Ny1130.out, List.length_set] using h_)
        have ql1131 : ((a2_1 : Int) < ((l1.length : Int) : Int)) = True := eq_true (oa)
        obtain ⟨ad1131, e1131, hx1131_0, hx1131_1, hx1131_2, hx1131_3, hx1131_4, hx1131_5, hx1131_6⟩ := at_T115 (Kd.R_reads' HO_1.out).2.2 a2_1 p1131 q1131
        obtain rfl : (⟨go59, 0, none⟩ : Addr) = ad1131 := (by injection e1131)
        (first | simp only [add_plain] at hx1131_0 | simp only [add_at] at hx1131_0 | simp only [Addr.add, Nat.zero_add] at hx1131_0 | skip)
        (first | simp only [add_plain] at hx1131_1 | simp only [add_at] at hx1131_1 | simp only [Addr.add, Nat.zero_add] at hx1131_1 | skip)
        (first | simp only [add_plain] at hx1131_2 | simp only [add_at] at hx1131_2 | simp only [Addr.add, Nat.zero_add] at hx1131_2 | skip)
        (first | simp only [add_plain] at hx1131_3 | simp only [add_at] at hx1131_3 | simp only [Addr.add, Nat.zero_add] at hx1131_3 | skip)
        (first | simp only [add_plain] at hx1131_4 | simp only [add_at] at hx1131_4 | simp only [Addr.add, Nat.zero_add] at hx1131_4 | skip)
        (first | simp only [add_plain] at hx1131_5 | simp only [add_at] at hx1131_5 | simp only [Addr.add, Nat.zero_add] at hx1131_5 | skip)
        (first | simp only [add_plain] at hx1131_6 | simp only [add_at] at hx1131_6 | simp only [Addr.add, Nat.zero_add] at hx1131_6 | skip)
        replace p1131 := eq_true p1131
        replace q1131 := eq_true q1131
        refine start_ (n := 12) (S := fun w' => w'.cell? ⟨gb1115, 0, none⟩ = some (.int .i64 a2_0) ∧ w'.cell? ⟨gb1115, 1, none⟩ = some (.int .i64 a2_1) ∧ w'.cell? ⟨gb1115, 2, none⟩ = some (.int .i64 a2_2) ∧ w'.cell? ⟨gb1115, 3, none⟩ = some (.int .i64 a2_3) ∧ w'.cell? ⟨gb1115, 4, none⟩ = some (.int .i64 a2_4) ∧ w'.cell? ⟨gb1120, 0, none⟩ = some (.int .i64 1) ∧ w'.cell? ⟨gb1120, 1, none⟩ = some (.int .i64 x1121001_12) ∧ w'.cell? ⟨gb1120, 2, none⟩ = some (.int .i64 x1121002_12) ∧ w'.cell? ⟨gb1120, 3, none⟩ = some (.int .i64 x1121003_12) ∧ w'.cell? ⟨gb1120, 4, none⟩ = some (.int .i64 t1117) ∧ w'.cell? ⟨gb1120, 5, none⟩ = some (.int .i64 t1116) ∧ w'.cell? ⟨gb1120, 6, none⟩ = some (.int .i64 x1121006_12) ∧ w'.cell? ⟨go59, (a2_1).toNat * 7, none⟩ = some (.int .i64 ((rd_T115 y1130 a2_1).f0)) ∧ w'.cell? ⟨go59, (a2_1).toNat * 7 + 1, none⟩ = some (.int .i64 ((rd_T115 y1130 a2_1).f1)) ∧ w'.cell? ⟨go59, (a2_1).toNat * 7 + 2, none⟩ = some (.int .i64 ((rd_T115 y1130 a2_1).f2)) ∧ w'.cell? ⟨go59, (a2_1).toNat * 7 + 3, none⟩ = some (.int .i64 ((rd_T115 y1130 a2_1).f3)) ∧ w'.cell? ⟨go59, (a2_1).toNat * 7 + 4, none⟩ = some (.int .i64 ((rd_T115 y1130 a2_1).f4)) ∧ w'.cell? ⟨go59, (a2_1).toNat * 7 + 5, none⟩ = some (.int .i64 ((rd_T115 y1130 a2_1).f5)) ∧ w'.cell? ⟨go59, (a2_1).toNat * 7 + 6, none⟩ = some (.int .i64 ((rd_T115 y1130 a2_1).f6))) (ds := [11]) #[false, false, false, false, false, false, false, false, false, false, false, false] (by kernel_rfl) rfl rfl ⟨bc BK1115 0, bc BK1115 1, bc BK1115 2, bc BK1115 3, bc BK1115 4, bc BK1120 0, bc BK1120 1, bc BK1120 2, bc BK1120 3, bc BK1120 4, bc BK1120 5, bc BK1120 6, hx1131_0, hx1131_1, hx1131_2, hx1131_3, hx1131_4, hx1131_5, hx1131_6⟩ (fun hHeld => ?_); refine with_tabW spec_l06Add.tab22 spec_l06Add.bits22 (fun HT_ HW_ => ?_)
        generalize w68.drew = w69 at HO_1 BK1114 BK1115 BK1119 BK1120 HK HB HQ67 hx1131_0 hx1131_1 hx1131_2 hx1131_3 hx1131_4 hx1131_5 hx1131_6 hHeld ⊢
        refine pz_ 0 68 ?_
        refine pz_ 1 69 ?_
        refine pz_ 3 71 ?_
        refine pz_ 4 72 ?_
        refine tk_ 2 70 ?_
        refine tk_ 5 73 ?_
        refine pz_ 6 74 ?_
        refine tk_ 7 75 ?_
        refine tk_ 8 76 ?_
        refine one_ (i := 9) (N := some 77) #[true, true, true, true, true, true, true, true, true, true, false, false] rfl rfl (one_of HT_.out (by kernel_rfl)) (by decide) (fun K hK => ?_)
        refine goes_ Try.func170 (by kernel_rfl) rfl #[.agg #[.int .i64 ((rd_T115 y1130 a2_1).f0), .int .i64 ((rd_T115 y1130 a2_1).f1), .int .i64 ((rd_T115 y1130 a2_1).f2), .int .i64 ((rd_T115 y1130 a2_1).f3), .int .i64 ((rd_T115 y1130 a2_1).f4), .int .i64 ((rd_T115 y1130 a2_1).f5), .int .i64 ((rd_T115 y1130 a2_1).f6)], .agg #[.int .i64 1, .int .i64 x1121001_12, .int .i64 x1121002_12, .int .i64 x1121003_12, .int .i64 t1117, .int .i64 t1116, .int .i64 x1121006_12]] (by rfl) rfl rfl (by (try simp only [List.map_toArray, List.map_cons, List.map_nil]); first | done | rfl | (simp only [List.length_drop, List.length_take]; rfl)) ?_
        with_reducible refine (spec_AddRows.calls ((rd_T115 y1130 a2_1).f0) ((rd_T115 y1130 a2_1).f1) ((rd_T115 y1130 a2_1).f2) ((rd_T115 y1130 a2_1).f3) ((rd_T115 y1130 a2_1).f4) ((rd_T115 y1130 a2_1).f5) ((rd_T115 y1130 a2_1).f6) 1 x1121001_12 x1121002_12 x1121003_12 t1117 t1116 x1121006_12 t1132 t1133 t1134 t1135 t1136 t1137 t1138 _ A62.out).mono ?_
        rintro e w70 ⟨rfl, hb⟩
        have HS12_ := (hb.cell (World.block_lt_of_cell? _ _ (hHeld.2.2.2.2.2.2.2.2.2.2.2.2.1))).trans (hHeld.2.2.2.2.2.2.2.2.2.2.2.2.1)
        have HS13_ := (hb.cell (World.block_lt_of_cell? _ _ (hHeld.2.2.2.2.2.2.2.2.2.2.2.2.2.1))).trans (hHeld.2.2.2.2.2.2.2.2.2.2.2.2.2.1)
        have HS14_ := (hb.cell (World.block_lt_of_cell? _ _ (hHeld.2.2.2.2.2.2.2.2.2.2.2.2.2.2.1))).trans (hHeld.2.2.2.2.2.2.2.2.2.2.2.2.2.2.1)
        have HS15_ := (hb.cell (World.block_lt_of_cell? _ _ (hHeld.2.2.2.2.2.2.2.2.2.2.2.2.2.2.2.1))).trans (hHeld.2.2.2.2.2.2.2.2.2.2.2.2.2.2.2.1)
        have HS16_ := (hb.cell (World.block_lt_of_cell? _ _ (hHeld.2.2.2.2.2.2.2.2.2.2.2.2.2.2.2.2.1))).trans (hHeld.2.2.2.2.2.2.2.2.2.2.2.2.2.2.2.2.1)
        have HS17_ := (hb.cell (World.block_lt_of_cell? _ _ (hHeld.2.2.2.2.2.2.2.2.2.2.2.2.2.2.2.2.2.1))).trans (hHeld.2.2.2.2.2.2.2.2.2.2.2.2.2.2.2.2.2.1)
        have HS18_ := (hb.cell (World.block_lt_of_cell? _ _ (hHeld.2.2.2.2.2.2.2.2.2.2.2.2.2.2.2.2.2.2))).trans (hHeld.2.2.2.2.2.2.2.2.2.2.2.2.2.2.2.2.2.2)
        refine ⟨_, rfl, ?_⟩
        replace HO_1 := kr HO_1 hb
        replace BK1114 := kb BK1114 hb
        replace BK1115 := kb BK1115 hb
        replace BK1119 := kb BK1119 hb
        replace BK1120 := kb BK1120 hb
        replace HK := dk (Kept.below (S := (fun k_ => P1_ k_)) (by repeat (first | (with_reducible first | exact HK.out | apply Kept.alloc | apply Kept.drewN | apply Kept.drew | refine Kept.setCell ?_ (.inr GW1114.out) _ | refine Kept.setCell ?_ (.inr GW1115.out) _ | refine Kept.setCell ?_ (.inr GW1119.out) _ | refine Kept.setCell ?_ (.inr GW1120.out) _) | exact HK.out)) hb)
        replace HB := hs_ HB hb
        (try clear hb hb2 hk hi)
        have p63 : 0 ≤ (a2_1 : Int) := oa
        have q63 : (a2_1 : Int) < ((l1.length : Int) : Int) := oa
        obtain ⟨cl59_, HG59_⟩ := Kd.R_typed HO_1.out go59 rfl
        have GG59 := dk HG59_
        clear HG59_
        obtain ⟨ce63, hcl63, hM63, hcc63, hfr63⟩ := Kd.R_elem HO_1.out z115 (a2_1 : Int) p63 q63
        obtain rfl := k115_openM hM63
        have hx63_0 : World.cell? _ ⟨go59, (a2_1 : Int).toNat * 7, none⟩ = some (.int .i64 ((rd_T115 y1130 a2_1).f0)) := hcc63 0 _ rfl
        have hx63_1 : World.cell? _ ⟨go59, (a2_1 : Int).toNat * 7 + 1, none⟩ = some (.int .i64 ((rd_T115 y1130 a2_1).f1)) := hcc63 1 _ rfl
        have hx63_2 : World.cell? _ ⟨go59, (a2_1 : Int).toNat * 7 + 2, none⟩ = some (.int .i64 ((rd_T115 y1130 a2_1).f2)) := hcc63 2 _ rfl
        have hx63_3 : World.cell? _ ⟨go59, (a2_1 : Int).toNat * 7 + 3, none⟩ = some (.int .i64 ((rd_T115 y1130 a2_1).f3)) := hcc63 3 _ rfl
        have hx63_4 : World.cell? _ ⟨go59, (a2_1 : Int).toNat * 7 + 4, none⟩ = some (.int .i64 ((rd_T115 y1130 a2_1).f4)) := hcc63 4 _ rfl
        have hx63_5 : World.cell? _ ⟨go59, (a2_1 : Int).toNat * 7 + 5, none⟩ = some (.int .i64 ((rd_T115 y1130 a2_1).f5)) := hcc63 5 _ rfl
        have hx63_6 : World.cell? _ ⟨go59, (a2_1 : Int).toNat * 7 + 6, none⟩ = some (.int .i64 ((rd_T115 y1130 a2_1).f6)) := hcc63 6 _ rfl
        have hf63_0 : World.frozen? _ ⟨go59, (a2_1 : Int).toNat * 7, none⟩ = false := hfr63 0
        have hf63_1 : World.frozen? _ ⟨go59, (a2_1 : Int).toNat * 7 + 1, none⟩ = false := hfr63 1
        have hf63_2 : World.frozen? _ ⟨go59, (a2_1 : Int).toNat * 7 + 2, none⟩ = false := hfr63 2
        have hf63_3 : World.frozen? _ ⟨go59, (a2_1 : Int).toNat * 7 + 3, none⟩ = false := hfr63 3
        have hf63_4 : World.frozen? _ ⟨go59, (a2_1 : Int).toNat * 7 + 4, none⟩ = false := hfr63 4
        have hf63_5 : World.frozen? _ ⟨go59, (a2_1 : Int).toNat * 7 + 5, none⟩ = false := hfr63 5
        have hf63_6 : World.frozen? _ ⟨go59, (a2_1 : Int).toNat * 7 + 6, none⟩ = false := hfr63 6
        clear hcl63 hcc63 hfr63; (try clear hM63)
        replace p63 := eq_true p63
        replace q63 := eq_true q63
        obtain ⟨ce71, hcl71, hM71, hcc71, hfr71⟩ := Kd.R_elem HO_1.out z115 (a2_1 : Int) (oa) (by have h_ : (a2_1 : Int) < ((l1.length : Int) : Int) := oa; first | exact h_ | (have e_ := (Kd.R_reads' HO_1.out).1; omega) | simpa using h_)
        obtain rfl := k115_openM hM71
        have HP71 := (Kd.R_seg HO_1.out (a2_1 : Int) (oa) (by have h_ : (a2_1 : Int) < ((l1.length : Int) : Int) := oa; first | exact h_ | (have e_ := (Kd.R_reads' HO_1.out).1; omega) | simpa using h_) (seg := [.int .i64 t1132, .int .i64 t1133, .int .i64 t1134, .int .i64 t1135, .int .i64 t1136, .int .i64 t1137, .int .i64 t1138]) (j := 0) hcl71 hcc71 (show 7 ≤ 7 from by decide) (x' := (⟨t1132, t1133, t1134, t1135, t1136, t1137, t1138⟩ : S115)) (k115_mkM _ _ _ (⟨t1132, t1133, t1134, t1135, t1136, t1137, t1138⟩ : S115) ) (fun _ hk => hk)).1
        rw [← Ny1139.out] at HP71
        have HQ71 := dk HP71
        clear hcl71 hcc71 hfr71 hM71 HP71
        refine hK.out _ _ ⟨bc BK1115 0, bc BK1115 1, bc BK1115 2, bc BK1115 3, bc BK1115 4, bc BK1120 0, bc BK1120 1, bc BK1120 2, bc BK1120 3, bc BK1120 4, bc BK1120 5, bc BK1120 6, HS12_, HS13_, HS14_, HS15_, HS16_, HS17_, HS18_⟩ (fun hHeld => ?_)
        clear hK K
        refine norm_ (a' := ?_) ?_ ?_
        rotate_left
        ·show Act.put _ (some 77) _ = _
         simp only [Act.put, List.setIfInBounds_toArray, List.set_cons_zero, List.set_cons_succ, i64_w, i32_w]
         rfl
        refine pz_ 10 78 ?_
        refine last_ (i := 11) (N := none) #[true, true, true, true, true, true, true, true, true, true, true, true] rfl rfl (one_of HT_.out (by kernel_rfl)) (by decide) (fun K hK => ?_)
        refine skip_ (w1 := ?_) (by rfl) rfl ?_ ?_
        rotate_left
        ·go_simp
         rfl
        refine hK.out _ _ ?_
        clear hK K
        refine done_ (done_of HT_.out (by kernel_rfl)) ?_
        try go_wp2
        first | go_end0 | ((try simp only [Exit.inBlock, Exit.then]); refine bodyPost_ret (results_none rfl _ _ _) rfl ?_)
        exact ⟨ee, ro HQ71 (fun _ hk => hk.1), bb HB, by repeat (first | (with_reducible first | exact HK.out | apply Kept.alloc | apply Kept.drewN | apply Kept.drew | refine Kept.setCell ?_ HMgo59.out _ | refine Kept.setCell ?_ HMgo59.out _ | refine Kept.setCell ?_ HMgo59.out _ | refine Kept.setCell ?_ HMgo59.out _ | refine Kept.setCell ?_ HMgo59.out _ | refine Kept.setCell ?_ HMgo59.out _ | refine Kept.setCell ?_ HMgo59.out _ | refine Kept.setCell ?_ (.inr GW1114.out) _ | refine Kept.setCell ?_ (.inr GW1115.out) _ | refine Kept.setCell ?_ (.inr GW1119.out) _ | refine Kept.setCell ?_ (.inr GW1120.out) _) | exact HK.out)⟩
       ·rw [if_neg c61] at H
        exact absurd H (by simp)
      ·rw [if_neg c60] at H
       exact absurd H (by simp)
     ·rw [if_neg c57] at H
      exact absurd H (by simp)
    ·rw [if_neg c56] at H
     exact absurd H (by simp)
 ·replace c11 := Bool.eq_false_iff.mpr c11
  subst c11
  rw [if_neg (show ¬ (false = true) by decide)] at H
  obtain rfl := Option.some.inj H
  go_wp2
  first | go_end0 | ((try simp only [Exit.inBlock, Exit.then]); refine bodyPost_ret (results_none rfl _ _ _) rfl ?_)
  exact ⟨ee, rr HO1, bb HB, by repeat (first | (with_reducible first | exact HK.out | apply Kept.alloc | apply Kept.drewN | apply Kept.drew | refine Kept.setCell ?_ (.inr GW1114.out) _ | refine Kept.setCell ?_ (.inr GW1115.out) _) | exact HK.out)⟩
end Go.Proofs.Ythfefanapneocaa.Q
