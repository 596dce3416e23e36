/- A part of the proof of FnExactWithdraw: functions of the program, as plain functions, with the proof that the machine's call does what they say; plain lemmas; and those of the words that print.sh prints which this proof uses. No condition. -/
import Derived.Test.YthfefanapneocaaKFnExactWithdraw1
import Derived.Test.YthfefanapneocaaProg
import Derived.Below
import Derived.Deep.Draws
import Derived.Deep.AppendLies
import Derived.Maps.AppendAt
import Derived.OwnWalk
import Derived.Laws.BytesArg
import Derived.Laws.MakeOwn
import Derived.Laws.OwnMore
import Derived.Deep.OwnRows
import Derived.Tactics
import Derived.Lib.ConvBytes
import Derived.Laws.Slices
import Derived.WalkKit
import Derived.KernelRfl
import Derived.RowKit3
import Derived.Deep.LoopGhost
import Derived.Deep.QuietTactic
import Derived.BigQuiet
import Derived.WideLaws
import Derived.Deep.DeepCutAuto
import Derived.Deep.CutBlock
import Derived.Deep.RegionHeld3
import Derived.Laws.Rows
import Derived.Lib.AppendStr
import Derived.ArgAppend
import Derived.Laws.IdiomCopy
import Derived.OrdersHeld
import Derived.Laws.BitsLemmas
import Derived.RowKit
import Derived.WalkSpells
import Derived.Laws.StructEq
import Derived.Test.YthfefanapneocaaKFnExactWithdraw2
section
namespace Go.Proofs.Ythfefanapneocaa.Q
open Go.RowKit Go.Proofs.YthfefanapneocaaW.PrintWords Go.Proofs.YthfefanapneocaaW.PrintLast Go.Proofs.YthfefanapneocaaW.PrintMore
attribute [local go_sem] max2_int min2_int max_two min_two max_three min_three max_four min_four
set_option linter.unusedVariables false
set_option linter.unusedSimpArgs false
set_option maxRecDepth 100000
set_option maxHeartbeats 8000000
mutual
def spec_RulesOk.j0 : Nat → Bool → Int → Int → Int → List Int → Bool → Option (Bool)
 | 0, _, _, _, _, _, _ => none
 | k + 1, x31, x129000, x129001, x129002, x129003, x129004 => if x31 = true then (some false) else (spec_RulesOk.l0 k x129003 (x129003.length : Int) 0 x129000 x129001 x129002 x129003 x129004)
def spec_RulesOk.l0 : Nat → List Int → Int → Int → Int → Int → Int → List Int → Bool → Option (Bool)
 | 0, _, _, _, _, _, _, _, _ => none
 | k + 1, x33, x34, x35, x129000, x129001, x129002, x129003, x129004 => if x35 < x34 then (if 0 ≤ x35 then (if x35 < (x33.length : Int) then ((spec_l01In.f (rd x33 x35) 1 8).bind fun t134 => (if t134 = true then (if x35 ≤ (x129003.length : Int) then ((spec_l02Has.f k (x129003.take (x35 : Int).toNat) (rd x33 x35)).bind fun t136 => (if t136 = true then (some false) else (spec_RulesOk.l0 k x33 x34 (wrap64 (x35 + 1)) x129000 x129001 x129002 x129003 x129004))) else (none)) else (some false))) else (none)) else (none)) else (some true)
end
def spec_RulesOk.f (k : Nat) (a0_0 : Int) (a0_1 : Int) (a0_2 : Int) (l0_3 : List Int) (a0_4 : Bool) : Option (Bool) := (spec_l01In.f a0_0 0 10).bind fun t129 => (if t129 = true then ((spec_l01In.f a0_1 0 a0_0).bind fun t130 => (if t130 = true then ((spec_l01In.f a0_2 0 a0_1).bind fun t131 => (if t131 = true then ((spec_l01In.f (l0_3.length : Int) 1 8).bind fun t132 => (spec_RulesOk.j0 k (!t132) a0_0 a0_1 a0_2 l0_3 a0_4)) else (spec_RulesOk.j0 k true a0_0 a0_1 a0_2 l0_3 a0_4))) else (spec_RulesOk.j0 k true a0_0 a0_1 a0_2 l0_3 a0_4))) else (spec_RulesOk.j0 k true a0_0 a0_1 a0_2 l0_3 a0_4))
theorem spec_RulesOk.calls (k : Nat) (a0_0 : Int) (a0_1 : Int) (a0_2 : Int) (A0_3 : Option Addr) (c0_3 : Nat) (l0_3 : List Int) (a0_4 : Bool) (r : Bool) (w : World) (hr0_3 : Kd.C (Kd.int .i64) w A0_3 l0_3.length l0_3) (hc0_3 : l0_3.length ≤ c0_3) (h : spec_RulesOk.f k a0_0 a0_1 a0_2 l0_3 a0_4 = some r) :
  Calls Try.prog 119 #[.agg #[.int .i64 a0_0, .int .i64 a0_1, .int .i64 a0_2, .slice A0_3 l0_3.length c0_3, .bool a0_4]] w fun e w' => e = .returned (.bool r) ∧ Below w.heap.size w w' := by
 have hu33 := Try.underlying33
 have HR0_3 := dk hr0_3
 have HC0_3 := dk hc0_3
 clear hr0_3 hc0_3
 have HB := dk (Below.refl w.heap.size w)
 have H : ((spec_l01In.f a0_0 0 10).bind fun t129 => (if t129 = true then ((spec_l01In.f a0_1 0 a0_0).bind fun t130 => (if t130 = true then ((spec_l01In.f a0_2 0 a0_1).bind fun t131 => (if t131 = true then ((spec_l01In.f (l0_3.length : Int) 1 8).bind fun t132 => (spec_RulesOk.j0 k (!t132) a0_0 a0_1 a0_2 l0_3 a0_4)) else (spec_RulesOk.j0 k true a0_0 a0_1 a0_2 l0_3 a0_4))) else (spec_RulesOk.j0 k true a0_0 a0_1 a0_2 l0_3 a0_4))) else (spec_RulesOk.j0 k true a0_0 a0_1 a0_2 l0_3 a0_4))) = some r := h
 clear h
 have HC2 := dk H
 clear H
 go_enter Try.func119, Try.ntmps119
 go_upto_region 1 with (first | ((with_reducible refine gate_dst (N := 1) rfl ?_); (try (refine gate_guard (by rfl) ?_; dsimp only)); refine bx (N := 1) (cs := #[.int .i64 a0_0, .int .i64 a0_1, .int .i64 a0_2, .slice A0_3 l0_3.length c0_3, .bool a0_4]) (t := 33) ?_; intro gb128 hg w3 hbox hb; have BK128 := dk (hbox); have GW128 := gs hg HB; have GE128 := gs hg HB; replace HB := hs_ HB hb; clear hb hbox hg))
 (try simp only [Act.put, List.setIfInBounds_toArray, List.set_cons_zero, List.set_cons_succ])
 go_cut [31] (fun v31 wc => ∃ (kq : Nat) (x31_1 : Bool), v31 = .bool x31_1 ∧ Aside0 (spec_RulesOk.j0 kq x31_1 a0_0 a0_1 a0_2 l0_3 a0_4 = some r) ∧ Aside0 (kq ≤ k) ∧ Aside0 (wc.heap[gb128]? = some (.cells #[.int .i64 a0_0, .int .i64 a0_1, .int .i64 a0_2, (.slice A0_3 l0_3.length c0_3), .bool a0_4] 33 (0, 0))) ∧ Aside0 (Below w.heap.size w wc))
 case first =>
  have H := HC2.out
  clear HC2
  replace H := Option.bind_eq_some_iff.mp H
  obtain ⟨t129, A40, H⟩ := H
  try dsimp only at H
  have A4 := dk A40
  clear A40
  by_cases c5 : t129 = true
  ·subst c5
   rw [if_pos rfl] at H
   replace H := Option.bind_eq_some_iff.mp H
   obtain ⟨t130, A60, H⟩ := H
   try dsimp only at H
   have A6 := dk A60
   clear A60
   by_cases c7 : t130 = true
   ·subst c7
    rw [if_pos rfl] at H
    replace H := Option.bind_eq_some_iff.mp H
    obtain ⟨t131, A80, H⟩ := H
    try dsimp only at H
    have A8 := dk A80
    clear A80
    by_cases c9 : t131 = true
    ·subst c9
     rw [if_pos rfl] at H
     replace H := Option.bind_eq_some_iff.mp H
     obtain ⟨t132, A100, H⟩ := H
     try dsimp only at H
     have A10 := dk A100
     clear A100
     have H' := dk H
     clear H
     have ⟨z11_0, z11_1, z11_2, z11_3, z11_4, v11_0, v11_1, v11_2, v11_3, v11_4⟩ := rz5 BK128
     go_wp2_with (first | ((with_reducible refine gate_callee (f := 76) rfl ?_); refine gl (some 7) Try.func76 #[.int .i64 a0_0, .int .i64 0, .int .i64 10] ?_; (with_reducible refine (spec_l01In.calls a0_0 0 10 true _ A4.out).mono ?_); rintro e w' ⟨rfl, ⟨nd, rfl⟩⟩; refine ⟨_, rfl, ?_⟩) | (go_at_call 76; (with_reducible refine (spec_l01In.calls a0_1 0 a0_0 true _ A6.out).mono ?_); rintro e w' ⟨rfl, ⟨nd, rfl⟩⟩) | (go_at_call 76; (with_reducible refine (spec_l01In.calls a0_2 0 a0_1 true _ A8.out).mono ?_); rintro e w' ⟨rfl, ⟨nd, rfl⟩⟩) | (go_at_call 76; (with_reducible refine (spec_l01In.calls (l0_3.length : Int) 1 8 t132 _ A10.out).mono ?_); rintro e w' ⟨rfl, ⟨nd, rfl⟩⟩))
     go_meet
     case rel => exact ⟨_, (!t132), e2_, H', ⟨by first | omega | exact Nat.le_refl _⟩, ⟨bk BK128⟩, ⟨bb HB⟩⟩
    ·replace c9 := Bool.eq_false_iff.mpr c9
     subst c9
     rw [if_neg (show ¬ (false = true) by decide)] at H
     have H' := dk H
     clear H
     have ⟨z12_0, z12_1, z12_2, z12_3, z12_4, v12_0, v12_1, v12_2, v12_3, v12_4⟩ := rz5 BK128
     go_wp2_with (first | ((with_reducible refine gate_callee (f := 76) rfl ?_); refine gl (some 7) Try.func76 #[.int .i64 a0_0, .int .i64 0, .int .i64 10] ?_; (with_reducible refine (spec_l01In.calls a0_0 0 10 true _ A4.out).mono ?_); rintro e w' ⟨rfl, ⟨nd, rfl⟩⟩; refine ⟨_, rfl, ?_⟩) | (go_at_call 76; (with_reducible refine (spec_l01In.calls a0_1 0 a0_0 true _ A6.out).mono ?_); rintro e w' ⟨rfl, ⟨nd, rfl⟩⟩) | (go_at_call 76; (with_reducible refine (spec_l01In.calls a0_2 0 a0_1 false _ A8.out).mono ?_); rintro e w' ⟨rfl, ⟨nd, rfl⟩⟩))
     go_meet
     case rel => exact ⟨_, (true), e2_, H', ⟨by first | omega | exact Nat.le_refl _⟩, ⟨bk BK128⟩, ⟨bb HB⟩⟩
   ·replace c7 := Bool.eq_false_iff.mpr c7
    subst c7
    rw [if_neg (show ¬ (false = true) by decide)] at H
    have H' := dk H
    clear H
    have ⟨z13_0, z13_1, z13_2, z13_3, z13_4, v13_0, v13_1, v13_2, v13_3, v13_4⟩ := rz5 BK128
    go_wp2_with (first | ((with_reducible refine gate_callee (f := 76) rfl ?_); refine gl (some 7) Try.func76 #[.int .i64 a0_0, .int .i64 0, .int .i64 10] ?_; (with_reducible refine (spec_l01In.calls a0_0 0 10 true _ A4.out).mono ?_); rintro e w' ⟨rfl, ⟨nd, rfl⟩⟩; refine ⟨_, rfl, ?_⟩) | (go_at_call 76; (with_reducible refine (spec_l01In.calls a0_1 0 a0_0 false _ A6.out).mono ?_); rintro e w' ⟨rfl, ⟨nd, rfl⟩⟩))
    go_meet
    case rel => exact ⟨_, (true), e2_, H', ⟨by first | omega | exact Nat.le_refl _⟩, ⟨bk BK128⟩, ⟨bb HB⟩⟩
  ·replace c5 := Bool.eq_false_iff.mpr c5
   subst c5
   rw [if_neg (show ¬ (false = true) by decide)] at H
   have H' := dk H
   clear H
   have ⟨z14_0, z14_1, z14_2, z14_3, z14_4, v14_0, v14_1, v14_2, v14_3, v14_4⟩ := rz5 BK128
   go_wp2_with (first | ((with_reducible refine gate_callee (f := 76) rfl ?_); refine gl (some 7) Try.func76 #[.int .i64 a0_0, .int .i64 0, .int .i64 10] ?_; (with_reducible refine (spec_l01In.calls a0_0 0 10 false _ A4.out).mono ?_); rintro e w' ⟨rfl, ⟨nd, rfl⟩⟩; refine ⟨_, rfl, ?_⟩))
   go_meet
   case rel => exact ⟨_, (true), e2_, H', ⟨by first | omega | exact Nat.le_refl _⟩, ⟨bk BK128⟩, ⟨bb HB⟩⟩
 case rest =>
  clear HC2
  (try clear c1)
  (try clear p2)
  (try clear c5)
  (try clear c7)
  (try clear c9)
  (try clear c11)
  (try clear z11_0 z11_1 z11_2 z11_3 z11_4)
  (try clear z12_0 z12_1 z12_2 z12_3 z12_4)
  (try clear z13_0 z13_1 z13_2 z13_3 z13_4)
  (try clear z14_0 z14_1 z14_2 z14_3 z14_4)
  (try clear v11_0 v11_1 v11_2 v11_3 v11_4)
  (try clear v12_0 v12_1 v12_2 v12_3 v12_4)
  (try clear v13_0 v13_1 v13_2 v13_3 v13_4)
  (try clear v14_0 v14_1 v14_2 v14_3 v14_4)
  obtain ⟨kq, x31_1, rfl, HA, HJ1, BK128, HB⟩ := hcut
  cases kq with
  | zero => exact absurd HA.out (by simp [spec_RulesOk.j0])
  | succ kj1 =>
   have H := HA.out
   clear HA
   simp only [spec_RulesOk.j0] at H
   by_cases c15 : x31_1 = true
   ·subst c15
    rw [if_pos rfl] at H
    obtain rfl := Option.some.inj H
    go_wp2
    go_ret
    exact ⟨ee, bb HB⟩
   ·replace c15 := Bool.eq_false_iff.mpr c15
    subst c15
    rw [if_neg (show ¬ (false = true) by decide)] at H
    have H' := dk H
    clear H
    have ⟨z16_0, z16_1, z16_2, z16_3, z16_4, v16_0, v16_1, v16_2, v16_3, v16_4⟩ := rz5 BK128
    go_wp2
    go_loopg [35] kj1 (fun kq v35 w' => ∃ (x35_2 : Int), v35 = .int .i64 x35_2 ∧ Aside0 (spec_RulesOk.l0 kq l0_3 (l0_3.length : Int) x35_2 a0_0 a0_1 a0_2 l0_3 a0_4 = some r) ∧ Aside0 (kq ≤ kj1) ∧ Aside0 (w'.heap[gb128]? = some (.cells #[.int .i64 a0_0, .int .i64 a0_1, .int .i64 a0_2, (.slice A0_3 l0_3.length c0_3), .bool a0_4] 33 (0, 0))) ∧ Aside0 (Below w.heap.size w w'))
    case atStart => exact ⟨(0), e2_, H', ⟨Nat.le_refl _⟩, ⟨bk BK128⟩, ⟨bb HB⟩⟩
    case round =>
     clear H'
     (try clear c1)
     (try clear p2)
     (try clear c5)
     (try clear c7)
     (try clear c9)
     (try clear c11)
     (try clear c15)
     (try clear z11_0 z11_1 z11_2 z11_3 z11_4)
     (try clear z12_0 z12_1 z12_2 z12_3 z12_4)
     (try clear z13_0 z13_1 z13_2 z13_3 z13_4)
     (try clear z14_0 z14_1 z14_2 z14_3 z14_4)
     (try clear z16_0 z16_1 z16_2 z16_3 z16_4)
     (try clear v11_0 v11_1 v11_2 v11_3 v11_4)
     (try clear v12_0 v12_1 v12_2 v12_3 v12_4)
     (try clear v13_0 v13_1 v13_2 v13_3 v13_4)
     (try clear v14_0 v14_1 v14_2 v14_3 v14_4)
     (try clear v16_0 v16_1 v16_2 v16_3 v16_4)
     (try clear p2)
     obtain ⟨x35_2, rfl, HA, HK2, BK128, HB⟩ := hrel
     cases gk with
     | zero => exact absurd HA.out (by simp [spec_RulesOk.l0])
     | succ k2 =>
      have H := HA.out
      clear HA
      simp only [spec_RulesOk.l0] at H
      by_cases c17 : x35_2 < (l0_3.length : Int)
      ·rw [if_pos c17] at H
       have c17b0 : decide (x35_2 < (l0_3.length : Int)) = true := decide_eq_true c17
       clear c17
       by_cases c18 : 0 ≤ x35_2
       ·rw [if_pos c18] at H
        have c18b0 : decide (0 ≤ x35_2) = true := decide_eq_true c18
        clear c18
        by_cases c19 : x35_2 < (l0_3.length : Int)
        ·rw [if_pos c19] at H
         have c19b0 : decide (x35_2 < (l0_3.length : Int)) = true := decide_eq_true c19
         clear c19
         replace H := Option.bind_eq_some_iff.mp H
         obtain ⟨t134, A200, H⟩ := H
         try dsimp only at H
         have A20 := dk A200
         clear A200
         by_cases c21 : t134 = true
         ·subst c21
          rw [if_pos rfl] at H
          have c22b0 := eq_true (oa : 0 ≤ x35_2)
          by_cases c23 : x35_2 ≤ (l0_3.length : Int)
          ·rw [if_pos c23] at H
           have c23b0 := eq_true c23
           have c23b1 : decide (x35_2 ≤ (l0_3.length : Int)) = true := decide_eq_true c23
           clear c23
           replace H := Option.bind_eq_some_iff.mp H
           obtain ⟨t136, A240, H⟩ := H
           try dsimp only at H
           have A24 := dk A240
           clear A240
           by_cases c25 : t136 = true
           ·subst c25
            rw [if_pos rfl] at H
            obtain rfl := Option.some.inj H
            have p133 : 0 ≤ (x35_2 : Int) := oa
            have q133 : x35_2 < (l0_3.length : Int) := oa
            obtain ⟨ad133, e133, hx133_0⟩ := Kd.at_int HR0_3.out x35_2 p133 q133
            cases e133
            replace hx133_0 := hc HB hx133_0
            replace p133 := eq_true p133
            replace q133 := eq_true q133
            go_wp2_with (first | ((with_reducible refine gate_callee (f := 76) rfl ?_); refine gl (some 41) Try.func76 #[.int .i64 (rd l0_3 x35_2), .int .i64 1, .int .i64 8] ?_; (with_reducible refine (spec_l01In.calls (rd l0_3 x35_2) 1 8 true _ A20.out).mono ?_); rintro e w' ⟨rfl, ⟨nd, rfl⟩⟩; refine ⟨_, rfl, ?_⟩; have ⟨z26_0, z26_1, z26_2, z26_3, z26_4, v26_0, v26_1, v26_2, v26_3, v26_4⟩ := rz5 BK128; obtain ⟨i027, hi027, _, hsz27, _⟩ := info_parts info3; obtain ⟨hcut27, hA27, hC27⟩ := print_take_of (P := Try.prog) (Value.int .i64) 0 23 3 .i64 Try.underlying23 hi027 hsz27 (some ad133) c0_3 l0_3 x35_2 (oa) (oa) HC0_3.out; have HR135 := dk (Kd.C_of_reads (h1 := fun _ => rfl) (hA27 _ (Kd.reads_of_C HR0_3.out))); have HC135 := dk hC27; clear hA27 hC27 hi027 hsz27) | (go_at_call 87; refine calls_of_args (args' := #[.slice (some ad133) (l0_3.take (x35_2 : Int).toNat).length c0_3, .int .i64 (rd l0_3 x35_2)]) (by first | (rw [show (l0_3.take (x35_2 : Int).toNat).length = x35_2.toNat from (by rw [List.length_take]; have h_ : (x35_2 : Int) ≤ (l0_3.length : Int) := oa; omega)] <;> rfl) | rfl) ?_; (with_reducible refine (spec_l02Has.calls k2 _ _ (l0_3.take (x35_2 : Int).toNat) (rd l0_3 x35_2) true _ ?side1 ?side2 A24.out).mono ?_); (case side1 => repeat (first | exact (Kd.C_below HR135.out (bb HB)) | (with_reducible refine Kd.C_alloc ?_ _) | (with_reducible refine Kd.C_drewN ?_ _) | (with_reducible refine Kd.C_drew ?_))); (case side2 => exact HC135.out); rintro e w' ⟨rfl, ⟨nd, rfl⟩⟩))
            go_ret
            exact ⟨ee, bb HB⟩
           ·replace c25 := Bool.eq_false_iff.mpr c25
            subst c25
            rw [if_neg (show ¬ (false = true) by decide)] at H
            have H' := dk H
            clear H
            have p133 : 0 ≤ (x35_2 : Int) := oa
            have q133 : x35_2 < (l0_3.length : Int) := oa
            obtain ⟨ad133, e133, hx133_0⟩ := Kd.at_int HR0_3.out x35_2 p133 q133
            cases e133
            replace hx133_0 := hc HB hx133_0
            replace p133 := eq_true p133
            replace q133 := eq_true q133
            go_wp2_with (first | ((with_reducible refine gate_callee (f := 76) rfl ?_); refine gl (some 41) Try.func76 #[.int .i64 (rd l0_3 x35_2), .int .i64 1, .int .i64 8] ?_; (with_reducible refine (spec_l01In.calls (rd l0_3 x35_2) 1 8 true _ A20.out).mono ?_); rintro e w' ⟨rfl, ⟨nd, rfl⟩⟩; refine ⟨_, rfl, ?_⟩; have ⟨z28_0, z28_1, z28_2, z28_3, z28_4, v28_0, v28_1, v28_2, v28_3, v28_4⟩ := rz5 BK128; obtain ⟨i029, hi029, _, hsz29, _⟩ := info_parts info3; obtain ⟨hcut29, hA29, hC29⟩ := print_take_of (P := Try.prog) (Value.int .i64) 0 23 3 .i64 Try.underlying23 hi029 hsz29 (some ad133) c0_3 l0_3 x35_2 (oa) (oa) HC0_3.out; have HR135 := dk (Kd.C_of_reads (h1 := fun _ => rfl) (hA29 _ (Kd.reads_of_C HR0_3.out))); have HC135 := dk hC29; clear hA29 hC29 hi029 hsz29) | (go_at_call 87; refine calls_of_args (args' := #[.slice (some ad133) (l0_3.take (x35_2 : Int).toNat).length c0_3, .int .i64 (rd l0_3 x35_2)]) (by first | (rw [show (l0_3.take (x35_2 : Int).toNat).length = x35_2.toNat from (by rw [List.length_take]; have h_ : (x35_2 : Int) ≤ (l0_3.length : Int) := oa; omega)] <;> rfl) | rfl) ?_; (with_reducible refine (spec_l02Has.calls k2 _ _ (l0_3.take (x35_2 : Int).toNat) (rd l0_3 x35_2) false _ ?side1 ?side2 A24.out).mono ?_); (case side1 => repeat (first | exact (Kd.C_below HR135.out (bb HB)) | (with_reducible refine Kd.C_alloc ?_ _) | (with_reducible refine Kd.C_drewN ?_ _) | (with_reducible refine Kd.C_drew ?_))); (case side2 => exact HC135.out); rintro e w' ⟨rfl, ⟨nd, rfl⟩⟩))
            go_roundg k2
            case measure => have := HJ1.out; have := HK2.out; omega
            case rel => exact ⟨(wrap64 (x35_2 + 1)), e2_, H', ⟨by have := HJ1.out; have := HK2.out; omega⟩, ⟨bk BK128⟩, ⟨bb HB⟩⟩
          ·rw [if_neg c23] at H
           exact absurd H (by simp)
         ·replace c21 := Bool.eq_false_iff.mpr c21
          subst c21
          rw [if_neg (show ¬ (false = true) by decide)] at H
          obtain rfl := Option.some.inj H
          have p133 : 0 ≤ (x35_2 : Int) := oa
          have q133 : x35_2 < (l0_3.length : Int) := oa
          obtain ⟨ad133, e133, hx133_0⟩ := Kd.at_int HR0_3.out x35_2 p133 q133
          cases e133
          replace hx133_0 := hc HB hx133_0
          replace p133 := eq_true p133
          replace q133 := eq_true q133
          go_wp2_with (first | ((with_reducible refine gate_callee (f := 76) rfl ?_); refine gl (some 41) Try.func76 #[.int .i64 (rd l0_3 x35_2), .int .i64 1, .int .i64 8] ?_; (with_reducible refine (spec_l01In.calls (rd l0_3 x35_2) 1 8 false _ A20.out).mono ?_); rintro e w' ⟨rfl, ⟨nd, rfl⟩⟩; refine ⟨_, rfl, ?_⟩))
          go_ret
          exact ⟨ee, bb HB⟩
        ·rw [if_neg c19] at H
         exact absurd H (by simp)
       ·rw [if_neg c18] at H
        exact absurd H (by simp)
      ·rw [if_neg c17] at H
       have c17b0 : decide (x35_2 < (l0_3.length : Int)) = false := decide_eq_false c17
       clear c17
       obtain rfl := Option.some.inj H
       go_wp2
       go_ret
       exact ⟨ee, bb HB⟩
end Go.Proofs.Ythfefanapneocaa.Q
end
namespace Go.Proofs.Ythfefanapneocaa.Q
open Go.RowKit Go.Proofs.YthfefanapneocaaW.PrintWords Go.Proofs.YthfefanapneocaaW.PrintLast Go.Proofs.YthfefanapneocaaW.PrintMore
attribute [local go_sem] max2_int min2_int max_two min_two max_three min_three max_four min_four
set_option linter.unusedVariables false
set_option linter.unusedSimpArgs false
set_option maxRecDepth 100000
set_option maxHeartbeats 8000000
def spec_GameOk.j0 : Nat → Bool → Int → Int → Int → Int → Int → Option (Bool)
 | 0, _, _, _, _, _, _ => none
 | k + 1, x36, x138000, x138001, x138002, x138003, x138004 => if x36 = true then (some false) else (if x138004 = 1 then ((spec_l01In.f x138002 0 99).bind fun t142 => (if t142 = true then ((spec_l01In.f x138003 0 99).bind fun t143 => (some t143)) else (some false))) else (if x138002 = 0 then (some (x138003 == 0)) else (some false)))
def spec_GameOk.f (k : Nat) (a0 : Int) (a1_0 : Int) (a1_1 : Int) (a1_2 : Int) (a1_3 : Int) (a1_4 : Int) : Option (Bool) := (spec_l01In.f a0 2 8).bind fun t138 => (if t138 = true then ((spec_l01In.f a1_0 0 (wrap64 (a0 - 1))).bind fun t139 => (if t139 = true then ((spec_l01In.f a1_1 0 (wrap64 (a0 - 1))).bind fun t140 => (if t140 = true then (if a1_0 = a1_1 then (spec_GameOk.j0 k true a1_0 a1_1 a1_2 a1_3 a1_4) else ((spec_l01In.f a1_4 0 4).bind fun t141 => (spec_GameOk.j0 k (!t141) a1_0 a1_1 a1_2 a1_3 a1_4))) else (spec_GameOk.j0 k true a1_0 a1_1 a1_2 a1_3 a1_4))) else (spec_GameOk.j0 k true a1_0 a1_1 a1_2 a1_3 a1_4))) else (spec_GameOk.j0 k true a1_0 a1_1 a1_2 a1_3 a1_4))
theorem spec_GameOk.calls (k : Nat) (a0 : Int) (a1_0 : Int) (a1_1 : Int) (a1_2 : Int) (a1_3 : Int) (a1_4 : Int) (r : Bool) (w : World) (h : spec_GameOk.f k a0 a1_0 a1_1 a1_2 a1_3 a1_4 = some r) :
  Calls Try.prog 158 #[.int .i64 a0, .agg #[.int .i64 a1_0, .int .i64 a1_1, .int .i64 a1_2, .int .i64 a1_3, .int .i64 a1_4]] w fun e w' => e = .returned (.bool r) ∧ Below w.heap.size w w' := by
 have hu95 := Try.underlying95
 have HB := dk (Below.refl w.heap.size w)
 have H : ((spec_l01In.f a0 2 8).bind fun t138 => (if t138 = true then ((spec_l01In.f a1_0 0 (wrap64 (a0 - 1))).bind fun t139 => (if t139 = true then ((spec_l01In.f a1_1 0 (wrap64 (a0 - 1))).bind fun t140 => (if t140 = true then (if a1_0 = a1_1 then (spec_GameOk.j0 k true a1_0 a1_1 a1_2 a1_3 a1_4) else ((spec_l01In.f a1_4 0 4).bind fun t141 => (spec_GameOk.j0 k (!t141) a1_0 a1_1 a1_2 a1_3 a1_4))) else (spec_GameOk.j0 k true a1_0 a1_1 a1_2 a1_3 a1_4))) else (spec_GameOk.j0 k true a1_0 a1_1 a1_2 a1_3 a1_4))) else (spec_GameOk.j0 k true a1_0 a1_1 a1_2 a1_3 a1_4))) = some r := h
 clear h
 have HC3 := dk H
 clear H
 go_enter Try.func158, Try.ntmps158
 go_upto_region 1 with (first | ((with_reducible refine gate_dst (N := 3) rfl ?_); refine bx (N := 3) (cs := #[.int .i64 a1_0, .int .i64 a1_1, .int .i64 a1_2, .int .i64 a1_3, .int .i64 a1_4]) (t := 95) ?_; intro gb137 hg w4 hbox hb; have BK137 := dk (hbox); have GW137 := gs hg HB; have GE137 := gs hg HB; replace HB := hs_ HB hb; clear hb hbox hg))
 (try simp only [Act.put, List.setIfInBounds_toArray, List.set_cons_zero, List.set_cons_succ])
 go_cut [36] (fun v36 wc => ∃ (kq : Nat) (x36_2 : Bool), v36 = .bool x36_2 ∧ Aside0 (spec_GameOk.j0 kq x36_2 a1_0 a1_1 a1_2 a1_3 a1_4 = some r) ∧ Aside0 (kq ≤ k) ∧ Aside0 (wc.heap[gb137]? = some (.cells #[.int .i64 a1_0, .int .i64 a1_1, .int .i64 a1_2, .int .i64 a1_3, .int .i64 a1_4] 95 (0, 0))) ∧ Aside0 (Below w.heap.size w wc))
 case first =>
  have H := HC3.out
  clear HC3
  replace H := Option.bind_eq_some_iff.mp H
  obtain ⟨t138, A50, H⟩ := H
  try dsimp only at H
  have A5 := dk A50
  clear A50
  by_cases c6 : t138 = true
  ·subst c6
   rw [if_pos rfl] at H
   replace H := Option.bind_eq_some_iff.mp H
   obtain ⟨t139, A70, H⟩ := H
   try dsimp only at H
   have A7 := dk A70
   clear A70
   by_cases c8 : t139 = true
   ·subst c8
    rw [if_pos rfl] at H
    replace H := Option.bind_eq_some_iff.mp H
    obtain ⟨t140, A90, H⟩ := H
    try dsimp only at H
    have A9 := dk A90
    clear A90
    by_cases c10 : t140 = true
    ·subst c10
     rw [if_pos rfl] at H
     by_cases c11 : a1_0 = a1_1
     ·rw [if_pos c11] at H
      have c11b0 : (a1_0 == a1_1) = true := beq_iff_eq.mpr c11
      have c11b1 : (a1_0 != a1_1) = false := bne_eq_false_iff_eq.mpr c11
      clear c11
      (first | rw [c11b0] | rw [c11b1] | (simp only [i64_w, i32_w]; rw [c11b0]) | skip)
      have H' := dk H
      clear H
      go_wp2_with (first | ((with_reducible refine gate_callee (f := 76) rfl ?_); refine gl (some 6) Try.func76 #[.int .i64 a0, .int .i64 2, .int .i64 8] ?_; (with_reducible refine (spec_l01In.calls a0 2 8 true _ A5.out).mono ?_); rintro e w' ⟨rfl, ⟨nd, rfl⟩⟩; refine ⟨_, rfl, ?_⟩; have ⟨z12_0, z12_1, z12_2, z12_3, z12_4, v12_0, v12_1, v12_2, v12_3, v12_4⟩ := rz5 BK137) | (go_at_call 76; (with_reducible refine (spec_l01In.calls a1_0 0 (wrap64 (a0 - 1)) true _ A7.out).mono ?_); rintro e w' ⟨rfl, ⟨nd, rfl⟩⟩) | (go_at_call 76; (with_reducible refine (spec_l01In.calls a1_1 0 (wrap64 (a0 - 1)) true _ A9.out).mono ?_); rintro e w' ⟨rfl, ⟨nd, rfl⟩⟩))
      go_meet
      case rel => exact ⟨_, (true), e2_, H', ⟨by first | omega | exact Nat.le_refl _⟩, ⟨bk BK137⟩, ⟨bb HB⟩⟩
     ·rw [if_neg c11] at H
      have c11b0 : (a1_0 == a1_1) = false := beq_eq_false_iff_ne.mpr c11
      have c11b1 : (a1_0 != a1_1) = true := bne_iff_ne.mpr c11
      (first | rw [c11b0] | rw [c11b1] | (simp only [i64_w, i32_w]; rw [c11b0]) | skip)
      replace H := Option.bind_eq_some_iff.mp H
      obtain ⟨t141, A130, H⟩ := H
      try dsimp only at H
      have A13 := dk A130
      clear A130
      have H' := dk H
      clear H
      go_wp2_with (first | ((with_reducible refine gate_callee (f := 76) rfl ?_); refine gl (some 6) Try.func76 #[.int .i64 a0, .int .i64 2, .int .i64 8] ?_; (with_reducible refine (spec_l01In.calls a0 2 8 true _ A5.out).mono ?_); rintro e w' ⟨rfl, ⟨nd, rfl⟩⟩; refine ⟨_, rfl, ?_⟩; have ⟨z14_0, z14_1, z14_2, z14_3, z14_4, v14_0, v14_1, v14_2, v14_3, v14_4⟩ := rz5 BK137) | (go_at_call 76; (with_reducible refine (spec_l01In.calls a1_0 0 (wrap64 (a0 - 1)) true _ A7.out).mono ?_); rintro e w' ⟨rfl, ⟨nd, rfl⟩⟩) | (go_at_call 76; (with_reducible refine (spec_l01In.calls a1_1 0 (wrap64 (a0 - 1)) true _ A9.out).mono ?_); rintro e w' ⟨rfl, ⟨nd, rfl⟩⟩) | (go_at_call 76; (with_reducible refine (spec_l01In.calls a1_4 0 4 t141 _ A13.out).mono ?_); rintro e w' ⟨rfl, ⟨nd, rfl⟩⟩))
      go_meet
      case rel => exact ⟨_, (!t141), e2_, H', ⟨by first | omega | exact Nat.le_refl _⟩, ⟨bk BK137⟩, ⟨bb HB⟩⟩
    ·replace c10 := Bool.eq_false_iff.mpr c10
     subst c10
     rw [if_neg (show ¬ (false = true) by decide)] at H
     have H' := dk H
     clear H
     go_wp2_with (first | ((with_reducible refine gate_callee (f := 76) rfl ?_); refine gl (some 6) Try.func76 #[.int .i64 a0, .int .i64 2, .int .i64 8] ?_; (with_reducible refine (spec_l01In.calls a0 2 8 true _ A5.out).mono ?_); rintro e w' ⟨rfl, ⟨nd, rfl⟩⟩; refine ⟨_, rfl, ?_⟩; have ⟨z15_0, z15_1, z15_2, z15_3, z15_4, v15_0, v15_1, v15_2, v15_3, v15_4⟩ := rz5 BK137) | (go_at_call 76; (with_reducible refine (spec_l01In.calls a1_0 0 (wrap64 (a0 - 1)) true _ A7.out).mono ?_); rintro e w' ⟨rfl, ⟨nd, rfl⟩⟩) | (go_at_call 76; (with_reducible refine (spec_l01In.calls a1_1 0 (wrap64 (a0 - 1)) false _ A9.out).mono ?_); rintro e w' ⟨rfl, ⟨nd, rfl⟩⟩))
     go_meet
     case rel => exact ⟨_, (true), e2_, H', ⟨by first | omega | exact Nat.le_refl _⟩, ⟨bk BK137⟩, ⟨bb HB⟩⟩
   ·replace c8 := Bool.eq_false_iff.mpr c8
    subst c8
    rw [if_neg (show ¬ (false = true) by decide)] at H
    have H' := dk H
    clear H
    go_wp2_with (first | ((with_reducible refine gate_callee (f := 76) rfl ?_); refine gl (some 6) Try.func76 #[.int .i64 a0, .int .i64 2, .int .i64 8] ?_; (with_reducible refine (spec_l01In.calls a0 2 8 true _ A5.out).mono ?_); rintro e w' ⟨rfl, ⟨nd, rfl⟩⟩; refine ⟨_, rfl, ?_⟩; have ⟨z16_0, z16_1, z16_2, z16_3, z16_4, v16_0, v16_1, v16_2, v16_3, v16_4⟩ := rz5 BK137) | (go_at_call 76; (with_reducible refine (spec_l01In.calls a1_0 0 (wrap64 (a0 - 1)) false _ A7.out).mono ?_); rintro e w' ⟨rfl, ⟨nd, rfl⟩⟩))
    go_meet
    case rel => exact ⟨_, (true), e2_, H', ⟨by first | omega | exact Nat.le_refl _⟩, ⟨bk BK137⟩, ⟨bb HB⟩⟩
  ·replace c6 := Bool.eq_false_iff.mpr c6
   subst c6
   rw [if_neg (show ¬ (false = true) by decide)] at H
   have H' := dk H
   clear H
   go_wp2_with (first | ((with_reducible refine gate_callee (f := 76) rfl ?_); refine gl (some 6) Try.func76 #[.int .i64 a0, .int .i64 2, .int .i64 8] ?_; (with_reducible refine (spec_l01In.calls a0 2 8 false _ A5.out).mono ?_); rintro e w' ⟨rfl, ⟨nd, rfl⟩⟩; refine ⟨_, rfl, ?_⟩))
   go_meet
   case rel => exact ⟨_, (true), e2_, H', ⟨by first | omega | exact Nat.le_refl _⟩, ⟨bk BK137⟩, ⟨bb HB⟩⟩
 case rest =>
  clear HC3
  (try clear c1)
  (try clear p2)
  (try clear c6)
  (try clear p6)
  (try clear c7)
  (try clear c8)
  (try clear c10)
  (try clear c11)
  (try clear c11b0)
  (try clear c11b1)
  (try clear c15)
  (try clear z12_0 z12_1 z12_2 z12_3 z12_4)
  (try clear z14_0 z14_1 z14_2 z14_3 z14_4)
  (try clear z15_0 z15_1 z15_2 z15_3 z15_4)
  (try clear z16_0 z16_1 z16_2 z16_3 z16_4)
  (try clear v12_0 v12_1 v12_2 v12_3 v12_4)
  (try clear v14_0 v14_1 v14_2 v14_3 v14_4)
  (try clear v15_0 v15_1 v15_2 v15_3 v15_4)
  (try clear v16_0 v16_1 v16_2 v16_3 v16_4)
  obtain ⟨kq, x36_2, rfl, HA, HJ2, BK137, HB⟩ := hcut
  cases kq with
  | zero => exact absurd HA.out (by simp [spec_GameOk.j0])
  | succ kj2 =>
   have H := HA.out
   clear HA
   simp only [spec_GameOk.j0] at H
   by_cases c17 : x36_2 = true
   ·subst c17
    rw [if_pos rfl] at H
    obtain rfl := Option.some.inj H
    go_wp2
    go_ret
    exact ⟨ee, bb HB⟩
   ·replace c17 := Bool.eq_false_iff.mpr c17
    subst c17
    rw [if_neg (show ¬ (false = true) by decide)] at H
    by_cases c18 : a1_4 = 1
    ·rw [if_pos c18] at H
     have c18b0 : (a1_4 == 1) = true := beq_iff_eq.mpr c18
     have c18b1 : (a1_4 != 1) = false := bne_eq_false_iff_eq.mpr c18
     clear c18
     replace H := Option.bind_eq_some_iff.mp H
     obtain ⟨t142, A190, H⟩ := H
     try dsimp only at H
     have A19 := dk A190
     clear A190
     by_cases c20 : t142 = true
     ·subst c20
      rw [if_pos rfl] at H
      replace H := Option.bind_eq_some_iff.mp H
      obtain ⟨t143, A210, H⟩ := H
      try dsimp only at H
      have A21 := dk A210
      clear A210
      obtain rfl := Option.some.inj H
      have ⟨z22_0, z22_1, z22_2, z22_3, z22_4, v22_0, v22_1, v22_2, v22_3, v22_4⟩ := rz5 BK137
      go_wp2_with (first | ((with_reducible refine gate_callee (f := 76) rfl ?_); refine gl (some 50) Try.func76 #[.int .i64 a1_2, .int .i64 0, .int .i64 99] ?_; (with_reducible refine (spec_l01In.calls a1_2 0 99 true _ A19.out).mono ?_); rintro e w' ⟨rfl, ⟨nd, rfl⟩⟩; refine ⟨_, rfl, ?_⟩) | (go_at_call 76; (with_reducible refine (spec_l01In.calls a1_3 0 99 t143 _ A21.out).mono ?_); rintro e w' ⟨rfl, ⟨nd, rfl⟩⟩))
      go_ret
      exact ⟨ee, bb HB⟩
     ·replace c20 := Bool.eq_false_iff.mpr c20
      subst c20
      rw [if_neg (show ¬ (false = true) by decide)] at H
      obtain rfl := Option.some.inj H
      have ⟨z23_0, z23_1, z23_2, z23_3, z23_4, v23_0, v23_1, v23_2, v23_3, v23_4⟩ := rz5 BK137
      go_wp2_with (first | ((with_reducible refine gate_callee (f := 76) rfl ?_); refine gl (some 50) Try.func76 #[.int .i64 a1_2, .int .i64 0, .int .i64 99] ?_; (with_reducible refine (spec_l01In.calls a1_2 0 99 false _ A19.out).mono ?_); rintro e w' ⟨rfl, ⟨nd, rfl⟩⟩; refine ⟨_, rfl, ?_⟩))
      go_ret
      exact ⟨ee, bb HB⟩
    ·rw [if_neg c18] at H
     have c18b0 : (a1_4 == 1) = false := beq_eq_false_iff_ne.mpr c18
     have c18b1 : (a1_4 != 1) = true := bne_iff_ne.mpr c18
     by_cases c24 : a1_2 = 0
     ·rw [if_pos c24] at H
      have c24b0 : (a1_2 == 0) = true := beq_iff_eq.mpr c24
      have c24b1 : (a1_2 != 0) = false := bne_eq_false_iff_eq.mpr c24
      clear c24
      obtain rfl := Option.some.inj H
      have ⟨z25_0, z25_1, z25_2, z25_3, z25_4, v25_0, v25_1, v25_2, v25_3, v25_4⟩ := rz5 BK137
      go_wp2
      go_ret
      exact ⟨ee, bb HB⟩
     ·rw [if_neg c24] at H
      have c24b0 : (a1_2 == 0) = false := beq_eq_false_iff_ne.mpr c24
      have c24b1 : (a1_2 != 0) = true := bne_iff_ne.mpr c24
      obtain rfl := Option.some.inj H
      have ⟨z26_0, z26_1, z26_2, z26_3, z26_4, v26_0, v26_1, v26_2, v26_3, v26_4⟩ := rz5 BK137
      go_wp2
      go_ret
      exact ⟨ee, bb HB⟩
def spec_GameOf.l0 : Nat → Int → Int → List (S95) → Int → Int → Option (Int)
 | 0, _, _, _, _, _ => none
 | k + 1, x1, x2, x9, x10, x11 => if x11 < x10 then (if 0 ≤ x11 then (if x11 < (x9.length : Int) then (if ((rd_T95 x9 x11).f0) = x1 then (if ((rd_T95 x9 x11).f1) = x2 then (some x11) else (spec_GameOf.l0 k x1 x2 x9 x10 (wrap64 (x11 + 1)))) else (spec_GameOf.l0 k x1 x2 x9 x10 (wrap64 (x11 + 1)))) else (none)) else (none)) else (some (-1))
def spec_GameOf.f (k : Nat) (l0 : List (S95)) (a1 : Int) (a2 : Int) : Option (Int) := spec_GameOf.l0 k a1 a2 l0 (l0.length : Int) 0
theorem spec_GameOf.calls (k : Nat) (A0 : Option Addr) (c0 : Nat) (l0 : List (S95)) (a1 : Int) (a2 : Int) (r : Int) (w : World) (hr0 : Kd.C k95 w A0 l0.length l0) (hc0 : l0.length ≤ c0) (h : spec_GameOf.f k l0 a1 a2 = some r) :
  Calls Try.prog 159 #[.slice A0 l0.length c0, .int .i64 a1, .int .i64 a2] w fun e w' => e = .returned (.int .i64 r) ∧ Below w.heap.size w w' := by
 have hu95 := Try.underlying95
 have HR0 := dk hr0
 have HC0 := dk hc0
 clear hr0 hc0
 have HB := dk (Below.refl w.heap.size w)
 have H : (spec_GameOf.l0 k a1 a2 l0 (l0.length : Int) 0) = some r := h
 clear h
 have H' := dk H
 clear H
 go_enter Try.func159, Try.ntmps159
 go_wp2
 go_loopg [11] k (fun kq v11 w' => ∃ (x11_1 : Int), v11 = .int .i64 x11_1 ∧ Aside0 (spec_GameOf.l0 kq a1 a2 l0 (l0.length : Int) x11_1 = some r) ∧ Aside0 (kq ≤ k) ∧ Aside0 (Below w.heap.size w w'))
 case atStart => exact ⟨(0), e2_, H', ⟨Nat.le_refl _⟩, ⟨bb HB⟩⟩
 case round =>
  clear H'
  (try clear c1)
  (try clear p2)
  obtain ⟨x11_1, rfl, HA, HK1, HB⟩ := hrel
  cases gk with
  | zero => exact absurd HA.out (by simp [spec_GameOf.l0])
  | succ k1 =>
   have H := HA.out
   clear HA
   simp only [spec_GameOf.l0] at H
   by_cases c4 : x11_1 < (l0.length : Int)
   ·rw [if_pos c4] at H
    have c4b0 : decide (x11_1 < (l0.length : Int)) = true := decide_eq_true c4
    clear c4
    by_cases c5 : 0 ≤ x11_1
    ·rw [if_pos c5] at H
     have c5b0 : decide (0 ≤ x11_1) = true := decide_eq_true c5
     clear c5
     by_cases c6 : x11_1 < (l0.length : Int)
     ·rw [if_pos c6] at H
      have c6b0 : decide (x11_1 < (l0.length : Int)) = true := decide_eq_true c6
      clear c6
      by_cases c7 : ((rd_T95 l0 x11_1).f0) = a1
      ·rw [if_pos c7] at H
       have c7b0 : (((rd_T95 l0 x11_1).f0) == a1) = true := beq_iff_eq.mpr c7
       have c7b1 : (((rd_T95 l0 x11_1).f0) != a1) = false := bne_eq_false_iff_eq.mpr c7
       clear c7
       by_cases c8 : ((rd_T95 l0 x11_1).f1) = a2
       ·rw [if_pos c8] at H
        have c8b0 : (((rd_T95 l0 x11_1).f1) == a2) = true := beq_iff_eq.mpr c8
        have c8b1 : (((rd_T95 l0 x11_1).f1) != a2) = false := bne_eq_false_iff_eq.mpr c8
        clear c8
        obtain rfl := Option.some.inj H
        have p144 : 0 ≤ (x11_1 : Int) := oa
        have q144 : x11_1 < (l0.length : Int) := oa
        obtain ⟨ad144, e144, hx144_0, hx144_1, hx144_2, hx144_3, hx144_4⟩ := at_T95 HR0.out x11_1 p144 q144
        cases e144
        replace hx144_0 := hc HB hx144_0
        replace hx144_1 := hc HB hx144_1
        replace hx144_2 := hc HB hx144_2
        replace hx144_3 := hc HB hx144_3
        replace hx144_4 := hc HB hx144_4
        replace p144 := eq_true p144
        replace q144 := eq_true q144
        go_wp2_with (first | ((with_reducible refine gate_dst (N := 8) rfl ?_); refine bx (N := 8) (cs := #[.int .i64 0, .int .i64 0, .int .i64 0, .int .i64 0, .int .i64 0]) (t := 95) ?_; intro gb145 hg w9 hbox hb; have BK145 := dk (hbox); have GW145 := gs hg HB; have GE145 := gs hg HB; replace HB := hs_ HB hb; clear hb hbox hg; have ⟨z10_0, z10_1, z10_2, z10_3, z10_4, v10_0, v10_1, v10_2, v10_3, v10_4⟩ := rz5 BK145))
        go_ret
        exact ⟨ee, bb HB⟩
       ·rw [if_neg c8] at H
        have c8b0 : (((rd_T95 l0 x11_1).f1) == a2) = false := beq_eq_false_iff_ne.mpr c8
        have c8b1 : (((rd_T95 l0 x11_1).f1) != a2) = true := bne_iff_ne.mpr c8
        have H' := dk H
        clear H
        have p144 : 0 ≤ (x11_1 : Int) := oa
        have q144 : x11_1 < (l0.length : Int) := oa
        obtain ⟨ad144, e144, hx144_0, hx144_1, hx144_2, hx144_3, hx144_4⟩ := at_T95 HR0.out x11_1 p144 q144
        cases e144
        replace hx144_0 := hc HB hx144_0
        replace hx144_1 := hc HB hx144_1
        replace hx144_2 := hc HB hx144_2
        replace hx144_3 := hc HB hx144_3
        replace hx144_4 := hc HB hx144_4
        replace p144 := eq_true p144
        replace q144 := eq_true q144
        go_wp2_with (first | ((with_reducible refine gate_dst (N := 8) rfl ?_); refine bx (N := 8) (cs := #[.int .i64 0, .int .i64 0, .int .i64 0, .int .i64 0, .int .i64 0]) (t := 95) ?_; intro gb145 hg w11 hbox hb; have BK145 := dk (hbox); have GW145 := gs hg HB; have GE145 := gs hg HB; replace HB := hs_ HB hb; clear hb hbox hg; have ⟨z12_0, z12_1, z12_2, z12_3, z12_4, v12_0, v12_1, v12_2, v12_3, v12_4⟩ := rz5 BK145))
        go_roundg k1
        case measure => have := HK1.out; omega
        case rel => exact ⟨(wrap64 (x11_1 + 1)), e2_, H', ⟨by have := HK1.out; omega⟩, ⟨bb HB⟩⟩
      ·rw [if_neg c7] at H
       have c7b0 : (((rd_T95 l0 x11_1).f0) == a1) = false := beq_eq_false_iff_ne.mpr c7
       have c7b1 : (((rd_T95 l0 x11_1).f0) != a1) = true := bne_iff_ne.mpr c7
       have H' := dk H
       clear H
       have p144 : 0 ≤ (x11_1 : Int) := oa
       have q144 : x11_1 < (l0.length : Int) := oa
       obtain ⟨ad144, e144, hx144_0, hx144_1, hx144_2, hx144_3, hx144_4⟩ := at_T95 HR0.out x11_1 p144 q144
       cases e144
       replace hx144_0 := hc HB hx144_0
       replace hx144_1 := hc HB hx144_1
       replace hx144_2 := hc HB hx144_2
       replace hx144_3 := hc HB hx144_3
       replace hx144_4 := hc HB hx144_4
       replace p144 := eq_true p144
       replace q144 := eq_true q144
       go_wp2_with (first | ((with_reducible refine gate_dst (N := 8) rfl ?_); refine bx (N := 8) (cs := #[.int .i64 0, .int .i64 0, .int .i64 0, .int .i64 0, .int .i64 0]) (t := 95) ?_; intro gb145 hg w13 hbox hb; have BK145 := dk (hbox); have GW145 := gs hg HB; have GE145 := gs hg HB; replace HB := hs_ HB hb; clear hb hbox hg; have ⟨z14_0, z14_1, z14_2, z14_3, z14_4, v14_0, v14_1, v14_2, v14_3, v14_4⟩ := rz5 BK145))
       go_roundg k1
       case measure => have := HK1.out; omega
       case rel => exact ⟨(wrap64 (x11_1 + 1)), e2_, H', ⟨by have := HK1.out; omega⟩, ⟨bb HB⟩⟩
     ·rw [if_neg c6] at H
      exact absurd H (by simp)
    ·rw [if_neg c5] at H
     exact absurd H (by simp)
   ·rw [if_neg c4] at H
    have c4b0 : decide (x11_1 < (l0.length : Int)) = false := decide_eq_false c4
    clear c4
    obtain rfl := Option.some.inj H
    go_wp2
    go_ret
    exact ⟨ee, bb HB⟩
def spec_SeasonOk.l0 : Nat → Int → List (S95) → List (S95) → Int → Int → Option (Bool)
 | 0, _, _, _, _, _ => none
 | k + 1, x0, x1, x10, x11, x12 => if x12 < x11 then (if 0 ≤ x12 then (if x12 < (x10.length : Int) then ((spec_GameOk.f k x0 ((rd_T95 x10 x12).f0) ((rd_T95 x10 x12).f1) ((rd_T95 x10 x12).f2) ((rd_T95 x10 x12).f3) ((rd_T95 x10 x12).f4)).bind fun t148 => (if t148 = true then ((spec_GameOf.f k x1 ((rd_T95 x10 x12).f0) ((rd_T95 x10 x12).f1)).bind fun t149 => (if t149 = x12 then (spec_SeasonOk.l0 k x0 x1 x10 x11 (wrap64 (x12 + 1))) else (some false))) else (some false))) else (none)) else (none)) else (some true)
def spec_SeasonOk.f (k : Nat) (a0 : Int) (l1 : List (S95)) : Option (Bool) := if (l1.length : Int) > 60 then (some false) else (spec_SeasonOk.l0 k a0 l1 l1 (l1.length : Int) 0)
theorem spec_SeasonOk.calls (k : Nat) (a0 : Int) (A1 : Option Addr) (c1 : Nat) (l1 : List (S95)) (r : Bool) (w : World) (hr1 : Kd.C k95 w A1 l1.length l1) (hc1 : l1.length ≤ c1) (h : spec_SeasonOk.f k a0 l1 = some r) :
  Calls Try.prog 120 #[.int .i64 a0, .slice A1 l1.length c1] w fun e w' => e = .returned (.bool r) ∧ Below w.heap.size w w' := by
 have hu95 := Try.underlying95
 have HR1 := dk hr1
 have HC1 := dk hc1
 clear hr1 hc1
 have HB := dk (Below.refl w.heap.size w)
 have H : (if (l1.length : Int) > 60 then (some false) else (spec_SeasonOk.l0 k a0 l1 l1 (l1.length : Int) 0)) = some r := h
 clear h
 by_cases c3 : (l1.length : Int) > 60
 ·rw [if_pos c3] at H
  have c3b0 : decide (60 < (l1.length : Int)) = true := decide_eq_true c3
  have c3b1 : decide (60 < l1.length) = true := decide_eq_true (by omega)
  clear c3
  obtain rfl := Option.some.inj H
  go_enter Try.func120, Try.ntmps120
  go_wp2
  go_ret
  exact ⟨ee, bb HB⟩
 ·rw [if_neg c3] at H
  have c3b0 : decide (60 < (l1.length : Int)) = false := decide_eq_false c3
  have c3b1 : decide (60 < l1.length) = false := decide_eq_false (by omega)
  clear c3
  have H' := dk H
  clear H
  go_enter Try.func120, Try.ntmps120
  go_wp2
  go_loopg [12] k (fun kq v12 w' => ∃ (x12_1 : Int), v12 = .int .i64 x12_1 ∧ Aside0 (spec_SeasonOk.l0 kq a0 l1 l1 (l1.length : Int) x12_1 = some r) ∧ Aside0 (kq ≤ k) ∧ Aside0 (Below w.heap.size w w'))
  case atStart => exact ⟨(0), e2_, H', ⟨Nat.le_refl _⟩, ⟨bb HB⟩⟩
  case round =>
   clear H'
   (try clear c1)
   (try clear p2)
   (try clear c3)
   (try clear c3b0)
   (try clear c3b1)
   obtain ⟨x12_1, rfl, HA, HK1, HB⟩ := hrel
   cases gk with
   | zero => exact absurd HA.out (by simp [spec_SeasonOk.l0])
   | succ k1 =>
    have H := HA.out
    clear HA
    simp only [spec_SeasonOk.l0] at H
    by_cases c4 : x12_1 < (l1.length : Int)
    ·rw [if_pos c4] at H
     have c4b0 : decide (x12_1 < (l1.length : Int)) = true := decide_eq_true c4
     clear c4
     by_cases c5 : 0 ≤ x12_1
     ·rw [if_pos c5] at H
      have c5b0 : decide (0 ≤ x12_1) = true := decide_eq_true c5
      clear c5
      by_cases c6 : x12_1 < (l1.length : Int)
      ·rw [if_pos c6] at H
       have c6b0 : decide (x12_1 < (l1.length : Int)) = true := decide_eq_true c6
       clear c6
       replace H := Option.bind_eq_some_iff.mp H
       obtain ⟨t148, A70, H⟩ := H
       try dsimp only at H
       have A7 := dk A70
       clear A70
       by_cases c8 : t148 = true
       ·subst c8
        rw [if_pos rfl] at H
        replace H := Option.bind_eq_some_iff.mp H
        obtain ⟨t149, A90, H⟩ := H
        try dsimp only at H
        have A9 := dk A90
        clear A90
        by_cases c10 : t149 = x12_1
        ·rw [if_pos c10] at H
         have c10b0 : (t149 == x12_1) = true := beq_iff_eq.mpr c10
         have c10b1 : (t149 != x12_1) = false := bne_eq_false_iff_eq.mpr c10
         clear c10
         have H' := dk H
         clear H
         have p146 : 0 ≤ (x12_1 : Int) := oa
         have q146 : x12_1 < (l1.length : Int) := oa
         obtain ⟨ad146, e146, hx146_0, hx146_1, hx146_2, hx146_3, hx146_4⟩ := at_T95 HR1.out x12_1 p146 q146
         cases e146
         replace hx146_0 := hc HB hx146_0
         replace hx146_1 := hc HB hx146_1
         replace hx146_2 := hc HB hx146_2
         replace hx146_3 := hc HB hx146_3
         replace hx146_4 := hc HB hx146_4
         replace p146 := eq_true p146
         replace q146 := eq_true q146
         go_wp2_with (first | ((with_reducible refine gate_dst (N := 6) rfl ?_); refine bx (N := 6) (cs := #[.int .i64 0, .int .i64 0, .int .i64 0, .int .i64 0, .int .i64 0]) (t := 95) ?_; intro gb147 hg w11 hbox hb; have BK147 := dk (hbox); have GW147 := gs hg HB; have GE147 := gs hg HB; replace HB := hs_ HB hb; clear hb hbox hg; have ⟨z12_0, z12_1, z12_2, z12_3, z12_4, v12_0, v12_1, v12_2, v12_3, v12_4⟩ := rz5 BK147) | ((with_reducible refine gate_callee (f := 158) rfl ?_); refine gl (some 19) Try.func158 #[.int .i64 a0, .agg #[.int .i64 ((rd_T95 l1 x12_1).f0), .int .i64 ((rd_T95 l1 x12_1).f1), .int .i64 ((rd_T95 l1 x12_1).f2), .int .i64 ((rd_T95 l1 x12_1).f3), .int .i64 ((rd_T95 l1 x12_1).f4)]] ?_; (with_reducible refine (spec_GameOk.calls k1 a0 ((rd_T95 l1 x12_1).f0) ((rd_T95 l1 x12_1).f1) ((rd_T95 l1 x12_1).f2) ((rd_T95 l1 x12_1).f3) ((rd_T95 l1 x12_1).f4) true _ A7.out).mono ?_); rintro e w13 ⟨rfl, hb⟩; refine ⟨_, rfl, ?_⟩; replace BK147 := dk (blk_below (g := gb147) (o := .cells #[.int .i64 ((rd_T95 l1 x12_1).f0), .int .i64 ((rd_T95 l1 x12_1).f1), .int .i64 ((rd_T95 l1 x12_1).f2), .int .i64 ((rd_T95 l1 x12_1).f3), .int .i64 ((rd_T95 l1 x12_1).f4)] 95 (0, 0)) (bp BK147) hb); replace HB := hs_ HB hb; (try clear hb hb2 hk hi); have ⟨z14_0, z14_1, z14_2, z14_3, z14_4, v14_0, v14_1, v14_2, v14_3, v14_4⟩ := rz5 BK147) | (go_at_call 159; (with_reducible refine (spec_GameOf.calls k1 _ _ l1 ((rd_T95 l1 x12_1).f0) ((rd_T95 l1 x12_1).f1) t149 _ ?side1 ?side2 A9.out).mono ?_); (case side1 => exact cc HR1 HB); (case side2 => exact HC1.out); rintro e w15 ⟨rfl, hb⟩; replace BK147 := kb BK147 hb; replace HB := hs_ HB hb; (try clear hb hb2 hk hi)))
         go_roundg k1
         case measure => have := HK1.out; omega
         case rel => exact ⟨(wrap64 (x12_1 + 1)), e2_, H', ⟨by have := HK1.out; omega⟩, ⟨bb HB⟩⟩
        ·rw [if_neg c10] at H
         have c10b0 : (t149 == x12_1) = false := beq_eq_false_iff_ne.mpr c10
         have c10b1 : (t149 != x12_1) = true := bne_iff_ne.mpr c10
         obtain rfl := Option.some.inj H
         have p146 : 0 ≤ (x12_1 : Int) := oa
         have q146 : x12_1 < (l1.length : Int) := oa
         obtain ⟨ad146, e146, hx146_0, hx146_1, hx146_2, hx146_3, hx146_4⟩ := at_T95 HR1.out x12_1 p146 q146
         cases e146
         replace hx146_0 := hc HB hx146_0
         replace hx146_1 := hc HB hx146_1
         replace hx146_2 := hc HB hx146_2
         replace hx146_3 := hc HB hx146_3
         replace hx146_4 := hc HB hx146_4
         replace p146 := eq_true p146
         replace q146 := eq_true q146
         go_wp2_with (first | ((with_reducible refine gate_dst (N := 6) rfl ?_); refine bx (N := 6) (cs := #[.int .i64 0, .int .i64 0, .int .i64 0, .int .i64 0, .int .i64 0]) (t := 95) ?_; intro gb147 hg w16 hbox hb; have BK147 := dk (hbox); have GW147 := gs hg HB; have GE147 := gs hg HB; replace HB := hs_ HB hb; clear hb hbox hg; have ⟨z17_0, z17_1, z17_2, z17_3, z17_4, v17_0, v17_1, v17_2, v17_3, v17_4⟩ := rz5 BK147) | ((with_reducible refine gate_callee (f := 158) rfl ?_); refine gl (some 19) Try.func158 #[.int .i64 a0, .agg #[.int .i64 ((rd_T95 l1 x12_1).f0), .int .i64 ((rd_T95 l1 x12_1).f1), .int .i64 ((rd_T95 l1 x12_1).f2), .int .i64 ((rd_T95 l1 x12_1).f3), .int .i64 ((rd_T95 l1 x12_1).f4)]] ?_; (with_reducible refine (spec_GameOk.calls k1 a0 ((rd_T95 l1 x12_1).f0) ((rd_T95 l1 x12_1).f1) ((rd_T95 l1 x12_1).f2) ((rd_T95 l1 x12_1).f3) ((rd_T95 l1 x12_1).f4) true _ A7.out).mono ?_); rintro e w18 ⟨rfl, hb⟩; refine ⟨_, rfl, ?_⟩; replace BK147 := dk (blk_below (g := gb147) (o := .cells #[.int .i64 ((rd_T95 l1 x12_1).f0), .int .i64 ((rd_T95 l1 x12_1).f1), .int .i64 ((rd_T95 l1 x12_1).f2), .int .i64 ((rd_T95 l1 x12_1).f3), .int .i64 ((rd_T95 l1 x12_1).f4)] 95 (0, 0)) (bp BK147) hb); replace HB := hs_ HB hb; (try clear hb hb2 hk hi); have ⟨z19_0, z19_1, z19_2, z19_3, z19_4, v19_0, v19_1, v19_2, v19_3, v19_4⟩ := rz5 BK147) | (go_at_call 159; (with_reducible refine (spec_GameOf.calls k1 _ _ l1 ((rd_T95 l1 x12_1).f0) ((rd_T95 l1 x12_1).f1) t149 _ ?side1 ?side2 A9.out).mono ?_); (case side1 => exact cc HR1 HB); (case side2 => exact HC1.out); rintro e w20 ⟨rfl, hb⟩; replace BK147 := kb BK147 hb; replace HB := hs_ HB hb; (try clear hb hb2 hk hi)))
         go_ret
         exact ⟨ee, bb HB⟩
       ·replace c8 := Bool.eq_false_iff.mpr c8
        subst c8
        rw [if_neg (show ¬ (false = true) by decide)] at H
        obtain rfl := Option.some.inj H
        have p146 : 0 ≤ (x12_1 : Int) := oa
        have q146 : x12_1 < (l1.length : Int) := oa
        obtain ⟨ad146, e146, hx146_0, hx146_1, hx146_2, hx146_3, hx146_4⟩ := at_T95 HR1.out x12_1 p146 q146
        cases e146
        replace hx146_0 := hc HB hx146_0
        replace hx146_1 := hc HB hx146_1
        replace hx146_2 := hc HB hx146_2
        replace hx146_3 := hc HB hx146_3
        replace hx146_4 := hc HB hx146_4
        replace p146 := eq_true p146
        replace q146 := eq_true q146
        go_wp2_with (first | ((with_reducible refine gate_dst (N := 6) rfl ?_); refine bx (N := 6) (cs := #[.int .i64 0, .int .i64 0, .int .i64 0, .int .i64 0, .int .i64 0]) (t := 95) ?_; intro gb147 hg w21 hbox hb; have BK147 := dk (hbox); have GW147 := gs hg HB; have GE147 := gs hg HB; replace HB := hs_ HB hb; clear hb hbox hg; have ⟨z22_0, z22_1, z22_2, z22_3, z22_4, v22_0, v22_1, v22_2, v22_3, v22_4⟩ := rz5 BK147) | ((with_reducible refine gate_callee (f := 158) rfl ?_); refine gl (some 19) Try.func158 #[.int .i64 a0, .agg #[.int .i64 ((rd_T95 l1 x12_1).f0), .int .i64 ((rd_T95 l1 x12_1).f1), .int .i64 ((rd_T95 l1 x12_1).f2), .int .i64 ((rd_T95 l1 x12_1).f3), .int .i64 ((rd_T95 l1 x12_1).f4)]] ?_; (with_reducible refine (spec_GameOk.calls k1 a0 ((rd_T95 l1 x12_1).f0) ((rd_T95 l1 x12_1).f1) ((rd_T95 l1 x12_1).f2) ((rd_T95 l1 x12_1).f3) ((rd_T95 l1 x12_1).f4) false _ A7.out).mono ?_); rintro e w23 ⟨rfl, hb⟩; refine ⟨_, rfl, ?_⟩; replace BK147 := dk (blk_below (g := gb147) (o := .cells #[.int .i64 ((rd_T95 l1 x12_1).f0), .int .i64 ((rd_T95 l1 x12_1).f1), .int .i64 ((rd_T95 l1 x12_1).f2), .int .i64 ((rd_T95 l1 x12_1).f3), .int .i64 ((rd_T95 l1 x12_1).f4)] 95 (0, 0)) (bp BK147) hb); replace HB := hs_ HB hb; (try clear hb hb2 hk hi)))
        go_ret
        exact ⟨ee, bb HB⟩
      ·rw [if_neg c6] at H
       exact absurd H (by simp)
     ·rw [if_neg c5] at H
      exact absurd H (by simp)
    ·rw [if_neg c4] at H
     have c4b0 : decide (x12_1 < (l1.length : Int)) = false := decide_eq_false c4
     clear c4
     obtain rfl := Option.some.inj H
     go_wp2
     go_ret
     exact ⟨ee, bb HB⟩
end Go.Proofs.Ythfefanapneocaa.Q
section
namespace Go.Proofs.Ythfefanapneocaa.Q
open Go.RowKit Go.Proofs.YthfefanapneocaaW.PrintWords Go.Proofs.YthfefanapneocaaW.PrintLast Go.Proofs.YthfefanapneocaaW.PrintMore
attribute [local go_sem] max2_int min2_int max_two min_two max_three min_three max_four min_four
set_option linter.unusedVariables false
set_option linter.unusedSimpArgs false
set_option maxRecDepth 100000
set_option maxHeartbeats 8000000
mutual
def spec_BookOk.j0 : Nat → Bool → List (S139) → Int → Int → Int → List Int → Bool → List (S95) → List Int → List Int → Option (Bool)
 | 0, _, _, _, _, _, _, _, _, _, _ => none
 | k + 1, x38, x151000, x151001, x151002, x151003, x151004, x151005, x151006, x151007, x151008 => if x38 = true then (some false) else (spec_BookOk.l0 k (x151000.length : Int) 0 x151000 x151001 x151002 x151003 x151004 x151005 x151006 x151007 x151008)
def spec_BookOk.l0 : Nat → Int → Int → List (S139) → Int → Int → Int → List Int → Bool → List (S95) → List Int → List Int → Option (Bool)
 | 0, _, _, _, _, _, _, _, _, _, _, _ => none
 | k + 1, x41, x42, x151000, x151001, x151002, x151003, x151004, x151005, x151006, x151007, x151008 => if x42 < x41 then (if 0 ≤ x42 then (if x42 < (x151007.length : Int) then ((spec_l01In.f (rd x151007 x42) 0 1000).bind fun t155 => (if t155 = true then (if x42 < (x151008.length : Int) then ((spec_l01In.f (rd x151008 x42) 0 1000).bind fun t157 => (if t157 = true then (spec_BookOk.l0 k x41 (wrap64 (x42 + 1)) x151000 x151001 x151002 x151003 x151004 x151005 x151006 x151007 x151008) else (some false))) else (none)) else (some false))) else (none)) else (none)) else (some true)
end
def spec_BookOk.f (k : Nat) (l0_0 : List (S139)) (a0_1 : Int) (a0_2 : Int) (a0_3 : Int) (l0_4 : List Int) (a0_5 : Bool) (l0_6 : List (S95)) (l0_7 : List Int) (l0_8 : List Int) : Option (Bool) := (spec_FieldOk.f k l0_0).bind fun t151 => (if t151 = true then ((spec_RulesOk.f k a0_1 a0_2 a0_3 l0_4 a0_5).bind fun t152 => (if t152 = true then ((spec_SeasonOk.f k (l0_0.length : Int) l0_6).bind fun t153 => (if t153 = true then (if (l0_7.length : Int) = (l0_0.length : Int) then (spec_BookOk.j0 k ((l0_8.length : Int) != (l0_0.length : Int)) l0_0 a0_1 a0_2 a0_3 l0_4 a0_5 l0_6 l0_7 l0_8) else (spec_BookOk.j0 k true l0_0 a0_1 a0_2 a0_3 l0_4 a0_5 l0_6 l0_7 l0_8)) else (spec_BookOk.j0 k true l0_0 a0_1 a0_2 a0_3 l0_4 a0_5 l0_6 l0_7 l0_8))) else (spec_BookOk.j0 k true l0_0 a0_1 a0_2 a0_3 l0_4 a0_5 l0_6 l0_7 l0_8))) else (spec_BookOk.j0 k true l0_0 a0_1 a0_2 a0_3 l0_4 a0_5 l0_6 l0_7 l0_8))
theorem spec_BookOk.calls (k : Nat) (A0_0 : Option Addr) (c0_0 : Nat) (l0_0 : List (S139)) (a0_1 : Int) (a0_2 : Int) (a0_3 : Int) (A0_4 : Option Addr) (c0_4 : Nat) (l0_4 : List Int) (a0_5 : Bool) (A0_6 : Option Addr) (c0_6 : Nat) (l0_6 : List (S95)) (A0_7 : Option Addr) (c0_7 : Nat) (l0_7 : List Int) (A0_8 : Option Addr) (c0_8 : Nat) (l0_8 : List Int) (r : Bool) (w : World) (hr0_0 : Kd.C k139 w A0_0 l0_0.length l0_0) (hc0_0 : l0_0.length ≤ c0_0) (hr0_4 : Kd.C (Kd.int .i64) w A0_4 l0_4.length l0_4) (hc0_4 : l0_4.length ≤ c0_4) (hr0_6 : Kd.C k95 w A0_6 l0_6.length l0_6) (hc0_6 : l0_6.length ≤ c0_6) (hr0_7 : Kd.C (Kd.int .i64) w A0_7 l0_7.length l0_7) (hc0_7 : l0_7.length ≤ c0_7) (hr0_8 : Kd.C (Kd.int .i64) w A0_8 l0_8.length l0_8) (hc0_8 : l0_8.length ≤ c0_8) (h : spec_BookOk.f k l0_0 a0_1 a0_2 a0_3 l0_4 a0_5 l0_6 l0_7 l0_8 = some r) :
  Calls Try.prog 55 #[.agg #[.slice A0_0 l0_0.length c0_0, .int .i64 a0_1, .int .i64 a0_2, .int .i64 a0_3, .slice A0_4 l0_4.length c0_4, .bool a0_5, .slice A0_6 l0_6.length c0_6, .slice A0_7 l0_7.length c0_7, .slice A0_8 l0_8.length c0_8]] w fun e w' => e = .returned (.bool r) ∧ Below w.heap.size w w' := by
 have hu36 := Try.underlying36
 have hu33 := Try.underlying33
 have HR0_0 := dk hr0_0
 have HC0_0 := dk hc0_0
 clear hr0_0 hc0_0
 have HR0_4 := dk hr0_4
 have HC0_4 := dk hc0_4
 clear hr0_4 hc0_4
 have HR0_6 := dk hr0_6
 have HC0_6 := dk hc0_6
 clear hr0_6 hc0_6
 have HR0_7 := dk hr0_7
 have HC0_7 := dk hc0_7
 clear hr0_7 hc0_7
 have HR0_8 := dk hr0_8
 have HC0_8 := dk hc0_8
 clear hr0_8 hc0_8
 have HB := dk (Below.refl w.heap.size w)
 have H : ((spec_FieldOk.f k l0_0).bind fun t151 => (if t151 = true then ((spec_RulesOk.f k a0_1 a0_2 a0_3 l0_4 a0_5).bind fun t152 => (if t152 = true then ((spec_SeasonOk.f k (l0_0.length : Int) l0_6).bind fun t153 => (if t153 = true then (if (l0_7.length : Int) = (l0_0.length : Int) then (spec_BookOk.j0 k ((l0_8.length : Int) != (l0_0.length : Int)) l0_0 a0_1 a0_2 a0_3 l0_4 a0_5 l0_6 l0_7 l0_8) else (spec_BookOk.j0 k true l0_0 a0_1 a0_2 a0_3 l0_4 a0_5 l0_6 l0_7 l0_8)) else (spec_BookOk.j0 k true l0_0 a0_1 a0_2 a0_3 l0_4 a0_5 l0_6 l0_7 l0_8))) else (spec_BookOk.j0 k true l0_0 a0_1 a0_2 a0_3 l0_4 a0_5 l0_6 l0_7 l0_8))) else (spec_BookOk.j0 k true l0_0 a0_1 a0_2 a0_3 l0_4 a0_5 l0_6 l0_7 l0_8))) = some r := h
 clear h
 have HC2 := dk H
 clear H
 go_enter Try.func55, Try.ntmps55
 go_upto_region 2 with (first | ((with_reducible refine gate_dst (N := 1) rfl ?_); (try (refine gate_guard (by rfl) ?_; dsimp only)); refine bx (N := 1) (cs := #[.slice A0_0 l0_0.length c0_0, .int .i64 a0_1, .int .i64 a0_2, .int .i64 a0_3, .slice A0_4 l0_4.length c0_4, .bool a0_5, .slice A0_6 l0_6.length c0_6, .slice A0_7 l0_7.length c0_7, .slice A0_8 l0_8.length c0_8]) (t := 36) ?_; intro gb150 hg w3 hbox hb; have BK150 := dk (hbox); have GW150 := gs hg HB; have GE150 := gs hg HB; replace HB := hs_ HB hb; clear hb hbox hg; have ⟨z4_0, z4_1, z4_2, z4_3, z4_4, z4_5, z4_6, z4_7, z4_8, v4_0, v4_1, v4_2, v4_3, v4_4, v4_5, v4_6, v4_7, v4_8⟩ := rz9 BK150))
 (try simp only [Act.put, List.setIfInBounds_toArray, List.set_cons_zero, List.set_cons_succ])
 go_cut [38] (fun v38 wc => ∃ (kq : Nat) (x38_1 : Bool), v38 = .bool x38_1 ∧ Aside0 (spec_BookOk.j0 kq x38_1 l0_0 a0_1 a0_2 a0_3 l0_4 a0_5 l0_6 l0_7 l0_8 = some r) ∧ Aside0 (kq ≤ k) ∧ Aside0 (wc.heap[gb150]? = some (.cells #[(.slice A0_0 l0_0.length c0_0), .int .i64 a0_1, .int .i64 a0_2, .int .i64 a0_3, (.slice A0_4 l0_4.length c0_4), .bool a0_5, (.slice A0_6 l0_6.length c0_6), (.slice A0_7 l0_7.length c0_7), (.slice A0_8 l0_8.length c0_8)] 36 (0, 0))) ∧ Aside0 (Below w.heap.size w wc))
 case first =>
  have H := HC2.out
  clear HC2
  replace H := Option.bind_eq_some_iff.mp H
  obtain ⟨t151, A50, H⟩ := H
  try dsimp only at H
  have A5 := dk A50
  clear A50
  by_cases c6 : t151 = true
  ·subst c6
   rw [if_pos rfl] at H
   replace H := Option.bind_eq_some_iff.mp H
   obtain ⟨t152, A70, H⟩ := H
   try dsimp only at H
   have A7 := dk A70
   clear A70
   by_cases c8 : t152 = true
   ·subst c8
    rw [if_pos rfl] at H
    replace H := Option.bind_eq_some_iff.mp H
    obtain ⟨t153, A90, H⟩ := H
    try dsimp only at H
    have A9 := dk A90
    clear A90
    by_cases c10 : t153 = true
    ·subst c10
     rw [if_pos rfl] at H
     by_cases c11 : (l0_7.length : Int) = (l0_0.length : Int)
     ·rw [if_pos c11] at H
      have c11b0 : ((l0_7.length : Int) == (l0_0.length : Int)) = true := beq_iff_eq.mpr c11
      have c11b1 : ((l0_7.length : Int) != (l0_0.length : Int)) = false := bne_eq_false_iff_eq.mpr c11
      have c11b2 : (l0_7.length == l0_0.length) = true := by first | simpa using c11 | (simp at c11 ⊢; omega)
      clear c11
      (first | rw [c11b0] | rw [c11b1] | (simp only [i64_w, i32_w]; rw [c11b0]) | skip)
      have H' := dk H
      clear H
      have ⟨z12_0, z12_1, z12_2, z12_3, z12_4, z12_5, z12_6, z12_7, z12_8, v12_0, v12_1, v12_2, v12_3, v12_4, v12_5, v12_6, v12_7, v12_8⟩ := rz9 BK150
      go_wp2_with (first | ((with_reducible refine gate_callee (f := 118) rfl ?_); refine gl (some 10) Try.func118 #[.slice A0_0 l0_0.length c0_0] ?_; (with_reducible refine (spec_FieldOk.calls k _ _ l0_0 true _ ?side1 ?side2 A5.out).mono ?_); (case side1 => exact cc HR0_0 HB); (case side2 => exact HC0_0.out); rintro e w13 ⟨rfl, hb⟩; refine ⟨_, rfl, ?_⟩; replace BK150 := kb BK150 hb; replace HB := hs_ HB hb; (try clear hb hb2 hk hi); have ⟨z14_0, z14_1, z14_2, z14_3, z14_4, z14_5, z14_6, z14_7, z14_8, v14_0, v14_1, v14_2, v14_3, v14_4, v14_5, v14_6, v14_7, v14_8⟩ := rz9 BK150) | (go_at_call 119; (with_reducible refine (spec_RulesOk.calls k a0_1 a0_2 a0_3 _ _ l0_4 a0_5 true _ ?side1 ?side2 A7.out).mono ?_); (case side1 => exact cc HR0_4 HB); (case side2 => exact HC0_4.out); rintro e w15 ⟨rfl, hb⟩; replace BK150 := kb BK150 hb; replace HB := hs_ HB hb; (try clear hb hb2 hk hi); have ⟨z16_0, z16_1, z16_2, z16_3, z16_4, z16_5, z16_6, z16_7, z16_8, v16_0, v16_1, v16_2, v16_3, v16_4, v16_5, v16_6, v16_7, v16_8⟩ := rz9 BK150) | (go_at_call 120; (with_reducible refine (spec_SeasonOk.calls k (l0_0.length : Int) _ _ l0_6 true _ ?side1 ?side2 A9.out).mono ?_); (case side1 => exact cc HR0_6 HB); (case side2 => exact HC0_6.out); rintro e w17 ⟨rfl, hb⟩; replace BK150 := kb BK150 hb; replace HB := hs_ HB hb; (try clear hb hb2 hk hi); have ⟨z18_0, z18_1, z18_2, z18_3, z18_4, z18_5, z18_6, z18_7, z18_8, v18_0, v18_1, v18_2, v18_3, v18_4, v18_5, v18_6, v18_7, v18_8⟩ := rz9 BK150))
      go_meet
      case rel => exact ⟨_, (((l0_8.length : Int) != (l0_0.length : Int))), e2_, H', ⟨by first | omega | exact Nat.le_refl _⟩, ⟨bk BK150⟩, ⟨bb HB⟩⟩
     ·rw [if_neg c11] at H
      have c11b0 : ((l0_7.length : Int) == (l0_0.length : Int)) = false := beq_eq_false_iff_ne.mpr c11
      have c11b1 : ((l0_7.length : Int) != (l0_0.length : Int)) = true := bne_iff_ne.mpr c11
      have c11b2 : (l0_7.length == l0_0.length) = false := by first | simpa using c11 | (simp at c11 ⊢; omega)
      (first | rw [c11b0] | rw [c11b1] | (simp only [i64_w, i32_w]; rw [c11b0]) | skip)
      have H' := dk H
      clear H
      have ⟨z19_0, z19_1, z19_2, z19_3, z19_4, z19_5, z19_6, z19_7, z19_8, v19_0, v19_1, v19_2, v19_3, v19_4, v19_5, v19_6, v19_7, v19_8⟩ := rz9 BK150
      go_wp2_with (first | ((with_reducible refine gate_callee (f := 118) rfl ?_); refine gl (some 10) Try.func118 #[.slice A0_0 l0_0.length c0_0] ?_; (with_reducible refine (spec_FieldOk.calls k _ _ l0_0 true _ ?side1 ?side2 A5.out).mono ?_); (case side1 => exact cc HR0_0 HB); (case side2 => exact HC0_0.out); rintro e w20 ⟨rfl, hb⟩; refine ⟨_, rfl, ?_⟩; replace BK150 := kb BK150 hb; replace HB := hs_ HB hb; (try clear hb hb2 hk hi); have ⟨z21_0, z21_1, z21_2, z21_3, z21_4, z21_5, z21_6, z21_7, z21_8, v21_0, v21_1, v21_2, v21_3, v21_4, v21_5, v21_6, v21_7, v21_8⟩ := rz9 BK150) | (go_at_call 119; (with_reducible refine (spec_RulesOk.calls k a0_1 a0_2 a0_3 _ _ l0_4 a0_5 true _ ?side1 ?side2 A7.out).mono ?_); (case side1 => exact cc HR0_4 HB); (case side2 => exact HC0_4.out); rintro e w22 ⟨rfl, hb⟩; replace BK150 := kb BK150 hb; replace HB := hs_ HB hb; (try clear hb hb2 hk hi); have ⟨z23_0, z23_1, z23_2, z23_3, z23_4, z23_5, z23_6, z23_7, z23_8, v23_0, v23_1, v23_2, v23_3, v23_4, v23_5, v23_6, v23_7, v23_8⟩ := rz9 BK150) | (go_at_call 120; (with_reducible refine (spec_SeasonOk.calls k (l0_0.length : Int) _ _ l0_6 true _ ?side1 ?side2 A9.out).mono ?_); (case side1 => exact cc HR0_6 HB); (case side2 => exact HC0_6.out); rintro e w24 ⟨rfl, hb⟩; replace BK150 := kb BK150 hb; replace HB := hs_ HB hb; (try clear hb hb2 hk hi); have ⟨z25_0, z25_1, z25_2, z25_3, z25_4, z25_5, z25_6, z25_7, z25_8, v25_0, v25_1, v25_2, v25_3, v25_4, v25_5, v25_6, v25_7, v25_8⟩ := rz9 BK150))
      go_meet
      case rel => exact ⟨_, (true), e2_, H', ⟨by first | omega | exact Nat.le_refl _⟩, ⟨bk BK150⟩, ⟨bb HB⟩⟩
    ·replace c10 := Bool.eq_false_iff.mpr c10
     subst c10
     rw [if_neg (show ¬ (false = true) by decide)] at H
     have H' := dk H
     clear H
     have ⟨z26_0, z26_1, z26_2, z26_3, z26_4, z26_5, z26_6, z26_7, z26_8, v26_0, v26_1, v26_2, v26_3, v26_4, v26_5, v26_6, v26_7, v26_8⟩ := rz9 BK150
     go_wp2_with (first | ((with_reducible refine gate_callee (f := 118) rfl ?_); refine gl (some 10) Try.func118 #[.slice A0_0 l0_0.length c0_0] ?_; (with_reducible refine (spec_FieldOk.calls k _ _ l0_0 true _ ?side1 ?side2 A5.out).mono ?_); (case side1 => exact cc HR0_0 HB); (case side2 => exact HC0_0.out); rintro e w27 ⟨rfl, hb⟩; refine ⟨_, rfl, ?_⟩; replace BK150 := kb BK150 hb; replace HB := hs_ HB hb; (try clear hb hb2 hk hi); have ⟨z28_0, z28_1, z28_2, z28_3, z28_4, z28_5, z28_6, z28_7, z28_8, v28_0, v28_1, v28_2, v28_3, v28_4, v28_5, v28_6, v28_7, v28_8⟩ := rz9 BK150) | (go_at_call 119; (with_reducible refine (spec_RulesOk.calls k a0_1 a0_2 a0_3 _ _ l0_4 a0_5 true _ ?side1 ?side2 A7.out).mono ?_); (case side1 => exact cc HR0_4 HB); (case side2 => exact HC0_4.out); rintro e w29 ⟨rfl, hb⟩; replace BK150 := kb BK150 hb; replace HB := hs_ HB hb; (try clear hb hb2 hk hi); have ⟨z30_0, z30_1, z30_2, z30_3, z30_4, z30_5, z30_6, z30_7, z30_8, v30_0, v30_1, v30_2, v30_3, v30_4, v30_5, v30_6, v30_7, v30_8⟩ := rz9 BK150) | (go_at_call 120; (with_reducible refine (spec_SeasonOk.calls k (l0_0.length : Int) _ _ l0_6 false _ ?side1 ?side2 A9.out).mono ?_); (case side1 => exact cc HR0_6 HB); (case side2 => exact HC0_6.out); rintro e w31 ⟨rfl, hb⟩; replace BK150 := kb BK150 hb; replace HB := hs_ HB hb; (try clear hb hb2 hk hi)))
     go_meet
     case rel => exact ⟨_, (true), e2_, H', ⟨by first | omega | exact Nat.le_refl _⟩, ⟨bk BK150⟩, ⟨bb HB⟩⟩
   ·replace c8 := Bool.eq_false_iff.mpr c8
    subst c8
    rw [if_neg (show ¬ (false = true) by decide)] at H
    have H' := dk H
    clear H
    have ⟨z32_0, z32_1, z32_2, z32_3, z32_4, z32_5, z32_6, z32_7, z32_8, v32_0, v32_1, v32_2, v32_3, v32_4, v32_5, v32_6, v32_7, v32_8⟩ := rz9 BK150
    go_wp2_with (first | ((with_reducible refine gate_callee (f := 118) rfl ?_); refine gl (some 10) Try.func118 #[.slice A0_0 l0_0.length c0_0] ?_; (with_reducible refine (spec_FieldOk.calls k _ _ l0_0 true _ ?side1 ?side2 A5.out).mono ?_); (case side1 => exact cc HR0_0 HB); (case side2 => exact HC0_0.out); rintro e w33 ⟨rfl, hb⟩; refine ⟨_, rfl, ?_⟩; replace BK150 := kb BK150 hb; replace HB := hs_ HB hb; (try clear hb hb2 hk hi); have ⟨z34_0, z34_1, z34_2, z34_3, z34_4, z34_5, z34_6, z34_7, z34_8, v34_0, v34_1, v34_2, v34_3, v34_4, v34_5, v34_6, v34_7, v34_8⟩ := rz9 BK150) | (go_at_call 119; (with_reducible refine (spec_RulesOk.calls k a0_1 a0_2 a0_3 _ _ l0_4 a0_5 false _ ?side1 ?side2 A7.out).mono ?_); (case side1 => exact cc HR0_4 HB); (case side2 => exact HC0_4.out); rintro e w35 ⟨rfl, hb⟩; replace BK150 := kb BK150 hb; replace HB := hs_ HB hb; (try clear hb hb2 hk hi)))
    go_meet
    case rel => exact ⟨_, (true), e2_, H', ⟨by first | omega | exact Nat.le_refl _⟩, ⟨bk BK150⟩, ⟨bb HB⟩⟩
  ·replace c6 := Bool.eq_false_iff.mpr c6
   subst c6
   rw [if_neg (show ¬ (false = true) by decide)] at H
   have H' := dk H
   clear H
   have ⟨z36_0, z36_1, z36_2, z36_3, z36_4, z36_5, z36_6, z36_7, z36_8, v36_0, v36_1, v36_2, v36_3, v36_4, v36_5, v36_6, v36_7, v36_8⟩ := rz9 BK150
   go_wp2_with (first | ((with_reducible refine gate_callee (f := 118) rfl ?_); refine gl (some 10) Try.func118 #[.slice A0_0 l0_0.length c0_0] ?_; (with_reducible refine (spec_FieldOk.calls k _ _ l0_0 false _ ?side1 ?side2 A5.out).mono ?_); (case side1 => exact cc HR0_0 HB); (case side2 => exact HC0_0.out); rintro e w37 ⟨rfl, hb⟩; refine ⟨_, rfl, ?_⟩; replace BK150 := kb BK150 hb; replace HB := hs_ HB hb; (try clear hb hb2 hk hi)))
   go_meet
   case rel => exact ⟨_, (true), e2_, H', ⟨by first | omega | exact Nat.le_refl _⟩, ⟨bk BK150⟩, ⟨bb HB⟩⟩
 case rest =>
  clear HC2
  (try clear c1)
  (try clear p2)
  (try clear c5)
  (try clear c6)
  (try clear c8)
  (try clear c10)
  (try clear c11)
  (try clear c11b0)
  (try clear c11b1)
  (try clear c11b2)
  (try clear z12_0 z12_1 z12_2 z12_3 z12_4 z12_5 z12_6 z12_7 z12_8)
  (try clear z14_0 z14_1 z14_2 z14_3 z14_4 z14_5 z14_6 z14_7 z14_8)
  (try clear z16_0 z16_1 z16_2 z16_3 z16_4 z16_5 z16_6 z16_7 z16_8)
  (try clear z18_0 z18_1 z18_2 z18_3 z18_4 z18_5 z18_6 z18_7 z18_8)
  (try clear z19_0 z19_1 z19_2 z19_3 z19_4 z19_5 z19_6 z19_7 z19_8)
  (try clear z21_0 z21_1 z21_2 z21_3 z21_4 z21_5 z21_6 z21_7 z21_8)
  (try clear z23_0 z23_1 z23_2 z23_3 z23_4 z23_5 z23_6 z23_7 z23_8)
  (try clear z25_0 z25_1 z25_2 z25_3 z25_4 z25_5 z25_6 z25_7 z25_8)
  (try clear z26_0 z26_1 z26_2 z26_3 z26_4 z26_5 z26_6 z26_7 z26_8)
  (try clear z28_0 z28_1 z28_2 z28_3 z28_4 z28_5 z28_6 z28_7 z28_8)
  (try clear z30_0 z30_1 z30_2 z30_3 z30_4 z30_5 z30_6 z30_7 z30_8)
  (try clear z32_0 z32_1 z32_2 z32_3 z32_4 z32_5 z32_6 z32_7 z32_8)
  (try clear z34_0 z34_1 z34_2 z34_3 z34_4 z34_5 z34_6 z34_7 z34_8)
  (try clear z36_0 z36_1 z36_2 z36_3 z36_4 z36_5 z36_6 z36_7 z36_8)
  (try clear z4_0 z4_1 z4_2 z4_3 z4_4 z4_5 z4_6 z4_7 z4_8)
  (try clear v12_0 v12_1 v12_2 v12_3 v12_4 v12_5 v12_6 v12_7 v12_8)
  (try clear v14_0 v14_1 v14_2 v14_3 v14_4 v14_5 v14_6 v14_7 v14_8)
  (try clear v16_0 v16_1 v16_2 v16_3 v16_4 v16_5 v16_6 v16_7 v16_8)
  (try clear v18_0 v18_1 v18_2 v18_3 v18_4 v18_5 v18_6 v18_7 v18_8)
  (try clear v19_0 v19_1 v19_2 v19_3 v19_4 v19_5 v19_6 v19_7 v19_8)
  (try clear v21_0 v21_1 v21_2 v21_3 v21_4 v21_5 v21_6 v21_7 v21_8)
  (try clear v23_0 v23_1 v23_2 v23_3 v23_4 v23_5 v23_6 v23_7 v23_8)
  (try clear v25_0 v25_1 v25_2 v25_3 v25_4 v25_5 v25_6 v25_7 v25_8)
  (try clear v26_0 v26_1 v26_2 v26_3 v26_4 v26_5 v26_6 v26_7 v26_8)
  (try clear v28_0 v28_1 v28_2 v28_3 v28_4 v28_5 v28_6 v28_7 v28_8)
  (try clear v30_0 v30_1 v30_2 v30_3 v30_4 v30_5 v30_6 v30_7 v30_8)
  (try clear v32_0 v32_1 v32_2 v32_3 v32_4 v32_5 v32_6 v32_7 v32_8)
  (try clear v34_0 v34_1 v34_2 v34_3 v34_4 v34_5 v34_6 v34_7 v34_8)
  (try clear v36_0 v36_1 v36_2 v36_3 v36_4 v36_5 v36_6 v36_7 v36_8)
  (try clear v4_0 v4_1 v4_2 v4_3 v4_4 v4_5 v4_6 v4_7 v4_8)
  obtain ⟨kq, x38_1, rfl, HA, HJ1, BK150, HB⟩ := hcut
  cases kq with
  | zero => exact absurd HA.out (by simp [spec_BookOk.j0])
  | succ kj1 =>
   have H := HA.out
   clear HA
   simp only [spec_BookOk.j0] at H
   by_cases c38 : x38_1 = true
   ·subst c38
    rw [if_pos rfl] at H
    obtain rfl := Option.some.inj H
    go_wp2
    go_ret
    exact ⟨ee, bb HB⟩
   ·replace c38 := Bool.eq_false_iff.mpr c38
    subst c38
    rw [if_neg (show ¬ (false = true) by decide)] at H
    have H' := dk H
    clear H
    have ⟨z39_0, z39_1, z39_2, z39_3, z39_4, z39_5, z39_6, z39_7, z39_8, v39_0, v39_1, v39_2, v39_3, v39_4, v39_5, v39_6, v39_7, v39_8⟩ := rz9 BK150
    go_wp2
    go_loopg [42] kj1 (fun kq v42 w' => ∃ (x42_2 : Int), v42 = .int .i64 x42_2 ∧ Aside0 (spec_BookOk.l0 kq (l0_0.length : Int) x42_2 l0_0 a0_1 a0_2 a0_3 l0_4 a0_5 l0_6 l0_7 l0_8 = some r) ∧ Aside0 (kq ≤ kj1) ∧ Aside0 (w'.heap[gb150]? = some (.cells #[(.slice A0_0 l0_0.length c0_0), .int .i64 a0_1, .int .i64 a0_2, .int .i64 a0_3, (.slice A0_4 l0_4.length c0_4), .bool a0_5, (.slice A0_6 l0_6.length c0_6), (.slice A0_7 l0_7.length c0_7), (.slice A0_8 l0_8.length c0_8)] 36 (0, 0))) ∧ Aside0 (Below w.heap.size w w'))
    case atStart => exact ⟨(0), e2_, H', ⟨Nat.le_refl _⟩, ⟨bk BK150⟩, ⟨bb HB⟩⟩
    case round =>
     clear H'
     (try clear c1)
     (try clear p2)
     (try clear c3)
     (try clear c5)
     (try clear c6)
     (try clear c8)
     (try clear c10)
     (try clear c11)
     (try clear c11b0)
     (try clear c11b1)
     (try clear c11b2)
     (try clear c38)
     (try clear z12_0 z12_1 z12_2 z12_3 z12_4 z12_5 z12_6 z12_7 z12_8)
     (try clear z14_0 z14_1 z14_2 z14_3 z14_4 z14_5 z14_6 z14_7 z14_8)
     (try clear z16_0 z16_1 z16_2 z16_3 z16_4 z16_5 z16_6 z16_7 z16_8)
     (try clear z18_0 z18_1 z18_2 z18_3 z18_4 z18_5 z18_6 z18_7 z18_8)
     (try clear z19_0 z19_1 z19_2 z19_3 z19_4 z19_5 z19_6 z19_7 z19_8)
     (try clear z21_0 z21_1 z21_2 z21_3 z21_4 z21_5 z21_6 z21_7 z21_8)
     (try clear z23_0 z23_1 z23_2 z23_3 z23_4 z23_5 z23_6 z23_7 z23_8)
     (try clear z25_0 z25_1 z25_2 z25_3 z25_4 z25_5 z25_6 z25_7 z25_8)
     (try clear z26_0 z26_1 z26_2 z26_3 z26_4 z26_5 z26_6 z26_7 z26_8)
     (try clear z28_0 z28_1 z28_2 z28_3 z28_4 z28_5 z28_6 z28_7 z28_8)
     (try clear z30_0 z30_1 z30_2 z30_3 z30_4 z30_5 z30_6 z30_7 z30_8)
     (try clear z32_0 z32_1 z32_2 z32_3 z32_4 z32_5 z32_6 z32_7 z32_8)
     (try clear z34_0 z34_1 z34_2 z34_3 z34_4 z34_5 z34_6 z34_7 z34_8)
     (try clear z36_0 z36_1 z36_2 z36_3 z36_4 z36_5 z36_6 z36_7 z36_8)
     (try clear z39_0 z39_1 z39_2 z39_3 z39_4 z39_5 z39_6 z39_7 z39_8)
     (try clear z4_0 z4_1 z4_2 z4_3 z4_4 z4_5 z4_6 z4_7 z4_8)
     (try clear v12_0 v12_1 v12_2 v12_3 v12_4 v12_5 v12_6 v12_7 v12_8)
     (try clear v14_0 v14_1 v14_2 v14_3 v14_4 v14_5 v14_6 v14_7 v14_8)
     (try clear v16_0 v16_1 v16_2 v16_3 v16_4 v16_5 v16_6 v16_7 v16_8)
     (try clear v18_0 v18_1 v18_2 v18_3 v18_4 v18_5 v18_6 v18_7 v18_8)
     (try clear v19_0 v19_1 v19_2 v19_3 v19_4 v19_5 v19_6 v19_7 v19_8)
     (try clear v21_0 v21_1 v21_2 v21_3 v21_4 v21_5 v21_6 v21_7 v21_8)
     (try clear v23_0 v23_1 v23_2 v23_3 v23_4 v23_5 v23_6 v23_7 v23_8)
     (try clear v25_0 v25_1 v25_2 v25_3 v25_4 v25_5 v25_6 v25_7 v25_8)
     (try clear v26_0 v26_1 v26_2 v26_3 v26_4 v26_5 v26_6 v26_7 v26_8)
     (try clear v28_0 v28_1 v28_2 v28_3 v28_4 v28_5 v28_6 v28_7 v28_8)
     (try clear v30_0 v30_1 v30_2 v30_3 v30_4 v30_5 v30_6 v30_7 v30_8)
     (try clear v32_0 v32_1 v32_2 v32_3 v32_4 v32_5 v32_6 v32_7 v32_8)
     (try clear v34_0 v34_1 v34_2 v34_3 v34_4 v34_5 v34_6 v34_7 v34_8)
     (try clear v36_0 v36_1 v36_2 v36_3 v36_4 v36_5 v36_6 v36_7 v36_8)
     (try clear v39_0 v39_1 v39_2 v39_3 v39_4 v39_5 v39_6 v39_7 v39_8)
     (try clear v4_0 v4_1 v4_2 v4_3 v4_4 v4_5 v4_6 v4_7 v4_8)
     (try clear p2)
     obtain ⟨x42_2, rfl, HA, HK2, BK150, HB⟩ := hrel
     cases gk with
     | zero => exact absurd HA.out (by simp [spec_BookOk.l0])
     | succ k2 =>
      have H := HA.out
      clear HA
      simp only [spec_BookOk.l0] at H
      by_cases c40 : x42_2 < (l0_0.length : Int)
      ·rw [if_pos c40] at H
       have c40b0 : decide (x42_2 < (l0_0.length : Int)) = true := decide_eq_true c40
       clear c40
       by_cases c41 : 0 ≤ x42_2
       ·rw [if_pos c41] at H
        have c41b0 : decide (0 ≤ x42_2) = true := decide_eq_true c41
        clear c41
        by_cases c42 : x42_2 < (l0_7.length : Int)
        ·rw [if_pos c42] at H
         have c42b0 : decide (x42_2 < (l0_7.length : Int)) = true := decide_eq_true c42
         clear c42
         replace H := Option.bind_eq_some_iff.mp H
         obtain ⟨t155, A430, H⟩ := H
         try dsimp only at H
         have A43 := dk A430
         clear A430
         by_cases c44 : t155 = true
         ·subst c44
          rw [if_pos rfl] at H
          by_cases c45 : x42_2 < (l0_8.length : Int)
          ·rw [if_pos c45] at H
           have c45b0 : decide (x42_2 < (l0_8.length : Int)) = true := decide_eq_true c45
           clear c45
           replace H := Option.bind_eq_some_iff.mp H
           obtain ⟨t157, A460, H⟩ := H
           try dsimp only at H
           have A46 := dk A460
           clear A460
           by_cases c47 : t157 = true
           ·subst c47
            rw [if_pos rfl] at H
            have H' := dk H
            clear H
            have ⟨z48_0, z48_1, z48_2, z48_3, z48_4, z48_5, z48_6, z48_7, z48_8, v48_0, v48_1, v48_2, v48_3, v48_4, v48_5, v48_6, v48_7, v48_8⟩ := rz9 BK150
            have p154 : 0 ≤ (x42_2 : Int) := oa
            have q154 : x42_2 < (l0_7.length : Int) := oa
            obtain ⟨ad154, e154, hx154_0⟩ := Kd.at_int HR0_7.out x42_2 p154 q154
            cases e154
            replace hx154_0 := hc HB hx154_0
            replace p154 := eq_true p154
            replace q154 := eq_true q154
            go_wp2_with (first | ((with_reducible refine gate_callee (f := 76) rfl ?_); refine gl (some 50) Try.func76 #[.int .i64 (rd l0_7 x42_2), .int .i64 0, .int .i64 1000] ?_; (with_reducible refine (spec_l01In.calls (rd l0_7 x42_2) 0 1000 true _ A43.out).mono ?_); rintro e w' ⟨rfl, ⟨nd, rfl⟩⟩; refine ⟨_, rfl, ?_⟩; have p156 : 0 ≤ (x42_2 : Int) := oa; have q156 : x42_2 < (l0_8.length : Int) := oa; obtain ⟨ad156, e156, hx156_0⟩ := Kd.at_int HR0_8.out x42_2 p156 q156; cases e156; replace hx156_0 := hc HB hx156_0; replace p156 := eq_true p156; replace q156 := eq_true q156) | (go_at_call 76; (with_reducible refine (spec_l01In.calls (rd l0_8 x42_2) 0 1000 true _ A46.out).mono ?_); rintro e w' ⟨rfl, ⟨nd, rfl⟩⟩))
            go_roundg k2
            case measure => have := HJ1.out; have := HK2.out; omega
            case rel => exact ⟨(wrap64 (x42_2 + 1)), e2_, H', ⟨by have := HJ1.out; have := HK2.out; omega⟩, ⟨bk BK150⟩, ⟨bb HB⟩⟩
           ·replace c47 := Bool.eq_false_iff.mpr c47
            subst c47
            rw [if_neg (show ¬ (false = true) by decide)] at H
            obtain rfl := Option.some.inj H
            have ⟨z49_0, z49_1, z49_2, z49_3, z49_4, z49_5, z49_6, z49_7, z49_8, v49_0, v49_1, v49_2, v49_3, v49_4, v49_5, v49_6, v49_7, v49_8⟩ := rz9 BK150
            have p154 : 0 ≤ (x42_2 : Int) := oa
            have q154 : x42_2 < (l0_7.length : Int) := oa
            obtain ⟨ad154, e154, hx154_0⟩ := Kd.at_int HR0_7.out x42_2 p154 q154
            cases e154
            replace hx154_0 := hc HB hx154_0
            replace p154 := eq_true p154
            replace q154 := eq_true q154
            go_wp2_with (first | ((with_reducible refine gate_callee (f := 76) rfl ?_); refine gl (some 50) Try.func76 #[.int .i64 (rd l0_7 x42_2), .int .i64 0, .int .i64 1000] ?_; (with_reducible refine (spec_l01In.calls (rd l0_7 x42_2) 0 1000 true _ A43.out).mono ?_); rintro e w' ⟨rfl, ⟨nd, rfl⟩⟩; refine ⟨_, rfl, ?_⟩; have p156 : 0 ≤ (x42_2 : Int) := oa; have q156 : x42_2 < (l0_8.length : Int) := oa; obtain ⟨ad156, e156, hx156_0⟩ := Kd.at_int HR0_8.out x42_2 p156 q156; cases e156; replace hx156_0 := hc HB hx156_0; replace p156 := eq_true p156; replace q156 := eq_true q156) | (go_at_call 76; (with_reducible refine (spec_l01In.calls (rd l0_8 x42_2) 0 1000 false _ A46.out).mono ?_); rintro e w' ⟨rfl, ⟨nd, rfl⟩⟩))
            go_ret
            exact ⟨ee, bb HB⟩
          ·rw [if_neg c45] at H
           exact absurd H (by simp)
         ·replace c44 := Bool.eq_false_iff.mpr c44
          subst c44
          rw [if_neg (show ¬ (false = true) by decide)] at H
          obtain rfl := Option.some.inj H
          have ⟨z50_0, z50_1, z50_2, z50_3, z50_4, z50_5, z50_6, z50_7, z50_8, v50_0, v50_1, v50_2, v50_3, v50_4, v50_5, v50_6, v50_7, v50_8⟩ := rz9 BK150
          have p154 : 0 ≤ (x42_2 : Int) := oa
          have q154 : x42_2 < (l0_7.length : Int) := oa
          obtain ⟨ad154, e154, hx154_0⟩ := Kd.at_int HR0_7.out x42_2 p154 q154
          cases e154
          replace hx154_0 := hc HB hx154_0
          replace p154 := eq_true p154
          replace q154 := eq_true q154
          go_wp2_with (first | ((with_reducible refine gate_callee (f := 76) rfl ?_); refine gl (some 50) Try.func76 #[.int .i64 (rd l0_7 x42_2), .int .i64 0, .int .i64 1000] ?_; (with_reducible refine (spec_l01In.calls (rd l0_7 x42_2) 0 1000 false _ A43.out).mono ?_); rintro e w' ⟨rfl, ⟨nd, rfl⟩⟩; refine ⟨_, rfl, ?_⟩))
          go_ret
          exact ⟨ee, bb HB⟩
        ·rw [if_neg c42] at H
         exact absurd H (by simp)
       ·rw [if_neg c41] at H
        exact absurd H (by simp)
      ·rw [if_neg c40] at H
       have c40b0 : decide (x42_2 < (l0_0.length : Int)) = false := decide_eq_false c40
       clear c40
       obtain rfl := Option.some.inj H
       go_wp2
       go_ret
       exact ⟨ee, bb HB⟩
end Go.Proofs.Ythfefanapneocaa.Q
end
namespace Go.Proofs.Ythfefanapneocaa.Q
open Go.RowKit Go.Proofs.YthfefanapneocaaW.PrintWords Go.Proofs.YthfefanapneocaaW.PrintLast Go.Proofs.YthfefanapneocaaW.PrintMore
attribute [local go_sem] max2_int min2_int max_two min_two max_three min_three max_four min_four
set_option linter.unusedVariables false
set_option linter.unusedSimpArgs false
set_option maxRecDepth 100000
set_option maxHeartbeats 8000000
def spec_l16Copy.f (l0_0 : List (S139)) (a0_1 : Int) (a0_2 : Int) (a0_3 : Int) (l0_4 : List Int) (a0_5 : Bool) (l0_6 : List (S95)) (l0_7 : List Int) (l0_8 : List Int) : Option ((List (S139)) × Int × Int × Int × List Int × Bool × (List (S95)) × List Int × List Int) := (some (([] : List (S139)) : List (S139))).bind fun y160 => (if y160.length + l0_0.length < 4398046511104 then ((some (([] : List Int) : List Int)).bind fun y166 => (if y166.length + l0_4.length < 17592186044416 then ((some (([] : List (S95)) : List (S95))).bind fun y172 => (if y172.length + l0_6.length < 3518437208883 then ((some (([] : List Int) : List Int)).bind fun y178 => (if y178.length + l0_7.length < 17592186044416 then ((some (([] : List Int) : List Int)).bind fun y184 => (if y184.length + l0_8.length < 17592186044416 then (some ((y160 ++ l0_0), a0_1, a0_2, a0_3, (y166 ++ l0_4), a0_5, (y172 ++ l0_6), (y178 ++ l0_7), (y184 ++ l0_8))) else (none))) else (none))) else (none))) else (none))) else (none))
theorem spec_l16Copy.calls (A0_0 : Option Addr) (c0_0 : Nat) (l0_0 : List (S139)) (a0_1 : Int) (a0_2 : Int) (a0_3 : Int) (A0_4 : Option Addr) (c0_4 : Nat) (l0_4 : List Int) (a0_5 : Bool) (A0_6 : Option Addr) (c0_6 : Nat) (l0_6 : List (S95)) (A0_7 : Option Addr) (c0_7 : Nat) (l0_7 : List Int) (A0_8 : Option Addr) (c0_8 : Nat) (l0_8 : List Int) (r1 : List (S139)) (r2 : Int) (r3 : Int) (r4 : Int) (r5 : List Int) (r6 : Bool) (r7 : List (S95)) (r8 : List Int) (r9 : List Int) (w : World) (hr0_0 : Kd.C k139 w A0_0 l0_0.length l0_0) (hc0_0 : l0_0.length ≤ c0_0) (hr0_4 : Kd.C (Kd.int .i64) w A0_4 l0_4.length l0_4) (hc0_4 : l0_4.length ≤ c0_4) (hr0_6 : Kd.C k95 w A0_6 l0_6.length l0_6) (hc0_6 : l0_6.length ≤ c0_6) (hr0_7 : Kd.C (Kd.int .i64) w A0_7 l0_7.length l0_7) (hc0_7 : l0_7.length ≤ c0_7) (hr0_8 : Kd.C (Kd.int .i64) w A0_8 l0_8.length l0_8) (hc0_8 : l0_8.length ≤ c0_8) (h : spec_l16Copy.f l0_0 a0_1 a0_2 a0_3 l0_4 a0_5 l0_6 l0_7 l0_8 = some (r1, r2, r3, r4, r5, r6, r7, r8, r9)) :
  Calls Try.prog 56 #[.agg #[.slice A0_0 l0_0.length c0_0, .int .i64 a0_1, .int .i64 a0_2, .int .i64 a0_3, .slice A0_4 l0_4.length c0_4, .bool a0_5, .slice A0_6 l0_6.length c0_6, .slice A0_7 l0_7.length c0_7, .slice A0_8 l0_8.length c0_8]] w fun e w' => ∃ v0_ v4_ v6_ v7_ v8_ : Value, e = .returned (.agg #[v0_, .int .i64 r2, .int .i64 r3, .int .i64 r4, v4_, .bool r6, v6_, v7_, v8_]) ∧ Kd.R k139 139 w' w.heap.size (fun _ => True) v0_ r1 ∧ Kd.R (Kd.int .i64) 3 w' w.heap.size (fun k_ => some k_ ≠ (v7_ : Value).ownBlock ∧ some k_ ≠ (v8_ : Value).ownBlock) v4_ r5 ∧ Kd.R k95 95 w' w.heap.size (fun _ => True) v6_ r7 ∧ Kd.R (Kd.int .i64) 3 w' w.heap.size (fun k_ => some k_ ≠ (v4_ : Value).ownBlock ∧ some k_ ≠ (v8_ : Value).ownBlock) v7_ r8 ∧ Kd.R (Kd.int .i64) 3 w' w.heap.size (fun k_ => some k_ ≠ (v4_ : Value).ownBlock ∧ some k_ ≠ (v7_ : Value).ownBlock) v8_ r9 ∧ Below w.heap.size w w' := by
 have hu36 := Try.underlying36
 have HR0_0 := dk hr0_0
 have HC0_0 := dk hc0_0
 clear hr0_0 hc0_0
 have HR0_4 := dk hr0_4
 have HC0_4 := dk hc0_4
 clear hr0_4 hc0_4
 have HR0_6 := dk hr0_6
 have HC0_6 := dk hc0_6
 clear hr0_6 hc0_6
 have HR0_7 := dk hr0_7
 have HC0_7 := dk hc0_7
 clear hr0_7 hc0_7
 have HR0_8 := dk hr0_8
 have HC0_8 := dk hc0_8
 clear hr0_8 hc0_8
 have HB := dk (Below.refl w.heap.size w)
 have H : ((some (([] : List (S139)) : List (S139))).bind fun y160 => (if y160.length + l0_0.length < 4398046511104 then ((some (([] : List Int) : List Int)).bind fun y166 => (if y166.length + l0_4.length < 17592186044416 then ((some (([] : List (S95)) : List (S95))).bind fun y172 => (if y172.length + l0_6.length < 3518437208883 then ((some (([] : List Int) : List Int)).bind fun y178 => (if y178.length + l0_7.length < 17592186044416 then ((some (([] : List Int) : List Int)).bind fun y184 => (if y184.length + l0_8.length < 17592186044416 then (some ((y160 ++ l0_0), a0_1, a0_2, a0_3, (y166 ++ l0_4), a0_5, (y172 ++ l0_6), (y178 ++ l0_7), (y184 ++ l0_8))) else (none))) else (none))) else (none))) else (none))) else (none))) = some (r1, r2, r3, r4, r5, r6, r7, r8, r9) := h
 clear h
 obtain ⟨y160, hy160⟩ : ∃ y_ : List (S139), y_ = (([] : List (S139))) := ⟨_, rfl⟩
 replace H : (if y160.length + l0_0.length < 4398046511104 then ((some (([] : List Int) : List Int)).bind fun y166 => (if y166.length + l0_4.length < 17592186044416 then ((some (([] : List (S95)) : List (S95))).bind fun y172 => (if y172.length + l0_6.length < 3518437208883 then ((some (([] : List Int) : List Int)).bind fun y178 => (if y178.length + l0_7.length < 17592186044416 then ((some (([] : List Int) : List Int)).bind fun y184 => (if y184.length + l0_8.length < 17592186044416 then (some ((y160 ++ l0_0), a0_1, a0_2, a0_3, (y166 ++ l0_4), a0_5, (y172 ++ l0_6), (y178 ++ l0_7), (y184 ++ l0_8))) else (none))) else (none))) else (none))) else (none))) else (none)) = some (r1, r2, r3, r4, r5, r6, r7, r8, r9) := by first | (rw [hy160]; with_reducible exact H) | (have H2_ := (Option.bind_some _ _).symm.trans H; rw [hy160]; with_reducible exact H2_) | (have H2_ := (Option.bind_some _ _).symm.trans H; with_reducible exact H2_) | with_reducible exact H | (rw [hy160]; exact H) | exact H
 have Ny160 := dk hy160
 clear hy160
 by_cases c2 : y160.length + l0_0.length < 4398046511104
 ·rw [if_pos c2] at H
  have LMc2 := dk c2
  clear c2
  obtain ⟨y163, hy163⟩ : ∃ y_ : List (S139), y_ = (y160 ++ l0_0) := ⟨_, rfl⟩
  replace H : ((some (([] : List Int) : List Int)).bind fun y166 => (if y166.length + l0_4.length < 17592186044416 then ((some (([] : List (S95)) : List (S95))).bind fun y172 => (if y172.length + l0_6.length < 3518437208883 then ((some (([] : List Int) : List Int)).bind fun y178 => (if y178.length + l0_7.length < 17592186044416 then ((some (([] : List Int) : List Int)).bind fun y184 => (if y184.length + l0_8.length < 17592186044416 then (some (y163, a0_1, a0_2, a0_3, (y166 ++ l0_4), a0_5, (y172 ++ l0_6), (y178 ++ l0_7), (y184 ++ l0_8))) else (none))) else (none))) else (none))) else (none))) = some (r1, r2, r3, r4, r5, r6, r7, r8, r9) := by first | (rw [hy163]; with_reducible exact H) | (have H2_ := (Option.bind_some _ _).symm.trans H; rw [hy163]; with_reducible exact H2_) | (have H2_ := (Option.bind_some _ _).symm.trans H; with_reducible exact H2_) | with_reducible exact H | (rw [hy163]; exact H) | exact H
  have Ny163 := dk hy163
  clear hy163
  obtain ⟨y166, hy166⟩ : ∃ y_ : List Int, y_ = (([] : List Int)) := ⟨_, rfl⟩
  replace H : (if y166.length + l0_4.length < 17592186044416 then ((some (([] : List (S95)) : List (S95))).bind fun y172 => (if y172.length + l0_6.length < 3518437208883 then ((some (([] : List Int) : List Int)).bind fun y178 => (if y178.length + l0_7.length < 17592186044416 then ((some (([] : List Int) : List Int)).bind fun y184 => (if y184.length + l0_8.length < 17592186044416 then (some (y163, a0_1, a0_2, a0_3, (y166 ++ l0_4), a0_5, (y172 ++ l0_6), (y178 ++ l0_7), (y184 ++ l0_8))) else (none))) else (none))) else (none))) else (none)) = some (r1, r2, r3, r4, r5, r6, r7, r8, r9) := by first | (rw [hy166]; with_reducible exact H) | (have H2_ := (Option.bind_some _ _).symm.trans H; rw [hy166]; with_reducible exact H2_) | (have H2_ := (Option.bind_some _ _).symm.trans H; with_reducible exact H2_) | with_reducible exact H | (rw [hy166]; exact H) | exact H
  have Ny166 := dk hy166
  clear hy166
  by_cases c3 : y166.length + l0_4.length < 17592186044416
  ·rw [if_pos c3] at H
   have LMc3 := dk c3
   clear c3
   obtain ⟨y169, hy169⟩ : ∃ y_ : List Int, y_ = (y166 ++ l0_4) := ⟨_, rfl⟩
   replace H : ((some (([] : List (S95)) : List (S95))).bind fun y172 => (if y172.length + l0_6.length < 3518437208883 then ((some (([] : List Int) : List Int)).bind fun y178 => (if y178.length + l0_7.length < 17592186044416 then ((some (([] : List Int) : List Int)).bind fun y184 => (if y184.length + l0_8.length < 17592186044416 then (some (y163, a0_1, a0_2, a0_3, y169, a0_5, (y172 ++ l0_6), (y178 ++ l0_7), (y184 ++ l0_8))) else (none))) else (none))) else (none))) = some (r1, r2, r3, r4, r5, r6, r7, r8, r9) := by first | (rw [hy169]; with_reducible exact H) | (have H2_ := (Option.bind_some _ _).symm.trans H; rw [hy169]; with_reducible exact H2_) | (have H2_ := (Option.bind_some _ _).symm.trans H; with_reducible exact H2_) | with_reducible exact H | (rw [hy169]; exact H) | exact H
   have Ny169 := dk hy169
   clear hy169
   obtain ⟨y172, hy172⟩ : ∃ y_ : List (S95), y_ = (([] : List (S95))) := ⟨_, rfl⟩
   replace H : (if y172.length + l0_6.length < 3518437208883 then ((some (([] : List Int) : List Int)).bind fun y178 => (if y178.length + l0_7.length < 17592186044416 then ((some (([] : List Int) : List Int)).bind fun y184 => (if y184.length + l0_8.length < 17592186044416 then (some (y163, a0_1, a0_2, a0_3, y169, a0_5, (y172 ++ l0_6), (y178 ++ l0_7), (y184 ++ l0_8))) else (none))) else (none))) else (none)) = some (r1, r2, r3, r4, r5, r6, r7, r8, r9) := by first | (rw [hy172]; with_reducible exact H) | (have H2_ := (Option.bind_some _ _).symm.trans H; rw [hy172]; with_reducible exact H2_) | (have H2_ := (Option.bind_some _ _).symm.trans H; with_reducible exact H2_) | with_reducible exact H | (rw [hy172]; exact H) | exact H
   have Ny172 := dk hy172
   clear hy172
   by_cases c4 : y172.length + l0_6.length < 3518437208883
   ·rw [if_pos c4] at H
    have LMc4 := dk c4
    clear c4
    obtain ⟨y175, hy175⟩ : ∃ y_ : List (S95), y_ = (y172 ++ l0_6) := ⟨_, rfl⟩
    replace H : ((some (([] : List Int) : List Int)).bind fun y178 => (if y178.length + l0_7.length < 17592186044416 then ((some (([] : List Int) : List Int)).bind fun y184 => (if y184.length + l0_8.length < 17592186044416 then (some (y163, a0_1, a0_2, a0_3, y169, a0_5, y175, (y178 ++ l0_7), (y184 ++ l0_8))) else (none))) else (none))) = some (r1, r2, r3, r4, r5, r6, r7, r8, r9) := by first | (rw [hy175]; with_reducible exact H) | (have H2_ := (Option.bind_some _ _).symm.trans H; rw [hy175]; with_reducible exact H2_) | (have H2_ := (Option.bind_some _ _).symm.trans H; with_reducible exact H2_) | with_reducible exact H | (rw [hy175]; exact H) | exact H
    have Ny175 := dk hy175
    clear hy175
    obtain ⟨y178, hy178⟩ : ∃ y_ : List Int, y_ = (([] : List Int)) := ⟨_, rfl⟩
    replace H : (if y178.length + l0_7.length < 17592186044416 then ((some (([] : List Int) : List Int)).bind fun y184 => (if y184.length + l0_8.length < 17592186044416 then (some (y163, a0_1, a0_2, a0_3, y169, a0_5, y175, (y178 ++ l0_7), (y184 ++ l0_8))) else (none))) else (none)) = some (r1, r2, r3, r4, r5, r6, r7, r8, r9) := by first | (rw [hy178]; with_reducible exact H) | (have H2_ := (Option.bind_some _ _).symm.trans H; rw [hy178]; with_reducible exact H2_) | (have H2_ := (Option.bind_some _ _).symm.trans H; with_reducible exact H2_) | with_reducible exact H | (rw [hy178]; exact H) | exact H
    have Ny178 := dk hy178
    clear hy178
    by_cases c5 : y178.length + l0_7.length < 17592186044416
    ·rw [if_pos c5] at H
     have LMc5 := dk c5
     clear c5
     obtain ⟨y181, hy181⟩ : ∃ y_ : List Int, y_ = (y178 ++ l0_7) := ⟨_, rfl⟩
     replace H : ((some (([] : List Int) : List Int)).bind fun y184 => (if y184.length + l0_8.length < 17592186044416 then (some (y163, a0_1, a0_2, a0_3, y169, a0_5, y175, y181, (y184 ++ l0_8))) else (none))) = some (r1, r2, r3, r4, r5, r6, r7, r8, r9) := by first | (rw [hy181]; with_reducible exact H) | (have H2_ := (Option.bind_some _ _).symm.trans H; rw [hy181]; with_reducible exact H2_) | (have H2_ := (Option.bind_some _ _).symm.trans H; with_reducible exact H2_) | with_reducible exact H | (rw [hy181]; exact H) | exact H
     have Ny181 := dk hy181
     clear hy181
     obtain ⟨y184, hy184⟩ : ∃ y_ : List Int, y_ = (([] : List Int)) := ⟨_, rfl⟩
     replace H : (if y184.length + l0_8.length < 17592186044416 then (some (y163, a0_1, a0_2, a0_3, y169, a0_5, y175, y181, (y184 ++ l0_8))) else (none)) = some (r1, r2, r3, r4, r5, r6, r7, r8, r9) := by first | (rw [hy184]; with_reducible exact H) | (have H2_ := (Option.bind_some _ _).symm.trans H; rw [hy184]; with_reducible exact H2_) | (have H2_ := (Option.bind_some _ _).symm.trans H; with_reducible exact H2_) | with_reducible exact H | (rw [hy184]; exact H) | exact H
     have Ny184 := dk hy184
     clear hy184
     by_cases c6 : y184.length + l0_8.length < 17592186044416
     ·rw [if_pos c6] at H
      have LMc6 := dk c6
      clear c6
      obtain ⟨y187, hy187⟩ : ∃ y_ : List Int, y_ = (y184 ++ l0_8) := ⟨_, rfl⟩
      replace H : (some (y163, a0_1, a0_2, a0_3, y169, a0_5, y175, y181, y187)) = some (r1, r2, r3, r4, r5, r6, r7, r8, r9) := by first | (rw [hy187]; with_reducible exact H) | (have H2_ := (Option.bind_some _ _).symm.trans H; rw [hy187]; with_reducible exact H2_) | (have H2_ := (Option.bind_some _ _).symm.trans H; with_reducible exact H2_) | with_reducible exact H | (rw [hy187]; exact H) | exact H
      have Ny187 := dk hy187
      clear hy187
      simp only [Option.some.injEq, Prod.mk.injEq] at H
      obtain ⟨rfl, rfl, rfl, rfl, rfl, rfl, rfl, rfl, rfl⟩ := H
      go_enter Try.func56, Try.ntmps56
      go_wp2_with (first | ((with_reducible refine gate_dst (N := 1) rfl ?_); refine bx (N := 1) (cs := #[.slice A0_0 l0_0.length c0_0, .int .i64 a0_1, .int .i64 a0_2, .int .i64 a0_3, .slice A0_4 l0_4.length c0_4, .bool a0_5, .slice A0_6 l0_6.length c0_6, .slice A0_7 l0_7.length c0_7, .slice A0_8 l0_8.length c0_8]) (t := 36) ?_; intro gb158 hg w7 hbox hb; have BK158 := dk (hbox); have GW158 := gs hg HB; have GE158 := gs hg HB; replace HB := hs_ HB hb; clear hb hbox hg) | ((with_reducible refine gate_dst (N := 2) rfl ?_); refine bx (N := 2) (cs := #[.slice none 0 0, .int .i64 0, .int .i64 0, .int .i64 0, .slice none 0 0, .bool false, .slice none 0 0, .slice none 0 0, .slice none 0 0]) (t := 36) ?_; intro gb159 hg w8 hbox hb; have BK159 := dk (hbox); have GW159 := gs hg HB; have GE159 := gs hg HB; replace HB := hs_ HB hb; have NB158_159 := gn hg BK158; have NB159_158 := gm hg BK158; replace BK158 := kb BK158 hb; clear hb hbox hg) | ((with_reducible refine gate_dst (N := 3) rfl ?_); refine Kd.R_lit k139 _ 139 ?hg (N := 3) ?hd (xs := ([] : List (S139))) (inner := []) (ok := fun _ => True) (okp := fun _ => True) ?hr ?hp (fun _ hk => hk) trivial (Below.refl _ _) (Nat.le_refl _) (by simp) ?_; (case hd => rfl); (case hg => rfl); (case hr => first | (go_simp; done) | (go_simp; rfl)); (case hp => exact (Reps.none _ _)); intro v161 w9 ho10 hb hg_ hnew_; clear hg_ hnew_; (first | rw [← Ny160.out] at ho10 | (simp only [Int.reduceToNat] at ho10; rw [← Ny160.out] at ho10)); have HO162 := kl ho10 HB; replace BK158 := kb BK158 hb; replace BK159 := kb BK159 hb; replace HB := hs_ HB hb; clear hb ho10; have hnb11 := NB158_159.out; have hnc11 := NB159_158.out; have ⟨z12_0, z12_1, z12_2, z12_3, z12_4, z12_5, z12_6, z12_7, z12_8, v12_0, v12_1, v12_2, v12_3, v12_4, v12_5, v12_6, v12_7, v12_8⟩ := rz9 BK158) | ((with_reducible refine gate_builtin (b := .append) (xs := #[.tmp 3, .tmp 5]) rfl ?_); at_builtin; refine Kd.R_append_rows k139 (w0 := w) w.heap.size rfl (.tmp 3) (.tmp 5) 32 139 (.agg #[(.string ⟨#[]⟩), (.int .i64 0), (.int .i64 0)]) 32 rfl Try.underlying32 info139 rfl (by decide) (by omega) v161 y160 l0_0 _ _ _ (fun _ => True) (fun _ => False) rfl rfl ?aO ?aR (fun _ _ h => h) (fun _ h => h.elim) ?aF ?aB ?aS ?aL ?_; (case aR => exact cc HR0_0 HB); (case aB => exact (bb HB)); (case aF => exact (fun _ _ => trivial)); (case aO => exact (rr HO162)); (case aS => exact (below_size (bb HB))); (case aL => have := LMc2.out; omega); intro v164 w13 ho hb hg hat; rw [← Ny163.out] at ho; replace BK158 := dk (blk_grown (g := gb158) (o := .cells #[.slice A0_0 l0_0.length c0_0, .int .i64 a0_1, .int .i64 a0_2, .int .i64 a0_3, .slice A0_4 l0_4.length c0_4, .bool a0_5, .slice A0_6 l0_6.length c0_6, .slice A0_7 l0_7.length c0_7, .slice A0_8 l0_8.length c0_8] 36 (0, 0)) (bk BK158) hg (Kd.R_ne HO162.out BK158.out (by decide))); replace BK159 := dk (blk_grown (g := gb159) (o := .cells #[.slice none 0 0, .int .i64 0, .int .i64 0, .int .i64 0, .slice none 0 0, .bool false, .slice none 0 0, .slice none 0 0, .slice none 0 0] 36 (0, 0)) (bk BK159) hg (Kd.R_ne HO162.out BK159.out (by decide))); replace HB := dk (hb); have HO165 := dk (ho); clear HO162 ho hb hg hat; obtain ⟨Ao14, co14, eo14⟩ := Kd.R_slice HO165.out; subst eo14; have ⟨z15_0, z15_1, z15_2, z15_3, z15_4, z15_5, z15_6, z15_7, z15_8, v15_0, v15_1, v15_2, v15_3, v15_4, v15_5, v15_6, v15_7, v15_8⟩ := rz9 BK158) | ((with_reducible refine gate_dst (N := 8) rfl ?_); refine Kd.R_lit (Kd.int .i64) _ 3 ?hg (N := 8) ?hd (xs := ([] : List Int)) (inner := []) (ok := fun _ => True) (okp := fun _ => True) ?hr ?hp (fun _ hk => hk) trivial (Below.refl _ _) (Nat.le_refl _) (by simp) ?_; (case hd => rfl); (case hg => rfl); (case hr => first | (go_simp; done) | (go_simp; rfl)); (case hp => exact (Reps.none _ _)); intro v167 w16 ho17 hb hg_ hnew_; clear hg_ hnew_; (first | rw [← Ny166.out] at ho17 | (simp only [Int.reduceToNat] at ho17; rw [← Ny166.out] at ho17)); replace HO165 := kf HO165 BK158 hb; have HO168 := kl ho17 HB; replace BK158 := dk (blk_below (g := gb158) (o := .cells #[.slice Ao14 y163.length co14, .int .i64 a0_1, .int .i64 a0_2, .int .i64 a0_3, .slice A0_4 l0_4.length c0_4, .bool a0_5, .slice A0_6 l0_6.length c0_6, .slice A0_7 l0_7.length c0_7, .slice A0_8 l0_8.length c0_8] 36 (0, 0)) (bp BK158) hb); replace BK159 := dk (blk_below (bf NB159_158.out BK159) hb); replace HB := hs_ HB hb; clear hb ho17; have ⟨z18_0, z18_1, z18_2, z18_3, z18_4, z18_5, z18_6, z18_7, z18_8, v18_0, v18_1, v18_2, v18_3, v18_4, v18_5, v18_6, v18_7, v18_8⟩ := rz9 BK158) | ((with_reducible refine gate_builtin (b := .append) (xs := #[.tmp 8, .tmp 11]) rfl ?_); at_builtin; refine Kd.R_append_rows (Kd.int .i64) (w0 := w) w.heap.size rfl (.tmp 8) (.tmp 11) 23 3 (.int .i64 0) 8 rfl Try.underlying23 info3 rfl (by decide) (by omega) v167 y166 l0_4 _ _ _ (fun _ => True) (fun _ => False) rfl rfl ?aO ?aR (fun _ _ h => h) (fun _ h => h.elim) ?aF ?aB ?aS ?aL ?_; (case aR => exact cc HR0_4 HB); (case aB => exact (bb HB)); (case aF => exact (fun _ _ => trivial)); (case aO => exact (rr HO168)); (case aS => exact (below_size (bb HB))); (case aL => have := LMc3.out; omega); intro v170 w19 ho hb hg hat; rw [← Ny169.out] at ho; replace BK158 := dk (blk_grown (g := gb158) (o := .cells #[.slice Ao14 y163.length co14, .int .i64 a0_1, .int .i64 a0_2, .int .i64 a0_3, .slice A0_4 l0_4.length c0_4, .bool a0_5, .slice A0_6 l0_6.length c0_6, .slice A0_7 l0_7.length c0_7, .slice A0_8 l0_8.length c0_8] 36 (0, 0)) (bk BK158) hg (Kd.R_ne HO168.out BK158.out (by decide))); replace BK159 := dk (blk_grown (g := gb159) (o := .cells #[.slice none 0 0, .int .i64 0, .int .i64 0, .int .i64 0, .slice none 0 0, .bool false, .slice none 0 0, .slice none 0 0, .slice none 0 0] 36 (0, 0)) (bk BK159) hg (Kd.R_ne HO168.out BK159.out (by decide))); replace HO165 := dk (Kd.R_over' (rr HO165) (Kd.R_typed (rr HO168)) (by decide) hg); replace HB := dk (hb); have HO171 := dk (ho); clear HO168 ho hb hg hat; obtain ⟨Ao20, co20, eo20⟩ := Kd.R_slice HO171.out; subst eo20; have ⟨z21_0, z21_1, z21_2, z21_3, z21_4, z21_5, z21_6, z21_7, z21_8, v21_0, v21_1, v21_2, v21_3, v21_4, v21_5, v21_6, v21_7, v21_8⟩ := rz9 BK158) | ((with_reducible refine gate_dst (N := 15) rfl ?_); refine Kd.R_lit k95 _ 95 ?hg (N := 15) ?hd (xs := ([] : List (S95))) (inner := []) (ok := fun _ => True) (okp := fun _ => True) ?hr ?hp (fun _ hk => hk) trivial (Below.refl _ _) (Nat.le_refl _) (by simp) ?_; (case hd => rfl); (case hg => rfl); (case hr => first | (go_simp; done) | (go_simp; rfl)); (case hp => exact (Reps.none _ _)); intro v173 w22 ho23 hb hg_ hnew_; clear hg_ hnew_; (first | rw [← Ny172.out] at ho23 | (simp only [Int.reduceToNat] at ho23; rw [← Ny172.out] at ho23)); replace HO165 := kf HO165 BK158 hb; replace HO171 := kf HO171 BK158 hb; have HO174 := kl ho23 HB; replace BK158 := dk (blk_below (g := gb158) (o := .cells #[.slice Ao14 y163.length co14, .int .i64 a0_1, .int .i64 a0_2, .int .i64 a0_3, .slice Ao20 y169.length co20, .bool a0_5, .slice A0_6 l0_6.length c0_6, .slice A0_7 l0_7.length c0_7, .slice A0_8 l0_8.length c0_8] 36 (0, 0)) (bp BK158) hb); replace BK159 := dk (blk_below (bf NB159_158.out BK159) hb); replace HB := hs_ HB hb; clear hb ho23; have ⟨z24_0, z24_1, z24_2, z24_3, z24_4, z24_5, z24_6, z24_7, z24_8, v24_0, v24_1, v24_2, v24_3, v24_4, v24_5, v24_6, v24_7, v24_8⟩ := rz9 BK158) | ((with_reducible refine gate_builtin (b := .append) (xs := #[.tmp 15, .tmp 17]) rfl ?_); at_builtin; refine Kd.R_append_rows k95 (w0 := w) w.heap.size rfl (.tmp 15) (.tmp 17) 34 95 (.agg #[(.int .i64 0), (.int .i64 0), (.int .i64 0), (.int .i64 0), (.int .i64 0)]) 40 rfl Try.underlying34 info95 rfl (by decide) (by omega) v173 y172 l0_6 _ _ _ (fun _ => True) (fun _ => False) rfl rfl ?aO ?aR (fun _ _ h => h) (fun _ h => h.elim) ?aF ?aB ?aS ?aL ?_; (case aR => exact cc HR0_6 HB); (case aB => exact (bb HB)); (case aF => exact (fun _ _ => trivial)); (case aO => exact (rr HO174)); (case aS => exact (below_size (bb HB))); (case aL => have := LMc4.out; omega); intro v176 w25 ho hb hg hat; rw [← Ny175.out] at ho; replace BK158 := dk (blk_grown (g := gb158) (o := .cells #[.slice Ao14 y163.length co14, .int .i64 a0_1, .int .i64 a0_2, .int .i64 a0_3, .slice Ao20 y169.length co20, .bool a0_5, .slice A0_6 l0_6.length c0_6, .slice A0_7 l0_7.length c0_7, .slice A0_8 l0_8.length c0_8] 36 (0, 0)) (bk BK158) hg (Kd.R_ne HO174.out BK158.out (by decide))); replace BK159 := dk (blk_grown (g := gb159) (o := .cells #[.slice none 0 0, .int .i64 0, .int .i64 0, .int .i64 0, .slice none 0 0, .bool false, .slice none 0 0, .slice none 0 0, .slice none 0 0] 36 (0, 0)) (bk BK159) hg (Kd.R_ne HO174.out BK159.out (by decide))); replace HO165 := dk (Kd.R_over' (rr HO165) (Kd.R_typed (rr HO174)) (by decide) hg); replace HO171 := dk (Kd.R_over' (rr HO171) (Kd.R_typed (rr HO174)) (by decide) hg); replace HB := dk (hb); have HO177 := dk (ho); clear HO174 ho hb hg hat; obtain ⟨Ao26, co26, eo26⟩ := Kd.R_slice HO177.out; subst eo26; have ⟨z27_0, z27_1, z27_2, z27_3, z27_4, z27_5, z27_6, z27_7, z27_8, v27_0, v27_1, v27_2, v27_3, v27_4, v27_5, v27_6, v27_7, v27_8⟩ := rz9 BK158) | ((with_reducible refine gate_dst (N := 20) rfl ?_); refine Kd.R_lit (Kd.int .i64) _ 3 ?hg (N := 20) ?hd (xs := ([] : List Int)) (inner := []) (ok := fun _ => True) (okp := fun _ => True) ?hr ?hp (fun _ hk => hk) trivial (Below.refl _ _) (Nat.le_refl _) (by simp) ?_; (case hd => rfl); (case hg => rfl); (case hr => first | (go_simp; done) | (go_simp; rfl)); (case hp => exact (Reps.none _ _)); intro v179 w28 ho29 hb hg_ hnew_; clear hg_ hnew_; (first | rw [← Ny178.out] at ho29 | (simp only [Int.reduceToNat] at ho29; rw [← Ny178.out] at ho29)); replace HO165 := kf HO165 BK158 hb; replace HO177 := kf HO177 BK158 hb; have HO180 := dk (Kd.R_lower (Kd.R_new' ho29 (Kd.R_lt (rf HO171 BK158 (fun _ h_ => h_.1)))) (below_size (bb HB))); replace HO171 := dk (Kd.R_elder' (rf HO171 BK158 (fun _ h_ => h_.1)) (Kd.R_base ho29) hb); replace BK158 := dk (blk_below (g := gb158) (o := .cells #[.slice Ao14 y163.length co14, .int .i64 a0_1, .int .i64 a0_2, .int .i64 a0_3, .slice Ao20 y169.length co20, .bool a0_5, .slice Ao26 y175.length co26, .slice A0_7 l0_7.length c0_7, .slice A0_8 l0_8.length c0_8] 36 (0, 0)) (bp BK158) hb); replace BK159 := dk (blk_below (bf NB159_158.out BK159) hb); replace HB := hs_ HB hb; clear hb ho29; have ⟨z30_0, z30_1, z30_2, z30_3, z30_4, z30_5, z30_6, z30_7, z30_8, v30_0, v30_1, v30_2, v30_3, v30_4, v30_5, v30_6, v30_7, v30_8⟩ := rz9 BK158) | ((with_reducible refine gate_builtin (b := .append) (xs := #[.tmp 20, .tmp 22]) rfl ?_); at_builtin; refine Kd.R_append_rows (Kd.int .i64) (w0 := w) w.heap.size rfl (.tmp 20) (.tmp 22) 23 3 (.int .i64 0) 8 rfl Try.underlying23 info3 rfl (by decide) (by omega) v179 y178 l0_7 _ _ _ (fun k_ => nb k_ Ao20 y169.length co20) (fun _ => False) rfl rfl ?aO ?aR (fun _ _ h => h) (fun _ h => h.elim) ?aF ?aB ?aS ?aL ?_; (case aR => exact cc HR0_7 HB); (case aB => exact (bb HB)); (case aF => exact (fun k_ hk => Kd.fresh' (Kd.R_lt (rr HO171)) k_ hk)); (case aO => exact (ro HO180 (fun _ hk => hk.2))); (case aS => exact (below_size (bb HB))); (case aL => have := LMc5.out; omega); intro v182 w31 ho hb hg hat; rw [← Ny181.out] at ho; replace BK158 := dk (blk_grown (g := gb158) (o := .cells #[.slice Ao14 y163.length co14, .int .i64 a0_1, .int .i64 a0_2, .int .i64 a0_3, .slice Ao20 y169.length co20, .bool a0_5, .slice Ao26 y175.length co26, .slice A0_7 l0_7.length c0_7, .slice A0_8 l0_8.length c0_8] 36 (0, 0)) (bk BK158) hg (Kd.R_ne HO180.out BK158.out (by decide))); replace BK159 := dk (blk_grown (g := gb159) (o := .cells #[.slice none 0 0, .int .i64 0, .int .i64 0, .int .i64 0, .slice none 0 0, .bool false, .slice none 0 0, .slice none 0 0, .slice none 0 0] 36 (0, 0)) (bk BK159) hg (Kd.R_ne HO180.out BK159.out (by decide))); replace HO165 := dk (Kd.R_over' (rr HO165) (Kd.R_typed (rr HO180)) (by decide) hg); replace HO171 := dk (Kd.R_after (ok := (fun _ => True)) (rr HO171) hg hat); replace HO177 := dk (Kd.R_over' (rr HO177) (Kd.R_typed (rr HO180)) (by decide) hg); replace HB := dk (hb); have HO183 := dk (ho); clear HO180 ho hb hg hat; obtain ⟨Ao32, co32, eo32⟩ := Kd.R_slice HO183.out; subst eo32; have ⟨z33_0, z33_1, z33_2, z33_3, z33_4, z33_5, z33_6, z33_7, z33_8, v33_0, v33_1, v33_2, v33_3, v33_4, v33_5, v33_6, v33_7, v33_8⟩ := rz9 BK158) | ((with_reducible refine gate_dst (N := 25) rfl ?_); refine Kd.R_lit (Kd.int .i64) _ 3 ?hg (N := 25) ?hd (xs := ([] : List Int)) (inner := []) (ok := fun _ => True) (okp := fun _ => True) ?hr ?hp (fun _ hk => hk) trivial (Below.refl _ _) (Nat.le_refl _) (by simp) ?_; (case hd => rfl); (case hg => rfl); (case hr => first | (go_simp; done) | (go_simp; rfl)); (case hp => exact (Reps.none _ _)); intro v185 w34 ho35 hb hg_ hnew_; clear hg_ hnew_; (first | rw [← Ny184.out] at ho35 | (simp only [Int.reduceToNat] at ho35; rw [← Ny184.out] at ho35)); replace HO165 := kf HO165 BK158 hb; replace HO177 := kf HO177 BK158 hb; have HO186 := dk (Kd.R_lower (Kd.R_new' (Kd.R_new' ho35 (Kd.R_lt (rf HO171 BK158 (fun _ h_ => h_.1)))) (Kd.R_lt (rf HO183 BK158 (fun _ h_ => h_.1)))) (below_size (bb HB))); replace HO171 := dk (Kd.R_elder' (rf HO171 BK158 (fun _ h_ => h_.1)) (Kd.R_base ho35) hb); replace HO183 := dk (Kd.R_elder' (rf HO183 BK158 (fun _ h_ => h_.1)) (Kd.R_base ho35) hb); replace BK158 := dk (blk_below (g := gb158) (o := .cells #[.slice Ao14 y163.length co14, .int .i64 a0_1, .int .i64 a0_2, .int .i64 a0_3, .slice Ao20 y169.length co20, .bool a0_5, .slice Ao26 y175.length co26, .slice Ao32 y181.length co32, .slice A0_8 l0_8.length c0_8] 36 (0, 0)) (bp BK158) hb); replace BK159 := dk (blk_below (bf NB159_158.out BK159) hb); replace HB := hs_ HB hb; clear hb ho35; have ⟨z36_0, z36_1, z36_2, z36_3, z36_4, z36_5, z36_6, z36_7, z36_8, v36_0, v36_1, v36_2, v36_3, v36_4, v36_5, v36_6, v36_7, v36_8⟩ := rz9 BK158) | ((with_reducible refine gate_builtin (b := .append) (xs := #[.tmp 25, .tmp 27]) rfl ?_); at_builtin; refine Kd.R_append_rows (Kd.int .i64) (w0 := w) w.heap.size rfl (.tmp 25) (.tmp 27) 23 3 (.int .i64 0) 8 rfl Try.underlying23 info3 rfl (by decide) (by omega) v185 y184 l0_8 _ _ _ (fun k_ => nb k_ Ao20 y169.length co20 ∧ nb k_ Ao32 y181.length co32) (fun _ => False) rfl rfl ?aO ?aR (fun _ _ h => h) (fun _ h => h.elim) ?aF ?aB ?aS ?aL ?_; (case aR => exact cc HR0_8 HB); (case aB => exact (bb HB)); (case aF => exact (fun k_ hk => ⟨Kd.fresh' (Kd.R_lt (rr HO171)) k_ hk, Kd.fresh' (Kd.R_lt (rr HO183)) k_ hk⟩)); (case aO => exact (ro HO186 (fun _ hk => ⟨hk.1.2, hk.2⟩))); (case aS => exact (below_size (bb HB))); (case aL => have := LMc6.out; omega); intro v188 w37 ho hb hg hat; rw [← Ny187.out] at ho; replace BK158 := dk (blk_grown (g := gb158) (o := .cells #[.slice Ao14 y163.length co14, .int .i64 a0_1, .int .i64 a0_2, .int .i64 a0_3, .slice Ao20 y169.length co20, .bool a0_5, .slice Ao26 y175.length co26, .slice Ao32 y181.length co32, .slice A0_8 l0_8.length c0_8] 36 (0, 0)) (bk BK158) hg (Kd.R_ne HO186.out BK158.out (by decide))); replace BK159 := dk (blk_grown (g := gb159) (o := .cells #[.slice none 0 0, .int .i64 0, .int .i64 0, .int .i64 0, .slice none 0 0, .bool false, .slice none 0 0, .slice none 0 0, .slice none 0 0] 36 (0, 0)) (bk BK159) hg (Kd.R_ne HO186.out BK159.out (by decide))); replace HO165 := dk (Kd.R_over' (rr HO165) (Kd.R_typed (rr HO186)) (by decide) hg); replace HO171 := dk (Kd.R_after (ok := (fun k_ => nb k_ Ao32 y181.length co32)) (ro HO171 (fun _ hk => ⟨hk.1.2, hk.2⟩)) hg hat); replace HO177 := dk (Kd.R_over' (rr HO177) (Kd.R_typed (rr HO186)) (by decide) hg); replace HO183 := dk (Kd.R_after (ok := (fun k_ => nb k_ Ao20 y169.length co20)) (rr HO183) hg hat); replace HB := dk (hb); have HO189 := dk (ho); clear HO186 ho hb hg hat; obtain ⟨Ao38, co38, eo38⟩ := Kd.R_slice HO189.out; subst eo38; have ⟨z39_0, z39_1, z39_2, z39_3, z39_4, z39_5, z39_6, z39_7, z39_8, v39_0, v39_1, v39_2, v39_3, v39_4, v39_5, v39_6, v39_7, v39_8⟩ := rz9 BK158; have ⟨z40_0, z40_1, z40_2, z40_3, z40_4, z40_5, z40_6, z40_7, z40_8, v40_0, v40_1, v40_2, v40_3, v40_4, v40_5, v40_6, v40_7, v40_8⟩ := rz9 BK159))
      refine bodyPost_ret (results_cell_row rfl _ _ gb159 36 #[.slice Ao14 y163.length co14, .int .i64 a0_1, .int .i64 a0_2, .int .i64 a0_3, .slice Ao20 y169.length co20, .bool a0_5, .slice Ao26 y175.length co26, .slice Ao32 y181.length co32, .slice Ao38 y187.length co38] (0, 0) _ rfl (by (with_reducible repeat (first | refine blk_drewN ?_ _ | refine blk_drew ?_ | refine blk_alloc ?_ _)); refine blk_put (cs := #[.slice Ao14 y163.length co14, .int .i64 a0_1, .int .i64 a0_2, .int .i64 a0_3, .slice Ao20 y169.length co20, .bool a0_5, .slice Ao26 y175.length co26, .slice Ao32 y181.length co32, .slice none 0 0]) ?_ 8 _ rfl; (with_reducible repeat (first | refine blk_drewN ?_ _ | refine blk_drew ?_ | refine blk_alloc ?_ _)); refine blk_put (cs := #[.slice Ao14 y163.length co14, .int .i64 a0_1, .int .i64 a0_2, .int .i64 a0_3, .slice Ao20 y169.length co20, .bool a0_5, .slice Ao26 y175.length co26, .slice none 0 0, .slice none 0 0]) ?_ 7 _ rfl; (with_reducible repeat (first | refine blk_drewN ?_ _ | refine blk_drew ?_ | refine blk_alloc ?_ _)); refine blk_put (cs := #[.slice Ao14 y163.length co14, .int .i64 a0_1, .int .i64 a0_2, .int .i64 a0_3, .slice Ao20 y169.length co20, .bool a0_5, .slice none 0 0, .slice none 0 0, .slice none 0 0]) ?_ 6 _ rfl; (with_reducible repeat (first | refine blk_drewN ?_ _ | refine blk_drew ?_ | refine blk_alloc ?_ _)); refine blk_put (cs := #[.slice Ao14 y163.length co14, .int .i64 a0_1, .int .i64 a0_2, .int .i64 a0_3, .slice Ao20 y169.length co20, .bool false, .slice none 0 0, .slice none 0 0, .slice none 0 0]) ?_ 5 _ rfl; (with_reducible repeat (first | refine blk_drewN ?_ _ | refine blk_drew ?_ | refine blk_alloc ?_ _)); refine blk_put (cs := #[.slice Ao14 y163.length co14, .int .i64 a0_1, .int .i64 a0_2, .int .i64 a0_3, .slice none 0 0, .bool false, .slice none 0 0, .slice none 0 0, .slice none 0 0]) ?_ 4 _ rfl; (with_reducible repeat (first | refine blk_drewN ?_ _ | refine blk_drew ?_ | refine blk_alloc ?_ _)); refine blk_put (cs := #[.slice Ao14 y163.length co14, .int .i64 a0_1, .int .i64 a0_2, .int .i64 0, .slice none 0 0, .bool false, .slice none 0 0, .slice none 0 0, .slice none 0 0]) ?_ 3 _ rfl; (with_reducible repeat (first | refine blk_drewN ?_ _ | refine blk_drew ?_ | refine blk_alloc ?_ _)); refine blk_put (cs := #[.slice Ao14 y163.length co14, .int .i64 a0_1, .int .i64 0, .int .i64 0, .slice none 0 0, .bool false, .slice none 0 0, .slice none 0 0, .slice none 0 0]) ?_ 2 _ rfl; (with_reducible repeat (first | refine blk_drewN ?_ _ | refine blk_drew ?_ | refine blk_alloc ?_ _)); refine blk_put (cs := #[.slice Ao14 y163.length co14, .int .i64 0, .int .i64 0, .int .i64 0, .slice none 0 0, .bool false, .slice none 0 0, .slice none 0 0, .slice none 0 0]) ?_ 1 _ rfl; (with_reducible repeat (first | refine blk_drewN ?_ _ | refine blk_drew ?_ | refine blk_alloc ?_ _)); refine blk_put (cs := #[.slice none 0 0, .int .i64 0, .int .i64 0, .int .i64 0, .slice none 0 0, .bool false, .slice none 0 0, .slice none 0 0, .slice none 0 0]) ?_ 0 _ rfl; exact bf NB159_158.out BK159) Try.underlying36 rfl (by kernel_rfl)) rfl ?_
      exact ⟨_, _, _, _, _, ee, by (with_reducible repeat (first | apply Kd.R_alloc | apply Kd.R_drewN | apply Kd.R_drew)); exact Kd.R_mono (Kd.R_far (p := ⟨gb159, 8, none⟩) (Kd.R_far (p := ⟨gb159, 7, none⟩) (Kd.R_far (p := ⟨gb159, 6, none⟩) (Kd.R_far (p := ⟨gb159, 5, none⟩) (Kd.R_far (p := ⟨gb159, 4, none⟩) (Kd.R_far (p := ⟨gb159, 3, none⟩) (Kd.R_far (p := ⟨gb159, 2, none⟩) (Kd.R_far (p := ⟨gb159, 1, none⟩) (Kd.R_far (p := ⟨gb159, 0, none⟩) (Kd.R_far (p := ⟨gb158, 8, none⟩) (Kd.R_types (Kd.R_types HO165.out BK158.out (by decide)) BK159.out (by decide)) (fun _ hk => hk.1.2) (.slice Ao38 y187.length co38)) (fun _ hk => hk.2) (.slice Ao14 y163.length co14)) (fun _ hk => hk.2) (.int .i64 a0_1)) (fun _ hk => hk.2) (.int .i64 a0_2)) (fun _ hk => hk.2) (.int .i64 a0_3)) (fun _ hk => hk.2) (.slice Ao20 y169.length co20)) (fun _ hk => hk.2) (.bool a0_5)) (fun _ hk => hk.2) (.slice Ao26 y175.length co26)) (fun _ hk => hk.2) (.slice Ao32 y181.length co32)) (fun _ hk => hk.2) (.slice Ao38 y187.length co38)) (fun _ hk => trivial), by (with_reducible repeat (first | apply Kd.R_alloc | apply Kd.R_drewN | apply Kd.R_drew)); exact Kd.R_mono (Kd.R_far (p := ⟨gb159, 8, none⟩) (Kd.R_far (p := ⟨gb159, 7, none⟩) (Kd.R_far (p := ⟨gb159, 6, none⟩) (Kd.R_far (p := ⟨gb159, 5, none⟩) (Kd.R_far (p := ⟨gb159, 4, none⟩) (Kd.R_far (p := ⟨gb159, 3, none⟩) (Kd.R_far (p := ⟨gb159, 2, none⟩) (Kd.R_far (p := ⟨gb159, 1, none⟩) (Kd.R_far (p := ⟨gb159, 0, none⟩) (Kd.R_far (p := ⟨gb158, 8, none⟩) (Kd.R_types (Kd.R_types HO171.out BK158.out (by decide)) BK159.out (by decide)) (fun _ hk => hk.1.2) (.slice Ao38 y187.length co38)) (fun _ hk => hk.2) (.slice Ao14 y163.length co14)) (fun _ hk => hk.2) (.int .i64 a0_1)) (fun _ hk => hk.2) (.int .i64 a0_2)) (fun _ hk => hk.2) (.int .i64 a0_3)) (fun _ hk => hk.2) (.slice Ao20 y169.length co20)) (fun _ hk => hk.2) (.bool a0_5)) (fun _ hk => hk.2) (.slice Ao26 y175.length co26)) (fun _ hk => hk.2) (.slice Ao32 y181.length co32)) (fun _ hk => hk.2) (.slice Ao38 y187.length co38)) (fun _ hk => ⟨hk.1.1.1, hk.1.1.2⟩), by (with_reducible repeat (first | apply Kd.R_alloc | apply Kd.R_drewN | apply Kd.R_drew)); exact Kd.R_mono (Kd.R_far (p := ⟨gb159, 8, none⟩) (Kd.R_far (p := ⟨gb159, 7, none⟩) (Kd.R_far (p := ⟨gb159, 6, none⟩) (Kd.R_far (p := ⟨gb159, 5, none⟩) (Kd.R_far (p := ⟨gb159, 4, none⟩) (Kd.R_far (p := ⟨gb159, 3, none⟩) (Kd.R_far (p := ⟨gb159, 2, none⟩) (Kd.R_far (p := ⟨gb159, 1, none⟩) (Kd.R_far (p := ⟨gb159, 0, none⟩) (Kd.R_far (p := ⟨gb158, 8, none⟩) (Kd.R_types (Kd.R_types HO177.out BK158.out (by decide)) BK159.out (by decide)) (fun _ hk => hk.1.2) (.slice Ao38 y187.length co38)) (fun _ hk => hk.2) (.slice Ao14 y163.length co14)) (fun _ hk => hk.2) (.int .i64 a0_1)) (fun _ hk => hk.2) (.int .i64 a0_2)) (fun _ hk => hk.2) (.int .i64 a0_3)) (fun _ hk => hk.2) (.slice Ao20 y169.length co20)) (fun _ hk => hk.2) (.bool a0_5)) (fun _ hk => hk.2) (.slice Ao26 y175.length co26)) (fun _ hk => hk.2) (.slice Ao32 y181.length co32)) (fun _ hk => hk.2) (.slice Ao38 y187.length co38)) (fun _ hk => trivial), by (with_reducible repeat (first | apply Kd.R_alloc | apply Kd.R_drewN | apply Kd.R_drew)); exact Kd.R_mono (Kd.R_far (p := ⟨gb159, 8, none⟩) (Kd.R_far (p := ⟨gb159, 7, none⟩) (Kd.R_far (p := ⟨gb159, 6, none⟩) (Kd.R_far (p := ⟨gb159, 5, none⟩) (Kd.R_far (p := ⟨gb159, 4, none⟩) (Kd.R_far (p := ⟨gb159, 3, none⟩) (Kd.R_far (p := ⟨gb159, 2, none⟩) (Kd.R_far (p := ⟨gb159, 1, none⟩) (Kd.R_far (p := ⟨gb159, 0, none⟩) (Kd.R_far (p := ⟨gb158, 8, none⟩) (Kd.R_types (Kd.R_types HO183.out BK158.out (by decide)) BK159.out (by decide)) (fun _ hk => hk.1.2) (.slice Ao38 y187.length co38)) (fun _ hk => hk.2) (.slice Ao14 y163.length co14)) (fun _ hk => hk.2) (.int .i64 a0_1)) (fun _ hk => hk.2) (.int .i64 a0_2)) (fun _ hk => hk.2) (.int .i64 a0_3)) (fun _ hk => hk.2) (.slice Ao20 y169.length co20)) (fun _ hk => hk.2) (.bool a0_5)) (fun _ hk => hk.2) (.slice Ao26 y175.length co26)) (fun _ hk => hk.2) (.slice Ao32 y181.length co32)) (fun _ hk => hk.2) (.slice Ao38 y187.length co38)) (fun _ hk => ⟨hk.1.1.1, hk.1.1.2⟩), by (with_reducible repeat (first | apply Kd.R_alloc | apply Kd.R_drewN | apply Kd.R_drew)); exact Kd.R_mono (Kd.R_far (p := ⟨gb159, 8, none⟩) (Kd.R_far (p := ⟨gb159, 7, none⟩) (Kd.R_far (p := ⟨gb159, 6, none⟩) (Kd.R_far (p := ⟨gb159, 5, none⟩) (Kd.R_far (p := ⟨gb159, 4, none⟩) (Kd.R_far (p := ⟨gb159, 3, none⟩) (Kd.R_far (p := ⟨gb159, 2, none⟩) (Kd.R_far (p := ⟨gb159, 1, none⟩) (Kd.R_far (p := ⟨gb159, 0, none⟩) (Kd.R_far (p := ⟨gb158, 8, none⟩) (Kd.R_types (Kd.R_types HO189.out BK158.out (by decide)) BK159.out (by decide)) (fun _ hk => hk.1.2) (.slice Ao38 y187.length co38)) (fun _ hk => hk.2) (.slice Ao14 y163.length co14)) (fun _ hk => hk.2) (.int .i64 a0_1)) (fun _ hk => hk.2) (.int .i64 a0_2)) (fun _ hk => hk.2) (.int .i64 a0_3)) (fun _ hk => hk.2) (.slice Ao20 y169.length co20)) (fun _ hk => hk.2) (.bool a0_5)) (fun _ hk => hk.2) (.slice Ao26 y175.length co26)) (fun _ hk => hk.2) (.slice Ao32 y181.length co32)) (fun _ hk => hk.2) (.slice Ao38 y187.length co38)) (fun _ hk => ⟨hk.1.1.1, hk.1.1.2⟩), bb HB⟩
     ·rw [if_neg c6] at H
      exact absurd H (by simp)
    ·rw [if_neg c5] at H
     exact absurd H (by simp)
   ·rw [if_neg c4] at H
    exact absurd H (by simp)
  ·rw [if_neg c3] at H
   exact absurd H (by simp)
 ·rw [if_neg c2] at H
  exact absurd H (by simp)
def spec_l21Award.f (a0_0 : Int) (a0_1 : Int) (a0_2 : Int) (a0_3 : Int) (a0_4 : Int) (a1 : Int) : Option (Int × Int × Int × Int × Int) := if a0_0 = a1 then (some (a0_0, a0_1, 0, 0, 2)) else (some (a0_0, a0_1, 0, 0, 3))
theorem spec_l21Award.calls (a0_0 : Int) (a0_1 : Int) (a0_2 : Int) (a0_3 : Int) (a0_4 : Int) (a1 : Int) (r1 : Int) (r2 : Int) (r3 : Int) (r4 : Int) (r5 : Int) (w : World) (h : spec_l21Award.f a0_0 a0_1 a0_2 a0_3 a0_4 a1 = some (r1, r2, r3, r4, r5)) :
    Calls Try.prog 58 #[.agg #[.int .i64 a0_0, .int .i64 a0_1, .int .i64 a0_2, .int .i64 a0_3, .int .i64 a0_4], .int .i64 a1] w fun e w' => e = .returned (.agg #[.int .i64 r1, .int .i64 r2, .int .i64 r3, .int .i64 r4, .int .i64 r5]) ∧ Below w.heap.size w w' := by
  unfold spec_l21Award.f at h
  by_cases hc : a0_0 = a1
  · rw [if_pos hc] at h
    have hb : (a0_0 == a1) = true := beq_iff_eq.mpr hc
    clear hc
    simp only [Option.some.injEq, Prod.mk.injEq] at h
    obtain ⟨rfl, rfl, rfl, rfl, rfl⟩ := h
    go_enter Try.func58, Try.ntmps58
    go_wp2
    exact bodyPost_ret (v := .agg #[.int .i64 _, .int .i64 _, .int .i64 _, .int .i64 _, .int .i64 _]) (by simp [results, Try.results58, go_sem]) rfl ⟨rfl, (by repeat (first | exact Below.refl _ _ | apply below_alloc | apply pw_below_drewN | apply below_drew1 | refine below_set ?_ (by simp; try omega)))⟩
  · rw [if_neg hc] at h
    have hb : (a0_0 == a1) = false := beq_eq_false_iff_ne.mpr hc
    clear hc
    simp only [Option.some.injEq, Prod.mk.injEq] at h
    obtain ⟨rfl, rfl, rfl, rfl, rfl⟩ := h
    go_enter Try.func58, Try.ntmps58
    go_wp2
    exact bodyPost_ret (v := .agg #[.int .i64 _, .int .i64 _, .int .i64 _, .int .i64 _, .int .i64 _]) (by simp [results, Try.results58, go_sem]) rfl ⟨rfl, (by repeat (first | exact Below.refl _ _ | apply below_alloc | apply pw_below_drewN | apply below_drew1 | refine below_set ?_ (by simp; try omega)))⟩
def spec_IsOpen.f (a0_0 : Int) (a0_1 : Int) (a0_2 : Int) (a0_3 : Int) (a0_4 : Int) : Option (Bool) := some (a0_4 == 0)
theorem spec_IsOpen.calls (a0_0 : Int) (a0_1 : Int) (a0_2 : Int) (a0_3 : Int) (a0_4 : Int) (r : Bool) (w : World) (h : spec_IsOpen.f a0_0 a0_1 a0_2 a0_3 a0_4 = some r) :
  Calls Try.prog 77 #[.agg #[.int .i64 a0_0, .int .i64 a0_1, .int .i64 a0_2, .int .i64 a0_3, .int .i64 a0_4]] w fun e w' => e = .returned (.bool r) ∧ Below w.heap.size w w' := by
 have hu95 := Try.underlying95
 have HB := dk (Below.refl w.heap.size w)
 have H : (some (a0_4 == 0)) = some r := h
 clear h
 obtain rfl := Option.some.inj H
 go_enter Try.func77, Try.ntmps77
 go_wp2_with (first | ((with_reducible refine gate_dst (N := 1) rfl ?_); refine bx (N := 1) (cs := #[.int .i64 a0_0, .int .i64 a0_1, .int .i64 a0_2, .int .i64 a0_3, .int .i64 a0_4]) (t := 95) ?_; intro gb852 hg w2 hbox hb; have BK852 := dk (hbox); have GW852 := gs hg HB; have GE852 := gs hg HB; replace HB := hs_ HB hb; clear hb hbox hg; have ⟨z3_0, z3_1, z3_2, z3_3, z3_4, v3_0, v3_1, v3_2, v3_3, v3_4⟩ := rz5 BK852))
 go_ret
 exact ⟨ee, bb HB⟩
end Go.Proofs.Ythfefanapneocaa.Q
section
namespace Go.Proofs.Ythfefanapneocaa.Q
open Go.RowKit Go.Proofs.YthfefanapneocaaW.PrintWords Go.Proofs.YthfefanapneocaaW.PrintLast Go.Proofs.YthfefanapneocaaW.PrintMore
attribute [local go_sem] max2_int min2_int max_two min_two max_three min_three max_four min_four
set_option linter.unusedVariables false
set_option linter.unusedSimpArgs false
set_option maxRecDepth 100000
set_option maxHeartbeats 8000000
mutual
def spec_Withdraw.j0 : Nat → Int → Int → Bool → List (S139) → Int → Int → Int → List Int → Bool → List (S95) → List Int → List Int → Option ((List (S139)) × Int × Int × Int × List Int × Bool × (List (S95)) × List Int × List Int × Bool)
 | 0, _, _, _, _, _, _, _, _, _, _, _, _ => none
 | k + 1, x1, x2, x27, x854000, x854001, x854002, x854003, x854004, x854005, x854006, x854007, x854008 => if x27 = true then (some (([] : List (S139)), 0, 0, 0, ([] : List Int), false, ([] : List (S95)), ([] : List Int), ([] : List Int), false)) else ((spec_l16Copy.f x854000 x854001 x854002 x854003 x854004 x854005 x854006 x854007 x854008).bind fun bt858 => (spec_Withdraw.l0 k x1 x2 (bt858.2.2.2.2.2.2.1.length : Int) 0 bt858.1 bt858.2.1 bt858.2.2.1 bt858.2.2.2.1 bt858.2.2.2.2.1 bt858.2.2.2.2.2.1 bt858.2.2.2.2.2.2.1 bt858.2.2.2.2.2.2.2.1 bt858.2.2.2.2.2.2.2.2))
def spec_Withdraw.l0 : Nat → Int → Int → Int → Int → List (S139) → Int → Int → Int → List Int → Bool → List (S95) → List Int → List Int → Option ((List (S139)) × Int × Int × Int × List Int × Bool × (List (S95)) × List Int × List Int × Bool)
 | 0, _, _, _, _, _, _, _, _, _, _, _, _, _ => none
 | k + 1, x1, x2, x33, x34, x878000, x878001, x878002, x878003, x878004, x878005, x878006, x878007, x878008 => if x34 < x33 then (if 0 ≤ x34 then (if x34 < (x878006.length : Int) then (if ((rd_T95 x878006 x34).f0) = x1 then (spec_Withdraw.j2 k x1 x2 x34 x33 x34 false x878000 x878001 x878002 x878003 x878004 x878005 x878006 x878007 x878008 ((rd_T95 x878006 x34).f0) ((rd_T95 x878006 x34).f1) ((rd_T95 x878006 x34).f2) ((rd_T95 x878006 x34).f3) ((rd_T95 x878006 x34).f4)) else (spec_Withdraw.j2 k x1 x2 x34 x33 x34 (((rd_T95 x878006 x34).f1) != x1) x878000 x878001 x878002 x878003 x878004 x878005 x878006 x878007 x878008 ((rd_T95 x878006 x34).f0) ((rd_T95 x878006 x34).f1) ((rd_T95 x878006 x34).f2) ((rd_T95 x878006 x34).f3) ((rd_T95 x878006 x34).f4))) else (none)) else (none)) else (some (x878000, x878001, x878002, x878003, x878004, x878005, x878006, x878007, x878008, true))
def spec_Withdraw.j2 : Nat → Int → Int → Int → Int → Int → Bool → List (S139) → Int → Int → Int → List Int → Bool → List (S95) → List Int → List Int → Int → Int → Int → Int → Int → Option ((List (S139)) × Int × Int × Int × List Int × Bool × (List (S95)) × List Int × List Int × Bool)
 | 0, _, _, _, _, _, _, _, _, _, _, _, _, _, _, _, _, _, _, _, _ => none
 | k + 1, x1, x2, x9, x33, x34, x48, x878000, x878001, x878002, x878003, x878004, x878005, x878006, x878007, x878008, x880000, x880001, x880002, x880003, x880004 => if x48 = true then (spec_Withdraw.l0 k x1 x2 x33 (wrap64 (x34 + 1)) x878000 x878001 x878002 x878003 x878004 x878005 x878006 x878007 x878008) else (if x2 = 1 then (if 0 ≤ x9 then (if x9 < (x878006.length : Int) then (spec_Withdraw.l0 k x1 x2 x33 (wrap64 (x34 + 1)) x878000 x878001 x878002 x878003 x878004 x878005 (x878006.set (x9 : Int).toNat (⟨x880000, x880001, 0, 0, 4⟩ : S95)) x878007 x878008) else (none)) else (none)) else ((spec_IsOpen.f x880000 x880001 x880002 x880003 x880004).bind fun t881 => (if t881 = true then ((spec_l21Award.f x880000 x880001 x880002 x880003 x880004 (wrap64 ((wrap64 (x880000 + x880001)) - x1))).bind fun bt882 => (if 0 ≤ x9 then (if x9 < (x878006.length : Int) then (spec_Withdraw.l0 k x1 x2 x33 (wrap64 (x34 + 1)) x878000 x878001 x878002 x878003 x878004 x878005 (x878006.set (x9 : Int).toNat (⟨bt882.1, bt882.2.1, bt882.2.2.1, bt882.2.2.2.1, bt882.2.2.2.2⟩ : S95)) x878007 x878008) else (none)) else (none))) else (spec_Withdraw.l0 k x1 x2 x33 (wrap64 (x34 + 1)) x878000 x878001 x878002 x878003 x878004 x878005 x878006 x878007 x878008))))
end
def spec_Withdraw.f (k : Nat) (l0_0 : List (S139)) (a0_1 : Int) (a0_2 : Int) (a0_3 : Int) (l0_4 : List Int) (a0_5 : Bool) (l0_6 : List (S95)) (l0_7 : List Int) (l0_8 : List Int) (a1 : Int) (a2 : Int) : Option ((List (S139)) × Int × Int × Int × List Int × Bool × (List (S95)) × List Int × List Int × Bool) := (spec_BookOk.f k l0_0 a0_1 a0_2 a0_3 l0_4 a0_5 l0_6 l0_7 l0_8).bind fun t855 => (if t855 = true then ((spec_l01In.f a1 0 (wrap64 ((l0_0.length : Int) - 1))).bind fun t856 => (if t856 = true then ((spec_l01In.f a2 1 2).bind fun t857 => (spec_Withdraw.j0 k a1 a2 (!t857) l0_0 a0_1 a0_2 a0_3 l0_4 a0_5 l0_6 l0_7 l0_8)) else (spec_Withdraw.j0 k a1 a2 true l0_0 a0_1 a0_2 a0_3 l0_4 a0_5 l0_6 l0_7 l0_8))) else (spec_Withdraw.j0 k a1 a2 true l0_0 a0_1 a0_2 a0_3 l0_4 a0_5 l0_6 l0_7 l0_8))
def spec_Withdraw.T11 : Bool × List (List Nat × List Nat) := (true, [([], []), ([0], [0]), ([], []), ([], []), ([], []), ([4], [4]), ([], []), ([6], [6]), ([5, 7], [5, 7]), ([], []), ([8, 9], [8, 9]), ([3, 10], [3, 10]), ([1, 2, 0, 1, 2, 3, 4, 5, 6, 7, 8, 9, 10, 11], [1, 2]), ([12, 11, 11, 0, 1, 2, 3, 4, 5, 6, 7, 8, 9, 10, 11], [11, 12])])
def spec_Withdraw.B11 : List Nat := [0, 1, 0, 0, 0, 16, 0, 64, 240, 0, 1008, 2040, 4095, 8191]
theorem spec_Withdraw.tab11 : rtab .any (opsOf Try.f24 11) = spec_Withdraw.T11 := by kernel_rfl
theorem spec_Withdraw.bits11 : waitsOk spec_Withdraw.T11.2 spec_Withdraw.B11 = true := by kernel_rfl
theorem spec_Withdraw.calls (k : Nat) (A0_0 : Option Addr) (c0_0 : Nat) (l0_0 : List (S139)) (a0_1 : Int) (a0_2 : Int) (a0_3 : Int) (A0_4 : Option Addr) (c0_4 : Nat) (l0_4 : List Int) (a0_5 : Bool) (A0_6 : Option Addr) (c0_6 : Nat) (l0_6 : List (S95)) (A0_7 : Option Addr) (c0_7 : Nat) (l0_7 : List Int) (A0_8 : Option Addr) (c0_8 : Nat) (l0_8 : List Int) (a1 : Int) (a2 : Int) (r1 : List (S139)) (r2 : Int) (r3 : Int) (r4 : Int) (r5 : List Int) (r6 : Bool) (r7 : List (S95)) (r8 : List Int) (r9 : List Int) (r10 : Bool) (w : World) (hr0_0 : Kd.C k139 w A0_0 l0_0.length l0_0) (hc0_0 : l0_0.length ≤ c0_0) (hr0_4 : Kd.C (Kd.int .i64) w A0_4 l0_4.length l0_4) (hc0_4 : l0_4.length ≤ c0_4) (hr0_6 : Kd.C k95 w A0_6 l0_6.length l0_6) (hc0_6 : l0_6.length ≤ c0_6) (hr0_7 : Kd.C (Kd.int .i64) w A0_7 l0_7.length l0_7) (hc0_7 : l0_7.length ≤ c0_7) (hr0_8 : Kd.C (Kd.int .i64) w A0_8 l0_8.length l0_8) (hc0_8 : l0_8.length ≤ c0_8) (h : spec_Withdraw.f k l0_0 a0_1 a0_2 a0_3 l0_4 a0_5 l0_6 l0_7 l0_8 a1 a2 = some (r1, r2, r3, r4, r5, r6, r7, r8, r9, r10)) :
  Calls Try.prog 24 #[.agg #[.slice A0_0 l0_0.length c0_0, .int .i64 a0_1, .int .i64 a0_2, .int .i64 a0_3, .slice A0_4 l0_4.length c0_4, .bool a0_5, .slice A0_6 l0_6.length c0_6, .slice A0_7 l0_7.length c0_7, .slice A0_8 l0_8.length c0_8], .int .i64 a1, .int .i64 a2] w fun e w' => ∃ v0_ v4_ v6_ v7_ v8_ : Value, e = .returned (.tuple #[.agg #[v0_, .int .i64 r2, .int .i64 r3, .int .i64 r4, v4_, .bool r6, v6_, v7_, v8_], .bool r10]) ∧ Kd.R k139 139 w' w.heap.size (fun _ => True) v0_ r1 ∧ Kd.R (Kd.int .i64) 3 w' w.heap.size (fun k_ => some k_ ≠ (v7_ : Value).ownBlock ∧ some k_ ≠ (v8_ : Value).ownBlock) v4_ r5 ∧ Kd.R k95 95 w' w.heap.size (fun _ => True) v6_ r7 ∧ Kd.R (Kd.int .i64) 3 w' w.heap.size (fun k_ => some k_ ≠ (v4_ : Value).ownBlock ∧ some k_ ≠ (v8_ : Value).ownBlock) v7_ r8 ∧ Kd.R (Kd.int .i64) 3 w' w.heap.size (fun k_ => some k_ ≠ (v4_ : Value).ownBlock ∧ some k_ ≠ (v7_ : Value).ownBlock) v8_ r9 ∧ Below w.heap.size w w' := by
 have hu36 := Try.underlying36
 have hu95 := Try.underlying95
 have HR0_0 := dk hr0_0
 have HC0_0 := dk hc0_0
 clear hr0_0 hc0_0
 have HR0_4 := dk hr0_4
 have HC0_4 := dk hc0_4
 clear hr0_4 hc0_4
 have HR0_6 := dk hr0_6
 have HC0_6 := dk hc0_6
 clear hr0_6 hc0_6
 have HR0_7 := dk hr0_7
 have HC0_7 := dk hc0_7
 clear hr0_7 hc0_7
 have HR0_8 := dk hr0_8
 have HC0_8 := dk hc0_8
 clear hr0_8 hc0_8
 have HB := dk (Below.refl w.heap.size w)
 have H : ((spec_BookOk.f k l0_0 a0_1 a0_2 a0_3 l0_4 a0_5 l0_6 l0_7 l0_8).bind fun t855 => (if t855 = true then ((spec_l01In.f a1 0 (wrap64 ((l0_0.length : Int) - 1))).bind fun t856 => (if t856 = true then ((spec_l01In.f a2 1 2).bind fun t857 => (spec_Withdraw.j0 k a1 a2 (!t857) l0_0 a0_1 a0_2 a0_3 l0_4 a0_5 l0_6 l0_7 l0_8)) else (spec_Withdraw.j0 k a1 a2 true l0_0 a0_1 a0_2 a0_3 l0_4 a0_5 l0_6 l0_7 l0_8))) else (spec_Withdraw.j0 k a1 a2 true l0_0 a0_1 a0_2 a0_3 l0_4 a0_5 l0_6 l0_7 l0_8))) = some (r1, r2, r3, r4, r5, r6, r7, r8, r9, r10) := h
 clear h
 have HC4 := dk H
 clear H
 go_enter Try.func24, Try.ntmps24
 go_upto_region 1 with (first | ((with_reducible refine gate_dst (N := 3) rfl ?_); (try (refine gate_guard (by rfl) ?_; dsimp only)); refine bx (N := 3) (cs := #[.slice A0_0 l0_0.length c0_0, .int .i64 a0_1, .int .i64 a0_2, .int .i64 a0_3, .slice A0_4 l0_4.length c0_4, .bool a0_5, .slice A0_6 l0_6.length c0_6, .slice A0_7 l0_7.length c0_7, .slice A0_8 l0_8.length c0_8]) (t := 36) ?_; intro gb853 hg w5 hbox hb; have BK853 := dk (hbox); have GW853 := gs hg HB; have GE853 := gs hg HB; replace HB := hs_ HB hb; clear hb hbox hg) | ((with_reducible refine gate_dst (N := 6) rfl ?_); (try (refine gate_guard (by rfl) ?_; dsimp only)); refine bx (N := 6) (cs := #[.slice none 0 0, .int .i64 0, .int .i64 0, .int .i64 0, .slice none 0 0, .bool false, .slice none 0 0, .slice none 0 0, .slice none 0 0]) (t := 36) ?_; intro gb854 hg w6 hbox hb; have BK854 := dk (hbox); have GW854 := gs hg HB; have GE854 := gs hg HB; replace HB := hs_ HB hb; have NB853_854 := gn hg BK853; have NB854_853 := gm hg BK853; replace BK853 := kb BK853 hb; clear hb hbox hg))
 (try simp only [Act.put, List.setIfInBounds_toArray, List.set_cons_zero, List.set_cons_succ])
 go_cut [27] (fun v27 wc => ∃ (kq : Nat) (x27_3 : Bool), v27 = .bool x27_3 ∧ Aside0 (spec_Withdraw.j0 kq a1 a2 x27_3 l0_0 a0_1 a0_2 a0_3 l0_4 a0_5 l0_6 l0_7 l0_8 = some (r1, r2, r3, r4, r5, r6, r7, r8, r9, r10)) ∧ Aside0 (kq ≤ k) ∧ Aside0 (wc.heap[gb853]? = some (.cells #[(.slice A0_0 l0_0.length c0_0), .int .i64 a0_1, .int .i64 a0_2, .int .i64 a0_3, (.slice A0_4 l0_4.length c0_4), .bool a0_5, (.slice A0_6 l0_6.length c0_6), (.slice A0_7 l0_7.length c0_7), (.slice A0_8 l0_8.length c0_8)] 36 (0, 0))) ∧ Aside0 (wc.heap[gb854]? = some (.cells #[(.slice none 0 0), .int .i64 0, .int .i64 0, .int .i64 0, (.slice none 0 0), .bool false, (.slice none 0 0), (.slice none 0 0), (.slice none 0 0)] 36 (0, 0))) ∧ Aside0 (Below w.heap.size w wc))
 case first =>
  have H := HC4.out
  clear HC4
  replace H := Option.bind_eq_some_iff.mp H
  obtain ⟨t855, A70, H⟩ := H
  replace H : (if t855 = true then ((spec_l01In.f a1 0 (wrap64 ((l0_0.length : Int) - 1))).bind fun t856 => (if t856 = true then ((spec_l01In.f a2 1 2).bind fun t857 => (spec_Withdraw.j0 k a1 a2 (!t857) l0_0 a0_1 a0_2 a0_3 l0_4 a0_5 l0_6 l0_7 l0_8)) else (spec_Withdraw.j0 k a1 a2 true l0_0 a0_1 a0_2 a0_3 l0_4 a0_5 l0_6 l0_7 l0_8))) else (spec_Withdraw.j0 k a1 a2 true l0_0 a0_1 a0_2 a0_3 l0_4 a0_5 l0_6 l0_7 l0_8)) = some (r1, r2, r3, r4, r5, r6, r7, r8, r9, r10) := H
  have A7 := dk A70
  clear A70
  by_cases c8 : t855 = true
  ·subst c8
   have H1 : ((spec_l01In.f a1 0 (wrap64 ((l0_0.length : Int) - 1))).bind fun t856 => (if t856 = true then ((spec_l01In.f a2 1 2).bind fun t857 => (spec_Withdraw.j0 k a1 a2 (!t857) l0_0 a0_1 a0_2 a0_3 l0_4 a0_5 l0_6 l0_7 l0_8)) else (spec_Withdraw.j0 k a1 a2 true l0_0 a0_1 a0_2 a0_3 l0_4 a0_5 l0_6 l0_7 l0_8))) = some (r1, r2, r3, r4, r5, r6, r7, r8, r9, r10) := by rw [if_pos rfl] at H; exact H
   clear H
   have H := H1
   clear H1
   replace H := Option.bind_eq_some_iff.mp H
   obtain ⟨t856, A90, H⟩ := H
   replace H : (if t856 = true then ((spec_l01In.f a2 1 2).bind fun t857 => (spec_Withdraw.j0 k a1 a2 (!t857) l0_0 a0_1 a0_2 a0_3 l0_4 a0_5 l0_6 l0_7 l0_8)) else (spec_Withdraw.j0 k a1 a2 true l0_0 a0_1 a0_2 a0_3 l0_4 a0_5 l0_6 l0_7 l0_8)) = some (r1, r2, r3, r4, r5, r6, r7, r8, r9, r10) := H
   have A9 := dk A90
   clear A90
   by_cases c10 : t856 = true
   ·subst c10
    have H1 : ((spec_l01In.f a2 1 2).bind fun t857 => (spec_Withdraw.j0 k a1 a2 (!t857) l0_0 a0_1 a0_2 a0_3 l0_4 a0_5 l0_6 l0_7 l0_8)) = some (r1, r2, r3, r4, r5, r6, r7, r8, r9, r10) := by rw [if_pos rfl] at H; exact H
    clear H
    have H := H1
    clear H1
    replace H := Option.bind_eq_some_iff.mp H
    obtain ⟨t857, A110, H⟩ := H
    replace H : (spec_Withdraw.j0 k a1 a2 (!t857) l0_0 a0_1 a0_2 a0_3 l0_4 a0_5 l0_6 l0_7 l0_8) = some (r1, r2, r3, r4, r5, r6, r7, r8, r9, r10) := H
    have A11 := dk A110
    clear A110
    have H' := dk H
    clear H
    have hnb12 := NB853_854.out
    have hnc12 := NB854_853.out
    have ⟨z13_0, z13_1, z13_2, z13_3, z13_4, z13_5, z13_6, z13_7, z13_8, v13_0, v13_1, v13_2, v13_3, v13_4, v13_5, v13_6, v13_7, v13_8⟩ := rz9 BK853
    go_wp2_with (first | ((with_reducible refine gate_callee (f := 55) rfl ?_); refine gl (some 12) Try.func55 #[.agg #[.slice A0_0 l0_0.length c0_0, .int .i64 a0_1, .int .i64 a0_2, .int .i64 a0_3, .slice A0_4 l0_4.length c0_4, .bool a0_5, .slice A0_6 l0_6.length c0_6, .slice A0_7 l0_7.length c0_7, .slice A0_8 l0_8.length c0_8]] ?_; (with_reducible refine (spec_BookOk.calls k _ _ l0_0 a0_1 a0_2 a0_3 _ _ l0_4 a0_5 _ _ l0_6 _ _ l0_7 _ _ l0_8 true _ ?side1 ?side2 ?side3 ?side4 ?side5 ?side6 ?side7 ?side8 ?side9 ?side10 A7.out).mono ?_); (case side1 => exact cc HR0_0 HB); (case side2 => exact HC0_0.out); (case side3 => exact cc HR0_4 HB); (case side4 => exact HC0_4.out); (case side5 => exact cc HR0_6 HB); (case side6 => exact HC0_6.out); (case side7 => exact cc HR0_7 HB); (case side8 => exact HC0_7.out); (case side9 => exact cc HR0_8 HB); (case side10 => exact HC0_8.out); rintro e w14 ⟨rfl, hb⟩; refine ⟨_, rfl, ?_⟩; replace BK853 := kb BK853 hb; replace BK854 := kb BK854 hb; replace HB := hs_ HB hb; (try clear hb hb2 hk hi); have ⟨z15_0, z15_1, z15_2, z15_3, z15_4, z15_5, z15_6, z15_7, z15_8, v15_0, v15_1, v15_2, v15_3, v15_4, v15_5, v15_6, v15_7, v15_8⟩ := rz9 BK853) | (go_at_call 76; (with_reducible refine (spec_l01In.calls a1 0 (wrap64 ((l0_0.length : Int) - 1)) true _ A9.out).mono ?_); rintro e w' ⟨rfl, ⟨nd, rfl⟩⟩) | (go_at_call 76; (with_reducible refine (spec_l01In.calls a2 1 2 t857 _ A11.out).mono ?_); rintro e w' ⟨rfl, ⟨nd, rfl⟩⟩))
    go_meet
    case rel => exact ⟨_, (!t857), e2_, H', ⟨by first | omega | exact Nat.le_refl _⟩, ⟨bk BK853⟩, ⟨bk BK854⟩, ⟨bb HB⟩⟩
   ·replace c10 := Bool.eq_false_iff.mpr c10
    subst c10
    have H1 : (spec_Withdraw.j0 k a1 a2 true l0_0 a0_1 a0_2 a0_3 l0_4 a0_5 l0_6 l0_7 l0_8) = some (r1, r2, r3, r4, r5, r6, r7, r8, r9, r10) := by rw [if_neg (show ¬ (false = true) by decide)] at H; exact H
    clear H
    have H := H1
    clear H1
    have H' := dk H
    clear H
    have hnb16 := NB853_854.out
    have hnc16 := NB854_853.out
    have ⟨z17_0, z17_1, z17_2, z17_3, z17_4, z17_5, z17_6, z17_7, z17_8, v17_0, v17_1, v17_2, v17_3, v17_4, v17_5, v17_6, v17_7, v17_8⟩ := rz9 BK853
    go_wp2_with (first | ((with_reducible refine gate_callee (f := 55) rfl ?_); refine gl (some 12) Try.func55 #[.agg #[.slice A0_0 l0_0.length c0_0, .int .i64 a0_1, .int .i64 a0_2, .int .i64 a0_3, .slice A0_4 l0_4.length c0_4, .bool a0_5, .slice A0_6 l0_6.length c0_6, .slice A0_7 l0_7.length c0_7, .slice A0_8 l0_8.length c0_8]] ?_; (with_reducible refine (spec_BookOk.calls k _ _ l0_0 a0_1 a0_2 a0_3 _ _ l0_4 a0_5 _ _ l0_6 _ _ l0_7 _ _ l0_8 true _ ?side1 ?side2 ?side3 ?side4 ?side5 ?side6 ?side7 ?side8 ?side9 ?side10 A7.out).mono ?_); (case side1 => exact cc HR0_0 HB); (case side2 => exact HC0_0.out); (case side3 => exact cc HR0_4 HB); (case side4 => exact HC0_4.out); (case side5 => exact cc HR0_6 HB); (case side6 => exact HC0_6.out); (case side7 => exact cc HR0_7 HB); (case side8 => exact HC0_7.out); (case side9 => exact cc HR0_8 HB); (case side10 => exact HC0_8.out); rintro e w18 ⟨rfl, hb⟩; refine ⟨_, rfl, ?_⟩; replace BK853 := kb BK853 hb; replace BK854 := kb BK854 hb; replace HB := hs_ HB hb; (try clear hb hb2 hk hi); have ⟨z19_0, z19_1, z19_2, z19_3, z19_4, z19_5, z19_6, z19_7, z19_8, v19_0, v19_1, v19_2, v19_3, v19_4, v19_5, v19_6, v19_7, v19_8⟩ := rz9 BK853) | (go_at_call 76; (with_reducible refine (spec_l01In.calls a1 0 (wrap64 ((l0_0.length : Int) - 1)) false _ A9.out).mono ?_); rintro e w' ⟨rfl, ⟨nd, rfl⟩⟩))
    go_meet
    case rel => exact ⟨_, (true), e2_, H', ⟨by first | omega | exact Nat.le_refl _⟩, ⟨bk BK853⟩, ⟨bk BK854⟩, ⟨bb HB⟩⟩
  ·replace c8 := Bool.eq_false_iff.mpr c8
   subst c8
   have H1 : (spec_Withdraw.j0 k a1 a2 true l0_0 a0_1 a0_2 a0_3 l0_4 a0_5 l0_6 l0_7 l0_8) = some (r1, r2, r3, r4, r5, r6, r7, r8, r9, r10) := by rw [if_neg (show ¬ (false = true) by decide)] at H; exact H
   clear H
   have H := H1
   clear H1
   have H' := dk H
   clear H
   have hnb20 := NB853_854.out
   have hnc20 := NB854_853.out
   have ⟨z21_0, z21_1, z21_2, z21_3, z21_4, z21_5, z21_6, z21_7, z21_8, v21_0, v21_1, v21_2, v21_3, v21_4, v21_5, v21_6, v21_7, v21_8⟩ := rz9 BK853
   go_wp2_with (first | ((with_reducible refine gate_callee (f := 55) rfl ?_); refine gl (some 12) Try.func55 #[.agg #[.slice A0_0 l0_0.length c0_0, .int .i64 a0_1, .int .i64 a0_2, .int .i64 a0_3, .slice A0_4 l0_4.length c0_4, .bool a0_5, .slice A0_6 l0_6.length c0_6, .slice A0_7 l0_7.length c0_7, .slice A0_8 l0_8.length c0_8]] ?_; (with_reducible refine (spec_BookOk.calls k _ _ l0_0 a0_1 a0_2 a0_3 _ _ l0_4 a0_5 _ _ l0_6 _ _ l0_7 _ _ l0_8 false _ ?side1 ?side2 ?side3 ?side4 ?side5 ?side6 ?side7 ?side8 ?side9 ?side10 A7.out).mono ?_); (case side1 => exact cc HR0_0 HB); (case side2 => exact HC0_0.out); (case side3 => exact cc HR0_4 HB); (case side4 => exact HC0_4.out); (case side5 => exact cc HR0_6 HB); (case side6 => exact HC0_6.out); (case side7 => exact cc HR0_7 HB); (case side8 => exact HC0_7.out); (case side9 => exact cc HR0_8 HB); (case side10 => exact HC0_8.out); rintro e w22 ⟨rfl, hb⟩; refine ⟨_, rfl, ?_⟩; replace BK853 := kb BK853 hb; replace BK854 := kb BK854 hb; replace HB := hs_ HB hb; (try clear hb hb2 hk hi)))
   go_meet
   case rel => exact ⟨_, (true), e2_, H', ⟨by first | omega | exact Nat.le_refl _⟩, ⟨bk BK853⟩, ⟨bk BK854⟩, ⟨bb HB⟩⟩
 case rest =>
  clear HC4
  (try clear c1)
  (try clear c2)
  (try clear p2)
  (try clear c5)
  (try clear p6)
  (try clear c8)
  (try clear c10)
  (try clear c12)
  (try clear c16)
  (try clear c20)
  (try clear z13_0 z13_1 z13_2 z13_3 z13_4 z13_5 z13_6 z13_7 z13_8)
  (try clear z15_0 z15_1 z15_2 z15_3 z15_4 z15_5 z15_6 z15_7 z15_8)
  (try clear z17_0 z17_1 z17_2 z17_3 z17_4 z17_5 z17_6 z17_7 z17_8)
  (try clear z19_0 z19_1 z19_2 z19_3 z19_4 z19_5 z19_6 z19_7 z19_8)
  (try clear z21_0 z21_1 z21_2 z21_3 z21_4 z21_5 z21_6 z21_7 z21_8)
  (try clear v13_0 v13_1 v13_2 v13_3 v13_4 v13_5 v13_6 v13_7 v13_8)
  (try clear v15_0 v15_1 v15_2 v15_3 v15_4 v15_5 v15_6 v15_7 v15_8)
  (try clear v17_0 v17_1 v17_2 v17_3 v17_4 v17_5 v17_6 v17_7 v17_8)
  (try clear v19_0 v19_1 v19_2 v19_3 v19_4 v19_5 v19_6 v19_7 v19_8)
  (try clear v21_0 v21_1 v21_2 v21_3 v21_4 v21_5 v21_6 v21_7 v21_8)
  obtain ⟨kq, x27_3, rfl, HA, HJ3, BK853, BK854, HB⟩ := hcut
  cases kq with
  | zero => exact absurd HA.out (by simp [spec_Withdraw.j0])
  | succ kj3 =>
   have H := HA.out
   clear HA
   simp only [spec_Withdraw.j0] at H
   by_cases c23 : x27_3 = true
   ·subst c23
    have H1 : (some (([] : List (S139)), 0, 0, 0, ([] : List Int), false, ([] : List (S95)), ([] : List Int), ([] : List Int), false)) = some (r1, r2, r3, r4, r5, r6, r7, r8, r9, r10) := by rw [if_pos rfl] at H; exact H
    clear H
    have H := H1
    clear H1
    simp only [Option.some.injEq, Prod.mk.injEq] at H
    obtain ⟨rfl, rfl, rfl, rfl, rfl, rfl, rfl, rfl, rfl, rfl⟩ := H
    have hnb24 := NB854_853.out
    have hnc24 := NB853_854.out
    have ⟨z25_0, z25_1, z25_2, z25_3, z25_4, z25_5, z25_6, z25_7, z25_8, v25_0, v25_1, v25_2, v25_3, v25_4, v25_5, v25_6, v25_7, v25_8⟩ := rz9 BK854
    go_wp2
    refine bodyPost_ret (results_ct rfl _ _ gb854 36 #[.slice none 0 0, .int .i64 0, .int .i64 0, .int .i64 0, .slice none 0 0, .bool false, .slice none 0 0, .slice none 0 0, .slice none 0 0] (0, 0) _ rfl (by (with_reducible repeat (first | refine blk_drewN ?_ _ | refine blk_drew ?_ | refine blk_alloc ?_ _)); refine blk_put (cs := #[.slice none 0 0, .int .i64 0, .int .i64 0, .int .i64 0, .slice none 0 0, .bool false, .slice none 0 0, .slice none 0 0, .slice none 0 0]) ?_ 8 _ rfl; (with_reducible repeat (first | refine blk_drewN ?_ _ | refine blk_drew ?_ | refine blk_alloc ?_ _)); refine blk_put (cs := #[.slice none 0 0, .int .i64 0, .int .i64 0, .int .i64 0, .slice none 0 0, .bool false, .slice none 0 0, .slice none 0 0, .slice none 0 0]) ?_ 7 _ rfl; (with_reducible repeat (first | refine blk_drewN ?_ _ | refine blk_drew ?_ | refine blk_alloc ?_ _)); refine blk_put (cs := #[.slice none 0 0, .int .i64 0, .int .i64 0, .int .i64 0, .slice none 0 0, .bool false, .slice none 0 0, .slice none 0 0, .slice none 0 0]) ?_ 6 _ rfl; (with_reducible repeat (first | refine blk_drewN ?_ _ | refine blk_drew ?_ | refine blk_alloc ?_ _)); refine blk_put (cs := #[.slice none 0 0, .int .i64 0, .int .i64 0, .int .i64 0, .slice none 0 0, .bool false, .slice none 0 0, .slice none 0 0, .slice none 0 0]) ?_ 5 _ rfl; (with_reducible repeat (first | refine blk_drewN ?_ _ | refine blk_drew ?_ | refine blk_alloc ?_ _)); refine blk_put (cs := #[.slice none 0 0, .int .i64 0, .int .i64 0, .int .i64 0, .slice none 0 0, .bool false, .slice none 0 0, .slice none 0 0, .slice none 0 0]) ?_ 4 _ rfl; (with_reducible repeat (first | refine blk_drewN ?_ _ | refine blk_drew ?_ | refine blk_alloc ?_ _)); refine blk_put (cs := #[.slice none 0 0, .int .i64 0, .int .i64 0, .int .i64 0, .slice none 0 0, .bool false, .slice none 0 0, .slice none 0 0, .slice none 0 0]) ?_ 3 _ rfl; (with_reducible repeat (first | refine blk_drewN ?_ _ | refine blk_drew ?_ | refine blk_alloc ?_ _)); refine blk_put (cs := #[.slice none 0 0, .int .i64 0, .int .i64 0, .int .i64 0, .slice none 0 0, .bool false, .slice none 0 0, .slice none 0 0, .slice none 0 0]) ?_ 2 _ rfl; (with_reducible repeat (first | refine blk_drewN ?_ _ | refine blk_drew ?_ | refine blk_alloc ?_ _)); refine blk_put (cs := #[.slice none 0 0, .int .i64 0, .int .i64 0, .int .i64 0, .slice none 0 0, .bool false, .slice none 0 0, .slice none 0 0, .slice none 0 0]) ?_ 1 _ rfl; (with_reducible repeat (first | refine blk_drewN ?_ _ | refine blk_drew ?_ | refine blk_alloc ?_ _)); refine blk_put (cs := #[.slice none 0 0, .int .i64 0, .int .i64 0, .int .i64 0, .slice none 0 0, .bool false, .slice none 0 0, .slice none 0 0, .slice none 0 0]) ?_ 0 _ rfl; (with_reducible repeat (first | refine blk_drewN ?_ _ | refine blk_drew ?_ | refine blk_alloc ?_ _)); exact BK854.out) Try.underlying36 rfl (by kernel_rfl)) rfl ?_
    exact ⟨_, _, _, _, _, ee, by first | exact Kd.R_nil _ _ _ _ _ | exact Kd.N_nil _ _ _ _ _ | exact Kd.V_nil _ _ _ _ _ | exact Kd.Q_nil _ _ _ _ _ | exact Kd.S_nil _ _ _ _ _, by first | exact Kd.R_nil _ _ _ _ _ | exact Kd.N_nil _ _ _ _ _ | exact Kd.V_nil _ _ _ _ _ | exact Kd.Q_nil _ _ _ _ _ | exact Kd.S_nil _ _ _ _ _, by first | exact Kd.R_nil _ _ _ _ _ | exact Kd.N_nil _ _ _ _ _ | exact Kd.V_nil _ _ _ _ _ | exact Kd.Q_nil _ _ _ _ _ | exact Kd.S_nil _ _ _ _ _, by first | exact Kd.R_nil _ _ _ _ _ | exact Kd.N_nil _ _ _ _ _ | exact Kd.V_nil _ _ _ _ _ | exact Kd.Q_nil _ _ _ _ _ | exact Kd.S_nil _ _ _ _ _, by first | exact Kd.R_nil _ _ _ _ _ | exact Kd.N_nil _ _ _ _ _ | exact Kd.V_nil _ _ _ _ _ | exact Kd.Q_nil _ _ _ _ _ | exact Kd.S_nil _ _ _ _ _, bb HB⟩
   ·replace c23 := Bool.eq_false_iff.mpr c23
    subst c23
    have H1 : ((spec_l16Copy.f l0_0 a0_1 a0_2 a0_3 l0_4 a0_5 l0_6 l0_7 l0_8).bind fun bt858 => (spec_Withdraw.l0 kj3 a1 a2 (bt858.2.2.2.2.2.2.1.length : Int) 0 bt858.1 bt858.2.1 bt858.2.2.1 bt858.2.2.2.1 bt858.2.2.2.2.1 bt858.2.2.2.2.2.1 bt858.2.2.2.2.2.2.1 bt858.2.2.2.2.2.2.2.1 bt858.2.2.2.2.2.2.2.2)) = some (r1, r2, r3, r4, r5, r6, r7, r8, r9, r10) := by rw [if_neg (show ¬ (false = true) by decide)] at H; exact H
    clear H
    have H := H1
    clear H1
    replace H := Option.bind_eq_some_iff.mp H
    obtain ⟨⟨t858, t861, t862, t863, t864, t867, t868, t871, t874⟩, A260, H⟩ := H
    replace H : (spec_Withdraw.l0 kj3 a1 a2 (t868.length : Int) 0 t858 t861 t862 t863 t864 t867 t868 t871 t874) = some (r1, r2, r3, r4, r5, r6, r7, r8, r9, r10) := H
    have A26 := dk A260
    clear A260
    have H' := dk H
    clear H
    have hnb27 := NB853_854.out
    have hnc27 := NB854_853.out
    have ⟨z28_0, z28_1, z28_2, z28_3, z28_4, z28_5, z28_6, z28_7, z28_8, v28_0, v28_1, v28_2, v28_3, v28_4, v28_5, v28_6, v28_7, v28_8⟩ := rz9 BK853
    go_wp2_with (first | ((with_reducible refine gate_callee (f := 56) rfl ?_); refine gl (some 30) Try.func56 #[.agg #[.slice A0_0 l0_0.length c0_0, .int .i64 a0_1, .int .i64 a0_2, .int .i64 a0_3, .slice A0_4 l0_4.length c0_4, .bool a0_5, .slice A0_6 l0_6.length c0_6, .slice A0_7 l0_7.length c0_7, .slice A0_8 l0_8.length c0_8]] ?_; (with_reducible refine (spec_l16Copy.calls _ _ l0_0 a0_1 a0_2 a0_3 _ _ l0_4 a0_5 _ _ l0_6 _ _ l0_7 _ _ l0_8 t858 t861 t862 t863 t864 t867 t868 t871 t874 _ ?side1 ?side2 ?side3 ?side4 ?side5 ?side6 ?side7 ?side8 ?side9 ?side10 A26.out).mono ?_); (case side1 => exact cc HR0_0 HB); (case side2 => exact HC0_0.out); (case side3 => exact cc HR0_4 HB); (case side4 => exact HC0_4.out); (case side5 => exact cc HR0_6 HB); (case side6 => exact HC0_6.out); (case side7 => exact cc HR0_7 HB); (case side8 => exact HC0_7.out); (case side9 => exact cc HR0_8 HB); (case side10 => exact HC0_8.out); rintro e w29 ⟨v859, v865, v869, v872, v875, rfl, ho0, ho1, ho2, ho3, ho4, hb⟩; refine ⟨_, rfl, ?_⟩; have HO860 := kl ho0 HB; have HO866 := kl ho1 HB; have HO870 := kl ho2 HB; have HO873 := kl ho3 HB; have HO876 := kl ho4 HB; replace BK853 := kb BK853 hb; replace BK854 := kb BK854 hb; replace HB := hs_ HB hb; (try clear hb hb2 hk hi ho0 ho1 ho2 ho3 ho4)) | ((with_reducible refine gate_dst (N := 8) rfl ?_); (try (refine gate_guard (by rfl) ?_; dsimp only)); refine bx (N := 8) (cs := #[.slice none 0 0, .int .i64 0, .int .i64 0, .int .i64 0, .slice none 0 0, .bool false, .slice none 0 0, .slice none 0 0, .slice none 0 0]) (t := 36) ?_; intro gb877 hg w30 hbox hb; replace HO860 := kr HO860 hb; replace HO866 := kr HO866 hb; replace HO870 := kr HO870 hb; replace HO873 := kr HO873 hb; replace HO876 := kr HO876 hb; have BK877 := dk (hbox); have GW877 := gs hg HB; have GE877 := gs hg HB; replace HB := hs_ HB hb; have NB853_877 := gn hg BK853; have NB877_853 := gm hg BK853; replace BK853 := kb BK853 hb; have NB854_877 := gn hg BK854; have NB877_854 := gm hg BK854; replace BK854 := kb BK854 hb; clear hb hbox hg; obtain ⟨Ao31, co31, eo31⟩ := Kd.R_slice HO860.out; subst eo31; have hnb32 := NB877_853.out; have hnc32 := NB853_877.out; have hnb33 := NB877_854.out; have hnc33 := NB854_877.out; have ⟨z34_0, z34_1, z34_2, z34_3, z34_4, z34_5, z34_6, z34_7, z34_8, v34_0, v34_1, v34_2, v34_3, v34_4, v34_5, v34_6, v34_7, v34_8⟩ := rz9 BK877; obtain ⟨Ao35, co35, eo35⟩ := Kd.R_slice HO866.out; subst eo35; obtain ⟨Ao36, co36, eo36⟩ := Kd.R_slice HO870.out; subst eo36; obtain ⟨Ao37, co37, eo37⟩ := Kd.R_slice HO873.out; subst eo37; obtain ⟨Ao38, co38, eo38⟩ := Kd.R_slice HO876.out; subst eo38))
    go_loopg [34] kj3 (fun kq v34 w' => ∃ (x34_2 : Int) (x878006_2 : List (S95)), v34 = .int .i64 x34_2 ∧ Aside0 (spec_Withdraw.l0 kq a1 a2 (t868.length : Int) x34_2 t858 t861 t862 t863 t864 t867 x878006_2 t871 t874 = some (r1, r2, r3, r4, r5, r6, r7, r8, r9, r10)) ∧ Aside0 (kq ≤ kj3) ∧ Aside0 (Kd.R k139 139 w' w.heap.size (fun _ => True) (.slice Ao31 t858.length co31) t858) ∧ Aside0 (Kd.R (Kd.int .i64) 3 w' w.heap.size (fun k_ => nb k_ Ao37 t871.length co37 ∧ nb k_ Ao38 t874.length co38) (.slice Ao35 t864.length co35) t864) ∧ Aside0 (Kd.R k95 95 w' w.heap.size (fun _ => True) (.slice Ao36 t868.length co36) x878006_2) ∧ Aside0 (Kd.R (Kd.int .i64) 3 w' w.heap.size (fun k_ => nb k_ Ao35 t864.length co35 ∧ nb k_ Ao38 t874.length co38) (.slice Ao37 t871.length co37) t871) ∧ Aside0 (Kd.R (Kd.int .i64) 3 w' w.heap.size (fun k_ => nb k_ Ao35 t864.length co35 ∧ nb k_ Ao37 t871.length co37) (.slice Ao38 t874.length co38) t874) ∧ Aside0 (w'.heap[gb853]? = some (.cells #[(.slice A0_0 l0_0.length c0_0), .int .i64 a0_1, .int .i64 a0_2, .int .i64 a0_3, (.slice A0_4 l0_4.length c0_4), .bool a0_5, (.slice A0_6 l0_6.length c0_6), (.slice A0_7 l0_7.length c0_7), (.slice A0_8 l0_8.length c0_8)] 36 (0, 0))) ∧ Aside0 (w'.heap[gb854]? = some (.cells #[(.slice none 0 0), .int .i64 0, .int .i64 0, .int .i64 0, (.slice none 0 0), .bool false, (.slice none 0 0), (.slice none 0 0), (.slice none 0 0)] 36 (0, 0))) ∧ Aside0 (w'.heap[gb877]? = some (.cells #[(.slice Ao31 t858.length co31), .int .i64 t861, .int .i64 t862, .int .i64 t863, (.slice Ao35 t864.length co35), .bool t867, (.slice Ao36 t868.length co36), (.slice Ao37 t871.length co37), (.slice Ao38 t874.length co38)] 36 (0, 0))) ∧ Aside0 (Below w.heap.size w w'))
    case atStart => exact ⟨(0), (t868), e2_, H', ⟨Nat.le_refl _⟩, ⟨rf HO860 BK877 (fun _ hk => trivial)⟩, ⟨rf HO866 BK877 (fun _ hk => ⟨hk.1.1, hk.1.2⟩)⟩, ⟨rf HO870 BK877 (fun _ hk => trivial)⟩, ⟨rf HO873 BK877 (fun _ hk => ⟨hk.1.1, hk.1.2⟩)⟩, ⟨rf HO876 BK877 (fun _ hk => ⟨hk.1.1, hk.1.2⟩)⟩, ⟨bf NB853_877.out BK853⟩, ⟨bf NB854_877.out BK854⟩, ⟨by (with_reducible repeat (first | refine blk_drewN ?_ _ | refine blk_drew ?_ | refine blk_alloc ?_ _)); refine blk_put (cs := #[.slice Ao31 t858.length co31, .int .i64 t861, .int .i64 t862, .int .i64 t863, .slice Ao35 t864.length co35, .bool t867, .slice Ao36 t868.length co36, .slice Ao37 t871.length co37, .slice none 0 0]) ?_ 8 _ rfl; (with_reducible repeat (first | refine blk_drewN ?_ _ | refine blk_drew ?_ | refine blk_alloc ?_ _)); refine blk_put (cs := #[.slice Ao31 t858.length co31, .int .i64 t861, .int .i64 t862, .int .i64 t863, .slice Ao35 t864.length co35, .bool t867, .slice Ao36 t868.length co36, .slice none 0 0, .slice none 0 0]) ?_ 7 _ rfl; (with_reducible repeat (first | refine blk_drewN ?_ _ | refine blk_drew ?_ | refine blk_alloc ?_ _)); refine blk_put (cs := #[.slice Ao31 t858.length co31, .int .i64 t861, .int .i64 t862, .int .i64 t863, .slice Ao35 t864.length co35, .bool t867, .slice none 0 0, .slice none 0 0, .slice none 0 0]) ?_ 6 _ rfl; (with_reducible repeat (first | refine blk_drewN ?_ _ | refine blk_drew ?_ | refine blk_alloc ?_ _)); refine blk_put (cs := #[.slice Ao31 t858.length co31, .int .i64 t861, .int .i64 t862, .int .i64 t863, .slice Ao35 t864.length co35, .bool false, .slice none 0 0, .slice none 0 0, .slice none 0 0]) ?_ 5 _ rfl; (with_reducible repeat (first | refine blk_drewN ?_ _ | refine blk_drew ?_ | refine blk_alloc ?_ _)); refine blk_put (cs := #[.slice Ao31 t858.length co31, .int .i64 t861, .int .i64 t862, .int .i64 t863, .slice none 0 0, .bool false, .slice none 0 0, .slice none 0 0, .slice none 0 0]) ?_ 4 _ rfl; (with_reducible repeat (first | refine blk_drewN ?_ _ | refine blk_drew ?_ | refine blk_alloc ?_ _)); refine blk_put (cs := #[.slice Ao31 t858.length co31, .int .i64 t861, .int .i64 t862, .int .i64 0, .slice none 0 0, .bool false, .slice none 0 0, .slice none 0 0, .slice none 0 0]) ?_ 3 _ rfl; (with_reducible repeat (first | refine blk_drewN ?_ _ | refine blk_drew ?_ | refine blk_alloc ?_ _)); refine blk_put (cs := #[.slice Ao31 t858.length co31, .int .i64 t861, .int .i64 0, .int .i64 0, .slice none 0 0, .bool false, .slice none 0 0, .slice none 0 0, .slice none 0 0]) ?_ 2 _ rfl; (with_reducible repeat (first | refine blk_drewN ?_ _ | refine blk_drew ?_ | refine blk_alloc ?_ _)); refine blk_put (cs := #[.slice Ao31 t858.length co31, .int .i64 0, .int .i64 0, .int .i64 0, .slice none 0 0, .bool false, .slice none 0 0, .slice none 0 0, .slice none 0 0]) ?_ 1 _ rfl; (with_reducible repeat (first | refine blk_drewN ?_ _ | refine blk_drew ?_ | refine blk_alloc ?_ _)); refine blk_put (cs := #[.slice none 0 0, .int .i64 0, .int .i64 0, .int .i64 0, .slice none 0 0, .bool false, .slice none 0 0, .slice none 0 0, .slice none 0 0]) ?_ 0 _ rfl; (with_reducible repeat (first | refine blk_drewN ?_ _ | refine blk_drew ?_ | refine blk_alloc ?_ _)); exact BK877.out⟩, ⟨bb HB⟩⟩
    case round =>
     clear H'
     (try clear c1)
     (try clear c2)
     (try clear p2)
     (try clear c3)
     (try clear c5)
     (try clear p6)
     (try clear c8)
     (try clear c10)
     (try clear c12)
     (try clear c16)
     (try clear c20)
     (try clear c23)
     (try clear c24)
     (try clear c27)
     (try clear c32)
     (try clear c33)
     (try clear z13_0 z13_1 z13_2 z13_3 z13_4 z13_5 z13_6 z13_7 z13_8)
     (try clear z15_0 z15_1 z15_2 z15_3 z15_4 z15_5 z15_6 z15_7 z15_8)
     (try clear z17_0 z17_1 z17_2 z17_3 z17_4 z17_5 z17_6 z17_7 z17_8)
     (try clear z19_0 z19_1 z19_2 z19_3 z19_4 z19_5 z19_6 z19_7 z19_8)
     (try clear z21_0 z21_1 z21_2 z21_3 z21_4 z21_5 z21_6 z21_7 z21_8)
     (try clear z25_0 z25_1 z25_2 z25_3 z25_4 z25_5 z25_6 z25_7 z25_8)
     (try clear z28_0 z28_1 z28_2 z28_3 z28_4 z28_5 z28_6 z28_7 z28_8)
     (try clear z34_0 z34_1 z34_2 z34_3 z34_4 z34_5 z34_6 z34_7 z34_8)
     (try clear v13_0 v13_1 v13_2 v13_3 v13_4 v13_5 v13_6 v13_7 v13_8)
     (try clear v15_0 v15_1 v15_2 v15_3 v15_4 v15_5 v15_6 v15_7 v15_8)
     (try clear v17_0 v17_1 v17_2 v17_3 v17_4 v17_5 v17_6 v17_7 v17_8)
     (try clear v19_0 v19_1 v19_2 v19_3 v19_4 v19_5 v19_6 v19_7 v19_8)
     (try clear v21_0 v21_1 v21_2 v21_3 v21_4 v21_5 v21_6 v21_7 v21_8)
     (try clear v25_0 v25_1 v25_2 v25_3 v25_4 v25_5 v25_6 v25_7 v25_8)
     (try clear v28_0 v28_1 v28_2 v28_3 v28_4 v28_5 v28_6 v28_7 v28_8)
     (try clear v34_0 v34_1 v34_2 v34_3 v34_4 v34_5 v34_6 v34_7 v34_8)
     (try clear p2)
     (try clear p6)
     obtain ⟨x34_2, x878006_2, rfl, HA, HK2, HO_878000, HO_878004, HO_878006, HO_878007, HO_878008, BK853, BK854, BK877, HB⟩ := hrel
     have hl878006_2 := (Kd.R_reads' HO_878006.out).1
     rw [hl878006_2] at HO_878006
     (try simp only [hl878006_2] at BK853 BK854 BK877 HO_878000 HO_878004 HO_878007 HO_878008 ⊢)
     cases gk with
     | zero => exact absurd HA.out (by simp [spec_Withdraw.l0])
     | succ k2 =>
      have H := HA.out
      clear HA
      simp only [spec_Withdraw.l0] at H
      by_cases c39 : x34_2 < (t868.length : Int)
      ·rw [if_pos c39] at H
       have c39b0 : decide (x34_2 < (t868.length : Int)) = true := decide_eq_true c39
       clear c39
       by_cases c40 : 0 ≤ x34_2
       ·rw [if_pos c40] at H
        have c40b0 : decide (0 ≤ x34_2) = true := decide_eq_true c40
        clear c40
        by_cases c41 : x34_2 < (x878006_2.length : Int)
        ·rw [if_pos c41] at H
         have c41b0 : decide (x34_2 < (x878006_2.length : Int)) = true := decide_eq_true c41
         clear c41
         have HC42 := dk H
         clear H
         have p878 : 0 ≤ (x34_2 : Int) := oa
         have q878 : x34_2 < (x878006_2.length : Int) := oa
         obtain ⟨ad878, e878, hx878_0, hx878_1, hx878_2, hx878_3, hx878_4⟩ := at_T95 (Kd.R_reads' HO_878006.out).2.2 x34_2 p878 q878
         cases e878
         replace p878 := eq_true p878
         replace q878 := eq_true q878
         go_upto_region 7 with (first | ((with_reducible refine gate_dst (N := 10) rfl ?_); (try (refine gate_guard (by rfl) ?_; dsimp only)); refine bx (N := 10) (cs := #[.int .i64 0, .int .i64 0, .int .i64 0, .int .i64 0, .int .i64 0]) (t := 95) ?_; intro gb879 hg w43 hbox hb; replace HO_878000 := kr HO_878000 hb; replace HO_878004 := kr HO_878004 hb; replace HO_878006 := dk (Kd.R_below (Kd.R_elderB (rr HO_878006) gb879 (Nat.le_of_eq hg.symm)) hb); replace HO_878007 := kr HO_878007 hb; replace HO_878008 := kr HO_878008 hb; have BK879 := dk (hbox); have GW879 := gs hg HB; have GE879 := gs hg HB; replace HB := hs_ HB hb; have NB853_879 := gn hg BK853; have NB879_853 := gm hg BK853; replace BK853 := kb BK853 hb; have NB854_879 := gn hg BK854; have NB879_854 := gm hg BK854; replace BK854 := kb BK854 hb; have NB877_879 := gn hg BK877; have NB879_877 := gm hg BK877; replace BK877 := kb BK877 hb; clear hb hbox hg; have hnb44 := NB879_853.out; have hnc44 := NB853_879.out; have hnb45 := NB879_854.out; have hnc45 := NB854_879.out; have hnb46 := NB879_877.out; have hnc46 := NB877_879.out; have ⟨z47_0, z47_1, z47_2, z47_3, z47_4, v47_0, v47_1, v47_2, v47_3, v47_4⟩ := rz5 BK879))
         (try simp only [Act.put, List.setIfInBounds_toArray, List.set_cons_zero, List.set_cons_succ])
         go_cut [48] (fun v48 wc => ∃ (kq : Nat) (x48_41 : Bool), v48 = .bool x48_41 ∧ Aside0 (spec_Withdraw.j2 kq a1 a2 x34_2 (t868.length : Int) x34_2 x48_41 t858 t861 t862 t863 t864 t867 x878006_2 t871 t874 ((rd_T95 x878006_2 x34_2).f0) ((rd_T95 x878006_2 x34_2).f1) ((rd_T95 x878006_2 x34_2).f2) ((rd_T95 x878006_2 x34_2).f3) ((rd_T95 x878006_2 x34_2).f4) = some (r1, r2, r3, r4, r5, r6, r7, r8, r9, r10)) ∧ Aside0 (kq ≤ k2) ∧ Aside0 (Kd.R k139 139 wc w.heap.size (fun _ => True) (.slice Ao31 t858.length co31) t858) ∧ Aside0 (Kd.R (Kd.int .i64) 3 wc w.heap.size (fun k_ => nb k_ Ao37 t871.length co37 ∧ nb k_ Ao38 t874.length co38) (.slice Ao35 t864.length co35) t864) ∧ Aside0 (Kd.R k95 95 wc w.heap.size (fun k_ => k_ ≠ gb879) (.slice (some ad878) x878006_2.length co36) x878006_2) ∧ Aside0 (Kd.R (Kd.int .i64) 3 wc w.heap.size (fun k_ => nb k_ Ao35 t864.length co35 ∧ nb k_ Ao38 t874.length co38) (.slice Ao37 t871.length co37) t871) ∧ Aside0 (Kd.R (Kd.int .i64) 3 wc w.heap.size (fun k_ => nb k_ Ao35 t864.length co35 ∧ nb k_ Ao37 t871.length co37) (.slice Ao38 t874.length co38) t874) ∧ Aside0 (wc.heap[gb853]? = some (.cells #[(.slice A0_0 l0_0.length c0_0), .int .i64 a0_1, .int .i64 a0_2, .int .i64 a0_3, (.slice A0_4 l0_4.length c0_4), .bool a0_5, (.slice A0_6 l0_6.length c0_6), (.slice A0_7 l0_7.length c0_7), (.slice A0_8 l0_8.length c0_8)] 36 (0, 0))) ∧ Aside0 (wc.heap[gb854]? = some (.cells #[(.slice none 0 0), .int .i64 0, .int .i64 0, .int .i64 0, (.slice none 0 0), .bool false, (.slice none 0 0), (.slice none 0 0), (.slice none 0 0)] 36 (0, 0))) ∧ Aside0 (wc.heap[gb877]? = some (.cells #[(.slice Ao31 t858.length co31), .int .i64 t861, .int .i64 t862, .int .i64 t863, (.slice Ao35 t864.length co35), .bool t867, (.slice (some ad878) x878006_2.length co36), (.slice Ao37 t871.length co37), (.slice Ao38 t874.length co38)] 36 (0, 0))) ∧ Aside0 (wc.heap[gb879]? = some (.cells #[.int .i64 ((rd_T95 x878006_2 x34_2).f0), .int .i64 ((rd_T95 x878006_2 x34_2).f1), .int .i64 ((rd_T95 x878006_2 x34_2).f2), .int .i64 ((rd_T95 x878006_2 x34_2).f3), .int .i64 ((rd_T95 x878006_2 x34_2).f4)] 95 (0, 0))) ∧ Aside0 (Below w.heap.size w wc))
         case first =>
          have H := HC42.out
          clear HC42
          by_cases c48 : ((rd_T95 x878006_2 x34_2).f0) = a1
          ·rw [if_pos c48] at H
           have c48b0 : (((rd_T95 x878006_2 x34_2).f0) == a1) = true := beq_iff_eq.mpr c48
           have c48b1 : (((rd_T95 x878006_2 x34_2).f0) != a1) = false := bne_eq_false_iff_eq.mpr c48
           clear c48
           (first | rw [c48b0] | rw [c48b1] | (simp only [i64_w, i32_w]; rw [c48b0]) | skip)
           have H' := dk H
           clear H
           have hnb49 := NB879_853.out
           have hnc49 := NB853_879.out
           have hnb50 := NB879_854.out
           have hnc50 := NB854_879.out
           have hnb51 := NB879_877.out
           have hnc51 := NB877_879.out
           have ⟨z52_0, z52_1, z52_2, z52_3, z52_4, v52_0, v52_1, v52_2, v52_3, v52_4⟩ := rz5 BK879
           go_wp2
           go_meet
           case rel => exact ⟨_, (false), e2_, H', ⟨by have := HJ3.out; have := HK2.out; first | omega | exact Nat.le_refl _⟩, ⟨by (try simp only [hl878006_2]); (with_reducible repeat (first | apply Kd.R_alloc | apply Kd.R_drewN | apply Kd.R_drew)); exact Kd.R_mono (Kd.R_far (p := ⟨gb879, 4, none⟩) (Kd.R_far (p := ⟨gb879, 3, none⟩) (Kd.R_far (p := ⟨gb879, 2, none⟩) (Kd.R_far (p := ⟨gb879, 1, none⟩) (Kd.R_far (p := ⟨gb879, 0, none⟩) (Kd.R_types HO_878000.out BK879.out (by decide)) (fun _ hk => hk.2) (.int .i64 ((rd_T95 x878006_2 x34_2).f0))) (fun _ hk => hk.2) (.int .i64 ((rd_T95 x878006_2 x34_2).f1))) (fun _ hk => hk.2) (.int .i64 ((rd_T95 x878006_2 x34_2).f2))) (fun _ hk => hk.2) (.int .i64 ((rd_T95 x878006_2 x34_2).f3))) (fun _ hk => hk.2) (.int .i64 ((rd_T95 x878006_2 x34_2).f4))) (fun _ hk => trivial)⟩, ⟨by (try simp only [hl878006_2]); (with_reducible repeat (first | apply Kd.R_alloc | apply Kd.R_drewN | apply Kd.R_drew)); exact Kd.R_mono (Kd.R_far (p := ⟨gb879, 4, none⟩) (Kd.R_far (p := ⟨gb879, 3, none⟩) (Kd.R_far (p := ⟨gb879, 2, none⟩) (Kd.R_far (p := ⟨gb879, 1, none⟩) (Kd.R_far (p := ⟨gb879, 0, none⟩) (Kd.R_types HO_878004.out BK879.out (by decide)) (fun _ hk => hk.2) (.int .i64 ((rd_T95 x878006_2 x34_2).f0))) (fun _ hk => hk.2) (.int .i64 ((rd_T95 x878006_2 x34_2).f1))) (fun _ hk => hk.2) (.int .i64 ((rd_T95 x878006_2 x34_2).f2))) (fun _ hk => hk.2) (.int .i64 ((rd_T95 x878006_2 x34_2).f3))) (fun _ hk => hk.2) (.int .i64 ((rd_T95 x878006_2 x34_2).f4))) (fun _ hk => ⟨hk.1.1, hk.1.2⟩)⟩, ⟨by (try simp only [hl878006_2]); (with_reducible repeat (first | apply Kd.R_alloc | apply Kd.R_drewN | apply Kd.R_drew)); exact Kd.R_mono (Kd.R_far (p := ⟨gb879, 4, none⟩) (Kd.R_far (p := ⟨gb879, 3, none⟩) (Kd.R_far (p := ⟨gb879, 2, none⟩) (Kd.R_far (p := ⟨gb879, 1, none⟩) (Kd.R_far (p := ⟨gb879, 0, none⟩) (Kd.R_mono HO_878006.out (fun k_ hk => (⟨hk, hk.2⟩ : _ ∧ k_ ≠ gb879))) (fun _ hk => hk.2) (.int .i64 ((rd_T95 x878006_2 x34_2).f0))) (fun _ hk => hk.2) (.int .i64 ((rd_T95 x878006_2 x34_2).f1))) (fun _ hk => hk.2) (.int .i64 ((rd_T95 x878006_2 x34_2).f2))) (fun _ hk => hk.2) (.int .i64 ((rd_T95 x878006_2 x34_2).f3))) (fun _ hk => hk.2) (.int .i64 ((rd_T95 x878006_2 x34_2).f4))) (fun _ hk => hk.1.2)⟩, ⟨by (try simp only [hl878006_2]); (with_reducible repeat (first | apply Kd.R_alloc | apply Kd.R_drewN | apply Kd.R_drew)); exact Kd.R_mono (Kd.R_far (p := ⟨gb879, 4, none⟩) (Kd.R_far (p := ⟨gb879, 3, none⟩) (Kd.R_far (p := ⟨gb879, 2, none⟩) (Kd.R_far (p := ⟨gb879, 1, none⟩) (Kd.R_far (p := ⟨gb879, 0, none⟩) (Kd.R_types HO_878007.out BK879.out (by decide)) (fun _ hk => hk.2) (.int .i64 ((rd_T95 x878006_2 x34_2).f0))) (fun _ hk => hk.2) (.int .i64 ((rd_T95 x878006_2 x34_2).f1))) (fun _ hk => hk.2) (.int .i64 ((rd_T95 x878006_2 x34_2).f2))) (fun _ hk => hk.2) (.int .i64 ((rd_T95 x878006_2 x34_2).f3))) (fun _ hk => hk.2) (.int .i64 ((rd_T95 x878006_2 x34_2).f4))) (fun _ hk => ⟨hk.1.1, hk.1.2⟩)⟩, ⟨by (try simp only [hl878006_2]); (with_reducible repeat (first | apply Kd.R_alloc | apply Kd.R_drewN | apply Kd.R_drew)); exact Kd.R_mono (Kd.R_far (p := ⟨gb879, 4, none⟩) (Kd.R_far (p := ⟨gb879, 3, none⟩) (Kd.R_far (p := ⟨gb879, 2, none⟩) (Kd.R_far (p := ⟨gb879, 1, none⟩) (Kd.R_far (p := ⟨gb879, 0, none⟩) (Kd.R_types HO_878008.out BK879.out (by decide)) (fun _ hk => hk.2) (.int .i64 ((rd_T95 x878006_2 x34_2).f0))) (fun _ hk => hk.2) (.int .i64 ((rd_T95 x878006_2 x34_2).f1))) (fun _ hk => hk.2) (.int .i64 ((rd_T95 x878006_2 x34_2).f2))) (fun _ hk => hk.2) (.int .i64 ((rd_T95 x878006_2 x34_2).f3))) (fun _ hk => hk.2) (.int .i64 ((rd_T95 x878006_2 x34_2).f4))) (fun _ hk => ⟨hk.1.1, hk.1.2⟩)⟩, ⟨by (try simp only [hl878006_2]); exact bf NB853_879.out BK853⟩, ⟨by (try simp only [hl878006_2]); exact bf NB854_879.out BK854⟩, ⟨by (try simp only [hl878006_2]); exact bf NB877_879.out BK877⟩, ⟨by (try simp only [hl878006_2]); (with_reducible repeat (first | refine blk_drewN ?_ _ | refine blk_drew ?_ | refine blk_alloc ?_ _)); refine blk_put (cs := #[.int .i64 ((rd_T95 x878006_2 x34_2).f0), .int .i64 ((rd_T95 x878006_2 x34_2).f1), .int .i64 ((rd_T95 x878006_2 x34_2).f2), .int .i64 ((rd_T95 x878006_2 x34_2).f3), .int .i64 0]) ?_ 4 _ rfl; (with_reducible repeat (first | refine blk_drewN ?_ _ | refine blk_drew ?_ | refine blk_alloc ?_ _)); refine blk_put (cs := #[.int .i64 ((rd_T95 x878006_2 x34_2).f0), .int .i64 ((rd_T95 x878006_2 x34_2).f1), .int .i64 ((rd_T95 x878006_2 x34_2).f2), .int .i64 0, .int .i64 0]) ?_ 3 _ rfl; (with_reducible repeat (first | refine blk_drewN ?_ _ | refine blk_drew ?_ | refine blk_alloc ?_ _)); refine blk_put (cs := #[.int .i64 ((rd_T95 x878006_2 x34_2).f0), .int .i64 ((rd_T95 x878006_2 x34_2).f1), .int .i64 0, .int .i64 0, .int .i64 0]) ?_ 2 _ rfl; (with_reducible repeat (first | refine blk_drewN ?_ _ | refine blk_drew ?_ | refine blk_alloc ?_ _)); refine blk_put (cs := #[.int .i64 ((rd_T95 x878006_2 x34_2).f0), .int .i64 0, .int .i64 0, .int .i64 0, .int .i64 0]) ?_ 1 _ rfl; (with_reducible repeat (first | refine blk_drewN ?_ _ | refine blk_drew ?_ | refine blk_alloc ?_ _)); refine blk_put (cs := #[.int .i64 0, .int .i64 0, .int .i64 0, .int .i64 0, .int .i64 0]) ?_ 0 _ rfl; (with_reducible repeat (first | refine blk_drewN ?_ _ | refine blk_drew ?_ | refine blk_alloc ?_ _)); exact BK879.out⟩, ⟨bb HB⟩⟩
          ·rw [if_neg c48] at H
           have c48b0 : (((rd_T95 x878006_2 x34_2).f0) == a1) = false := beq_eq_false_iff_ne.mpr c48
           have c48b1 : (((rd_T95 x878006_2 x34_2).f0) != a1) = true := bne_iff_ne.mpr c48
           (first | rw [c48b0] | rw [c48b1] | (simp only [i64_w, i32_w]; rw [c48b0]) | skip)
           have H' := dk H
           clear H
           have hnb53 := NB879_853.out
           have hnc53 := NB853_879.out
           have hnb54 := NB879_854.out
           have hnc54 := NB854_879.out
           have hnb55 := NB879_877.out
           have hnc55 := NB877_879.out
           have ⟨z56_0, z56_1, z56_2, z56_3, z56_4, v56_0, v56_1, v56_2, v56_3, v56_4⟩ := rz5 BK879
           go_wp2
           go_meet
           case rel => exact ⟨_, ((((rd_T95 x878006_2 x34_2).f1) != a1)), e2_, H', ⟨by have := HJ3.out; have := HK2.out; first | omega | exact Nat.le_refl _⟩, ⟨by (try simp only [hl878006_2]); (with_reducible repeat (first | apply Kd.R_alloc | apply Kd.R_drewN | apply Kd.R_drew)); exact Kd.R_mono (Kd.R_far (p := ⟨gb879, 4, none⟩) (Kd.R_far (p := ⟨gb879, 3, none⟩) (Kd.R_far (p := ⟨gb879, 2, none⟩) (Kd.R_far (p := ⟨gb879, 1, none⟩) (Kd.R_far (p := ⟨gb879, 0, none⟩) (Kd.R_types HO_878000.out BK879.out (by decide)) (fun _ hk => hk.2) (.int .i64 ((rd_T95 x878006_2 x34_2).f0))) (fun _ hk => hk.2) (.int .i64 ((rd_T95 x878006_2 x34_2).f1))) (fun _ hk => hk.2) (.int .i64 ((rd_T95 x878006_2 x34_2).f2))) (fun _ hk => hk.2) (.int .i64 ((rd_T95 x878006_2 x34_2).f3))) (fun _ hk => hk.2) (.int .i64 ((rd_T95 x878006_2 x34_2).f4))) (fun _ hk => trivial)⟩, ⟨by (try simp only [hl878006_2]); (with_reducible repeat (first | apply Kd.R_alloc | apply Kd.R_drewN | apply Kd.R_drew)); exact Kd.R_mono (Kd.R_far (p := ⟨gb879, 4, none⟩) (Kd.R_far (p := ⟨gb879, 3, none⟩) (Kd.R_far (p := ⟨gb879, 2, none⟩) (Kd.R_far (p := ⟨gb879, 1, none⟩) (Kd.R_far (p := ⟨gb879, 0, none⟩) (Kd.R_types HO_878004.out BK879.out (by decide)) (fun _ hk => hk.2) (.int .i64 ((rd_T95 x878006_2 x34_2).f0))) (fun _ hk => hk.2) (.int .i64 ((rd_T95 x878006_2 x34_2).f1))) (fun _ hk => hk.2) (.int .i64 ((rd_T95 x878006_2 x34_2).f2))) (fun _ hk => hk.2) (.int .i64 ((rd_T95 x878006_2 x34_2).f3))) (fun _ hk => hk.2) (.int .i64 ((rd_T95 x878006_2 x34_2).f4))) (fun _ hk => ⟨hk.1.1, hk.1.2⟩)⟩, ⟨by (try simp only [hl878006_2]); (with_reducible repeat (first | apply Kd.R_alloc | apply Kd.R_drewN | apply Kd.R_drew)); exact Kd.R_mono (Kd.R_far (p := ⟨gb879, 4, none⟩) (Kd.R_far (p := ⟨gb879, 3, none⟩) (Kd.R_far (p := ⟨gb879, 2, none⟩) (Kd.R_far (p := ⟨gb879, 1, none⟩) (Kd.R_far (p := ⟨gb879, 0, none⟩) (Kd.R_mono HO_878006.out (fun k_ hk => (⟨hk, hk.2⟩ : _ ∧ k_ ≠ gb879))) (fun _ hk => hk.2) (.int .i64 ((rd_T95 x878006_2 x34_2).f0))) (fun _ hk => hk.2) (.int .i64 ((rd_T95 x878006_2 x34_2).f1))) (fun _ hk => hk.2) (.int .i64 ((rd_T95 x878006_2 x34_2).f2))) (fun _ hk => hk.2) (.int .i64 ((rd_T95 x878006_2 x34_2).f3))) (fun _ hk => hk.2) (.int .i64 ((rd_T95 x878006_2 x34_2).f4))) (fun _ hk => hk.1.2)⟩, ⟨by (try simp only [hl878006_2]); (with_reducible repeat (first | apply Kd.R_alloc | apply Kd.R_drewN | apply Kd.R_drew)); exact Kd.R_mono (Kd.R_far (p := ⟨gb879, 4, none⟩) (Kd.R_far (p := ⟨gb879, 3, none⟩) (Kd.R_far (p := ⟨gb879, 2, none⟩) (Kd.R_far (p := ⟨gb879, 1, none⟩) (Kd.R_far (p := ⟨gb879, 0, none⟩) (Kd.R_types HO_878007.out BK879.out (by decide)) (fun _ hk => hk.2) (.int .i64 ((rd_T95 x878006_2 x34_2).f0))) (fun _ hk => hk.2) (.int .i64 ((rd_T95 x878006_2 x34_2).f1))) (fun _ hk => hk.2) (.int .i64 ((rd_T95 x878006_2 x34_2).f2))) (fun _ hk => hk.2) (.int .i64 ((rd_T95 x878006_2 x34_2).f3))) (fun _ hk => hk.2) (.int .i64 ((rd_T95 x878006_2 x34_2).f4))) (fun _ hk => ⟨hk.1.1, hk.1.2⟩)⟩, ⟨by (try simp only [hl878006_2]); (with_reducible repeat (first | apply Kd.R_alloc | apply Kd.R_drewN | apply Kd.R_drew)); exact Kd.R_mono (Kd.R_far (p := ⟨gb879, 4, none⟩) (Kd.R_far (p := ⟨gb879, 3, none⟩) (Kd.R_far (p := ⟨gb879, 2, none⟩) (Kd.R_far (p := ⟨gb879, 1, none⟩) (Kd.R_far (p := ⟨gb879, 0, none⟩) (Kd.R_types HO_878008.out BK879.out (by decide)) (fun _ hk => hk.2) (.int .i64 ((rd_T95 x878006_2 x34_2).f0))) (fun _ hk => hk.2) (.int .i64 ((rd_T95 x878006_2 x34_2).f1))) (fun _ hk => hk.2) (.int .i64 ((rd_T95 x878006_2 x34_2).f2))) (fun _ hk => hk.2) (.int .i64 ((rd_T95 x878006_2 x34_2).f3))) (fun _ hk => hk.2) (.int .i64 ((rd_T95 x878006_2 x34_2).f4))) (fun _ hk => ⟨hk.1.1, hk.1.2⟩)⟩, ⟨by (try simp only [hl878006_2]); exact bf NB853_879.out BK853⟩, ⟨by (try simp only [hl878006_2]); exact bf NB854_879.out BK854⟩, ⟨by (try simp only [hl878006_2]); exact bf NB877_879.out BK877⟩, ⟨by (try simp only [hl878006_2]); (with_reducible repeat (first | refine blk_drewN ?_ _ | refine blk_drew ?_ | refine blk_alloc ?_ _)); refine blk_put (cs := #[.int .i64 ((rd_T95 x878006_2 x34_2).f0), .int .i64 ((rd_T95 x878006_2 x34_2).f1), .int .i64 ((rd_T95 x878006_2 x34_2).f2), .int .i64 ((rd_T95 x878006_2 x34_2).f3), .int .i64 0]) ?_ 4 _ rfl; (with_reducible repeat (first | refine blk_drewN ?_ _ | refine blk_drew ?_ | refine blk_alloc ?_ _)); refine blk_put (cs := #[.int .i64 ((rd_T95 x878006_2 x34_2).f0), .int .i64 ((rd_T95 x878006_2 x34_2).f1), .int .i64 ((rd_T95 x878006_2 x34_2).f2), .int .i64 0, .int .i64 0]) ?_ 3 _ rfl; (with_reducible repeat (first | refine blk_drewN ?_ _ | refine blk_drew ?_ | refine blk_alloc ?_ _)); refine blk_put (cs := #[.int .i64 ((rd_T95 x878006_2 x34_2).f0), .int .i64 ((rd_T95 x878006_2 x34_2).f1), .int .i64 0, .int .i64 0, .int .i64 0]) ?_ 2 _ rfl; (with_reducible repeat (first | refine blk_drewN ?_ _ | refine blk_drew ?_ | refine blk_alloc ?_ _)); refine blk_put (cs := #[.int .i64 ((rd_T95 x878006_2 x34_2).f0), .int .i64 0, .int .i64 0, .int .i64 0, .int .i64 0]) ?_ 1 _ rfl; (with_reducible repeat (first | refine blk_drewN ?_ _ | refine blk_drew ?_ | refine blk_alloc ?_ _)); refine blk_put (cs := #[.int .i64 0, .int .i64 0, .int .i64 0, .int .i64 0, .int .i64 0]) ?_ 0 _ rfl; (with_reducible repeat (first | refine blk_drewN ?_ _ | refine blk_drew ?_ | refine blk_alloc ?_ _)); exact BK879.out⟩, ⟨bb HB⟩⟩
         case rest =>
          clear HC42
          (try clear c1)
          (try clear c2)
          (try clear p2)
          (try clear c3)
          (try clear c4)
          (try clear c5)
          (try clear p6)
          (try clear c8)
          (try clear p8)
          (try clear q8)
          (try clear hx8)
          (try clear c10)
          (try clear c12)
          (try clear c16)
          (try clear c20)
          (try clear c23)
          (try clear c24)
          (try clear c27)
          (try clear c32)
          (try clear c33)
          (try clear c39)
          (try clear c39b0)
          (try clear c40)
          (try clear c40b0)
          (try clear c41)
          (try clear c41b0)
          (try clear c44)
          (try clear c45)
          (try clear c46)
          (try clear c48)
          (try clear c48b0)
          (try clear c48b1)
          (try clear c49)
          (try clear c50)
          (try clear c51)
          (try clear c53)
          (try clear c54)
          (try clear c55)
          (try clear c56)
          (try clear z13_0 z13_1 z13_2 z13_3 z13_4 z13_5 z13_6 z13_7 z13_8)
          (try clear z15_0 z15_1 z15_2 z15_3 z15_4 z15_5 z15_6 z15_7 z15_8)
          (try clear z17_0 z17_1 z17_2 z17_3 z17_4 z17_5 z17_6 z17_7 z17_8)
          (try clear z19_0 z19_1 z19_2 z19_3 z19_4 z19_5 z19_6 z19_7 z19_8)
          (try clear z21_0 z21_1 z21_2 z21_3 z21_4 z21_5 z21_6 z21_7 z21_8)
          (try clear z25_0 z25_1 z25_2 z25_3 z25_4 z25_5 z25_6 z25_7 z25_8)
          (try clear z28_0 z28_1 z28_2 z28_3 z28_4 z28_5 z28_6 z28_7 z28_8)
          (try clear z34_0 z34_1 z34_2 z34_3 z34_4 z34_5 z34_6 z34_7 z34_8)
          (try clear z47_0 z47_1 z47_2 z47_3 z47_4)
          (try clear z52_0 z52_1 z52_2 z52_3 z52_4)
          (try clear z56_0 z56_1 z56_2 z56_3 z56_4)
          (try clear v13_0 v13_1 v13_2 v13_3 v13_4 v13_5 v13_6 v13_7 v13_8)
          (try clear v15_0 v15_1 v15_2 v15_3 v15_4 v15_5 v15_6 v15_7 v15_8)
          (try clear v17_0 v17_1 v17_2 v17_3 v17_4 v17_5 v17_6 v17_7 v17_8)
          (try clear v19_0 v19_1 v19_2 v19_3 v19_4 v19_5 v19_6 v19_7 v19_8)
          (try clear v21_0 v21_1 v21_2 v21_3 v21_4 v21_5 v21_6 v21_7 v21_8)
          (try clear v25_0 v25_1 v25_2 v25_3 v25_4 v25_5 v25_6 v25_7 v25_8)
          (try clear v28_0 v28_1 v28_2 v28_3 v28_4 v28_5 v28_6 v28_7 v28_8)
          (try clear v34_0 v34_1 v34_2 v34_3 v34_4 v34_5 v34_6 v34_7 v34_8)
          (try clear v47_0 v47_1 v47_2 v47_3 v47_4)
          (try clear v52_0 v52_1 v52_2 v52_3 v52_4)
          (try clear v56_0 v56_1 v56_2 v56_3 v56_4)
          (try clear hx878_0)
          (try clear hx878_1)
          (try clear hx878_2)
          (try clear hx878_3)
          (try clear hx878_4)
          (try clear p2)
          (try clear p6)
          (try clear p878)
          (try clear q878)
          obtain ⟨kq, x48_41, rfl, HA, HJ41, HO_878000, HO_878004, HO_878006, HO_878007, HO_878008, BK853, BK854, BK877, BK879, HB⟩ := hcut
          cases kq with
          | zero => exact absurd HA.out (by simp [spec_Withdraw.j2])
          | succ kj41 =>
           have H := HA.out
           clear HA
           simp only [spec_Withdraw.j2] at H
           by_cases c57 : x48_41 = true
           ·subst c57
            have H1 : (spec_Withdraw.l0 kj41 a1 a2 (t868.length : Int) (wrap64 (x34_2 + 1)) t858 t861 t862 t863 t864 t867 x878006_2 t871 t874) = some (r1, r2, r3, r4, r5, r6, r7, r8, r9, r10) := by rw [if_pos rfl] at H; exact H
            clear H
            have H := H1
            clear H1
            have H' := dk H
            clear H
            go_wp2
            (try simp only [← hl878006_2])
            go_roundg kj41
            case measure => have := HJ3.out; have := HK2.out; have := HJ41.out; omega
            case rel => exact ⟨(wrap64 (x34_2 + 1)), (x878006_2), e2_, H', ⟨by have := HJ3.out; have := HK2.out; have := HJ41.out; omega⟩, ⟨by (try simp only [hl878006_2]); (with_reducible repeat (first | apply Kd.R_alloc | apply Kd.R_drewN | apply Kd.R_drew)); exact HO_878000.out⟩, ⟨by (try simp only [hl878006_2]); (with_reducible repeat (first | apply Kd.R_alloc | apply Kd.R_drewN | apply Kd.R_drew)); exact HO_878004.out⟩, ⟨by (try simp only [hl878006_2]); (with_reducible repeat (first | apply Kd.R_alloc | apply Kd.R_drewN | apply Kd.R_drew)); exact Kd.R_mono HO_878006.out (fun _ hk => trivial)⟩, ⟨by (try simp only [hl878006_2]); (with_reducible repeat (first | apply Kd.R_alloc | apply Kd.R_drewN | apply Kd.R_drew)); exact HO_878007.out⟩, ⟨by (try simp only [hl878006_2]); (with_reducible repeat (first | apply Kd.R_alloc | apply Kd.R_drewN | apply Kd.R_drew)); exact HO_878008.out⟩, ⟨by (try simp only [hl878006_2]); (with_reducible repeat (first | refine blk_drewN ?_ _ | refine blk_drew ?_ | refine blk_alloc ?_ _)); exact BK853.out⟩, ⟨by (try simp only [hl878006_2]); (with_reducible repeat (first | refine blk_drewN ?_ _ | refine blk_drew ?_ | refine blk_alloc ?_ _)); exact BK854.out⟩, ⟨by (try simp only [hl878006_2]); (with_reducible repeat (first | refine blk_drewN ?_ _ | refine blk_drew ?_ | refine blk_alloc ?_ _)); exact BK877.out⟩, ⟨bb HB⟩⟩
           ·replace c57 := Bool.eq_false_iff.mpr c57
            subst c57
            have H1 : (if a2 = 1 then (if 0 ≤ x34_2 then (if x34_2 < (x878006_2.length : Int) then (spec_Withdraw.l0 kj41 a1 a2 (t868.length : Int) (wrap64 (x34_2 + 1)) t858 t861 t862 t863 t864 t867 (x878006_2.set (x34_2 : Int).toNat (⟨((rd_T95 x878006_2 x34_2).f0), ((rd_T95 x878006_2 x34_2).f1), 0, 0, 4⟩ : S95)) t871 t874) else (none)) else (none)) else ((spec_IsOpen.f ((rd_T95 x878006_2 x34_2).f0) ((rd_T95 x878006_2 x34_2).f1) ((rd_T95 x878006_2 x34_2).f2) ((rd_T95 x878006_2 x34_2).f3) ((rd_T95 x878006_2 x34_2).f4)).bind fun t881 => (if t881 = true then ((spec_l21Award.f ((rd_T95 x878006_2 x34_2).f0) ((rd_T95 x878006_2 x34_2).f1) ((rd_T95 x878006_2 x34_2).f2) ((rd_T95 x878006_2 x34_2).f3) ((rd_T95 x878006_2 x34_2).f4) (wrap64 ((wrap64 (((rd_T95 x878006_2 x34_2).f0) + ((rd_T95 x878006_2 x34_2).f1))) - a1))).bind fun bt882 => (if 0 ≤ x34_2 then (if x34_2 < (x878006_2.length : Int) then (spec_Withdraw.l0 kj41 a1 a2 (t868.length : Int) (wrap64 (x34_2 + 1)) t858 t861 t862 t863 t864 t867 (x878006_2.set (x34_2 : Int).toNat (⟨bt882.1, bt882.2.1, bt882.2.2.1, bt882.2.2.2.1, bt882.2.2.2.2⟩ : S95)) t871 t874) else (none)) else (none))) else (spec_Withdraw.l0 kj41 a1 a2 (t868.length : Int) (wrap64 (x34_2 + 1)) t858 t861 t862 t863 t864 t867 x878006_2 t871 t874)))) = some (r1, r2, r3, r4, r5, r6, r7, r8, r9, r10) := by rw [if_neg (show ¬ (false = true) by decide)] at H; exact H
            clear H
            have H := H1
            clear H1
            by_cases c58 : a2 = 1
            ·rw [if_pos c58] at H
             have c58b0 : (a2 == 1) = true := beq_iff_eq.mpr c58
             have c58b1 : (a2 != 1) = false := bne_eq_false_iff_eq.mpr c58
             clear c58
             by_cases c59 : 0 ≤ x34_2
             ·rw [if_pos c59] at H
              have c59b0 : decide (0 ≤ x34_2) = true := decide_eq_true c59
              clear c59
              by_cases c60 : x34_2 < (x878006_2.length : Int)
              ·rw [if_pos c60] at H
               have c60b0 : decide (x34_2 < (x878006_2.length : Int)) = true := decide_eq_true c60
               clear c60
               obtain ⟨y880, hy880⟩ : ∃ y_ : List (S95), y_ = (x878006_2.set (x34_2 : Int).toNat (⟨((rd_T95 x878006_2 x34_2).f0), ((rd_T95 x878006_2 x34_2).f1), 0, 0, 4⟩ : S95)) := ⟨_, rfl⟩
               replace H : (spec_Withdraw.l0 kj41 a1 a2 (t868.length : Int) (wrap64 (x34_2 + 1)) t858 t861 t862 t863 t864 t867 y880 t871 t874) = some (r1, r2, r3, r4, r5, r6, r7, r8, r9, r10) := by first | (rw [hy880]; with_reducible exact H) | (have H2_ := (Option.bind_some _ _).symm.trans H; rw [hy880]; with_reducible exact H2_) | (have H2_ := (Option.bind_some _ _).symm.trans H; with_reducible exact H2_) | with_reducible exact H | (rw [hy880]; exact H) | exact H
               have Ny880 := dk hy880
               clear hy880
               have H' := dk H
               clear H
               have hnb62 := NB877_853.out
               have hnc62 := NB853_877.out
               have hnb63 := NB877_854.out
               have hnc63 := NB854_877.out
               have hnb64 := NB877_879.out
               have hnc64 := NB879_877.out
               have ⟨z65_0, z65_1, z65_2, z65_3, z65_4, z65_5, z65_6, z65_7, z65_8, v65_0, v65_1, v65_2, v65_3, v65_4, v65_5, v65_6, v65_7, v65_8⟩ := rz9 BK877
               have hnb66 := NB879_853.out
               have hnc66 := NB853_879.out
               have hnb67 := NB879_854.out
               have hnc67 := NB854_879.out
               have ⟨z68_0, z68_1, z68_2, z68_3, z68_4, v68_0, v68_1, v68_2, v68_3, v68_4⟩ := rz5 BK879
               have p61 : 0 ≤ (x34_2 : Int) := oa
               have q61 : (x34_2 : Int) < ((x878006_2.length : Int) : Int) := oa
               obtain ⟨go61, co61, eo61, gb61, gl61, cl61, HG61⟩ := Kd.R_form HO_878006.out (by omega)
               (first | cases eo61 | (injection eo61 with ea_ en_ ec_; (first | subst ea_ | (injection ea_ with ea_; subst ea_)); subst ec_; clear en_))
               have GB61 := dk gb61
               have GG61 := dk HG61
               clear gb61 gl61 HG61
               (first | simp only [add_plain] at hx878_0 | skip)
               (first | simp only [add_plain] at hx878_1 | skip)
               (first | simp only [add_plain] at hx878_2 | skip)
               (first | simp only [add_plain] at hx878_3 | skip)
               (first | simp only [add_plain] at hx878_4 | skip)
               obtain ⟨ce61, hcl61, hM61, hcc61, hfr61⟩ := Kd.R_elem HO_878006.out z95 (x34_2 : Int) p61 q61
               obtain rfl := k95_openM hM61
               have hx61_0 : wc.cell? ⟨go61, (x34_2 : Int).toNat * 5, none⟩ = some (.int .i64 ((rd_T95 x878006_2 x34_2).f0)) := hcc61 0 _ rfl
               have hx61_1 : wc.cell? ⟨go61, (x34_2 : Int).toNat * 5 + 1, none⟩ = some (.int .i64 ((rd_T95 x878006_2 x34_2).f1)) := hcc61 1 _ rfl
               have hx61_2 : wc.cell? ⟨go61, (x34_2 : Int).toNat * 5 + 2, none⟩ = some (.int .i64 ((rd_T95 x878006_2 x34_2).f2)) := hcc61 2 _ rfl
               have hx61_3 : wc.cell? ⟨go61, (x34_2 : Int).toNat * 5 + 3, none⟩ = some (.int .i64 ((rd_T95 x878006_2 x34_2).f3)) := hcc61 3 _ rfl
               have hx61_4 : wc.cell? ⟨go61, (x34_2 : Int).toNat * 5 + 4, none⟩ = some (.int .i64 ((rd_T95 x878006_2 x34_2).f4)) := hcc61 4 _ rfl
               have hf61_0 : wc.frozen? ⟨go61, (x34_2 : Int).toNat * 5, none⟩ = false := hfr61 0
               have hf61_1 : wc.frozen? ⟨go61, (x34_2 : Int).toNat * 5 + 1, none⟩ = false := hfr61 1
               have hf61_2 : wc.frozen? ⟨go61, (x34_2 : Int).toNat * 5 + 2, none⟩ = false := hfr61 2
               have hf61_3 : wc.frozen? ⟨go61, (x34_2 : Int).toNat * 5 + 3, none⟩ = false := hfr61 3
               have hf61_4 : wc.frozen? ⟨go61, (x34_2 : Int).toNat * 5 + 4, none⟩ = false := hfr61 4
               clear hcl61 hcc61 hfr61; (try clear hM61)
               replace p61 := eq_true p61
               replace q61 := eq_true q61
               have HX69 := dk (show Kd.R k95 95 wc w.heap.size (fun k_ => k_ ≠ gb879) (.slice (some ⟨go61, 0, none⟩) x878006_2.length co36) x878006_2 from (rr HO_878006))
               obtain ⟨ce69, hcl69, hM69, hcc69, hfr69⟩ := Kd.R_elem HX69.out z95 (x34_2 : Int) (oa) (by have h_ : (x34_2 : Int) < ((x878006_2.length : Int) : Int) := oa; first | exact h_ | (have e_ := (Kd.R_reads' HO_878006.out).1; omega) | simpa using h_)
               obtain rfl := k95_openM hM69
               have HP69 := Kd.R_seg HX69.out (x34_2 : Int) (oa) (by have h_ : (x34_2 : Int) < ((x878006_2.length : Int) : Int) := oa; first | exact h_ | (have e_ := (Kd.R_reads' HO_878006.out).1; omega) | simpa using h_) (seg := [.int .i64 ((rd_T95 x878006_2 x34_2).f0), .int .i64 ((rd_T95 x878006_2 x34_2).f1), .int .i64 0, .int .i64 0, .int .i64 4]) (j := 0) hcl69 hcc69 (show 5 ≤ 5 from by decide) (x' := (⟨((rd_T95 x878006_2 x34_2).f0), ((rd_T95 x878006_2 x34_2).f1), 0, 0, 4⟩ : S95)) (k95_mkM _ _ _ (⟨((rd_T95 x878006_2 x34_2).f0), ((rd_T95 x878006_2 x34_2).f1), 0, 0, 4⟩ : S95) ) (fun _ hk => hk)
               have hx69_0 := hcc69 0 _ rfl
               (try simp only [show (k95).sz = 5 from rfl, Nat.mul_one, Nat.add_zero] at hx69_0)
               have hf69_0 := hfr69 0
               (try simp only [show (k95).sz = 5 from rfl, Nat.mul_one, Nat.add_zero] at hf69_0)
               have hx69_1 := hcc69 1 _ rfl
               (try simp only [show (k95).sz = 5 from rfl, Nat.mul_one, Nat.add_zero] at hx69_1)
               have hf69_1 := hfr69 1
               (try simp only [show (k95).sz = 5 from rfl, Nat.mul_one, Nat.add_zero] at hf69_1)
               have hx69_2 := hcc69 2 _ rfl
               (try simp only [show (k95).sz = 5 from rfl, Nat.mul_one, Nat.add_zero] at hx69_2)
               have hf69_2 := hfr69 2
               (try simp only [show (k95).sz = 5 from rfl, Nat.mul_one, Nat.add_zero] at hf69_2)
               have hx69_3 := hcc69 3 _ rfl
               (try simp only [show (k95).sz = 5 from rfl, Nat.mul_one, Nat.add_zero] at hx69_3)
               have hf69_3 := hfr69 3
               (try simp only [show (k95).sz = 5 from rfl, Nat.mul_one, Nat.add_zero] at hf69_3)
               have hx69_4 := hcc69 4 _ rfl
               (try simp only [show (k95).sz = 5 from rfl, Nat.mul_one, Nat.add_zero] at hx69_4)
               have hf69_4 := hfr69 4
               (try simp only [show (k95).sz = 5 from rfl, Nat.mul_one, Nat.add_zero] at hf69_4)
               clear hcl69 hcc69 hfr69; (try clear hM69)
               go_wp2_with (first | ((with_reducible refine gate_store (t := 95) (p := 60) rfl ?_); refine store_event (t := 95) (p := 60) (v := ?vo_w70) (w1 := (((((wc.setCell ⟨go61, (x34_2 : Int).toNat * 5, none⟩ (.int .i64 ((rd_T95 x878006_2 x34_2).f0))).setCell ⟨go61, (x34_2 : Int).toNat * 5 + 1, none⟩ (.int .i64 ((rd_T95 x878006_2 x34_2).f1))).setCell ⟨go61, (x34_2 : Int).toNat * 5 + 2, none⟩ (.int .i64 0)).setCell ⟨go61, (x34_2 : Int).toNat * 5 + 3, none⟩ (.int .i64 0)).setCell ⟨go61, (x34_2 : Int).toNat * 5 + 4, none⟩ (.int .i64 4))) ?hg ?ho ?hn ?hr ?_; (case ho => rfl); (case hg => rfl); (case hn => rfl); (case hr => first | (go_simp; done) | (go_simp; rfl)); intro w70 hw; have hg : wc.grownBy w70 (some go61) := (by rw [hw]; exact HP69.2); have hp_ : Kd.R k95 95 w70 w.heap.size (fun k_ => k_ ≠ gb879) (.slice (some ⟨go61, 0, none⟩) x878006_2.length co36) y880 := (by rw [hw, Ny880.out]; exact HP69.1); clear HP69; replace HO_878000 := dk (Kd.R_over' (v := (.slice (some ⟨go61, 0, none⟩) x878006_2.length co36)) (rr HO_878000) (Kd.R_typed HO_878006.out) (by decide) hg); replace HO_878004 := dk (Kd.R_over' (v := (.slice (some ⟨go61, 0, none⟩) x878006_2.length co36)) (rr HO_878004) (Kd.R_typed HO_878006.out) (by decide) hg); replace HO_878007 := dk (Kd.R_over' (v := (.slice (some ⟨go61, 0, none⟩) x878006_2.length co36)) (rr HO_878007) (Kd.R_typed HO_878006.out) (by decide) hg); replace HO_878008 := dk (Kd.R_over' (v := (.slice (some ⟨go61, 0, none⟩) x878006_2.length co36)) (rr HO_878008) (Kd.R_typed HO_878006.out) (by decide) hg); replace BK853 := dk (blk_grown (g := gb853) (o := .cells #[.slice A0_0 l0_0.length c0_0, .int .i64 a0_1, .int .i64 a0_2, .int .i64 a0_3, .slice A0_4 l0_4.length c0_4, .bool a0_5, .slice A0_6 l0_6.length c0_6, .slice A0_7 l0_7.length c0_7, .slice A0_8 l0_8.length c0_8] 36 (0, 0)) (bk BK853) hg (Kd.R_ne HO_878006.out BK853.out (by decide))); replace BK854 := dk (blk_grown (g := gb854) (o := .cells #[.slice none 0 0, .int .i64 0, .int .i64 0, .int .i64 0, .slice none 0 0, .bool false, .slice none 0 0, .slice none 0 0, .slice none 0 0] 36 (0, 0)) (bk BK854) hg (Kd.R_ne HO_878006.out BK854.out (by decide))); replace BK877 := dk (blk_grown (g := gb877) (o := .cells #[.slice Ao31 t858.length co31, .int .i64 t861, .int .i64 t862, .int .i64 t863, .slice Ao35 t864.length co35, .bool t867, .slice (some ⟨go61, 0, none⟩) x878006_2.length co36, .slice Ao37 t871.length co37, .slice Ao38 t874.length co38] 36 (0, 0)) (bk BK877) hg (Kd.R_ne HO_878006.out BK877.out (by decide))); replace BK879 := dk (blk_grown (g := gb879) (o := .cells #[.int .i64 ((rd_T95 x878006_2 x34_2).f0), .int .i64 ((rd_T95 x878006_2 x34_2).f1), .int .i64 ((rd_T95 x878006_2 x34_2).f2), .int .i64 ((rd_T95 x878006_2 x34_2).f3), .int .i64 ((rd_T95 x878006_2 x34_2).f4)] 95 (0, 0)) (bk BK879) hg (Kd.R_away HO_878006.out (fun _ hk => hk))); replace HO_878006 := dk (hp_); replace HB := dk (by rw [hw]; exact below_set (below_set (below_set (below_set (below_set (HB.out) GB61.out) GB61.out) GB61.out) GB61.out) GB61.out : Below w.heap.size w w70); clear hg hw hp_))
               (try simp only [← hl878006_2])
               go_roundg kj41
               case measure => have := HJ3.out; have := HK2.out; have := HJ41.out; omega
               case rel => exact ⟨(wrap64 (x34_2 + 1)), (y880), e2_, H', ⟨by have := HJ3.out; have := HK2.out; have := HJ41.out; omega⟩, ⟨by (try simp only [hl878006_2]); (with_reducible repeat (first | apply Kd.R_alloc | apply Kd.R_drewN | apply Kd.R_drew)); exact HO_878000.out⟩, ⟨by (try simp only [hl878006_2]); (with_reducible repeat (first | apply Kd.R_alloc | apply Kd.R_drewN | apply Kd.R_drew)); exact HO_878004.out⟩, ⟨by (try simp only [hl878006_2]); (with_reducible repeat (first | apply Kd.R_alloc | apply Kd.R_drewN | apply Kd.R_drew)); exact Kd.R_mono HO_878006.out (fun _ hk => trivial)⟩, ⟨by (try simp only [hl878006_2]); (with_reducible repeat (first | apply Kd.R_alloc | apply Kd.R_drewN | apply Kd.R_drew)); exact HO_878007.out⟩, ⟨by (try simp only [hl878006_2]); (with_reducible repeat (first | apply Kd.R_alloc | apply Kd.R_drewN | apply Kd.R_drew)); exact HO_878008.out⟩, ⟨by (try simp only [hl878006_2]); (with_reducible repeat (first | refine blk_drewN ?_ _ | refine blk_drew ?_ | refine blk_alloc ?_ _)); exact BK853.out⟩, ⟨by (try simp only [hl878006_2]); (with_reducible repeat (first | refine blk_drewN ?_ _ | refine blk_drew ?_ | refine blk_alloc ?_ _)); exact BK854.out⟩, ⟨by (try simp only [hl878006_2]); (with_reducible repeat (first | refine blk_drewN ?_ _ | refine blk_drew ?_ | refine blk_alloc ?_ _)); exact BK877.out⟩, ⟨bb HB⟩⟩
              ·rw [if_neg c60] at H
               exact absurd H (by simp)
             ·rw [if_neg c59] at H
              exact absurd H (by simp)
            ·rw [if_neg c58] at H
             have c58b0 : (a2 == 1) = false := beq_eq_false_iff_ne.mpr c58
             have c58b1 : (a2 != 1) = true := bne_iff_ne.mpr c58
             replace H := Option.bind_eq_some_iff.mp H
             obtain ⟨t881, A710, H⟩ := H
             replace H : (if t881 = true then ((spec_l21Award.f ((rd_T95 x878006_2 x34_2).f0) ((rd_T95 x878006_2 x34_2).f1) ((rd_T95 x878006_2 x34_2).f2) ((rd_T95 x878006_2 x34_2).f3) ((rd_T95 x878006_2 x34_2).f4) (wrap64 ((wrap64 (((rd_T95 x878006_2 x34_2).f0) + ((rd_T95 x878006_2 x34_2).f1))) - a1))).bind fun bt882 => (if 0 ≤ x34_2 then (if x34_2 < (x878006_2.length : Int) then (spec_Withdraw.l0 kj41 a1 a2 (t868.length : Int) (wrap64 (x34_2 + 1)) t858 t861 t862 t863 t864 t867 (x878006_2.set (x34_2 : Int).toNat (⟨bt882.1, bt882.2.1, bt882.2.2.1, bt882.2.2.2.1, bt882.2.2.2.2⟩ : S95)) t871 t874) else (none)) else (none))) else (spec_Withdraw.l0 kj41 a1 a2 (t868.length : Int) (wrap64 (x34_2 + 1)) t858 t861 t862 t863 t864 t867 x878006_2 t871 t874)) = some (r1, r2, r3, r4, r5, r6, r7, r8, r9, r10) := H
             have A71 := dk A710
             clear A710
             by_cases c72 : t881 = true
             ·subst c72
              have H1 : ((spec_l21Award.f ((rd_T95 x878006_2 x34_2).f0) ((rd_T95 x878006_2 x34_2).f1) ((rd_T95 x878006_2 x34_2).f2) ((rd_T95 x878006_2 x34_2).f3) ((rd_T95 x878006_2 x34_2).f4) (wrap64 ((wrap64 (((rd_T95 x878006_2 x34_2).f0) + ((rd_T95 x878006_2 x34_2).f1))) - a1))).bind fun bt882 => (if 0 ≤ x34_2 then (if x34_2 < (x878006_2.length : Int) then (spec_Withdraw.l0 kj41 a1 a2 (t868.length : Int) (wrap64 (x34_2 + 1)) t858 t861 t862 t863 t864 t867 (x878006_2.set (x34_2 : Int).toNat (⟨bt882.1, bt882.2.1, bt882.2.2.1, bt882.2.2.2.1, bt882.2.2.2.2⟩ : S95)) t871 t874) else (none)) else (none))) = some (r1, r2, r3, r4, r5, r6, r7, r8, r9, r10) := by rw [if_pos rfl] at H; exact H
              clear H
              have H := H1
              clear H1
              replace H := Option.bind_eq_some_iff.mp H
              obtain ⟨⟨t882, t883, t884, t885, t886⟩, A730, H⟩ := H
              replace H : (if 0 ≤ x34_2 then (if x34_2 < (x878006_2.length : Int) then (spec_Withdraw.l0 kj41 a1 a2 (t868.length : Int) (wrap64 (x34_2 + 1)) t858 t861 t862 t863 t864 t867 (x878006_2.set (x34_2 : Int).toNat (⟨t882, t883, t884, t885, t886⟩ : S95)) t871 t874) else (none)) else (none)) = some (r1, r2, r3, r4, r5, r6, r7, r8, r9, r10) := H
              have A73 := dk A730
              clear A730
              by_cases c74 : 0 ≤ x34_2
              ·rw [if_pos c74] at H
               have c74b0 : decide (0 ≤ x34_2) = true := decide_eq_true c74
               clear c74
               by_cases c75 : x34_2 < (x878006_2.length : Int)
               ·rw [if_pos c75] at H
                have c75b0 : decide (x34_2 < (x878006_2.length : Int)) = true := decide_eq_true c75
                clear c75
                obtain ⟨y887, hy887⟩ : ∃ y_ : List (S95), y_ = (x878006_2.set (x34_2 : Int).toNat (⟨t882, t883, t884, t885, t886⟩ : S95)) := ⟨_, rfl⟩
                replace H : (spec_Withdraw.l0 kj41 a1 a2 (t868.length : Int) (wrap64 (x34_2 + 1)) t858 t861 t862 t863 t864 t867 y887 t871 t874) = some (r1, r2, r3, r4, r5, r6, r7, r8, r9, r10) := by first | (rw [hy887]; with_reducible exact H) | (have H2_ := (Option.bind_some _ _).symm.trans H; rw [hy887]; with_reducible exact H2_) | (have H2_ := (Option.bind_some _ _).symm.trans H; with_reducible exact H2_) | with_reducible exact H | (rw [hy887]; exact H) | exact H
                have Ny887 := dk hy887
                clear hy887
                have H' := dk H
                clear H
                have hnb77 := NB879_853.out
                have hnc77 := NB853_879.out
                have hnb78 := NB879_854.out
                have hnc78 := NB854_879.out
                have hnb79 := NB879_877.out
                have hnc79 := NB877_879.out
                have ⟨z80_0, z80_1, z80_2, z80_3, z80_4, v80_0, v80_1, v80_2, v80_3, v80_4⟩ := rz5 BK879
                try go_wp2_with (first | ((with_reducible refine gate_callee (f := 77) rfl ?_); refine gl (some 63) Try.func77 #[.agg #[.int .i64 ((rd_T95 x878006_2 x34_2).f0), .int .i64 ((rd_T95 x878006_2 x34_2).f1), .int .i64 ((rd_T95 x878006_2 x34_2).f2), .int .i64 ((rd_T95 x878006_2 x34_2).f3), .int .i64 ((rd_T95 x878006_2 x34_2).f4)]] ?_; (with_reducible refine (spec_IsOpen.calls ((rd_T95 x878006_2 x34_2).f0) ((rd_T95 x878006_2 x34_2).f1) ((rd_T95 x878006_2 x34_2).f2) ((rd_T95 x878006_2 x34_2).f3) ((rd_T95 x878006_2 x34_2).f4) true _ A71.out).mono ?_); rintro e w81 ⟨rfl, hb⟩; refine ⟨_, rfl, ?_⟩; replace HO_878000 := kr HO_878000 hb; replace HO_878004 := kr HO_878004 hb; replace HO_878006 := kr HO_878006 hb; replace HO_878007 := kr HO_878007 hb; replace HO_878008 := kr HO_878008 hb; replace BK853 := kb BK853 hb; replace BK854 := kb BK854 hb; replace BK877 := kb BK877 hb; replace BK879 := kb BK879 hb; replace HB := hs_ HB hb; (try clear hb hb2 hk hi)))
                replace HO_878000 := dk (Kd.R_drew HO_878000.out)
                replace HO_878004 := dk (Kd.R_drew HO_878004.out)
                replace HO_878006 := dk (Kd.R_drew HO_878006.out)
                replace HO_878007 := dk (Kd.R_drew HO_878007.out)
                replace HO_878008 := dk (Kd.R_drew HO_878008.out)
                replace BK853 := dk (blk_drew BK853.out)
                replace BK854 := dk (blk_drew BK854.out)
                replace BK877 := dk (blk_drew BK877.out)
                replace BK879 := dk (blk_drew BK879.out)
                replace HB := dk (below_drew1 HB.out)
                refine start_ (n := 14) (S := fun w' => w'.cell? ⟨gb877, 0, none⟩ = some (.slice Ao31 t858.length co31) ∧ w'.cell? ⟨gb877, 1, none⟩ = some (.int .i64 t861) ∧ w'.cell? ⟨gb877, 2, none⟩ = some (.int .i64 t862) ∧ w'.cell? ⟨gb877, 3, none⟩ = some (.int .i64 t863) ∧ w'.cell? ⟨gb877, 4, none⟩ = some (.slice Ao35 t864.length co35) ∧ w'.cell? ⟨gb877, 5, none⟩ = some (.bool t867) ∧ w'.cell? ⟨gb877, 6, none⟩ = some (.slice (some ad878) x878006_2.length co36) ∧ w'.cell? ⟨gb877, 7, none⟩ = some (.slice Ao37 t871.length co37) ∧ w'.cell? ⟨gb877, 8, none⟩ = some (.slice Ao38 t874.length co38) ∧ w'.cell? ⟨gb879, 0, none⟩ = some (.int .i64 ((rd_T95 x878006_2 x34_2).f0)) ∧ w'.cell? ⟨gb879, 1, none⟩ = some (.int .i64 ((rd_T95 x878006_2 x34_2).f1)) ∧ w'.cell? ⟨gb879, 2, none⟩ = some (.int .i64 ((rd_T95 x878006_2 x34_2).f2)) ∧ w'.cell? ⟨gb879, 3, none⟩ = some (.int .i64 ((rd_T95 x878006_2 x34_2).f3)) ∧ w'.cell? ⟨gb879, 4, none⟩ = some (.int .i64 ((rd_T95 x878006_2 x34_2).f4))) (ds := [13]) #[false, false, false, false, false, false, false, false, false, false, false, false, false, false] (by kernel_rfl) rfl rfl ⟨bc BK877 0, bc BK877 1, bc BK877 2, bc BK877 3, bc BK877 4, bc BK877 5, bc BK877 6, bc BK877 7, bc BK877 8, bc BK879 0, bc BK879 1, bc BK879 2, bc BK879 3, bc BK879 4⟩ (fun hHeld => ?_); refine with_tabW spec_Withdraw.tab11 spec_Withdraw.bits11 (fun HT_ HW_ => ?_)
                generalize w81.drew = w82 at HO_878000 HO_878004 HO_878006 HO_878007 HO_878008 BK853 BK854 BK877 BK879 HB hHeld ⊢
                refine pz_ 0 64 ?_
                refine pz_ 2 66 ?_
                refine pz_ 4 68 ?_
                refine pz_ 6 70 ?_
                refine pz_ 9 73 ?_
                refine take_ (i := 1) (N := some 65) (v := ?_) (a' := ?_) #[true, true, true, false, true, false, true, false, false, true, false, false, false, false] rfl rfl (take_ofW HT_.out HW_.out (by kernel_rfl)) (fun _ _ _ h => h) (Or.inl ⟨by rfl, ?_⟩) hHeld ?_ ?_
                rotate_left
                ·rintro w' ⟨s0, s1, s2, s3, s4, s5, s6, s7, s8, s9, s10, s11, s12, s13⟩
                 go_simp
                 with_reducible rfl
                rotate_left
                ·simp only [Act.put, List.setIfInBounds_toArray, List.set_cons_zero, List.set_cons_succ, i64_w, i32_w]
                 rfl
                refine take_ (i := 3) (N := some 67) (v := ?_) (a' := ?_) #[true, true, true, true, true, false, true, false, false, true, false, false, false, false] rfl rfl (take_ofW HT_.out HW_.out (by kernel_rfl)) (fun _ _ _ h => h) (Or.inl ⟨by rfl, ?_⟩) hHeld ?_ ?_
                rotate_left
                ·rintro w' ⟨s0, s1, s2, s3, s4, s5, s6, s7, s8, s9, s10, s11, s12, s13⟩
                 go_simp
                 with_reducible rfl
                rotate_left
                ·simp only [Act.put, List.setIfInBounds_toArray, List.set_cons_zero, List.set_cons_succ, i64_w, i32_w]
                 rfl
                refine take_ (i := 5) (N := some 69) (v := ?_) (a' := ?_) #[true, true, true, true, true, true, true, false, false, true, false, false, false, false] rfl rfl (take_ofW HT_.out HW_.out (by kernel_rfl)) (fun _ _ _ h => h) (Or.inl ⟨by rfl, ?_⟩) hHeld ?_ ?_
                rotate_left
                ·rintro w' ⟨s0, s1, s2, s3, s4, s5, s6, s7, s8, s9, s10, s11, s12, s13⟩
                 go_simp
                 with_reducible rfl
                rotate_left
                ·simp only [Act.put, List.setIfInBounds_toArray, List.set_cons_zero, List.set_cons_succ, i64_w, i32_w]
                 rfl
                refine take_ (i := 7) (N := some 71) (v := ?_) (a' := ?_) #[true, true, true, true, true, true, true, true, false, true, false, false, false, false] rfl rfl (take_ofW HT_.out HW_.out (by kernel_rfl)) (fun _ _ _ h => h) (Or.inl ⟨by rfl, ?_⟩) hHeld ?_ ?_
                rotate_left
                ·rintro w' ⟨s0, s1, s2, s3, s4, s5, s6, s7, s8, s9, s10, s11, s12, s13⟩
                 go_simp
                 with_reducible rfl
                rotate_left
                ·simp only [Act.put, List.setIfInBounds_toArray, List.set_cons_zero, List.set_cons_succ, i64_w, i32_w]
                 rfl
                refine pz_ 8 72 ?_
                refine pz_ 10 74 ?_
                refine one_ (i := 11) (N := some 75) #[true, true, true, true, true, true, true, true, true, true, true, true, false, false] rfl rfl (one_of HT_.out (by kernel_rfl)) (by decide) (fun K hK => ?_)
                refine goes_ Try.func58 (by kernel_rfl) rfl #[.agg #[.int .i64 ((rd_T95 x878006_2 x34_2).f0), .int .i64 ((rd_T95 x878006_2 x34_2).f1), .int .i64 ((rd_T95 x878006_2 x34_2).f2), .int .i64 ((rd_T95 x878006_2 x34_2).f3), .int .i64 ((rd_T95 x878006_2 x34_2).f4)], .int .i64 (wrap64 ((wrap64 (((rd_T95 x878006_2 x34_2).f0) + ((rd_T95 x878006_2 x34_2).f1))) - a1))] (by rfl) rfl rfl (by (try simp only [List.map_toArray, List.map_cons, List.map_nil]); first | done | rfl | (simp only [List.length_drop, List.length_take]; rfl)) ?_
                with_reducible refine (spec_l21Award.calls ((rd_T95 x878006_2 x34_2).f0) ((rd_T95 x878006_2 x34_2).f1) ((rd_T95 x878006_2 x34_2).f2) ((rd_T95 x878006_2 x34_2).f3) ((rd_T95 x878006_2 x34_2).f4) (wrap64 ((wrap64 (((rd_T95 x878006_2 x34_2).f0) + ((rd_T95 x878006_2 x34_2).f1))) - a1)) t882 t883 t884 t885 t886 _ A73.out).mono ?_
                rintro e w83 ⟨rfl, hb⟩
                refine ⟨_, rfl, ?_⟩
                replace HO_878000 := kr HO_878000 hb
                replace HO_878004 := kr HO_878004 hb
                replace HO_878006 := kr HO_878006 hb
                replace HO_878007 := kr HO_878007 hb
                replace HO_878008 := kr HO_878008 hb
                replace BK853 := kb BK853 hb
                replace BK854 := kb BK854 hb
                replace BK877 := kb BK877 hb
                replace BK879 := kb BK879 hb
                replace HB := hs_ HB hb
                (try clear hb hb2 hk hi)
                have p76 : 0 ≤ (x34_2 : Int) := oa
                have q76 : (x34_2 : Int) < ((x878006_2.length : Int) : Int) := oa
                obtain ⟨go76, co76, eo76, gb76, gl76, cl76, HG76⟩ := Kd.R_form HO_878006.out (by omega)
                (first | cases eo76 | (injection eo76 with ea_ en_ ec_; (first | subst ea_ | (injection ea_ with ea_; subst ea_)); subst ec_; clear en_))
                have GB76 := dk gb76
                have GG76 := dk HG76
                clear gb76 gl76 HG76
                obtain ⟨ce76, hcl76, hM76, hcc76, hfr76⟩ := Kd.R_elem HO_878006.out z95 (x34_2 : Int) p76 q76
                obtain rfl := k95_openM hM76
                have hx76_0 : World.cell? _ ⟨go76, (x34_2 : Int).toNat * 5, none⟩ = some (.int .i64 ((rd_T95 x878006_2 x34_2).f0)) := hcc76 0 _ rfl
                have hx76_1 : World.cell? _ ⟨go76, (x34_2 : Int).toNat * 5 + 1, none⟩ = some (.int .i64 ((rd_T95 x878006_2 x34_2).f1)) := hcc76 1 _ rfl
                have hx76_2 : World.cell? _ ⟨go76, (x34_2 : Int).toNat * 5 + 2, none⟩ = some (.int .i64 ((rd_T95 x878006_2 x34_2).f2)) := hcc76 2 _ rfl
                have hx76_3 : World.cell? _ ⟨go76, (x34_2 : Int).toNat * 5 + 3, none⟩ = some (.int .i64 ((rd_T95 x878006_2 x34_2).f3)) := hcc76 3 _ rfl
                have hx76_4 : World.cell? _ ⟨go76, (x34_2 : Int).toNat * 5 + 4, none⟩ = some (.int .i64 ((rd_T95 x878006_2 x34_2).f4)) := hcc76 4 _ rfl
                have hf76_0 : World.frozen? _ ⟨go76, (x34_2 : Int).toNat * 5, none⟩ = false := hfr76 0
                have hf76_1 : World.frozen? _ ⟨go76, (x34_2 : Int).toNat * 5 + 1, none⟩ = false := hfr76 1
                have hf76_2 : World.frozen? _ ⟨go76, (x34_2 : Int).toNat * 5 + 2, none⟩ = false := hfr76 2
                have hf76_3 : World.frozen? _ ⟨go76, (x34_2 : Int).toNat * 5 + 3, none⟩ = false := hfr76 3
                have hf76_4 : World.frozen? _ ⟨go76, (x34_2 : Int).toNat * 5 + 4, none⟩ = false := hfr76 4
                clear hcl76 hcc76 hfr76; (try clear hM76)
                replace p76 := eq_true p76
                replace q76 := eq_true q76
                obtain ⟨ce84, hcl84, hM84, hcc84, hfr84⟩ := Kd.R_elem HO_878006.out z95 (x34_2 : Int) (oa) (by have h_ : (x34_2 : Int) < ((x878006_2.length : Int) : Int) := oa; first | exact h_ | (have e_ := (Kd.R_reads' HO_878006.out).1; omega) | simpa using h_)
                obtain rfl := k95_openM hM84
                have HP84 := (Kd.R_seg HO_878006.out (x34_2 : Int) (oa) (by have h_ : (x34_2 : Int) < ((x878006_2.length : Int) : Int) := oa; first | exact h_ | (have e_ := (Kd.R_reads' HO_878006.out).1; omega) | simpa using h_) (seg := [.int .i64 t882, .int .i64 t883, .int .i64 t884, .int .i64 t885, .int .i64 t886]) (j := 0) hcl84 hcc84 (show 5 ≤ 5 from by decide) (x' := (⟨t882, t883, t884, t885, t886⟩ : S95)) (k95_mkM _ _ _ (⟨t882, t883, t884, t885, t886⟩ : S95) ) (fun _ hk => hk)).1
                rw [← Ny887.out] at HP84
                have HQ84 := dk HP84
                clear hcl84 hcc84 hfr84 hM84 HP84
                refine hK.out _ _ ⟨bc BK877 0, bc BK877 1, bc BK877 2, bc BK877 3, bc BK877 4, bc BK877 5, bc BK877 6, bc BK877 7, bc BK877 8, bc BK879 0, bc BK879 1, bc BK879 2, bc BK879 3, bc BK879 4⟩ (fun hHeld => ?_)
                clear hK K
                refine norm_ (a' := ?_) ?_ ?_
                rotate_left
                ·show Act.put _ (some 75) _ = _
                 simp only [Act.put, List.setIfInBounds_toArray, List.set_cons_zero, List.set_cons_succ, i64_w, i32_w]
                 rfl
                refine pz_ 12 76 ?_
                refine last_ (i := 13) (N := none) #[true, true, true, true, true, true, true, true, true, true, true, true, true, true] rfl rfl (one_of HT_.out (by kernel_rfl)) (by decide) (fun K hK => ?_)
                refine skip_ (w1 := ?_) (by rfl) rfl ?_ ?_
                rotate_left
                ·go_simp
                 rfl
                refine hK.out _ _ ?_
                clear hK K
                refine done_ (done_of HT_.out (by kernel_rfl)) ?_
                try go_wp2
                (try simp only [← hl878006_2])
                go_roundg kj41
                case measure => have := HJ3.out; have := HK2.out; have := HJ41.out; omega
                case rel => exact ⟨(wrap64 (x34_2 + 1)), (y887), e2_, H', ⟨by have := HJ3.out; have := HK2.out; have := HJ41.out; omega⟩, ⟨by (try simp only [hl878006_2]); (with_reducible repeat (first | apply Kd.R_alloc | apply Kd.R_drewN | apply Kd.R_drew)); exact Kd.R_mono (Kd.R_far (p := ⟨go76, (x34_2 : Int).toNat * 5 + 4, none⟩) (Kd.R_far (p := ⟨go76, (x34_2 : Int).toNat * 5 + 3, none⟩) (Kd.R_far (p := ⟨go76, (x34_2 : Int).toNat * 5 + 2, none⟩) (Kd.R_far (p := ⟨go76, (x34_2 : Int).toNat * 5 + 1, none⟩) (Kd.R_far (p := ⟨go76, (x34_2 : Int).toNat * 5, none⟩) (Kd.R_types HO_878000.out GG76.out (by decide)) (fun _ hk => hk.2) (.int .i64 t882)) (fun _ hk => hk.2) (.int .i64 t883)) (fun _ hk => hk.2) (.int .i64 t884)) (fun _ hk => hk.2) (.int .i64 t885)) (fun _ hk => hk.2) (.int .i64 t886)) (fun _ hk => trivial)⟩, ⟨by (try simp only [hl878006_2]); (with_reducible repeat (first | apply Kd.R_alloc | apply Kd.R_drewN | apply Kd.R_drew)); exact Kd.R_mono (Kd.R_far (p := ⟨go76, (x34_2 : Int).toNat * 5 + 4, none⟩) (Kd.R_far (p := ⟨go76, (x34_2 : Int).toNat * 5 + 3, none⟩) (Kd.R_far (p := ⟨go76, (x34_2 : Int).toNat * 5 + 2, none⟩) (Kd.R_far (p := ⟨go76, (x34_2 : Int).toNat * 5 + 1, none⟩) (Kd.R_far (p := ⟨go76, (x34_2 : Int).toNat * 5, none⟩) (Kd.R_types HO_878004.out GG76.out (by decide)) (fun _ hk => hk.2) (.int .i64 t882)) (fun _ hk => hk.2) (.int .i64 t883)) (fun _ hk => hk.2) (.int .i64 t884)) (fun _ hk => hk.2) (.int .i64 t885)) (fun _ hk => hk.2) (.int .i64 t886)) (fun _ hk => ⟨hk.1.1, hk.1.2⟩)⟩, ⟨by (try simp only [hl878006_2]); (with_reducible repeat (first | apply Kd.R_alloc | apply Kd.R_drewN | apply Kd.R_drew)); exact Kd.R_mono HQ84.out (fun _ hk => trivial)⟩, ⟨by (try simp only [hl878006_2]); (with_reducible repeat (first | apply Kd.R_alloc | apply Kd.R_drewN | apply Kd.R_drew)); exact Kd.R_mono (Kd.R_far (p := ⟨go76, (x34_2 : Int).toNat * 5 + 4, none⟩) (Kd.R_far (p := ⟨go76, (x34_2 : Int).toNat * 5 + 3, none⟩) (Kd.R_far (p := ⟨go76, (x34_2 : Int).toNat * 5 + 2, none⟩) (Kd.R_far (p := ⟨go76, (x34_2 : Int).toNat * 5 + 1, none⟩) (Kd.R_far (p := ⟨go76, (x34_2 : Int).toNat * 5, none⟩) (Kd.R_types HO_878007.out GG76.out (by decide)) (fun _ hk => hk.2) (.int .i64 t882)) (fun _ hk => hk.2) (.int .i64 t883)) (fun _ hk => hk.2) (.int .i64 t884)) (fun _ hk => hk.2) (.int .i64 t885)) (fun _ hk => hk.2) (.int .i64 t886)) (fun _ hk => ⟨hk.1.1, hk.1.2⟩)⟩, ⟨by (try simp only [hl878006_2]); (with_reducible repeat (first | apply Kd.R_alloc | apply Kd.R_drewN | apply Kd.R_drew)); exact Kd.R_mono (Kd.R_far (p := ⟨go76, (x34_2 : Int).toNat * 5 + 4, none⟩) (Kd.R_far (p := ⟨go76, (x34_2 : Int).toNat * 5 + 3, none⟩) (Kd.R_far (p := ⟨go76, (x34_2 : Int).toNat * 5 + 2, none⟩) (Kd.R_far (p := ⟨go76, (x34_2 : Int).toNat * 5 + 1, none⟩) (Kd.R_far (p := ⟨go76, (x34_2 : Int).toNat * 5, none⟩) (Kd.R_types HO_878008.out GG76.out (by decide)) (fun _ hk => hk.2) (.int .i64 t882)) (fun _ hk => hk.2) (.int .i64 t883)) (fun _ hk => hk.2) (.int .i64 t884)) (fun _ hk => hk.2) (.int .i64 t885)) (fun _ hk => hk.2) (.int .i64 t886)) (fun _ hk => ⟨hk.1.1, hk.1.2⟩)⟩, ⟨by (try simp only [hl878006_2]); exact bg HO_878006 BK853⟩, ⟨by (try simp only [hl878006_2]); exact bg HO_878006 BK854⟩, ⟨by (try simp only [hl878006_2]); exact bg HO_878006 BK877⟩, ⟨bb HB⟩⟩
               ·rw [if_neg c75] at H
                exact absurd H (by simp)
              ·rw [if_neg c74] at H
               exact absurd H (by simp)
             ·replace c72 := Bool.eq_false_iff.mpr c72
              subst c72
              have H1 : (spec_Withdraw.l0 kj41 a1 a2 (t868.length : Int) (wrap64 (x34_2 + 1)) t858 t861 t862 t863 t864 t867 x878006_2 t871 t874) = some (r1, r2, r3, r4, r5, r6, r7, r8, r9, r10) := by rw [if_neg (show ¬ (false = true) by decide)] at H; exact H
              clear H
              have H := H1
              clear H1
              have H' := dk H
              clear H
              have hnb85 := NB879_853.out
              have hnc85 := NB853_879.out
              have hnb86 := NB879_854.out
              have hnc86 := NB854_879.out
              have hnb87 := NB879_877.out
              have hnc87 := NB877_879.out
              have ⟨z88_0, z88_1, z88_2, z88_3, z88_4, v88_0, v88_1, v88_2, v88_3, v88_4⟩ := rz5 BK879
              go_wp2_with (first | ((with_reducible refine gate_callee (f := 77) rfl ?_); refine gl (some 63) Try.func77 #[.agg #[.int .i64 ((rd_T95 x878006_2 x34_2).f0), .int .i64 ((rd_T95 x878006_2 x34_2).f1), .int .i64 ((rd_T95 x878006_2 x34_2).f2), .int .i64 ((rd_T95 x878006_2 x34_2).f3), .int .i64 ((rd_T95 x878006_2 x34_2).f4)]] ?_; (with_reducible refine (spec_IsOpen.calls ((rd_T95 x878006_2 x34_2).f0) ((rd_T95 x878006_2 x34_2).f1) ((rd_T95 x878006_2 x34_2).f2) ((rd_T95 x878006_2 x34_2).f3) ((rd_T95 x878006_2 x34_2).f4) false _ A71.out).mono ?_); rintro e w89 ⟨rfl, hb⟩; refine ⟨_, rfl, ?_⟩; replace HO_878000 := kr HO_878000 hb; replace HO_878004 := kr HO_878004 hb; replace HO_878006 := kr HO_878006 hb; replace HO_878007 := kr HO_878007 hb; replace HO_878008 := kr HO_878008 hb; replace BK853 := kb BK853 hb; replace BK854 := kb BK854 hb; replace BK877 := kb BK877 hb; replace BK879 := kb BK879 hb; replace HB := hs_ HB hb; (try clear hb hb2 hk hi)))
              (try simp only [← hl878006_2])
              go_roundg kj41
              case measure => have := HJ3.out; have := HK2.out; have := HJ41.out; omega
              case rel => exact ⟨(wrap64 (x34_2 + 1)), (x878006_2), e2_, H', ⟨by have := HJ3.out; have := HK2.out; have := HJ41.out; omega⟩, ⟨by (try simp only [hl878006_2]); (with_reducible repeat (first | apply Kd.R_alloc | apply Kd.R_drewN | apply Kd.R_drew)); exact HO_878000.out⟩, ⟨by (try simp only [hl878006_2]); (with_reducible repeat (first | apply Kd.R_alloc | apply Kd.R_drewN | apply Kd.R_drew)); exact HO_878004.out⟩, ⟨by (try simp only [hl878006_2]); (with_reducible repeat (first | apply Kd.R_alloc | apply Kd.R_drewN | apply Kd.R_drew)); exact Kd.R_mono HO_878006.out (fun _ hk => trivial)⟩, ⟨by (try simp only [hl878006_2]); (with_reducible repeat (first | apply Kd.R_alloc | apply Kd.R_drewN | apply Kd.R_drew)); exact HO_878007.out⟩, ⟨by (try simp only [hl878006_2]); (with_reducible repeat (first | apply Kd.R_alloc | apply Kd.R_drewN | apply Kd.R_drew)); exact HO_878008.out⟩, ⟨by (try simp only [hl878006_2]); (with_reducible repeat (first | refine blk_drewN ?_ _ | refine blk_drew ?_ | refine blk_alloc ?_ _)); exact BK853.out⟩, ⟨by (try simp only [hl878006_2]); (with_reducible repeat (first | refine blk_drewN ?_ _ | refine blk_drew ?_ | refine blk_alloc ?_ _)); exact BK854.out⟩, ⟨by (try simp only [hl878006_2]); (with_reducible repeat (first | refine blk_drewN ?_ _ | refine blk_drew ?_ | refine blk_alloc ?_ _)); exact BK877.out⟩, ⟨bb HB⟩⟩
        ·rw [if_neg c41] at H
         exact absurd H (by simp)
       ·rw [if_neg c40] at H
        exact absurd H (by simp)
      ·rw [if_neg c39] at H
       have c39b0 : decide (x34_2 < (t868.length : Int)) = false := decide_eq_false c39
       have c39r0 := c39b0
       (try simp only [hl878006_2] at c39r0)
       clear c39
       simp only [Option.some.injEq, Prod.mk.injEq] at H
       obtain ⟨rfl, rfl, rfl, rfl, rfl, rfl, rfl, rfl, rfl, rfl⟩ := H
       have hnb90 := NB877_853.out
       have hnc90 := NB853_877.out
       have hnb91 := NB877_854.out
       have hnc91 := NB854_877.out
       have ⟨z92_0, z92_1, z92_2, z92_3, z92_4, z92_5, z92_6, z92_7, z92_8, v92_0, v92_1, v92_2, v92_3, v92_4, v92_5, v92_6, v92_7, v92_8⟩ := rz9 BK877
       have hnb93 := NB854_853.out
       have hnc93 := NB853_854.out
       have ⟨z94_0, z94_1, z94_2, z94_3, z94_4, z94_5, z94_6, z94_7, z94_8, v94_0, v94_1, v94_2, v94_3, v94_4, v94_5, v94_6, v94_7, v94_8⟩ := rz9 BK854
       go_wp2
       refine bodyPost_ret (results_ct rfl _ _ gb854 36 #[.slice Ao31 t858.length co31, .int .i64 t861, .int .i64 t862, .int .i64 t863, .slice Ao35 t864.length co35, .bool t867, .slice Ao36 x878006_2.length co36, .slice Ao37 t871.length co37, .slice Ao38 t874.length co38] (0, 0) _ rfl (by (with_reducible repeat (first | refine blk_drewN ?_ _ | refine blk_drew ?_ | refine blk_alloc ?_ _)); refine blk_put (cs := #[.slice Ao31 t858.length co31, .int .i64 t861, .int .i64 t862, .int .i64 t863, .slice Ao35 t864.length co35, .bool t867, .slice Ao36 x878006_2.length co36, .slice Ao37 t871.length co37, .slice none 0 0]) ?_ 8 _ rfl; (with_reducible repeat (first | refine blk_drewN ?_ _ | refine blk_drew ?_ | refine blk_alloc ?_ _)); refine blk_put (cs := #[.slice Ao31 t858.length co31, .int .i64 t861, .int .i64 t862, .int .i64 t863, .slice Ao35 t864.length co35, .bool t867, .slice Ao36 x878006_2.length co36, .slice none 0 0, .slice none 0 0]) ?_ 7 _ rfl; (with_reducible repeat (first | refine blk_drewN ?_ _ | refine blk_drew ?_ | refine blk_alloc ?_ _)); refine blk_put (cs := #[.slice Ao31 t858.length co31, .int .i64 t861, .int .i64 t862, .int .i64 t863, .slice Ao35 t864.length co35, .bool t867, .slice none 0 0, .slice none 0 0, .slice none 0 0]) ?_ 6 _ rfl; (with_reducible repeat (first | refine blk_drewN ?_ _ | refine blk_drew ?_ | refine blk_alloc ?_ _)); refine blk_put (cs := #[.slice Ao31 t858.length co31, .int .i64 t861, .int .i64 t862, .int .i64 t863, .slice Ao35 t864.length co35, .bool false, .slice none 0 0, .slice none 0 0, .slice none 0 0]) ?_ 5 _ rfl; (with_reducible repeat (first | refine blk_drewN ?_ _ | refine blk_drew ?_ | refine blk_alloc ?_ _)); refine blk_put (cs := #[.slice Ao31 t858.length co31, .int .i64 t861, .int .i64 t862, .int .i64 t863, .slice none 0 0, .bool false, .slice none 0 0, .slice none 0 0, .slice none 0 0]) ?_ 4 _ rfl; (with_reducible repeat (first | refine blk_drewN ?_ _ | refine blk_drew ?_ | refine blk_alloc ?_ _)); refine blk_put (cs := #[.slice Ao31 t858.length co31, .int .i64 t861, .int .i64 t862, .int .i64 0, .slice none 0 0, .bool false, .slice none 0 0, .slice none 0 0, .slice none 0 0]) ?_ 3 _ rfl; (with_reducible repeat (first | refine blk_drewN ?_ _ | refine blk_drew ?_ | refine blk_alloc ?_ _)); refine blk_put (cs := #[.slice Ao31 t858.length co31, .int .i64 t861, .int .i64 0, .int .i64 0, .slice none 0 0, .bool false, .slice none 0 0, .slice none 0 0, .slice none 0 0]) ?_ 2 _ rfl; (with_reducible repeat (first | refine blk_drewN ?_ _ | refine blk_drew ?_ | refine blk_alloc ?_ _)); refine blk_put (cs := #[.slice Ao31 t858.length co31, .int .i64 0, .int .i64 0, .int .i64 0, .slice none 0 0, .bool false, .slice none 0 0, .slice none 0 0, .slice none 0 0]) ?_ 1 _ rfl; (with_reducible repeat (first | refine blk_drewN ?_ _ | refine blk_drew ?_ | refine blk_alloc ?_ _)); refine blk_put (cs := #[.slice none 0 0, .int .i64 0, .int .i64 0, .int .i64 0, .slice none 0 0, .bool false, .slice none 0 0, .slice none 0 0, .slice none 0 0]) ?_ 0 _ rfl; (with_reducible repeat (first | refine blk_drewN ?_ _ | refine blk_drew ?_ | refine blk_alloc ?_ _)); exact BK854.out) Try.underlying36 rfl (by kernel_rfl)) rfl ?_
       exact ⟨_, _, _, _, _, ee, rf HO_878000 BK854 (fun _ hk => trivial), rf HO_878004 BK854 (fun _ hk => ⟨hk.1.1, hk.1.2⟩), rf HO_878006 BK854 (fun _ hk => trivial), rf HO_878007 BK854 (fun _ hk => ⟨hk.1.1, hk.1.2⟩), rf HO_878008 BK854 (fun _ hk => ⟨hk.1.1, hk.1.2⟩), bb HB⟩
end Go.Proofs.Ythfefanapneocaa.Q
end
namespace Go.Proofs.Ythfefanapneocaa.Q
open Go.RowKit Go.Proofs.YthfefanapneocaaW.PrintWords Go.Proofs.YthfefanapneocaaW.PrintLast Go.Proofs.YthfefanapneocaaW.PrintMore
attribute [local go_sem] max2_int min2_int max_two min_two max_three min_three max_four min_four
set_option linter.unusedVariables false
set_option linter.unusedSimpArgs false
set_option maxRecDepth 100000
set_option maxHeartbeats 8000000
def impl_within.f (a0 : Int) (a1 : Int) (a2 : Int) : Option (Bool) := if a1 ≤ a0 then (some (decide (a0 ≤ a2))) else (some false)
theorem impl_within.calls (a0 : Int) (a1 : Int) (a2 : Int) (r : Bool) (w : World) (h : impl_within.f a0 a1 a2 = some r) :
  Calls Try.prog 128 #[.int .i64 a0, .int .i64 a1, .int .i64 a2] w fun e w' => e = .returned (.bool r) ∧ Drawn0 w w' := by
 have H : (if a1 ≤ a0 then (some (decide (a0 ≤ a2))) else (some false)) = some r := h
 clear h
 by_cases c4 : a1 ≤ a0
 ·rw [if_pos c4] at H
  have c4b0 : decide (a1 ≤ a0) = true := decide_eq_true c4
  clear c4
  obtain rfl := Option.some.inj H
  go_enter Try.func128, Try.ntmps128
  go_wp2
  go_ret
  exact ⟨e2_, by repeat (first | exact Drawn0.refl _ | apply Drawn0.step)⟩
 ·rw [if_neg c4] at H
  have c4b0 : decide (a1 ≤ a0) = false := decide_eq_false c4
  clear c4
  obtain rfl := Option.some.inj H
  go_enter Try.func128, Try.ntmps128
  go_wp2
  go_ret
  exact ⟨e2_, by repeat (first | exact Drawn0.refl _ | apply Drawn0.step)⟩
def impl_IsName.l0 : Nat → ByteArray → Int → Int → Option (Bool)
 | 0, _, _, _ => none
 | k + 1, x0, x6, x7 => if x7 < x6 then (if 0 ≤ x7 then (if x7 < (x0.size : Int) then (if (bt x0 x7) ≥ 97 then (if ((bt x0 x7) ≤ 122) then (impl_IsName.l0 k x0 x6 (wrap64 (x7 + 1))) else (if x7 = 0 then (some false) else (if (bt x0 x7) < 48 then (some false) else (if (bt x0 x7) > 57 then (some false) else (impl_IsName.l0 k x0 x6 (wrap64 (x7 + 1))))))) else (if x7 = 0 then (some false) else (if (bt x0 x7) < 48 then (some false) else (if (bt x0 x7) > 57 then (some false) else (impl_IsName.l0 k x0 x6 (wrap64 (x7 + 1))))))) else (none)) else (none)) else ((impl_within.f (x0.size : Int) 1 8).bind fun t302 => (some t302))
def impl_IsName.f (k : Nat) (a0 : ByteArray) : Option (Bool) := impl_IsName.l0 k a0 (a0.size : Int) 0
theorem impl_IsName.calls (k : Nat) (a0 : ByteArray) (r : Bool) (w : World) (h : impl_IsName.f k a0 = some r) :
  Calls Try.prog 184 #[.string a0] w fun e w' => e = .returned (.bool r) ∧ Drawn0 w w' := by
 have H : (impl_IsName.l0 k a0 (a0.size : Int) 0) = some r := h
 clear h
 have H' := dk H
 clear H
 go_enter Try.func184, Try.ntmps184
 go_wp2
 go_loopg [7] k (fun kq v7 w' => ∃ (x7_1 : Int), v7 = .int .i64 x7_1 ∧ Aside0 (impl_IsName.l0 kq a0 (a0.size : Int) x7_1 = some r) ∧ Aside0 (kq ≤ k) ∧ Drawn0 w w')
 case atStart => exact ⟨(0), e2_, H', ⟨Nat.le_refl _⟩, by repeat (first | exact Drawn0.refl _ | apply Drawn0.step)⟩
 case round =>
  clear H'
  (try clear c1)
  obtain ⟨x7_1, rfl, HA, HK1, ⟨m1, rfl⟩⟩ := hrel
  cases gk with
  | zero => exact absurd HA.out (by simp [impl_IsName.l0])
  | succ k1 =>
   have H := HA.out
   clear HA
   simp only [impl_IsName.l0] at H
   by_cases c2 : x7_1 < (a0.size : Int)
   ·rw [if_pos c2] at H
    have c2b0 : decide (x7_1 < (a0.size : Int)) = true := decide_eq_true c2
    clear c2
    by_cases c3 : 0 ≤ x7_1
    ·rw [if_pos c3] at H
     have c3b0 : decide (0 ≤ x7_1) = true := decide_eq_true c3
     clear c3
     by_cases c4 : x7_1 < (a0.size : Int)
     ·rw [if_pos c4] at H
      have c4b0 : decide (x7_1 < (a0.size : Int)) = true := decide_eq_true c4
      clear c4
      by_cases c6 : (bt a0 x7_1) ≥ 97
      ·rw [if_pos c6] at H
       have c6b0 : decide (97 ≤ (bt a0 x7_1)) = true := decide_eq_true c6
       clear c6
       by_cases c8 : ((bt a0 x7_1) ≤ 122)
       ·rw [if_pos c8] at H
        have c8b0 : decide ((bt a0 x7_1) ≤ 122) = true := decide_eq_true c8
        clear c8
        have H' := dk H
        clear H
        have p5 : 0 ≤ (x7_1 : Int) := oa
        have q5 : x7_1 < (a0.size : Int) := oa
        have hx5 := bt_at a0 x7_1
        replace p5 := eq_true p5
        replace q5 := eq_true q5
        have p7 : 0 ≤ (x7_1 : Int) := oa
        have q7 : x7_1 < (a0.size : Int) := oa
        have hx7 := bt_at a0 x7_1
        replace p7 := eq_true p7
        replace q7 := eq_true q7
        go_wp2
        go_roundg k1
        case measure => have := HK1.out; omega
        case rel => exact ⟨(wrap64 (x7_1 + 1)), e2_, H', ⟨by have := HK1.out; omega⟩, by repeat (first | exact Drawn0.refl _ | apply Drawn0.step)⟩
       ·rw [if_neg c8] at H
        have c8b0 : decide ((bt a0 x7_1) ≤ 122) = false := decide_eq_false c8
        clear c8
        by_cases c9 : x7_1 = 0
        ·rw [if_pos c9] at H
         have c9b0 : (x7_1 == 0) = true := beq_iff_eq.mpr c9
         have c9b1 : (x7_1 != 0) = false := bne_eq_false_iff_eq.mpr c9
         clear c9
         obtain rfl := Option.some.inj H
         have p5 : 0 ≤ (x7_1 : Int) := oa
         have q5 : x7_1 < (a0.size : Int) := oa
         have hx5 := bt_at a0 x7_1
         replace p5 := eq_true p5
         replace q5 := eq_true q5
         have p7 : 0 ≤ (x7_1 : Int) := oa
         have q7 : x7_1 < (a0.size : Int) := oa
         have hx7 := bt_at a0 x7_1
         replace p7 := eq_true p7
         replace q7 := eq_true q7
         go_wp2
         go_ret
         exact ⟨e2_, by repeat (first | exact Drawn0.refl _ | apply Drawn0.step)⟩
        ·rw [if_neg c9] at H
         have c9b0 : (x7_1 == 0) = false := beq_eq_false_iff_ne.mpr c9
         have c9b1 : (x7_1 != 0) = true := bne_iff_ne.mpr c9
         by_cases c11 : (bt a0 x7_1) < 48
         ·rw [if_pos c11] at H
          have c11b0 : decide ((bt a0 x7_1) < 48) = true := decide_eq_true c11
          clear c11
          obtain rfl := Option.some.inj H
          have p5 : 0 ≤ (x7_1 : Int) := oa
          have q5 : x7_1 < (a0.size : Int) := oa
          have hx5 := bt_at a0 x7_1
          replace p5 := eq_true p5
          replace q5 := eq_true q5
          have p7 : 0 ≤ (x7_1 : Int) := oa
          have q7 : x7_1 < (a0.size : Int) := oa
          have hx7 := bt_at a0 x7_1
          replace p7 := eq_true p7
          replace q7 := eq_true q7
          have p10 : 0 ≤ (x7_1 : Int) := oa
          have q10 : x7_1 < (a0.size : Int) := oa
          have hx10 := bt_at a0 x7_1
          replace p10 := eq_true p10
          replace q10 := eq_true q10
          go_wp2
          go_ret
          exact ⟨e2_, by repeat (first | exact Drawn0.refl _ | apply Drawn0.step)⟩
         ·rw [if_neg c11] at H
          have c11b0 : decide ((bt a0 x7_1) < 48) = false := decide_eq_false c11
          clear c11
          by_cases c13 : (bt a0 x7_1) > 57
          ·rw [if_pos c13] at H
           have c13b0 : decide (57 < (bt a0 x7_1)) = true := decide_eq_true c13
           clear c13
           obtain rfl := Option.some.inj H
           have p5 : 0 ≤ (x7_1 : Int) := oa
           have q5 : x7_1 < (a0.size : Int) := oa
           have hx5 := bt_at a0 x7_1
           replace p5 := eq_true p5
           replace q5 := eq_true q5
           have p7 : 0 ≤ (x7_1 : Int) := oa
           have q7 : x7_1 < (a0.size : Int) := oa
           have hx7 := bt_at a0 x7_1
           replace p7 := eq_true p7
           replace q7 := eq_true q7
           have p10 : 0 ≤ (x7_1 : Int) := oa
           have q10 : x7_1 < (a0.size : Int) := oa
           have hx10 := bt_at a0 x7_1
           replace p10 := eq_true p10
           replace q10 := eq_true q10
           have p12 : 0 ≤ (x7_1 : Int) := oa
           have q12 : x7_1 < (a0.size : Int) := oa
           have hx12 := bt_at a0 x7_1
           replace p12 := eq_true p12
           replace q12 := eq_true q12
           go_wp2
           go_ret
           exact ⟨e2_, by repeat (first | exact Drawn0.refl _ | apply Drawn0.step)⟩
          ·rw [if_neg c13] at H
           have c13b0 : decide (57 < (bt a0 x7_1)) = false := decide_eq_false c13
           clear c13
           have H' := dk H
           clear H
           have p5 : 0 ≤ (x7_1 : Int) := oa
           have q5 : x7_1 < (a0.size : Int) := oa
           have hx5 := bt_at a0 x7_1
           replace p5 := eq_true p5
           replace q5 := eq_true q5
           have p7 : 0 ≤ (x7_1 : Int) := oa
           have q7 : x7_1 < (a0.size : Int) := oa
           have hx7 := bt_at a0 x7_1
           replace p7 := eq_true p7
           replace q7 := eq_true q7
           have p10 : 0 ≤ (x7_1 : Int) := oa
           have q10 : x7_1 < (a0.size : Int) := oa
           have hx10 := bt_at a0 x7_1
           replace p10 := eq_true p10
           replace q10 := eq_true q10
           have p12 : 0 ≤ (x7_1 : Int) := oa
           have q12 : x7_1 < (a0.size : Int) := oa
           have hx12 := bt_at a0 x7_1
           replace p12 := eq_true p12
           replace q12 := eq_true q12
           go_wp2
           go_roundg k1
           case measure => have := HK1.out; omega
           case rel => exact ⟨(wrap64 (x7_1 + 1)), e2_, H', ⟨by have := HK1.out; omega⟩, by repeat (first | exact Drawn0.refl _ | apply Drawn0.step)⟩
      ·rw [if_neg c6] at H
       have c6b0 : decide (97 ≤ (bt a0 x7_1)) = false := decide_eq_false c6
       clear c6
       by_cases c14 : x7_1 = 0
       ·rw [if_pos c14] at H
        have c14b0 : (x7_1 == 0) = true := beq_iff_eq.mpr c14
        have c14b1 : (x7_1 != 0) = false := bne_eq_false_iff_eq.mpr c14
        clear c14
        obtain rfl := Option.some.inj H
        have p5 : 0 ≤ (x7_1 : Int) := oa
        have q5 : x7_1 < (a0.size : Int) := oa
        have hx5 := bt_at a0 x7_1
        replace p5 := eq_true p5
        replace q5 := eq_true q5
        go_wp2
        go_ret
        exact ⟨e2_, by repeat (first | exact Drawn0.refl _ | apply Drawn0.step)⟩
       ·rw [if_neg c14] at H
        have c14b0 : (x7_1 == 0) = false := beq_eq_false_iff_ne.mpr c14
        have c14b1 : (x7_1 != 0) = true := bne_iff_ne.mpr c14
        by_cases c16 : (bt a0 x7_1) < 48
        ·rw [if_pos c16] at H
         have c16b0 : decide ((bt a0 x7_1) < 48) = true := decide_eq_true c16
         clear c16
         obtain rfl := Option.some.inj H
         have p5 : 0 ≤ (x7_1 : Int) := oa
         have q5 : x7_1 < (a0.size : Int) := oa
         have hx5 := bt_at a0 x7_1
         replace p5 := eq_true p5
         replace q5 := eq_true q5
         have p15 : 0 ≤ (x7_1 : Int) := oa
         have q15 : x7_1 < (a0.size : Int) := oa
         have hx15 := bt_at a0 x7_1
         replace p15 := eq_true p15
         replace q15 := eq_true q15
         go_wp2
         go_ret
         exact ⟨e2_, by repeat (first | exact Drawn0.refl _ | apply Drawn0.step)⟩
        ·rw [if_neg c16] at H
         have c16b0 : decide ((bt a0 x7_1) < 48) = false := decide_eq_false c16
         clear c16
         by_cases c18 : (bt a0 x7_1) > 57
         ·rw [if_pos c18] at H
          have c18b0 : decide (57 < (bt a0 x7_1)) = true := decide_eq_true c18
          clear c18
          obtain rfl := Option.some.inj H
          have p5 : 0 ≤ (x7_1 : Int) := oa
          have q5 : x7_1 < (a0.size : Int) := oa
          have hx5 := bt_at a0 x7_1
          replace p5 := eq_true p5
          replace q5 := eq_true q5
          have p15 : 0 ≤ (x7_1 : Int) := oa
          have q15 : x7_1 < (a0.size : Int) := oa
          have hx15 := bt_at a0 x7_1
          replace p15 := eq_true p15
          replace q15 := eq_true q15
          have p17 : 0 ≤ (x7_1 : Int) := oa
          have q17 : x7_1 < (a0.size : Int) := oa
          have hx17 := bt_at a0 x7_1
          replace p17 := eq_true p17
          replace q17 := eq_true q17
          go_wp2
          go_ret
          exact ⟨e2_, by repeat (first | exact Drawn0.refl _ | apply Drawn0.step)⟩
         ·rw [if_neg c18] at H
          have c18b0 : decide (57 < (bt a0 x7_1)) = false := decide_eq_false c18
          clear c18
          have H' := dk H
          clear H
          have p5 : 0 ≤ (x7_1 : Int) := oa
          have q5 : x7_1 < (a0.size : Int) := oa
          have hx5 := bt_at a0 x7_1
          replace p5 := eq_true p5
          replace q5 := eq_true q5
          have p15 : 0 ≤ (x7_1 : Int) := oa
          have q15 : x7_1 < (a0.size : Int) := oa
          have hx15 := bt_at a0 x7_1
          replace p15 := eq_true p15
          replace q15 := eq_true q15
          have p17 : 0 ≤ (x7_1 : Int) := oa
          have q17 : x7_1 < (a0.size : Int) := oa
          have hx17 := bt_at a0 x7_1
          replace p17 := eq_true p17
          replace q17 := eq_true q17
          go_wp2
          go_roundg k1
          case measure => have := HK1.out; omega
          case rel => exact ⟨(wrap64 (x7_1 + 1)), e2_, H', ⟨by have := HK1.out; omega⟩, by repeat (first | exact Drawn0.refl _ | apply Drawn0.step)⟩
     ·rw [if_neg c4] at H
      exact absurd H (by simp)
    ·rw [if_neg c3] at H
     exact absurd H (by simp)
   ·rw [if_neg c2] at H
    have c2b0 : decide (x7_1 < (a0.size : Int)) = false := decide_eq_false c2
    clear c2
    replace H := Option.bind_eq_some_iff.mp H
    obtain ⟨t302, A190, H⟩ := H
    try dsimp only at H
    have A19 := dk A190
    clear A190
    obtain rfl := Option.some.inj H
    go_wp2_with (first | ((with_reducible refine gate_callee (f := 128) rfl ?_); refine gl (some 41) Try.func128 #[.int .i64 (a0.size : Int), .int .i64 1, .int .i64 8] ?_; (with_reducible refine (impl_within.calls (a0.size : Int) 1 8 t302 _ A19.out).mono ?_); rintro e w' ⟨rfl, ⟨nd, rfl⟩⟩; refine ⟨_, rfl, ?_⟩))
    go_ret
    exact ⟨e2_, by repeat (first | exact Drawn0.refl _ | apply Drawn0.step)⟩
def impl_TeamOk.f (k : Nat) (a0_0 : ByteArray) (a0_1 : Int) (a0_2 : Int) : Option (Bool) := (impl_IsName.f k a0_0).bind fun t304 => (if t304 = true then ((impl_within.f a0_1 0 5).bind fun t305 => (if t305 = true then ((impl_within.f a0_2 1 8).bind fun t306 => (some t306)) else (some false))) else (some false))
theorem impl_TeamOk.calls (k : Nat) (a0_0 : ByteArray) (a0_1 : Int) (a0_2 : Int) (r : Bool) (w : World) (h : impl_TeamOk.f k a0_0 a0_1 a0_2 = some r) :
  Calls Try.prog 160 #[.agg #[.string a0_0, .int .i64 a0_1, .int .i64 a0_2]] w fun e w' => e = .returned (.bool r) ∧ Below w.heap.size w w' := by
 have hu139 := Try.underlying139
 have HB := dk (Below.refl w.heap.size w)
 have H : ((impl_IsName.f k a0_0).bind fun t304 => (if t304 = true then ((impl_within.f a0_1 0 5).bind fun t305 => (if t305 = true then ((impl_within.f a0_2 1 8).bind fun t306 => (some t306)) else (some false))) else (some false))) = some r := h
 clear h
 replace H := Option.bind_eq_some_iff.mp H
 obtain ⟨t304, A20, H⟩ := H
 try dsimp only at H
 have A2 := dk A20
 clear A20
 by_cases c3 : t304 = true
 ·subst c3
  rw [if_pos rfl] at H
  replace H := Option.bind_eq_some_iff.mp H
  obtain ⟨t305, A40, H⟩ := H
  try dsimp only at H
  have A4 := dk A40
  clear A40
  by_cases c5 : t305 = true
  ·subst c5
   rw [if_pos rfl] at H
   replace H := Option.bind_eq_some_iff.mp H
   obtain ⟨t306, A60, H⟩ := H
   try dsimp only at H
   have A6 := dk A60
   clear A60
   obtain rfl := Option.some.inj H
   go_enter Try.func160, Try.ntmps160
   go_wp2_with (first | ((with_reducible refine gate_dst (N := 1) rfl ?_); refine bx (N := 1) (cs := #[.string a0_0, .int .i64 a0_1, .int .i64 a0_2]) (t := 139) ?_; intro gb303 hg w7 hbox hb; have BK303 := dk (hbox); have GW303 := gs hg HB; have GE303 := gs hg HB; replace HB := hs_ HB hb; clear hb hbox hg; have ⟨z8_0, z8_1, z8_2, v8_0, v8_1, v8_2⟩ := rz3 BK303) | ((with_reducible refine gate_callee (f := 184) rfl ?_); refine gl (some 5) Try.func184 #[.string a0_0] ?_; (with_reducible refine (impl_IsName.calls k a0_0 true _ A2.out).mono ?_); rintro e w' ⟨rfl, ⟨nd, rfl⟩⟩; refine ⟨_, rfl, ?_⟩) | (go_at_call 128; (with_reducible refine (impl_within.calls a0_1 0 5 true _ A4.out).mono ?_); rintro e w' ⟨rfl, ⟨nd, rfl⟩⟩) | (go_at_call 128; (with_reducible refine (impl_within.calls a0_2 1 8 t306 _ A6.out).mono ?_); rintro e w' ⟨rfl, ⟨nd, rfl⟩⟩))
   go_ret
   exact ⟨ee, bb HB⟩
  ·replace c5 := Bool.eq_false_iff.mpr c5
   subst c5
   rw [if_neg (show ¬ (false = true) by decide)] at H
   obtain rfl := Option.some.inj H
   go_enter Try.func160, Try.ntmps160
   go_wp2_with (first | ((with_reducible refine gate_dst (N := 1) rfl ?_); refine bx (N := 1) (cs := #[.string a0_0, .int .i64 a0_1, .int .i64 a0_2]) (t := 139) ?_; intro gb303 hg w9 hbox hb; have BK303 := dk (hbox); have GW303 := gs hg HB; have GE303 := gs hg HB; replace HB := hs_ HB hb; clear hb hbox hg; have ⟨z10_0, z10_1, z10_2, v10_0, v10_1, v10_2⟩ := rz3 BK303) | ((with_reducible refine gate_callee (f := 184) rfl ?_); refine gl (some 5) Try.func184 #[.string a0_0] ?_; (with_reducible refine (impl_IsName.calls k a0_0 true _ A2.out).mono ?_); rintro e w' ⟨rfl, ⟨nd, rfl⟩⟩; refine ⟨_, rfl, ?_⟩) | (go_at_call 128; (with_reducible refine (impl_within.calls a0_1 0 5 false _ A4.out).mono ?_); rintro e w' ⟨rfl, ⟨nd, rfl⟩⟩))
   go_ret
   exact ⟨ee, bb HB⟩
 ·replace c3 := Bool.eq_false_iff.mpr c3
  subst c3
  rw [if_neg (show ¬ (false = true) by decide)] at H
  obtain rfl := Option.some.inj H
  go_enter Try.func160, Try.ntmps160
  go_wp2_with (first | ((with_reducible refine gate_dst (N := 1) rfl ?_); refine bx (N := 1) (cs := #[.string a0_0, .int .i64 a0_1, .int .i64 a0_2]) (t := 139) ?_; intro gb303 hg w11 hbox hb; have BK303 := dk (hbox); have GW303 := gs hg HB; have GE303 := gs hg HB; replace HB := hs_ HB hb; clear hb hbox hg; have ⟨z12_0, z12_1, z12_2, v12_0, v12_1, v12_2⟩ := rz3 BK303) | ((with_reducible refine gate_callee (f := 184) rfl ?_); refine gl (some 5) Try.func184 #[.string a0_0] ?_; (with_reducible refine (impl_IsName.calls k a0_0 false _ A2.out).mono ?_); rintro e w' ⟨rfl, ⟨nd, rfl⟩⟩; refine ⟨_, rfl, ?_⟩))
  go_ret
  exact ⟨ee, bb HB⟩
set_option maxHeartbeats 4000000 in
theorem slices_IndexFunc_impl_Team_impl_Team.calls (g : Nat) (lb : Array Value) (eg : ∀ args w, (callFunc g args).run Try.prog w = .ok (.enter g args) w) (p : S139 → Bool) (A0 : Option Addr) (c0 n0 : Nat) (l0 : List (S139)) (w0 w : World) (hB : Below w0.heap.size w0 w) (hr0 : Kd.C k139 w0 A0 n0 l0)
    (hp : ∀ (W : World) (x : S139), Below w.heap.size w W → x ∈ l0 → Calls Try.prog g (#[.agg #[.string x.f0, .int .i64 x.f1, .int .i64 x.f2]] ++ lb) W fun e w' => e = .returned (.bool (p x)) ∧ Below W.heap.size W w') :
    Calls Try.prog 185 #[.slice A0 n0 c0, .func (.func g) #[] lb] w fun e w' => e = .returned (.int .i64 (idxI p l0)) ∧ Below w.heap.size w w' := by
  obtain rfl := Kd.C_len hr0
  have hm : l0.length ≤ 9223372036854775807 := hr0.2.1
  have HR0 := dk hr0
  have HP := dk hp
  have HW := dk hB.size
  have HB0 := dk hB
  clear hr0 hp hB
  go_enter Try.func185, Try.ntmps185
  go_wp2
  go_loopg [5, 8] l0.length (fun gg _ s8 wr => ∃ kk : Nat, kk ≤ l0.length ∧ l0.length - kk ≤ gg ∧ s8 = .int .i64 kk ∧ Aside0 (Below w.heap.size w wr) ∧ Aside0 (∀ j, j < kk → p (rd_T139 l0 j) = false))
  case atStart => exact ⟨0, Nat.zero_le _, by omega, rfl, ⟨Below.refl _ w⟩, ⟨fun j hj => absurd hj (Nat.not_lt_zero _)⟩⟩
  case round =>
    obtain ⟨kk, hkk, hg, rfl, BW, HA⟩ := hrel
    by_cases hlt : kk < l0.length
    · have hltz : (kk : Int) < (l0.length : Int) := by omega
      obtain ⟨ad, ead, h0, h1, h2⟩ := at_T139 HR0.out kk (by omega) hltz
      subst ead
      have hb1 : Below w0.heap.size w0 wr := below_then HB0.out HW.out BW.out
      have hcall := HP.out wr (rd_T139 l0 kk) BW.out (by unfold rd_T139; simp [hlt])
      replace h0 := pw_cell_below hb1 h0
      replace h1 := pw_cell_below hb1 h1
      replace h2 := pw_cell_below hb1 h2
      simp only [Int.toNat_natCast] at h0 h1 h2
      have HB1 := dk hb1
      clear hb1
      generalize hy : rd_T139 l0 kk = y at h0 h1 h2 hcall
      have B := dk hy
      clear hy
      cases hq : p y with
      | true =>
        rw [hq] at hcall
        have Q := dk hq
        have HC := dk hcall
        clear hq hcall
        go_wp2_with fail
        refine HC.out.mono ?_
        rintro e w' ⟨rfl, hb'⟩
        go_wp2_with fail
        go_ret
        refine ⟨?_, below_step BW.out hb'⟩
        rw [idxI_hit p l0 kk hlt z139 (by have := B.out; unfold rd_T139 at this; simp only [Int.toNat_natCast] at this; rw [this]; exact Q.out) (fun j hj => by have := HA.out j hj; unfold rd_T139 at this; simpa using this)]
        rfl
      | false =>
        rw [hq] at hcall
        have Q := dk hq
        have HC := dk hcall
        clear hq hcall
        go_wp2_with fail
        refine HC.out.mono ?_
        rintro e w' ⟨rfl, hb'⟩
        go_wp2_with fail
        go_roundg (l0.length - (kk + 1))
        case measure => omega
        case rel =>
          refine ⟨kk + 1, by omega, by omega, by go_num, ⟨below_step BW.out hb'⟩, ⟨fun j hj => ?_⟩⟩
          by_cases e : j = kk
          · subst e
            rw [B.out]; exact Q.out
          · exact HA.out j (by omega)
    · have hltz : ¬ (kk : Int) < (l0.length : Int) := by omega
      have hd : decide ((kk : Int) < (l0.length : Int)) = false := by simp; omega
      have hd2 : decide (kk < l0.length) = false := by simp; omega
      have hk := dk (show kk = l0.length by omega)
      clear hlt hltz hg
      go_wp2_with fail
      go_ret
      obtain rfl := hk.out
      refine ⟨?_, BW.out⟩
      rw [idxI_miss p l0 z139 (fun j hj => by have := HA.out j hj; unfold rd_T139 at this; simpa using this)]
      rfl
set_option maxHeartbeats 4000000 in
theorem slices_ContainsFunc_impl_Team_impl_Team.calls (g : Nat) (lb : Array Value) (eg : ∀ args w, (callFunc g args).run Try.prog w = .ok (.enter g args) w) (p : S139 → Bool) (A0 : Option Addr) (c0 n0 : Nat) (l0 : List (S139)) (w0 w : World) (hB : Below w0.heap.size w0 w) (hr0 : Kd.C k139 w0 A0 n0 l0)
    (hp : ∀ (W : World) (x : S139), Below w.heap.size w W → x ∈ l0 → Calls Try.prog g (#[.agg #[.string x.f0, .int .i64 x.f1, .int .i64 x.f2]] ++ lb) W fun e w' => e = .returned (.bool (p x)) ∧ Below W.heap.size W w') :
    Calls Try.prog 161 #[.slice A0 n0 c0, .func (.func g) #[] lb] w fun e w' => e = .returned (.bool (l0.any p)) ∧ Below w.heap.size w w' := by
  rw [← idxI_any p l0]
  have HC := dk (slices_IndexFunc_impl_Team_impl_Team.calls g lb eg p A0 c0 n0 l0 w0 w hB hr0 hp)
  clear hr0 hp hB eg
  generalize hy : idxI p l0 = y at HC
  have HY := dk hy
  clear hy
  go_enter Try.func161, Try.ntmps161
  go_wp2_with fail
  refine HC.out.mono ?_
  rintro e w' ⟨rfl, hb'⟩
  go_wp2_with fail
  go_ret
  exact ⟨rfl, hb'⟩
def withinB (a lo hi : Int) : Bool := decide (lo ≤ a) && decide (a ≤ hi)
theorem within_eq (a lo hi : Int) : impl_within.f a lo hi = some (withinB a lo hi) := by
  unfold impl_within.f withinB
  by_cases h : lo ≤ a <;> simp [h]
def nameAt (i c : Int) : Bool := (decide (97 ≤ c) && decide (c ≤ 122)) || (!(decide (i = 0)) && decide (48 ≤ c) && decide (c ≤ 57))
def nameFrom (s : ByteArray) (i : Nat) : Bool := (List.range (s.size - i)).all fun j => nameAt (i + j : Nat) (bt s ((i + j : Nat) : Int))
def isNameB (s : ByteArray) : Bool := nameFrom s 0 && withinB s.size 1 8
theorem nameFrom_end (s : ByteArray) (i : Nat) (h : s.size ≤ i) : nameFrom s i = true := by
  unfold nameFrom; rw [show s.size - i = 0 by omega]; rfl
theorem nameFrom_step (s : ByteArray) (i : Nat) (h : i < s.size) : nameFrom s i = (nameAt i (bt s i) && nameFrom s (i + 1)) := by
  unfold nameFrom
  obtain ⟨d, hd⟩ : ∃ d, s.size - i = d + 1 := ⟨s.size - i - 1, by omega⟩
  rw [hd, show s.size - (i + 1) = d by omega, List.range_succ_eq_map, List.all_cons, List.all_map]
  congr 1
  congr 1
  funext j
  simp only [Function.comp, Nat.succ_eq_add_one]
  rw [show i + (j + 1) = i + 1 + j by omega]
theorem isName_loop (s : ByteArray) (hs : s.size ≤ 4611686018427387904) (d : Nat) : ∀ (k i : Nat), s.size - i = d → i ≤ s.size → d < k → impl_IsName.l0 k s s.size i = some (nameFrom s i && withinB s.size 1 8) := by
  induction d with
  | zero =>
    intro k i hd hi hk
    obtain ⟨k, rfl⟩ : ∃ m, k = m + 1 := ⟨k - 1, by omega⟩
    simp only [impl_IsName.l0]
    rw [if_neg (by omega), within_eq, nameFrom_end s i (by omega)]
    simp
  | succ d ih =>
    intro k i hd hi hk
    obtain ⟨k, rfl⟩ : ∃ m, k = m + 1 := ⟨k - 1, by omega⟩
    have hlt : i < s.size := by omega
    have hw : wrap64 ((i : Int) + 1) = ((i + 1 : Nat) : Int) := by unfold wrap64; omega
    have h := ih k (i + 1) (by omega) (by omega) (by omega)
    simp only [impl_IsName.l0]
    rw [if_pos (show (i : Int) < s.size by omega), if_pos (show 0 ≤ (i : Int) by omega), if_pos (show (i : Int) < s.size by omega), hw, h, nameFrom_step s i hlt]
    unfold nameAt
    generalize bt s i = c
    rw [Bool.and_assoc]
    generalize (nameFrom s (i + 1) && withinB s.size 1 8) = z
    grind
theorem isName_eq (s : ByteArray) (hs : s.size ≤ 4611686018427387904) (k : Nat) (hk : s.size < k) : impl_IsName.f k s = some (isNameB s) := by
  unfold impl_IsName.f
  have := isName_loop s hs s.size k 0 (by omega) (by omega) hk
  simpa [isNameB] using this
def teamOkB (t : S139) : Bool := isNameB t.f0 && withinB t.f1 0 5 && withinB t.f2 1 8
theorem teamOk_eq (t : S139) (hs : t.f0.size ≤ 4611686018427387904) (k : Nat) (hk : t.f0.size < k) : impl_TeamOk.f k t.f0 t.f1 t.f2 = some (teamOkB t) := by
  unfold impl_TeamOk.f teamOkB
  rw [isName_eq _ hs k hk]
  simp only [Option.bind_some, within_eq]
  cases isNameB t.f0 <;> cases withinB t.f1 0 5 <;> simp
def teamClash (t x : S139) : Bool := (x.f0.toList == t.f0.toList) || (x.f2 == t.f2)
def fieldFrom : List (S139) → List (S139) → Bool
  | _, [] => true
  | pre, t :: l => teamOkB t && !pre.any (teamClash t) && fieldFrom (pre ++ [t]) l
def fieldOkB (l : List (S139)) : Bool := fieldFrom [] l && withinB l.length 2 8
def impl_FieldOk.f (l0 : List (S139)) : Option Bool := if l0.all (fun t => decide (t.f0.size ≤ 4611686018427387904)) then some (fieldOkB l0) else none
set_option maxHeartbeats 4000000 in
theorem impl_FieldOk_1.calls (gb : Nat) (t x : S139) (W : World) (hb : W.heap[gb]? = some (.cells #[.string t.f0, .int .i64 t.f1, .int .i64 t.f2] 139 (0, 0))) :
    Calls Try.prog 162 #[.agg #[.string x.f0, .int .i64 x.f1, .int .i64 x.f2], .pointer (some ⟨gb, 0, none⟩)] W fun e w' => e = .returned (.bool (teamClash t x)) ∧ Below W.heap.size W w' := by
  have h0 : W.cell? ⟨gb, 0, none⟩ = some (.string t.f0) := (blk_cell hb 0).trans rfl
  have h2 : W.cell? ⟨gb, 2, none⟩ = some (.int .i64 t.f2) := (blk_cell hb 2).trans rfl
  have hlt : gb < W.heap.size := blk_lt hb
  clear hb
  have hT : ∀ b, teamClash t x = b → ((x.f0.toList == t.f0.toList) || (x.f2 == t.f2)) = b := fun b h => h
  generalize teamClash t x = b at hT
  have HT := dk (hT b rfl)
  clear hT
  cases h3 : x.f0.toList == t.f0.toList with
  | true =>
    have hb : b = true := by rw [← HT.out, h3]; rfl
    subst hb
    clear HT
    go_enter Try.func162, Try.ntmps162
    go_wp2
    go_ret
    exact ⟨rfl, below_alloc (Below.refl _ _) _⟩
  | false =>
    have hb : b = (x.f2 == t.f2) := by rw [← HT.out, h3]; rfl
    subst hb
    clear HT
    go_enter Try.func162, Try.ntmps162
    go_wp2
    go_ret
    exact ⟨rfl, below_alloc (Below.refl _ _) _⟩
set_option maxHeartbeats 4000000 in
theorem impl_FieldOk.calls (A0 : Option Addr) (c0 : Nat) (l0 : List (S139)) (r : Bool) (w : World) (hr0 : Kd.C k139 w A0 l0.length l0) (hc0 : l0.length ≤ c0) (h : impl_FieldOk.f l0 = some r) :
    Calls Try.prog 122 #[.slice A0 l0.length c0] w fun e w' => e = .returned (.bool r) ∧ Below w.heap.size w w' := by
  unfold impl_FieldOk.f at h
  by_cases hz : l0.all (fun t => decide (t.f0.size ≤ 4611686018427387904)) = true
  · rw [if_pos hz] at h
    have HZ := dk hz
    clear hz
    have HR := dk (Option.some.inj h)
    clear h
    have hm : l0.length ≤ 9223372036854775807 := hr0.2.1
    have HR0 := dk hr0
    have HC0 := dk hc0
    clear hr0 hc0
    have eg := my_enters Try.func162 (by kernel_rfl) rfl
    go_enter Try.func122, Try.ntmps122
    go_wp2
    go_loopg [3, 7] l0.length (fun gg _ s7 wr => ∃ kk : Nat, kk ≤ l0.length ∧ l0.length - kk ≤ gg ∧ s7 = .int .i64 kk ∧ Aside0 (Below w.heap.size w wr) ∧ Aside0 (fieldFrom (l0.take kk) (l0.drop kk) = fieldFrom [] l0))
    case atStart => exact ⟨0, Nat.zero_le _, by omega, rfl, ⟨Below.refl _ w⟩, ⟨by simp⟩⟩
    case round =>
      obtain ⟨kk, hkk, hg, rfl, BW, HA⟩ := hrel
      by_cases hlt : kk < l0.length
      · have hltz : (kk : Int) < (l0.length : Int) := by omega
        obtain ⟨ad, ead, h0, h1, h2⟩ := at_T139 HR0.out kk (by omega) hltz
        subst ead
        replace h0 := pw_cell_below BW.out h0
        replace h1 := pw_cell_below BW.out h1
        replace h2 := pw_cell_below BW.out h2
        simp only [Int.toNat_natCast] at h0 h1 h2
        have hd : l0.drop kk = rd_T139 l0 kk :: l0.drop (kk + 1) := by
          unfold rd_T139
          simp only [Int.toNat_natCast]
          rw [List.drop_eq_getElem_cons hlt]
          simp [hlt]
        have ht : l0.take kk ++ [rd_T139 l0 kk] = l0.take (kk + 1) := by
          unfold rd_T139
          simp only [Int.toNat_natCast]
          rw [List.take_succ_eq_append_getElem hlt]
          simp [hlt]
        have hsz : (rd_T139 l0 kk).f0.size ≤ 4611686018427387904 := by
          have := List.all_eq_true.mp HZ.out (rd_T139 l0 kk) (by unfold rd_T139; simp [hlt])
          simpa using this
        have HA1 := dk (show fieldFrom (l0.take kk) (l0.drop kk) = (teamOkB (rd_T139 l0 kk) && !(l0.take kk).any (teamClash (rd_T139 l0 kk)) && fieldFrom (l0.take (kk + 1)) (l0.drop (kk + 1))) by rw [hd, fieldFrom, ht])
        have HT := dk (teamOk_eq (rd_T139 l0 kk) hsz ((rd_T139 l0 kk).f0.size + 1) (by omega))
        clear hd ht hsz
        generalize rd_T139 l0 kk = t at h0 h1 h2 HA1 HT
        have hkc : kk ≤ c0 := by have := HC0.out; omega
        go_wp2_with fail
        refine (impl_TeamOk.calls _ _ _ _ _ _ HT.out).mono ?_
        rintro e w1 ⟨rfl, hb1⟩
        have hbox := hb1.block wr.heap.size (by simp)
        have hbx := my_blk_new wr (Obj.cells #[Value.string t.f0, Value.int IntKind.i64 t.f1, Value.int IntKind.i64 t.f2] 139 (0, 0))
        have HBX := dk (hbox.trans hbx)
        have HB1 := dk (below_step (below_alloc (Below.refl wr.heap.size wr) _) hb1)
        clear hbox hbx hb1
        cases hq : teamOkB t with
        | false =>
          have HQ := dk hq
          have HF : Aside0 (fieldOkB l0 = false) := ⟨by unfold fieldOkB; rw [← HA.out, HA1.out, hq]; simp⟩
          clear hq
          go_wp2_with fail
          go_ret
          exact ⟨by rw [← HR.out, HF.out]; rfl, below_step BW.out HB1.out⟩
        | true =>
          have HQ := dk hq
          clear hq
          have HG := dk eg
          clear eg
          go_wp2_with fail
          refine ((slices_ContainsFunc_impl_Team_impl_Team.calls 162 #[.pointer (some ⟨wr.heap.size, 0, none⟩)] HG.out (teamClash t) (some ad) c0 kk (l0.take kk) w w1 (below_step BW.out HB1.out) (Kd.C_take' HR0.out kk hkk) (fun W x hW _ => impl_FieldOk_1.calls wr.heap.size t x W ((hW.block _ (blk_lt HBX.out)).trans HBX.out))).mono ?_)
          rintro e w2 ⟨rfl, hb2⟩
          have HB2 := dk (below_step HB1.out hb2)
          clear hb2
          cases hc : (l0.take kk).any (teamClash t) with
          | true =>
            have HF : Aside0 (fieldOkB l0 = false) := ⟨by unfold fieldOkB; rw [← HA.out, HA1.out, hc]; simp⟩
            clear hc
            go_wp2_with fail
            go_ret
            exact ⟨by rw [← HR.out, HF.out]; rfl, below_step BW.out HB2.out⟩
          | false =>
            have HA2 : Aside0 (fieldFrom (l0.take (kk + 1)) (l0.drop (kk + 1)) = fieldFrom [] l0) := ⟨by rw [← HA.out, HA1.out, hc, HQ.out]; simp⟩
            have HE := dk HG.out
            clear hc
            go_wp2_with fail
            go_roundg (l0.length - (kk + 1))
            case measure => omega
            case rel => exact ⟨kk + 1, by omega, by omega, by go_num, ⟨below_step BW.out HB2.out⟩, HA2⟩
      · have hd : decide ((kk : Int) < (l0.length : Int)) = false := by simp; omega
        have hd2 : decide (kk < l0.length) = false := by simp; omega
        have hk := dk (show kk = l0.length by omega)
        clear hlt hg
        have HW := dk (within_eq l0.length 2 8)
        go_wp2_with fail
        refine (impl_within.calls _ _ _ _ _ HW.out).mono ?_
        rintro e w' ⟨rfl, ⟨nd, rfl⟩⟩
        go_wp2_with fail
        go_ret
        refine ⟨?_, pw_below_drewN BW.out _⟩
        have h1 := HA.out
        rw [hk.out, List.drop_length, fieldFrom] at h1
        rw [← HR.out, fieldOkB, ← h1]
        rfl
  · rw [if_neg hz] at h
    cases h
def slices_Index_int_int.l0 : Nat → List Int → Int → Int → Int → Option (Int)
 | 0, _, _, _, _ => none
 | k + 1, x0, x1, x7, x8 => if x8 < x7 then (if 0 ≤ x8 then (if x8 < (x0.length : Int) then (if x1 = (rd x0 x8) then (some x8) else (slices_Index_int_int.l0 k x0 x1 x7 (wrap64 (x8 + 1)))) else (none)) else (none)) else (some (-1))
def slices_Index_int_int.f (k : Nat) (l0 : List Int) (a1 : Int) : Option (Int) := slices_Index_int_int.l0 k l0 a1 (l0.length : Int) 0
theorem slices_Index_int_int.calls (k : Nat) (A0 : Option Addr) (c0 : Nat) (l0 : List Int) (a1 : Int) (r : Int) (w : World) (hr0 : Kd.C (Kd.int .i64) w A0 l0.length l0) (hc0 : l0.length ≤ c0) (h : slices_Index_int_int.f k l0 a1 = some r) :
  Calls Try.prog 145 #[.slice A0 l0.length c0, .int .i64 a1] w fun e w' => e = .returned (.int .i64 r) ∧ Drawn0 w w' := by
 have HR0 := dk hr0
 have HC0 := dk hc0
 clear hr0 hc0
 have H : (slices_Index_int_int.l0 k l0 a1 (l0.length : Int) 0) = some r := h
 clear h
 have H' := dk H
 clear H
 go_enter Try.func145, Try.ntmps145
 go_wp2
 go_loopg [8] k (fun kq v8 w' => ∃ (x8_1 : Int), v8 = .int .i64 x8_1 ∧ Aside0 (slices_Index_int_int.l0 kq l0 a1 (l0.length : Int) x8_1 = some r) ∧ Aside0 (kq ≤ k) ∧ Drawn0 w w')
 case atStart => exact ⟨(0), e2_, H', ⟨Nat.le_refl _⟩, by repeat (first | exact Drawn0.refl _ | apply Drawn0.step)⟩
 case round =>
  clear H'
  (try clear c1)
  (try clear p2)
  obtain ⟨x8_1, rfl, HA, HK1, ⟨m1, rfl⟩⟩ := hrel
  cases gk with
  | zero => exact absurd HA.out (by simp [slices_Index_int_int.l0])
  | succ k1 =>
   have H := HA.out
   clear HA
   simp only [slices_Index_int_int.l0] at H
   by_cases c3 : x8_1 < (l0.length : Int)
   ·rw [if_pos c3] at H
    have c3b0 : decide (x8_1 < (l0.length : Int)) = true := decide_eq_true c3
    clear c3
    by_cases c4 : 0 ≤ x8_1
    ·rw [if_pos c4] at H
     have c4b0 : decide (0 ≤ x8_1) = true := decide_eq_true c4
     clear c4
     by_cases c5 : x8_1 < (l0.length : Int)
     ·rw [if_pos c5] at H
      have c5b0 : decide (x8_1 < (l0.length : Int)) = true := decide_eq_true c5
      clear c5
      by_cases c6 : a1 = (rd l0 x8_1)
      ·rw [if_pos c6] at H
       have c6b0 : (a1 == (rd l0 x8_1)) = true := beq_iff_eq.mpr c6
       have c6b1 : (a1 != (rd l0 x8_1)) = false := bne_eq_false_iff_eq.mpr c6
       clear c6
       obtain rfl := Option.some.inj H
       have p307 : 0 ≤ (x8_1 : Int) := oa
       have q307 : x8_1 < (l0.length : Int) := oa
       obtain ⟨ad307, e307, hx307_0⟩ := Kd.at_int HR0.out x8_1 p307 q307
       cases e307
       replace p307 := eq_true p307
       replace q307 := eq_true q307
       go_wp2
       go_ret
       exact ⟨e2_, by repeat (first | exact Drawn0.refl _ | apply Drawn0.step)⟩
      ·rw [if_neg c6] at H
       have c6b0 : (a1 == (rd l0 x8_1)) = false := beq_eq_false_iff_ne.mpr c6
       have c6b1 : (a1 != (rd l0 x8_1)) = true := bne_iff_ne.mpr c6
       have H' := dk H
       clear H
       have p307 : 0 ≤ (x8_1 : Int) := oa
       have q307 : x8_1 < (l0.length : Int) := oa
       obtain ⟨ad307, e307, hx307_0⟩ := Kd.at_int HR0.out x8_1 p307 q307
       cases e307
       replace p307 := eq_true p307
       replace q307 := eq_true q307
       go_wp2
       go_roundg k1
       case measure => have := HK1.out; omega
       case rel => exact ⟨(wrap64 (x8_1 + 1)), e2_, H', ⟨by have := HK1.out; omega⟩, by repeat (first | exact Drawn0.refl _ | apply Drawn0.step)⟩
     ·rw [if_neg c5] at H
      exact absurd H (by simp)
    ·rw [if_neg c4] at H
     exact absurd H (by simp)
   ·rw [if_neg c3] at H
    have c3b0 : decide (x8_1 < (l0.length : Int)) = false := decide_eq_false c3
    clear c3
    obtain rfl := Option.some.inj H
    go_wp2
    go_ret
    exact ⟨e2_, by repeat (first | exact Drawn0.refl _ | apply Drawn0.step)⟩
def slices_Contains_int_int.f (k : Nat) (l0 : List Int) (a1 : Int) : Option (Bool) := (slices_Index_int_int.f k l0 a1).bind fun t308 => (some (decide (t308 ≥ 0)))
theorem slices_Contains_int_int.calls (k : Nat) (A0 : Option Addr) (c0 : Nat) (l0 : List Int) (a1 : Int) (r : Bool) (w : World) (hr0 : Kd.C (Kd.int .i64) w A0 l0.length l0) (hc0 : l0.length ≤ c0) (h : slices_Contains_int_int.f k l0 a1 = some r) :
  Calls Try.prog 95 #[.slice A0 l0.length c0, .int .i64 a1] w fun e w' => e = .returned (.bool r) ∧ Drawn0 w w' := by
 have HR0 := dk hr0
 have HC0 := dk hc0
 clear hr0 hc0
 have H : ((slices_Index_int_int.f k l0 a1).bind fun t308 => (some (decide (t308 ≥ 0)))) = some r := h
 clear h
 replace H := Option.bind_eq_some_iff.mp H
 obtain ⟨t308, A30, H⟩ := H
 try dsimp only at H
 have A3 := dk A30
 clear A30
 obtain rfl := Option.some.inj H
 go_enter Try.func95, Try.ntmps95
 go_wp2_with (first | ((with_reducible refine gate_callee (f := 145) rfl ?_); refine gl (some 7) Try.func145 #[.slice A0 l0.length c0, .int .i64 a1] ?_; (with_reducible refine (slices_Index_int_int.calls k _ _ l0 a1 t308 _ ?side1 ?side2 A3.out).mono ?_); (case side1 => exact cz_ HR0); (case side2 => exact HC0.out); rintro e w' ⟨rfl, ⟨nd, rfl⟩⟩; refine ⟨_, rfl, ?_⟩))
 go_ret
 exact ⟨e2_, by repeat (first | exact Drawn0.refl _ | apply Drawn0.step)⟩
def impl_isKey.f (a0 : Int) : Option (Bool) := (impl_within.f a0 1 8).bind fun t309 => (some t309)
theorem impl_isKey.calls (a0 : Int) (r : Bool) (w : World) (h : impl_isKey.f a0 = some r) :
  Calls Try.prog 163 #[.int .i64 a0] w fun e w' => e = .returned (.bool r) ∧ Drawn0 w w' := by
 have H : ((impl_within.f a0 1 8).bind fun t309 => (some t309)) = some r := h
 clear h
 replace H := Option.bind_eq_some_iff.mp H
 obtain ⟨t309, A20, H⟩ := H
 try dsimp only at H
 have A2 := dk A20
 clear A20
 obtain rfl := Option.some.inj H
 go_enter Try.func163, Try.ntmps163
 go_wp2_with (first | ((with_reducible refine gate_callee (f := 128) rfl ?_); refine gl (some 4) Try.func128 #[.int .i64 a0, .int .i64 1, .int .i64 8] ?_; (with_reducible refine (impl_within.calls a0 1 8 t309 _ A2.out).mono ?_); rintro e w' ⟨rfl, ⟨nd, rfl⟩⟩; refine ⟨_, rfl, ?_⟩))
 go_ret
 exact ⟨e2_, by repeat (first | exact Drawn0.refl _ | apply Drawn0.step)⟩
def impl_RulesOk.l0 : Nat → List Int → Int → Int → Int → Int → Int → List Int → Bool → Option (Bool)
 | 0, _, _, _, _, _, _, _, _ => none
 | k + 1, x6, x7, x8, x311000, x311001, x311002, x311003, x311004 => if x8 < x7 then (if 0 ≤ x8 then (if x8 < (x6.length : Int) then ((impl_isKey.f (rd x6 x8)).bind fun t313 => (if t313 = true then (if x8 ≤ (x311003.length : Int) then ((slices_Contains_int_int.f k (x311003.take (x8 : Int).toNat) (rd x6 x8)).bind fun t315 => (if t315 = true then (some false) else (impl_RulesOk.l0 k x6 x7 (wrap64 (x8 + 1)) x311000 x311001 x311002 x311003 x311004))) else (none)) else (some false))) else (none)) else (none)) else (if 0 ≤ x311002 then (if x311002 ≤ x311001 then (if x311001 ≤ x311000 then (if x311000 ≤ 10 then ((impl_within.f (x311003.length : Int) 1 8).bind fun t311 => (some t311)) else (some false)) else (some false)) else (some false)) else (some false))
def impl_RulesOk.f (k : Nat) (a0_0 : Int) (a0_1 : Int) (a0_2 : Int) (l0_3 : List Int) (a0_4 : Bool) : Option (Bool) := impl_RulesOk.l0 k l0_3 (l0_3.length : Int) 0 a0_0 a0_1 a0_2 l0_3 a0_4
theorem impl_RulesOk.calls (k : Nat) (a0_0 : Int) (a0_1 : Int) (a0_2 : Int) (A0_3 : Option Addr) (c0_3 : Nat) (l0_3 : List Int) (a0_4 : Bool) (r : Bool) (w : World) (hr0_3 : Kd.C (Kd.int .i64) w A0_3 l0_3.length l0_3) (hc0_3 : l0_3.length ≤ c0_3) (h : impl_RulesOk.f k a0_0 a0_1 a0_2 l0_3 a0_4 = some r) :
  Calls Try.prog 123 #[.agg #[.int .i64 a0_0, .int .i64 a0_1, .int .i64 a0_2, .slice A0_3 l0_3.length c0_3, .bool a0_4]] w fun e w' => e = .returned (.bool r) ∧ Below w.heap.size w w' := by
 have hu33 := Try.underlying33
 have HR0_3 := dk hr0_3
 have HC0_3 := dk hc0_3
 clear hr0_3 hc0_3
 have HB := dk (Below.refl w.heap.size w)
 have H : (impl_RulesOk.l0 k l0_3 (l0_3.length : Int) 0 a0_0 a0_1 a0_2 l0_3 a0_4) = some r := h
 clear h
 have H' := dk H
 clear H
 go_enter Try.func123, Try.ntmps123
 go_wp2_with (first | ((with_reducible refine gate_dst (N := 1) rfl ?_); (try (refine gate_guard (by rfl) ?_; dsimp only)); refine bx (N := 1) (cs := #[.int .i64 a0_0, .int .i64 a0_1, .int .i64 a0_2, .slice A0_3 l0_3.length c0_3, .bool a0_4]) (t := 33) ?_; intro gb310 hg w2 hbox hb; have BK310 := dk (hbox); have GW310 := gs hg HB; have GE310 := gs hg HB; replace HB := hs_ HB hb; clear hb hbox hg; have ⟨z3_0, z3_1, z3_2, z3_3, z3_4, v3_0, v3_1, v3_2, v3_3, v3_4⟩ := rz5 BK310))
 go_loopg [8] k (fun kq v8 w' => ∃ (x8_1 : Int), v8 = .int .i64 x8_1 ∧ Aside0 (impl_RulesOk.l0 kq l0_3 (l0_3.length : Int) x8_1 a0_0 a0_1 a0_2 l0_3 a0_4 = some r) ∧ Aside0 (kq ≤ k) ∧ Aside0 (w'.heap[gb310]? = some (.cells #[.int .i64 a0_0, .int .i64 a0_1, .int .i64 a0_2, (.slice A0_3 l0_3.length c0_3), .bool a0_4] 33 (0, 0))) ∧ Aside0 (Below w.heap.size w w'))
 case atStart => exact ⟨(0), e2_, H', ⟨Nat.le_refl _⟩, ⟨bk BK310⟩, ⟨bb HB⟩⟩
 case round =>
  clear H'
  (try clear c1)
  (try clear p2)
  (try clear z3_0 z3_1 z3_2 z3_3 z3_4)
  (try clear v3_0 v3_1 v3_2 v3_3 v3_4)
  obtain ⟨x8_1, rfl, HA, HK1, BK310, HB⟩ := hrel
  cases gk with
  | zero => exact absurd HA.out (by simp [impl_RulesOk.l0])
  | succ k1 =>
   have H := HA.out
   clear HA
   simp only [impl_RulesOk.l0] at H
   by_cases c4 : x8_1 < (l0_3.length : Int)
   ·rw [if_pos c4] at H
    have c4b0 : decide (x8_1 < (l0_3.length : Int)) = true := decide_eq_true c4
    clear c4
    by_cases c5 : 0 ≤ x8_1
    ·rw [if_pos c5] at H
     have c5b0 : decide (0 ≤ x8_1) = true := decide_eq_true c5
     clear c5
     by_cases c6 : x8_1 < (l0_3.length : Int)
     ·rw [if_pos c6] at H
      have c6b0 : decide (x8_1 < (l0_3.length : Int)) = true := decide_eq_true c6
      clear c6
      replace H := Option.bind_eq_some_iff.mp H
      obtain ⟨t313, A70, H⟩ := H
      try dsimp only at H
      have A7 := dk A70
      clear A70
      by_cases c8 : t313 = true
      ·subst c8
       rw [if_pos rfl] at H
       have c9b0 := eq_true (oa : 0 ≤ x8_1)
       by_cases c10 : x8_1 ≤ (l0_3.length : Int)
       ·rw [if_pos c10] at H
        have c10b0 := eq_true c10
        have c10b1 : decide (x8_1 ≤ (l0_3.length : Int)) = true := decide_eq_true c10
        clear c10
        replace H := Option.bind_eq_some_iff.mp H
        obtain ⟨t315, A110, H⟩ := H
        try dsimp only at H
        have A11 := dk A110
        clear A110
        by_cases c12 : t315 = true
        ·subst c12
         rw [if_pos rfl] at H
         obtain rfl := Option.some.inj H
         have p312 : 0 ≤ (x8_1 : Int) := oa
         have q312 : x8_1 < (l0_3.length : Int) := oa
         obtain ⟨ad312, e312, hx312_0⟩ := Kd.at_int HR0_3.out x8_1 p312 q312
         cases e312
         replace hx312_0 := hc HB hx312_0
         replace p312 := eq_true p312
         replace q312 := eq_true q312
         go_wp2_with (first | ((with_reducible refine gate_callee (f := 163) rfl ?_); refine gl (some 14) Try.func163 #[.int .i64 (rd l0_3 x8_1)] ?_; (with_reducible refine (impl_isKey.calls (rd l0_3 x8_1) true _ A7.out).mono ?_); rintro e w' ⟨rfl, ⟨nd, rfl⟩⟩; refine ⟨_, rfl, ?_⟩; have ⟨z13_0, z13_1, z13_2, z13_3, z13_4, v13_0, v13_1, v13_2, v13_3, v13_4⟩ := rz5 BK310; obtain ⟨i014, hi014, _, hsz14, _⟩ := info_parts info3; obtain ⟨hcut14, hA14, hC14⟩ := print_take_of (P := Try.prog) (Value.int .i64) 0 23 3 .i64 Try.underlying23 hi014 hsz14 (some ad312) c0_3 l0_3 x8_1 (oa) (oa) HC0_3.out; have HR314 := dk (Kd.C_of_reads (h1 := fun _ => rfl) (hA14 _ (Kd.reads_of_C HR0_3.out))); have HC314 := dk hC14; clear hA14 hC14 hi014 hsz14) | (go_at_call 95; refine calls_of_args (args' := #[.slice (some ad312) (l0_3.take (x8_1 : Int).toNat).length c0_3, .int .i64 (rd l0_3 x8_1)]) (by first | (rw [show (l0_3.take (x8_1 : Int).toNat).length = x8_1.toNat from (by rw [List.length_take]; have h_ : (x8_1 : Int) ≤ (l0_3.length : Int) := oa; omega)] <;> rfl) | rfl) ?_; (with_reducible refine (slices_Contains_int_int.calls k1 _ _ (l0_3.take (x8_1 : Int).toNat) (rd l0_3 x8_1) true _ ?side1 ?side2 A11.out).mono ?_); (case side1 => repeat (first | exact (Kd.C_below HR314.out (bb HB)) | (with_reducible refine Kd.C_alloc ?_ _) | (with_reducible refine Kd.C_drewN ?_ _) | (with_reducible refine Kd.C_drew ?_))); (case side2 => exact HC314.out); rintro e w' ⟨rfl, ⟨nd, rfl⟩⟩))
         go_ret
         exact ⟨ee, bb HB⟩
        ·replace c12 := Bool.eq_false_iff.mpr c12
         subst c12
         rw [if_neg (show ¬ (false = true) by decide)] at H
         have H' := dk H
         clear H
         have p312 : 0 ≤ (x8_1 : Int) := oa
         have q312 : x8_1 < (l0_3.length : Int) := oa
         obtain ⟨ad312, e312, hx312_0⟩ := Kd.at_int HR0_3.out x8_1 p312 q312
         cases e312
         replace hx312_0 := hc HB hx312_0
         replace p312 := eq_true p312
         replace q312 := eq_true q312
         go_wp2_with (first | ((with_reducible refine gate_callee (f := 163) rfl ?_); refine gl (some 14) Try.func163 #[.int .i64 (rd l0_3 x8_1)] ?_; (with_reducible refine (impl_isKey.calls (rd l0_3 x8_1) true _ A7.out).mono ?_); rintro e w' ⟨rfl, ⟨nd, rfl⟩⟩; refine ⟨_, rfl, ?_⟩; have ⟨z15_0, z15_1, z15_2, z15_3, z15_4, v15_0, v15_1, v15_2, v15_3, v15_4⟩ := rz5 BK310; obtain ⟨i016, hi016, _, hsz16, _⟩ := info_parts info3; obtain ⟨hcut16, hA16, hC16⟩ := print_take_of (P := Try.prog) (Value.int .i64) 0 23 3 .i64 Try.underlying23 hi016 hsz16 (some ad312) c0_3 l0_3 x8_1 (oa) (oa) HC0_3.out; have HR314 := dk (Kd.C_of_reads (h1 := fun _ => rfl) (hA16 _ (Kd.reads_of_C HR0_3.out))); have HC314 := dk hC16; clear hA16 hC16 hi016 hsz16) | (go_at_call 95; refine calls_of_args (args' := #[.slice (some ad312) (l0_3.take (x8_1 : Int).toNat).length c0_3, .int .i64 (rd l0_3 x8_1)]) (by first | (rw [show (l0_3.take (x8_1 : Int).toNat).length = x8_1.toNat from (by rw [List.length_take]; have h_ : (x8_1 : Int) ≤ (l0_3.length : Int) := oa; omega)] <;> rfl) | rfl) ?_; (with_reducible refine (slices_Contains_int_int.calls k1 _ _ (l0_3.take (x8_1 : Int).toNat) (rd l0_3 x8_1) false _ ?side1 ?side2 A11.out).mono ?_); (case side1 => repeat (first | exact (Kd.C_below HR314.out (bb HB)) | (with_reducible refine Kd.C_alloc ?_ _) | (with_reducible refine Kd.C_drewN ?_ _) | (with_reducible refine Kd.C_drew ?_))); (case side2 => exact HC314.out); rintro e w' ⟨rfl, ⟨nd, rfl⟩⟩))
         go_roundg k1
         case measure => have := HK1.out; omega
         case rel => exact ⟨(wrap64 (x8_1 + 1)), e2_, H', ⟨by have := HK1.out; omega⟩, ⟨bk BK310⟩, ⟨bb HB⟩⟩
       ·rw [if_neg c10] at H
        exact absurd H (by simp)
      ·replace c8 := Bool.eq_false_iff.mpr c8
       subst c8
       rw [if_neg (show ¬ (false = true) by decide)] at H
       obtain rfl := Option.some.inj H
       have p312 : 0 ≤ (x8_1 : Int) := oa
       have q312 : x8_1 < (l0_3.length : Int) := oa
       obtain ⟨ad312, e312, hx312_0⟩ := Kd.at_int HR0_3.out x8_1 p312 q312
       cases e312
       replace hx312_0 := hc HB hx312_0
       replace p312 := eq_true p312
       replace q312 := eq_true q312
       go_wp2_with (first | ((with_reducible refine gate_callee (f := 163) rfl ?_); refine gl (some 14) Try.func163 #[.int .i64 (rd l0_3 x8_1)] ?_; (with_reducible refine (impl_isKey.calls (rd l0_3 x8_1) false _ A7.out).mono ?_); rintro e w' ⟨rfl, ⟨nd, rfl⟩⟩; refine ⟨_, rfl, ?_⟩))
       go_ret
       exact ⟨ee, bb HB⟩
     ·rw [if_neg c6] at H
      exact absurd H (by simp)
    ·rw [if_neg c5] at H
     exact absurd H (by simp)
   ·rw [if_neg c4] at H
    have c4b0 : decide (x8_1 < (l0_3.length : Int)) = false := decide_eq_false c4
    clear c4
    by_cases c17 : 0 ≤ a0_2
    ·rw [if_pos c17] at H
     have c17b0 : decide (0 ≤ a0_2) = true := decide_eq_true c17
     clear c17
     by_cases c18 : a0_2 ≤ a0_1
     ·rw [if_pos c18] at H
      have c18b0 : decide (a0_2 ≤ a0_1) = true := decide_eq_true c18
      clear c18
      by_cases c19 : a0_1 ≤ a0_0
      ·rw [if_pos c19] at H
       have c19b0 : decide (a0_1 ≤ a0_0) = true := decide_eq_true c19
       clear c19
       by_cases c20 : a0_0 ≤ 10
       ·rw [if_pos c20] at H
        have c20b0 : decide (a0_0 ≤ 10) = true := decide_eq_true c20
        clear c20
        replace H := Option.bind_eq_some_iff.mp H
        obtain ⟨t311, A210, H⟩ := H
        try dsimp only at H
        have A21 := dk A210
        clear A210
        obtain rfl := Option.some.inj H
        have ⟨z22_0, z22_1, z22_2, z22_3, z22_4, v22_0, v22_1, v22_2, v22_3, v22_4⟩ := rz5 BK310
        go_wp2_with (first | (go_at_call 128; (with_reducible refine (impl_within.calls (l0_3.length : Int) 1 8 t311 _ A21.out).mono ?_); rintro e w' ⟨rfl, ⟨nd, rfl⟩⟩))
        go_ret
        exact ⟨ee, bb HB⟩
       ·rw [if_neg c20] at H
        have c20b0 : decide (a0_0 ≤ 10) = false := decide_eq_false c20
        clear c20
        obtain rfl := Option.some.inj H
        have ⟨z23_0, z23_1, z23_2, z23_3, z23_4, v23_0, v23_1, v23_2, v23_3, v23_4⟩ := rz5 BK310
        go_wp2
        go_ret
        exact ⟨ee, bb HB⟩
      ·rw [if_neg c19] at H
       have c19b0 : decide (a0_1 ≤ a0_0) = false := decide_eq_false c19
       clear c19
       obtain rfl := Option.some.inj H
       have ⟨z24_0, z24_1, z24_2, z24_3, z24_4, v24_0, v24_1, v24_2, v24_3, v24_4⟩ := rz5 BK310
       go_wp2
       go_ret
       exact ⟨ee, bb HB⟩
     ·rw [if_neg c18] at H
      have c18b0 : decide (a0_2 ≤ a0_1) = false := decide_eq_false c18
      clear c18
      obtain rfl := Option.some.inj H
      have ⟨z25_0, z25_1, z25_2, z25_3, z25_4, v25_0, v25_1, v25_2, v25_3, v25_4⟩ := rz5 BK310
      go_wp2
      go_ret
      exact ⟨ee, bb HB⟩
    ·rw [if_neg c17] at H
     have c17b0 : decide (0 ≤ a0_2) = false := decide_eq_false c17
     clear c17
     obtain rfl := Option.some.inj H
     have ⟨z26_0, z26_1, z26_2, z26_3, z26_4, v26_0, v26_1, v26_2, v26_3, v26_4⟩ := rz5 BK310
     go_wp2
     go_ret
     exact ⟨ee, bb HB⟩
end Go.Proofs.Ythfefanapneocaa.Q
