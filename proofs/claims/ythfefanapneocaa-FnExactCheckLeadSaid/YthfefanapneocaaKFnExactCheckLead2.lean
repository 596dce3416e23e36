/- A part of the proof of FnExactCheckLead. No condition. -/
import Derived.Test.YthfefanapneocaaKFnExactCheckLead1
import Derived.Test.YthfefanapneocaaProg
import Derived.Below
import Derived.Deep.Draws
import Derived.Deep.AppendLies
import Derived.Maps.AppendAt
import Derived.OwnWalk
import Derived.Laws.BytesArg
import Derived.Laws.MakeOwn
import Derived.Laws.OwnMore
import Derived.Deep.OwnRows
import Derived.Tactics
import Derived.Lib.ConvBytes
import Derived.Laws.Slices
import Derived.WalkKit
import Derived.KernelRfl
import Derived.RowKit3
import Derived.Deep.LoopGhost
import Derived.Deep.QuietTactic
import Derived.BigQuiet
import Derived.WideLaws
import Derived.Deep.DeepCutAuto
import Derived.Deep.CutBlock
import Derived.Deep.RegionHeld3
import Derived.Laws.Rows
import Derived.Lib.AppendStr
import Derived.ArgAppend
import Derived.Laws.IdiomCopy
import Derived.OrdersHeld
import Derived.Laws.BitsLemmas
import Derived.RowKit
import Derived.WalkSpells
import Derived.Shelf.Strings.Builder1
import Derived.Shelf.Strings.Builder2
import Derived.Shelf.Small.Bits
import Derived.Shelf.Strconv.Itoa0
import Derived.Ground.Names2Prog
import Derived.Shelf.Slices.Clone
import Derived.Shelf.Slices.SearchI
import Derived.Ground.SlgnProg
import Derived.Shelf.SlicesE.Clone
import Derived.Lib.AppendIntMem
import Derived.Laws.StructEq
namespace Go.Proofs.Ythfefanapneocaa.Q
open Go.RowKit Go.Proofs.YthfefanapneocaaW.PrintWords Go.Proofs.YthfefanapneocaaW.PrintLast Go.Proofs.YthfefanapneocaaW.PrintMore
attribute [local go_sem] max2_int min2_int max_two min_two max_three min_three max_four min_four
set_option linter.unusedVariables false
set_option linter.unusedSimpArgs false
set_option maxRecDepth 100000
set_option maxHeartbeats 8000000
def laws_eqTeamS.l0 : Nat → List (S139) → List (S139) → Int → Option (Bool)
 | 0, _, _, _ => none
 | k + 1, x0, x1, x5 => if x5 < (x0.length : Int) then (if 0 ≤ x5 then (if x5 < (x1.length : Int) then ((laws_eqTeam.f ((rd_T139 x0 x5).f0) ((rd_T139 x0 x5).f1) ((rd_T139 x0 x5).f2) ((rd_T139 x1 x5).f0) ((rd_T139 x1 x5).f1) ((rd_T139 x1 x5).f2)).bind fun t425 => (if t425 = true then (laws_eqTeamS.l0 k x0 x1 (wrap64 (x5 + 1))) else (some false))) else (none)) else (none)) else (some true)
def laws_eqTeamS.f (k : Nat) (l0 : List (S139)) (l1 : List (S139)) : Option (Bool) := if (l0.length : Int) = (l1.length : Int) then (laws_eqTeamS.l0 k l0 l1 0) else (some false)
def laws_eqTeamS.T6 : Bool × List (List Nat × List Nat) := (true, [([], []), ([], []), ([0, 1], [0, 1]), ([2], [2]), ([], []), ([], []), ([4, 5], [4, 5]), ([6], [6]), ([3, 7], [3, 7]), ([8], [8])])
def laws_eqTeamS.B6 : List Nat := [0, 0, 3, 7, 0, 0, 48, 112, 255, 511]
theorem laws_eqTeamS.tab6 : rtab .any (opsOf Try.f50 6) = laws_eqTeamS.T6 := by kernel_rfl
theorem laws_eqTeamS.bits6 : waitsOk laws_eqTeamS.T6.2 laws_eqTeamS.B6 = true := by kernel_rfl
theorem laws_eqTeamS.calls (k : Nat) (A0 : Option Addr) (c0 : Nat) (l0 : List (S139)) (A1 : Option Addr) (c1 : Nat) (l1 : List (S139)) (r : Bool) (w : World) (hr0 : Kd.C k139 w A0 l0.length l0) (hc0 : l0.length ≤ c0) (hr1 : Kd.C k139 w A1 l1.length l1) (hc1 : l1.length ≤ c1) (h : laws_eqTeamS.f k l0 l1 = some r) :
  Calls Try.prog 50 #[.slice A0 l0.length c0, .slice A1 l1.length c1] w fun e w' => e = .returned (.bool r) ∧ Below w.heap.size w w' := by
 have hu139 := Try.underlying139
 have HR0 := dk hr0
 have HC0 := dk hc0
 clear hr0 hc0
 have HR1 := dk hr1
 have HC1 := dk hc1
 clear hr1 hc1
 have HB := hb0 w
 have H : (if (l0.length : Int) = (l1.length : Int) then (laws_eqTeamS.l0 k l0 l1 0) else (some false)) = some r := h
 clear h
 by_cases c3 : (l0.length : Int) = (l1.length : Int)
 ·rw [if_pos c3] at H
  have c3b0 : ((l0.length : Int) == (l1.length : Int)) = true := beq_iff_eq.mpr c3
  have c3b1 : ((l0.length : Int) != (l1.length : Int)) = false := bne_eq_false_iff_eq.mpr c3
  have c3b2 : (l0.length == l1.length) = true := by first | simpa using c3 | (simp at c3 ⊢; omega)
  clear c3
  have H' := dk H
  clear H
  go_enter Try.func50, Try.ntmps50
  go_wp2
  go_loopg [5] k (fun kq v5 w' => ∃ (x5_1 : Int), v5 = .int .i64 x5_1 ∧ Aside0 (laws_eqTeamS.l0 kq l0 l1 x5_1 = some r) ∧ Aside0 (kq ≤ k) ∧ Aside0 (Below w.heap.size w w'))
  case atStart => exact ⟨(0), e2_, H', ⟨Nat.le_refl _⟩, ⟨bb HB⟩⟩
  case round =>
   clear H'
   obtain ⟨x5_1, rfl, HA, HK1, HB⟩ := hrel
   cases gk with
   | zero => exact absurd HA.out (by simp [laws_eqTeamS.l0])
   | succ k1 =>
    have H := HA.out
    clear HA
    simp only [laws_eqTeamS.l0] at H
    by_cases c4 : x5_1 < (l0.length : Int)
    ·rw [if_pos c4] at H
     have c4b0 := decide_eq_true c4
     clear c4
     by_cases c5 : 0 ≤ x5_1
     ·rw [if_pos c5] at H
      have c5b0 := decide_eq_true c5
      clear c5
      by_cases c6 : x5_1 < (l1.length : Int)
      ·rw [if_pos c6] at H
       have c6b0 := decide_eq_true c6
       clear c6
       replace H := Option.bind_eq_some_iff.mp H
       obtain ⟨t425, A70, H⟩ := H
       try dsimp only at H
       have A7 := dk A70
       clear A70
       by_cases c8 : t425 = true
       ·subst c8
        rw [if_pos rfl] at H
        have H' := dk H
        clear H
        try go_wp2
        replace HB := dk (below_drew1 HB.out)
        have p423 : 0 ≤ (x5_1 : Int) := oa
        have q423 : x5_1 < (l0.length : Int) := oa
        obtain ⟨ad423, e423, hx423_0, hx423_1, hx423_2⟩ := at_T139 HR0.out x5_1 p423 q423
        have hw423_2 := hx423_2
        have hw423_1 := hx423_1
        have hw423_0 := hx423_0
        cases e423
        replace hx423_0 := hc HB hx423_0
        replace hx423_1 := hc HB hx423_1
        replace hx423_2 := hc HB hx423_2
        replace p423 := eq_true p423
        replace q423 := eq_true q423
        have p424 : 0 ≤ (x5_1 : Int) := oa
        have q424 : x5_1 < (l1.length : Int) := oa
        obtain ⟨ad424, e424, hx424_0, hx424_1, hx424_2⟩ := at_T139 HR1.out x5_1 p424 q424
        have hw424_2 := hx424_2
        have hw424_1 := hx424_1
        have hw424_0 := hx424_0
        cases e424
        replace hx424_0 := hc HB hx424_0
        replace hx424_1 := hc HB hx424_1
        replace hx424_2 := hc HB hx424_2
        replace p424 := eq_true p424
        replace q424 := eq_true q424
        refine start_ (n := 10) (S := fun w' => w'.cell? (ad423.add ((x5_1).toNat * 3)) = some (.string ((rd_T139 l0 x5_1).f0)) ∧ w'.cell? ⟨(ad423.add ((x5_1).toNat * 3)).block, (ad423.add ((x5_1).toNat * 3)).off + 1, none⟩ = some (.int .i64 ((rd_T139 l0 x5_1).f1)) ∧ w'.cell? ⟨(ad423.add ((x5_1).toNat * 3)).block, (ad423.add ((x5_1).toNat * 3)).off + 2, none⟩ = some (.int .i64 ((rd_T139 l0 x5_1).f2)) ∧ w'.cell? (ad424.add ((x5_1).toNat * 3)) = some (.string ((rd_T139 l1 x5_1).f0)) ∧ w'.cell? ⟨(ad424.add ((x5_1).toNat * 3)).block, (ad424.add ((x5_1).toNat * 3)).off + 1, none⟩ = some (.int .i64 ((rd_T139 l1 x5_1).f1)) ∧ w'.cell? ⟨(ad424.add ((x5_1).toNat * 3)).block, (ad424.add ((x5_1).toNat * 3)).off + 2, none⟩ = some (.int .i64 ((rd_T139 l1 x5_1).f2))) (ds := []) #[false, false, false, false, false, false, false, false, false, false] (by kernel_rfl) rfl rfl ⟨(hc HB hw423_0), (hc HB hw423_1), (hc HB hw423_2), (hc HB hw424_0), (hc HB hw424_1), (hc HB hw424_2)⟩ (fun hHeld => ?_); refine with_tabW laws_eqTeamS.tab6 laws_eqTeamS.bits6 (fun HT_ HW_ => ?_)
        generalize wr.drew = w9 at HB hx423_0 hx423_1 hx423_2 hx424_0 hx424_1 hx424_2 hHeld ⊢
        refine pz_ 0 17 ?_
        refine pz_ 1 18 ?_
        refine pz_ 2 19 ?_
        refine pz_ 4 21 ?_
        refine pz_ 5 22 ?_
        refine pz_ 6 23 ?_
        refine tk_ 3 20 ?_
        refine tk_ 7 24 ?_
        refine on_ 8 (some 25) (fun K hK => ?_)
        refine ga_ Try.func117 #[.agg #[.string ((rd_T139 l0 x5_1).f0), .int .i64 ((rd_T139 l0 x5_1).f1), .int .i64 ((rd_T139 l0 x5_1).f2)], .agg #[.string ((rd_T139 l1 x5_1).f0), .int .i64 ((rd_T139 l1 x5_1).f1), .int .i64 ((rd_T139 l1 x5_1).f2)]] ?_
        with_reducible refine (laws_eqTeam.calls ((rd_T139 l0 x5_1).f0) ((rd_T139 l0 x5_1).f1) ((rd_T139 l0 x5_1).f2) ((rd_T139 l1 x5_1).f0) ((rd_T139 l1 x5_1).f1) ((rd_T139 l1 x5_1).f2) true _ A7.out).mono ?_
        rintro e w10 ⟨rfl, hb⟩
        refine ⟨_, rfl, ?_⟩
        replace HB := hs_ HB hb
        refine hK.out _ _ ⟨(hc HB hw423_0), (hc HB hw423_1), (hc HB hw423_2), (hc HB hw424_0), (hc HB hw424_1), (hc HB hw424_2)⟩ (fun hHeld => ?_)
        clear hK K
        refine no_ ?_
        refine pz_ 9 26 ?_
        refine done_ (done_of HT_.out (by kernel_rfl)) ?_
        try go_wp2
        go_roundg k1
        case measure => have := HK1.out; omega
        case rel => exact ⟨(wrap64 (x5_1 + 1)), e2_, H', ⟨by have := HK1.out; omega⟩, ⟨bb HB⟩⟩
       ·replace c8 := Bool.eq_false_iff.mpr c8
        subst c8
        rw [if_neg (show ¬ (false = true) by decide)] at H
        obtain rfl := Option.some.inj H
        try go_wp2
        replace HB := dk (below_drew1 HB.out)
        have p423 : 0 ≤ (x5_1 : Int) := oa
        have q423 : x5_1 < (l0.length : Int) := oa
        obtain ⟨ad423, e423, hx423_0, hx423_1, hx423_2⟩ := at_T139 HR0.out x5_1 p423 q423
        have hw423_2 := hx423_2
        have hw423_1 := hx423_1
        have hw423_0 := hx423_0
        cases e423
        replace hx423_0 := hc HB hx423_0
        replace hx423_1 := hc HB hx423_1
        replace hx423_2 := hc HB hx423_2
        replace p423 := eq_true p423
        replace q423 := eq_true q423
        have p424 : 0 ≤ (x5_1 : Int) := oa
        have q424 : x5_1 < (l1.length : Int) := oa
        obtain ⟨ad424, e424, hx424_0, hx424_1, hx424_2⟩ := at_T139 HR1.out x5_1 p424 q424
        have hw424_2 := hx424_2
        have hw424_1 := hx424_1
        have hw424_0 := hx424_0
        cases e424
        replace hx424_0 := hc HB hx424_0
        replace hx424_1 := hc HB hx424_1
        replace hx424_2 := hc HB hx424_2
        replace p424 := eq_true p424
        replace q424 := eq_true q424
        refine start_ (n := 10) (S := fun w' => w'.cell? (ad423.add ((x5_1).toNat * 3)) = some (.string ((rd_T139 l0 x5_1).f0)) ∧ w'.cell? ⟨(ad423.add ((x5_1).toNat * 3)).block, (ad423.add ((x5_1).toNat * 3)).off + 1, none⟩ = some (.int .i64 ((rd_T139 l0 x5_1).f1)) ∧ w'.cell? ⟨(ad423.add ((x5_1).toNat * 3)).block, (ad423.add ((x5_1).toNat * 3)).off + 2, none⟩ = some (.int .i64 ((rd_T139 l0 x5_1).f2)) ∧ w'.cell? (ad424.add ((x5_1).toNat * 3)) = some (.string ((rd_T139 l1 x5_1).f0)) ∧ w'.cell? ⟨(ad424.add ((x5_1).toNat * 3)).block, (ad424.add ((x5_1).toNat * 3)).off + 1, none⟩ = some (.int .i64 ((rd_T139 l1 x5_1).f1)) ∧ w'.cell? ⟨(ad424.add ((x5_1).toNat * 3)).block, (ad424.add ((x5_1).toNat * 3)).off + 2, none⟩ = some (.int .i64 ((rd_T139 l1 x5_1).f2))) (ds := []) #[false, false, false, false, false, false, false, false, false, false] (by kernel_rfl) rfl rfl ⟨(hc HB hw423_0), (hc HB hw423_1), (hc HB hw423_2), (hc HB hw424_0), (hc HB hw424_1), (hc HB hw424_2)⟩ (fun hHeld => ?_); refine with_tabW laws_eqTeamS.tab6 laws_eqTeamS.bits6 (fun HT_ HW_ => ?_)
        generalize wr.drew = w11 at HB hx423_0 hx423_1 hx423_2 hx424_0 hx424_1 hx424_2 hHeld ⊢
        refine pz_ 0 17 ?_
        refine pz_ 1 18 ?_
        refine pz_ 2 19 ?_
        refine pz_ 4 21 ?_
        refine pz_ 5 22 ?_
        refine pz_ 6 23 ?_
        refine tk_ 3 20 ?_
        refine tk_ 7 24 ?_
        refine on_ 8 (some 25) (fun K hK => ?_)
        refine ga_ Try.func117 #[.agg #[.string ((rd_T139 l0 x5_1).f0), .int .i64 ((rd_T139 l0 x5_1).f1), .int .i64 ((rd_T139 l0 x5_1).f2)], .agg #[.string ((rd_T139 l1 x5_1).f0), .int .i64 ((rd_T139 l1 x5_1).f1), .int .i64 ((rd_T139 l1 x5_1).f2)]] ?_
        with_reducible refine (laws_eqTeam.calls ((rd_T139 l0 x5_1).f0) ((rd_T139 l0 x5_1).f1) ((rd_T139 l0 x5_1).f2) ((rd_T139 l1 x5_1).f0) ((rd_T139 l1 x5_1).f1) ((rd_T139 l1 x5_1).f2) false _ A7.out).mono ?_
        rintro e w12 ⟨rfl, hb⟩
        refine ⟨_, rfl, ?_⟩
        replace HB := hs_ HB hb
        refine hK.out _ _ ⟨(hc HB hw423_0), (hc HB hw423_1), (hc HB hw423_2), (hc HB hw424_0), (hc HB hw424_1), (hc HB hw424_2)⟩ (fun hHeld => ?_)
        clear hK K
        refine no_ ?_
        refine pz_ 9 26 ?_
        refine done_ (done_of HT_.out (by kernel_rfl)) ?_
        try go_wp2
        go_ret
        exact ⟨ee, bb HB⟩
      ·rw [if_neg c6] at H
       exact absurd H (by simp)
     ·rw [if_neg c5] at H
      exact absurd H (by simp)
    ·rw [if_neg c4] at H
     have c4b0 := decide_eq_false c4
     clear c4
     obtain rfl := Option.some.inj H
     go_wp2
     go_ret
     exact ⟨ee, bb HB⟩
 ·rw [if_neg c3] at H
  have c3b0 : ((l0.length : Int) == (l1.length : Int)) = false := beq_eq_false_iff_ne.mpr c3
  have c3b1 : ((l0.length : Int) != (l1.length : Int)) = true := bne_iff_ne.mpr c3
  have c3b2 : (l0.length == l1.length) = false := by first | simpa using c3 | (simp at c3 ⊢; omega)
  obtain rfl := Option.some.inj H
  go_enter Try.func50, Try.ntmps50
  go_wp2
  go_ret
  exact ⟨ee, bb HB⟩
def laws_eqRules.f (k : Nat) (a0_0 : Int) (a0_1 : Int) (a0_2 : Int) (l0_3 : List Int) (a0_4 : Bool) (a1_0 : Int) (a1_1 : Int) (a1_2 : Int) (l1_3 : List Int) (a1_4 : Bool) : Option (Bool) := if a0_0 = a1_0 then (if a0_1 = a1_1 then (if a0_2 = a1_2 then ((laws_eqIntS.f k l0_3 l1_3).bind fun t428 => (if t428 = true then (if (a0_4 != a1_4) = true then (some false) else (some true)) else (some false))) else (some false)) else (some false)) else (some false)
theorem laws_eqRules.calls (k : Nat) (a0_0 : Int) (a0_1 : Int) (a0_2 : Int) (A0_3 : Option Addr) (c0_3 : Nat) (l0_3 : List Int) (a0_4 : Bool) (a1_0 : Int) (a1_1 : Int) (a1_2 : Int) (A1_3 : Option Addr) (c1_3 : Nat) (l1_3 : List Int) (a1_4 : Bool) (r : Bool) (w : World) (hr0_3 : Kd.C (Kd.int .i64) w A0_3 l0_3.length l0_3) (hc0_3 : l0_3.length ≤ c0_3) (hr1_3 : Kd.C (Kd.int .i64) w A1_3 l1_3.length l1_3) (hc1_3 : l1_3.length ≤ c1_3) (h : laws_eqRules.f k a0_0 a0_1 a0_2 l0_3 a0_4 a1_0 a1_1 a1_2 l1_3 a1_4 = some r) :
  Calls Try.prog 65 #[.agg #[.int .i64 a0_0, .int .i64 a0_1, .int .i64 a0_2, .slice A0_3 l0_3.length c0_3, .bool a0_4], .agg #[.int .i64 a1_0, .int .i64 a1_1, .int .i64 a1_2, .slice A1_3 l1_3.length c1_3, .bool a1_4]] w fun e w' => e = .returned (.bool r) ∧ Below w.heap.size w w' := by
 have hu33 := Try.underlying33
 have HR0_3 := dk hr0_3
 have HC0_3 := dk hc0_3
 clear hr0_3 hc0_3
 have HR1_3 := dk hr1_3
 have HC1_3 := dk hc1_3
 clear hr1_3 hc1_3
 have HB := hb0 w
 have H : (if a0_0 = a1_0 then (if a0_1 = a1_1 then (if a0_2 = a1_2 then ((laws_eqIntS.f k l0_3 l1_3).bind fun t428 => (if t428 = true then (if (a0_4 != a1_4) = true then (some false) else (some true)) else (some false))) else (some false)) else (some false)) else (some false)) = some r := h
 clear h
 by_cases c3 : a0_0 = a1_0
 ·rw [if_pos c3] at H
  have c3b0 := beq_iff_eq.mpr c3
  have c3b1 := bne_eq_false_iff_eq.mpr c3
  clear c3
  by_cases c4 : a0_1 = a1_1
  ·rw [if_pos c4] at H
   have c4b0 := beq_iff_eq.mpr c4
   have c4b1 := bne_eq_false_iff_eq.mpr c4
   clear c4
   by_cases c5 : a0_2 = a1_2
   ·rw [if_pos c5] at H
    have c5b0 := beq_iff_eq.mpr c5
    have c5b1 := bne_eq_false_iff_eq.mpr c5
    clear c5
    replace H := Option.bind_eq_some_iff.mp H
    obtain ⟨t428, A60, H⟩ := H
    try dsimp only at H
    have A6 := dk A60
    clear A60
    by_cases c7 : t428 = true
    ·subst c7
     rw [if_pos rfl] at H
     by_cases c8 : (a0_4 != a1_4) = true
     ·rw [if_pos c8] at H
      have c8b0 : (a0_4 != a1_4) = true := c8
      (try (have c8b1 : decide (a0_4 = a1_4) = false := by simpa using c8))
      (try (have c8b2 : (a0_4 == a1_4) = false := by simpa using c8))
      (try (have c8b3 : ¬ (a0_4 = a1_4) := by simpa using c8))
      clear c8
      obtain rfl := Option.some.inj H
      go_enter Try.func65, Try.ntmps65
      go_wp2_with (first | ((with_reducible refine gdst_ 2 rfl ?_); refine bx (N := 2) (cs := #[.int .i64 a0_0, .int .i64 a0_1, .int .i64 a0_2, .slice A0_3 l0_3.length c0_3, .bool a0_4]) (t := 33) ?_; intro gb426 hg w9 hbox hb; have BK426 := dk (hbox); have GW426 := gs hg HB; have GE426 := gs hg HB; replace HB := hs_ HB hb; clear hb hbox hg) | ((with_reducible refine gdst_ 3 rfl ?_); refine bx (N := 3) (cs := #[.int .i64 a1_0, .int .i64 a1_1, .int .i64 a1_2, .slice A1_3 l1_3.length c1_3, .bool a1_4]) (t := 33) ?_; intro gb427 hg w10 hbox hb; have BK427 := dk (hbox); have GW427 := gs hg HB; have GE427 := gs hg HB; replace HB := hs_ HB hb; have NB426_427 := gn hg BK426; have NB427_426 := gm hg BK426; replace BK426 := kb BK426 hb; clear hb hbox hg; have hnb11 := NB426_427.out; have hnc11 := NB427_426.out; have ⟨z12_0, z12_1, z12_2, z12_3, z12_4, v12_0, v12_1, v12_2, v12_3, v12_4⟩ := rz5 BK426; have ⟨z13_0, z13_1, z13_2, z13_3, z13_4, v13_0, v13_1, v13_2, v13_3, v13_4⟩ := rz5 BK427) | ((with_reducible refine gcallee_ 28 rfl ?_); refine gl (some 24) Try.func28 #[.slice A0_3 l0_3.length c0_3, .slice A1_3 l1_3.length c1_3] ?_; (with_reducible refine (laws_eqIntS.calls k _ _ l0_3 _ _ l1_3 true _ ?side1 ?side2 ?side3 ?side4 A6.out).mono ?_); (case side1 => exact cc HR0_3 HB); (case side2 => exact HC0_3.out); (case side3 => exact cc HR1_3 HB); (case side4 => exact HC1_3.out); rintro e w' ⟨rfl, ⟨nd, rfl⟩⟩; refine ⟨_, rfl, ?_⟩))
      go_ret
      exact ⟨ee, bb HB⟩
     ·rw [if_neg c8] at H
      have c8b0 : (a0_4 != a1_4) = false := by simpa using c8
      (try (have c8b1 : decide (a0_4 = a1_4) = true := by simpa using c8))
      (try (have c8b2 : (a0_4 == a1_4) = true := by simpa using c8))
      clear c8
      obtain rfl := Option.some.inj H
      go_enter Try.func65, Try.ntmps65
      go_wp2_with (first | ((with_reducible refine gdst_ 2 rfl ?_); refine bx (N := 2) (cs := #[.int .i64 a0_0, .int .i64 a0_1, .int .i64 a0_2, .slice A0_3 l0_3.length c0_3, .bool a0_4]) (t := 33) ?_; intro gb426 hg w14 hbox hb; have BK426 := dk (hbox); have GW426 := gs hg HB; have GE426 := gs hg HB; replace HB := hs_ HB hb; clear hb hbox hg) | ((with_reducible refine gdst_ 3 rfl ?_); refine bx (N := 3) (cs := #[.int .i64 a1_0, .int .i64 a1_1, .int .i64 a1_2, .slice A1_3 l1_3.length c1_3, .bool a1_4]) (t := 33) ?_; intro gb427 hg w15 hbox hb; have BK427 := dk (hbox); have GW427 := gs hg HB; have GE427 := gs hg HB; replace HB := hs_ HB hb; have NB426_427 := gn hg BK426; have NB427_426 := gm hg BK426; replace BK426 := kb BK426 hb; clear hb hbox hg; have hnb16 := NB426_427.out; have hnc16 := NB427_426.out; have ⟨z17_0, z17_1, z17_2, z17_3, z17_4, v17_0, v17_1, v17_2, v17_3, v17_4⟩ := rz5 BK426; have ⟨z18_0, z18_1, z18_2, z18_3, z18_4, v18_0, v18_1, v18_2, v18_3, v18_4⟩ := rz5 BK427) | ((with_reducible refine gcallee_ 28 rfl ?_); refine gl (some 24) Try.func28 #[.slice A0_3 l0_3.length c0_3, .slice A1_3 l1_3.length c1_3] ?_; (with_reducible refine (laws_eqIntS.calls k _ _ l0_3 _ _ l1_3 true _ ?side1 ?side2 ?side3 ?side4 A6.out).mono ?_); (case side1 => exact cc HR0_3 HB); (case side2 => exact HC0_3.out); (case side3 => exact cc HR1_3 HB); (case side4 => exact HC1_3.out); rintro e w' ⟨rfl, ⟨nd, rfl⟩⟩; refine ⟨_, rfl, ?_⟩))
      go_ret
      exact ⟨ee, bb HB⟩
    ·replace c7 := Bool.eq_false_iff.mpr c7
     subst c7
     rw [if_neg (show ¬ (false = true) by decide)] at H
     obtain rfl := Option.some.inj H
     go_enter Try.func65, Try.ntmps65
     go_wp2_with (first | ((with_reducible refine gdst_ 2 rfl ?_); refine bx (N := 2) (cs := #[.int .i64 a0_0, .int .i64 a0_1, .int .i64 a0_2, .slice A0_3 l0_3.length c0_3, .bool a0_4]) (t := 33) ?_; intro gb426 hg w19 hbox hb; have BK426 := dk (hbox); have GW426 := gs hg HB; have GE426 := gs hg HB; replace HB := hs_ HB hb; clear hb hbox hg) | ((with_reducible refine gdst_ 3 rfl ?_); refine bx (N := 3) (cs := #[.int .i64 a1_0, .int .i64 a1_1, .int .i64 a1_2, .slice A1_3 l1_3.length c1_3, .bool a1_4]) (t := 33) ?_; intro gb427 hg w20 hbox hb; have BK427 := dk (hbox); have GW427 := gs hg HB; have GE427 := gs hg HB; replace HB := hs_ HB hb; have NB426_427 := gn hg BK426; have NB427_426 := gm hg BK426; replace BK426 := kb BK426 hb; clear hb hbox hg; have hnb21 := NB426_427.out; have hnc21 := NB427_426.out; have ⟨z22_0, z22_1, z22_2, z22_3, z22_4, v22_0, v22_1, v22_2, v22_3, v22_4⟩ := rz5 BK426; have ⟨z23_0, z23_1, z23_2, z23_3, z23_4, v23_0, v23_1, v23_2, v23_3, v23_4⟩ := rz5 BK427) | ((with_reducible refine gcallee_ 28 rfl ?_); refine gl (some 24) Try.func28 #[.slice A0_3 l0_3.length c0_3, .slice A1_3 l1_3.length c1_3] ?_; (with_reducible refine (laws_eqIntS.calls k _ _ l0_3 _ _ l1_3 false _ ?side1 ?side2 ?side3 ?side4 A6.out).mono ?_); (case side1 => exact cc HR0_3 HB); (case side2 => exact HC0_3.out); (case side3 => exact cc HR1_3 HB); (case side4 => exact HC1_3.out); rintro e w' ⟨rfl, ⟨nd, rfl⟩⟩; refine ⟨_, rfl, ?_⟩))
     go_ret
     exact ⟨ee, bb HB⟩
   ·rw [if_neg c5] at H
    have c5b0 := beq_eq_false_iff_ne.mpr c5
    have c5b1 := bne_iff_ne.mpr c5
    obtain rfl := Option.some.inj H
    go_enter Try.func65, Try.ntmps65
    go_wp2_with (first | ((with_reducible refine gdst_ 2 rfl ?_); refine bx (N := 2) (cs := #[.int .i64 a0_0, .int .i64 a0_1, .int .i64 a0_2, .slice A0_3 l0_3.length c0_3, .bool a0_4]) (t := 33) ?_; intro gb426 hg w24 hbox hb; have BK426 := dk (hbox); have GW426 := gs hg HB; have GE426 := gs hg HB; replace HB := hs_ HB hb; clear hb hbox hg) | ((with_reducible refine gdst_ 3 rfl ?_); refine bx (N := 3) (cs := #[.int .i64 a1_0, .int .i64 a1_1, .int .i64 a1_2, .slice A1_3 l1_3.length c1_3, .bool a1_4]) (t := 33) ?_; intro gb427 hg w25 hbox hb; have BK427 := dk (hbox); have GW427 := gs hg HB; have GE427 := gs hg HB; replace HB := hs_ HB hb; have NB426_427 := gn hg BK426; have NB427_426 := gm hg BK426; replace BK426 := kb BK426 hb; clear hb hbox hg; have hnb26 := NB426_427.out; have hnc26 := NB427_426.out; have ⟨z27_0, z27_1, z27_2, z27_3, z27_4, v27_0, v27_1, v27_2, v27_3, v27_4⟩ := rz5 BK426; have ⟨z28_0, z28_1, z28_2, z28_3, z28_4, v28_0, v28_1, v28_2, v28_3, v28_4⟩ := rz5 BK427))
    go_ret
    exact ⟨ee, bb HB⟩
  ·rw [if_neg c4] at H
   have c4b0 := beq_eq_false_iff_ne.mpr c4
   have c4b1 := bne_iff_ne.mpr c4
   obtain rfl := Option.some.inj H
   go_enter Try.func65, Try.ntmps65
   go_wp2_with (first | ((with_reducible refine gdst_ 2 rfl ?_); refine bx (N := 2) (cs := #[.int .i64 a0_0, .int .i64 a0_1, .int .i64 a0_2, .slice A0_3 l0_3.length c0_3, .bool a0_4]) (t := 33) ?_; intro gb426 hg w29 hbox hb; have BK426 := dk (hbox); have GW426 := gs hg HB; have GE426 := gs hg HB; replace HB := hs_ HB hb; clear hb hbox hg) | ((with_reducible refine gdst_ 3 rfl ?_); refine bx (N := 3) (cs := #[.int .i64 a1_0, .int .i64 a1_1, .int .i64 a1_2, .slice A1_3 l1_3.length c1_3, .bool a1_4]) (t := 33) ?_; intro gb427 hg w30 hbox hb; have BK427 := dk (hbox); have GW427 := gs hg HB; have GE427 := gs hg HB; replace HB := hs_ HB hb; have NB426_427 := gn hg BK426; have NB427_426 := gm hg BK426; replace BK426 := kb BK426 hb; clear hb hbox hg; have hnb31 := NB426_427.out; have hnc31 := NB427_426.out; have ⟨z32_0, z32_1, z32_2, z32_3, z32_4, v32_0, v32_1, v32_2, v32_3, v32_4⟩ := rz5 BK426; have ⟨z33_0, z33_1, z33_2, z33_3, z33_4, v33_0, v33_1, v33_2, v33_3, v33_4⟩ := rz5 BK427))
   go_ret
   exact ⟨ee, bb HB⟩
 ·rw [if_neg c3] at H
  have c3b0 := beq_eq_false_iff_ne.mpr c3
  have c3b1 := bne_iff_ne.mpr c3
  obtain rfl := Option.some.inj H
  go_enter Try.func65, Try.ntmps65
  go_wp2_with (first | ((with_reducible refine gdst_ 2 rfl ?_); refine bx (N := 2) (cs := #[.int .i64 a0_0, .int .i64 a0_1, .int .i64 a0_2, .slice A0_3 l0_3.length c0_3, .bool a0_4]) (t := 33) ?_; intro gb426 hg w34 hbox hb; have BK426 := dk (hbox); have GW426 := gs hg HB; have GE426 := gs hg HB; replace HB := hs_ HB hb; clear hb hbox hg) | ((with_reducible refine gdst_ 3 rfl ?_); refine bx (N := 3) (cs := #[.int .i64 a1_0, .int .i64 a1_1, .int .i64 a1_2, .slice A1_3 l1_3.length c1_3, .bool a1_4]) (t := 33) ?_; intro gb427 hg w35 hbox hb; have BK427 := dk (hbox); have GW427 := gs hg HB; have GE427 := gs hg HB; replace HB := hs_ HB hb; have NB426_427 := gn hg BK426; have NB427_426 := gm hg BK426; replace BK426 := kb BK426 hb; clear hb hbox hg; have hnb36 := NB426_427.out; have hnc36 := NB427_426.out; have ⟨z37_0, z37_1, z37_2, z37_3, z37_4, v37_0, v37_1, v37_2, v37_3, v37_4⟩ := rz5 BK426; have ⟨z38_0, z38_1, z38_2, z38_3, z38_4, v38_0, v38_1, v38_2, v38_3, v38_4⟩ := rz5 BK427))
  go_ret
  exact ⟨ee, bb HB⟩
def laws_eqGame.f (a0_0 : Int) (a0_1 : Int) (a0_2 : Int) (a0_3 : Int) (a0_4 : Int) (a1_0 : Int) (a1_1 : Int) (a1_2 : Int) (a1_3 : Int) (a1_4 : Int) : Option (Bool) := if a0_0 = a1_0 then (if a0_1 = a1_1 then (if a0_2 = a1_2 then (if a0_3 = a1_3 then (if a0_4 = a1_4 then (some true) else (some false)) else (some false)) else (some false)) else (some false)) else (some false)
theorem laws_eqGame.calls (a0_0 : Int) (a0_1 : Int) (a0_2 : Int) (a0_3 : Int) (a0_4 : Int) (a1_0 : Int) (a1_1 : Int) (a1_2 : Int) (a1_3 : Int) (a1_4 : Int) (r : Bool) (w : World) (h : laws_eqGame.f a0_0 a0_1 a0_2 a0_3 a0_4 a1_0 a1_1 a1_2 a1_3 a1_4 = some r) :
  Calls Try.prog 129 #[.agg #[.int .i64 a0_0, .int .i64 a0_1, .int .i64 a0_2, .int .i64 a0_3, .int .i64 a0_4], .agg #[.int .i64 a1_0, .int .i64 a1_1, .int .i64 a1_2, .int .i64 a1_3, .int .i64 a1_4]] w fun e w' => e = .returned (.bool r) ∧ Below w.heap.size w w' := by
 have hu95 := Try.underlying95
 have HB := hb0 w
 have H : (if a0_0 = a1_0 then (if a0_1 = a1_1 then (if a0_2 = a1_2 then (if a0_3 = a1_3 then (if a0_4 = a1_4 then (some true) else (some false)) else (some false)) else (some false)) else (some false)) else (some false)) = some r := h
 clear h
 by_cases c3 : a0_0 = a1_0
 ·rw [if_pos c3] at H
  have c3b0 := beq_iff_eq.mpr c3
  have c3b1 := bne_eq_false_iff_eq.mpr c3
  clear c3
  by_cases c4 : a0_1 = a1_1
  ·rw [if_pos c4] at H
   have c4b0 := beq_iff_eq.mpr c4
   have c4b1 := bne_eq_false_iff_eq.mpr c4
   clear c4
   by_cases c5 : a0_2 = a1_2
   ·rw [if_pos c5] at H
    have c5b0 := beq_iff_eq.mpr c5
    have c5b1 := bne_eq_false_iff_eq.mpr c5
    clear c5
    by_cases c6 : a0_3 = a1_3
    ·rw [if_pos c6] at H
     have c6b0 := beq_iff_eq.mpr c6
     have c6b1 := bne_eq_false_iff_eq.mpr c6
     clear c6
     by_cases c7 : a0_4 = a1_4
     ·rw [if_pos c7] at H
      have c7b0 := beq_iff_eq.mpr c7
      have c7b1 := bne_eq_false_iff_eq.mpr c7
      clear c7
      obtain rfl := Option.some.inj H
      go_enter Try.func129, Try.ntmps129
      go_wp2_with (first | ((with_reducible refine gdst_ 2 rfl ?_); refine bx (N := 2) (cs := #[.int .i64 a0_0, .int .i64 a0_1, .int .i64 a0_2, .int .i64 a0_3, .int .i64 a0_4]) (t := 95) ?_; intro gb429 hg w8 hbox hb; have BK429 := dk (hbox); have GW429 := gs hg HB; have GE429 := gs hg HB; replace HB := hs_ HB hb; clear hb hbox hg) | ((with_reducible refine gdst_ 3 rfl ?_); refine bx (N := 3) (cs := #[.int .i64 a1_0, .int .i64 a1_1, .int .i64 a1_2, .int .i64 a1_3, .int .i64 a1_4]) (t := 95) ?_; intro gb430 hg w9 hbox hb; have BK430 := dk (hbox); have GW430 := gs hg HB; have GE430 := gs hg HB; replace HB := hs_ HB hb; have NB429_430 := gn hg BK429; have NB430_429 := gm hg BK429; replace BK429 := kb BK429 hb; clear hb hbox hg; have hnb10 := NB429_430.out; have hnc10 := NB430_429.out; have ⟨z11_0, z11_1, z11_2, z11_3, z11_4, v11_0, v11_1, v11_2, v11_3, v11_4⟩ := rz5 BK429; have ⟨z12_0, z12_1, z12_2, z12_3, z12_4, v12_0, v12_1, v12_2, v12_3, v12_4⟩ := rz5 BK430))
      go_ret
      exact ⟨ee, bb HB⟩
     ·rw [if_neg c7] at H
      have c7b0 := beq_eq_false_iff_ne.mpr c7
      have c7b1 := bne_iff_ne.mpr c7
      obtain rfl := Option.some.inj H
      go_enter Try.func129, Try.ntmps129
      go_wp2_with (first | ((with_reducible refine gdst_ 2 rfl ?_); refine bx (N := 2) (cs := #[.int .i64 a0_0, .int .i64 a0_1, .int .i64 a0_2, .int .i64 a0_3, .int .i64 a0_4]) (t := 95) ?_; intro gb429 hg w13 hbox hb; have BK429 := dk (hbox); have GW429 := gs hg HB; have GE429 := gs hg HB; replace HB := hs_ HB hb; clear hb hbox hg) | ((with_reducible refine gdst_ 3 rfl ?_); refine bx (N := 3) (cs := #[.int .i64 a1_0, .int .i64 a1_1, .int .i64 a1_2, .int .i64 a1_3, .int .i64 a1_4]) (t := 95) ?_; intro gb430 hg w14 hbox hb; have BK430 := dk (hbox); have GW430 := gs hg HB; have GE430 := gs hg HB; replace HB := hs_ HB hb; have NB429_430 := gn hg BK429; have NB430_429 := gm hg BK429; replace BK429 := kb BK429 hb; clear hb hbox hg; have hnb15 := NB429_430.out; have hnc15 := NB430_429.out; have ⟨z16_0, z16_1, z16_2, z16_3, z16_4, v16_0, v16_1, v16_2, v16_3, v16_4⟩ := rz5 BK429; have ⟨z17_0, z17_1, z17_2, z17_3, z17_4, v17_0, v17_1, v17_2, v17_3, v17_4⟩ := rz5 BK430))
      go_ret
      exact ⟨ee, bb HB⟩
    ·rw [if_neg c6] at H
     have c6b0 := beq_eq_false_iff_ne.mpr c6
     have c6b1 := bne_iff_ne.mpr c6
     obtain rfl := Option.some.inj H
     go_enter Try.func129, Try.ntmps129
     go_wp2_with (first | ((with_reducible refine gdst_ 2 rfl ?_); refine bx (N := 2) (cs := #[.int .i64 a0_0, .int .i64 a0_1, .int .i64 a0_2, .int .i64 a0_3, .int .i64 a0_4]) (t := 95) ?_; intro gb429 hg w18 hbox hb; have BK429 := dk (hbox); have GW429 := gs hg HB; have GE429 := gs hg HB; replace HB := hs_ HB hb; clear hb hbox hg) | ((with_reducible refine gdst_ 3 rfl ?_); refine bx (N := 3) (cs := #[.int .i64 a1_0, .int .i64 a1_1, .int .i64 a1_2, .int .i64 a1_3, .int .i64 a1_4]) (t := 95) ?_; intro gb430 hg w19 hbox hb; have BK430 := dk (hbox); have GW430 := gs hg HB; have GE430 := gs hg HB; replace HB := hs_ HB hb; have NB429_430 := gn hg BK429; have NB430_429 := gm hg BK429; replace BK429 := kb BK429 hb; clear hb hbox hg; have hnb20 := NB429_430.out; have hnc20 := NB430_429.out; have ⟨z21_0, z21_1, z21_2, z21_3, z21_4, v21_0, v21_1, v21_2, v21_3, v21_4⟩ := rz5 BK429; have ⟨z22_0, z22_1, z22_2, z22_3, z22_4, v22_0, v22_1, v22_2, v22_3, v22_4⟩ := rz5 BK430))
     go_ret
     exact ⟨ee, bb HB⟩
   ·rw [if_neg c5] at H
    have c5b0 := beq_eq_false_iff_ne.mpr c5
    have c5b1 := bne_iff_ne.mpr c5
    obtain rfl := Option.some.inj H
    go_enter Try.func129, Try.ntmps129
    go_wp2_with (first | ((with_reducible refine gdst_ 2 rfl ?_); refine bx (N := 2) (cs := #[.int .i64 a0_0, .int .i64 a0_1, .int .i64 a0_2, .int .i64 a0_3, .int .i64 a0_4]) (t := 95) ?_; intro gb429 hg w23 hbox hb; have BK429 := dk (hbox); have GW429 := gs hg HB; have GE429 := gs hg HB; replace HB := hs_ HB hb; clear hb hbox hg) | ((with_reducible refine gdst_ 3 rfl ?_); refine bx (N := 3) (cs := #[.int .i64 a1_0, .int .i64 a1_1, .int .i64 a1_2, .int .i64 a1_3, .int .i64 a1_4]) (t := 95) ?_; intro gb430 hg w24 hbox hb; have BK430 := dk (hbox); have GW430 := gs hg HB; have GE430 := gs hg HB; replace HB := hs_ HB hb; have NB429_430 := gn hg BK429; have NB430_429 := gm hg BK429; replace BK429 := kb BK429 hb; clear hb hbox hg; have hnb25 := NB429_430.out; have hnc25 := NB430_429.out; have ⟨z26_0, z26_1, z26_2, z26_3, z26_4, v26_0, v26_1, v26_2, v26_3, v26_4⟩ := rz5 BK429; have ⟨z27_0, z27_1, z27_2, z27_3, z27_4, v27_0, v27_1, v27_2, v27_3, v27_4⟩ := rz5 BK430))
    go_ret
    exact ⟨ee, bb HB⟩
  ·rw [if_neg c4] at H
   have c4b0 := beq_eq_false_iff_ne.mpr c4
   have c4b1 := bne_iff_ne.mpr c4
   obtain rfl := Option.some.inj H
   go_enter Try.func129, Try.ntmps129
   go_wp2_with (first | ((with_reducible refine gdst_ 2 rfl ?_); refine bx (N := 2) (cs := #[.int .i64 a0_0, .int .i64 a0_1, .int .i64 a0_2, .int .i64 a0_3, .int .i64 a0_4]) (t := 95) ?_; intro gb429 hg w28 hbox hb; have BK429 := dk (hbox); have GW429 := gs hg HB; have GE429 := gs hg HB; replace HB := hs_ HB hb; clear hb hbox hg) | ((with_reducible refine gdst_ 3 rfl ?_); refine bx (N := 3) (cs := #[.int .i64 a1_0, .int .i64 a1_1, .int .i64 a1_2, .int .i64 a1_3, .int .i64 a1_4]) (t := 95) ?_; intro gb430 hg w29 hbox hb; have BK430 := dk (hbox); have GW430 := gs hg HB; have GE430 := gs hg HB; replace HB := hs_ HB hb; have NB429_430 := gn hg BK429; have NB430_429 := gm hg BK429; replace BK429 := kb BK429 hb; clear hb hbox hg; have hnb30 := NB429_430.out; have hnc30 := NB430_429.out; have ⟨z31_0, z31_1, z31_2, z31_3, z31_4, v31_0, v31_1, v31_2, v31_3, v31_4⟩ := rz5 BK429; have ⟨z32_0, z32_1, z32_2, z32_3, z32_4, v32_0, v32_1, v32_2, v32_3, v32_4⟩ := rz5 BK430))
   go_ret
   exact ⟨ee, bb HB⟩
 ·rw [if_neg c3] at H
  have c3b0 := beq_eq_false_iff_ne.mpr c3
  have c3b1 := bne_iff_ne.mpr c3
  obtain rfl := Option.some.inj H
  go_enter Try.func129, Try.ntmps129
  go_wp2_with (first | ((with_reducible refine gdst_ 2 rfl ?_); refine bx (N := 2) (cs := #[.int .i64 a0_0, .int .i64 a0_1, .int .i64 a0_2, .int .i64 a0_3, .int .i64 a0_4]) (t := 95) ?_; intro gb429 hg w33 hbox hb; have BK429 := dk (hbox); have GW429 := gs hg HB; have GE429 := gs hg HB; replace HB := hs_ HB hb; clear hb hbox hg) | ((with_reducible refine gdst_ 3 rfl ?_); refine bx (N := 3) (cs := #[.int .i64 a1_0, .int .i64 a1_1, .int .i64 a1_2, .int .i64 a1_3, .int .i64 a1_4]) (t := 95) ?_; intro gb430 hg w34 hbox hb; have BK430 := dk (hbox); have GW430 := gs hg HB; have GE430 := gs hg HB; replace HB := hs_ HB hb; have NB429_430 := gn hg BK429; have NB430_429 := gm hg BK429; replace BK429 := kb BK429 hb; clear hb hbox hg; have hnb35 := NB429_430.out; have hnc35 := NB430_429.out; have ⟨z36_0, z36_1, z36_2, z36_3, z36_4, v36_0, v36_1, v36_2, v36_3, v36_4⟩ := rz5 BK429; have ⟨z37_0, z37_1, z37_2, z37_3, z37_4, v37_0, v37_1, v37_2, v37_3, v37_4⟩ := rz5 BK430))
  go_ret
  exact ⟨ee, bb HB⟩
def laws_eqGameS.l0 : Nat → List (S95) → List (S95) → Int → Option (Bool)
 | 0, _, _, _ => none
 | k + 1, x0, x1, x5 => if x5 < (x0.length : Int) then (if 0 ≤ x5 then (if x5 < (x1.length : Int) then ((laws_eqGame.f ((rd_T95 x0 x5).f0) ((rd_T95 x0 x5).f1) ((rd_T95 x0 x5).f2) ((rd_T95 x0 x5).f3) ((rd_T95 x0 x5).f4) ((rd_T95 x1 x5).f0) ((rd_T95 x1 x5).f1) ((rd_T95 x1 x5).f2) ((rd_T95 x1 x5).f3) ((rd_T95 x1 x5).f4)).bind fun t433 => (if t433 = true then (laws_eqGameS.l0 k x0 x1 (wrap64 (x5 + 1))) else (some false))) else (none)) else (none)) else (some true)
def laws_eqGameS.f (k : Nat) (l0 : List (S95)) (l1 : List (S95)) : Option (Bool) := if (l0.length : Int) = (l1.length : Int) then (laws_eqGameS.l0 k l0 l1 0) else (some false)
def laws_eqGameS.T6 : Bool × List (List Nat × List Nat) := (true, [([], []), ([], []), ([0, 1], [0, 1]), ([2], [2]), ([], []), ([], []), ([4, 5], [4, 5]), ([6], [6]), ([3, 7], [3, 7]), ([8], [8])])
def laws_eqGameS.B6 : List Nat := [0, 0, 3, 7, 0, 0, 48, 112, 255, 511]
theorem laws_eqGameS.tab6 : rtab .any (opsOf Try.f66 6) = laws_eqGameS.T6 := by kernel_rfl
theorem laws_eqGameS.bits6 : waitsOk laws_eqGameS.T6.2 laws_eqGameS.B6 = true := by kernel_rfl
theorem laws_eqGameS.calls (k : Nat) (A0 : Option Addr) (c0 : Nat) (l0 : List (S95)) (A1 : Option Addr) (c1 : Nat) (l1 : List (S95)) (r : Bool) (w : World) (hr0 : Kd.C k95 w A0 l0.length l0) (hc0 : l0.length ≤ c0) (hr1 : Kd.C k95 w A1 l1.length l1) (hc1 : l1.length ≤ c1) (h : laws_eqGameS.f k l0 l1 = some r) :
  Calls Try.prog 66 #[.slice A0 l0.length c0, .slice A1 l1.length c1] w fun e w' => e = .returned (.bool r) ∧ Below w.heap.size w w' := by
 have hu95 := Try.underlying95
 have HR0 := dk hr0
 have HC0 := dk hc0
 clear hr0 hc0
 have HR1 := dk hr1
 have HC1 := dk hc1
 clear hr1 hc1
 have HB := hb0 w
 have H : (if (l0.length : Int) = (l1.length : Int) then (laws_eqGameS.l0 k l0 l1 0) else (some false)) = some r := h
 clear h
 by_cases c3 : (l0.length : Int) = (l1.length : Int)
 ·rw [if_pos c3] at H
  have c3b0 : ((l0.length : Int) == (l1.length : Int)) = true := beq_iff_eq.mpr c3
  have c3b1 : ((l0.length : Int) != (l1.length : Int)) = false := bne_eq_false_iff_eq.mpr c3
  have c3b2 : (l0.length == l1.length) = true := by first | simpa using c3 | (simp at c3 ⊢; omega)
  clear c3
  have H' := dk H
  clear H
  go_enter Try.func66, Try.ntmps66
  go_wp2
  go_loopg [5] k (fun kq v5 w' => ∃ (x5_1 : Int), v5 = .int .i64 x5_1 ∧ Aside0 (laws_eqGameS.l0 kq l0 l1 x5_1 = some r) ∧ Aside0 (kq ≤ k) ∧ Aside0 (Below w.heap.size w w'))
  case atStart => exact ⟨(0), e2_, H', ⟨Nat.le_refl _⟩, ⟨bb HB⟩⟩
  case round =>
   clear H'
   obtain ⟨x5_1, rfl, HA, HK1, HB⟩ := hrel
   cases gk with
   | zero => exact absurd HA.out (by simp [laws_eqGameS.l0])
   | succ k1 =>
    have H := HA.out
    clear HA
    simp only [laws_eqGameS.l0] at H
    by_cases c4 : x5_1 < (l0.length : Int)
    ·rw [if_pos c4] at H
     have c4b0 := decide_eq_true c4
     clear c4
     by_cases c5 : 0 ≤ x5_1
     ·rw [if_pos c5] at H
      have c5b0 := decide_eq_true c5
      clear c5
      by_cases c6 : x5_1 < (l1.length : Int)
      ·rw [if_pos c6] at H
       have c6b0 := decide_eq_true c6
       clear c6
       replace H := Option.bind_eq_some_iff.mp H
       obtain ⟨t433, A70, H⟩ := H
       try dsimp only at H
       have A7 := dk A70
       clear A70
       by_cases c8 : t433 = true
       ·subst c8
        rw [if_pos rfl] at H
        have H' := dk H
        clear H
        try go_wp2
        replace HB := dk (below_drew1 HB.out)
        have p431 : 0 ≤ (x5_1 : Int) := oa
        have q431 : x5_1 < (l0.length : Int) := oa
        obtain ⟨ad431, e431, hx431_0, hx431_1, hx431_2, hx431_3, hx431_4⟩ := at_T95 HR0.out x5_1 p431 q431
        have hw431_4 := hx431_4
        have hw431_3 := hx431_3
        have hw431_2 := hx431_2
        have hw431_1 := hx431_1
        have hw431_0 := hx431_0
        cases e431
        replace hx431_0 := hc HB hx431_0
        replace hx431_1 := hc HB hx431_1
        replace hx431_2 := hc HB hx431_2
        replace hx431_3 := hc HB hx431_3
        replace hx431_4 := hc HB hx431_4
        replace p431 := eq_true p431
        replace q431 := eq_true q431
        have p432 : 0 ≤ (x5_1 : Int) := oa
        have q432 : x5_1 < (l1.length : Int) := oa
        obtain ⟨ad432, e432, hx432_0, hx432_1, hx432_2, hx432_3, hx432_4⟩ := at_T95 HR1.out x5_1 p432 q432
        have hw432_4 := hx432_4
        have hw432_3 := hx432_3
        have hw432_2 := hx432_2
        have hw432_1 := hx432_1
        have hw432_0 := hx432_0
        cases e432
        replace hx432_0 := hc HB hx432_0
        replace hx432_1 := hc HB hx432_1
        replace hx432_2 := hc HB hx432_2
        replace hx432_3 := hc HB hx432_3
        replace hx432_4 := hc HB hx432_4
        replace p432 := eq_true p432
        replace q432 := eq_true q432
        refine start_ (n := 10) (S := fun w' => w'.cell? (ad431.add ((x5_1).toNat * 5)) = some (.int .i64 ((rd_T95 l0 x5_1).f0)) ∧ w'.cell? ⟨(ad431.add ((x5_1).toNat * 5)).block, (ad431.add ((x5_1).toNat * 5)).off + 1, none⟩ = some (.int .i64 ((rd_T95 l0 x5_1).f1)) ∧ w'.cell? ⟨(ad431.add ((x5_1).toNat * 5)).block, (ad431.add ((x5_1).toNat * 5)).off + 2, none⟩ = some (.int .i64 ((rd_T95 l0 x5_1).f2)) ∧ w'.cell? ⟨(ad431.add ((x5_1).toNat * 5)).block, (ad431.add ((x5_1).toNat * 5)).off + 3, none⟩ = some (.int .i64 ((rd_T95 l0 x5_1).f3)) ∧ w'.cell? ⟨(ad431.add ((x5_1).toNat * 5)).block, (ad431.add ((x5_1).toNat * 5)).off + 4, none⟩ = some (.int .i64 ((rd_T95 l0 x5_1).f4)) ∧ w'.cell? (ad432.add ((x5_1).toNat * 5)) = some (.int .i64 ((rd_T95 l1 x5_1).f0)) ∧ w'.cell? ⟨(ad432.add ((x5_1).toNat * 5)).block, (ad432.add ((x5_1).toNat * 5)).off + 1, none⟩ = some (.int .i64 ((rd_T95 l1 x5_1).f1)) ∧ w'.cell? ⟨(ad432.add ((x5_1).toNat * 5)).block, (ad432.add ((x5_1).toNat * 5)).off + 2, none⟩ = some (.int .i64 ((rd_T95 l1 x5_1).f2)) ∧ w'.cell? ⟨(ad432.add ((x5_1).toNat * 5)).block, (ad432.add ((x5_1).toNat * 5)).off + 3, none⟩ = some (.int .i64 ((rd_T95 l1 x5_1).f3)) ∧ w'.cell? ⟨(ad432.add ((x5_1).toNat * 5)).block, (ad432.add ((x5_1).toNat * 5)).off + 4, none⟩ = some (.int .i64 ((rd_T95 l1 x5_1).f4))) (ds := []) #[false, false, false, false, false, false, false, false, false, false] (by kernel_rfl) rfl rfl ⟨(hc HB hw431_0), (hc HB hw431_1), (hc HB hw431_2), (hc HB hw431_3), (hc HB hw431_4), (hc HB hw432_0), (hc HB hw432_1), (hc HB hw432_2), (hc HB hw432_3), (hc HB hw432_4)⟩ (fun hHeld => ?_); refine with_tabW laws_eqGameS.tab6 laws_eqGameS.bits6 (fun HT_ HW_ => ?_)
        generalize wr.drew = w9 at HB hx431_0 hx431_1 hx431_2 hx431_3 hx431_4 hx432_0 hx432_1 hx432_2 hx432_3 hx432_4 hHeld ⊢
        refine pz_ 0 17 ?_
        refine pz_ 1 18 ?_
        refine pz_ 2 19 ?_
        refine pz_ 4 21 ?_
        refine pz_ 5 22 ?_
        refine pz_ 6 23 ?_
        refine tk_ 3 20 ?_
        refine tk_ 7 24 ?_
        refine on_ 8 (some 25) (fun K hK => ?_)
        refine ga_ Try.func129 #[.agg #[.int .i64 ((rd_T95 l0 x5_1).f0), .int .i64 ((rd_T95 l0 x5_1).f1), .int .i64 ((rd_T95 l0 x5_1).f2), .int .i64 ((rd_T95 l0 x5_1).f3), .int .i64 ((rd_T95 l0 x5_1).f4)], .agg #[.int .i64 ((rd_T95 l1 x5_1).f0), .int .i64 ((rd_T95 l1 x5_1).f1), .int .i64 ((rd_T95 l1 x5_1).f2), .int .i64 ((rd_T95 l1 x5_1).f3), .int .i64 ((rd_T95 l1 x5_1).f4)]] ?_
        with_reducible refine (laws_eqGame.calls ((rd_T95 l0 x5_1).f0) ((rd_T95 l0 x5_1).f1) ((rd_T95 l0 x5_1).f2) ((rd_T95 l0 x5_1).f3) ((rd_T95 l0 x5_1).f4) ((rd_T95 l1 x5_1).f0) ((rd_T95 l1 x5_1).f1) ((rd_T95 l1 x5_1).f2) ((rd_T95 l1 x5_1).f3) ((rd_T95 l1 x5_1).f4) true _ A7.out).mono ?_
        rintro e w10 ⟨rfl, hb⟩
        refine ⟨_, rfl, ?_⟩
        replace HB := hs_ HB hb
        refine hK.out _ _ ⟨(hc HB hw431_0), (hc HB hw431_1), (hc HB hw431_2), (hc HB hw431_3), (hc HB hw431_4), (hc HB hw432_0), (hc HB hw432_1), (hc HB hw432_2), (hc HB hw432_3), (hc HB hw432_4)⟩ (fun hHeld => ?_)
        clear hK K
        refine no_ ?_
        refine pz_ 9 26 ?_
        refine done_ (done_of HT_.out (by kernel_rfl)) ?_
        try go_wp2
        go_roundg k1
        case measure => have := HK1.out; omega
        case rel => exact ⟨(wrap64 (x5_1 + 1)), e2_, H', ⟨by have := HK1.out; omega⟩, ⟨bb HB⟩⟩
       ·replace c8 := Bool.eq_false_iff.mpr c8
        subst c8
        rw [if_neg (show ¬ (false = true) by decide)] at H
        obtain rfl := Option.some.inj H
        try go_wp2
        replace HB := dk (below_drew1 HB.out)
        have p431 : 0 ≤ (x5_1 : Int) := oa
        have q431 : x5_1 < (l0.length : Int) := oa
        obtain ⟨ad431, e431, hx431_0, hx431_1, hx431_2, hx431_3, hx431_4⟩ := at_T95 HR0.out x5_1 p431 q431
        have hw431_4 := hx431_4
        have hw431_3 := hx431_3
        have hw431_2 := hx431_2
        have hw431_1 := hx431_1
        have hw431_0 := hx431_0
        cases e431
        replace hx431_0 := hc HB hx431_0
        replace hx431_1 := hc HB hx431_1
        replace hx431_2 := hc HB hx431_2
        replace hx431_3 := hc HB hx431_3
        replace hx431_4 := hc HB hx431_4
        replace p431 := eq_true p431
        replace q431 := eq_true q431
        have p432 : 0 ≤ (x5_1 : Int) := oa
        have q432 : x5_1 < (l1.length : Int) := oa
        obtain ⟨ad432, e432, hx432_0, hx432_1, hx432_2, hx432_3, hx432_4⟩ := at_T95 HR1.out x5_1 p432 q432
        have hw432_4 := hx432_4
        have hw432_3 := hx432_3
        have hw432_2 := hx432_2
        have hw432_1 := hx432_1
        have hw432_0 := hx432_0
        cases e432
        replace hx432_0 := hc HB hx432_0
        replace hx432_1 := hc HB hx432_1
        replace hx432_2 := hc HB hx432_2
        replace hx432_3 := hc HB hx432_3
        replace hx432_4 := hc HB hx432_4
        replace p432 := eq_true p432
        replace q432 := eq_true q432
        refine start_ (n := 10) (S := fun w' => w'.cell? (ad431.add ((x5_1).toNat * 5)) = some (.int .i64 ((rd_T95 l0 x5_1).f0)) ∧ w'.cell? ⟨(ad431.add ((x5_1).toNat * 5)).block, (ad431.add ((x5_1).toNat * 5)).off + 1, none⟩ = some (.int .i64 ((rd_T95 l0 x5_1).f1)) ∧ w'.cell? ⟨(ad431.add ((x5_1).toNat * 5)).block, (ad431.add ((x5_1).toNat * 5)).off + 2, none⟩ = some (.int .i64 ((rd_T95 l0 x5_1).f2)) ∧ w'.cell? ⟨(ad431.add ((x5_1).toNat * 5)).block, (ad431.add ((x5_1).toNat * 5)).off + 3, none⟩ = some (.int .i64 ((rd_T95 l0 x5_1).f3)) ∧ w'.cell? ⟨(ad431.add ((x5_1).toNat * 5)).block, (ad431.add ((x5_1).toNat * 5)).off + 4, none⟩ = some (.int .i64 ((rd_T95 l0 x5_1).f4)) ∧ w'.cell? (ad432.add ((x5_1).toNat * 5)) = some (.int .i64 ((rd_T95 l1 x5_1).f0)) ∧ w'.cell? ⟨(ad432.add ((x5_1).toNat * 5)).block, (ad432.add ((x5_1).toNat * 5)).off + 1, none⟩ = some (.int .i64 ((rd_T95 l1 x5_1).f1)) ∧ w'.cell? ⟨(ad432.add ((x5_1).toNat * 5)).block, (ad432.add ((x5_1).toNat * 5)).off + 2, none⟩ = some (.int .i64 ((rd_T95 l1 x5_1).f2)) ∧ w'.cell? ⟨(ad432.add ((x5_1).toNat * 5)).block, (ad432.add ((x5_1).toNat * 5)).off + 3, none⟩ = some (.int .i64 ((rd_T95 l1 x5_1).f3)) ∧ w'.cell? ⟨(ad432.add ((x5_1).toNat * 5)).block, (ad432.add ((x5_1).toNat * 5)).off + 4, none⟩ = some (.int .i64 ((rd_T95 l1 x5_1).f4))) (ds := []) #[false, false, false, false, false, false, false, false, false, false] (by kernel_rfl) rfl rfl ⟨(hc HB hw431_0), (hc HB hw431_1), (hc HB hw431_2), (hc HB hw431_3), (hc HB hw431_4), (hc HB hw432_0), (hc HB hw432_1), (hc HB hw432_2), (hc HB hw432_3), (hc HB hw432_4)⟩ (fun hHeld => ?_); refine with_tabW laws_eqGameS.tab6 laws_eqGameS.bits6 (fun HT_ HW_ => ?_)
        generalize wr.drew = w11 at HB hx431_0 hx431_1 hx431_2 hx431_3 hx431_4 hx432_0 hx432_1 hx432_2 hx432_3 hx432_4 hHeld ⊢
        refine pz_ 0 17 ?_
        refine pz_ 1 18 ?_
        refine pz_ 2 19 ?_
        refine pz_ 4 21 ?_
        refine pz_ 5 22 ?_
        refine pz_ 6 23 ?_
        refine tk_ 3 20 ?_
        refine tk_ 7 24 ?_
        refine on_ 8 (some 25) (fun K hK => ?_)
        refine ga_ Try.func129 #[.agg #[.int .i64 ((rd_T95 l0 x5_1).f0), .int .i64 ((rd_T95 l0 x5_1).f1), .int .i64 ((rd_T95 l0 x5_1).f2), .int .i64 ((rd_T95 l0 x5_1).f3), .int .i64 ((rd_T95 l0 x5_1).f4)], .agg #[.int .i64 ((rd_T95 l1 x5_1).f0), .int .i64 ((rd_T95 l1 x5_1).f1), .int .i64 ((rd_T95 l1 x5_1).f2), .int .i64 ((rd_T95 l1 x5_1).f3), .int .i64 ((rd_T95 l1 x5_1).f4)]] ?_
        with_reducible refine (laws_eqGame.calls ((rd_T95 l0 x5_1).f0) ((rd_T95 l0 x5_1).f1) ((rd_T95 l0 x5_1).f2) ((rd_T95 l0 x5_1).f3) ((rd_T95 l0 x5_1).f4) ((rd_T95 l1 x5_1).f0) ((rd_T95 l1 x5_1).f1) ((rd_T95 l1 x5_1).f2) ((rd_T95 l1 x5_1).f3) ((rd_T95 l1 x5_1).f4) false _ A7.out).mono ?_
        rintro e w12 ⟨rfl, hb⟩
        refine ⟨_, rfl, ?_⟩
        replace HB := hs_ HB hb
        refine hK.out _ _ ⟨(hc HB hw431_0), (hc HB hw431_1), (hc HB hw431_2), (hc HB hw431_3), (hc HB hw431_4), (hc HB hw432_0), (hc HB hw432_1), (hc HB hw432_2), (hc HB hw432_3), (hc HB hw432_4)⟩ (fun hHeld => ?_)
        clear hK K
        refine no_ ?_
        refine pz_ 9 26 ?_
        refine done_ (done_of HT_.out (by kernel_rfl)) ?_
        try go_wp2
        go_ret
        exact ⟨ee, bb HB⟩
      ·rw [if_neg c6] at H
       exact absurd H (by simp)
     ·rw [if_neg c5] at H
      exact absurd H (by simp)
    ·rw [if_neg c4] at H
     have c4b0 := decide_eq_false c4
     clear c4
     obtain rfl := Option.some.inj H
     go_wp2
     go_ret
     exact ⟨ee, bb HB⟩
 ·rw [if_neg c3] at H
  have c3b0 : ((l0.length : Int) == (l1.length : Int)) = false := beq_eq_false_iff_ne.mpr c3
  have c3b1 : ((l0.length : Int) != (l1.length : Int)) = true := bne_iff_ne.mpr c3
  have c3b2 : (l0.length == l1.length) = false := by first | simpa using c3 | (simp at c3 ⊢; omega)
  obtain rfl := Option.some.inj H
  go_enter Try.func66, Try.ntmps66
  go_wp2
  go_ret
  exact ⟨ee, bb HB⟩
def laws_eqBook.f (k : Nat) (l0_0 : List (S139)) (a0_1 : Int) (a0_2 : Int) (a0_3 : Int) (l0_4 : List Int) (a0_5 : Bool) (l0_6 : List (S95)) (l0_7 : List Int) (l0_8 : List Int) (l1_0 : List (S139)) (a1_1 : Int) (a1_2 : Int) (a1_3 : Int) (l1_4 : List Int) (a1_5 : Bool) (l1_6 : List (S95)) (l1_7 : List Int) (l1_8 : List Int) : Option (Bool) := (laws_eqTeamS.f k l0_0 l1_0).bind fun t436 => (if t436 = true then ((laws_eqRules.f k a0_1 a0_2 a0_3 l0_4 a0_5 a1_1 a1_2 a1_3 l1_4 a1_5).bind fun t437 => (if t437 = true then ((laws_eqGameS.f k l0_6 l1_6).bind fun t438 => (if t438 = true then ((laws_eqIntS.f k l0_7 l1_7).bind fun t439 => (if t439 = true then ((laws_eqIntS.f k l0_8 l1_8).bind fun t440 => (if t440 = true then (some true) else (some false))) else (some false))) else (some false))) else (some false))) else (some false))
theorem laws_eqBook.calls (k : Nat) (A0_0 : Option Addr) (c0_0 : Nat) (l0_0 : List (S139)) (a0_1 : Int) (a0_2 : Int) (a0_3 : Int) (A0_4 : Option Addr) (c0_4 : Nat) (l0_4 : List Int) (a0_5 : Bool) (A0_6 : Option Addr) (c0_6 : Nat) (l0_6 : List (S95)) (A0_7 : Option Addr) (c0_7 : Nat) (l0_7 : List Int) (A0_8 : Option Addr) (c0_8 : Nat) (l0_8 : List Int) (A1_0 : Option Addr) (c1_0 : Nat) (l1_0 : List (S139)) (a1_1 : Int) (a1_2 : Int) (a1_3 : Int) (A1_4 : Option Addr) (c1_4 : Nat) (l1_4 : List Int) (a1_5 : Bool) (A1_6 : Option Addr) (c1_6 : Nat) (l1_6 : List (S95)) (A1_7 : Option Addr) (c1_7 : Nat) (l1_7 : List Int) (A1_8 : Option Addr) (c1_8 : Nat) (l1_8 : List Int) (r : Bool) (w : World) (hr0_0 : Kd.C k139 w A0_0 l0_0.length l0_0) (hc0_0 : l0_0.length ≤ c0_0) (hr0_4 : Kd.C (Kd.int .i64) w A0_4 l0_4.length l0_4) (hc0_4 : l0_4.length ≤ c0_4) (hr0_6 : Kd.C k95 w A0_6 l0_6.length l0_6) (hc0_6 : l0_6.length ≤ c0_6) (hr0_7 : Kd.C (Kd.int .i64) w A0_7 l0_7.length l0_7) (hc0_7 : l0_7.length ≤ c0_7) (hr0_8 : Kd.C (Kd.int .i64) w A0_8 l0_8.length l0_8) (hc0_8 : l0_8.length ≤ c0_8) (hr1_0 : Kd.C k139 w A1_0 l1_0.length l1_0) (hc1_0 : l1_0.length ≤ c1_0) (hr1_4 : Kd.C (Kd.int .i64) w A1_4 l1_4.length l1_4) (hc1_4 : l1_4.length ≤ c1_4) (hr1_6 : Kd.C k95 w A1_6 l1_6.length l1_6) (hc1_6 : l1_6.length ≤ c1_6) (hr1_7 : Kd.C (Kd.int .i64) w A1_7 l1_7.length l1_7) (hc1_7 : l1_7.length ≤ c1_7) (hr1_8 : Kd.C (Kd.int .i64) w A1_8 l1_8.length l1_8) (hc1_8 : l1_8.length ≤ c1_8) (h : laws_eqBook.f k l0_0 a0_1 a0_2 a0_3 l0_4 a0_5 l0_6 l0_7 l0_8 l1_0 a1_1 a1_2 a1_3 l1_4 a1_5 l1_6 l1_7 l1_8 = some r) :
  Calls Try.prog 16 #[.agg #[.slice A0_0 l0_0.length c0_0, .int .i64 a0_1, .int .i64 a0_2, .int .i64 a0_3, .slice A0_4 l0_4.length c0_4, .bool a0_5, .slice A0_6 l0_6.length c0_6, .slice A0_7 l0_7.length c0_7, .slice A0_8 l0_8.length c0_8], .agg #[.slice A1_0 l1_0.length c1_0, .int .i64 a1_1, .int .i64 a1_2, .int .i64 a1_3, .slice A1_4 l1_4.length c1_4, .bool a1_5, .slice A1_6 l1_6.length c1_6, .slice A1_7 l1_7.length c1_7, .slice A1_8 l1_8.length c1_8]] w fun e w' => e = .returned (.bool r) ∧ Below w.heap.size w w' := by
 have hu36 := Try.underlying36
 have hu33 := Try.underlying33
 have HR0_0 := dk hr0_0
 have HC0_0 := dk hc0_0
 clear hr0_0 hc0_0
 have HR0_4 := dk hr0_4
 have HC0_4 := dk hc0_4
 clear hr0_4 hc0_4
 have HR0_6 := dk hr0_6
 have HC0_6 := dk hc0_6
 clear hr0_6 hc0_6
 have HR0_7 := dk hr0_7
 have HC0_7 := dk hc0_7
 clear hr0_7 hc0_7
 have HR0_8 := dk hr0_8
 have HC0_8 := dk hc0_8
 clear hr0_8 hc0_8
 have HR1_0 := dk hr1_0
 have HC1_0 := dk hc1_0
 clear hr1_0 hc1_0
 have HR1_4 := dk hr1_4
 have HC1_4 := dk hc1_4
 clear hr1_4 hc1_4
 have HR1_6 := dk hr1_6
 have HC1_6 := dk hc1_6
 clear hr1_6 hc1_6
 have HR1_7 := dk hr1_7
 have HC1_7 := dk hc1_7
 clear hr1_7 hc1_7
 have HR1_8 := dk hr1_8
 have HC1_8 := dk hc1_8
 clear hr1_8 hc1_8
 have HB := hb0 w
 have H : ((laws_eqTeamS.f k l0_0 l1_0).bind fun t436 => (if t436 = true then ((laws_eqRules.f k a0_1 a0_2 a0_3 l0_4 a0_5 a1_1 a1_2 a1_3 l1_4 a1_5).bind fun t437 => (if t437 = true then ((laws_eqGameS.f k l0_6 l1_6).bind fun t438 => (if t438 = true then ((laws_eqIntS.f k l0_7 l1_7).bind fun t439 => (if t439 = true then ((laws_eqIntS.f k l0_8 l1_8).bind fun t440 => (if t440 = true then (some true) else (some false))) else (some false))) else (some false))) else (some false))) else (some false))) = some r := h
 clear h
 replace H := Option.bind_eq_some_iff.mp H
 obtain ⟨t436, A30, H⟩ := H
 try dsimp only at H
 have A3 := dk A30
 clear A30
 by_cases c4 : t436 = true
 ·subst c4
  rw [if_pos rfl] at H
  replace H := Option.bind_eq_some_iff.mp H
  obtain ⟨t437, A50, H⟩ := H
  try dsimp only at H
  have A5 := dk A50
  clear A50
  by_cases c6 : t437 = true
  ·subst c6
   rw [if_pos rfl] at H
   replace H := Option.bind_eq_some_iff.mp H
   obtain ⟨t438, A70, H⟩ := H
   try dsimp only at H
   have A7 := dk A70
   clear A70
   by_cases c8 : t438 = true
   ·subst c8
    rw [if_pos rfl] at H
    replace H := Option.bind_eq_some_iff.mp H
    obtain ⟨t439, A90, H⟩ := H
    try dsimp only at H
    have A9 := dk A90
    clear A90
    by_cases c10 : t439 = true
    ·subst c10
     rw [if_pos rfl] at H
     replace H := Option.bind_eq_some_iff.mp H
     obtain ⟨t440, A110, H⟩ := H
     try dsimp only at H
     have A11 := dk A110
     clear A110
     by_cases c12 : t440 = true
     ·subst c12
      rw [if_pos rfl] at H
      obtain rfl := Option.some.inj H
      go_enter Try.func16, Try.ntmps16
      go_wp2_with (first | ((with_reducible refine gdst_ 2 rfl ?_); refine bx (N := 2) (cs := #[.slice A0_0 l0_0.length c0_0, .int .i64 a0_1, .int .i64 a0_2, .int .i64 a0_3, .slice A0_4 l0_4.length c0_4, .bool a0_5, .slice A0_6 l0_6.length c0_6, .slice A0_7 l0_7.length c0_7, .slice A0_8 l0_8.length c0_8]) (t := 36) ?_; intro gb434 hg w13 hbox hb; have BK434 := dk (hbox); have GW434 := gs hg HB; have GE434 := gs hg HB; replace HB := hs_ HB hb; clear hb hbox hg) | ((with_reducible refine gdst_ 3 rfl ?_); refine bx (N := 3) (cs := #[.slice A1_0 l1_0.length c1_0, .int .i64 a1_1, .int .i64 a1_2, .int .i64 a1_3, .slice A1_4 l1_4.length c1_4, .bool a1_5, .slice A1_6 l1_6.length c1_6, .slice A1_7 l1_7.length c1_7, .slice A1_8 l1_8.length c1_8]) (t := 36) ?_; intro gb435 hg w14 hbox hb; have BK435 := dk (hbox); have GW435 := gs hg HB; have GE435 := gs hg HB; replace HB := hs_ HB hb; have NB434_435 := gn hg BK434; have NB435_434 := gm hg BK434; replace BK434 := kb BK434 hb; clear hb hbox hg; have hnb15 := NB434_435.out; have hnc15 := NB435_434.out; have ⟨z16_0, z16_1, z16_2, z16_3, z16_4, z16_5, z16_6, z16_7, z16_8, v16_0, v16_1, v16_2, v16_3, v16_4, v16_5, v16_6, v16_7, v16_8⟩ := rz9 BK434; have ⟨z17_0, z17_1, z17_2, z17_3, z17_4, z17_5, z17_6, z17_7, z17_8, v17_0, v17_1, v17_2, v17_3, v17_4, v17_5, v17_6, v17_7, v17_8⟩ := rz9 BK435) | ((with_reducible refine gcallee_ 50 rfl ?_); refine gl (some 9) Try.func50 #[.slice A0_0 l0_0.length c0_0, .slice A1_0 l1_0.length c1_0] ?_; (with_reducible refine (laws_eqTeamS.calls k _ _ l0_0 _ _ l1_0 true _ ?side1 ?side2 ?side3 ?side4 A3.out).mono ?_); (case side1 => exact cc HR0_0 HB); (case side2 => exact HC0_0.out); (case side3 => exact cc HR1_0 HB); (case side4 => exact HC1_0.out); rintro e w18 ⟨rfl, hb⟩; refine ⟨_, rfl, ?_⟩; replace BK434 := kb BK434 hb; replace BK435 := kb BK435 hb; replace HB := hs_ HB hb; have ⟨z19_0, z19_1, z19_2, z19_3, z19_4, z19_5, z19_6, z19_7, z19_8, v19_0, v19_1, v19_2, v19_3, v19_4, v19_5, v19_6, v19_7, v19_8⟩ := rz9 BK434; have ⟨z20_0, z20_1, z20_2, z20_3, z20_4, z20_5, z20_6, z20_7, z20_8, v20_0, v20_1, v20_2, v20_3, v20_4, v20_5, v20_6, v20_7, v20_8⟩ := rz9 BK435) | ((with_reducible refine gcallee_ 65 rfl ?_); refine gl (some 15) Try.func65 #[.agg #[.int .i64 a0_1, .int .i64 a0_2, .int .i64 a0_3, .slice A0_4 l0_4.length c0_4, .bool a0_5], .agg #[.int .i64 a1_1, .int .i64 a1_2, .int .i64 a1_3, .slice A1_4 l1_4.length c1_4, .bool a1_5]] ?_; (with_reducible refine (laws_eqRules.calls k a0_1 a0_2 a0_3 _ _ l0_4 a0_5 a1_1 a1_2 a1_3 _ _ l1_4 a1_5 true _ ?side1 ?side2 ?side3 ?side4 A5.out).mono ?_); (case side1 => exact cc HR0_4 HB); (case side2 => exact HC0_4.out); (case side3 => exact cc HR1_4 HB); (case side4 => exact HC1_4.out); rintro e w21 ⟨rfl, hb⟩; refine ⟨_, rfl, ?_⟩; replace BK434 := kb BK434 hb; replace BK435 := kb BK435 hb; replace HB := hs_ HB hb; have ⟨z22_0, z22_1, z22_2, z22_3, z22_4, z22_5, z22_6, z22_7, z22_8, v22_0, v22_1, v22_2, v22_3, v22_4, v22_5, v22_6, v22_7, v22_8⟩ := rz9 BK434; have ⟨z23_0, z23_1, z23_2, z23_3, z23_4, z23_5, z23_6, z23_7, z23_8, v23_0, v23_1, v23_2, v23_3, v23_4, v23_5, v23_6, v23_7, v23_8⟩ := rz9 BK435) | ((with_reducible refine gcallee_ 66 rfl ?_); refine gl (some 21) Try.func66 #[.slice A0_6 l0_6.length c0_6, .slice A1_6 l1_6.length c1_6] ?_; (with_reducible refine (laws_eqGameS.calls k _ _ l0_6 _ _ l1_6 true _ ?side1 ?side2 ?side3 ?side4 A7.out).mono ?_); (case side1 => exact cc HR0_6 HB); (case side2 => exact HC0_6.out); (case side3 => exact cc HR1_6 HB); (case side4 => exact HC1_6.out); rintro e w24 ⟨rfl, hb⟩; refine ⟨_, rfl, ?_⟩; replace BK434 := kb BK434 hb; replace BK435 := kb BK435 hb; replace HB := hs_ HB hb; have ⟨z25_0, z25_1, z25_2, z25_3, z25_4, z25_5, z25_6, z25_7, z25_8, v25_0, v25_1, v25_2, v25_3, v25_4, v25_5, v25_6, v25_7, v25_8⟩ := rz9 BK434; have ⟨z26_0, z26_1, z26_2, z26_3, z26_4, z26_5, z26_6, z26_7, z26_8, v26_0, v26_1, v26_2, v26_3, v26_4, v26_5, v26_6, v26_7, v26_8⟩ := rz9 BK435) | ((with_reducible refine gcallee_ 28 rfl ?_); refine gl (some 27) Try.func28 #[.slice A0_7 l0_7.length c0_7, .slice A1_7 l1_7.length c1_7] ?_; (with_reducible refine (laws_eqIntS.calls k _ _ l0_7 _ _ l1_7 true _ ?side1 ?side2 ?side3 ?side4 A9.out).mono ?_); (case side1 => exact cc HR0_7 HB); (case side2 => exact HC0_7.out); (case side3 => exact cc HR1_7 HB); (case side4 => exact HC1_7.out); rintro e w' ⟨rfl, ⟨nd, rfl⟩⟩; refine ⟨_, rfl, ?_⟩) | ((with_reducible refine gcallee_ 28 rfl ?_); refine gl (some 33) Try.func28 #[.slice A0_8 l0_8.length c0_8, .slice A1_8 l1_8.length c1_8] ?_; (with_reducible refine (laws_eqIntS.calls k _ _ l0_8 _ _ l1_8 true _ ?side1 ?side2 ?side3 ?side4 A11.out).mono ?_); (case side1 => repeat (first | exact (Kd.C_below HR0_8.out (bb HB)) | (with_reducible refine Kd.C_alloc ?_ _) | (with_reducible refine Kd.C_drewN ?_ _) | (with_reducible refine Kd.C_drew ?_))); (case side2 => exact HC0_8.out); (case side3 => repeat (first | exact (Kd.C_below HR1_8.out (bb HB)) | (with_reducible refine Kd.C_alloc ?_ _) | (with_reducible refine Kd.C_drewN ?_ _) | (with_reducible refine Kd.C_drew ?_))); (case side4 => exact HC1_8.out); rintro e w' ⟨rfl, ⟨nd, rfl⟩⟩; refine ⟨_, rfl, ?_⟩))
      go_ret
      exact ⟨ee, bb HB⟩
     ·replace c12 := Bool.eq_false_iff.mpr c12
      subst c12
      rw [if_neg (show ¬ (false = true) by decide)] at H
      obtain rfl := Option.some.inj H
      go_enter Try.func16, Try.ntmps16
      go_wp2_with (first | ((with_reducible refine gdst_ 2 rfl ?_); refine bx (N := 2) (cs := #[.slice A0_0 l0_0.length c0_0, .int .i64 a0_1, .int .i64 a0_2, .int .i64 a0_3, .slice A0_4 l0_4.length c0_4, .bool a0_5, .slice A0_6 l0_6.length c0_6, .slice A0_7 l0_7.length c0_7, .slice A0_8 l0_8.length c0_8]) (t := 36) ?_; intro gb434 hg w27 hbox hb; have BK434 := dk (hbox); have GW434 := gs hg HB; have GE434 := gs hg HB; replace HB := hs_ HB hb; clear hb hbox hg) | ((with_reducible refine gdst_ 3 rfl ?_); refine bx (N := 3) (cs := #[.slice A1_0 l1_0.length c1_0, .int .i64 a1_1, .int .i64 a1_2, .int .i64 a1_3, .slice A1_4 l1_4.length c1_4, .bool a1_5, .slice A1_6 l1_6.length c1_6, .slice A1_7 l1_7.length c1_7, .slice A1_8 l1_8.length c1_8]) (t := 36) ?_; intro gb435 hg w28 hbox hb; have BK435 := dk (hbox); have GW435 := gs hg HB; have GE435 := gs hg HB; replace HB := hs_ HB hb; have NB434_435 := gn hg BK434; have NB435_434 := gm hg BK434; replace BK434 := kb BK434 hb; clear hb hbox hg; have hnb29 := NB434_435.out; have hnc29 := NB435_434.out; have ⟨z30_0, z30_1, z30_2, z30_3, z30_4, z30_5, z30_6, z30_7, z30_8, v30_0, v30_1, v30_2, v30_3, v30_4, v30_5, v30_6, v30_7, v30_8⟩ := rz9 BK434; have ⟨z31_0, z31_1, z31_2, z31_3, z31_4, z31_5, z31_6, z31_7, z31_8, v31_0, v31_1, v31_2, v31_3, v31_4, v31_5, v31_6, v31_7, v31_8⟩ := rz9 BK435) | ((with_reducible refine gcallee_ 50 rfl ?_); refine gl (some 9) Try.func50 #[.slice A0_0 l0_0.length c0_0, .slice A1_0 l1_0.length c1_0] ?_; (with_reducible refine (laws_eqTeamS.calls k _ _ l0_0 _ _ l1_0 true _ ?side1 ?side2 ?side3 ?side4 A3.out).mono ?_); (case side1 => exact cc HR0_0 HB); (case side2 => exact HC0_0.out); (case side3 => exact cc HR1_0 HB); (case side4 => exact HC1_0.out); rintro e w32 ⟨rfl, hb⟩; refine ⟨_, rfl, ?_⟩; replace BK434 := kb BK434 hb; replace BK435 := kb BK435 hb; replace HB := hs_ HB hb; have ⟨z33_0, z33_1, z33_2, z33_3, z33_4, z33_5, z33_6, z33_7, z33_8, v33_0, v33_1, v33_2, v33_3, v33_4, v33_5, v33_6, v33_7, v33_8⟩ := rz9 BK434; have ⟨z34_0, z34_1, z34_2, z34_3, z34_4, z34_5, z34_6, z34_7, z34_8, v34_0, v34_1, v34_2, v34_3, v34_4, v34_5, v34_6, v34_7, v34_8⟩ := rz9 BK435) | ((with_reducible refine gcallee_ 65 rfl ?_); refine gl (some 15) Try.func65 #[.agg #[.int .i64 a0_1, .int .i64 a0_2, .int .i64 a0_3, .slice A0_4 l0_4.length c0_4, .bool a0_5], .agg #[.int .i64 a1_1, .int .i64 a1_2, .int .i64 a1_3, .slice A1_4 l1_4.length c1_4, .bool a1_5]] ?_; (with_reducible refine (laws_eqRules.calls k a0_1 a0_2 a0_3 _ _ l0_4 a0_5 a1_1 a1_2 a1_3 _ _ l1_4 a1_5 true _ ?side1 ?side2 ?side3 ?side4 A5.out).mono ?_); (case side1 => exact cc HR0_4 HB); (case side2 => exact HC0_4.out); (case side3 => exact cc HR1_4 HB); (case side4 => exact HC1_4.out); rintro e w35 ⟨rfl, hb⟩; refine ⟨_, rfl, ?_⟩; replace BK434 := kb BK434 hb; replace BK435 := kb BK435 hb; replace HB := hs_ HB hb; have ⟨z36_0, z36_1, z36_2, z36_3, z36_4, z36_5, z36_6, z36_7, z36_8, v36_0, v36_1, v36_2, v36_3, v36_4, v36_5, v36_6, v36_7, v36_8⟩ := rz9 BK434; have ⟨z37_0, z37_1, z37_2, z37_3, z37_4, z37_5, z37_6, z37_7, z37_8, v37_0, v37_1, v37_2, v37_3, v37_4, v37_5, v37_6, v37_7, v37_8⟩ := rz9 BK435) | ((with_reducible refine gcallee_ 66 rfl ?_); refine gl (some 21) Try.func66 #[.slice A0_6 l0_6.length c0_6, .slice A1_6 l1_6.length c1_6] ?_; (with_reducible refine (laws_eqGameS.calls k _ _ l0_6 _ _ l1_6 true _ ?side1 ?side2 ?side3 ?side4 A7.out).mono ?_); (case side1 => exact cc HR0_6 HB); (case side2 => exact HC0_6.out); (case side3 => exact cc HR1_6 HB); (case side4 => exact HC1_6.out); rintro e w38 ⟨rfl, hb⟩; refine ⟨_, rfl, ?_⟩; replace BK434 := kb BK434 hb; replace BK435 := kb BK435 hb; replace HB := hs_ HB hb; have ⟨z39_0, z39_1, z39_2, z39_3, z39_4, z39_5, z39_6, z39_7, z39_8, v39_0, v39_1, v39_2, v39_3, v39_4, v39_5, v39_6, v39_7, v39_8⟩ := rz9 BK434; have ⟨z40_0, z40_1, z40_2, z40_3, z40_4, z40_5, z40_6, z40_7, z40_8, v40_0, v40_1, v40_2, v40_3, v40_4, v40_5, v40_6, v40_7, v40_8⟩ := rz9 BK435) | ((with_reducible refine gcallee_ 28 rfl ?_); refine gl (some 27) Try.func28 #[.slice A0_7 l0_7.length c0_7, .slice A1_7 l1_7.length c1_7] ?_; (with_reducible refine (laws_eqIntS.calls k _ _ l0_7 _ _ l1_7 true _ ?side1 ?side2 ?side3 ?side4 A9.out).mono ?_); (case side1 => exact cc HR0_7 HB); (case side2 => exact HC0_7.out); (case side3 => exact cc HR1_7 HB); (case side4 => exact HC1_7.out); rintro e w' ⟨rfl, ⟨nd, rfl⟩⟩; refine ⟨_, rfl, ?_⟩) | ((with_reducible refine gcallee_ 28 rfl ?_); refine gl (some 33) Try.func28 #[.slice A0_8 l0_8.length c0_8, .slice A1_8 l1_8.length c1_8] ?_; (with_reducible refine (laws_eqIntS.calls k _ _ l0_8 _ _ l1_8 false _ ?side1 ?side2 ?side3 ?side4 A11.out).mono ?_); (case side1 => repeat (first | exact (Kd.C_below HR0_8.out (bb HB)) | (with_reducible refine Kd.C_alloc ?_ _) | (with_reducible refine Kd.C_drewN ?_ _) | (with_reducible refine Kd.C_drew ?_))); (case side2 => exact HC0_8.out); (case side3 => repeat (first | exact (Kd.C_below HR1_8.out (bb HB)) | (with_reducible refine Kd.C_alloc ?_ _) | (with_reducible refine Kd.C_drewN ?_ _) | (with_reducible refine Kd.C_drew ?_))); (case side4 => exact HC1_8.out); rintro e w' ⟨rfl, ⟨nd, rfl⟩⟩; refine ⟨_, rfl, ?_⟩))
      go_ret
      exact ⟨ee, bb HB⟩
    ·replace c10 := Bool.eq_false_iff.mpr c10
     subst c10
     rw [if_neg (show ¬ (false = true) by decide)] at H
     obtain rfl := Option.some.inj H
     go_enter Try.func16, Try.ntmps16
     go_wp2_with (first | ((with_reducible refine gdst_ 2 rfl ?_); refine bx (N := 2) (cs := #[.slice A0_0 l0_0.length c0_0, .int .i64 a0_1, .int .i64 a0_2, .int .i64 a0_3, .slice A0_4 l0_4.length c0_4, .bool a0_5, .slice A0_6 l0_6.length c0_6, .slice A0_7 l0_7.length c0_7, .slice A0_8 l0_8.length c0_8]) (t := 36) ?_; intro gb434 hg w41 hbox hb; have BK434 := dk (hbox); have GW434 := gs hg HB; have GE434 := gs hg HB; replace HB := hs_ HB hb; clear hb hbox hg) | ((with_reducible refine gdst_ 3 rfl ?_); refine bx (N := 3) (cs := #[.slice A1_0 l1_0.length c1_0, .int .i64 a1_1, .int .i64 a1_2, .int .i64 a1_3, .slice A1_4 l1_4.length c1_4, .bool a1_5, .slice A1_6 l1_6.length c1_6, .slice A1_7 l1_7.length c1_7, .slice A1_8 l1_8.length c1_8]) (t := 36) ?_; intro gb435 hg w42 hbox hb; have BK435 := dk (hbox); have GW435 := gs hg HB; have GE435 := gs hg HB; replace HB := hs_ HB hb; have NB434_435 := gn hg BK434; have NB435_434 := gm hg BK434; replace BK434 := kb BK434 hb; clear hb hbox hg; have hnb43 := NB434_435.out; have hnc43 := NB435_434.out; have ⟨z44_0, z44_1, z44_2, z44_3, z44_4, z44_5, z44_6, z44_7, z44_8, v44_0, v44_1, v44_2, v44_3, v44_4, v44_5, v44_6, v44_7, v44_8⟩ := rz9 BK434; have ⟨z45_0, z45_1, z45_2, z45_3, z45_4, z45_5, z45_6, z45_7, z45_8, v45_0, v45_1, v45_2, v45_3, v45_4, v45_5, v45_6, v45_7, v45_8⟩ := rz9 BK435) | ((with_reducible refine gcallee_ 50 rfl ?_); refine gl (some 9) Try.func50 #[.slice A0_0 l0_0.length c0_0, .slice A1_0 l1_0.length c1_0] ?_; (with_reducible refine (laws_eqTeamS.calls k _ _ l0_0 _ _ l1_0 true _ ?side1 ?side2 ?side3 ?side4 A3.out).mono ?_); (case side1 => exact cc HR0_0 HB); (case side2 => exact HC0_0.out); (case side3 => exact cc HR1_0 HB); (case side4 => exact HC1_0.out); rintro e w46 ⟨rfl, hb⟩; refine ⟨_, rfl, ?_⟩; replace BK434 := kb BK434 hb; replace BK435 := kb BK435 hb; replace HB := hs_ HB hb; have ⟨z47_0, z47_1, z47_2, z47_3, z47_4, z47_5, z47_6, z47_7, z47_8, v47_0, v47_1, v47_2, v47_3, v47_4, v47_5, v47_6, v47_7, v47_8⟩ := rz9 BK434; have ⟨z48_0, z48_1, z48_2, z48_3, z48_4, z48_5, z48_6, z48_7, z48_8, v48_0, v48_1, v48_2, v48_3, v48_4, v48_5, v48_6, v48_7, v48_8⟩ := rz9 BK435) | ((with_reducible refine gcallee_ 65 rfl ?_); refine gl (some 15) Try.func65 #[.agg #[.int .i64 a0_1, .int .i64 a0_2, .int .i64 a0_3, .slice A0_4 l0_4.length c0_4, .bool a0_5], .agg #[.int .i64 a1_1, .int .i64 a1_2, .int .i64 a1_3, .slice A1_4 l1_4.length c1_4, .bool a1_5]] ?_; (with_reducible refine (laws_eqRules.calls k a0_1 a0_2 a0_3 _ _ l0_4 a0_5 a1_1 a1_2 a1_3 _ _ l1_4 a1_5 true _ ?side1 ?side2 ?side3 ?side4 A5.out).mono ?_); (case side1 => exact cc HR0_4 HB); (case side2 => exact HC0_4.out); (case side3 => exact cc HR1_4 HB); (case side4 => exact HC1_4.out); rintro e w49 ⟨rfl, hb⟩; refine ⟨_, rfl, ?_⟩; replace BK434 := kb BK434 hb; replace BK435 := kb BK435 hb; replace HB := hs_ HB hb; have ⟨z50_0, z50_1, z50_2, z50_3, z50_4, z50_5, z50_6, z50_7, z50_8, v50_0, v50_1, v50_2, v50_3, v50_4, v50_5, v50_6, v50_7, v50_8⟩ := rz9 BK434; have ⟨z51_0, z51_1, z51_2, z51_3, z51_4, z51_5, z51_6, z51_7, z51_8, v51_0, v51_1, v51_2, v51_3, v51_4, v51_5, v51_6, v51_7, v51_8⟩ := rz9 BK435) | ((with_reducible refine gcallee_ 66 rfl ?_); refine gl (some 21) Try.func66 #[.slice A0_6 l0_6.length c0_6, .slice A1_6 l1_6.length c1_6] ?_; (with_reducible refine (laws_eqGameS.calls k _ _ l0_6 _ _ l1_6 true _ ?side1 ?side2 ?side3 ?side4 A7.out).mono ?_); (case side1 => exact cc HR0_6 HB); (case side2 => exact HC0_6.out); (case side3 => exact cc HR1_6 HB); (case side4 => exact HC1_6.out); rintro e w52 ⟨rfl, hb⟩; refine ⟨_, rfl, ?_⟩; replace BK434 := kb BK434 hb; replace BK435 := kb BK435 hb; replace HB := hs_ HB hb; have ⟨z53_0, z53_1, z53_2, z53_3, z53_4, z53_5, z53_6, z53_7, z53_8, v53_0, v53_1, v53_2, v53_3, v53_4, v53_5, v53_6, v53_7, v53_8⟩ := rz9 BK434; have ⟨z54_0, z54_1, z54_2, z54_3, z54_4, z54_5, z54_6, z54_7, z54_8, v54_0, v54_1, v54_2, v54_3, v54_4, v54_5, v54_6, v54_7, v54_8⟩ := rz9 BK435) | ((with_reducible refine gcallee_ 28 rfl ?_); refine gl (some 27) Try.func28 #[.slice A0_7 l0_7.length c0_7, .slice A1_7 l1_7.length c1_7] ?_; (with_reducible refine (laws_eqIntS.calls k _ _ l0_7 _ _ l1_7 false _ ?side1 ?side2 ?side3 ?side4 A9.out).mono ?_); (case side1 => exact cc HR0_7 HB); (case side2 => exact HC0_7.out); (case side3 => exact cc HR1_7 HB); (case side4 => exact HC1_7.out); rintro e w' ⟨rfl, ⟨nd, rfl⟩⟩; refine ⟨_, rfl, ?_⟩))
     go_ret
     exact ⟨ee, bb HB⟩
   ·replace c8 := Bool.eq_false_iff.mpr c8
    subst c8
    rw [if_neg (show ¬ (false = true) by decide)] at H
    obtain rfl := Option.some.inj H
    go_enter Try.func16, Try.ntmps16
    go_wp2_with (first | ((with_reducible refine gdst_ 2 rfl ?_); refine bx (N := 2) (cs := #[.slice A0_0 l0_0.length c0_0, .int .i64 a0_1, .int .i64 a0_2, .int .i64 a0_3, .slice A0_4 l0_4.length c0_4, .bool a0_5, .slice A0_6 l0_6.length c0_6, .slice A0_7 l0_7.length c0_7, .slice A0_8 l0_8.length c0_8]) (t := 36) ?_; intro gb434 hg w55 hbox hb; have BK434 := dk (hbox); have GW434 := gs hg HB; have GE434 := gs hg HB; replace HB := hs_ HB hb; clear hb hbox hg) | ((with_reducible refine gdst_ 3 rfl ?_); refine bx (N := 3) (cs := #[.slice A1_0 l1_0.length c1_0, .int .i64 a1_1, .int .i64 a1_2, .int .i64 a1_3, .slice A1_4 l1_4.length c1_4, .bool a1_5, .slice A1_6 l1_6.length c1_6, .slice A1_7 l1_7.length c1_7, .slice A1_8 l1_8.length c1_8]) (t := 36) ?_; intro gb435 hg w56 hbox hb; have BK435 := dk (hbox); have GW435 := gs hg HB; have GE435 := gs hg HB; replace HB := hs_ HB hb; have NB434_435 := gn hg BK434; have NB435_434 := gm hg BK434; replace BK434 := kb BK434 hb; clear hb hbox hg; have hnb57 := NB434_435.out; have hnc57 := NB435_434.out; have ⟨z58_0, z58_1, z58_2, z58_3, z58_4, z58_5, z58_6, z58_7, z58_8, v58_0, v58_1, v58_2, v58_3, v58_4, v58_5, v58_6, v58_7, v58_8⟩ := rz9 BK434; have ⟨z59_0, z59_1, z59_2, z59_3, z59_4, z59_5, z59_6, z59_7, z59_8, v59_0, v59_1, v59_2, v59_3, v59_4, v59_5, v59_6, v59_7, v59_8⟩ := rz9 BK435) | ((with_reducible refine gcallee_ 50 rfl ?_); refine gl (some 9) Try.func50 #[.slice A0_0 l0_0.length c0_0, .slice A1_0 l1_0.length c1_0] ?_; (with_reducible refine (laws_eqTeamS.calls k _ _ l0_0 _ _ l1_0 true _ ?side1 ?side2 ?side3 ?side4 A3.out).mono ?_); (case side1 => exact cc HR0_0 HB); (case side2 => exact HC0_0.out); (case side3 => exact cc HR1_0 HB); (case side4 => exact HC1_0.out); rintro e w60 ⟨rfl, hb⟩; refine ⟨_, rfl, ?_⟩; replace BK434 := kb BK434 hb; replace BK435 := kb BK435 hb; replace HB := hs_ HB hb; have ⟨z61_0, z61_1, z61_2, z61_3, z61_4, z61_5, z61_6, z61_7, z61_8, v61_0, v61_1, v61_2, v61_3, v61_4, v61_5, v61_6, v61_7, v61_8⟩ := rz9 BK434; have ⟨z62_0, z62_1, z62_2, z62_3, z62_4, z62_5, z62_6, z62_7, z62_8, v62_0, v62_1, v62_2, v62_3, v62_4, v62_5, v62_6, v62_7, v62_8⟩ := rz9 BK435) | ((with_reducible refine gcallee_ 65 rfl ?_); refine gl (some 15) Try.func65 #[.agg #[.int .i64 a0_1, .int .i64 a0_2, .int .i64 a0_3, .slice A0_4 l0_4.length c0_4, .bool a0_5], .agg #[.int .i64 a1_1, .int .i64 a1_2, .int .i64 a1_3, .slice A1_4 l1_4.length c1_4, .bool a1_5]] ?_; (with_reducible refine (laws_eqRules.calls k a0_1 a0_2 a0_3 _ _ l0_4 a0_5 a1_1 a1_2 a1_3 _ _ l1_4 a1_5 true _ ?side1 ?side2 ?side3 ?side4 A5.out).mono ?_); (case side1 => exact cc HR0_4 HB); (case side2 => exact HC0_4.out); (case side3 => exact cc HR1_4 HB); (case side4 => exact HC1_4.out); rintro e w63 ⟨rfl, hb⟩; refine ⟨_, rfl, ?_⟩; replace BK434 := kb BK434 hb; replace BK435 := kb BK435 hb; replace HB := hs_ HB hb; have ⟨z64_0, z64_1, z64_2, z64_3, z64_4, z64_5, z64_6, z64_7, z64_8, v64_0, v64_1, v64_2, v64_3, v64_4, v64_5, v64_6, v64_7, v64_8⟩ := rz9 BK434; have ⟨z65_0, z65_1, z65_2, z65_3, z65_4, z65_5, z65_6, z65_7, z65_8, v65_0, v65_1, v65_2, v65_3, v65_4, v65_5, v65_6, v65_7, v65_8⟩ := rz9 BK435) | ((with_reducible refine gcallee_ 66 rfl ?_); refine gl (some 21) Try.func66 #[.slice A0_6 l0_6.length c0_6, .slice A1_6 l1_6.length c1_6] ?_; (with_reducible refine (laws_eqGameS.calls k _ _ l0_6 _ _ l1_6 false _ ?side1 ?side2 ?side3 ?side4 A7.out).mono ?_); (case side1 => exact cc HR0_6 HB); (case side2 => exact HC0_6.out); (case side3 => exact cc HR1_6 HB); (case side4 => exact HC1_6.out); rintro e w66 ⟨rfl, hb⟩; refine ⟨_, rfl, ?_⟩; replace BK434 := kb BK434 hb; replace BK435 := kb BK435 hb; replace HB := hs_ HB hb))
    go_ret
    exact ⟨ee, bb HB⟩
  ·replace c6 := Bool.eq_false_iff.mpr c6
   subst c6
   rw [if_neg (show ¬ (false = true) by decide)] at H
   obtain rfl := Option.some.inj H
   go_enter Try.func16, Try.ntmps16
   go_wp2_with (first | ((with_reducible refine gdst_ 2 rfl ?_); refine bx (N := 2) (cs := #[.slice A0_0 l0_0.length c0_0, .int .i64 a0_1, .int .i64 a0_2, .int .i64 a0_3, .slice A0_4 l0_4.length c0_4, .bool a0_5, .slice A0_6 l0_6.length c0_6, .slice A0_7 l0_7.length c0_7, .slice A0_8 l0_8.length c0_8]) (t := 36) ?_; intro gb434 hg w67 hbox hb; have BK434 := dk (hbox); have GW434 := gs hg HB; have GE434 := gs hg HB; replace HB := hs_ HB hb; clear hb hbox hg) | ((with_reducible refine gdst_ 3 rfl ?_); refine bx (N := 3) (cs := #[.slice A1_0 l1_0.length c1_0, .int .i64 a1_1, .int .i64 a1_2, .int .i64 a1_3, .slice A1_4 l1_4.length c1_4, .bool a1_5, .slice A1_6 l1_6.length c1_6, .slice A1_7 l1_7.length c1_7, .slice A1_8 l1_8.length c1_8]) (t := 36) ?_; intro gb435 hg w68 hbox hb; have BK435 := dk (hbox); have GW435 := gs hg HB; have GE435 := gs hg HB; replace HB := hs_ HB hb; have NB434_435 := gn hg BK434; have NB435_434 := gm hg BK434; replace BK434 := kb BK434 hb; clear hb hbox hg; have hnb69 := NB434_435.out; have hnc69 := NB435_434.out; have ⟨z70_0, z70_1, z70_2, z70_3, z70_4, z70_5, z70_6, z70_7, z70_8, v70_0, v70_1, v70_2, v70_3, v70_4, v70_5, v70_6, v70_7, v70_8⟩ := rz9 BK434; have ⟨z71_0, z71_1, z71_2, z71_3, z71_4, z71_5, z71_6, z71_7, z71_8, v71_0, v71_1, v71_2, v71_3, v71_4, v71_5, v71_6, v71_7, v71_8⟩ := rz9 BK435) | ((with_reducible refine gcallee_ 50 rfl ?_); refine gl (some 9) Try.func50 #[.slice A0_0 l0_0.length c0_0, .slice A1_0 l1_0.length c1_0] ?_; (with_reducible refine (laws_eqTeamS.calls k _ _ l0_0 _ _ l1_0 true _ ?side1 ?side2 ?side3 ?side4 A3.out).mono ?_); (case side1 => exact cc HR0_0 HB); (case side2 => exact HC0_0.out); (case side3 => exact cc HR1_0 HB); (case side4 => exact HC1_0.out); rintro e w72 ⟨rfl, hb⟩; refine ⟨_, rfl, ?_⟩; replace BK434 := kb BK434 hb; replace BK435 := kb BK435 hb; replace HB := hs_ HB hb; have ⟨z73_0, z73_1, z73_2, z73_3, z73_4, z73_5, z73_6, z73_7, z73_8, v73_0, v73_1, v73_2, v73_3, v73_4, v73_5, v73_6, v73_7, v73_8⟩ := rz9 BK434; have ⟨z74_0, z74_1, z74_2, z74_3, z74_4, z74_5, z74_6, z74_7, z74_8, v74_0, v74_1, v74_2, v74_3, v74_4, v74_5, v74_6, v74_7, v74_8⟩ := rz9 BK435) | ((with_reducible refine gcallee_ 65 rfl ?_); refine gl (some 15) Try.func65 #[.agg #[.int .i64 a0_1, .int .i64 a0_2, .int .i64 a0_3, .slice A0_4 l0_4.length c0_4, .bool a0_5], .agg #[.int .i64 a1_1, .int .i64 a1_2, .int .i64 a1_3, .slice A1_4 l1_4.length c1_4, .bool a1_5]] ?_; (with_reducible refine (laws_eqRules.calls k a0_1 a0_2 a0_3 _ _ l0_4 a0_5 a1_1 a1_2 a1_3 _ _ l1_4 a1_5 false _ ?side1 ?side2 ?side3 ?side4 A5.out).mono ?_); (case side1 => exact cc HR0_4 HB); (case side2 => exact HC0_4.out); (case side3 => exact cc HR1_4 HB); (case side4 => exact HC1_4.out); rintro e w75 ⟨rfl, hb⟩; refine ⟨_, rfl, ?_⟩; replace BK434 := kb BK434 hb; replace BK435 := kb BK435 hb; replace HB := hs_ HB hb))
   go_ret
   exact ⟨ee, bb HB⟩
 ·replace c4 := Bool.eq_false_iff.mpr c4
  subst c4
  rw [if_neg (show ¬ (false = true) by decide)] at H
  obtain rfl := Option.some.inj H
  go_enter Try.func16, Try.ntmps16
  go_wp2_with (first | ((with_reducible refine gdst_ 2 rfl ?_); refine bx (N := 2) (cs := #[.slice A0_0 l0_0.length c0_0, .int .i64 a0_1, .int .i64 a0_2, .int .i64 a0_3, .slice A0_4 l0_4.length c0_4, .bool a0_5, .slice A0_6 l0_6.length c0_6, .slice A0_7 l0_7.length c0_7, .slice A0_8 l0_8.length c0_8]) (t := 36) ?_; intro gb434 hg w76 hbox hb; have BK434 := dk (hbox); have GW434 := gs hg HB; have GE434 := gs hg HB; replace HB := hs_ HB hb; clear hb hbox hg) | ((with_reducible refine gdst_ 3 rfl ?_); refine bx (N := 3) (cs := #[.slice A1_0 l1_0.length c1_0, .int .i64 a1_1, .int .i64 a1_2, .int .i64 a1_3, .slice A1_4 l1_4.length c1_4, .bool a1_5, .slice A1_6 l1_6.length c1_6, .slice A1_7 l1_7.length c1_7, .slice A1_8 l1_8.length c1_8]) (t := 36) ?_; intro gb435 hg w77 hbox hb; have BK435 := dk (hbox); have GW435 := gs hg HB; have GE435 := gs hg HB; replace HB := hs_ HB hb; have NB434_435 := gn hg BK434; have NB435_434 := gm hg BK434; replace BK434 := kb BK434 hb; clear hb hbox hg; have hnb78 := NB434_435.out; have hnc78 := NB435_434.out; have ⟨z79_0, z79_1, z79_2, z79_3, z79_4, z79_5, z79_6, z79_7, z79_8, v79_0, v79_1, v79_2, v79_3, v79_4, v79_5, v79_6, v79_7, v79_8⟩ := rz9 BK434; have ⟨z80_0, z80_1, z80_2, z80_3, z80_4, z80_5, z80_6, z80_7, z80_8, v80_0, v80_1, v80_2, v80_3, v80_4, v80_5, v80_6, v80_7, v80_8⟩ := rz9 BK435) | ((with_reducible refine gcallee_ 50 rfl ?_); refine gl (some 9) Try.func50 #[.slice A0_0 l0_0.length c0_0, .slice A1_0 l1_0.length c1_0] ?_; (with_reducible refine (laws_eqTeamS.calls k _ _ l0_0 _ _ l1_0 false _ ?side1 ?side2 ?side3 ?side4 A3.out).mono ?_); (case side1 => exact cc HR0_0 HB); (case side2 => exact HC0_0.out); (case side3 => exact cc HR1_0 HB); (case side4 => exact HC1_0.out); rintro e w81 ⟨rfl, hb⟩; refine ⟨_, rfl, ?_⟩; replace BK434 := kb BK434 hb; replace BK435 := kb BK435 hb; replace HB := hs_ HB hb))
  go_ret
  exact ⟨ee, bb HB⟩
def laws_szVerdict.f (a0_0 : Bool) (l0_1 : List Int) (l0_2 : List Int) (a1 : Int) : Option (Int) := (laws_szIntS.f l0_1 a1).bind fun t1356 => (if t1356 < 0 then (some (-1)) else ((laws_szIntS.f l0_2 t1356).bind fun t1357 => (if t1357 < 0 then (some (-1)) else (some t1357))))
theorem laws_szVerdict.calls (a0_0 : Bool) (A0_1 : Option Addr) (c0_1 : Nat) (l0_1 : List Int) (A0_2 : Option Addr) (c0_2 : Nat) (l0_2 : List Int) (a1 : Int) (r : Int) (w : World) (hr0_1 : Kd.C (Kd.int .i64) w A0_1 l0_1.length l0_1) (hc0_1 : l0_1.length ≤ c0_1) (hr0_2 : Kd.C (Kd.int .i64) w A0_2 l0_2.length l0_2) (hc0_2 : l0_2.length ≤ c0_2) (h : laws_szVerdict.f a0_0 l0_1 l0_2 a1 = some r) :
  Calls Try.prog 31 #[.agg #[.bool a0_0, .slice A0_1 l0_1.length c0_1, .slice A0_2 l0_2.length c0_2], .int .i64 a1] w fun e w' => e = .returned (.int .i64 r) ∧ Below w.heap.size w w' := by
 have hu59 := Try.underlying59
 have HR0_1 := dk hr0_1
 have HC0_1 := dk hc0_1
 clear hr0_1 hc0_1
 have HR0_2 := dk hr0_2
 have HC0_2 := dk hc0_2
 clear hr0_2 hc0_2
 have HB := hb0 w
 have H : ((laws_szIntS.f l0_1 a1).bind fun t1356 => (if t1356 < 0 then (some (-1)) else ((laws_szIntS.f l0_2 t1356).bind fun t1357 => (if t1357 < 0 then (some (-1)) else (some t1357))))) = some r := h
 clear h
 replace H := Option.bind_eq_some_iff.mp H
 obtain ⟨t1356, A30, H⟩ := H
 try dsimp only at H
 have A3 := dk A30
 clear A30
 by_cases c4 : t1356 < 0
 ·rw [if_pos c4] at H
  have c4b0 := decide_eq_true c4
  clear c4
  obtain rfl := Option.some.inj H
  go_enter Try.func31, Try.ntmps31
  go_wp2_with (first | ((with_reducible refine gdst_ 2 rfl ?_); refine bx (N := 2) (cs := #[.bool a0_0, .slice A0_1 l0_1.length c0_1, .slice A0_2 l0_2.length c0_2]) (t := 59) ?_; intro gb1355 hg w5 hbox hb; have BK1355 := dk (hbox); have GW1355 := gs hg HB; have GE1355 := gs hg HB; replace HB := hs_ HB hb; clear hb hbox hg; have ⟨z6_0, z6_1, z6_2, v6_0, v6_1, v6_2⟩ := rz3 BK1355) | ((with_reducible refine gcallee_ 54 rfl ?_); refine gl (some 8) Try.func54 #[.slice A0_1 l0_1.length c0_1, .int .i64 a1] ?_; (with_reducible refine (laws_szIntS.calls _ _ l0_1 a1 t1356 _ ?side1 ?side2 A3.out).mono ?_); (case side1 => exact cc HR0_1 HB); (case side2 => exact HC0_1.out); rintro e w' ⟨rfl, ⟨nd, rfl⟩⟩; refine ⟨_, rfl, ?_⟩))
  go_ret
  exact ⟨ee, bb HB⟩
 ·rw [if_neg c4] at H
  have c4b0 := decide_eq_false c4
  clear c4
  replace H := Option.bind_eq_some_iff.mp H
  obtain ⟨t1357, A70, H⟩ := H
  try dsimp only at H
  have A7 := dk A70
  clear A70
  by_cases c8 : t1357 < 0
  ·rw [if_pos c8] at H
   have c8b0 := decide_eq_true c8
   clear c8
   obtain rfl := Option.some.inj H
   go_enter Try.func31, Try.ntmps31
   go_wp2_with (first | ((with_reducible refine gdst_ 2 rfl ?_); refine bx (N := 2) (cs := #[.bool a0_0, .slice A0_1 l0_1.length c0_1, .slice A0_2 l0_2.length c0_2]) (t := 59) ?_; intro gb1355 hg w9 hbox hb; have BK1355 := dk (hbox); have GW1355 := gs hg HB; have GE1355 := gs hg HB; replace HB := hs_ HB hb; clear hb hbox hg; have ⟨z10_0, z10_1, z10_2, v10_0, v10_1, v10_2⟩ := rz3 BK1355) | ((with_reducible refine gcallee_ 54 rfl ?_); refine gl (some 8) Try.func54 #[.slice A0_1 l0_1.length c0_1, .int .i64 a1] ?_; (with_reducible refine (laws_szIntS.calls _ _ l0_1 a1 t1356 _ ?side1 ?side2 A3.out).mono ?_); (case side1 => exact cc HR0_1 HB); (case side2 => exact HC0_1.out); rintro e w' ⟨rfl, ⟨nd, rfl⟩⟩; refine ⟨_, rfl, ?_⟩) | ((with_reducible refine gcallee_ 54 rfl ?_); refine gl (some 14) Try.func54 #[.slice A0_2 l0_2.length c0_2, .int .i64 t1356] ?_; (with_reducible refine (laws_szIntS.calls _ _ l0_2 t1356 t1357 _ ?side1 ?side2 A7.out).mono ?_); (case side1 => repeat (first | exact (Kd.C_below HR0_2.out (bb HB)) | (with_reducible refine Kd.C_alloc ?_ _) | (with_reducible refine Kd.C_drewN ?_ _) | (with_reducible refine Kd.C_drew ?_))); (case side2 => exact HC0_2.out); rintro e w' ⟨rfl, ⟨nd, rfl⟩⟩; refine ⟨_, rfl, ?_⟩))
   go_ret
   exact ⟨ee, bb HB⟩
  ·rw [if_neg c8] at H
   have c8b0 := decide_eq_false c8
   clear c8
   obtain rfl := Option.some.inj H
   go_enter Try.func31, Try.ntmps31
   go_wp2_with (first | ((with_reducible refine gdst_ 2 rfl ?_); refine bx (N := 2) (cs := #[.bool a0_0, .slice A0_1 l0_1.length c0_1, .slice A0_2 l0_2.length c0_2]) (t := 59) ?_; intro gb1355 hg w11 hbox hb; have BK1355 := dk (hbox); have GW1355 := gs hg HB; have GE1355 := gs hg HB; replace HB := hs_ HB hb; clear hb hbox hg; have ⟨z12_0, z12_1, z12_2, v12_0, v12_1, v12_2⟩ := rz3 BK1355) | ((with_reducible refine gcallee_ 54 rfl ?_); refine gl (some 8) Try.func54 #[.slice A0_1 l0_1.length c0_1, .int .i64 a1] ?_; (with_reducible refine (laws_szIntS.calls _ _ l0_1 a1 t1356 _ ?side1 ?side2 A3.out).mono ?_); (case side1 => exact cc HR0_1 HB); (case side2 => exact HC0_1.out); rintro e w' ⟨rfl, ⟨nd, rfl⟩⟩; refine ⟨_, rfl, ?_⟩) | ((with_reducible refine gcallee_ 54 rfl ?_); refine gl (some 14) Try.func54 #[.slice A0_2 l0_2.length c0_2, .int .i64 t1356] ?_; (with_reducible refine (laws_szIntS.calls _ _ l0_2 t1356 t1357 _ ?side1 ?side2 A7.out).mono ?_); (case side1 => repeat (first | exact (Kd.C_below HR0_2.out (bb HB)) | (with_reducible refine Kd.C_alloc ?_ _) | (with_reducible refine Kd.C_drewN ?_ _) | (with_reducible refine Kd.C_drew ?_))); (case side2 => exact HC0_2.out); rintro e w' ⟨rfl, ⟨nd, rfl⟩⟩; refine ⟨_, rfl, ?_⟩))
   go_ret
   exact ⟨ee, bb HB⟩
def spec_l01In.f (a0 : Int) (a1 : Int) (a2 : Int) : Option (Bool) := if a0 ≥ a1 then (some (decide (a0 ≤ a2))) else (some false)
theorem spec_l01In.calls (a0 : Int) (a1 : Int) (a2 : Int) (r : Bool) (w : World) (h : spec_l01In.f a0 a1 a2 = some r) :
  Calls Try.prog 76 #[.int .i64 a0, .int .i64 a1, .int .i64 a2] w fun e w' => e = .returned (.bool r) ∧ Drawn0 w w' := by
 have H : (if a0 ≥ a1 then (some (decide (a0 ≤ a2))) else (some false)) = some r := h
 clear h
 by_cases c4 : a0 ≥ a1
 ·rw [if_pos c4] at H
  have c4b0 := decide_eq_true c4
  clear c4
  obtain rfl := Option.some.inj H
  go_enter Try.func76, Try.ntmps76
  go_wp2
  go_ret
  exact ⟨e2_, by repeat (first | exact Drawn0.refl _ | apply Drawn0.step)⟩
 ·rw [if_neg c4] at H
  have c4b0 := decide_eq_false c4
  clear c4
  obtain rfl := Option.some.inj H
  go_enter Try.func76, Try.ntmps76
  go_wp2
  go_ret
  exact ⟨e2_, by repeat (first | exact Drawn0.refl _ | apply Drawn0.step)⟩
def spec_l02Has.l0 : Nat → Int → List Int → Int → Int → Option (Bool)
 | 0, _, _, _, _ => none
 | k + 1, x1, x7, x8, x9 => if x9 < x8 then (if 0 ≤ x9 then (if x9 < (x7.length : Int) then (if (rd x7 x9) = x1 then (some true) else (spec_l02Has.l0 k x1 x7 x8 (wrap64 (x9 + 1)))) else (none)) else (none)) else (some false)
def spec_l02Has.f (k : Nat) (l0 : List Int) (a1 : Int) : Option (Bool) := spec_l02Has.l0 k a1 l0 (l0.length : Int) 0
theorem spec_l02Has.calls (k : Nat) (A0 : Option Addr) (c0 : Nat) (l0 : List Int) (a1 : Int) (r : Bool) (w : World) (hr0 : Kd.C (Kd.int .i64) w A0 l0.length l0) (hc0 : l0.length ≤ c0) (h : spec_l02Has.f k l0 a1 = some r) :
  Calls Try.prog 87 #[.slice A0 l0.length c0, .int .i64 a1] w fun e w' => e = .returned (.bool r) ∧ Drawn0 w w' := by
 have HR0 := dk hr0
 have HC0 := dk hc0
 clear hr0 hc0
 have H : (spec_l02Has.l0 k a1 l0 (l0.length : Int) 0) = some r := h
 clear h
 have H' := dk H
 clear H
 go_enter Try.func87, Try.ntmps87
 go_wp2
 go_loopg [9] k (fun kq v9 w' => ∃ (x9_1 : Int), v9 = .int .i64 x9_1 ∧ Aside0 (spec_l02Has.l0 kq a1 l0 (l0.length : Int) x9_1 = some r) ∧ Aside0 (kq ≤ k) ∧ Drawn0 w w')
 case atStart => exact ⟨(0), e2_, H', ⟨Nat.le_refl _⟩, by repeat (first | exact Drawn0.refl _ | apply Drawn0.step)⟩
 case round =>
  clear H'
  obtain ⟨x9_1, rfl, HA, HK1, ⟨m1, rfl⟩⟩ := hrel
  cases gk with
  | zero => exact absurd HA.out (by simp [spec_l02Has.l0])
  | succ k1 =>
   have H := HA.out
   clear HA
   simp only [spec_l02Has.l0] at H
   by_cases c3 : x9_1 < (l0.length : Int)
   ·rw [if_pos c3] at H
    have c3b0 := decide_eq_true c3
    clear c3
    by_cases c4 : 0 ≤ x9_1
    ·rw [if_pos c4] at H
     have c4b0 := decide_eq_true c4
     clear c4
     by_cases c5 : x9_1 < (l0.length : Int)
     ·rw [if_pos c5] at H
      have c5b0 := decide_eq_true c5
      clear c5
      by_cases c6 : (rd l0 x9_1) = a1
      ·rw [if_pos c6] at H
       have c6b0 := beq_iff_eq.mpr c6
       have c6b1 := bne_eq_false_iff_eq.mpr c6
       clear c6
       obtain rfl := Option.some.inj H
       have p127 : 0 ≤ (x9_1 : Int) := oa
       have q127 : x9_1 < (l0.length : Int) := oa
       obtain ⟨ad127, e127, hx127_0⟩ := Kd.at_int HR0.out x9_1 p127 q127
       cases e127
       replace p127 := eq_true p127
       replace q127 := eq_true q127
       go_wp2
       go_ret
       exact ⟨e2_, by repeat (first | exact Drawn0.refl _ | apply Drawn0.step)⟩
      ·rw [if_neg c6] at H
       have c6b0 := beq_eq_false_iff_ne.mpr c6
       have c6b1 := bne_iff_ne.mpr c6
       have H' := dk H
       clear H
       have p127 : 0 ≤ (x9_1 : Int) := oa
       have q127 : x9_1 < (l0.length : Int) := oa
       obtain ⟨ad127, e127, hx127_0⟩ := Kd.at_int HR0.out x9_1 p127 q127
       cases e127
       replace p127 := eq_true p127
       replace q127 := eq_true q127
       go_wp2
       go_roundg k1
       case measure => have := HK1.out; omega
       case rel => exact ⟨(wrap64 (x9_1 + 1)), e2_, H', ⟨by have := HK1.out; omega⟩, by repeat (first | exact Drawn0.refl _ | apply Drawn0.step)⟩
     ·rw [if_neg c5] at H
      exact absurd H (by simp)
    ·rw [if_neg c4] at H
     exact absurd H (by simp)
   ·rw [if_neg c3] at H
    have c3b0 := decide_eq_false c3
    clear c3
    obtain rfl := Option.some.inj H
    go_wp2
    go_ret
    exact ⟨e2_, by repeat (first | exact Drawn0.refl _ | apply Drawn0.step)⟩
def spec_IsOpen.f (a0_0 : Int) (a0_1 : Int) (a0_2 : Int) (a0_3 : Int) (a0_4 : Int) : Option (Bool) := some (a0_4 == 0)
theorem spec_IsOpen.calls (a0_0 : Int) (a0_1 : Int) (a0_2 : Int) (a0_3 : Int) (a0_4 : Int) (r : Bool) (w : World) (h : spec_IsOpen.f a0_0 a0_1 a0_2 a0_3 a0_4 = some r) :
  Calls Try.prog 77 #[.agg #[.int .i64 a0_0, .int .i64 a0_1, .int .i64 a0_2, .int .i64 a0_3, .int .i64 a0_4]] w fun e w' => e = .returned (.bool r) ∧ Below w.heap.size w w' := by
 have hu95 := Try.underlying95
 have HB := hb0 w
 have H : (some (a0_4 == 0)) = some r := h
 clear h
 obtain rfl := Option.some.inj H
 go_enter Try.func77, Try.ntmps77
 go_wp2_with (first | ((with_reducible refine gdst_ 1 rfl ?_); refine bx (N := 1) (cs := #[.int .i64 a0_0, .int .i64 a0_1, .int .i64 a0_2, .int .i64 a0_3, .int .i64 a0_4]) (t := 95) ?_; intro gb871 hg w2 hbox hb; have BK871 := dk (hbox); have GW871 := gs hg HB; have GE871 := gs hg HB; replace HB := hs_ HB hb; clear hb hbox hg; have ⟨z3_0, z3_1, z3_2, z3_3, z3_4, v3_0, v3_1, v3_2, v3_3, v3_4⟩ := rz5 BK871))
 go_ret
 exact ⟨ee, bb HB⟩
def spec_IsName.l0 : Nat → ByteArray → Int → Option (Bool)
 | 0, _, _ => none
 | k + 1, x0, x3 => if x3 < (x0.size : Int) then (if 0 ≤ x3 then (if (bt x0 x3) ≥ 97 then (if ((bt x0 x3) ≤ 122) then (spec_IsName.l0 k x0 (wrap64 (x3 + 1))) else (if x3 = 0 then (some false) else (if (bt x0 x3) < 48 then (some false) else (if (bt x0 x3) > 57 then (some false) else (spec_IsName.l0 k x0 (wrap64 (x3 + 1))))))) else (if x3 = 0 then (some false) else (if (bt x0 x3) < 48 then (some false) else (if (bt x0 x3) > 57 then (some false) else (spec_IsName.l0 k x0 (wrap64 (x3 + 1))))))) else (none)) else ((spec_l01In.f (x0.size : Int) 1 8).bind fun t112 => (some t112))
def spec_IsName.f (k : Nat) (a0 : ByteArray) : Option (Bool) := spec_IsName.l0 k a0 0
theorem spec_IsName.calls (k : Nat) (a0 : ByteArray) (r : Bool) (w : World) (h : spec_IsName.f k a0 = some r) :
  Calls Try.prog 183 #[.string a0] w fun e w' => e = .returned (.bool r) ∧ Drawn0 w w' := by
 have H : (spec_IsName.l0 k a0 0) = some r := h
 clear h
 have H' := dk H
 clear H
 go_enter Try.func183, Try.ntmps183
 go_wp2
 go_loopg [3] k (fun kq v3 w' => ∃ (x3_1 : Int), v3 = .int .i64 x3_1 ∧ Aside0 (spec_IsName.l0 kq a0 x3_1 = some r) ∧ Aside0 (kq ≤ k) ∧ Drawn0 w w')
 case atStart => exact ⟨(0), e2_, H', ⟨Nat.le_refl _⟩, by repeat (first | exact Drawn0.refl _ | apply Drawn0.step)⟩
 case round =>
  clear H'
  obtain ⟨x3_1, rfl, HA, HK1, ⟨m1, rfl⟩⟩ := hrel
  cases gk with
  | zero => exact absurd HA.out (by simp [spec_IsName.l0])
  | succ k1 =>
   have H := HA.out
   clear HA
   simp only [spec_IsName.l0] at H
   by_cases c2 : x3_1 < (a0.size : Int)
   ·rw [if_pos c2] at H
    have c2b0 := decide_eq_true c2
    clear c2
    by_cases c3 : 0 ≤ x3_1
    ·rw [if_pos c3] at H
     have c3b0 := decide_eq_true c3
     clear c3
     by_cases c5 : (bt a0 x3_1) ≥ 97
     ·rw [if_pos c5] at H
      have c5b0 := decide_eq_true c5
      clear c5
      by_cases c7 : ((bt a0 x3_1) ≤ 122)
      ·rw [if_pos c7] at H
       have c7b0 := decide_eq_true c7
       clear c7
       have H' := dk H
       clear H
       have p4 : 0 ≤ (x3_1 : Int) := oa
       have q4 : x3_1 < (a0.size : Int) := oa
       have hx4 := bt_at a0 x3_1
       replace p4 := eq_true p4
       replace q4 := eq_true q4
       have p6 : 0 ≤ (x3_1 : Int) := oa
       have q6 : x3_1 < (a0.size : Int) := oa
       have hx6 := bt_at a0 x3_1
       replace p6 := eq_true p6
       replace q6 := eq_true q6
       go_wp2
       go_roundg k1
       case measure => have := HK1.out; omega
       case rel => exact ⟨(wrap64 (x3_1 + 1)), e2_, H', ⟨by have := HK1.out; omega⟩, by repeat (first | exact Drawn0.refl _ | apply Drawn0.step)⟩
      ·rw [if_neg c7] at H
       have c7b0 := decide_eq_false c7
       clear c7
       by_cases c8 : x3_1 = 0
       ·rw [if_pos c8] at H
        have c8b0 := beq_iff_eq.mpr c8
        have c8b1 := bne_eq_false_iff_eq.mpr c8
        clear c8
        obtain rfl := Option.some.inj H
        have p4 : 0 ≤ (x3_1 : Int) := oa
        have q4 : x3_1 < (a0.size : Int) := oa
        have hx4 := bt_at a0 x3_1
        replace p4 := eq_true p4
        replace q4 := eq_true q4
        have p6 : 0 ≤ (x3_1 : Int) := oa
        have q6 : x3_1 < (a0.size : Int) := oa
        have hx6 := bt_at a0 x3_1
        replace p6 := eq_true p6
        replace q6 := eq_true q6
        go_wp2
        go_ret
        exact ⟨e2_, by repeat (first | exact Drawn0.refl _ | apply Drawn0.step)⟩
       ·rw [if_neg c8] at H
        have c8b0 := beq_eq_false_iff_ne.mpr c8
        have c8b1 := bne_iff_ne.mpr c8
        by_cases c10 : (bt a0 x3_1) < 48
        ·rw [if_pos c10] at H
         have c10b0 := decide_eq_true c10
         clear c10
         obtain rfl := Option.some.inj H
         have p4 : 0 ≤ (x3_1 : Int) := oa
         have q4 : x3_1 < (a0.size : Int) := oa
         have hx4 := bt_at a0 x3_1
         replace p4 := eq_true p4
         replace q4 := eq_true q4
         have p6 : 0 ≤ (x3_1 : Int) := oa
         have q6 : x3_1 < (a0.size : Int) := oa
         have hx6 := bt_at a0 x3_1
         replace p6 := eq_true p6
         replace q6 := eq_true q6
         have p9 : 0 ≤ (x3_1 : Int) := oa
         have q9 : x3_1 < (a0.size : Int) := oa
         have hx9 := bt_at a0 x3_1
         replace p9 := eq_true p9
         replace q9 := eq_true q9
         go_wp2
         go_ret
         exact ⟨e2_, by repeat (first | exact Drawn0.refl _ | apply Drawn0.step)⟩
        ·rw [if_neg c10] at H
         have c10b0 := decide_eq_false c10
         clear c10
         by_cases c12 : (bt a0 x3_1) > 57
         ·rw [if_pos c12] at H
          have c12b0 := decide_eq_true c12
          clear c12
          obtain rfl := Option.some.inj H
          have p4 : 0 ≤ (x3_1 : Int) := oa
          have q4 : x3_1 < (a0.size : Int) := oa
          have hx4 := bt_at a0 x3_1
          replace p4 := eq_true p4
          replace q4 := eq_true q4
          have p6 : 0 ≤ (x3_1 : Int) := oa
          have q6 : x3_1 < (a0.size : Int) := oa
          have hx6 := bt_at a0 x3_1
          replace p6 := eq_true p6
          replace q6 := eq_true q6
          have p9 : 0 ≤ (x3_1 : Int) := oa
          have q9 : x3_1 < (a0.size : Int) := oa
          have hx9 := bt_at a0 x3_1
          replace p9 := eq_true p9
          replace q9 := eq_true q9
          have p11 : 0 ≤ (x3_1 : Int) := oa
          have q11 : x3_1 < (a0.size : Int) := oa
          have hx11 := bt_at a0 x3_1
          replace p11 := eq_true p11
          replace q11 := eq_true q11
          go_wp2
          go_ret
          exact ⟨e2_, by repeat (first | exact Drawn0.refl _ | apply Drawn0.step)⟩
         ·rw [if_neg c12] at H
          have c12b0 := decide_eq_false c12
          clear c12
          have H' := dk H
          clear H
          have p4 : 0 ≤ (x3_1 : Int) := oa
          have q4 : x3_1 < (a0.size : Int) := oa
          have hx4 := bt_at a0 x3_1
          replace p4 := eq_true p4
          replace q4 := eq_true q4
          have p6 : 0 ≤ (x3_1 : Int) := oa
          have q6 : x3_1 < (a0.size : Int) := oa
          have hx6 := bt_at a0 x3_1
          replace p6 := eq_true p6
          replace q6 := eq_true q6
          have p9 : 0 ≤ (x3_1 : Int) := oa
          have q9 : x3_1 < (a0.size : Int) := oa
          have hx9 := bt_at a0 x3_1
          replace p9 := eq_true p9
          replace q9 := eq_true q9
          have p11 : 0 ≤ (x3_1 : Int) := oa
          have q11 : x3_1 < (a0.size : Int) := oa
          have hx11 := bt_at a0 x3_1
          replace p11 := eq_true p11
          replace q11 := eq_true q11
          go_wp2
          go_roundg k1
          case measure => have := HK1.out; omega
          case rel => exact ⟨(wrap64 (x3_1 + 1)), e2_, H', ⟨by have := HK1.out; omega⟩, by repeat (first | exact Drawn0.refl _ | apply Drawn0.step)⟩
     ·rw [if_neg c5] at H
      have c5b0 := decide_eq_false c5
      clear c5
      by_cases c13 : x3_1 = 0
      ·rw [if_pos c13] at H
       have c13b0 := beq_iff_eq.mpr c13
       have c13b1 := bne_eq_false_iff_eq.mpr c13
       clear c13
       obtain rfl := Option.some.inj H
       have p4 : 0 ≤ (x3_1 : Int) := oa
       have q4 : x3_1 < (a0.size : Int) := oa
       have hx4 := bt_at a0 x3_1
       replace p4 := eq_true p4
       replace q4 := eq_true q4
       go_wp2
       go_ret
       exact ⟨e2_, by repeat (first | exact Drawn0.refl _ | apply Drawn0.step)⟩
      ·rw [if_neg c13] at H
       have c13b0 := beq_eq_false_iff_ne.mpr c13
       have c13b1 := bne_iff_ne.mpr c13
       by_cases c15 : (bt a0 x3_1) < 48
       ·rw [if_pos c15] at H
        have c15b0 := decide_eq_true c15
        clear c15
        obtain rfl := Option.some.inj H
        have p4 : 0 ≤ (x3_1 : Int) := oa
        have q4 : x3_1 < (a0.size : Int) := oa
        have hx4 := bt_at a0 x3_1
        replace p4 := eq_true p4
        replace q4 := eq_true q4
        have p14 : 0 ≤ (x3_1 : Int) := oa
        have q14 : x3_1 < (a0.size : Int) := oa
        have hx14 := bt_at a0 x3_1
        replace p14 := eq_true p14
        replace q14 := eq_true q14
        go_wp2
        go_ret
        exact ⟨e2_, by repeat (first | exact Drawn0.refl _ | apply Drawn0.step)⟩
       ·rw [if_neg c15] at H
        have c15b0 := decide_eq_false c15
        clear c15
        by_cases c17 : (bt a0 x3_1) > 57
        ·rw [if_pos c17] at H
         have c17b0 := decide_eq_true c17
         clear c17
         obtain rfl := Option.some.inj H
         have p4 : 0 ≤ (x3_1 : Int) := oa
         have q4 : x3_1 < (a0.size : Int) := oa
         have hx4 := bt_at a0 x3_1
         replace p4 := eq_true p4
         replace q4 := eq_true q4
         have p14 : 0 ≤ (x3_1 : Int) := oa
         have q14 : x3_1 < (a0.size : Int) := oa
         have hx14 := bt_at a0 x3_1
         replace p14 := eq_true p14
         replace q14 := eq_true q14
         have p16 : 0 ≤ (x3_1 : Int) := oa
         have q16 : x3_1 < (a0.size : Int) := oa
         have hx16 := bt_at a0 x3_1
         replace p16 := eq_true p16
         replace q16 := eq_true q16
         go_wp2
         go_ret
         exact ⟨e2_, by repeat (first | exact Drawn0.refl _ | apply Drawn0.step)⟩
        ·rw [if_neg c17] at H
         have c17b0 := decide_eq_false c17
         clear c17
         have H' := dk H
         clear H
         have p4 : 0 ≤ (x3_1 : Int) := oa
         have q4 : x3_1 < (a0.size : Int) := oa
         have hx4 := bt_at a0 x3_1
         replace p4 := eq_true p4
         replace q4 := eq_true q4
         have p14 : 0 ≤ (x3_1 : Int) := oa
         have q14 : x3_1 < (a0.size : Int) := oa
         have hx14 := bt_at a0 x3_1
         replace p14 := eq_true p14
         replace q14 := eq_true q14
         have p16 : 0 ≤ (x3_1 : Int) := oa
         have q16 : x3_1 < (a0.size : Int) := oa
         have hx16 := bt_at a0 x3_1
         replace p16 := eq_true p16
         replace q16 := eq_true q16
         go_wp2
         go_roundg k1
         case measure => have := HK1.out; omega
         case rel => exact ⟨(wrap64 (x3_1 + 1)), e2_, H', ⟨by have := HK1.out; omega⟩, by repeat (first | exact Drawn0.refl _ | apply Drawn0.step)⟩
    ·rw [if_neg c3] at H
     exact absurd H (by simp)
   ·rw [if_neg c2] at H
    have c2b0 := decide_eq_false c2
    clear c2
    replace H := Option.bind_eq_some_iff.mp H
    obtain ⟨t112, A180, H⟩ := H
    try dsimp only at H
    have A18 := dk A180
    clear A180
    obtain rfl := Option.some.inj H
    go_wp2_with (first | ((with_reducible refine gcallee_ 76 rfl ?_); refine gl (some 41) Try.func76 #[.int .i64 (a0.size : Int), .int .i64 1, .int .i64 8] ?_; (with_reducible refine (spec_l01In.calls (a0.size : Int) 1 8 t112 _ A18.out).mono ?_); rintro e w' ⟨rfl, ⟨nd, rfl⟩⟩; refine ⟨_, rfl, ?_⟩))
    go_ret
    exact ⟨e2_, by repeat (first | exact Drawn0.refl _ | apply Drawn0.step)⟩
def spec_TeamOk.f (k : Nat) (a0_0 : ByteArray) (a0_1 : Int) (a0_2 : Int) : Option (Bool) := (spec_IsName.f k a0_0).bind fun t114 => (if t114 = true then ((spec_l01In.f a0_1 0 5).bind fun t115 => (if t115 = true then ((spec_l01In.f a0_2 1 8).bind fun t116 => (some t116)) else (some false))) else (some false))
theorem spec_TeamOk.calls (k : Nat) (a0_0 : ByteArray) (a0_1 : Int) (a0_2 : Int) (r : Bool) (w : World) (h : spec_TeamOk.f k a0_0 a0_1 a0_2 = some r) :
  Calls Try.prog 157 #[.agg #[.string a0_0, .int .i64 a0_1, .int .i64 a0_2]] w fun e w' => e = .returned (.bool r) ∧ Below w.heap.size w w' := by
 have hu139 := Try.underlying139
 have HB := hb0 w
 have H : ((spec_IsName.f k a0_0).bind fun t114 => (if t114 = true then ((spec_l01In.f a0_1 0 5).bind fun t115 => (if t115 = true then ((spec_l01In.f a0_2 1 8).bind fun t116 => (some t116)) else (some false))) else (some false))) = some r := h
 clear h
 replace H := Option.bind_eq_some_iff.mp H
 obtain ⟨t114, A20, H⟩ := H
 try dsimp only at H
 have A2 := dk A20
 clear A20
 by_cases c3 : t114 = true
 ·subst c3
  rw [if_pos rfl] at H
  replace H := Option.bind_eq_some_iff.mp H
  obtain ⟨t115, A40, H⟩ := H
  try dsimp only at H
  have A4 := dk A40
  clear A40
  by_cases c5 : t115 = true
  ·subst c5
   rw [if_pos rfl] at H
   replace H := Option.bind_eq_some_iff.mp H
   obtain ⟨t116, A60, H⟩ := H
   try dsimp only at H
   have A6 := dk A60
   clear A60
   obtain rfl := Option.some.inj H
   go_enter Try.func157, Try.ntmps157
   go_wp2_with (first | ((with_reducible refine gdst_ 1 rfl ?_); refine bx (N := 1) (cs := #[.string a0_0, .int .i64 a0_1, .int .i64 a0_2]) (t := 139) ?_; intro gb113 hg w7 hbox hb; have BK113 := dk (hbox); have GW113 := gs hg HB; have GE113 := gs hg HB; replace HB := hs_ HB hb; clear hb hbox hg; have ⟨z8_0, z8_1, z8_2, v8_0, v8_1, v8_2⟩ := rz3 BK113) | ((with_reducible refine gcallee_ 183 rfl ?_); refine gl (some 5) Try.func183 #[.string a0_0] ?_; (with_reducible refine (spec_IsName.calls k a0_0 true _ A2.out).mono ?_); rintro e w' ⟨rfl, ⟨nd, rfl⟩⟩; refine ⟨_, rfl, ?_⟩) | (go_at_call 76; (with_reducible refine (spec_l01In.calls a0_1 0 5 true _ A4.out).mono ?_); rintro e w' ⟨rfl, ⟨nd, rfl⟩⟩) | (go_at_call 76; (with_reducible refine (spec_l01In.calls a0_2 1 8 t116 _ A6.out).mono ?_); rintro e w' ⟨rfl, ⟨nd, rfl⟩⟩))
   go_ret
   exact ⟨ee, bb HB⟩
  ·replace c5 := Bool.eq_false_iff.mpr c5
   subst c5
   rw [if_neg (show ¬ (false = true) by decide)] at H
   obtain rfl := Option.some.inj H
   go_enter Try.func157, Try.ntmps157
   go_wp2_with (first | ((with_reducible refine gdst_ 1 rfl ?_); refine bx (N := 1) (cs := #[.string a0_0, .int .i64 a0_1, .int .i64 a0_2]) (t := 139) ?_; intro gb113 hg w9 hbox hb; have BK113 := dk (hbox); have GW113 := gs hg HB; have GE113 := gs hg HB; replace HB := hs_ HB hb; clear hb hbox hg; have ⟨z10_0, z10_1, z10_2, v10_0, v10_1, v10_2⟩ := rz3 BK113) | ((with_reducible refine gcallee_ 183 rfl ?_); refine gl (some 5) Try.func183 #[.string a0_0] ?_; (with_reducible refine (spec_IsName.calls k a0_0 true _ A2.out).mono ?_); rintro e w' ⟨rfl, ⟨nd, rfl⟩⟩; refine ⟨_, rfl, ?_⟩) | (go_at_call 76; (with_reducible refine (spec_l01In.calls a0_1 0 5 false _ A4.out).mono ?_); rintro e w' ⟨rfl, ⟨nd, rfl⟩⟩))
   go_ret
   exact ⟨ee, bb HB⟩
 ·replace c3 := Bool.eq_false_iff.mpr c3
  subst c3
  rw [if_neg (show ¬ (false = true) by decide)] at H
  obtain rfl := Option.some.inj H
  go_enter Try.func157, Try.ntmps157
  go_wp2_with (first | ((with_reducible refine gdst_ 1 rfl ?_); refine bx (N := 1) (cs := #[.string a0_0, .int .i64 a0_1, .int .i64 a0_2]) (t := 139) ?_; intro gb113 hg w11 hbox hb; have BK113 := dk (hbox); have GW113 := gs hg HB; have GE113 := gs hg HB; replace HB := hs_ HB hb; clear hb hbox hg; have ⟨z12_0, z12_1, z12_2, v12_0, v12_1, v12_2⟩ := rz3 BK113) | ((with_reducible refine gcallee_ 183 rfl ?_); refine gl (some 5) Try.func183 #[.string a0_0] ?_; (with_reducible refine (spec_IsName.calls k a0_0 false _ A2.out).mono ?_); rintro e w' ⟨rfl, ⟨nd, rfl⟩⟩; refine ⟨_, rfl, ?_⟩))
  go_ret
  exact ⟨ee, bb HB⟩
end Go.Proofs.Ythfefanapneocaa.Q
section
namespace Go.Proofs.Ythfefanapneocaa.Q
open Go.RowKit Go.Proofs.YthfefanapneocaaW.PrintWords Go.Proofs.YthfefanapneocaaW.PrintLast Go.Proofs.YthfefanapneocaaW.PrintMore
attribute [local go_sem] max2_int min2_int max_two min_two max_three min_three max_four min_four
set_option linter.unusedVariables false
set_option linter.unusedSimpArgs false
set_option maxRecDepth 100000
set_option maxHeartbeats 8000000
mutual
def spec_FieldOk.l0 : Nat → List (S139) → List (S139) → Int → Int → Option (Bool)
 | 0, _, _, _, _ => none
 | k + 1, x0, x11, x12, x13 => if x13 < x12 then (if 0 ≤ x13 then (if x13 < (x11.length : Int) then ((spec_TeamOk.f k ((rd_T139 x11 x13).f0) ((rd_T139 x11 x13).f1) ((rd_T139 x11 x13).f2)).bind fun t120 => (if t120 = true then (if x13 ≤ (x0.length : Int) then ((some (x0.take (x13 : Int).toNat : List (S139))).bind fun y121 => (spec_FieldOk.l1 k x0 x11 x12 x13 y121 (y121.length : Int) 0 ((rd_T139 x11 x13).f0) ((rd_T139 x11 x13).f1) ((rd_T139 x11 x13).f2))) else (none)) else (some false))) else (none)) else (none)) else (some true)
def spec_FieldOk.l1 : Nat → List (S139) → List (S139) → Int → Int → List (S139) → Int → Int → ByteArray → Int → Int → Option (Bool)
 | 0, _, _, _, _, _, _, _, _, _, _ => none
 | k + 1, x0, x11, x12, x13, x23, x24, x25, x120000, x120001, x120002 => if x25 < x24 then (if 0 ≤ x25 then (if x25 < (x23.length : Int) then (if ((rd_T139 x23 x25).f0).toList = x120000.toList then (some false) else (if ((rd_T139 x23 x25).f2) = x120002 then (some false) else (spec_FieldOk.l1 k x0 x11 x12 x13 x23 x24 (wrap64 (x25 + 1)) x120000 x120001 x120002))) else (none)) else (none)) else (spec_FieldOk.l0 k x0 x11 x12 (wrap64 (x13 + 1)))
end
def spec_FieldOk.f (k : Nat) (l0 : List (S139)) : Option (Bool) := (spec_l01In.f (l0.length : Int) 2 8).bind fun t117 => (if t117 = true then (spec_FieldOk.l0 k l0 l0 (l0.length : Int) 0) else (some false))
theorem spec_FieldOk.calls (k : Nat) (A0 : Option Addr) (c0 : Nat) (l0 : List (S139)) (r : Bool) (w : World) (hr0 : Kd.C k139 w A0 l0.length l0) (hc0 : l0.length ≤ c0) (h : spec_FieldOk.f k l0 = some r) :
  Calls Try.prog 118 #[.slice A0 l0.length c0] w fun e w' => e = .returned (.bool r) ∧ Below w.heap.size w w' := by
 have hu139 := Try.underlying139
 have HR0 := dk hr0
 have HC0 := dk hc0
 clear hr0 hc0
 have HB := hb0 w
 have H : ((spec_l01In.f (l0.length : Int) 2 8).bind fun t117 => (if t117 = true then (spec_FieldOk.l0 k l0 l0 (l0.length : Int) 0) else (some false))) = some r := h
 clear h
 replace H := Option.bind_eq_some_iff.mp H
 obtain ⟨t117, A20, H⟩ := H
 try dsimp only at H
 have A2 := dk A20
 clear A20
 by_cases c3 : t117 = true
 ·subst c3
  rw [if_pos rfl] at H
  have H' := dk H
  clear H
  go_enter Try.func118, Try.ntmps118
  go_wp2_with (first | ((with_reducible refine gcallee_ 76 rfl ?_); refine gl (some 9) Try.func76 #[.int .i64 (l0.length : Int), .int .i64 2, .int .i64 8] ?_; (with_reducible refine (spec_l01In.calls (l0.length : Int) 2 8 true _ A2.out).mono ?_); rintro e w' ⟨rfl, ⟨nd, rfl⟩⟩; refine ⟨_, rfl, ?_⟩))
  go_loopg [13] k (fun kq v13 w' => ∃ (x13_1 : Int), v13 = .int .i64 x13_1 ∧ Aside0 (spec_FieldOk.l0 kq l0 l0 (l0.length : Int) x13_1 = some r) ∧ Aside0 (kq ≤ k) ∧ Aside0 (Below w.heap.size w w'))
  case atStart => exact ⟨(0), e2_, H', ⟨Nat.le_refl _⟩, ⟨bb HB⟩⟩
  case round =>
   clear H'
   obtain ⟨x13_1, rfl, HA, HK1, HB⟩ := hrel
   cases gk with
   | zero => exact absurd HA.out (by simp [spec_FieldOk.l0])
   | succ k1 =>
    have H := HA.out
    clear HA
    simp only [spec_FieldOk.l0] at H
    by_cases c4 : x13_1 < (l0.length : Int)
    ·rw [if_pos c4] at H
     have c4b0 := decide_eq_true c4
     clear c4
     by_cases c5 : 0 ≤ x13_1
     ·rw [if_pos c5] at H
      have c5b0 := decide_eq_true c5
      clear c5
      by_cases c6 : x13_1 < (l0.length : Int)
      ·rw [if_pos c6] at H
       have c6b0 := decide_eq_true c6
       clear c6
       replace H := Option.bind_eq_some_iff.mp H
       obtain ⟨t120, A70, H⟩ := H
       try dsimp only at H
       have A7 := dk A70
       clear A70
       by_cases c8 : t120 = true
       ·subst c8
        rw [if_pos rfl] at H
        have c9b0 := eq_true (oa : 0 ≤ x13_1)
        by_cases c10 : x13_1 ≤ (l0.length : Int)
        ·rw [if_pos c10] at H
         have c10b0 := eq_true c10
         have c10b1 := decide_eq_true c10
         clear c10
         obtain ⟨y121, hy121⟩ : ∃ y_ : List (S139), y_ = (l0.take (x13_1 : Int).toNat) := ⟨_, rfl⟩
         replace H : (spec_FieldOk.l1 k1 l0 l0 (l0.length : Int) x13_1 y121 (y121.length : Int) 0 ((rd_T139 l0 x13_1).f0) ((rd_T139 l0 x13_1).f1) ((rd_T139 l0 x13_1).f2)) = some r := by first | (rw [hy121]; with_reducible exact H) | (have H2_ := (Option.bind_some _ _).symm.trans H; rw [hy121]; with_reducible exact H2_) | (have H2_ := (Option.bind_some _ _).symm.trans H; with_reducible exact H2_) | with_reducible exact H | (rw [hy121]; exact H) | exact H
         have Ny121 := dk hy121
         clear hy121
         have H' := dk H
         clear H
         have p118 : 0 ≤ (x13_1 : Int) := oa
         have q118 : x13_1 < (l0.length : Int) := oa
         obtain ⟨ad118, e118, hx118_0, hx118_1, hx118_2⟩ := at_T139 HR0.out x13_1 p118 q118
         cases e118
         replace hx118_0 := hc HB hx118_0
         replace hx118_1 := hc HB hx118_1
         replace hx118_2 := hc HB hx118_2
         replace p118 := eq_true p118
         replace q118 := eq_true q118
         go_wp2_with (first | ((with_reducible refine gdst_ 4 rfl ?_); refine bx (N := 4) (cs := #[.string (⟨#[]⟩ : ByteArray), .int .i64 0, .int .i64 0]) (t := 139) ?_; intro gb119 hg w11 hbox hb; have BK119 := dk (hbox); have GW119 := gs hg HB; have GE119 := gs hg HB; replace HB := hs_ HB hb; clear hb hbox hg; have ⟨z12_0, z12_1, z12_2, v12_0, v12_1, v12_2⟩ := rz3 BK119) | ((with_reducible refine gcallee_ 157 rfl ?_); refine gl (some 19) Try.func157 #[.agg #[.string ((rd_T139 l0 x13_1).f0), .int .i64 ((rd_T139 l0 x13_1).f1), .int .i64 ((rd_T139 l0 x13_1).f2)]] ?_; (with_reducible refine (spec_TeamOk.calls k1 ((rd_T139 l0 x13_1).f0) ((rd_T139 l0 x13_1).f1) ((rd_T139 l0 x13_1).f2) true _ A7.out).mono ?_); rintro e w13 ⟨rfl, hb⟩; refine ⟨_, rfl, ?_⟩; replace BK119 := dk (blk_below (g := gb119) (o := .cells #[.string ((rd_T139 l0 x13_1).f0), .int .i64 ((rd_T139 l0 x13_1).f1), .int .i64 ((rd_T139 l0 x13_1).f2)] 139 (0, 0)) (bp BK119) hb); replace HB := hs_ HB hb; have q14 : (x13_1 : Int) ≤ ((l0.length : Int) : Int) := oa; obtain ⟨i014, hi014, _, hsz14, _⟩ := info_parts info139; have hroom14 : l0.length ≤ c0 := HC0.out; have hC14 : Kd.C k139 _ (some ad118) l0.length l0 := HR0.out; have hcut14 := cut_to (P := Try.prog) 32 139 .i64 Try.underlying32 hi014 (some ad118) l0.length c0 x13_1 (oa) q14 hroom14; have hr14 := Kd.C_take (m := (x13_1 : Int).toNat) hC14 (by omega); have hy14 : y121.length = (x13_1 : Int).toNat := (by rw [Ny121.out, List.length_take]; omega); rw [← Ny121.out] at hr14; rw [← hy14] at hcut14; have HR124 := dk hr14; have HC124 := dk (show y121.length ≤ c0 from by omega); clear hr14 hC14 hroom14 hi014 hsz14; have KY14 := dk hy14; clear hy14; replace q14 := eq_true q14))
         go_loopg [25] k1 (fun kq v25 w' => ∃ (x25_2 : Int), v25 = .int .i64 x25_2 ∧ Aside0 (spec_FieldOk.l1 kq l0 l0 (l0.length : Int) x13_1 y121 (y121.length : Int) x25_2 ((rd_T139 l0 x13_1).f0) ((rd_T139 l0 x13_1).f1) ((rd_T139 l0 x13_1).f2) = some r) ∧ Aside0 (kq ≤ k1) ∧ Aside0 (w'.heap[gb119]? = some (.cells #[.string ((rd_T139 l0 x13_1).f0), .int .i64 ((rd_T139 l0 x13_1).f1), .int .i64 ((rd_T139 l0 x13_1).f2)] 139 (0, 0))) ∧ Aside0 (Below w.heap.size w w'))
         case atStart => exact ⟨(0), e2_, H', ⟨Nat.le_refl _⟩, ⟨bk BK119⟩, ⟨bb HB⟩⟩
         case round =>
          clear H'
          obtain ⟨x25_2, rfl, HA, HK2, BK119, HB⟩ := hrel
          cases gk with
          | zero => exact absurd HA.out (by simp [spec_FieldOk.l1])
          | succ k2 =>
           have H := HA.out
           clear HA
           simp only [spec_FieldOk.l1] at H
           by_cases c15 : x25_2 < (y121.length : Int)
           ·rw [if_pos c15] at H
            have c15b0 := decide_eq_true c15
            clear c15
            by_cases c16 : 0 ≤ x25_2
            ·rw [if_pos c16] at H
             have c16b0 := decide_eq_true c16
             clear c16
             by_cases c17 : x25_2 < (y121.length : Int)
             ·rw [if_pos c17] at H
              have c17b0 := decide_eq_true c17
              clear c17
              by_cases c18 : ((rd_T139 y121 x25_2).f0).toList = ((rd_T139 l0 x13_1).f0).toList
              ·rw [if_pos c18] at H
               have c18b0 := beq_iff_eq.mpr c18
               have c18b1 := bne_eq_false_iff_eq.mpr c18
               clear c18
               obtain rfl := Option.some.inj H
               have p125 : 0 ≤ (x25_2 : Int) := oa
               have q125 : x25_2 < (y121.length : Int) := oa
               obtain ⟨ad125, e125, hx125_0, hx125_1, hx125_2⟩ := at_T139 HR124.out x25_2 p125 q125
               obtain rfl : ad118 = ad125 := (by injection e125)
               replace hx125_0 := hc HB hx125_0
               replace hx125_1 := hc HB hx125_1
               replace hx125_2 := hc HB hx125_2
               replace p125 := eq_true p125
               replace q125 := eq_true q125
               go_wp2_with (first | ((with_reducible refine gdst_ 6 rfl ?_); refine bx (N := 6) (cs := #[.string (⟨#[]⟩ : ByteArray), .int .i64 0, .int .i64 0]) (t := 139) ?_; intro gb126 hg w19 hbox hb; have BK126 := dk (hbox); have GW126 := gs hg HB; have GE126 := gs hg HB; replace HB := hs_ HB hb; have NB119_126 := gn hg BK119; have NB126_119 := gm hg BK119; replace BK119 := kb BK119 hb; clear hb hbox hg; have hnb20 := NB126_119.out; have hnc20 := NB119_126.out; have ⟨z21_0, z21_1, z21_2, v21_0, v21_1, v21_2⟩ := rz3 BK126; have ⟨z22_0, z22_1, z22_2, v22_0, v22_1, v22_2⟩ := rz3 BK119))
               go_ret
               exact ⟨by first | exact ee | (generalize ByteArray.toList _ = l_; cases l_ <;> rfl) | (generalize ByteArray.toList _ = l_; cases l_ <;> simp), bb HB⟩
              ·rw [if_neg c18] at H
               have c18b0 := beq_eq_false_iff_ne.mpr c18
               have c18b1 := bne_iff_ne.mpr c18
               by_cases c23 : ((rd_T139 y121 x25_2).f2) = ((rd_T139 l0 x13_1).f2)
               ·rw [if_pos c23] at H
                have c23b0 := beq_iff_eq.mpr c23
                have c23b1 := bne_eq_false_iff_eq.mpr c23
                clear c23
                obtain rfl := Option.some.inj H
                have p125 : 0 ≤ (x25_2 : Int) := oa
                have q125 : x25_2 < (y121.length : Int) := oa
                obtain ⟨ad125, e125, hx125_0, hx125_1, hx125_2⟩ := at_T139 HR124.out x25_2 p125 q125
                obtain rfl : ad118 = ad125 := (by injection e125)
                replace hx125_0 := hc HB hx125_0
                replace hx125_1 := hc HB hx125_1
                replace hx125_2 := hc HB hx125_2
                replace p125 := eq_true p125
                replace q125 := eq_true q125
                go_wp2_with (first | ((with_reducible refine gdst_ 6 rfl ?_); refine bx (N := 6) (cs := #[.string (⟨#[]⟩ : ByteArray), .int .i64 0, .int .i64 0]) (t := 139) ?_; intro gb126 hg w24 hbox hb; have BK126 := dk (hbox); have GW126 := gs hg HB; have GE126 := gs hg HB; replace HB := hs_ HB hb; have NB119_126 := gn hg BK119; have NB126_119 := gm hg BK119; replace BK119 := kb BK119 hb; clear hb hbox hg; have hnb25 := NB126_119.out; have hnc25 := NB119_126.out; have ⟨z26_0, z26_1, z26_2, v26_0, v26_1, v26_2⟩ := rz3 BK126; have ⟨z27_0, z27_1, z27_2, v27_0, v27_1, v27_2⟩ := rz3 BK119))
                go_ret
                exact ⟨by first | exact ee | (generalize ByteArray.toList _ = l_; cases l_ <;> rfl) | (generalize ByteArray.toList _ = l_; cases l_ <;> simp), bb HB⟩
               ·rw [if_neg c23] at H
                have c23b0 := beq_eq_false_iff_ne.mpr c23
                have c23b1 := bne_iff_ne.mpr c23
                have H' := dk H
                clear H
                have p125 : 0 ≤ (x25_2 : Int) := oa
                have q125 : x25_2 < (y121.length : Int) := oa
                obtain ⟨ad125, e125, hx125_0, hx125_1, hx125_2⟩ := at_T139 HR124.out x25_2 p125 q125
                obtain rfl : ad118 = ad125 := (by injection e125)
                replace hx125_0 := hc HB hx125_0
                replace hx125_1 := hc HB hx125_1
                replace hx125_2 := hc HB hx125_2
                replace p125 := eq_true p125
                replace q125 := eq_true q125
                go_wp2_with (first | ((with_reducible refine gdst_ 6 rfl ?_); refine bx (N := 6) (cs := #[.string (⟨#[]⟩ : ByteArray), .int .i64 0, .int .i64 0]) (t := 139) ?_; intro gb126 hg w28 hbox hb; have BK126 := dk (hbox); have GW126 := gs hg HB; have GE126 := gs hg HB; replace HB := hs_ HB hb; have NB119_126 := gn hg BK119; have NB126_119 := gm hg BK119; replace BK119 := kb BK119 hb; clear hb hbox hg; have hnb29 := NB126_119.out; have hnc29 := NB119_126.out; have ⟨z30_0, z30_1, z30_2, v30_0, v30_1, v30_2⟩ := rz3 BK126; have ⟨z31_0, z31_1, z31_2, v31_0, v31_1, v31_2⟩ := rz3 BK119))
                go_roundg k2
                case measure => have := HK1.out; have := HK2.out; omega
                case rel => exact ⟨(wrap64 (x25_2 + 1)), e2_, H', ⟨by have := HK1.out; have := HK2.out; omega⟩, ⟨bf NB119_126.out BK119⟩, ⟨bb HB⟩⟩
             ·rw [if_neg c17] at H
              exact absurd H (by simp)
            ·rw [if_neg c16] at H
             exact absurd H (by simp)
           ·rw [if_neg c15] at H
            have c15b0 := decide_eq_false c15
            clear c15
            have H' := dk H
            clear H
            go_wp2
            go_roundg k2
            case measure => have := HK1.out; have := HK2.out; omega
            case rel => exact ⟨(wrap64 (x13_1 + 1)), e2_, H', ⟨by have := HK1.out; have := HK2.out; omega⟩, ⟨bb HB⟩⟩
        ·rw [if_neg c10] at H
         exact absurd H (by simp)
       ·replace c8 := Bool.eq_false_iff.mpr c8
        subst c8
        rw [if_neg (show ¬ (false = true) by decide)] at H
        obtain rfl := Option.some.inj H
        have p118 : 0 ≤ (x13_1 : Int) := oa
        have q118 : x13_1 < (l0.length : Int) := oa
        obtain ⟨ad118, e118, hx118_0, hx118_1, hx118_2⟩ := at_T139 HR0.out x13_1 p118 q118
        cases e118
        replace hx118_0 := hc HB hx118_0
        replace hx118_1 := hc HB hx118_1
        replace hx118_2 := hc HB hx118_2
        replace p118 := eq_true p118
        replace q118 := eq_true q118
        go_wp2_with (first | ((with_reducible refine gdst_ 4 rfl ?_); refine bx (N := 4) (cs := #[.string (⟨#[]⟩ : ByteArray), .int .i64 0, .int .i64 0]) (t := 139) ?_; intro gb119 hg w32 hbox hb; have BK119 := dk (hbox); have GW119 := gs hg HB; have GE119 := gs hg HB; replace HB := hs_ HB hb; clear hb hbox hg; have ⟨z33_0, z33_1, z33_2, v33_0, v33_1, v33_2⟩ := rz3 BK119) | ((with_reducible refine gcallee_ 157 rfl ?_); refine gl (some 19) Try.func157 #[.agg #[.string ((rd_T139 l0 x13_1).f0), .int .i64 ((rd_T139 l0 x13_1).f1), .int .i64 ((rd_T139 l0 x13_1).f2)]] ?_; (with_reducible refine (spec_TeamOk.calls k1 ((rd_T139 l0 x13_1).f0) ((rd_T139 l0 x13_1).f1) ((rd_T139 l0 x13_1).f2) false _ A7.out).mono ?_); rintro e w34 ⟨rfl, hb⟩; refine ⟨_, rfl, ?_⟩; replace BK119 := dk (blk_below (g := gb119) (o := .cells #[.string ((rd_T139 l0 x13_1).f0), .int .i64 ((rd_T139 l0 x13_1).f1), .int .i64 ((rd_T139 l0 x13_1).f2)] 139 (0, 0)) (bp BK119) hb); replace HB := hs_ HB hb))
        go_ret
        exact ⟨by first | exact ee | (generalize ByteArray.toList _ = l_; cases l_ <;> rfl) | (generalize ByteArray.toList _ = l_; cases l_ <;> simp), bb HB⟩
      ·rw [if_neg c6] at H
       exact absurd H (by simp)
     ·rw [if_neg c5] at H
      exact absurd H (by simp)
    ·rw [if_neg c4] at H
     have c4b0 := decide_eq_false c4
     clear c4
     obtain rfl := Option.some.inj H
     go_wp2
     go_ret
     exact ⟨by first | exact ee | (generalize ByteArray.toList _ = l_; cases l_ <;> rfl) | (generalize ByteArray.toList _ = l_; cases l_ <;> simp), bb HB⟩
 ·replace c3 := Bool.eq_false_iff.mpr c3
  subst c3
  rw [if_neg (show ¬ (false = true) by decide)] at H
  obtain rfl := Option.some.inj H
  go_enter Try.func118, Try.ntmps118
  go_wp2_with (first | ((with_reducible refine gcallee_ 76 rfl ?_); refine gl (some 9) Try.func76 #[.int .i64 (l0.length : Int), .int .i64 2, .int .i64 8] ?_; (with_reducible refine (spec_l01In.calls (l0.length : Int) 2 8 false _ A2.out).mono ?_); rintro e w' ⟨rfl, ⟨nd, rfl⟩⟩; refine ⟨_, rfl, ?_⟩))
  go_ret
  exact ⟨by first | exact ee | (generalize ByteArray.toList _ = l_; cases l_ <;> rfl) | (generalize ByteArray.toList _ = l_; cases l_ <;> simp), bb HB⟩
mutual
def spec_RulesOk.j0 : Nat → Bool → Int → Int → Int → List Int → Bool → Option (Bool)
 | 0, _, _, _, _, _, _ => none
 | k + 1, x31, x129000, x129001, x129002, x129003, x129004 => if x31 = true then (some false) else (spec_RulesOk.l0 k x129003 (x129003.length : Int) 0 x129000 x129001 x129002 x129003 x129004)
def spec_RulesOk.l0 : Nat → List Int → Int → Int → Int → Int → Int → List Int → Bool → Option (Bool)
 | 0, _, _, _, _, _, _, _, _ => none
 | k + 1, x33, x34, x35, x129000, x129001, x129002, x129003, x129004 => if x35 < x34 then (if 0 ≤ x35 then (if x35 < (x33.length : Int) then ((spec_l01In.f (rd x33 x35) 1 8).bind fun t134 => (if t134 = true then (if x35 ≤ (x129003.length : Int) then ((spec_l02Has.f k (x129003.take (x35 : Int).toNat) (rd x33 x35)).bind fun t136 => (if t136 = true then (some false) else (spec_RulesOk.l0 k x33 x34 (wrap64 (x35 + 1)) x129000 x129001 x129002 x129003 x129004))) else (none)) else (some false))) else (none)) else (none)) else (some true)
end
def spec_RulesOk.f (k : Nat) (a0_0 : Int) (a0_1 : Int) (a0_2 : Int) (l0_3 : List Int) (a0_4 : Bool) : Option (Bool) := (spec_l01In.f a0_0 0 10).bind fun t129 => (if t129 = true then ((spec_l01In.f a0_1 0 a0_0).bind fun t130 => (if t130 = true then ((spec_l01In.f a0_2 0 a0_1).bind fun t131 => (if t131 = true then ((spec_l01In.f (l0_3.length : Int) 1 8).bind fun t132 => (spec_RulesOk.j0 k (!t132) a0_0 a0_1 a0_2 l0_3 a0_4)) else (spec_RulesOk.j0 k true a0_0 a0_1 a0_2 l0_3 a0_4))) else (spec_RulesOk.j0 k true a0_0 a0_1 a0_2 l0_3 a0_4))) else (spec_RulesOk.j0 k true a0_0 a0_1 a0_2 l0_3 a0_4))
theorem spec_RulesOk.calls (k : Nat) (a0_0 : Int) (a0_1 : Int) (a0_2 : Int) (A0_3 : Option Addr) (c0_3 : Nat) (l0_3 : List Int) (a0_4 : Bool) (r : Bool) (w : World) (hr0_3 : Kd.C (Kd.int .i64) w A0_3 l0_3.length l0_3) (hc0_3 : l0_3.length ≤ c0_3) (h : spec_RulesOk.f k a0_0 a0_1 a0_2 l0_3 a0_4 = some r) :
  Calls Try.prog 119 #[.agg #[.int .i64 a0_0, .int .i64 a0_1, .int .i64 a0_2, .slice A0_3 l0_3.length c0_3, .bool a0_4]] w fun e w' => e = .returned (.bool r) ∧ Below w.heap.size w w' := by
 have hu33 := Try.underlying33
 have HR0_3 := dk hr0_3
 have HC0_3 := dk hc0_3
 clear hr0_3 hc0_3
 have HB := hb0 w
 have H : ((spec_l01In.f a0_0 0 10).bind fun t129 => (if t129 = true then ((spec_l01In.f a0_1 0 a0_0).bind fun t130 => (if t130 = true then ((spec_l01In.f a0_2 0 a0_1).bind fun t131 => (if t131 = true then ((spec_l01In.f (l0_3.length : Int) 1 8).bind fun t132 => (spec_RulesOk.j0 k (!t132) a0_0 a0_1 a0_2 l0_3 a0_4)) else (spec_RulesOk.j0 k true a0_0 a0_1 a0_2 l0_3 a0_4))) else (spec_RulesOk.j0 k true a0_0 a0_1 a0_2 l0_3 a0_4))) else (spec_RulesOk.j0 k true a0_0 a0_1 a0_2 l0_3 a0_4))) = some r := h
 clear h
 have HC2 := dk H
 clear H
 go_enter Try.func119, Try.ntmps119
 go_upto_region 1 with (first | ((with_reducible refine gdst_ 1 rfl ?_); (try (refine gate_guard (by rfl) ?_; dsimp only)); refine bx (N := 1) (cs := #[.int .i64 a0_0, .int .i64 a0_1, .int .i64 a0_2, .slice A0_3 l0_3.length c0_3, .bool a0_4]) (t := 33) ?_; intro gb128 hg w3 hbox hb; have BK128 := dk (hbox); have GW128 := gs hg HB; have GE128 := gs hg HB; replace HB := hs_ HB hb; clear hb hbox hg))
 (try simp only [Act.put, List.setIfInBounds_toArray, List.set_cons_zero, List.set_cons_succ])
 go_cut [31] (fun v31 wc => ∃ (kq : Nat) (x31_1 : Bool), v31 = .bool x31_1 ∧ Aside0 (spec_RulesOk.j0 kq x31_1 a0_0 a0_1 a0_2 l0_3 a0_4 = some r) ∧ Aside0 (kq ≤ k) ∧ Aside0 (wc.heap[gb128]? = some (.cells #[.int .i64 a0_0, .int .i64 a0_1, .int .i64 a0_2, (.slice A0_3 l0_3.length c0_3), .bool a0_4] 33 (0, 0))) ∧ Aside0 (Below w.heap.size w wc))
 case first =>
  have H := HC2.out
  clear HC2
  replace H := Option.bind_eq_some_iff.mp H
  obtain ⟨t129, A40, H⟩ := H
  try dsimp only at H
  have A4 := dk A40
  clear A40
  by_cases c5 : t129 = true
  ·subst c5
   rw [if_pos rfl] at H
   replace H := Option.bind_eq_some_iff.mp H
   obtain ⟨t130, A60, H⟩ := H
   try dsimp only at H
   have A6 := dk A60
   clear A60
   by_cases c7 : t130 = true
   ·subst c7
    rw [if_pos rfl] at H
    replace H := Option.bind_eq_some_iff.mp H
    obtain ⟨t131, A80, H⟩ := H
    try dsimp only at H
    have A8 := dk A80
    clear A80
    by_cases c9 : t131 = true
    ·subst c9
     rw [if_pos rfl] at H
     replace H := Option.bind_eq_some_iff.mp H
     obtain ⟨t132, A100, H⟩ := H
     try dsimp only at H
     have A10 := dk A100
     clear A100
     have H' := dk H
     clear H
     have ⟨z11_0, z11_1, z11_2, z11_3, z11_4, v11_0, v11_1, v11_2, v11_3, v11_4⟩ := rz5 BK128
     go_wp2_with (first | ((with_reducible refine gcallee_ 76 rfl ?_); refine gl (some 7) Try.func76 #[.int .i64 a0_0, .int .i64 0, .int .i64 10] ?_; (with_reducible refine (spec_l01In.calls a0_0 0 10 true _ A4.out).mono ?_); rintro e w' ⟨rfl, ⟨nd, rfl⟩⟩; refine ⟨_, rfl, ?_⟩) | (go_at_call 76; (with_reducible refine (spec_l01In.calls a0_1 0 a0_0 true _ A6.out).mono ?_); rintro e w' ⟨rfl, ⟨nd, rfl⟩⟩) | (go_at_call 76; (with_reducible refine (spec_l01In.calls a0_2 0 a0_1 true _ A8.out).mono ?_); rintro e w' ⟨rfl, ⟨nd, rfl⟩⟩) | (go_at_call 76; (with_reducible refine (spec_l01In.calls (l0_3.length : Int) 1 8 t132 _ A10.out).mono ?_); rintro e w' ⟨rfl, ⟨nd, rfl⟩⟩))
     go_meet
     case rel => exact ⟨_, (!t132), e2_, H', ⟨by first | omega | exact Nat.le_refl _⟩, ⟨bk BK128⟩, ⟨bb HB⟩⟩
    ·replace c9 := Bool.eq_false_iff.mpr c9
     subst c9
     rw [if_neg (show ¬ (false = true) by decide)] at H
     have H' := dk H
     clear H
     have ⟨z12_0, z12_1, z12_2, z12_3, z12_4, v12_0, v12_1, v12_2, v12_3, v12_4⟩ := rz5 BK128
     go_wp2_with (first | ((with_reducible refine gcallee_ 76 rfl ?_); refine gl (some 7) Try.func76 #[.int .i64 a0_0, .int .i64 0, .int .i64 10] ?_; (with_reducible refine (spec_l01In.calls a0_0 0 10 true _ A4.out).mono ?_); rintro e w' ⟨rfl, ⟨nd, rfl⟩⟩; refine ⟨_, rfl, ?_⟩) | (go_at_call 76; (with_reducible refine (spec_l01In.calls a0_1 0 a0_0 true _ A6.out).mono ?_); rintro e w' ⟨rfl, ⟨nd, rfl⟩⟩) | (go_at_call 76; (with_reducible refine (spec_l01In.calls a0_2 0 a0_1 false _ A8.out).mono ?_); rintro e w' ⟨rfl, ⟨nd, rfl⟩⟩))
     go_meet
     case rel => exact ⟨_, (true), e2_, H', ⟨by first | omega | exact Nat.le_refl _⟩, ⟨bk BK128⟩, ⟨bb HB⟩⟩
   ·replace c7 := Bool.eq_false_iff.mpr c7
    subst c7
    rw [if_neg (show ¬ (false = true) by decide)] at H
    have H' := dk H
    clear H
    have ⟨z13_0, z13_1, z13_2, z13_3, z13_4, v13_0, v13_1, v13_2, v13_3, v13_4⟩ := rz5 BK128
    go_wp2_with (first | ((with_reducible refine gcallee_ 76 rfl ?_); refine gl (some 7) Try.func76 #[.int .i64 a0_0, .int .i64 0, .int .i64 10] ?_; (with_reducible refine (spec_l01In.calls a0_0 0 10 true _ A4.out).mono ?_); rintro e w' ⟨rfl, ⟨nd, rfl⟩⟩; refine ⟨_, rfl, ?_⟩) | (go_at_call 76; (with_reducible refine (spec_l01In.calls a0_1 0 a0_0 false _ A6.out).mono ?_); rintro e w' ⟨rfl, ⟨nd, rfl⟩⟩))
    go_meet
    case rel => exact ⟨_, (true), e2_, H', ⟨by first | omega | exact Nat.le_refl _⟩, ⟨bk BK128⟩, ⟨bb HB⟩⟩
  ·replace c5 := Bool.eq_false_iff.mpr c5
   subst c5
   rw [if_neg (show ¬ (false = true) by decide)] at H
   have H' := dk H
   clear H
   have ⟨z14_0, z14_1, z14_2, z14_3, z14_4, v14_0, v14_1, v14_2, v14_3, v14_4⟩ := rz5 BK128
   go_wp2_with (first | ((with_reducible refine gcallee_ 76 rfl ?_); refine gl (some 7) Try.func76 #[.int .i64 a0_0, .int .i64 0, .int .i64 10] ?_; (with_reducible refine (spec_l01In.calls a0_0 0 10 false _ A4.out).mono ?_); rintro e w' ⟨rfl, ⟨nd, rfl⟩⟩; refine ⟨_, rfl, ?_⟩))
   go_meet
   case rel => exact ⟨_, (true), e2_, H', ⟨by first | omega | exact Nat.le_refl _⟩, ⟨bk BK128⟩, ⟨bb HB⟩⟩
 case rest =>
  clear HC2
  obtain ⟨kq, x31_1, rfl, HA, HJ1, BK128, HB⟩ := hcut
  cases kq with
  | zero => exact absurd HA.out (by simp [spec_RulesOk.j0])
  | succ kj1 =>
   have H := HA.out
   clear HA
   simp only [spec_RulesOk.j0] at H
   by_cases c15 : x31_1 = true
   ·subst c15
    rw [if_pos rfl] at H
    obtain rfl := Option.some.inj H
    go_wp2
    go_ret
    exact ⟨ee, bb HB⟩
   ·replace c15 := Bool.eq_false_iff.mpr c15
    subst c15
    rw [if_neg (show ¬ (false = true) by decide)] at H
    have H' := dk H
    clear H
    have ⟨z16_0, z16_1, z16_2, z16_3, z16_4, v16_0, v16_1, v16_2, v16_3, v16_4⟩ := rz5 BK128
    go_wp2
    go_loopg [35] kj1 (fun kq v35 w' => ∃ (x35_2 : Int), v35 = .int .i64 x35_2 ∧ Aside0 (spec_RulesOk.l0 kq l0_3 (l0_3.length : Int) x35_2 a0_0 a0_1 a0_2 l0_3 a0_4 = some r) ∧ Aside0 (kq ≤ kj1) ∧ Aside0 (w'.heap[gb128]? = some (.cells #[.int .i64 a0_0, .int .i64 a0_1, .int .i64 a0_2, (.slice A0_3 l0_3.length c0_3), .bool a0_4] 33 (0, 0))) ∧ Aside0 (Below w.heap.size w w'))
    case atStart => exact ⟨(0), e2_, H', ⟨Nat.le_refl _⟩, ⟨bk BK128⟩, ⟨bb HB⟩⟩
    case round =>
     clear H'
     obtain ⟨x35_2, rfl, HA, HK2, BK128, HB⟩ := hrel
     cases gk with
     | zero => exact absurd HA.out (by simp [spec_RulesOk.l0])
     | succ k2 =>
      have H := HA.out
      clear HA
      simp only [spec_RulesOk.l0] at H
      by_cases c17 : x35_2 < (l0_3.length : Int)
      ·rw [if_pos c17] at H
       have c17b0 := decide_eq_true c17
       clear c17
       by_cases c18 : 0 ≤ x35_2
       ·rw [if_pos c18] at H
        have c18b0 := decide_eq_true c18
        clear c18
        by_cases c19 : x35_2 < (l0_3.length : Int)
        ·rw [if_pos c19] at H
         have c19b0 := decide_eq_true c19
         clear c19
         replace H := Option.bind_eq_some_iff.mp H
         obtain ⟨t134, A200, H⟩ := H
         try dsimp only at H
         have A20 := dk A200
         clear A200
         by_cases c21 : t134 = true
         ·subst c21
          rw [if_pos rfl] at H
          have c22b0 := eq_true (oa : 0 ≤ x35_2)
          by_cases c23 : x35_2 ≤ (l0_3.length : Int)
          ·rw [if_pos c23] at H
           have c23b0 := eq_true c23
           have c23b1 := decide_eq_true c23
           clear c23
           replace H := Option.bind_eq_some_iff.mp H
           obtain ⟨t136, A240, H⟩ := H
           try dsimp only at H
           have A24 := dk A240
           clear A240
           by_cases c25 : t136 = true
           ·subst c25
            rw [if_pos rfl] at H
            obtain rfl := Option.some.inj H
            have p133 : 0 ≤ (x35_2 : Int) := oa
            have q133 : x35_2 < (l0_3.length : Int) := oa
            obtain ⟨ad133, e133, hx133_0⟩ := Kd.at_int HR0_3.out x35_2 p133 q133
            cases e133
            replace hx133_0 := hc HB hx133_0
            replace p133 := eq_true p133
            replace q133 := eq_true q133
            go_wp2_with (first | ((with_reducible refine gcallee_ 76 rfl ?_); refine gl (some 41) Try.func76 #[.int .i64 (rd l0_3 x35_2), .int .i64 1, .int .i64 8] ?_; (with_reducible refine (spec_l01In.calls (rd l0_3 x35_2) 1 8 true _ A20.out).mono ?_); rintro e w' ⟨rfl, ⟨nd, rfl⟩⟩; refine ⟨_, rfl, ?_⟩; have ⟨z26_0, z26_1, z26_2, z26_3, z26_4, v26_0, v26_1, v26_2, v26_3, v26_4⟩ := rz5 BK128; obtain ⟨i027, hi027, _, hsz27, _⟩ := info_parts info3; obtain ⟨hcut27, hA27, hC27⟩ := print_take_of (P := Try.prog) (Value.int .i64) 0 23 3 .i64 Try.underlying23 hi027 hsz27 (some ad133) c0_3 l0_3 x35_2 (oa) (oa) HC0_3.out; have HR135 := dk (Kd.C_of_reads (h1 := fun _ => rfl) (hA27 _ (Kd.reads_of_C HR0_3.out))); have HC135 := dk hC27; clear hA27 hC27 hi027 hsz27) | (go_at_call 87; refine calls_of_args (args' := #[.slice (some ad133) (l0_3.take (x35_2 : Int).toNat).length c0_3, .int .i64 (rd l0_3 x35_2)]) (by first | (rw [show (l0_3.take (x35_2 : Int).toNat).length = x35_2.toNat from (by rw [List.length_take]; have h_ : (x35_2 : Int) ≤ (l0_3.length : Int) := oa; omega)] <;> rfl) | rfl) ?_; (with_reducible refine (spec_l02Has.calls k2 _ _ (l0_3.take (x35_2 : Int).toNat) (rd l0_3 x35_2) true _ ?side1 ?side2 A24.out).mono ?_); (case side1 => repeat (first | exact (Kd.C_below HR135.out (bb HB)) | (with_reducible refine Kd.C_alloc ?_ _) | (with_reducible refine Kd.C_drewN ?_ _) | (with_reducible refine Kd.C_drew ?_))); (case side2 => exact HC135.out); rintro e w' ⟨rfl, ⟨nd, rfl⟩⟩))
            go_ret
            exact ⟨ee, bb HB⟩
           ·replace c25 := Bool.eq_false_iff.mpr c25
            subst c25
            rw [if_neg (show ¬ (false = true) by decide)] at H
            have H' := dk H
            clear H
            have p133 : 0 ≤ (x35_2 : Int) := oa
            have q133 : x35_2 < (l0_3.length : Int) := oa
            obtain ⟨ad133, e133, hx133_0⟩ := Kd.at_int HR0_3.out x35_2 p133 q133
            cases e133
            replace hx133_0 := hc HB hx133_0
            replace p133 := eq_true p133
            replace q133 := eq_true q133
            go_wp2_with (first | ((with_reducible refine gcallee_ 76 rfl ?_); refine gl (some 41) Try.func76 #[.int .i64 (rd l0_3 x35_2), .int .i64 1, .int .i64 8] ?_; (with_reducible refine (spec_l01In.calls (rd l0_3 x35_2) 1 8 true _ A20.out).mono ?_); rintro e w' ⟨rfl, ⟨nd, rfl⟩⟩; refine ⟨_, rfl, ?_⟩; have ⟨z28_0, z28_1, z28_2, z28_3, z28_4, v28_0, v28_1, v28_2, v28_3, v28_4⟩ := rz5 BK128; obtain ⟨i029, hi029, _, hsz29, _⟩ := info_parts info3; obtain ⟨hcut29, hA29, hC29⟩ := print_take_of (P := Try.prog) (Value.int .i64) 0 23 3 .i64 Try.underlying23 hi029 hsz29 (some ad133) c0_3 l0_3 x35_2 (oa) (oa) HC0_3.out; have HR135 := dk (Kd.C_of_reads (h1 := fun _ => rfl) (hA29 _ (Kd.reads_of_C HR0_3.out))); have HC135 := dk hC29; clear hA29 hC29 hi029 hsz29) | (go_at_call 87; refine calls_of_args (args' := #[.slice (some ad133) (l0_3.take (x35_2 : Int).toNat).length c0_3, .int .i64 (rd l0_3 x35_2)]) (by first | (rw [show (l0_3.take (x35_2 : Int).toNat).length = x35_2.toNat from (by rw [List.length_take]; have h_ : (x35_2 : Int) ≤ (l0_3.length : Int) := oa; omega)] <;> rfl) | rfl) ?_; (with_reducible refine (spec_l02Has.calls k2 _ _ (l0_3.take (x35_2 : Int).toNat) (rd l0_3 x35_2) false _ ?side1 ?side2 A24.out).mono ?_); (case side1 => repeat (first | exact (Kd.C_below HR135.out (bb HB)) | (with_reducible refine Kd.C_alloc ?_ _) | (with_reducible refine Kd.C_drewN ?_ _) | (with_reducible refine Kd.C_drew ?_))); (case side2 => exact HC135.out); rintro e w' ⟨rfl, ⟨nd, rfl⟩⟩))
            go_roundg k2
            case measure => have := HJ1.out; have := HK2.out; omega
            case rel => exact ⟨(wrap64 (x35_2 + 1)), e2_, H', ⟨by have := HJ1.out; have := HK2.out; omega⟩, ⟨bk BK128⟩, ⟨bb HB⟩⟩
          ·rw [if_neg c23] at H
           exact absurd H (by simp)
         ·replace c21 := Bool.eq_false_iff.mpr c21
          subst c21
          rw [if_neg (show ¬ (false = true) by decide)] at H
          obtain rfl := Option.some.inj H
          have p133 : 0 ≤ (x35_2 : Int) := oa
          have q133 : x35_2 < (l0_3.length : Int) := oa
          obtain ⟨ad133, e133, hx133_0⟩ := Kd.at_int HR0_3.out x35_2 p133 q133
          cases e133
          replace hx133_0 := hc HB hx133_0
          replace p133 := eq_true p133
          replace q133 := eq_true q133
          go_wp2_with (first | ((with_reducible refine gcallee_ 76 rfl ?_); refine gl (some 41) Try.func76 #[.int .i64 (rd l0_3 x35_2), .int .i64 1, .int .i64 8] ?_; (with_reducible refine (spec_l01In.calls (rd l0_3 x35_2) 1 8 false _ A20.out).mono ?_); rintro e w' ⟨rfl, ⟨nd, rfl⟩⟩; refine ⟨_, rfl, ?_⟩))
          go_ret
          exact ⟨ee, bb HB⟩
        ·rw [if_neg c19] at H
         exact absurd H (by simp)
       ·rw [if_neg c18] at H
        exact absurd H (by simp)
      ·rw [if_neg c17] at H
       have c17b0 := decide_eq_false c17
       clear c17
       obtain rfl := Option.some.inj H
       go_wp2
       go_ret
       exact ⟨ee, bb HB⟩
end Go.Proofs.Ythfefanapneocaa.Q
end
namespace Go.Proofs.Ythfefanapneocaa.Q
open Go.RowKit Go.Proofs.YthfefanapneocaaW.PrintWords Go.Proofs.YthfefanapneocaaW.PrintLast Go.Proofs.YthfefanapneocaaW.PrintMore
attribute [local go_sem] max2_int min2_int max_two min_two max_three min_three max_four min_four
set_option linter.unusedVariables false
set_option linter.unusedSimpArgs false
set_option maxRecDepth 100000
set_option maxHeartbeats 8000000
def spec_GameOk.j0 : Nat → Bool → Int → Int → Int → Int → Int → Option (Bool)
 | 0, _, _, _, _, _, _ => none
 | k + 1, x36, x138000, x138001, x138002, x138003, x138004 => if x36 = true then (some false) else (if x138004 = 1 then ((spec_l01In.f x138002 0 99).bind fun t142 => (if t142 = true then ((spec_l01In.f x138003 0 99).bind fun t143 => (some t143)) else (some false))) else (if x138002 = 0 then (some (x138003 == 0)) else (some false)))
def spec_GameOk.f (k : Nat) (a0 : Int) (a1_0 : Int) (a1_1 : Int) (a1_2 : Int) (a1_3 : Int) (a1_4 : Int) : Option (Bool) := (spec_l01In.f a0 2 8).bind fun t138 => (if t138 = true then ((spec_l01In.f a1_0 0 (wrap64 (a0 - 1))).bind fun t139 => (if t139 = true then ((spec_l01In.f a1_1 0 (wrap64 (a0 - 1))).bind fun t140 => (if t140 = true then (if a1_0 = a1_1 then (spec_GameOk.j0 k true a1_0 a1_1 a1_2 a1_3 a1_4) else ((spec_l01In.f a1_4 0 4).bind fun t141 => (spec_GameOk.j0 k (!t141) a1_0 a1_1 a1_2 a1_3 a1_4))) else (spec_GameOk.j0 k true a1_0 a1_1 a1_2 a1_3 a1_4))) else (spec_GameOk.j0 k true a1_0 a1_1 a1_2 a1_3 a1_4))) else (spec_GameOk.j0 k true a1_0 a1_1 a1_2 a1_3 a1_4))
theorem spec_GameOk.calls (k : Nat) (a0 : Int) (a1_0 : Int) (a1_1 : Int) (a1_2 : Int) (a1_3 : Int) (a1_4 : Int) (r : Bool) (w : World) (h : spec_GameOk.f k a0 a1_0 a1_1 a1_2 a1_3 a1_4 = some r) :
  Calls Try.prog 158 #[.int .i64 a0, .agg #[.int .i64 a1_0, .int .i64 a1_1, .int .i64 a1_2, .int .i64 a1_3, .int .i64 a1_4]] w fun e w' => e = .returned (.bool r) ∧ Below w.heap.size w w' := by
 have hu95 := Try.underlying95
 have HB := hb0 w
 have H : ((spec_l01In.f a0 2 8).bind fun t138 => (if t138 = true then ((spec_l01In.f a1_0 0 (wrap64 (a0 - 1))).bind fun t139 => (if t139 = true then ((spec_l01In.f a1_1 0 (wrap64 (a0 - 1))).bind fun t140 => (if t140 = true then (if a1_0 = a1_1 then (spec_GameOk.j0 k true a1_0 a1_1 a1_2 a1_3 a1_4) else ((spec_l01In.f a1_4 0 4).bind fun t141 => (spec_GameOk.j0 k (!t141) a1_0 a1_1 a1_2 a1_3 a1_4))) else (spec_GameOk.j0 k true a1_0 a1_1 a1_2 a1_3 a1_4))) else (spec_GameOk.j0 k true a1_0 a1_1 a1_2 a1_3 a1_4))) else (spec_GameOk.j0 k true a1_0 a1_1 a1_2 a1_3 a1_4))) = some r := h
 clear h
 have HC3 := dk H
 clear H
 go_enter Try.func158, Try.ntmps158
 go_upto_region 1 with (first | ((with_reducible refine gdst_ 3 rfl ?_); refine bx (N := 3) (cs := #[.int .i64 a1_0, .int .i64 a1_1, .int .i64 a1_2, .int .i64 a1_3, .int .i64 a1_4]) (t := 95) ?_; intro gb137 hg w4 hbox hb; have BK137 := dk (hbox); have GW137 := gs hg HB; have GE137 := gs hg HB; replace HB := hs_ HB hb; clear hb hbox hg))
 (try simp only [Act.put, List.setIfInBounds_toArray, List.set_cons_zero, List.set_cons_succ])
 go_cut [36] (fun v36 wc => ∃ (kq : Nat) (x36_2 : Bool), v36 = .bool x36_2 ∧ Aside0 (spec_GameOk.j0 kq x36_2 a1_0 a1_1 a1_2 a1_3 a1_4 = some r) ∧ Aside0 (kq ≤ k) ∧ Aside0 (wc.heap[gb137]? = some (.cells #[.int .i64 a1_0, .int .i64 a1_1, .int .i64 a1_2, .int .i64 a1_3, .int .i64 a1_4] 95 (0, 0))) ∧ Aside0 (Below w.heap.size w wc))
 case first =>
  have H := HC3.out
  clear HC3
  replace H := Option.bind_eq_some_iff.mp H
  obtain ⟨t138, A50, H⟩ := H
  try dsimp only at H
  have A5 := dk A50
  clear A50
  by_cases c6 : t138 = true
  ·subst c6
   rw [if_pos rfl] at H
   replace H := Option.bind_eq_some_iff.mp H
   obtain ⟨t139, A70, H⟩ := H
   try dsimp only at H
   have A7 := dk A70
   clear A70
   by_cases c8 : t139 = true
   ·subst c8
    rw [if_pos rfl] at H
    replace H := Option.bind_eq_some_iff.mp H
    obtain ⟨t140, A90, H⟩ := H
    try dsimp only at H
    have A9 := dk A90
    clear A90
    by_cases c10 : t140 = true
    ·subst c10
     rw [if_pos rfl] at H
     by_cases c11 : a1_0 = a1_1
     ·rw [if_pos c11] at H
      have c11b0 := beq_iff_eq.mpr c11
      have c11b1 := bne_eq_false_iff_eq.mpr c11
      clear c11
      (first | rw [c11b0] | rw [c11b1] | (simp only [i64_w, i32_w]; rw [c11b0]) | skip)
      have H' := dk H
      clear H
      go_wp2_with (first | ((with_reducible refine gcallee_ 76 rfl ?_); refine gl (some 6) Try.func76 #[.int .i64 a0, .int .i64 2, .int .i64 8] ?_; (with_reducible refine (spec_l01In.calls a0 2 8 true _ A5.out).mono ?_); rintro e w' ⟨rfl, ⟨nd, rfl⟩⟩; refine ⟨_, rfl, ?_⟩; have ⟨z12_0, z12_1, z12_2, z12_3, z12_4, v12_0, v12_1, v12_2, v12_3, v12_4⟩ := rz5 BK137) | (go_at_call 76; (with_reducible refine (spec_l01In.calls a1_0 0 (wrap64 (a0 - 1)) true _ A7.out).mono ?_); rintro e w' ⟨rfl, ⟨nd, rfl⟩⟩) | (go_at_call 76; (with_reducible refine (spec_l01In.calls a1_1 0 (wrap64 (a0 - 1)) true _ A9.out).mono ?_); rintro e w' ⟨rfl, ⟨nd, rfl⟩⟩))
      go_meet
      case rel => exact ⟨_, (true), e2_, H', ⟨by first | omega | exact Nat.le_refl _⟩, ⟨bk BK137⟩, ⟨bb HB⟩⟩
     ·rw [if_neg c11] at H
      have c11b0 := beq_eq_false_iff_ne.mpr c11
      have c11b1 := bne_iff_ne.mpr c11
      (first | rw [c11b0] | rw [c11b1] | (simp only [i64_w, i32_w]; rw [c11b0]) | skip)
      replace H := Option.bind_eq_some_iff.mp H
      obtain ⟨t141, A130, H⟩ := H
      try dsimp only at H
      have A13 := dk A130
      clear A130
      have H' := dk H
      clear H
      go_wp2_with (first | ((with_reducible refine gcallee_ 76 rfl ?_); refine gl (some 6) Try.func76 #[.int .i64 a0, .int .i64 2, .int .i64 8] ?_; (with_reducible refine (spec_l01In.calls a0 2 8 true _ A5.out).mono ?_); rintro e w' ⟨rfl, ⟨nd, rfl⟩⟩; refine ⟨_, rfl, ?_⟩; have ⟨z14_0, z14_1, z14_2, z14_3, z14_4, v14_0, v14_1, v14_2, v14_3, v14_4⟩ := rz5 BK137) | (go_at_call 76; (with_reducible refine (spec_l01In.calls a1_0 0 (wrap64 (a0 - 1)) true _ A7.out).mono ?_); rintro e w' ⟨rfl, ⟨nd, rfl⟩⟩) | (go_at_call 76; (with_reducible refine (spec_l01In.calls a1_1 0 (wrap64 (a0 - 1)) true _ A9.out).mono ?_); rintro e w' ⟨rfl, ⟨nd, rfl⟩⟩) | (go_at_call 76; (with_reducible refine (spec_l01In.calls a1_4 0 4 t141 _ A13.out).mono ?_); rintro e w' ⟨rfl, ⟨nd, rfl⟩⟩))
      go_meet
      case rel => exact ⟨_, (!t141), e2_, H', ⟨by first | omega | exact Nat.le_refl _⟩, ⟨bk BK137⟩, ⟨bb HB⟩⟩
    ·replace c10 := Bool.eq_false_iff.mpr c10
     subst c10
     rw [if_neg (show ¬ (false = true) by decide)] at H
     have H' := dk H
     clear H
     go_wp2_with (first | ((with_reducible refine gcallee_ 76 rfl ?_); refine gl (some 6) Try.func76 #[.int .i64 a0, .int .i64 2, .int .i64 8] ?_; (with_reducible refine (spec_l01In.calls a0 2 8 true _ A5.out).mono ?_); rintro e w' ⟨rfl, ⟨nd, rfl⟩⟩; refine ⟨_, rfl, ?_⟩; have ⟨z15_0, z15_1, z15_2, z15_3, z15_4, v15_0, v15_1, v15_2, v15_3, v15_4⟩ := rz5 BK137) | (go_at_call 76; (with_reducible refine (spec_l01In.calls a1_0 0 (wrap64 (a0 - 1)) true _ A7.out).mono ?_); rintro e w' ⟨rfl, ⟨nd, rfl⟩⟩) | (go_at_call 76; (with_reducible refine (spec_l01In.calls a1_1 0 (wrap64 (a0 - 1)) false _ A9.out).mono ?_); rintro e w' ⟨rfl, ⟨nd, rfl⟩⟩))
     go_meet
     case rel => exact ⟨_, (true), e2_, H', ⟨by first | omega | exact Nat.le_refl _⟩, ⟨bk BK137⟩, ⟨bb HB⟩⟩
   ·replace c8 := Bool.eq_false_iff.mpr c8
    subst c8
    rw [if_neg (show ¬ (false = true) by decide)] at H
    have H' := dk H
    clear H
    go_wp2_with (first | ((with_reducible refine gcallee_ 76 rfl ?_); refine gl (some 6) Try.func76 #[.int .i64 a0, .int .i64 2, .int .i64 8] ?_; (with_reducible refine (spec_l01In.calls a0 2 8 true _ A5.out).mono ?_); rintro e w' ⟨rfl, ⟨nd, rfl⟩⟩; refine ⟨_, rfl, ?_⟩; have ⟨z16_0, z16_1, z16_2, z16_3, z16_4, v16_0, v16_1, v16_2, v16_3, v16_4⟩ := rz5 BK137) | (go_at_call 76; (with_reducible refine (spec_l01In.calls a1_0 0 (wrap64 (a0 - 1)) false _ A7.out).mono ?_); rintro e w' ⟨rfl, ⟨nd, rfl⟩⟩))
    go_meet
    case rel => exact ⟨_, (true), e2_, H', ⟨by first | omega | exact Nat.le_refl _⟩, ⟨bk BK137⟩, ⟨bb HB⟩⟩
  ·replace c6 := Bool.eq_false_iff.mpr c6
   subst c6
   rw [if_neg (show ¬ (false = true) by decide)] at H
   have H' := dk H
   clear H
   go_wp2_with (first | ((with_reducible refine gcallee_ 76 rfl ?_); refine gl (some 6) Try.func76 #[.int .i64 a0, .int .i64 2, .int .i64 8] ?_; (with_reducible refine (spec_l01In.calls a0 2 8 false _ A5.out).mono ?_); rintro e w' ⟨rfl, ⟨nd, rfl⟩⟩; refine ⟨_, rfl, ?_⟩))
   go_meet
   case rel => exact ⟨_, (true), e2_, H', ⟨by first | omega | exact Nat.le_refl _⟩, ⟨bk BK137⟩, ⟨bb HB⟩⟩
 case rest =>
  clear HC3
  obtain ⟨kq, x36_2, rfl, HA, HJ2, BK137, HB⟩ := hcut
  cases kq with
  | zero => exact absurd HA.out (by simp [spec_GameOk.j0])
  | succ kj2 =>
   have H := HA.out
   clear HA
   simp only [spec_GameOk.j0] at H
   by_cases c17 : x36_2 = true
   ·subst c17
    rw [if_pos rfl] at H
    obtain rfl := Option.some.inj H
    go_wp2
    go_ret
    exact ⟨ee, bb HB⟩
   ·replace c17 := Bool.eq_false_iff.mpr c17
    subst c17
    rw [if_neg (show ¬ (false = true) by decide)] at H
    by_cases c18 : a1_4 = 1
    ·rw [if_pos c18] at H
     have c18b0 := beq_iff_eq.mpr c18
     have c18b1 := bne_eq_false_iff_eq.mpr c18
     clear c18
     replace H := Option.bind_eq_some_iff.mp H
     obtain ⟨t142, A190, H⟩ := H
     try dsimp only at H
     have A19 := dk A190
     clear A190
     by_cases c20 : t142 = true
     ·subst c20
      rw [if_pos rfl] at H
      replace H := Option.bind_eq_some_iff.mp H
      obtain ⟨t143, A210, H⟩ := H
      try dsimp only at H
      have A21 := dk A210
      clear A210
      obtain rfl := Option.some.inj H
      have ⟨z22_0, z22_1, z22_2, z22_3, z22_4, v22_0, v22_1, v22_2, v22_3, v22_4⟩ := rz5 BK137
      go_wp2_with (first | ((with_reducible refine gcallee_ 76 rfl ?_); refine gl (some 50) Try.func76 #[.int .i64 a1_2, .int .i64 0, .int .i64 99] ?_; (with_reducible refine (spec_l01In.calls a1_2 0 99 true _ A19.out).mono ?_); rintro e w' ⟨rfl, ⟨nd, rfl⟩⟩; refine ⟨_, rfl, ?_⟩) | (go_at_call 76; (with_reducible refine (spec_l01In.calls a1_3 0 99 t143 _ A21.out).mono ?_); rintro e w' ⟨rfl, ⟨nd, rfl⟩⟩))
      go_ret
      exact ⟨ee, bb HB⟩
     ·replace c20 := Bool.eq_false_iff.mpr c20
      subst c20
      rw [if_neg (show ¬ (false = true) by decide)] at H
      obtain rfl := Option.some.inj H
      have ⟨z23_0, z23_1, z23_2, z23_3, z23_4, v23_0, v23_1, v23_2, v23_3, v23_4⟩ := rz5 BK137
      go_wp2_with (first | ((with_reducible refine gcallee_ 76 rfl ?_); refine gl (some 50) Try.func76 #[.int .i64 a1_2, .int .i64 0, .int .i64 99] ?_; (with_reducible refine (spec_l01In.calls a1_2 0 99 false _ A19.out).mono ?_); rintro e w' ⟨rfl, ⟨nd, rfl⟩⟩; refine ⟨_, rfl, ?_⟩))
      go_ret
      exact ⟨ee, bb HB⟩
    ·rw [if_neg c18] at H
     have c18b0 := beq_eq_false_iff_ne.mpr c18
     have c18b1 := bne_iff_ne.mpr c18
     by_cases c24 : a1_2 = 0
     ·rw [if_pos c24] at H
      have c24b0 := beq_iff_eq.mpr c24
      have c24b1 := bne_eq_false_iff_eq.mpr c24
      clear c24
      obtain rfl := Option.some.inj H
      have ⟨z25_0, z25_1, z25_2, z25_3, z25_4, v25_0, v25_1, v25_2, v25_3, v25_4⟩ := rz5 BK137
      go_wp2
      go_ret
      exact ⟨ee, bb HB⟩
     ·rw [if_neg c24] at H
      have c24b0 := beq_eq_false_iff_ne.mpr c24
      have c24b1 := bne_iff_ne.mpr c24
      obtain rfl := Option.some.inj H
      have ⟨z26_0, z26_1, z26_2, z26_3, z26_4, v26_0, v26_1, v26_2, v26_3, v26_4⟩ := rz5 BK137
      go_wp2
      go_ret
      exact ⟨ee, bb HB⟩
def spec_GameOf.l0 : Nat → Int → Int → List (S95) → Int → Int → Option (Int)
 | 0, _, _, _, _, _ => none
 | k + 1, x1, x2, x9, x10, x11 => if x11 < x10 then (if 0 ≤ x11 then (if x11 < (x9.length : Int) then (if ((rd_T95 x9 x11).f0) = x1 then (if ((rd_T95 x9 x11).f1) = x2 then (some x11) else (spec_GameOf.l0 k x1 x2 x9 x10 (wrap64 (x11 + 1)))) else (spec_GameOf.l0 k x1 x2 x9 x10 (wrap64 (x11 + 1)))) else (none)) else (none)) else (some (-1))
def spec_GameOf.f (k : Nat) (l0 : List (S95)) (a1 : Int) (a2 : Int) : Option (Int) := spec_GameOf.l0 k a1 a2 l0 (l0.length : Int) 0
theorem spec_GameOf.calls (k : Nat) (A0 : Option Addr) (c0 : Nat) (l0 : List (S95)) (a1 : Int) (a2 : Int) (r : Int) (w : World) (hr0 : Kd.C k95 w A0 l0.length l0) (hc0 : l0.length ≤ c0) (h : spec_GameOf.f k l0 a1 a2 = some r) :
  Calls Try.prog 159 #[.slice A0 l0.length c0, .int .i64 a1, .int .i64 a2] w fun e w' => e = .returned (.int .i64 r) ∧ Below w.heap.size w w' := by
 have hu95 := Try.underlying95
 have HR0 := dk hr0
 have HC0 := dk hc0
 clear hr0 hc0
 have HB := hb0 w
 have H : (spec_GameOf.l0 k a1 a2 l0 (l0.length : Int) 0) = some r := h
 clear h
 have H' := dk H
 clear H
 go_enter Try.func159, Try.ntmps159
 go_wp2
 go_loopg [11] k (fun kq v11 w' => ∃ (x11_1 : Int), v11 = .int .i64 x11_1 ∧ Aside0 (spec_GameOf.l0 kq a1 a2 l0 (l0.length : Int) x11_1 = some r) ∧ Aside0 (kq ≤ k) ∧ Aside0 (Below w.heap.size w w'))
 case atStart => exact ⟨(0), e2_, H', ⟨Nat.le_refl _⟩, ⟨bb HB⟩⟩
 case round =>
  clear H'
  obtain ⟨x11_1, rfl, HA, HK1, HB⟩ := hrel
  cases gk with
  | zero => exact absurd HA.out (by simp [spec_GameOf.l0])
  | succ k1 =>
   have H := HA.out
   clear HA
   simp only [spec_GameOf.l0] at H
   by_cases c4 : x11_1 < (l0.length : Int)
   ·rw [if_pos c4] at H
    have c4b0 := decide_eq_true c4
    clear c4
    by_cases c5 : 0 ≤ x11_1
    ·rw [if_pos c5] at H
     have c5b0 := decide_eq_true c5
     clear c5
     by_cases c6 : x11_1 < (l0.length : Int)
     ·rw [if_pos c6] at H
      have c6b0 := decide_eq_true c6
      clear c6
      by_cases c7 : ((rd_T95 l0 x11_1).f0) = a1
      ·rw [if_pos c7] at H
       have c7b0 := beq_iff_eq.mpr c7
       have c7b1 := bne_eq_false_iff_eq.mpr c7
       clear c7
       by_cases c8 : ((rd_T95 l0 x11_1).f1) = a2
       ·rw [if_pos c8] at H
        have c8b0 := beq_iff_eq.mpr c8
        have c8b1 := bne_eq_false_iff_eq.mpr c8
        clear c8
        obtain rfl := Option.some.inj H
        have p144 : 0 ≤ (x11_1 : Int) := oa
        have q144 : x11_1 < (l0.length : Int) := oa
        obtain ⟨ad144, e144, hx144_0, hx144_1, hx144_2, hx144_3, hx144_4⟩ := at_T95 HR0.out x11_1 p144 q144
        cases e144
        replace hx144_0 := hc HB hx144_0
        replace hx144_1 := hc HB hx144_1
        replace hx144_2 := hc HB hx144_2
        replace hx144_3 := hc HB hx144_3
        replace hx144_4 := hc HB hx144_4
        replace p144 := eq_true p144
        replace q144 := eq_true q144
        go_wp2_with (first | ((with_reducible refine gdst_ 8 rfl ?_); refine bx (N := 8) (cs := #[.int .i64 0, .int .i64 0, .int .i64 0, .int .i64 0, .int .i64 0]) (t := 95) ?_; intro gb145 hg w9 hbox hb; have BK145 := dk (hbox); have GW145 := gs hg HB; have GE145 := gs hg HB; replace HB := hs_ HB hb; clear hb hbox hg; have ⟨z10_0, z10_1, z10_2, z10_3, z10_4, v10_0, v10_1, v10_2, v10_3, v10_4⟩ := rz5 BK145))
        go_ret
        exact ⟨ee, bb HB⟩
       ·rw [if_neg c8] at H
        have c8b0 := beq_eq_false_iff_ne.mpr c8
        have c8b1 := bne_iff_ne.mpr c8
        have H' := dk H
        clear H
        have p144 : 0 ≤ (x11_1 : Int) := oa
        have q144 : x11_1 < (l0.length : Int) := oa
        obtain ⟨ad144, e144, hx144_0, hx144_1, hx144_2, hx144_3, hx144_4⟩ := at_T95 HR0.out x11_1 p144 q144
        cases e144
        replace hx144_0 := hc HB hx144_0
        replace hx144_1 := hc HB hx144_1
        replace hx144_2 := hc HB hx144_2
        replace hx144_3 := hc HB hx144_3
        replace hx144_4 := hc HB hx144_4
        replace p144 := eq_true p144
        replace q144 := eq_true q144
        go_wp2_with (first | ((with_reducible refine gdst_ 8 rfl ?_); refine bx (N := 8) (cs := #[.int .i64 0, .int .i64 0, .int .i64 0, .int .i64 0, .int .i64 0]) (t := 95) ?_; intro gb145 hg w11 hbox hb; have BK145 := dk (hbox); have GW145 := gs hg HB; have GE145 := gs hg HB; replace HB := hs_ HB hb; clear hb hbox hg; have ⟨z12_0, z12_1, z12_2, z12_3, z12_4, v12_0, v12_1, v12_2, v12_3, v12_4⟩ := rz5 BK145))
        go_roundg k1
        case measure => have := HK1.out; omega
        case rel => exact ⟨(wrap64 (x11_1 + 1)), e2_, H', ⟨by have := HK1.out; omega⟩, ⟨bb HB⟩⟩
      ·rw [if_neg c7] at H
       have c7b0 := beq_eq_false_iff_ne.mpr c7
       have c7b1 := bne_iff_ne.mpr c7
       have H' := dk H
       clear H
       have p144 : 0 ≤ (x11_1 : Int) := oa
       have q144 : x11_1 < (l0.length : Int) := oa
       obtain ⟨ad144, e144, hx144_0, hx144_1, hx144_2, hx144_3, hx144_4⟩ := at_T95 HR0.out x11_1 p144 q144
       cases e144
       replace hx144_0 := hc HB hx144_0
       replace hx144_1 := hc HB hx144_1
       replace hx144_2 := hc HB hx144_2
       replace hx144_3 := hc HB hx144_3
       replace hx144_4 := hc HB hx144_4
       replace p144 := eq_true p144
       replace q144 := eq_true q144
       go_wp2_with (first | ((with_reducible refine gdst_ 8 rfl ?_); refine bx (N := 8) (cs := #[.int .i64 0, .int .i64 0, .int .i64 0, .int .i64 0, .int .i64 0]) (t := 95) ?_; intro gb145 hg w13 hbox hb; have BK145 := dk (hbox); have GW145 := gs hg HB; have GE145 := gs hg HB; replace HB := hs_ HB hb; clear hb hbox hg; have ⟨z14_0, z14_1, z14_2, z14_3, z14_4, v14_0, v14_1, v14_2, v14_3, v14_4⟩ := rz5 BK145))
       go_roundg k1
       case measure => have := HK1.out; omega
       case rel => exact ⟨(wrap64 (x11_1 + 1)), e2_, H', ⟨by have := HK1.out; omega⟩, ⟨bb HB⟩⟩
     ·rw [if_neg c6] at H
      exact absurd H (by simp)
    ·rw [if_neg c5] at H
     exact absurd H (by simp)
   ·rw [if_neg c4] at H
    have c4b0 := decide_eq_false c4
    clear c4
    obtain rfl := Option.some.inj H
    go_wp2
    go_ret
    exact ⟨ee, bb HB⟩
def spec_SeasonOk.l0 : Nat → Int → List (S95) → List (S95) → Int → Int → Option (Bool)
 | 0, _, _, _, _, _ => none
 | k + 1, x0, x1, x10, x11, x12 => if x12 < x11 then (if 0 ≤ x12 then (if x12 < (x10.length : Int) then ((spec_GameOk.f k x0 ((rd_T95 x10 x12).f0) ((rd_T95 x10 x12).f1) ((rd_T95 x10 x12).f2) ((rd_T95 x10 x12).f3) ((rd_T95 x10 x12).f4)).bind fun t148 => (if t148 = true then ((spec_GameOf.f k x1 ((rd_T95 x10 x12).f0) ((rd_T95 x10 x12).f1)).bind fun t149 => (if t149 = x12 then (spec_SeasonOk.l0 k x0 x1 x10 x11 (wrap64 (x12 + 1))) else (some false))) else (some false))) else (none)) else (none)) else (some true)
def spec_SeasonOk.f (k : Nat) (a0 : Int) (l1 : List (S95)) : Option (Bool) := if (l1.length : Int) > 60 then (some false) else (spec_SeasonOk.l0 k a0 l1 l1 (l1.length : Int) 0)
theorem spec_SeasonOk.calls (k : Nat) (a0 : Int) (A1 : Option Addr) (c1 : Nat) (l1 : List (S95)) (r : Bool) (w : World) (hr1 : Kd.C k95 w A1 l1.length l1) (hc1 : l1.length ≤ c1) (h : spec_SeasonOk.f k a0 l1 = some r) :
  Calls Try.prog 120 #[.int .i64 a0, .slice A1 l1.length c1] w fun e w' => e = .returned (.bool r) ∧ Below w.heap.size w w' := by
 have hu95 := Try.underlying95
 have HR1 := dk hr1
 have HC1 := dk hc1
 clear hr1 hc1
 have HB := hb0 w
 have H : (if (l1.length : Int) > 60 then (some false) else (spec_SeasonOk.l0 k a0 l1 l1 (l1.length : Int) 0)) = some r := h
 clear h
 by_cases c3 : (l1.length : Int) > 60
 ·rw [if_pos c3] at H
  have c3b0 := decide_eq_true c3
  have c3b1 : decide (60 < l1.length) = true := decide_eq_true (by omega)
  clear c3
  obtain rfl := Option.some.inj H
  go_enter Try.func120, Try.ntmps120
  go_wp2
  go_ret
  exact ⟨ee, bb HB⟩
 ·rw [if_neg c3] at H
  have c3b0 := decide_eq_false c3
  have c3b1 : decide (60 < l1.length) = false := decide_eq_false (by omega)
  clear c3
  have H' := dk H
  clear H
  go_enter Try.func120, Try.ntmps120
  go_wp2
  go_loopg [12] k (fun kq v12 w' => ∃ (x12_1 : Int), v12 = .int .i64 x12_1 ∧ Aside0 (spec_SeasonOk.l0 kq a0 l1 l1 (l1.length : Int) x12_1 = some r) ∧ Aside0 (kq ≤ k) ∧ Aside0 (Below w.heap.size w w'))
  case atStart => exact ⟨(0), e2_, H', ⟨Nat.le_refl _⟩, ⟨bb HB⟩⟩
  case round =>
   clear H'
   obtain ⟨x12_1, rfl, HA, HK1, HB⟩ := hrel
   cases gk with
   | zero => exact absurd HA.out (by simp [spec_SeasonOk.l0])
   | succ k1 =>
    have H := HA.out
    clear HA
    simp only [spec_SeasonOk.l0] at H
    by_cases c4 : x12_1 < (l1.length : Int)
    ·rw [if_pos c4] at H
     have c4b0 := decide_eq_true c4
     clear c4
     by_cases c5 : 0 ≤ x12_1
     ·rw [if_pos c5] at H
      have c5b0 := decide_eq_true c5
      clear c5
      by_cases c6 : x12_1 < (l1.length : Int)
      ·rw [if_pos c6] at H
       have c6b0 := decide_eq_true c6
       clear c6
       replace H := Option.bind_eq_some_iff.mp H
       obtain ⟨t148, A70, H⟩ := H
       try dsimp only at H
       have A7 := dk A70
       clear A70
       by_cases c8 : t148 = true
       ·subst c8
        rw [if_pos rfl] at H
        replace H := Option.bind_eq_some_iff.mp H
        obtain ⟨t149, A90, H⟩ := H
        try dsimp only at H
        have A9 := dk A90
        clear A90
        by_cases c10 : t149 = x12_1
        ·rw [if_pos c10] at H
         have c10b0 := beq_iff_eq.mpr c10
         have c10b1 := bne_eq_false_iff_eq.mpr c10
         clear c10
         have H' := dk H
         clear H
         have p146 : 0 ≤ (x12_1 : Int) := oa
         have q146 : x12_1 < (l1.length : Int) := oa
         obtain ⟨ad146, e146, hx146_0, hx146_1, hx146_2, hx146_3, hx146_4⟩ := at_T95 HR1.out x12_1 p146 q146
         cases e146
         replace hx146_0 := hc HB hx146_0
         replace hx146_1 := hc HB hx146_1
         replace hx146_2 := hc HB hx146_2
         replace hx146_3 := hc HB hx146_3
         replace hx146_4 := hc HB hx146_4
         replace p146 := eq_true p146
         replace q146 := eq_true q146
         go_wp2_with (first | ((with_reducible refine gdst_ 6 rfl ?_); refine bx (N := 6) (cs := #[.int .i64 0, .int .i64 0, .int .i64 0, .int .i64 0, .int .i64 0]) (t := 95) ?_; intro gb147 hg w11 hbox hb; have BK147 := dk (hbox); have GW147 := gs hg HB; have GE147 := gs hg HB; replace HB := hs_ HB hb; clear hb hbox hg; have ⟨z12_0, z12_1, z12_2, z12_3, z12_4, v12_0, v12_1, v12_2, v12_3, v12_4⟩ := rz5 BK147) | ((with_reducible refine gcallee_ 158 rfl ?_); refine gl (some 19) Try.func158 #[.int .i64 a0, .agg #[.int .i64 ((rd_T95 l1 x12_1).f0), .int .i64 ((rd_T95 l1 x12_1).f1), .int .i64 ((rd_T95 l1 x12_1).f2), .int .i64 ((rd_T95 l1 x12_1).f3), .int .i64 ((rd_T95 l1 x12_1).f4)]] ?_; (with_reducible refine (spec_GameOk.calls k1 a0 ((rd_T95 l1 x12_1).f0) ((rd_T95 l1 x12_1).f1) ((rd_T95 l1 x12_1).f2) ((rd_T95 l1 x12_1).f3) ((rd_T95 l1 x12_1).f4) true _ A7.out).mono ?_); rintro e w13 ⟨rfl, hb⟩; refine ⟨_, rfl, ?_⟩; replace BK147 := dk (blk_below (g := gb147) (o := .cells #[.int .i64 ((rd_T95 l1 x12_1).f0), .int .i64 ((rd_T95 l1 x12_1).f1), .int .i64 ((rd_T95 l1 x12_1).f2), .int .i64 ((rd_T95 l1 x12_1).f3), .int .i64 ((rd_T95 l1 x12_1).f4)] 95 (0, 0)) (bp BK147) hb); replace HB := hs_ HB hb; have ⟨z14_0, z14_1, z14_2, z14_3, z14_4, v14_0, v14_1, v14_2, v14_3, v14_4⟩ := rz5 BK147) | (go_at_call 159; (with_reducible refine (spec_GameOf.calls k1 _ _ l1 ((rd_T95 l1 x12_1).f0) ((rd_T95 l1 x12_1).f1) t149 _ ?side1 ?side2 A9.out).mono ?_); (case side1 => exact cc HR1 HB); (case side2 => exact HC1.out); rintro e w15 ⟨rfl, hb⟩; replace BK147 := kb BK147 hb; replace HB := hs_ HB hb))
         go_roundg k1
         case measure => have := HK1.out; omega
         case rel => exact ⟨(wrap64 (x12_1 + 1)), e2_, H', ⟨by have := HK1.out; omega⟩, ⟨bb HB⟩⟩
        ·rw [if_neg c10] at H
         have c10b0 := beq_eq_false_iff_ne.mpr c10
         have c10b1 := bne_iff_ne.mpr c10
         obtain rfl := Option.some.inj H
         have p146 : 0 ≤ (x12_1 : Int) := oa
         have q146 : x12_1 < (l1.length : Int) := oa
         obtain ⟨ad146, e146, hx146_0, hx146_1, hx146_2, hx146_3, hx146_4⟩ := at_T95 HR1.out x12_1 p146 q146
         cases e146
         replace hx146_0 := hc HB hx146_0
         replace hx146_1 := hc HB hx146_1
         replace hx146_2 := hc HB hx146_2
         replace hx146_3 := hc HB hx146_3
         replace hx146_4 := hc HB hx146_4
         replace p146 := eq_true p146
         replace q146 := eq_true q146
         go_wp2_with (first | ((with_reducible refine gdst_ 6 rfl ?_); refine bx (N := 6) (cs := #[.int .i64 0, .int .i64 0, .int .i64 0, .int .i64 0, .int .i64 0]) (t := 95) ?_; intro gb147 hg w16 hbox hb; have BK147 := dk (hbox); have GW147 := gs hg HB; have GE147 := gs hg HB; replace HB := hs_ HB hb; clear hb hbox hg; have ⟨z17_0, z17_1, z17_2, z17_3, z17_4, v17_0, v17_1, v17_2, v17_3, v17_4⟩ := rz5 BK147) | ((with_reducible refine gcallee_ 158 rfl ?_); refine gl (some 19) Try.func158 #[.int .i64 a0, .agg #[.int .i64 ((rd_T95 l1 x12_1).f0), .int .i64 ((rd_T95 l1 x12_1).f1), .int .i64 ((rd_T95 l1 x12_1).f2), .int .i64 ((rd_T95 l1 x12_1).f3), .int .i64 ((rd_T95 l1 x12_1).f4)]] ?_; (with_reducible refine (spec_GameOk.calls k1 a0 ((rd_T95 l1 x12_1).f0) ((rd_T95 l1 x12_1).f1) ((rd_T95 l1 x12_1).f2) ((rd_T95 l1 x12_1).f3) ((rd_T95 l1 x12_1).f4) true _ A7.out).mono ?_); rintro e w18 ⟨rfl, hb⟩; refine ⟨_, rfl, ?_⟩; replace BK147 := dk (blk_below (g := gb147) (o := .cells #[.int .i64 ((rd_T95 l1 x12_1).f0), .int .i64 ((rd_T95 l1 x12_1).f1), .int .i64 ((rd_T95 l1 x12_1).f2), .int .i64 ((rd_T95 l1 x12_1).f3), .int .i64 ((rd_T95 l1 x12_1).f4)] 95 (0, 0)) (bp BK147) hb); replace HB := hs_ HB hb; have ⟨z19_0, z19_1, z19_2, z19_3, z19_4, v19_0, v19_1, v19_2, v19_3, v19_4⟩ := rz5 BK147) | (go_at_call 159; (with_reducible refine (spec_GameOf.calls k1 _ _ l1 ((rd_T95 l1 x12_1).f0) ((rd_T95 l1 x12_1).f1) t149 _ ?side1 ?side2 A9.out).mono ?_); (case side1 => exact cc HR1 HB); (case side2 => exact HC1.out); rintro e w20 ⟨rfl, hb⟩; replace BK147 := kb BK147 hb; replace HB := hs_ HB hb))
         go_ret
         exact ⟨ee, bb HB⟩
       ·replace c8 := Bool.eq_false_iff.mpr c8
        subst c8
        rw [if_neg (show ¬ (false = true) by decide)] at H
        obtain rfl := Option.some.inj H
        have p146 : 0 ≤ (x12_1 : Int) := oa
        have q146 : x12_1 < (l1.length : Int) := oa
        obtain ⟨ad146, e146, hx146_0, hx146_1, hx146_2, hx146_3, hx146_4⟩ := at_T95 HR1.out x12_1 p146 q146
        cases e146
        replace hx146_0 := hc HB hx146_0
        replace hx146_1 := hc HB hx146_1
        replace hx146_2 := hc HB hx146_2
        replace hx146_3 := hc HB hx146_3
        replace hx146_4 := hc HB hx146_4
        replace p146 := eq_true p146
        replace q146 := eq_true q146
        go_wp2_with (first | ((with_reducible refine gdst_ 6 rfl ?_); refine bx (N := 6) (cs := #[.int .i64 0, .int .i64 0, .int .i64 0, .int .i64 0, .int .i64 0]) (t := 95) ?_; intro gb147 hg w21 hbox hb; have BK147 := dk (hbox); have GW147 := gs hg HB; have GE147 := gs hg HB; replace HB := hs_ HB hb; clear hb hbox hg; have ⟨z22_0, z22_1, z22_2, z22_3, z22_4, v22_0, v22_1, v22_2, v22_3, v22_4⟩ := rz5 BK147) | ((with_reducible refine gcallee_ 158 rfl ?_); refine gl (some 19) Try.func158 #[.int .i64 a0, .agg #[.int .i64 ((rd_T95 l1 x12_1).f0), .int .i64 ((rd_T95 l1 x12_1).f1), .int .i64 ((rd_T95 l1 x12_1).f2), .int .i64 ((rd_T95 l1 x12_1).f3), .int .i64 ((rd_T95 l1 x12_1).f4)]] ?_; (with_reducible refine (spec_GameOk.calls k1 a0 ((rd_T95 l1 x12_1).f0) ((rd_T95 l1 x12_1).f1) ((rd_T95 l1 x12_1).f2) ((rd_T95 l1 x12_1).f3) ((rd_T95 l1 x12_1).f4) false _ A7.out).mono ?_); rintro e w23 ⟨rfl, hb⟩; refine ⟨_, rfl, ?_⟩; replace BK147 := dk (blk_below (g := gb147) (o := .cells #[.int .i64 ((rd_T95 l1 x12_1).f0), .int .i64 ((rd_T95 l1 x12_1).f1), .int .i64 ((rd_T95 l1 x12_1).f2), .int .i64 ((rd_T95 l1 x12_1).f3), .int .i64 ((rd_T95 l1 x12_1).f4)] 95 (0, 0)) (bp BK147) hb); replace HB := hs_ HB hb))
        go_ret
        exact ⟨ee, bb HB⟩
      ·rw [if_neg c6] at H
       exact absurd H (by simp)
     ·rw [if_neg c5] at H
      exact absurd H (by simp)
    ·rw [if_neg c4] at H
     have c4b0 := decide_eq_false c4
     clear c4
     obtain rfl := Option.some.inj H
     go_wp2
     go_ret
     exact ⟨ee, bb HB⟩
end Go.Proofs.Ythfefanapneocaa.Q
section
namespace Go.Proofs.Ythfefanapneocaa.Q
open Go.RowKit Go.Proofs.YthfefanapneocaaW.PrintWords Go.Proofs.YthfefanapneocaaW.PrintLast Go.Proofs.YthfefanapneocaaW.PrintMore
attribute [local go_sem] max2_int min2_int max_two min_two max_three min_three max_four min_four
set_option linter.unusedVariables false
set_option linter.unusedSimpArgs false
set_option maxRecDepth 100000
set_option maxHeartbeats 8000000
mutual
def spec_BookOk.j0 : Nat → Bool → List (S139) → Int → Int → Int → List Int → Bool → List (S95) → List Int → List Int → Option (Bool)
 | 0, _, _, _, _, _, _, _, _, _, _ => none
 | k + 1, x38, x151000, x151001, x151002, x151003, x151004, x151005, x151006, x151007, x151008 => if x38 = true then (some false) else (spec_BookOk.l0 k (x151000.length : Int) 0 x151000 x151001 x151002 x151003 x151004 x151005 x151006 x151007 x151008)
def spec_BookOk.l0 : Nat → Int → Int → List (S139) → Int → Int → Int → List Int → Bool → List (S95) → List Int → List Int → Option (Bool)
 | 0, _, _, _, _, _, _, _, _, _, _, _ => none
 | k + 1, x41, x42, x151000, x151001, x151002, x151003, x151004, x151005, x151006, x151007, x151008 => if x42 < x41 then (if 0 ≤ x42 then (if x42 < (x151007.length : Int) then ((spec_l01In.f (rd x151007 x42) 0 1000).bind fun t155 => (if t155 = true then (if x42 < (x151008.length : Int) then ((spec_l01In.f (rd x151008 x42) 0 1000).bind fun t157 => (if t157 = true then (spec_BookOk.l0 k x41 (wrap64 (x42 + 1)) x151000 x151001 x151002 x151003 x151004 x151005 x151006 x151007 x151008) else (some false))) else (none)) else (some false))) else (none)) else (none)) else (some true)
end
def spec_BookOk.f (k : Nat) (l0_0 : List (S139)) (a0_1 : Int) (a0_2 : Int) (a0_3 : Int) (l0_4 : List Int) (a0_5 : Bool) (l0_6 : List (S95)) (l0_7 : List Int) (l0_8 : List Int) : Option (Bool) := (spec_FieldOk.f k l0_0).bind fun t151 => (if t151 = true then ((spec_RulesOk.f k a0_1 a0_2 a0_3 l0_4 a0_5).bind fun t152 => (if t152 = true then ((spec_SeasonOk.f k (l0_0.length : Int) l0_6).bind fun t153 => (if t153 = true then (if (l0_7.length : Int) = (l0_0.length : Int) then (spec_BookOk.j0 k ((l0_8.length : Int) != (l0_0.length : Int)) l0_0 a0_1 a0_2 a0_3 l0_4 a0_5 l0_6 l0_7 l0_8) else (spec_BookOk.j0 k true l0_0 a0_1 a0_2 a0_3 l0_4 a0_5 l0_6 l0_7 l0_8)) else (spec_BookOk.j0 k true l0_0 a0_1 a0_2 a0_3 l0_4 a0_5 l0_6 l0_7 l0_8))) else (spec_BookOk.j0 k true l0_0 a0_1 a0_2 a0_3 l0_4 a0_5 l0_6 l0_7 l0_8))) else (spec_BookOk.j0 k true l0_0 a0_1 a0_2 a0_3 l0_4 a0_5 l0_6 l0_7 l0_8))
theorem spec_BookOk.calls (k : Nat) (A0_0 : Option Addr) (c0_0 : Nat) (l0_0 : List (S139)) (a0_1 : Int) (a0_2 : Int) (a0_3 : Int) (A0_4 : Option Addr) (c0_4 : Nat) (l0_4 : List Int) (a0_5 : Bool) (A0_6 : Option Addr) (c0_6 : Nat) (l0_6 : List (S95)) (A0_7 : Option Addr) (c0_7 : Nat) (l0_7 : List Int) (A0_8 : Option Addr) (c0_8 : Nat) (l0_8 : List Int) (r : Bool) (w : World) (hr0_0 : Kd.C k139 w A0_0 l0_0.length l0_0) (hc0_0 : l0_0.length ≤ c0_0) (hr0_4 : Kd.C (Kd.int .i64) w A0_4 l0_4.length l0_4) (hc0_4 : l0_4.length ≤ c0_4) (hr0_6 : Kd.C k95 w A0_6 l0_6.length l0_6) (hc0_6 : l0_6.length ≤ c0_6) (hr0_7 : Kd.C (Kd.int .i64) w A0_7 l0_7.length l0_7) (hc0_7 : l0_7.length ≤ c0_7) (hr0_8 : Kd.C (Kd.int .i64) w A0_8 l0_8.length l0_8) (hc0_8 : l0_8.length ≤ c0_8) (h : spec_BookOk.f k l0_0 a0_1 a0_2 a0_3 l0_4 a0_5 l0_6 l0_7 l0_8 = some r) :
  Calls Try.prog 55 #[.agg #[.slice A0_0 l0_0.length c0_0, .int .i64 a0_1, .int .i64 a0_2, .int .i64 a0_3, .slice A0_4 l0_4.length c0_4, .bool a0_5, .slice A0_6 l0_6.length c0_6, .slice A0_7 l0_7.length c0_7, .slice A0_8 l0_8.length c0_8]] w fun e w' => e = .returned (.bool r) ∧ Below w.heap.size w w' := by
 have hu36 := Try.underlying36
 have hu33 := Try.underlying33
 have HR0_0 := dk hr0_0
 have HC0_0 := dk hc0_0
 clear hr0_0 hc0_0
 have HR0_4 := dk hr0_4
 have HC0_4 := dk hc0_4
 clear hr0_4 hc0_4
 have HR0_6 := dk hr0_6
 have HC0_6 := dk hc0_6
 clear hr0_6 hc0_6
 have HR0_7 := dk hr0_7
 have HC0_7 := dk hc0_7
 clear hr0_7 hc0_7
 have HR0_8 := dk hr0_8
 have HC0_8 := dk hc0_8
 clear hr0_8 hc0_8
 have HB := hb0 w
 have H : ((spec_FieldOk.f k l0_0).bind fun t151 => (if t151 = true then ((spec_RulesOk.f k a0_1 a0_2 a0_3 l0_4 a0_5).bind fun t152 => (if t152 = true then ((spec_SeasonOk.f k (l0_0.length : Int) l0_6).bind fun t153 => (if t153 = true then (if (l0_7.length : Int) = (l0_0.length : Int) then (spec_BookOk.j0 k ((l0_8.length : Int) != (l0_0.length : Int)) l0_0 a0_1 a0_2 a0_3 l0_4 a0_5 l0_6 l0_7 l0_8) else (spec_BookOk.j0 k true l0_0 a0_1 a0_2 a0_3 l0_4 a0_5 l0_6 l0_7 l0_8)) else (spec_BookOk.j0 k true l0_0 a0_1 a0_2 a0_3 l0_4 a0_5 l0_6 l0_7 l0_8))) else (spec_BookOk.j0 k true l0_0 a0_1 a0_2 a0_3 l0_4 a0_5 l0_6 l0_7 l0_8))) else (spec_BookOk.j0 k true l0_0 a0_1 a0_2 a0_3 l0_4 a0_5 l0_6 l0_7 l0_8))) = some r := h
 clear h
 have HC2 := dk H
 clear H
 go_enter Try.func55, Try.ntmps55
 go_upto_region 2 with (first | ((with_reducible refine gdst_ 1 rfl ?_); (try (refine gate_guard (by rfl) ?_; dsimp only)); refine bx (N := 1) (cs := #[.slice A0_0 l0_0.length c0_0, .int .i64 a0_1, .int .i64 a0_2, .int .i64 a0_3, .slice A0_4 l0_4.length c0_4, .bool a0_5, .slice A0_6 l0_6.length c0_6, .slice A0_7 l0_7.length c0_7, .slice A0_8 l0_8.length c0_8]) (t := 36) ?_; intro gb150 hg w3 hbox hb; have BK150 := dk (hbox); have GW150 := gs hg HB; have GE150 := gs hg HB; replace HB := hs_ HB hb; clear hb hbox hg; have ⟨z4_0, z4_1, z4_2, z4_3, z4_4, z4_5, z4_6, z4_7, z4_8, v4_0, v4_1, v4_2, v4_3, v4_4, v4_5, v4_6, v4_7, v4_8⟩ := rz9 BK150))
 (try simp only [Act.put, List.setIfInBounds_toArray, List.set_cons_zero, List.set_cons_succ])
 go_cut [38] (fun v38 wc => ∃ (kq : Nat) (x38_1 : Bool), v38 = .bool x38_1 ∧ Aside0 (spec_BookOk.j0 kq x38_1 l0_0 a0_1 a0_2 a0_3 l0_4 a0_5 l0_6 l0_7 l0_8 = some r) ∧ Aside0 (kq ≤ k) ∧ Aside0 (wc.heap[gb150]? = some (.cells #[(.slice A0_0 l0_0.length c0_0), .int .i64 a0_1, .int .i64 a0_2, .int .i64 a0_3, (.slice A0_4 l0_4.length c0_4), .bool a0_5, (.slice A0_6 l0_6.length c0_6), (.slice A0_7 l0_7.length c0_7), (.slice A0_8 l0_8.length c0_8)] 36 (0, 0))) ∧ Aside0 (Below w.heap.size w wc))
 case first =>
  have H := HC2.out
  clear HC2
  replace H := Option.bind_eq_some_iff.mp H
  obtain ⟨t151, A50, H⟩ := H
  try dsimp only at H
  have A5 := dk A50
  clear A50
  by_cases c6 : t151 = true
  ·subst c6
   rw [if_pos rfl] at H
   replace H := Option.bind_eq_some_iff.mp H
   obtain ⟨t152, A70, H⟩ := H
   try dsimp only at H
   have A7 := dk A70
   clear A70
   by_cases c8 : t152 = true
   ·subst c8
    rw [if_pos rfl] at H
    replace H := Option.bind_eq_some_iff.mp H
    obtain ⟨t153, A90, H⟩ := H
    try dsimp only at H
    have A9 := dk A90
    clear A90
    by_cases c10 : t153 = true
    ·subst c10
     rw [if_pos rfl] at H
     by_cases c11 : (l0_7.length : Int) = (l0_0.length : Int)
     ·rw [if_pos c11] at H
      have c11b0 : ((l0_7.length : Int) == (l0_0.length : Int)) = true := beq_iff_eq.mpr c11
      have c11b1 : ((l0_7.length : Int) != (l0_0.length : Int)) = false := bne_eq_false_iff_eq.mpr c11
      have c11b2 : (l0_7.length == l0_0.length) = true := by first | simpa using c11 | (simp at c11 ⊢; omega)
      clear c11
      (first | rw [c11b0] | rw [c11b1] | (simp only [i64_w, i32_w]; rw [c11b0]) | skip)
      have H' := dk H
      clear H
      have ⟨z12_0, z12_1, z12_2, z12_3, z12_4, z12_5, z12_6, z12_7, z12_8, v12_0, v12_1, v12_2, v12_3, v12_4, v12_5, v12_6, v12_7, v12_8⟩ := rz9 BK150
      go_wp2_with (first | ((with_reducible refine gcallee_ 118 rfl ?_); refine gl (some 10) Try.func118 #[.slice A0_0 l0_0.length c0_0] ?_; (with_reducible refine (spec_FieldOk.calls k _ _ l0_0 true _ ?side1 ?side2 A5.out).mono ?_); (case side1 => exact cc HR0_0 HB); (case side2 => exact HC0_0.out); rintro e w13 ⟨rfl, hb⟩; refine ⟨_, rfl, ?_⟩; replace BK150 := kb BK150 hb; replace HB := hs_ HB hb; have ⟨z14_0, z14_1, z14_2, z14_3, z14_4, z14_5, z14_6, z14_7, z14_8, v14_0, v14_1, v14_2, v14_3, v14_4, v14_5, v14_6, v14_7, v14_8⟩ := rz9 BK150) | (go_at_call 119; (with_reducible refine (spec_RulesOk.calls k a0_1 a0_2 a0_3 _ _ l0_4 a0_5 true _ ?side1 ?side2 A7.out).mono ?_); (case side1 => exact cc HR0_4 HB); (case side2 => exact HC0_4.out); rintro e w15 ⟨rfl, hb⟩; replace BK150 := kb BK150 hb; replace HB := hs_ HB hb; have ⟨z16_0, z16_1, z16_2, z16_3, z16_4, z16_5, z16_6, z16_7, z16_8, v16_0, v16_1, v16_2, v16_3, v16_4, v16_5, v16_6, v16_7, v16_8⟩ := rz9 BK150) | (go_at_call 120; (with_reducible refine (spec_SeasonOk.calls k (l0_0.length : Int) _ _ l0_6 true _ ?side1 ?side2 A9.out).mono ?_); (case side1 => exact cc HR0_6 HB); (case side2 => exact HC0_6.out); rintro e w17 ⟨rfl, hb⟩; replace BK150 := kb BK150 hb; replace HB := hs_ HB hb; have ⟨z18_0, z18_1, z18_2, z18_3, z18_4, z18_5, z18_6, z18_7, z18_8, v18_0, v18_1, v18_2, v18_3, v18_4, v18_5, v18_6, v18_7, v18_8⟩ := rz9 BK150))
      go_meet
      case rel => exact ⟨_, (((l0_8.length : Int) != (l0_0.length : Int))), e2_, H', ⟨by first | omega | exact Nat.le_refl _⟩, ⟨bk BK150⟩, ⟨bb HB⟩⟩
     ·rw [if_neg c11] at H
      have c11b0 : ((l0_7.length : Int) == (l0_0.length : Int)) = false := beq_eq_false_iff_ne.mpr c11
      have c11b1 : ((l0_7.length : Int) != (l0_0.length : Int)) = true := bne_iff_ne.mpr c11
      have c11b2 : (l0_7.length == l0_0.length) = false := by first | simpa using c11 | (simp at c11 ⊢; omega)
      (first | rw [c11b0] | rw [c11b1] | (simp only [i64_w, i32_w]; rw [c11b0]) | skip)
      have H' := dk H
      clear H
      have ⟨z19_0, z19_1, z19_2, z19_3, z19_4, z19_5, z19_6, z19_7, z19_8, v19_0, v19_1, v19_2, v19_3, v19_4, v19_5, v19_6, v19_7, v19_8⟩ := rz9 BK150
      go_wp2_with (first | ((with_reducible refine gcallee_ 118 rfl ?_); refine gl (some 10) Try.func118 #[.slice A0_0 l0_0.length c0_0] ?_; (with_reducible refine (spec_FieldOk.calls k _ _ l0_0 true _ ?side1 ?side2 A5.out).mono ?_); (case side1 => exact cc HR0_0 HB); (case side2 => exact HC0_0.out); rintro e w20 ⟨rfl, hb⟩; refine ⟨_, rfl, ?_⟩; replace BK150 := kb BK150 hb; replace HB := hs_ HB hb; have ⟨z21_0, z21_1, z21_2, z21_3, z21_4, z21_5, z21_6, z21_7, z21_8, v21_0, v21_1, v21_2, v21_3, v21_4, v21_5, v21_6, v21_7, v21_8⟩ := rz9 BK150) | (go_at_call 119; (with_reducible refine (spec_RulesOk.calls k a0_1 a0_2 a0_3 _ _ l0_4 a0_5 true _ ?side1 ?side2 A7.out).mono ?_); (case side1 => exact cc HR0_4 HB); (case side2 => exact HC0_4.out); rintro e w22 ⟨rfl, hb⟩; replace BK150 := kb BK150 hb; replace HB := hs_ HB hb; have ⟨z23_0, z23_1, z23_2, z23_3, z23_4, z23_5, z23_6, z23_7, z23_8, v23_0, v23_1, v23_2, v23_3, v23_4, v23_5, v23_6, v23_7, v23_8⟩ := rz9 BK150) | (go_at_call 120; (with_reducible refine (spec_SeasonOk.calls k (l0_0.length : Int) _ _ l0_6 true _ ?side1 ?side2 A9.out).mono ?_); (case side1 => exact cc HR0_6 HB); (case side2 => exact HC0_6.out); rintro e w24 ⟨rfl, hb⟩; replace BK150 := kb BK150 hb; replace HB := hs_ HB hb; have ⟨z25_0, z25_1, z25_2, z25_3, z25_4, z25_5, z25_6, z25_7, z25_8, v25_0, v25_1, v25_2, v25_3, v25_4, v25_5, v25_6, v25_7, v25_8⟩ := rz9 BK150))
      go_meet
      case rel => exact ⟨_, (true), e2_, H', ⟨by first | omega | exact Nat.le_refl _⟩, ⟨bk BK150⟩, ⟨bb HB⟩⟩
    ·replace c10 := Bool.eq_false_iff.mpr c10
     subst c10
     rw [if_neg (show ¬ (false = true) by decide)] at H
     have H' := dk H
     clear H
     have ⟨z26_0, z26_1, z26_2, z26_3, z26_4, z26_5, z26_6, z26_7, z26_8, v26_0, v26_1, v26_2, v26_3, v26_4, v26_5, v26_6, v26_7, v26_8⟩ := rz9 BK150
     go_wp2_with (first | ((with_reducible refine gcallee_ 118 rfl ?_); refine gl (some 10) Try.func118 #[.slice A0_0 l0_0.length c0_0] ?_; (with_reducible refine (spec_FieldOk.calls k _ _ l0_0 true _ ?side1 ?side2 A5.out).mono ?_); (case side1 => exact cc HR0_0 HB); (case side2 => exact HC0_0.out); rintro e w27 ⟨rfl, hb⟩; refine ⟨_, rfl, ?_⟩; replace BK150 := kb BK150 hb; replace HB := hs_ HB hb; have ⟨z28_0, z28_1, z28_2, z28_3, z28_4, z28_5, z28_6, z28_7, z28_8, v28_0, v28_1, v28_2, v28_3, v28_4, v28_5, v28_6, v28_7, v28_8⟩ := rz9 BK150) | (go_at_call 119; (with_reducible refine (spec_RulesOk.calls k a0_1 a0_2 a0_3 _ _ l0_4 a0_5 true _ ?side1 ?side2 A7.out).mono ?_); (case side1 => exact cc HR0_4 HB); (case side2 => exact HC0_4.out); rintro e w29 ⟨rfl, hb⟩; replace BK150 := kb BK150 hb; replace HB := hs_ HB hb; have ⟨z30_0, z30_1, z30_2, z30_3, z30_4, z30_5, z30_6, z30_7, z30_8, v30_0, v30_1, v30_2, v30_3, v30_4, v30_5, v30_6, v30_7, v30_8⟩ := rz9 BK150) | (go_at_call 120; (with_reducible refine (spec_SeasonOk.calls k (l0_0.length : Int) _ _ l0_6 false _ ?side1 ?side2 A9.out).mono ?_); (case side1 => exact cc HR0_6 HB); (case side2 => exact HC0_6.out); rintro e w31 ⟨rfl, hb⟩; replace BK150 := kb BK150 hb; replace HB := hs_ HB hb))
     go_meet
     case rel => exact ⟨_, (true), e2_, H', ⟨by first | omega | exact Nat.le_refl _⟩, ⟨bk BK150⟩, ⟨bb HB⟩⟩
   ·replace c8 := Bool.eq_false_iff.mpr c8
    subst c8
    rw [if_neg (show ¬ (false = true) by decide)] at H
    have H' := dk H
    clear H
    have ⟨z32_0, z32_1, z32_2, z32_3, z32_4, z32_5, z32_6, z32_7, z32_8, v32_0, v32_1, v32_2, v32_3, v32_4, v32_5, v32_6, v32_7, v32_8⟩ := rz9 BK150
    go_wp2_with (first | ((with_reducible refine gcallee_ 118 rfl ?_); refine gl (some 10) Try.func118 #[.slice A0_0 l0_0.length c0_0] ?_; (with_reducible refine (spec_FieldOk.calls k _ _ l0_0 true _ ?side1 ?side2 A5.out).mono ?_); (case side1 => exact cc HR0_0 HB); (case side2 => exact HC0_0.out); rintro e w33 ⟨rfl, hb⟩; refine ⟨_, rfl, ?_⟩; replace BK150 := kb BK150 hb; replace HB := hs_ HB hb; have ⟨z34_0, z34_1, z34_2, z34_3, z34_4, z34_5, z34_6, z34_7, z34_8, v34_0, v34_1, v34_2, v34_3, v34_4, v34_5, v34_6, v34_7, v34_8⟩ := rz9 BK150) | (go_at_call 119; (with_reducible refine (spec_RulesOk.calls k a0_1 a0_2 a0_3 _ _ l0_4 a0_5 false _ ?side1 ?side2 A7.out).mono ?_); (case side1 => exact cc HR0_4 HB); (case side2 => exact HC0_4.out); rintro e w35 ⟨rfl, hb⟩; replace BK150 := kb BK150 hb; replace HB := hs_ HB hb))
    go_meet
    case rel => exact ⟨_, (true), e2_, H', ⟨by first | omega | exact Nat.le_refl _⟩, ⟨bk BK150⟩, ⟨bb HB⟩⟩
  ·replace c6 := Bool.eq_false_iff.mpr c6
   subst c6
   rw [if_neg (show ¬ (false = true) by decide)] at H
   have H' := dk H
   clear H
   have ⟨z36_0, z36_1, z36_2, z36_3, z36_4, z36_5, z36_6, z36_7, z36_8, v36_0, v36_1, v36_2, v36_3, v36_4, v36_5, v36_6, v36_7, v36_8⟩ := rz9 BK150
   go_wp2_with (first | ((with_reducible refine gcallee_ 118 rfl ?_); refine gl (some 10) Try.func118 #[.slice A0_0 l0_0.length c0_0] ?_; (with_reducible refine (spec_FieldOk.calls k _ _ l0_0 false _ ?side1 ?side2 A5.out).mono ?_); (case side1 => exact cc HR0_0 HB); (case side2 => exact HC0_0.out); rintro e w37 ⟨rfl, hb⟩; refine ⟨_, rfl, ?_⟩; replace BK150 := kb BK150 hb; replace HB := hs_ HB hb))
   go_meet
   case rel => exact ⟨_, (true), e2_, H', ⟨by first | omega | exact Nat.le_refl _⟩, ⟨bk BK150⟩, ⟨bb HB⟩⟩
 case rest =>
  clear HC2
  obtain ⟨kq, x38_1, rfl, HA, HJ1, BK150, HB⟩ := hcut
  cases kq with
  | zero => exact absurd HA.out (by simp [spec_BookOk.j0])
  | succ kj1 =>
   have H := HA.out
   clear HA
   simp only [spec_BookOk.j0] at H
   by_cases c38 : x38_1 = true
   ·subst c38
    rw [if_pos rfl] at H
    obtain rfl := Option.some.inj H
    go_wp2
    go_ret
    exact ⟨ee, bb HB⟩
   ·replace c38 := Bool.eq_false_iff.mpr c38
    subst c38
    rw [if_neg (show ¬ (false = true) by decide)] at H
    have H' := dk H
    clear H
    have ⟨z39_0, z39_1, z39_2, z39_3, z39_4, z39_5, z39_6, z39_7, z39_8, v39_0, v39_1, v39_2, v39_3, v39_4, v39_5, v39_6, v39_7, v39_8⟩ := rz9 BK150
    go_wp2
    go_loopg [42] kj1 (fun kq v42 w' => ∃ (x42_2 : Int), v42 = .int .i64 x42_2 ∧ Aside0 (spec_BookOk.l0 kq (l0_0.length : Int) x42_2 l0_0 a0_1 a0_2 a0_3 l0_4 a0_5 l0_6 l0_7 l0_8 = some r) ∧ Aside0 (kq ≤ kj1) ∧ Aside0 (w'.heap[gb150]? = some (.cells #[(.slice A0_0 l0_0.length c0_0), .int .i64 a0_1, .int .i64 a0_2, .int .i64 a0_3, (.slice A0_4 l0_4.length c0_4), .bool a0_5, (.slice A0_6 l0_6.length c0_6), (.slice A0_7 l0_7.length c0_7), (.slice A0_8 l0_8.length c0_8)] 36 (0, 0))) ∧ Aside0 (Below w.heap.size w w'))
    case atStart => exact ⟨(0), e2_, H', ⟨Nat.le_refl _⟩, ⟨bk BK150⟩, ⟨bb HB⟩⟩
    case round =>
     clear H'
     obtain ⟨x42_2, rfl, HA, HK2, BK150, HB⟩ := hrel
     cases gk with
     | zero => exact absurd HA.out (by simp [spec_BookOk.l0])
     | succ k2 =>
      have H := HA.out
      clear HA
      simp only [spec_BookOk.l0] at H
      by_cases c40 : x42_2 < (l0_0.length : Int)
      ·rw [if_pos c40] at H
       have c40b0 := decide_eq_true c40
       clear c40
       by_cases c41 : 0 ≤ x42_2
       ·rw [if_pos c41] at H
        have c41b0 := decide_eq_true c41
        clear c41
        by_cases c42 : x42_2 < (l0_7.length : Int)
        ·rw [if_pos c42] at H
         have c42b0 := decide_eq_true c42
         clear c42
         replace H := Option.bind_eq_some_iff.mp H
         obtain ⟨t155, A430, H⟩ := H
         try dsimp only at H
         have A43 := dk A430
         clear A430
         by_cases c44 : t155 = true
         ·subst c44
          rw [if_pos rfl] at H
          by_cases c45 : x42_2 < (l0_8.length : Int)
          ·rw [if_pos c45] at H
           have c45b0 := decide_eq_true c45
           clear c45
           replace H := Option.bind_eq_some_iff.mp H
           obtain ⟨t157, A460, H⟩ := H
           try dsimp only at H
           have A46 := dk A460
           clear A460
           by_cases c47 : t157 = true
           ·subst c47
            rw [if_pos rfl] at H
            have H' := dk H
            clear H
            have ⟨z48_0, z48_1, z48_2, z48_3, z48_4, z48_5, z48_6, z48_7, z48_8, v48_0, v48_1, v48_2, v48_3, v48_4, v48_5, v48_6, v48_7, v48_8⟩ := rz9 BK150
            have p154 : 0 ≤ (x42_2 : Int) := oa
            have q154 : x42_2 < (l0_7.length : Int) := oa
            obtain ⟨ad154, e154, hx154_0⟩ := Kd.at_int HR0_7.out x42_2 p154 q154
            cases e154
            replace hx154_0 := hc HB hx154_0
            replace p154 := eq_true p154
            replace q154 := eq_true q154
            go_wp2_with (first | ((with_reducible refine gcallee_ 76 rfl ?_); refine gl (some 50) Try.func76 #[.int .i64 (rd l0_7 x42_2), .int .i64 0, .int .i64 1000] ?_; (with_reducible refine (spec_l01In.calls (rd l0_7 x42_2) 0 1000 true _ A43.out).mono ?_); rintro e w' ⟨rfl, ⟨nd, rfl⟩⟩; refine ⟨_, rfl, ?_⟩; have p156 : 0 ≤ (x42_2 : Int) := oa; have q156 : x42_2 < (l0_8.length : Int) := oa; obtain ⟨ad156, e156, hx156_0⟩ := Kd.at_int HR0_8.out x42_2 p156 q156; cases e156; replace hx156_0 := hc HB hx156_0; replace p156 := eq_true p156; replace q156 := eq_true q156) | (go_at_call 76; (with_reducible refine (spec_l01In.calls (rd l0_8 x42_2) 0 1000 true _ A46.out).mono ?_); rintro e w' ⟨rfl, ⟨nd, rfl⟩⟩))
            go_roundg k2
            case measure => have := HJ1.out; have := HK2.out; omega
            case rel => exact ⟨(wrap64 (x42_2 + 1)), e2_, H', ⟨by have := HJ1.out; have := HK2.out; omega⟩, ⟨bk BK150⟩, ⟨bb HB⟩⟩
           ·replace c47 := Bool.eq_false_iff.mpr c47
            subst c47
            rw [if_neg (show ¬ (false = true) by decide)] at H
            obtain rfl := Option.some.inj H
            have ⟨z49_0, z49_1, z49_2, z49_3, z49_4, z49_5, z49_6, z49_7, z49_8, v49_0, v49_1, v49_2, v49_3, v49_4, v49_5, v49_6, v49_7, v49_8⟩ := rz9 BK150
            have p154 : 0 ≤ (x42_2 : Int) := oa
            have q154 : x42_2 < (l0_7.length : Int) := oa
            obtain ⟨ad154, e154, hx154_0⟩ := Kd.at_int HR0_7.out x42_2 p154 q154
            cases e154
            replace hx154_0 := hc HB hx154_0
            replace p154 := eq_true p154
            replace q154 := eq_true q154
            go_wp2_with (first | ((with_reducible refine gcallee_ 76 rfl ?_); refine gl (some 50) Try.func76 #[.int .i64 (rd l0_7 x42_2), .int .i64 0, .int .i64 1000] ?_; (with_reducible refine (spec_l01In.calls (rd l0_7 x42_2) 0 1000 true _ A43.out).mono ?_); rintro e w' ⟨rfl, ⟨nd, rfl⟩⟩; refine ⟨_, rfl, ?_⟩; have p156 : 0 ≤ (x42_2 : Int) := oa; have q156 : x42_2 < (l0_8.length : Int) := oa; obtain ⟨ad156, e156, hx156_0⟩ := Kd.at_int HR0_8.out x42_2 p156 q156; cases e156; replace hx156_0 := hc HB hx156_0; replace p156 := eq_true p156; replace q156 := eq_true q156) | (go_at_call 76; (with_reducible refine (spec_l01In.calls (rd l0_8 x42_2) 0 1000 false _ A46.out).mono ?_); rintro e w' ⟨rfl, ⟨nd, rfl⟩⟩))
            go_ret
            exact ⟨ee, bb HB⟩
          ·rw [if_neg c45] at H
           exact absurd H (by simp)
         ·replace c44 := Bool.eq_false_iff.mpr c44
          subst c44
          rw [if_neg (show ¬ (false = true) by decide)] at H
          obtain rfl := Option.some.inj H
          have ⟨z50_0, z50_1, z50_2, z50_3, z50_4, z50_5, z50_6, z50_7, z50_8, v50_0, v50_1, v50_2, v50_3, v50_4, v50_5, v50_6, v50_7, v50_8⟩ := rz9 BK150
          have p154 : 0 ≤ (x42_2 : Int) := oa
          have q154 : x42_2 < (l0_7.length : Int) := oa
          obtain ⟨ad154, e154, hx154_0⟩ := Kd.at_int HR0_7.out x42_2 p154 q154
          cases e154
          replace hx154_0 := hc HB hx154_0
          replace p154 := eq_true p154
          replace q154 := eq_true q154
          go_wp2_with (first | ((with_reducible refine gcallee_ 76 rfl ?_); refine gl (some 50) Try.func76 #[.int .i64 (rd l0_7 x42_2), .int .i64 0, .int .i64 1000] ?_; (with_reducible refine (spec_l01In.calls (rd l0_7 x42_2) 0 1000 false _ A43.out).mono ?_); rintro e w' ⟨rfl, ⟨nd, rfl⟩⟩; refine ⟨_, rfl, ?_⟩))
          go_ret
          exact ⟨ee, bb HB⟩
        ·rw [if_neg c42] at H
         exact absurd H (by simp)
       ·rw [if_neg c41] at H
        exact absurd H (by simp)
      ·rw [if_neg c40] at H
       have c40b0 := decide_eq_false c40
       clear c40
       obtain rfl := Option.some.inj H
       go_wp2
       go_ret
       exact ⟨ee, bb HB⟩
end Go.Proofs.Ythfefanapneocaa.Q
end
namespace Go.Proofs.Ythfefanapneocaa.Q
open Go.RowKit Go.Proofs.YthfefanapneocaaW.PrintWords Go.Proofs.YthfefanapneocaaW.PrintLast Go.Proofs.YthfefanapneocaaW.PrintMore
attribute [local go_sem] max2_int min2_int max_two min_two max_three min_three max_four min_four
set_option linter.unusedVariables false
set_option linter.unusedSimpArgs false
set_option maxRecDepth 100000
set_option maxHeartbeats 8000000
def spec_IsSimple.f (k : Nat) (a0_0 : Int) (a0_1 : Int) (a0_2 : Int) (l0_3 : List Int) (a0_4 : Bool) : Option (Bool) := (spec_RulesOk.f k a0_0 a0_1 a0_2 l0_3 a0_4).bind fun t1359 => (if t1359 = true then (if a0_0 = 2 then (if a0_1 = 1 then (some (a0_2 == 0)) else (some false)) else (some false)) else (some false))
theorem spec_IsSimple.calls (k : Nat) (a0_0 : Int) (a0_1 : Int) (a0_2 : Int) (A0_3 : Option Addr) (c0_3 : Nat) (l0_3 : List Int) (a0_4 : Bool) (r : Bool) (w : World) (hr0_3 : Kd.C (Kd.int .i64) w A0_3 l0_3.length l0_3) (hc0_3 : l0_3.length ≤ c0_3) (h : spec_IsSimple.f k a0_0 a0_1 a0_2 l0_3 a0_4 = some r) :
  Calls Try.prog 137 #[.agg #[.int .i64 a0_0, .int .i64 a0_1, .int .i64 a0_2, .slice A0_3 l0_3.length c0_3, .bool a0_4]] w fun e w' => e = .returned (.bool r) ∧ Below w.heap.size w w' := by
 have hu33 := Try.underlying33
 have HR0_3 := dk hr0_3
 have HC0_3 := dk hc0_3
 clear hr0_3 hc0_3
 have HB := hb0 w
 have H : ((spec_RulesOk.f k a0_0 a0_1 a0_2 l0_3 a0_4).bind fun t1359 => (if t1359 = true then (if a0_0 = 2 then (if a0_1 = 1 then (some (a0_2 == 0)) else (some false)) else (some false)) else (some false))) = some r := h
 clear h
 replace H := Option.bind_eq_some_iff.mp H
 obtain ⟨t1359, A20, H⟩ := H
 try dsimp only at H
 have A2 := dk A20
 clear A20
 by_cases c3 : t1359 = true
 ·subst c3
  rw [if_pos rfl] at H
  by_cases c4 : a0_0 = 2
  ·rw [if_pos c4] at H
   have c4b0 := beq_iff_eq.mpr c4
   have c4b1 := bne_eq_false_iff_eq.mpr c4
   clear c4
   by_cases c5 : a0_1 = 1
   ·rw [if_pos c5] at H
    have c5b0 := beq_iff_eq.mpr c5
    have c5b1 := bne_eq_false_iff_eq.mpr c5
    clear c5
    obtain rfl := Option.some.inj H
    go_enter Try.func137, Try.ntmps137
    go_wp2_with (first | ((with_reducible refine gdst_ 1 rfl ?_); refine bx (N := 1) (cs := #[.int .i64 a0_0, .int .i64 a0_1, .int .i64 a0_2, .slice A0_3 l0_3.length c0_3, .bool a0_4]) (t := 33) ?_; intro gb1358 hg w6 hbox hb; have BK1358 := dk (hbox); have GW1358 := gs hg HB; have GE1358 := gs hg HB; replace HB := hs_ HB hb; clear hb hbox hg; have ⟨z7_0, z7_1, z7_2, z7_3, z7_4, v7_0, v7_1, v7_2, v7_3, v7_4⟩ := rz5 BK1358) | ((with_reducible refine gcallee_ 119 rfl ?_); refine gl (some 4) Try.func119 #[.agg #[.int .i64 a0_0, .int .i64 a0_1, .int .i64 a0_2, .slice A0_3 l0_3.length c0_3, .bool a0_4]] ?_; (with_reducible refine (spec_RulesOk.calls k a0_0 a0_1 a0_2 _ _ l0_3 a0_4 true _ ?side1 ?side2 A2.out).mono ?_); (case side1 => exact cc HR0_3 HB); (case side2 => exact HC0_3.out); rintro e w8 ⟨rfl, hb⟩; refine ⟨_, rfl, ?_⟩; replace BK1358 := kb BK1358 hb; replace HB := hs_ HB hb; have ⟨z9_0, z9_1, z9_2, z9_3, z9_4, v9_0, v9_1, v9_2, v9_3, v9_4⟩ := rz5 BK1358))
    go_ret
    exact ⟨ee, bb HB⟩
   ·rw [if_neg c5] at H
    have c5b0 := beq_eq_false_iff_ne.mpr c5
    have c5b1 := bne_iff_ne.mpr c5
    obtain rfl := Option.some.inj H
    go_enter Try.func137, Try.ntmps137
    go_wp2_with (first | ((with_reducible refine gdst_ 1 rfl ?_); refine bx (N := 1) (cs := #[.int .i64 a0_0, .int .i64 a0_1, .int .i64 a0_2, .slice A0_3 l0_3.length c0_3, .bool a0_4]) (t := 33) ?_; intro gb1358 hg w10 hbox hb; have BK1358 := dk (hbox); have GW1358 := gs hg HB; have GE1358 := gs hg HB; replace HB := hs_ HB hb; clear hb hbox hg; have ⟨z11_0, z11_1, z11_2, z11_3, z11_4, v11_0, v11_1, v11_2, v11_3, v11_4⟩ := rz5 BK1358) | ((with_reducible refine gcallee_ 119 rfl ?_); refine gl (some 4) Try.func119 #[.agg #[.int .i64 a0_0, .int .i64 a0_1, .int .i64 a0_2, .slice A0_3 l0_3.length c0_3, .bool a0_4]] ?_; (with_reducible refine (spec_RulesOk.calls k a0_0 a0_1 a0_2 _ _ l0_3 a0_4 true _ ?side1 ?side2 A2.out).mono ?_); (case side1 => exact cc HR0_3 HB); (case side2 => exact HC0_3.out); rintro e w12 ⟨rfl, hb⟩; refine ⟨_, rfl, ?_⟩; replace BK1358 := kb BK1358 hb; replace HB := hs_ HB hb; have ⟨z13_0, z13_1, z13_2, z13_3, z13_4, v13_0, v13_1, v13_2, v13_3, v13_4⟩ := rz5 BK1358))
    go_ret
    exact ⟨ee, bb HB⟩
  ·rw [if_neg c4] at H
   have c4b0 := beq_eq_false_iff_ne.mpr c4
   have c4b1 := bne_iff_ne.mpr c4
   obtain rfl := Option.some.inj H
   go_enter Try.func137, Try.ntmps137
   go_wp2_with (first | ((with_reducible refine gdst_ 1 rfl ?_); refine bx (N := 1) (cs := #[.int .i64 a0_0, .int .i64 a0_1, .int .i64 a0_2, .slice A0_3 l0_3.length c0_3, .bool a0_4]) (t := 33) ?_; intro gb1358 hg w14 hbox hb; have BK1358 := dk (hbox); have GW1358 := gs hg HB; have GE1358 := gs hg HB; replace HB := hs_ HB hb; clear hb hbox hg; have ⟨z15_0, z15_1, z15_2, z15_3, z15_4, v15_0, v15_1, v15_2, v15_3, v15_4⟩ := rz5 BK1358) | ((with_reducible refine gcallee_ 119 rfl ?_); refine gl (some 4) Try.func119 #[.agg #[.int .i64 a0_0, .int .i64 a0_1, .int .i64 a0_2, .slice A0_3 l0_3.length c0_3, .bool a0_4]] ?_; (with_reducible refine (spec_RulesOk.calls k a0_0 a0_1 a0_2 _ _ l0_3 a0_4 true _ ?side1 ?side2 A2.out).mono ?_); (case side1 => exact cc HR0_3 HB); (case side2 => exact HC0_3.out); rintro e w16 ⟨rfl, hb⟩; refine ⟨_, rfl, ?_⟩; replace BK1358 := kb BK1358 hb; replace HB := hs_ HB hb; have ⟨z17_0, z17_1, z17_2, z17_3, z17_4, v17_0, v17_1, v17_2, v17_3, v17_4⟩ := rz5 BK1358))
   go_ret
   exact ⟨ee, bb HB⟩
 ·replace c3 := Bool.eq_false_iff.mpr c3
  subst c3
  rw [if_neg (show ¬ (false = true) by decide)] at H
  obtain rfl := Option.some.inj H
  go_enter Try.func137, Try.ntmps137
  go_wp2_with (first | ((with_reducible refine gdst_ 1 rfl ?_); refine bx (N := 1) (cs := #[.int .i64 a0_0, .int .i64 a0_1, .int .i64 a0_2, .slice A0_3 l0_3.length c0_3, .bool a0_4]) (t := 33) ?_; intro gb1358 hg w18 hbox hb; have BK1358 := dk (hbox); have GW1358 := gs hg HB; have GE1358 := gs hg HB; replace HB := hs_ HB hb; clear hb hbox hg; have ⟨z19_0, z19_1, z19_2, z19_3, z19_4, v19_0, v19_1, v19_2, v19_3, v19_4⟩ := rz5 BK1358) | ((with_reducible refine gcallee_ 119 rfl ?_); refine gl (some 4) Try.func119 #[.agg #[.int .i64 a0_0, .int .i64 a0_1, .int .i64 a0_2, .slice A0_3 l0_3.length c0_3, .bool a0_4]] ?_; (with_reducible refine (spec_RulesOk.calls k a0_0 a0_1 a0_2 _ _ l0_3 a0_4 false _ ?side1 ?side2 A2.out).mono ?_); (case side1 => exact cc HR0_3 HB); (case side2 => exact HC0_3.out); rintro e w20 ⟨rfl, hb⟩; refine ⟨_, rfl, ?_⟩; replace BK1358 := kb BK1358 hb; replace HB := hs_ HB hb))
  go_ret
  exact ⟨ee, bb HB⟩
def spec_l18Ok.f (k : Nat) (l0_0 : List (S139)) (a0_1 : Int) (a0_2 : Int) (a0_3 : Int) (l0_4 : List Int) (a0_5 : Bool) (l0_6 : List (S95)) (l0_7 : List Int) (l0_8 : List Int) (a1 : Int) : Option (Bool) := (spec_BookOk.f k l0_0 a0_1 a0_2 a0_3 l0_4 a0_5 l0_6 l0_7 l0_8).bind fun t1361 => (if t1361 = true then ((spec_IsSimple.f k a0_1 a0_2 a0_3 l0_4 a0_5).bind fun t1362 => (if t1362 = true then ((spec_l01In.f a1 0 (wrap64 ((l0_0.length : Int) - 1))).bind fun t1363 => (some t1363)) else (some false))) else (some false))
theorem spec_l18Ok.calls (k : Nat) (A0_0 : Option Addr) (c0_0 : Nat) (l0_0 : List (S139)) (a0_1 : Int) (a0_2 : Int) (a0_3 : Int) (A0_4 : Option Addr) (c0_4 : Nat) (l0_4 : List Int) (a0_5 : Bool) (A0_6 : Option Addr) (c0_6 : Nat) (l0_6 : List (S95)) (A0_7 : Option Addr) (c0_7 : Nat) (l0_7 : List Int) (A0_8 : Option Addr) (c0_8 : Nat) (l0_8 : List Int) (a1 : Int) (r : Bool) (w : World) (hr0_0 : Kd.C k139 w A0_0 l0_0.length l0_0) (hc0_0 : l0_0.length ≤ c0_0) (hr0_4 : Kd.C (Kd.int .i64) w A0_4 l0_4.length l0_4) (hc0_4 : l0_4.length ≤ c0_4) (hr0_6 : Kd.C k95 w A0_6 l0_6.length l0_6) (hc0_6 : l0_6.length ≤ c0_6) (hr0_7 : Kd.C (Kd.int .i64) w A0_7 l0_7.length l0_7) (hc0_7 : l0_7.length ≤ c0_7) (hr0_8 : Kd.C (Kd.int .i64) w A0_8 l0_8.length l0_8) (hc0_8 : l0_8.length ≤ c0_8) (h : spec_l18Ok.f k l0_0 a0_1 a0_2 a0_3 l0_4 a0_5 l0_6 l0_7 l0_8 a1 = some r) :
  Calls Try.prog 84 #[.agg #[.slice A0_0 l0_0.length c0_0, .int .i64 a0_1, .int .i64 a0_2, .int .i64 a0_3, .slice A0_4 l0_4.length c0_4, .bool a0_5, .slice A0_6 l0_6.length c0_6, .slice A0_7 l0_7.length c0_7, .slice A0_8 l0_8.length c0_8], .int .i64 a1] w fun e w' => e = .returned (.bool r) ∧ Below w.heap.size w w' := by
 have hu36 := Try.underlying36
 have hu33 := Try.underlying33
 have HR0_0 := dk hr0_0
 have HC0_0 := dk hc0_0
 clear hr0_0 hc0_0
 have HR0_4 := dk hr0_4
 have HC0_4 := dk hc0_4
 clear hr0_4 hc0_4
 have HR0_6 := dk hr0_6
 have HC0_6 := dk hc0_6
 clear hr0_6 hc0_6
 have HR0_7 := dk hr0_7
 have HC0_7 := dk hc0_7
 clear hr0_7 hc0_7
 have HR0_8 := dk hr0_8
 have HC0_8 := dk hc0_8
 clear hr0_8 hc0_8
 have HB := hb0 w
 have H : ((spec_BookOk.f k l0_0 a0_1 a0_2 a0_3 l0_4 a0_5 l0_6 l0_7 l0_8).bind fun t1361 => (if t1361 = true then ((spec_IsSimple.f k a0_1 a0_2 a0_3 l0_4 a0_5).bind fun t1362 => (if t1362 = true then ((spec_l01In.f a1 0 (wrap64 ((l0_0.length : Int) - 1))).bind fun t1363 => (some t1363)) else (some false))) else (some false))) = some r := h
 clear h
 replace H := Option.bind_eq_some_iff.mp H
 obtain ⟨t1361, A30, H⟩ := H
 try dsimp only at H
 have A3 := dk A30
 clear A30
 by_cases c4 : t1361 = true
 ·subst c4
  rw [if_pos rfl] at H
  replace H := Option.bind_eq_some_iff.mp H
  obtain ⟨t1362, A50, H⟩ := H
  try dsimp only at H
  have A5 := dk A50
  clear A50
  by_cases c6 : t1362 = true
  ·subst c6
   rw [if_pos rfl] at H
   replace H := Option.bind_eq_some_iff.mp H
   obtain ⟨t1363, A70, H⟩ := H
   try dsimp only at H
   have A7 := dk A70
   clear A70
   obtain rfl := Option.some.inj H
   go_enter Try.func84, Try.ntmps84
   go_wp2_with (first | ((with_reducible refine gdst_ 2 rfl ?_); (try (refine gate_guard (by rfl) ?_; dsimp only)); refine bx (N := 2) (cs := #[.slice A0_0 l0_0.length c0_0, .int .i64 a0_1, .int .i64 a0_2, .int .i64 a0_3, .slice A0_4 l0_4.length c0_4, .bool a0_5, .slice A0_6 l0_6.length c0_6, .slice A0_7 l0_7.length c0_7, .slice A0_8 l0_8.length c0_8]) (t := 36) ?_; intro gb1360 hg w8 hbox hb; have BK1360 := dk (hbox); have GW1360 := gs hg HB; have GE1360 := gs hg HB; replace HB := hs_ HB hb; clear hb hbox hg; have ⟨z9_0, z9_1, z9_2, z9_3, z9_4, z9_5, z9_6, z9_7, z9_8, v9_0, v9_1, v9_2, v9_3, v9_4, v9_5, v9_6, v9_7, v9_8⟩ := rz9 BK1360) | ((with_reducible refine gcallee_ 55 rfl ?_); refine gl (some 6) Try.func55 #[.agg #[.slice A0_0 l0_0.length c0_0, .int .i64 a0_1, .int .i64 a0_2, .int .i64 a0_3, .slice A0_4 l0_4.length c0_4, .bool a0_5, .slice A0_6 l0_6.length c0_6, .slice A0_7 l0_7.length c0_7, .slice A0_8 l0_8.length c0_8]] ?_; (with_reducible refine (spec_BookOk.calls k _ _ l0_0 a0_1 a0_2 a0_3 _ _ l0_4 a0_5 _ _ l0_6 _ _ l0_7 _ _ l0_8 true _ ?side1 ?side2 ?side3 ?side4 ?side5 ?side6 ?side7 ?side8 ?side9 ?side10 A3.out).mono ?_); (case side1 => exact cc HR0_0 HB); (case side2 => exact HC0_0.out); (case side3 => exact cc HR0_4 HB); (case side4 => exact HC0_4.out); (case side5 => exact cc HR0_6 HB); (case side6 => exact HC0_6.out); (case side7 => exact cc HR0_7 HB); (case side8 => exact HC0_7.out); (case side9 => exact cc HR0_8 HB); (case side10 => exact HC0_8.out); rintro e w10 ⟨rfl, hb⟩; refine ⟨_, rfl, ?_⟩; replace BK1360 := kb BK1360 hb; replace HB := hs_ HB hb; have ⟨z11_0, z11_1, z11_2, z11_3, z11_4, z11_5, z11_6, z11_7, z11_8, v11_0, v11_1, v11_2, v11_3, v11_4, v11_5, v11_6, v11_7, v11_8⟩ := rz9 BK1360) | (go_at_call 137; (with_reducible refine (spec_IsSimple.calls k a0_1 a0_2 a0_3 _ _ l0_4 a0_5 true _ ?side1 ?side2 A5.out).mono ?_); (case side1 => exact cc HR0_4 HB); (case side2 => exact HC0_4.out); rintro e w12 ⟨rfl, hb⟩; replace BK1360 := kb BK1360 hb; replace HB := hs_ HB hb; have ⟨z13_0, z13_1, z13_2, z13_3, z13_4, z13_5, z13_6, z13_7, z13_8, v13_0, v13_1, v13_2, v13_3, v13_4, v13_5, v13_6, v13_7, v13_8⟩ := rz9 BK1360) | (go_at_call 76; (with_reducible refine (spec_l01In.calls a1 0 (wrap64 ((l0_0.length : Int) - 1)) t1363 _ A7.out).mono ?_); rintro e w' ⟨rfl, ⟨nd, rfl⟩⟩))
   go_ret
   exact ⟨ee, bb HB⟩
  ·replace c6 := Bool.eq_false_iff.mpr c6
   subst c6
   rw [if_neg (show ¬ (false = true) by decide)] at H
   obtain rfl := Option.some.inj H
   go_enter Try.func84, Try.ntmps84
   go_wp2_with (first | ((with_reducible refine gdst_ 2 rfl ?_); (try (refine gate_guard (by rfl) ?_; dsimp only)); refine bx (N := 2) (cs := #[.slice A0_0 l0_0.length c0_0, .int .i64 a0_1, .int .i64 a0_2, .int .i64 a0_3, .slice A0_4 l0_4.length c0_4, .bool a0_5, .slice A0_6 l0_6.length c0_6, .slice A0_7 l0_7.length c0_7, .slice A0_8 l0_8.length c0_8]) (t := 36) ?_; intro gb1360 hg w14 hbox hb; have BK1360 := dk (hbox); have GW1360 := gs hg HB; have GE1360 := gs hg HB; replace HB := hs_ HB hb; clear hb hbox hg; have ⟨z15_0, z15_1, z15_2, z15_3, z15_4, z15_5, z15_6, z15_7, z15_8, v15_0, v15_1, v15_2, v15_3, v15_4, v15_5, v15_6, v15_7, v15_8⟩ := rz9 BK1360) | ((with_reducible refine gcallee_ 55 rfl ?_); refine gl (some 6) Try.func55 #[.agg #[.slice A0_0 l0_0.length c0_0, .int .i64 a0_1, .int .i64 a0_2, .int .i64 a0_3, .slice A0_4 l0_4.length c0_4, .bool a0_5, .slice A0_6 l0_6.length c0_6, .slice A0_7 l0_7.length c0_7, .slice A0_8 l0_8.length c0_8]] ?_; (with_reducible refine (spec_BookOk.calls k _ _ l0_0 a0_1 a0_2 a0_3 _ _ l0_4 a0_5 _ _ l0_6 _ _ l0_7 _ _ l0_8 true _ ?side1 ?side2 ?side3 ?side4 ?side5 ?side6 ?side7 ?side8 ?side9 ?side10 A3.out).mono ?_); (case side1 => exact cc HR0_0 HB); (case side2 => exact HC0_0.out); (case side3 => exact cc HR0_4 HB); (case side4 => exact HC0_4.out); (case side5 => exact cc HR0_6 HB); (case side6 => exact HC0_6.out); (case side7 => exact cc HR0_7 HB); (case side8 => exact HC0_7.out); (case side9 => exact cc HR0_8 HB); (case side10 => exact HC0_8.out); rintro e w16 ⟨rfl, hb⟩; refine ⟨_, rfl, ?_⟩; replace BK1360 := kb BK1360 hb; replace HB := hs_ HB hb; have ⟨z17_0, z17_1, z17_2, z17_3, z17_4, z17_5, z17_6, z17_7, z17_8, v17_0, v17_1, v17_2, v17_3, v17_4, v17_5, v17_6, v17_7, v17_8⟩ := rz9 BK1360) | (go_at_call 137; (with_reducible refine (spec_IsSimple.calls k a0_1 a0_2 a0_3 _ _ l0_4 a0_5 false _ ?side1 ?side2 A5.out).mono ?_); (case side1 => exact cc HR0_4 HB); (case side2 => exact HC0_4.out); rintro e w18 ⟨rfl, hb⟩; replace BK1360 := kb BK1360 hb; replace HB := hs_ HB hb))
   go_ret
   exact ⟨ee, bb HB⟩
 ·replace c4 := Bool.eq_false_iff.mpr c4
  subst c4
  rw [if_neg (show ¬ (false = true) by decide)] at H
  obtain rfl := Option.some.inj H
  go_enter Try.func84, Try.ntmps84
  go_wp2_with (first | ((with_reducible refine gdst_ 2 rfl ?_); (try (refine gate_guard (by rfl) ?_; dsimp only)); refine bx (N := 2) (cs := #[.slice A0_0 l0_0.length c0_0, .int .i64 a0_1, .int .i64 a0_2, .int .i64 a0_3, .slice A0_4 l0_4.length c0_4, .bool a0_5, .slice A0_6 l0_6.length c0_6, .slice A0_7 l0_7.length c0_7, .slice A0_8 l0_8.length c0_8]) (t := 36) ?_; intro gb1360 hg w19 hbox hb; have BK1360 := dk (hbox); have GW1360 := gs hg HB; have GE1360 := gs hg HB; replace HB := hs_ HB hb; clear hb hbox hg; have ⟨z20_0, z20_1, z20_2, z20_3, z20_4, z20_5, z20_6, z20_7, z20_8, v20_0, v20_1, v20_2, v20_3, v20_4, v20_5, v20_6, v20_7, v20_8⟩ := rz9 BK1360) | ((with_reducible refine gcallee_ 55 rfl ?_); refine gl (some 6) Try.func55 #[.agg #[.slice A0_0 l0_0.length c0_0, .int .i64 a0_1, .int .i64 a0_2, .int .i64 a0_3, .slice A0_4 l0_4.length c0_4, .bool a0_5, .slice A0_6 l0_6.length c0_6, .slice A0_7 l0_7.length c0_7, .slice A0_8 l0_8.length c0_8]] ?_; (with_reducible refine (spec_BookOk.calls k _ _ l0_0 a0_1 a0_2 a0_3 _ _ l0_4 a0_5 _ _ l0_6 _ _ l0_7 _ _ l0_8 false _ ?side1 ?side2 ?side3 ?side4 ?side5 ?side6 ?side7 ?side8 ?side9 ?side10 A3.out).mono ?_); (case side1 => exact cc HR0_0 HB); (case side2 => exact HC0_0.out); (case side3 => exact cc HR0_4 HB); (case side4 => exact HC0_4.out); (case side5 => exact cc HR0_6 HB); (case side6 => exact HC0_6.out); (case side7 => exact cc HR0_7 HB); (case side8 => exact HC0_7.out); (case side9 => exact cc HR0_8 HB); (case side10 => exact HC0_8.out); rintro e w21 ⟨rfl, hb⟩; refine ⟨_, rfl, ?_⟩; replace BK1360 := kb BK1360 hb; replace HB := hs_ HB hb))
  go_ret
  exact ⟨ee, bb HB⟩
def spec_GoalsOf.f (a0_0 : Int) (a0_1 : Int) (a0_2 : Int) (a0_3 : Int) (a0_4 : Int) : Option (Int × Int × Bool) := if a0_4 = 1 then (some (a0_2, a0_3, true)) else (if a0_4 = 2 then (some (3, 0, true)) else (if a0_4 = 3 then (some (0, 3, true)) else (some (0, 0, false))))
theorem spec_GoalsOf.calls (a0_0 : Int) (a0_1 : Int) (a0_2 : Int) (a0_3 : Int) (a0_4 : Int) (r1 : Int) (r2 : Int) (r3 : Bool) (w : World) (h : spec_GoalsOf.f a0_0 a0_1 a0_2 a0_3 a0_4 = some (r1, r2, r3)) :
  Calls Try.prog 168 #[.agg #[.int .i64 a0_0, .int .i64 a0_1, .int .i64 a0_2, .int .i64 a0_3, .int .i64 a0_4]] w fun e w' => e = .returned (.tuple #[.int .i64 r1, .int .i64 r2, .bool r3]) ∧ Below w.heap.size w w' := by
 have hu95 := Try.underlying95
 have HB := hb0 w
 have H : (if a0_4 = 1 then (some (a0_2, a0_3, true)) else (if a0_4 = 2 then (some (3, 0, true)) else (if a0_4 = 3 then (some (0, 3, true)) else (some (0, 0, false))))) = some (r1, r2, r3) := h
 clear h
 by_cases c2 : a0_4 = 1
 ·rw [if_pos c2] at H
  have c2b0 := beq_iff_eq.mpr c2
  have c2b1 := bne_eq_false_iff_eq.mpr c2
  clear c2
  simp only [Option.some.injEq, Prod.mk.injEq] at H
  obtain ⟨rfl, rfl, rfl⟩ := H
  go_enter Try.func168, Try.ntmps168
  go_wp2_with (first | ((with_reducible refine gdst_ 1 rfl ?_); refine bx (N := 1) (cs := #[.int .i64 a0_0, .int .i64 a0_1, .int .i64 a0_2, .int .i64 a0_3, .int .i64 a0_4]) (t := 95) ?_; intro gb1106 hg w3 hbox hb; have BK1106 := dk (hbox); have GW1106 := gs hg HB; have GE1106 := gs hg HB; replace HB := hs_ HB hb; clear hb hbox hg; have ⟨z4_0, z4_1, z4_2, z4_3, z4_4, v4_0, v4_1, v4_2, v4_3, v4_4⟩ := rz5 BK1106))
  repeat (go_quiet (first | ((with_reducible refine gdst_ 1 rfl ?_); refine bx (N := 1) (cs := #[.int .i64 a0_0, .int .i64 a0_1, .int .i64 a0_2, .int .i64 a0_3, .int .i64 a0_4]) (t := 95) ?_; intro gb1106 hg w3 hbox hb; have BK1106 := dk (hbox); have GW1106 := gs hg HB; have GE1106 := gs hg HB; replace HB := hs_ HB hb; clear hb hbox hg; have ⟨z4_0, z4_1, z4_2, z4_3, z4_4, v4_0, v4_1, v4_2, v4_3, v4_4⟩ := rz5 BK1106)); try go_wp2_with (first | ((with_reducible refine gdst_ 1 rfl ?_); refine bx (N := 1) (cs := #[.int .i64 a0_0, .int .i64 a0_1, .int .i64 a0_2, .int .i64 a0_3, .int .i64 a0_4]) (t := 95) ?_; intro gb1106 hg w3 hbox hb; have BK1106 := dk (hbox); have GW1106 := gs hg HB; have GE1106 := gs hg HB; replace HB := hs_ HB hb; clear hb hbox hg; have ⟨z4_0, z4_1, z4_2, z4_3, z4_4, v4_0, v4_1, v4_2, v4_3, v4_4⟩ := rz5 BK1106)))
  go_ret3
  exact ⟨ee, bb HB⟩
 ·rw [if_neg c2] at H
  have c2b0 := beq_eq_false_iff_ne.mpr c2
  have c2b1 := bne_iff_ne.mpr c2
  by_cases c5 : a0_4 = 2
  ·rw [if_pos c5] at H
   have c5b0 := beq_iff_eq.mpr c5
   have c5b1 := bne_eq_false_iff_eq.mpr c5
   clear c5
   simp only [Option.some.injEq, Prod.mk.injEq] at H
   obtain ⟨rfl, rfl, rfl⟩ := H
   go_enter Try.func168, Try.ntmps168
   go_wp2_with (first | ((with_reducible refine gdst_ 1 rfl ?_); refine bx (N := 1) (cs := #[.int .i64 a0_0, .int .i64 a0_1, .int .i64 a0_2, .int .i64 a0_3, .int .i64 a0_4]) (t := 95) ?_; intro gb1106 hg w6 hbox hb; have BK1106 := dk (hbox); have GW1106 := gs hg HB; have GE1106 := gs hg HB; replace HB := hs_ HB hb; clear hb hbox hg; have ⟨z7_0, z7_1, z7_2, z7_3, z7_4, v7_0, v7_1, v7_2, v7_3, v7_4⟩ := rz5 BK1106))
   repeat (go_quiet (first | ((with_reducible refine gdst_ 1 rfl ?_); refine bx (N := 1) (cs := #[.int .i64 a0_0, .int .i64 a0_1, .int .i64 a0_2, .int .i64 a0_3, .int .i64 a0_4]) (t := 95) ?_; intro gb1106 hg w6 hbox hb; have BK1106 := dk (hbox); have GW1106 := gs hg HB; have GE1106 := gs hg HB; replace HB := hs_ HB hb; clear hb hbox hg; have ⟨z7_0, z7_1, z7_2, z7_3, z7_4, v7_0, v7_1, v7_2, v7_3, v7_4⟩ := rz5 BK1106)); try go_wp2_with (first | ((with_reducible refine gdst_ 1 rfl ?_); refine bx (N := 1) (cs := #[.int .i64 a0_0, .int .i64 a0_1, .int .i64 a0_2, .int .i64 a0_3, .int .i64 a0_4]) (t := 95) ?_; intro gb1106 hg w6 hbox hb; have BK1106 := dk (hbox); have GW1106 := gs hg HB; have GE1106 := gs hg HB; replace HB := hs_ HB hb; clear hb hbox hg; have ⟨z7_0, z7_1, z7_2, z7_3, z7_4, v7_0, v7_1, v7_2, v7_3, v7_4⟩ := rz5 BK1106)))
   go_ret3
   exact ⟨ee, bb HB⟩
  ·rw [if_neg c5] at H
   have c5b0 := beq_eq_false_iff_ne.mpr c5
   have c5b1 := bne_iff_ne.mpr c5
   by_cases c8 : a0_4 = 3
   ·rw [if_pos c8] at H
    have c8b0 := beq_iff_eq.mpr c8
    have c8b1 := bne_eq_false_iff_eq.mpr c8
    clear c8
    simp only [Option.some.injEq, Prod.mk.injEq] at H
    obtain ⟨rfl, rfl, rfl⟩ := H
    go_enter Try.func168, Try.ntmps168
    go_wp2_with (first | ((with_reducible refine gdst_ 1 rfl ?_); refine bx (N := 1) (cs := #[.int .i64 a0_0, .int .i64 a0_1, .int .i64 a0_2, .int .i64 a0_3, .int .i64 a0_4]) (t := 95) ?_; intro gb1106 hg w9 hbox hb; have BK1106 := dk (hbox); have GW1106 := gs hg HB; have GE1106 := gs hg HB; replace HB := hs_ HB hb; clear hb hbox hg; have ⟨z10_0, z10_1, z10_2, z10_3, z10_4, v10_0, v10_1, v10_2, v10_3, v10_4⟩ := rz5 BK1106))
    repeat (go_quiet (first | ((with_reducible refine gdst_ 1 rfl ?_); refine bx (N := 1) (cs := #[.int .i64 a0_0, .int .i64 a0_1, .int .i64 a0_2, .int .i64 a0_3, .int .i64 a0_4]) (t := 95) ?_; intro gb1106 hg w9 hbox hb; have BK1106 := dk (hbox); have GW1106 := gs hg HB; have GE1106 := gs hg HB; replace HB := hs_ HB hb; clear hb hbox hg; have ⟨z10_0, z10_1, z10_2, z10_3, z10_4, v10_0, v10_1, v10_2, v10_3, v10_4⟩ := rz5 BK1106)); try go_wp2_with (first | ((with_reducible refine gdst_ 1 rfl ?_); refine bx (N := 1) (cs := #[.int .i64 a0_0, .int .i64 a0_1, .int .i64 a0_2, .int .i64 a0_3, .int .i64 a0_4]) (t := 95) ?_; intro gb1106 hg w9 hbox hb; have BK1106 := dk (hbox); have GW1106 := gs hg HB; have GE1106 := gs hg HB; replace HB := hs_ HB hb; clear hb hbox hg; have ⟨z10_0, z10_1, z10_2, z10_3, z10_4, v10_0, v10_1, v10_2, v10_3, v10_4⟩ := rz5 BK1106)))
    go_ret3
    exact ⟨ee, bb HB⟩
   ·rw [if_neg c8] at H
    have c8b0 := beq_eq_false_iff_ne.mpr c8
    have c8b1 := bne_iff_ne.mpr c8
    simp only [Option.some.injEq, Prod.mk.injEq] at H
    obtain ⟨rfl, rfl, rfl⟩ := H
    go_enter Try.func168, Try.ntmps168
    go_wp2_with (first | ((with_reducible refine gdst_ 1 rfl ?_); refine bx (N := 1) (cs := #[.int .i64 a0_0, .int .i64 a0_1, .int .i64 a0_2, .int .i64 a0_3, .int .i64 a0_4]) (t := 95) ?_; intro gb1106 hg w11 hbox hb; have BK1106 := dk (hbox); have GW1106 := gs hg HB; have GE1106 := gs hg HB; replace HB := hs_ HB hb; clear hb hbox hg; have ⟨z12_0, z12_1, z12_2, z12_3, z12_4, v12_0, v12_1, v12_2, v12_3, v12_4⟩ := rz5 BK1106))
    repeat (go_quiet (first | ((with_reducible refine gdst_ 1 rfl ?_); refine bx (N := 1) (cs := #[.int .i64 a0_0, .int .i64 a0_1, .int .i64 a0_2, .int .i64 a0_3, .int .i64 a0_4]) (t := 95) ?_; intro gb1106 hg w11 hbox hb; have BK1106 := dk (hbox); have GW1106 := gs hg HB; have GE1106 := gs hg HB; replace HB := hs_ HB hb; clear hb hbox hg; have ⟨z12_0, z12_1, z12_2, z12_3, z12_4, v12_0, v12_1, v12_2, v12_3, v12_4⟩ := rz5 BK1106)); try go_wp2_with (first | ((with_reducible refine gdst_ 1 rfl ?_); refine bx (N := 1) (cs := #[.int .i64 a0_0, .int .i64 a0_1, .int .i64 a0_2, .int .i64 a0_3, .int .i64 a0_4]) (t := 95) ?_; intro gb1106 hg w11 hbox hb; have BK1106 := dk (hbox); have GW1106 := gs hg HB; have GE1106 := gs hg HB; replace HB := hs_ HB hb; clear hb hbox hg; have ⟨z12_0, z12_1, z12_2, z12_3, z12_4, v12_0, v12_1, v12_2, v12_3, v12_4⟩ := rz5 BK1106)))
    go_ret3
    exact ⟨ee, bb HB⟩
def spec_OutcomeOf.f (a0_0 : Int) (a0_1 : Int) (a0_2 : Int) (a0_3 : Int) (a0_4 : Int) : Option (Int) := (spec_GoalsOf.f a0_0 a0_1 a0_2 a0_3 a0_4).bind fun bt1108 => (if bt1108.2.2 = true then (if bt1108.1 > bt1108.2.1 then (some 1) else (if bt1108.1 = bt1108.2.1 then (some 2) else (some 3))) else (some 0))
theorem spec_OutcomeOf.calls (a0_0 : Int) (a0_1 : Int) (a0_2 : Int) (a0_3 : Int) (a0_4 : Int) (r : Int) (w : World) (h : spec_OutcomeOf.f a0_0 a0_1 a0_2 a0_3 a0_4 = some r) :
  Calls Try.prog 169 #[.agg #[.int .i64 a0_0, .int .i64 a0_1, .int .i64 a0_2, .int .i64 a0_3, .int .i64 a0_4]] w fun e w' => e = .returned (.int .i64 r) ∧ Below w.heap.size w w' := by
 have hu95 := Try.underlying95
 have HB := hb0 w
 have H : ((spec_GoalsOf.f a0_0 a0_1 a0_2 a0_3 a0_4).bind fun bt1108 => (if bt1108.2.2 = true then (if bt1108.1 > bt1108.2.1 then (some 1) else (if bt1108.1 = bt1108.2.1 then (some 2) else (some 3))) else (some 0))) = some r := h
 clear h
 replace H := Option.bind_eq_some_iff.mp H
 obtain ⟨⟨t1108, t1109, t1110⟩, A20, H⟩ := H
 try dsimp only at H
 have A2 := dk A20
 clear A20
 by_cases c3 : t1110 = true
 ·subst c3
  rw [if_pos rfl] at H
  by_cases c4 : t1108 > t1109
  ·rw [if_pos c4] at H
   have c4b0 := decide_eq_true c4
   clear c4
   obtain rfl := Option.some.inj H
   go_enter Try.func169, Try.ntmps169
   go_wp2_with (first | ((with_reducible refine gdst_ 1 rfl ?_); refine bx (N := 1) (cs := #[.int .i64 a0_0, .int .i64 a0_1, .int .i64 a0_2, .int .i64 a0_3, .int .i64 a0_4]) (t := 95) ?_; intro gb1107 hg w5 hbox hb; have BK1107 := dk (hbox); have GW1107 := gs hg HB; have GE1107 := gs hg HB; replace HB := hs_ HB hb; clear hb hbox hg; have ⟨z6_0, z6_1, z6_2, z6_3, z6_4, v6_0, v6_1, v6_2, v6_3, v6_4⟩ := rz5 BK1107) | ((with_reducible refine gcallee_ 168 rfl ?_); refine gl (some 8) Try.func168 #[.agg #[.int .i64 a0_0, .int .i64 a0_1, .int .i64 a0_2, .int .i64 a0_3, .int .i64 a0_4]] ?_; (with_reducible refine (spec_GoalsOf.calls a0_0 a0_1 a0_2 a0_3 a0_4 t1108 t1109 true _ A2.out).mono ?_); rintro e w7 ⟨rfl, hb⟩; refine ⟨_, rfl, ?_⟩; replace BK1107 := kb BK1107 hb; replace HB := hs_ HB hb))
   go_ret
   exact ⟨ee, bb HB⟩
  ·rw [if_neg c4] at H
   have c4b0 := decide_eq_false c4
   clear c4
   by_cases c8 : t1108 = t1109
   ·rw [if_pos c8] at H
    have c8b0 := beq_iff_eq.mpr c8
    have c8b1 := bne_eq_false_iff_eq.mpr c8
    clear c8
    obtain rfl := Option.some.inj H
    go_enter Try.func169, Try.ntmps169
    go_wp2_with (first | ((with_reducible refine gdst_ 1 rfl ?_); refine bx (N := 1) (cs := #[.int .i64 a0_0, .int .i64 a0_1, .int .i64 a0_2, .int .i64 a0_3, .int .i64 a0_4]) (t := 95) ?_; intro gb1107 hg w9 hbox hb; have BK1107 := dk (hbox); have GW1107 := gs hg HB; have GE1107 := gs hg HB; replace HB := hs_ HB hb; clear hb hbox hg; have ⟨z10_0, z10_1, z10_2, z10_3, z10_4, v10_0, v10_1, v10_2, v10_3, v10_4⟩ := rz5 BK1107) | ((with_reducible refine gcallee_ 168 rfl ?_); refine gl (some 8) Try.func168 #[.agg #[.int .i64 a0_0, .int .i64 a0_1, .int .i64 a0_2, .int .i64 a0_3, .int .i64 a0_4]] ?_; (with_reducible refine (spec_GoalsOf.calls a0_0 a0_1 a0_2 a0_3 a0_4 t1108 t1109 true _ A2.out).mono ?_); rintro e w11 ⟨rfl, hb⟩; refine ⟨_, rfl, ?_⟩; replace BK1107 := kb BK1107 hb; replace HB := hs_ HB hb))
    go_ret
    exact ⟨ee, bb HB⟩
   ·rw [if_neg c8] at H
    have c8b0 := beq_eq_false_iff_ne.mpr c8
    have c8b1 := bne_iff_ne.mpr c8
    obtain rfl := Option.some.inj H
    go_enter Try.func169, Try.ntmps169
    go_wp2_with (first | ((with_reducible refine gdst_ 1 rfl ?_); refine bx (N := 1) (cs := #[.int .i64 a0_0, .int .i64 a0_1, .int .i64 a0_2, .int .i64 a0_3, .int .i64 a0_4]) (t := 95) ?_; intro gb1107 hg w12 hbox hb; have BK1107 := dk (hbox); have GW1107 := gs hg HB; have GE1107 := gs hg HB; replace HB := hs_ HB hb; clear hb hbox hg; have ⟨z13_0, z13_1, z13_2, z13_3, z13_4, v13_0, v13_1, v13_2, v13_3, v13_4⟩ := rz5 BK1107) | ((with_reducible refine gcallee_ 168 rfl ?_); refine gl (some 8) Try.func168 #[.agg #[.int .i64 a0_0, .int .i64 a0_1, .int .i64 a0_2, .int .i64 a0_3, .int .i64 a0_4]] ?_; (with_reducible refine (spec_GoalsOf.calls a0_0 a0_1 a0_2 a0_3 a0_4 t1108 t1109 true _ A2.out).mono ?_); rintro e w14 ⟨rfl, hb⟩; refine ⟨_, rfl, ?_⟩; replace BK1107 := kb BK1107 hb; replace HB := hs_ HB hb))
    go_ret
    exact ⟨ee, bb HB⟩
 ·replace c3 := Bool.eq_false_iff.mpr c3
  subst c3
  rw [if_neg (show ¬ (false = true) by decide)] at H
  obtain rfl := Option.some.inj H
  go_enter Try.func169, Try.ntmps169
  go_wp2_with (first | ((with_reducible refine gdst_ 1 rfl ?_); refine bx (N := 1) (cs := #[.int .i64 a0_0, .int .i64 a0_1, .int .i64 a0_2, .int .i64 a0_3, .int .i64 a0_4]) (t := 95) ?_; intro gb1107 hg w15 hbox hb; have BK1107 := dk (hbox); have GW1107 := gs hg HB; have GE1107 := gs hg HB; replace HB := hs_ HB hb; clear hb hbox hg; have ⟨z16_0, z16_1, z16_2, z16_3, z16_4, v16_0, v16_1, v16_2, v16_3, v16_4⟩ := rz5 BK1107) | ((with_reducible refine gcallee_ 168 rfl ?_); refine gl (some 8) Try.func168 #[.agg #[.int .i64 a0_0, .int .i64 a0_1, .int .i64 a0_2, .int .i64 a0_3, .int .i64 a0_4]] ?_; (with_reducible refine (spec_GoalsOf.calls a0_0 a0_1 a0_2 a0_3 a0_4 t1108 t1109 false _ A2.out).mono ?_); rintro e w17 ⟨rfl, hb⟩; refine ⟨_, rfl, ?_⟩; replace BK1107 := kb BK1107 hb; replace HB := hs_ HB hb))
  go_ret
  exact ⟨ee, bb HB⟩
def spec_AddRows.f (a0_0 : Int) (a0_1 : Int) (a0_2 : Int) (a0_3 : Int) (a0_4 : Int) (a0_5 : Int) (a0_6 : Int) (a1_0 : Int) (a1_1 : Int) (a1_2 : Int) (a1_3 : Int) (a1_4 : Int) (a1_5 : Int) (a1_6 : Int) : Option (Int × Int × Int × Int × Int × Int × Int) := some (wrap64 (a0_0 + a1_0), wrap64 (a0_1 + a1_1), wrap64 (a0_2 + a1_2), wrap64 (a0_3 + a1_3), wrap64 (a0_4 + a1_4), wrap64 (a0_5 + a1_5), wrap64 (a0_6 + a1_6))
theorem spec_AddRows.calls (a0_0 : Int) (a0_1 : Int) (a0_2 : Int) (a0_3 : Int) (a0_4 : Int) (a0_5 : Int) (a0_6 : Int) (a1_0 : Int) (a1_1 : Int) (a1_2 : Int) (a1_3 : Int) (a1_4 : Int) (a1_5 : Int) (a1_6 : Int) (r1 : Int) (r2 : Int) (r3 : Int) (r4 : Int) (r5 : Int) (r6 : Int) (r7 : Int) (w : World) (h : spec_AddRows.f a0_0 a0_1 a0_2 a0_3 a0_4 a0_5 a0_6 a1_0 a1_1 a1_2 a1_3 a1_4 a1_5 a1_6 = some (r1, r2, r3, r4, r5, r6, r7)) :
  Calls Try.prog 170 #[.agg #[.int .i64 a0_0, .int .i64 a0_1, .int .i64 a0_2, .int .i64 a0_3, .int .i64 a0_4, .int .i64 a0_5, .int .i64 a0_6], .agg #[.int .i64 a1_0, .int .i64 a1_1, .int .i64 a1_2, .int .i64 a1_3, .int .i64 a1_4, .int .i64 a1_5, .int .i64 a1_6]] w fun e w' => e = .returned (.agg #[.int .i64 r1, .int .i64 r2, .int .i64 r3, .int .i64 r4, .int .i64 r5, .int .i64 r6, .int .i64 r7]) ∧ Below w.heap.size w w' := by
 have hu115 := Try.underlying115
 have HB := hb0 w
 have H : (some (wrap64 (a0_0 + a1_0), wrap64 (a0_1 + a1_1), wrap64 (a0_2 + a1_2), wrap64 (a0_3 + a1_3), wrap64 (a0_4 + a1_4), wrap64 (a0_5 + a1_5), wrap64 (a0_6 + a1_6))) = some (r1, r2, r3, r4, r5, r6, r7) := h
 clear h
 simp only [Option.some.injEq, Prod.mk.injEq] at H
 obtain ⟨rfl, rfl, rfl, rfl, rfl, rfl, rfl⟩ := H
 go_enter Try.func170, Try.ntmps170
 go_wp2_with (first | ((with_reducible refine gdst_ 2 rfl ?_); refine bx (N := 2) (cs := #[.int .i64 a0_0, .int .i64 a0_1, .int .i64 a0_2, .int .i64 a0_3, .int .i64 a0_4, .int .i64 a0_5, .int .i64 a0_6]) (t := 115) ?_; intro gb1111 hg w3 hbox hb; have BK1111 := dk (hbox); have GW1111 := gs hg HB; have GE1111 := gs hg HB; replace HB := hs_ HB hb; clear hb hbox hg) | ((with_reducible refine gdst_ 3 rfl ?_); refine bx (N := 3) (cs := #[.int .i64 a1_0, .int .i64 a1_1, .int .i64 a1_2, .int .i64 a1_3, .int .i64 a1_4, .int .i64 a1_5, .int .i64 a1_6]) (t := 115) ?_; intro gb1112 hg w4 hbox hb; have BK1112 := dk (hbox); have GW1112 := gs hg HB; have GE1112 := gs hg HB; replace HB := hs_ HB hb; have NB1111_1112 := gn hg BK1111; have NB1112_1111 := gm hg BK1111; replace BK1111 := kb BK1111 hb; clear hb hbox hg) | ((with_reducible refine gdst_ 4 rfl ?_); refine bx (N := 4) (cs := #[.int .i64 0, .int .i64 0, .int .i64 0, .int .i64 0, .int .i64 0, .int .i64 0, .int .i64 0]) (t := 115) ?_; intro gb1113 hg w5 hbox hb; have BK1113 := dk (hbox); have GW1113 := gs hg HB; have GE1113 := gs hg HB; replace HB := hs_ HB hb; have NB1111_1113 := gn hg BK1111; have NB1113_1111 := gm hg BK1111; replace BK1111 := kb BK1111 hb; have NB1112_1113 := gn hg BK1112; have NB1113_1112 := gm hg BK1112; replace BK1112 := kb BK1112 hb; clear hb hbox hg; have hnb6 := NB1111_1112.out; have hnc6 := NB1112_1111.out; have hnb7 := NB1111_1113.out; have hnc7 := NB1113_1111.out; have ⟨z8_0, z8_1, z8_2, z8_3, z8_4, z8_5, z8_6, v8_0, v8_1, v8_2, v8_3, v8_4, v8_5, v8_6⟩ := rz7 BK1111; have hnb9 := NB1112_1113.out; have hnc9 := NB1113_1112.out; have ⟨z10_0, z10_1, z10_2, z10_3, z10_4, z10_5, z10_6, v10_0, v10_1, v10_2, v10_3, v10_4, v10_5, v10_6⟩ := rz7 BK1112; have ⟨z11_0, z11_1, z11_2, z11_3, z11_4, z11_5, z11_6, v11_0, v11_1, v11_2, v11_3, v11_4, v11_5, v11_6⟩ := rz7 BK1113))
 refine bodyPost_ret (results_cell_row rfl _ _ gb1113 115 #[.int .i64 (wrap64 (a0_0 + a1_0)), .int .i64 (wrap64 (a0_1 + a1_1)), .int .i64 (wrap64 (a0_2 + a1_2)), .int .i64 (wrap64 (a0_3 + a1_3)), .int .i64 (wrap64 (a0_4 + a1_4)), .int .i64 (wrap64 (a0_5 + a1_5)), .int .i64 (wrap64 (a0_6 + a1_6))] (0, 0) _ rfl (bp BK1113) Try.underlying115 rfl (by kernel_rfl)) rfl ?_
 exact ⟨ee, bb HB⟩
end Go.Proofs.Ythfefanapneocaa.Q
