/- A part of the proof of FnExactOrderMatters: functions of the program, as plain functions, with the proof that the machine's call does what they say; plain lemmas; and those of the words that print.sh prints which this proof uses. No condition. -/
import Derived.Test.YthfefanapneocaaKFnExactOrderMatters1
import Derived.Test.YthfefanapneocaaProg
import Derived.Below
import Derived.Deep.Draws
import Derived.Deep.AppendLies
import Derived.Maps.AppendAt
import Derived.OwnWalk
import Derived.Laws.BytesArg
import Derived.Laws.MakeOwn
import Derived.Laws.OwnMore
import Derived.Deep.OwnRows
import Derived.Tactics
import Derived.Lib.ConvBytes
import Derived.Laws.Slices
import Derived.WalkKit
import Derived.KernelRfl
import Derived.RowKit3
import Derived.Deep.LoopGhost
import Derived.Deep.QuietTactic
import Derived.BigQuiet
import Derived.WideLaws
import Derived.Deep.DeepCutAuto
import Derived.Deep.CutBlock
import Derived.Deep.RegionHeld3
import Derived.Laws.Rows
import Derived.Lib.AppendStr
import Derived.ArgAppend
import Derived.Laws.IdiomCopy
import Derived.OrdersHeld
import Derived.Laws.BitsLemmas
import Derived.RowKit
import Derived.WalkSpells
import Derived.Shelf.Strings.Builder1
import Derived.Shelf.Strings.Builder2
import Derived.Shelf.Small.Bits
import Derived.Shelf.Strconv.Itoa0
import Derived.Ground.Names2Prog
import Derived.Shelf.Slices.Clone
import Derived.Shelf.Slices.SearchI
import Derived.Ground.SlgnProg
import Derived.Shelf.SlicesE.Clone
import Derived.Lib.AppendIntMem
import Derived.Laws.StructEq
import Derived.Test.YthfefanapneocaaKFnExactOrderMatters2
namespace Go.Proofs.Ythfefanapneocaa.Q
open Go.RowKit Go.Proofs.YthfefanapneocaaW.PrintWords Go.Proofs.YthfefanapneocaaW.PrintLast Go.Proofs.YthfefanapneocaaW.PrintMore
attribute [local go_sem] max2_int min2_int max_two min_two max_three min_three max_four min_four
set_option linter.unusedVariables false
set_option linter.unusedSimpArgs false
set_option maxRecDepth 100000
set_option maxHeartbeats 8000000
def spec_ProtestOk.f (k : Nat) (l0_0 : List (S139)) (a0_1 : Int) (a0_2 : Int) (a0_3 : Int) (l0_4 : List Int) (a0_5 : Bool) (l0_6 : List (S95)) (l0_7 : List Int) (l0_8 : List Int) (a1_0 : Int) (a1_1 : Int) (a1_2 : Bool) : Option (Bool) := (spec_BookOk.f k l0_0 a0_1 a0_2 a0_3 l0_4 a0_5 l0_6 l0_7 l0_8).bind fun t192 => (if t192 = true then ((spec_l01In.f a1_1 0 (wrap64 ((l0_6.length : Int) - 1))).bind fun t193 => (if t193 = true then (if 0 ≤ a1_1 then (if a1_1 < (l0_6.length : Int) then (if ((rd_T95 l0_6 a1_1).f4) = 1 then (if ((rd_T95 l0_6 a1_1).f0) = a1_0 then (some true) else (some (((rd_T95 l0_6 a1_1).f1) == a1_0))) else (if ((rd_T95 l0_6 a1_1).f4) = 2 then (if ((rd_T95 l0_6 a1_1).f0) = a1_0 then (some true) else (some (((rd_T95 l0_6 a1_1).f1) == a1_0))) else (if ((rd_T95 l0_6 a1_1).f4) = 3 then (if ((rd_T95 l0_6 a1_1).f0) = a1_0 then (some true) else (some (((rd_T95 l0_6 a1_1).f1) == a1_0))) else (some false)))) else (none)) else (none)) else (some false))) else (some false))
theorem spec_ProtestOk.calls (k : Nat) (A0_0 : Option Addr) (c0_0 : Nat) (l0_0 : List (S139)) (a0_1 : Int) (a0_2 : Int) (a0_3 : Int) (A0_4 : Option Addr) (c0_4 : Nat) (l0_4 : List Int) (a0_5 : Bool) (A0_6 : Option Addr) (c0_6 : Nat) (l0_6 : List (S95)) (A0_7 : Option Addr) (c0_7 : Nat) (l0_7 : List Int) (A0_8 : Option Addr) (c0_8 : Nat) (l0_8 : List Int) (a1_0 : Int) (a1_1 : Int) (a1_2 : Bool) (r : Bool) (w : World) (hr0_0 : Kd.C k139 w A0_0 l0_0.length l0_0) (hc0_0 : l0_0.length ≤ c0_0) (hr0_4 : Kd.C (Kd.int .i64) w A0_4 l0_4.length l0_4) (hc0_4 : l0_4.length ≤ c0_4) (hr0_6 : Kd.C k95 w A0_6 l0_6.length l0_6) (hc0_6 : l0_6.length ≤ c0_6) (hr0_7 : Kd.C (Kd.int .i64) w A0_7 l0_7.length l0_7) (hc0_7 : l0_7.length ≤ c0_7) (hr0_8 : Kd.C (Kd.int .i64) w A0_8 l0_8.length l0_8) (hc0_8 : l0_8.length ≤ c0_8) (h : spec_ProtestOk.f k l0_0 a0_1 a0_2 a0_3 l0_4 a0_5 l0_6 l0_7 l0_8 a1_0 a1_1 a1_2 = some r) :
  Calls Try.prog 57 #[.agg #[.slice A0_0 l0_0.length c0_0, .int .i64 a0_1, .int .i64 a0_2, .int .i64 a0_3, .slice A0_4 l0_4.length c0_4, .bool a0_5, .slice A0_6 l0_6.length c0_6, .slice A0_7 l0_7.length c0_7, .slice A0_8 l0_8.length c0_8], .agg #[.int .i64 a1_0, .int .i64 a1_1, .bool a1_2]] w fun e w' => e = .returned (.bool r) ∧ Below w.heap.size w w' := by
 have hu36 := Try.underlying36
 have hu50 := Try.underlying50
 have hu95 := Try.underlying95
 have HR0_0 := Aside0.mk hr0_0
 have HC0_0 := Aside0.mk hc0_0
 clear hr0_0 hc0_0
 have HR0_4 := Aside0.mk hr0_4
 have HC0_4 := Aside0.mk hc0_4
 clear hr0_4 hc0_4
 have HR0_6 := Aside0.mk hr0_6
 have HC0_6 := Aside0.mk hc0_6
 clear hr0_6 hc0_6
 have HR0_7 := Aside0.mk hr0_7
 have HC0_7 := Aside0.mk hc0_7
 clear hr0_7 hc0_7
 have HR0_8 := Aside0.mk hr0_8
 have HC0_8 := Aside0.mk hc0_8
 clear hr0_8 hc0_8
 have HB := Aside0.mk (Below.refl w.heap.size w)
 have H : ((spec_BookOk.f k l0_0 a0_1 a0_2 a0_3 l0_4 a0_5 l0_6 l0_7 l0_8).bind fun t192 => (if t192 = true then ((spec_l01In.f a1_1 0 (wrap64 ((l0_6.length : Int) - 1))).bind fun t193 => (if t193 = true then (if 0 ≤ a1_1 then (if a1_1 < (l0_6.length : Int) then (if ((rd_T95 l0_6 a1_1).f4) = 1 then (if ((rd_T95 l0_6 a1_1).f0) = a1_0 then (some true) else (some (((rd_T95 l0_6 a1_1).f1) == a1_0))) else (if ((rd_T95 l0_6 a1_1).f4) = 2 then (if ((rd_T95 l0_6 a1_1).f0) = a1_0 then (some true) else (some (((rd_T95 l0_6 a1_1).f1) == a1_0))) else (if ((rd_T95 l0_6 a1_1).f4) = 3 then (if ((rd_T95 l0_6 a1_1).f0) = a1_0 then (some true) else (some (((rd_T95 l0_6 a1_1).f1) == a1_0))) else (some false)))) else (none)) else (none)) else (some false))) else (some false))) = some r := h
 clear h
 replace H := Option.bind_eq_some_iff.mp H
 obtain ⟨t192, A30, H⟩ := H
 try dsimp only at H
 have A3 := Aside0.mk A30
 clear A30
 by_cases c4 : t192 = true
 ·subst c4
  rw [if_pos rfl] at H
  replace H := Option.bind_eq_some_iff.mp H
  obtain ⟨t193, A50, H⟩ := H
  try dsimp only at H
  have A5 := Aside0.mk A50
  clear A50
  by_cases c6 : t193 = true
  ·subst c6
   rw [if_pos rfl] at H
   by_cases c7 : 0 ≤ a1_1
   ·rw [if_pos c7] at H
    have c7b0 : decide (0 ≤ a1_1) = true := decide_eq_true c7
    clear c7
    by_cases c8 : a1_1 < (l0_6.length : Int)
    ·rw [if_pos c8] at H
     have c8b0 : decide (a1_1 < (l0_6.length : Int)) = true := decide_eq_true c8
     clear c8
     by_cases c9 : ((rd_T95 l0_6 a1_1).f4) = 1
     ·rw [if_pos c9] at H
      have c9b0 : (((rd_T95 l0_6 a1_1).f4) == 1) = true := beq_iff_eq.mpr c9
      have c9b1 : (((rd_T95 l0_6 a1_1).f4) != 1) = false := bne_eq_false_iff_eq.mpr c9
      clear c9
      by_cases c10 : ((rd_T95 l0_6 a1_1).f0) = a1_0
      ·rw [if_pos c10] at H
       have c10b0 : (((rd_T95 l0_6 a1_1).f0) == a1_0) = true := beq_iff_eq.mpr c10
       have c10b1 : (((rd_T95 l0_6 a1_1).f0) != a1_0) = false := bne_eq_false_iff_eq.mpr c10
       clear c10
       obtain rfl := Option.some.inj H
       go_enter Try.func57, Try.ntmps57
       go_wp2_with (first | ((with_reducible refine gate_dst (N := 2) rfl ?_); (try (refine gate_guard (by rfl) ?_; dsimp only)); refine bx (N := 2) (cs := #[.slice A0_0 l0_0.length c0_0, .int .i64 a0_1, .int .i64 a0_2, .int .i64 a0_3, .slice A0_4 l0_4.length c0_4, .bool a0_5, .slice A0_6 l0_6.length c0_6, .slice A0_7 l0_7.length c0_7, .slice A0_8 l0_8.length c0_8]) (t := 36) ?_; intro gb190 hg w11 hbox hb; have BK190 := Aside0.mk (hbox); have GW190 := gs hg HB; have GE190 := gs hg HB; replace HB := hs_ HB hb; clear hb hbox hg) | ((with_reducible refine gate_dst (N := 3) rfl ?_); (try (refine gate_guard (by rfl) ?_; dsimp only)); refine bx (N := 3) (cs := #[.int .i64 a1_0, .int .i64 a1_1, .bool a1_2]) (t := 50) ?_; intro gb191 hg w12 hbox hb; have BK191 := Aside0.mk (hbox); have GW191 := gs hg HB; have GE191 := gs hg HB; replace HB := hs_ HB hb; have NB190_191 := gn hg BK190; have NB191_190 := gm hg BK190; replace BK190 := kb BK190 hb; clear hb hbox hg; have hnb13 := NB190_191.out; have hnc13 := NB191_190.out; have ⟨z14_0, z14_1, z14_2, z14_3, z14_4, z14_5, z14_6, z14_7, z14_8, v14_0, v14_1, v14_2, v14_3, v14_4, v14_5, v14_6, v14_7, v14_8⟩ := rz9 BK190) | ((with_reducible refine gate_callee (f := 55) rfl ?_); refine gl (some 7) Try.func55 #[.agg #[.slice A0_0 l0_0.length c0_0, .int .i64 a0_1, .int .i64 a0_2, .int .i64 a0_3, .slice A0_4 l0_4.length c0_4, .bool a0_5, .slice A0_6 l0_6.length c0_6, .slice A0_7 l0_7.length c0_7, .slice A0_8 l0_8.length c0_8]] ?_; (with_reducible refine (spec_BookOk.calls k _ _ l0_0 a0_1 a0_2 a0_3 _ _ l0_4 a0_5 _ _ l0_6 _ _ l0_7 _ _ l0_8 true _ ?side1 ?side2 ?side3 ?side4 ?side5 ?side6 ?side7 ?side8 ?side9 ?side10 A3.out).mono ?_); (case side1 => exact cc HR0_0 HB); (case side2 => exact HC0_0.out); (case side3 => exact cc HR0_4 HB); (case side4 => exact HC0_4.out); (case side5 => exact cc HR0_6 HB); (case side6 => exact HC0_6.out); (case side7 => exact cc HR0_7 HB); (case side8 => exact HC0_7.out); (case side9 => exact cc HR0_8 HB); (case side10 => exact HC0_8.out); rintro e w15 ⟨rfl, hb⟩; refine ⟨_, rfl, ?_⟩; replace BK190 := kb BK190 hb; replace BK191 := kb BK191 hb; replace HB := hs_ HB hb; (try clear hb hb2 hk hi); have ⟨z16_0, z16_1, z16_2, v16_0, v16_1, v16_2⟩ := rz3 BK191; have ⟨z17_0, z17_1, z17_2, z17_3, z17_4, z17_5, z17_6, z17_7, z17_8, v17_0, v17_1, v17_2, v17_3, v17_4, v17_5, v17_6, v17_7, v17_8⟩ := rz9 BK190) | (go_at_call 76; (with_reducible refine (spec_l01In.calls a1_1 0 (wrap64 ((l0_6.length : Int) - 1)) true _ A5.out).mono ?_); rintro e w' ⟨rfl, ⟨nd, rfl⟩⟩; (try (rw [drewN_self w15]; generalize hq_ : World.drewN w15 _ = w15; have n0_ : Aside0 (w15.heap[gb190]? = some (.cells #[.slice A0_0 l0_0.length c0_0, .int .i64 a0_1, .int .i64 a0_2, .int .i64 a0_3, .slice A0_4 l0_4.length c0_4, .bool a0_5, .slice A0_6 l0_6.length c0_6, .slice A0_7 l0_7.length c0_7, .slice A0_8 l0_8.length c0_8] 36 (0, 0))) := ⟨by rw [← hq_]; exact (bk BK190)⟩; have n1_ : Aside0 (w15.heap[gb191]? = some (.cells #[.int .i64 a1_0, .int .i64 a1_1, .bool a1_2] 50 (0, 0))) := ⟨by rw [← hq_]; exact (bk BK191)⟩; have n2_ : Aside0 (Below w.heap.size w w15) := ⟨by rw [← hq_]; exact (bb HB)⟩; clear BK190 BK191 HB hq_; have BK190 := n0_; have BK191 := n1_; have HB := n2_; clear n0_ n1_ n2_)); have ⟨z18_0, z18_1, z18_2, z18_3, z18_4, z18_5, z18_6, z18_7, z18_8, v18_0, v18_1, v18_2, v18_3, v18_4, v18_5, v18_6, v18_7, v18_8⟩ := rz9 BK190; have ⟨z19_0, z19_1, z19_2, v19_0, v19_1, v19_2⟩ := rz3 BK191; have p194 : 0 ≤ (a1_1 : Int) := oa; have q194 : a1_1 < (l0_6.length : Int) := oa; obtain ⟨ad194, e194, hx194_0, hx194_1, hx194_2, hx194_3, hx194_4⟩ := at_T95 HR0_6.out a1_1 p194 q194; cases e194; replace hx194_0 := hc HB hx194_0; replace hx194_1 := hc HB hx194_1; replace hx194_2 := hc HB hx194_2; replace hx194_3 := hc HB hx194_3; replace hx194_4 := hc HB hx194_4; replace p194 := eq_true p194; replace q194 := eq_true q194) | ((with_reducible refine gate_dst (N := 5) rfl ?_); (try (refine gate_guard (by rfl) ?_; dsimp only)); refine bx (N := 5) (cs := #[.int .i64 0, .int .i64 0, .int .i64 0, .int .i64 0, .int .i64 0]) (t := 95) ?_; intro gb195 hg w20 hbox hb; have BK195 := Aside0.mk (hbox); have GW195 := gs hg HB; have GE195 := gs hg HB; replace HB := hs_ HB hb; have NB190_195 := gn hg BK190; have NB195_190 := gm hg BK190; replace BK190 := kb BK190 hb; have NB191_195 := gn hg BK191; have NB195_191 := gm hg BK191; replace BK191 := kb BK191 hb; clear hb hbox hg; have hnb21 := NB195_190.out; have hnc21 := NB190_195.out; have hnb22 := NB195_191.out; have hnc22 := NB191_195.out; have ⟨z23_0, z23_1, z23_2, z23_3, z23_4, v23_0, v23_1, v23_2, v23_3, v23_4⟩ := rz5 BK195; have ⟨z24_0, z24_1, z24_2, v24_0, v24_1, v24_2⟩ := rz3 BK191))
       go_ret
       exact ⟨ee, bb HB⟩
      ·rw [if_neg c10] at H
       have c10b0 : (((rd_T95 l0_6 a1_1).f0) == a1_0) = false := beq_eq_false_iff_ne.mpr c10
       have c10b1 : (((rd_T95 l0_6 a1_1).f0) != a1_0) = true := bne_iff_ne.mpr c10
       obtain rfl := Option.some.inj H
       go_enter Try.func57, Try.ntmps57
       go_wp2_with (first | ((with_reducible refine gate_dst (N := 2) rfl ?_); (try (refine gate_guard (by rfl) ?_; dsimp only)); refine bx (N := 2) (cs := #[.slice A0_0 l0_0.length c0_0, .int .i64 a0_1, .int .i64 a0_2, .int .i64 a0_3, .slice A0_4 l0_4.length c0_4, .bool a0_5, .slice A0_6 l0_6.length c0_6, .slice A0_7 l0_7.length c0_7, .slice A0_8 l0_8.length c0_8]) (t := 36) ?_; intro gb190 hg w25 hbox hb; have BK190 := Aside0.mk (hbox); have GW190 := gs hg HB; have GE190 := gs hg HB; replace HB := hs_ HB hb; clear hb hbox hg) | ((with_reducible refine gate_dst (N := 3) rfl ?_); (try (refine gate_guard (by rfl) ?_; dsimp only)); refine bx (N := 3) (cs := #[.int .i64 a1_0, .int .i64 a1_1, .bool a1_2]) (t := 50) ?_; intro gb191 hg w26 hbox hb; have BK191 := Aside0.mk (hbox); have GW191 := gs hg HB; have GE191 := gs hg HB; replace HB := hs_ HB hb; have NB190_191 := gn hg BK190; have NB191_190 := gm hg BK190; replace BK190 := kb BK190 hb; clear hb hbox hg; have hnb27 := NB190_191.out; have hnc27 := NB191_190.out; have ⟨z28_0, z28_1, z28_2, z28_3, z28_4, z28_5, z28_6, z28_7, z28_8, v28_0, v28_1, v28_2, v28_3, v28_4, v28_5, v28_6, v28_7, v28_8⟩ := rz9 BK190) | ((with_reducible refine gate_callee (f := 55) rfl ?_); refine gl (some 7) Try.func55 #[.agg #[.slice A0_0 l0_0.length c0_0, .int .i64 a0_1, .int .i64 a0_2, .int .i64 a0_3, .slice A0_4 l0_4.length c0_4, .bool a0_5, .slice A0_6 l0_6.length c0_6, .slice A0_7 l0_7.length c0_7, .slice A0_8 l0_8.length c0_8]] ?_; (with_reducible refine (spec_BookOk.calls k _ _ l0_0 a0_1 a0_2 a0_3 _ _ l0_4 a0_5 _ _ l0_6 _ _ l0_7 _ _ l0_8 true _ ?side1 ?side2 ?side3 ?side4 ?side5 ?side6 ?side7 ?side8 ?side9 ?side10 A3.out).mono ?_); (case side1 => exact cc HR0_0 HB); (case side2 => exact HC0_0.out); (case side3 => exact cc HR0_4 HB); (case side4 => exact HC0_4.out); (case side5 => exact cc HR0_6 HB); (case side6 => exact HC0_6.out); (case side7 => exact cc HR0_7 HB); (case side8 => exact HC0_7.out); (case side9 => exact cc HR0_8 HB); (case side10 => exact HC0_8.out); rintro e w29 ⟨rfl, hb⟩; refine ⟨_, rfl, ?_⟩; replace BK190 := kb BK190 hb; replace BK191 := kb BK191 hb; replace HB := hs_ HB hb; (try clear hb hb2 hk hi); have ⟨z30_0, z30_1, z30_2, v30_0, v30_1, v30_2⟩ := rz3 BK191; have ⟨z31_0, z31_1, z31_2, z31_3, z31_4, z31_5, z31_6, z31_7, z31_8, v31_0, v31_1, v31_2, v31_3, v31_4, v31_5, v31_6, v31_7, v31_8⟩ := rz9 BK190) | (go_at_call 76; (with_reducible refine (spec_l01In.calls a1_1 0 (wrap64 ((l0_6.length : Int) - 1)) true _ A5.out).mono ?_); rintro e w' ⟨rfl, ⟨nd, rfl⟩⟩; (try (rw [drewN_self w29]; generalize hq_ : World.drewN w29 _ = w29; have n0_ : Aside0 (w29.heap[gb190]? = some (.cells #[.slice A0_0 l0_0.length c0_0, .int .i64 a0_1, .int .i64 a0_2, .int .i64 a0_3, .slice A0_4 l0_4.length c0_4, .bool a0_5, .slice A0_6 l0_6.length c0_6, .slice A0_7 l0_7.length c0_7, .slice A0_8 l0_8.length c0_8] 36 (0, 0))) := ⟨by rw [← hq_]; exact (bk BK190)⟩; have n1_ : Aside0 (w29.heap[gb191]? = some (.cells #[.int .i64 a1_0, .int .i64 a1_1, .bool a1_2] 50 (0, 0))) := ⟨by rw [← hq_]; exact (bk BK191)⟩; have n2_ : Aside0 (Below w.heap.size w w29) := ⟨by rw [← hq_]; exact (bb HB)⟩; clear BK190 BK191 HB hq_; have BK190 := n0_; have BK191 := n1_; have HB := n2_; clear n0_ n1_ n2_)); have ⟨z32_0, z32_1, z32_2, z32_3, z32_4, z32_5, z32_6, z32_7, z32_8, v32_0, v32_1, v32_2, v32_3, v32_4, v32_5, v32_6, v32_7, v32_8⟩ := rz9 BK190; have ⟨z33_0, z33_1, z33_2, v33_0, v33_1, v33_2⟩ := rz3 BK191; have p194 : 0 ≤ (a1_1 : Int) := oa; have q194 : a1_1 < (l0_6.length : Int) := oa; obtain ⟨ad194, e194, hx194_0, hx194_1, hx194_2, hx194_3, hx194_4⟩ := at_T95 HR0_6.out a1_1 p194 q194; cases e194; replace hx194_0 := hc HB hx194_0; replace hx194_1 := hc HB hx194_1; replace hx194_2 := hc HB hx194_2; replace hx194_3 := hc HB hx194_3; replace hx194_4 := hc HB hx194_4; replace p194 := eq_true p194; replace q194 := eq_true q194) | ((with_reducible refine gate_dst (N := 5) rfl ?_); (try (refine gate_guard (by rfl) ?_; dsimp only)); refine bx (N := 5) (cs := #[.int .i64 0, .int .i64 0, .int .i64 0, .int .i64 0, .int .i64 0]) (t := 95) ?_; intro gb195 hg w34 hbox hb; have BK195 := Aside0.mk (hbox); have GW195 := gs hg HB; have GE195 := gs hg HB; replace HB := hs_ HB hb; have NB190_195 := gn hg BK190; have NB195_190 := gm hg BK190; replace BK190 := kb BK190 hb; have NB191_195 := gn hg BK191; have NB195_191 := gm hg BK191; replace BK191 := kb BK191 hb; clear hb hbox hg; have hnb35 := NB195_190.out; have hnc35 := NB190_195.out; have hnb36 := NB195_191.out; have hnc36 := NB191_195.out; have ⟨z37_0, z37_1, z37_2, z37_3, z37_4, v37_0, v37_1, v37_2, v37_3, v37_4⟩ := rz5 BK195; have ⟨z38_0, z38_1, z38_2, v38_0, v38_1, v38_2⟩ := rz3 BK191))
       go_ret
       exact ⟨ee, bb HB⟩
     ·rw [if_neg c9] at H
      have c9b0 : (((rd_T95 l0_6 a1_1).f4) == 1) = false := beq_eq_false_iff_ne.mpr c9
      have c9b1 : (((rd_T95 l0_6 a1_1).f4) != 1) = true := bne_iff_ne.mpr c9
      by_cases c39 : ((rd_T95 l0_6 a1_1).f4) = 2
      ·rw [if_pos c39] at H
       have c39b0 : (((rd_T95 l0_6 a1_1).f4) == 2) = true := beq_iff_eq.mpr c39
       have c39b1 : (((rd_T95 l0_6 a1_1).f4) != 2) = false := bne_eq_false_iff_eq.mpr c39
       clear c39
       by_cases c40 : ((rd_T95 l0_6 a1_1).f0) = a1_0
       ·rw [if_pos c40] at H
        have c40b0 : (((rd_T95 l0_6 a1_1).f0) == a1_0) = true := beq_iff_eq.mpr c40
        have c40b1 : (((rd_T95 l0_6 a1_1).f0) != a1_0) = false := bne_eq_false_iff_eq.mpr c40
        clear c40
        obtain rfl := Option.some.inj H
        go_enter Try.func57, Try.ntmps57
        go_wp2_with (first | ((with_reducible refine gate_dst (N := 2) rfl ?_); (try (refine gate_guard (by rfl) ?_; dsimp only)); refine bx (N := 2) (cs := #[.slice A0_0 l0_0.length c0_0, .int .i64 a0_1, .int .i64 a0_2, .int .i64 a0_3, .slice A0_4 l0_4.length c0_4, .bool a0_5, .slice A0_6 l0_6.length c0_6, .slice A0_7 l0_7.length c0_7, .slice A0_8 l0_8.length c0_8]) (t := 36) ?_; intro gb190 hg w41 hbox hb; have BK190 := Aside0.mk (hbox); have GW190 := gs hg HB; have GE190 := gs hg HB; replace HB := hs_ HB hb; clear hb hbox hg) | ((with_reducible refine gate_dst (N := 3) rfl ?_); (try (refine gate_guard (by rfl) ?_; dsimp only)); refine bx (N := 3) (cs := #[.int .i64 a1_0, .int .i64 a1_1, .bool a1_2]) (t := 50) ?_; intro gb191 hg w42 hbox hb; have BK191 := Aside0.mk (hbox); have GW191 := gs hg HB; have GE191 := gs hg HB; replace HB := hs_ HB hb; have NB190_191 := gn hg BK190; have NB191_190 := gm hg BK190; replace BK190 := kb BK190 hb; clear hb hbox hg; have hnb43 := NB190_191.out; have hnc43 := NB191_190.out; have ⟨z44_0, z44_1, z44_2, z44_3, z44_4, z44_5, z44_6, z44_7, z44_8, v44_0, v44_1, v44_2, v44_3, v44_4, v44_5, v44_6, v44_7, v44_8⟩ := rz9 BK190) | ((with_reducible refine gate_callee (f := 55) rfl ?_); refine gl (some 7) Try.func55 #[.agg #[.slice A0_0 l0_0.length c0_0, .int .i64 a0_1, .int .i64 a0_2, .int .i64 a0_3, .slice A0_4 l0_4.length c0_4, .bool a0_5, .slice A0_6 l0_6.length c0_6, .slice A0_7 l0_7.length c0_7, .slice A0_8 l0_8.length c0_8]] ?_; (with_reducible refine (spec_BookOk.calls k _ _ l0_0 a0_1 a0_2 a0_3 _ _ l0_4 a0_5 _ _ l0_6 _ _ l0_7 _ _ l0_8 true _ ?side1 ?side2 ?side3 ?side4 ?side5 ?side6 ?side7 ?side8 ?side9 ?side10 A3.out).mono ?_); (case side1 => exact cc HR0_0 HB); (case side2 => exact HC0_0.out); (case side3 => exact cc HR0_4 HB); (case side4 => exact HC0_4.out); (case side5 => exact cc HR0_6 HB); (case side6 => exact HC0_6.out); (case side7 => exact cc HR0_7 HB); (case side8 => exact HC0_7.out); (case side9 => exact cc HR0_8 HB); (case side10 => exact HC0_8.out); rintro e w45 ⟨rfl, hb⟩; refine ⟨_, rfl, ?_⟩; replace BK190 := kb BK190 hb; replace BK191 := kb BK191 hb; replace HB := hs_ HB hb; (try clear hb hb2 hk hi); have ⟨z46_0, z46_1, z46_2, v46_0, v46_1, v46_2⟩ := rz3 BK191; have ⟨z47_0, z47_1, z47_2, z47_3, z47_4, z47_5, z47_6, z47_7, z47_8, v47_0, v47_1, v47_2, v47_3, v47_4, v47_5, v47_6, v47_7, v47_8⟩ := rz9 BK190) | (go_at_call 76; (with_reducible refine (spec_l01In.calls a1_1 0 (wrap64 ((l0_6.length : Int) - 1)) true _ A5.out).mono ?_); rintro e w' ⟨rfl, ⟨nd, rfl⟩⟩; (try (rw [drewN_self w45]; generalize hq_ : World.drewN w45 _ = w45; have n0_ : Aside0 (w45.heap[gb190]? = some (.cells #[.slice A0_0 l0_0.length c0_0, .int .i64 a0_1, .int .i64 a0_2, .int .i64 a0_3, .slice A0_4 l0_4.length c0_4, .bool a0_5, .slice A0_6 l0_6.length c0_6, .slice A0_7 l0_7.length c0_7, .slice A0_8 l0_8.length c0_8] 36 (0, 0))) := ⟨by rw [← hq_]; exact (bk BK190)⟩; have n1_ : Aside0 (w45.heap[gb191]? = some (.cells #[.int .i64 a1_0, .int .i64 a1_1, .bool a1_2] 50 (0, 0))) := ⟨by rw [← hq_]; exact (bk BK191)⟩; have n2_ : Aside0 (Below w.heap.size w w45) := ⟨by rw [← hq_]; exact (bb HB)⟩; clear BK190 BK191 HB hq_; have BK190 := n0_; have BK191 := n1_; have HB := n2_; clear n0_ n1_ n2_)); have ⟨z48_0, z48_1, z48_2, z48_3, z48_4, z48_5, z48_6, z48_7, z48_8, v48_0, v48_1, v48_2, v48_3, v48_4, v48_5, v48_6, v48_7, v48_8⟩ := rz9 BK190; have ⟨z49_0, z49_1, z49_2, v49_0, v49_1, v49_2⟩ := rz3 BK191; have p194 : 0 ≤ (a1_1 : Int) := oa; have q194 : a1_1 < (l0_6.length : Int) := oa; obtain ⟨ad194, e194, hx194_0, hx194_1, hx194_2, hx194_3, hx194_4⟩ := at_T95 HR0_6.out a1_1 p194 q194; cases e194; replace hx194_0 := hc HB hx194_0; replace hx194_1 := hc HB hx194_1; replace hx194_2 := hc HB hx194_2; replace hx194_3 := hc HB hx194_3; replace hx194_4 := hc HB hx194_4; replace p194 := eq_true p194; replace q194 := eq_true q194) | ((with_reducible refine gate_dst (N := 5) rfl ?_); (try (refine gate_guard (by rfl) ?_; dsimp only)); refine bx (N := 5) (cs := #[.int .i64 0, .int .i64 0, .int .i64 0, .int .i64 0, .int .i64 0]) (t := 95) ?_; intro gb195 hg w50 hbox hb; have BK195 := Aside0.mk (hbox); have GW195 := gs hg HB; have GE195 := gs hg HB; replace HB := hs_ HB hb; have NB190_195 := gn hg BK190; have NB195_190 := gm hg BK190; replace BK190 := kb BK190 hb; have NB191_195 := gn hg BK191; have NB195_191 := gm hg BK191; replace BK191 := kb BK191 hb; clear hb hbox hg; have hnb51 := NB195_190.out; have hnc51 := NB190_195.out; have hnb52 := NB195_191.out; have hnc52 := NB191_195.out; have ⟨z53_0, z53_1, z53_2, z53_3, z53_4, v53_0, v53_1, v53_2, v53_3, v53_4⟩ := rz5 BK195; have ⟨z54_0, z54_1, z54_2, v54_0, v54_1, v54_2⟩ := rz3 BK191))
        go_ret
        exact ⟨ee, bb HB⟩
       ·rw [if_neg c40] at H
        have c40b0 : (((rd_T95 l0_6 a1_1).f0) == a1_0) = false := beq_eq_false_iff_ne.mpr c40
        have c40b1 : (((rd_T95 l0_6 a1_1).f0) != a1_0) = true := bne_iff_ne.mpr c40
        obtain rfl := Option.some.inj H
        go_enter Try.func57, Try.ntmps57
        go_wp2_with (first | ((with_reducible refine gate_dst (N := 2) rfl ?_); (try (refine gate_guard (by rfl) ?_; dsimp only)); refine bx (N := 2) (cs := #[.slice A0_0 l0_0.length c0_0, .int .i64 a0_1, .int .i64 a0_2, .int .i64 a0_3, .slice A0_4 l0_4.length c0_4, .bool a0_5, .slice A0_6 l0_6.length c0_6, .slice A0_7 l0_7.length c0_7, .slice A0_8 l0_8.length c0_8]) (t := 36) ?_; intro gb190 hg w55 hbox hb; have BK190 := Aside0.mk (hbox); have GW190 := gs hg HB; have GE190 := gs hg HB; replace HB := hs_ HB hb; clear hb hbox hg) | ((with_reducible refine gate_dst (N := 3) rfl ?_); (try (refine gate_guard (by rfl) ?_; dsimp only)); refine bx (N := 3) (cs := #[.int .i64 a1_0, .int .i64 a1_1, .bool a1_2]) (t := 50) ?_; intro gb191 hg w56 hbox hb; have BK191 := Aside0.mk (hbox); have GW191 := gs hg HB; have GE191 := gs hg HB; replace HB := hs_ HB hb; have NB190_191 := gn hg BK190; have NB191_190 := gm hg BK190; replace BK190 := kb BK190 hb; clear hb hbox hg; have hnb57 := NB190_191.out; have hnc57 := NB191_190.out; have ⟨z58_0, z58_1, z58_2, z58_3, z58_4, z58_5, z58_6, z58_7, z58_8, v58_0, v58_1, v58_2, v58_3, v58_4, v58_5, v58_6, v58_7, v58_8⟩ := rz9 BK190) | ((with_reducible refine gate_callee (f := 55) rfl ?_); refine gl (some 7) Try.func55 #[.agg #[.slice A0_0 l0_0.length c0_0, .int .i64 a0_1, .int .i64 a0_2, .int .i64 a0_3, .slice A0_4 l0_4.length c0_4, .bool a0_5, .slice A0_6 l0_6.length c0_6, .slice A0_7 l0_7.length c0_7, .slice A0_8 l0_8.length c0_8]] ?_; (with_reducible refine (spec_BookOk.calls k _ _ l0_0 a0_1 a0_2 a0_3 _ _ l0_4 a0_5 _ _ l0_6 _ _ l0_7 _ _ l0_8 true _ ?side1 ?side2 ?side3 ?side4 ?side5 ?side6 ?side7 ?side8 ?side9 ?side10 A3.out).mono ?_); (case side1 => exact cc HR0_0 HB); (case side2 => exact HC0_0.out); (case side3 => exact cc HR0_4 HB); (case side4 => exact HC0_4.out); (case side5 => exact cc HR0_6 HB); (case side6 => exact HC0_6.out); (case side7 => exact cc HR0_7 HB); (case side8 => exact HC0_7.out); (case side9 => exact cc HR0_8 HB); (case side10 => exact HC0_8.out); rintro e w59 ⟨rfl, hb⟩; refine ⟨_, rfl, ?_⟩; replace BK190 := kb BK190 hb; replace BK191 := kb BK191 hb; replace HB := hs_ HB hb; (try clear hb hb2 hk hi); have ⟨z60_0, z60_1, z60_2, v60_0, v60_1, v60_2⟩ := rz3 BK191; have ⟨z61_0, z61_1, z61_2, z61_3, z61_4, z61_5, z61_6, z61_7, z61_8, v61_0, v61_1, v61_2, v61_3, v61_4, v61_5, v61_6, v61_7, v61_8⟩ := rz9 BK190) | (go_at_call 76; (with_reducible refine (spec_l01In.calls a1_1 0 (wrap64 ((l0_6.length : Int) - 1)) true _ A5.out).mono ?_); rintro e w' ⟨rfl, ⟨nd, rfl⟩⟩; (try (rw [drewN_self w59]; generalize hq_ : World.drewN w59 _ = w59; have n0_ : Aside0 (w59.heap[gb190]? = some (.cells #[.slice A0_0 l0_0.length c0_0, .int .i64 a0_1, .int .i64 a0_2, .int .i64 a0_3, .slice A0_4 l0_4.length c0_4, .bool a0_5, .slice A0_6 l0_6.length c0_6, .slice A0_7 l0_7.length c0_7, .slice A0_8 l0_8.length c0_8] 36 (0, 0))) := ⟨by rw [← hq_]; exact (bk BK190)⟩; have n1_ : Aside0 (w59.heap[gb191]? = some (.cells #[.int .i64 a1_0, .int .i64 a1_1, .bool a1_2] 50 (0, 0))) := ⟨by rw [← hq_]; exact (bk BK191)⟩; have n2_ : Aside0 (Below w.heap.size w w59) := ⟨by rw [← hq_]; exact (bb HB)⟩; clear BK190 BK191 HB hq_; have BK190 := n0_; have BK191 := n1_; have HB := n2_; clear n0_ n1_ n2_)); have ⟨z62_0, z62_1, z62_2, z62_3, z62_4, z62_5, z62_6, z62_7, z62_8, v62_0, v62_1, v62_2, v62_3, v62_4, v62_5, v62_6, v62_7, v62_8⟩ := rz9 BK190; have ⟨z63_0, z63_1, z63_2, v63_0, v63_1, v63_2⟩ := rz3 BK191; have p194 : 0 ≤ (a1_1 : Int) := oa; have q194 : a1_1 < (l0_6.length : Int) := oa; obtain ⟨ad194, e194, hx194_0, hx194_1, hx194_2, hx194_3, hx194_4⟩ := at_T95 HR0_6.out a1_1 p194 q194; cases e194; replace hx194_0 := hc HB hx194_0; replace hx194_1 := hc HB hx194_1; replace hx194_2 := hc HB hx194_2; replace hx194_3 := hc HB hx194_3; replace hx194_4 := hc HB hx194_4; replace p194 := eq_true p194; replace q194 := eq_true q194) | ((with_reducible refine gate_dst (N := 5) rfl ?_); (try (refine gate_guard (by rfl) ?_; dsimp only)); refine bx (N := 5) (cs := #[.int .i64 0, .int .i64 0, .int .i64 0, .int .i64 0, .int .i64 0]) (t := 95) ?_; intro gb195 hg w64 hbox hb; have BK195 := Aside0.mk (hbox); have GW195 := gs hg HB; have GE195 := gs hg HB; replace HB := hs_ HB hb; have NB190_195 := gn hg BK190; have NB195_190 := gm hg BK190; replace BK190 := kb BK190 hb; have NB191_195 := gn hg BK191; have NB195_191 := gm hg BK191; replace BK191 := kb BK191 hb; clear hb hbox hg; have hnb65 := NB195_190.out; have hnc65 := NB190_195.out; have hnb66 := NB195_191.out; have hnc66 := NB191_195.out; have ⟨z67_0, z67_1, z67_2, z67_3, z67_4, v67_0, v67_1, v67_2, v67_3, v67_4⟩ := rz5 BK195; have ⟨z68_0, z68_1, z68_2, v68_0, v68_1, v68_2⟩ := rz3 BK191))
        go_ret
        exact ⟨ee, bb HB⟩
      ·rw [if_neg c39] at H
       have c39b0 : (((rd_T95 l0_6 a1_1).f4) == 2) = false := beq_eq_false_iff_ne.mpr c39
       have c39b1 : (((rd_T95 l0_6 a1_1).f4) != 2) = true := bne_iff_ne.mpr c39
       by_cases c69 : ((rd_T95 l0_6 a1_1).f4) = 3
       ·rw [if_pos c69] at H
        have c69b0 : (((rd_T95 l0_6 a1_1).f4) == 3) = true := beq_iff_eq.mpr c69
        have c69b1 : (((rd_T95 l0_6 a1_1).f4) != 3) = false := bne_eq_false_iff_eq.mpr c69
        clear c69
        by_cases c70 : ((rd_T95 l0_6 a1_1).f0) = a1_0
        ·rw [if_pos c70] at H
         have c70b0 : (((rd_T95 l0_6 a1_1).f0) == a1_0) = true := beq_iff_eq.mpr c70
         have c70b1 : (((rd_T95 l0_6 a1_1).f0) != a1_0) = false := bne_eq_false_iff_eq.mpr c70
         clear c70
         obtain rfl := Option.some.inj H
         go_enter Try.func57, Try.ntmps57
         go_wp2_with (first | ((with_reducible refine gate_dst (N := 2) rfl ?_); (try (refine gate_guard (by rfl) ?_; dsimp only)); refine bx (N := 2) (cs := #[.slice A0_0 l0_0.length c0_0, .int .i64 a0_1, .int .i64 a0_2, .int .i64 a0_3, .slice A0_4 l0_4.length c0_4, .bool a0_5, .slice A0_6 l0_6.length c0_6, .slice A0_7 l0_7.length c0_7, .slice A0_8 l0_8.length c0_8]) (t := 36) ?_; intro gb190 hg w71 hbox hb; have BK190 := Aside0.mk (hbox); have GW190 := gs hg HB; have GE190 := gs hg HB; replace HB := hs_ HB hb; clear hb hbox hg) | ((with_reducible refine gate_dst (N := 3) rfl ?_); (try (refine gate_guard (by rfl) ?_; dsimp only)); refine bx (N := 3) (cs := #[.int .i64 a1_0, .int .i64 a1_1, .bool a1_2]) (t := 50) ?_; intro gb191 hg w72 hbox hb; have BK191 := Aside0.mk (hbox); have GW191 := gs hg HB; have GE191 := gs hg HB; replace HB := hs_ HB hb; have NB190_191 := gn hg BK190; have NB191_190 := gm hg BK190; replace BK190 := kb BK190 hb; clear hb hbox hg; have hnb73 := NB190_191.out; have hnc73 := NB191_190.out; have ⟨z74_0, z74_1, z74_2, z74_3, z74_4, z74_5, z74_6, z74_7, z74_8, v74_0, v74_1, v74_2, v74_3, v74_4, v74_5, v74_6, v74_7, v74_8⟩ := rz9 BK190) | ((with_reducible refine gate_callee (f := 55) rfl ?_); refine gl (some 7) Try.func55 #[.agg #[.slice A0_0 l0_0.length c0_0, .int .i64 a0_1, .int .i64 a0_2, .int .i64 a0_3, .slice A0_4 l0_4.length c0_4, .bool a0_5, .slice A0_6 l0_6.length c0_6, .slice A0_7 l0_7.length c0_7, .slice A0_8 l0_8.length c0_8]] ?_; (with_reducible refine (spec_BookOk.calls k _ _ l0_0 a0_1 a0_2 a0_3 _ _ l0_4 a0_5 _ _ l0_6 _ _ l0_7 _ _ l0_8 true _ ?side1 ?side2 ?side3 ?side4 ?side5 ?side6 ?side7 ?side8 ?side9 ?side10 A3.out).mono ?_); (case side1 => exact cc HR0_0 HB); (case side2 => exact HC0_0.out); (case side3 => exact cc HR0_4 HB); (case side4 => exact HC0_4.out); (case side5 => exact cc HR0_6 HB); (case side6 => exact HC0_6.out); (case side7 => exact cc HR0_7 HB); (case side8 => exact HC0_7.out); (case side9 => exact cc HR0_8 HB); (case side10 => exact HC0_8.out); rintro e w75 ⟨rfl, hb⟩; refine ⟨_, rfl, ?_⟩; replace BK190 := kb BK190 hb; replace BK191 := kb BK191 hb; replace HB := hs_ HB hb; (try clear hb hb2 hk hi); have ⟨z76_0, z76_1, z76_2, v76_0, v76_1, v76_2⟩ := rz3 BK191; have ⟨z77_0, z77_1, z77_2, z77_3, z77_4, z77_5, z77_6, z77_7, z77_8, v77_0, v77_1, v77_2, v77_3, v77_4, v77_5, v77_6, v77_7, v77_8⟩ := rz9 BK190) | (go_at_call 76; (with_reducible refine (spec_l01In.calls a1_1 0 (wrap64 ((l0_6.length : Int) - 1)) true _ A5.out).mono ?_); rintro e w' ⟨rfl, ⟨nd, rfl⟩⟩; (try (rw [drewN_self w75]; generalize hq_ : World.drewN w75 _ = w75; have n0_ : Aside0 (w75.heap[gb190]? = some (.cells #[.slice A0_0 l0_0.length c0_0, .int .i64 a0_1, .int .i64 a0_2, .int .i64 a0_3, .slice A0_4 l0_4.length c0_4, .bool a0_5, .slice A0_6 l0_6.length c0_6, .slice A0_7 l0_7.length c0_7, .slice A0_8 l0_8.length c0_8] 36 (0, 0))) := ⟨by rw [← hq_]; exact (bk BK190)⟩; have n1_ : Aside0 (w75.heap[gb191]? = some (.cells #[.int .i64 a1_0, .int .i64 a1_1, .bool a1_2] 50 (0, 0))) := ⟨by rw [← hq_]; exact (bk BK191)⟩; have n2_ : Aside0 (Below w.heap.size w w75) := ⟨by rw [← hq_]; exact (bb HB)⟩; clear BK190 BK191 HB hq_; have BK190 := n0_; have BK191 := n1_; have HB := n2_; clear n0_ n1_ n2_)); have ⟨z78_0, z78_1, z78_2, z78_3, z78_4, z78_5, z78_6, z78_7, z78_8, v78_0, v78_1, v78_2, v78_3, v78_4, v78_5, v78_6, v78_7, v78_8⟩ := rz9 BK190; have ⟨z79_0, z79_1, z79_2, v79_0, v79_1, v79_2⟩ := rz3 BK191; have p194 : 0 ≤ (a1_1 : Int) := oa; have q194 : a1_1 < (l0_6.length : Int) := oa; obtain ⟨ad194, e194, hx194_0, hx194_1, hx194_2, hx194_3, hx194_4⟩ := at_T95 HR0_6.out a1_1 p194 q194; cases e194; replace hx194_0 := hc HB hx194_0; replace hx194_1 := hc HB hx194_1; replace hx194_2 := hc HB hx194_2; replace hx194_3 := hc HB hx194_3; replace hx194_4 := hc HB hx194_4; replace p194 := eq_true p194; replace q194 := eq_true q194) | ((with_reducible refine gate_dst (N := 5) rfl ?_); (try (refine gate_guard (by rfl) ?_; dsimp only)); refine bx (N := 5) (cs := #[.int .i64 0, .int .i64 0, .int .i64 0, .int .i64 0, .int .i64 0]) (t := 95) ?_; intro gb195 hg w80 hbox hb; have BK195 := Aside0.mk (hbox); have GW195 := gs hg HB; have GE195 := gs hg HB; replace HB := hs_ HB hb; have NB190_195 := gn hg BK190; have NB195_190 := gm hg BK190; replace BK190 := kb BK190 hb; have NB191_195 := gn hg BK191; have NB195_191 := gm hg BK191; replace BK191 := kb BK191 hb; clear hb hbox hg; have hnb81 := NB195_190.out; have hnc81 := NB190_195.out; have hnb82 := NB195_191.out; have hnc82 := NB191_195.out; have ⟨z83_0, z83_1, z83_2, z83_3, z83_4, v83_0, v83_1, v83_2, v83_3, v83_4⟩ := rz5 BK195; have ⟨z84_0, z84_1, z84_2, v84_0, v84_1, v84_2⟩ := rz3 BK191))
         go_ret
         exact ⟨ee, bb HB⟩
        ·rw [if_neg c70] at H
         have c70b0 : (((rd_T95 l0_6 a1_1).f0) == a1_0) = false := beq_eq_false_iff_ne.mpr c70
         have c70b1 : (((rd_T95 l0_6 a1_1).f0) != a1_0) = true := bne_iff_ne.mpr c70
         obtain rfl := Option.some.inj H
         go_enter Try.func57, Try.ntmps57
         go_wp2_with (first | ((with_reducible refine gate_dst (N := 2) rfl ?_); (try (refine gate_guard (by rfl) ?_; dsimp only)); refine bx (N := 2) (cs := #[.slice A0_0 l0_0.length c0_0, .int .i64 a0_1, .int .i64 a0_2, .int .i64 a0_3, .slice A0_4 l0_4.length c0_4, .bool a0_5, .slice A0_6 l0_6.length c0_6, .slice A0_7 l0_7.length c0_7, .slice A0_8 l0_8.length c0_8]) (t := 36) ?_; intro gb190 hg w85 hbox hb; have BK190 := Aside0.mk (hbox); have GW190 := gs hg HB; have GE190 := gs hg HB; replace HB := hs_ HB hb; clear hb hbox hg) | ((with_reducible refine gate_dst (N := 3) rfl ?_); (try (refine gate_guard (by rfl) ?_; dsimp only)); refine bx (N := 3) (cs := #[.int .i64 a1_0, .int .i64 a1_1, .bool a1_2]) (t := 50) ?_; intro gb191 hg w86 hbox hb; have BK191 := Aside0.mk (hbox); have GW191 := gs hg HB; have GE191 := gs hg HB; replace HB := hs_ HB hb; have NB190_191 := gn hg BK190; have NB191_190 := gm hg BK190; replace BK190 := kb BK190 hb; clear hb hbox hg; have hnb87 := NB190_191.out; have hnc87 := NB191_190.out; have ⟨z88_0, z88_1, z88_2, z88_3, z88_4, z88_5, z88_6, z88_7, z88_8, v88_0, v88_1, v88_2, v88_3, v88_4, v88_5, v88_6, v88_7, v88_8⟩ := rz9 BK190) | ((with_reducible refine gate_callee (f := 55) rfl ?_); refine gl (some 7) Try.func55 #[.agg #[.slice A0_0 l0_0.length c0_0, .int .i64 a0_1, .int .i64 a0_2, .int .i64 a0_3, .slice A0_4 l0_4.length c0_4, .bool a0_5, .slice A0_6 l0_6.length c0_6, .slice A0_7 l0_7.length c0_7, .slice A0_8 l0_8.length c0_8]] ?_; (with_reducible refine (spec_BookOk.calls k _ _ l0_0 a0_1 a0_2 a0_3 _ _ l0_4 a0_5 _ _ l0_6 _ _ l0_7 _ _ l0_8 true _ ?side1 ?side2 ?side3 ?side4 ?side5 ?side6 ?side7 ?side8 ?side9 ?side10 A3.out).mono ?_); (case side1 => exact cc HR0_0 HB); (case side2 => exact HC0_0.out); (case side3 => exact cc HR0_4 HB); (case side4 => exact HC0_4.out); (case side5 => exact cc HR0_6 HB); (case side6 => exact HC0_6.out); (case side7 => exact cc HR0_7 HB); (case side8 => exact HC0_7.out); (case side9 => exact cc HR0_8 HB); (case side10 => exact HC0_8.out); rintro e w89 ⟨rfl, hb⟩; refine ⟨_, rfl, ?_⟩; replace BK190 := kb BK190 hb; replace BK191 := kb BK191 hb; replace HB := hs_ HB hb; (try clear hb hb2 hk hi); have ⟨z90_0, z90_1, z90_2, v90_0, v90_1, v90_2⟩ := rz3 BK191; have ⟨z91_0, z91_1, z91_2, z91_3, z91_4, z91_5, z91_6, z91_7, z91_8, v91_0, v91_1, v91_2, v91_3, v91_4, v91_5, v91_6, v91_7, v91_8⟩ := rz9 BK190) | (go_at_call 76; (with_reducible refine (spec_l01In.calls a1_1 0 (wrap64 ((l0_6.length : Int) - 1)) true _ A5.out).mono ?_); rintro e w' ⟨rfl, ⟨nd, rfl⟩⟩; (try (rw [drewN_self w89]; generalize hq_ : World.drewN w89 _ = w89; have n0_ : Aside0 (w89.heap[gb190]? = some (.cells #[.slice A0_0 l0_0.length c0_0, .int .i64 a0_1, .int .i64 a0_2, .int .i64 a0_3, .slice A0_4 l0_4.length c0_4, .bool a0_5, .slice A0_6 l0_6.length c0_6, .slice A0_7 l0_7.length c0_7, .slice A0_8 l0_8.length c0_8] 36 (0, 0))) := ⟨by rw [← hq_]; exact (bk BK190)⟩; have n1_ : Aside0 (w89.heap[gb191]? = some (.cells #[.int .i64 a1_0, .int .i64 a1_1, .bool a1_2] 50 (0, 0))) := ⟨by rw [← hq_]; exact (bk BK191)⟩; have n2_ : Aside0 (Below w.heap.size w w89) := ⟨by rw [← hq_]; exact (bb HB)⟩; clear BK190 BK191 HB hq_; have BK190 := n0_; have BK191 := n1_; have HB := n2_; clear n0_ n1_ n2_)); have ⟨z92_0, z92_1, z92_2, z92_3, z92_4, z92_5, z92_6, z92_7, z92_8, v92_0, v92_1, v92_2, v92_3, v92_4, v92_5, v92_6, v92_7, v92_8⟩ := rz9 BK190; have ⟨z93_0, z93_1, z93_2, v93_0, v93_1, v93_2⟩ := rz3 BK191; have p194 : 0 ≤ (a1_1 : Int) := oa; have q194 : a1_1 < (l0_6.length : Int) := oa; obtain ⟨ad194, e194, hx194_0, hx194_1, hx194_2, hx194_3, hx194_4⟩ := at_T95 HR0_6.out a1_1 p194 q194; cases e194; replace hx194_0 := hc HB hx194_0; replace hx194_1 := hc HB hx194_1; replace hx194_2 := hc HB hx194_2; replace hx194_3 := hc HB hx194_3; replace hx194_4 := hc HB hx194_4; replace p194 := eq_true p194; replace q194 := eq_true q194) | ((with_reducible refine gate_dst (N := 5) rfl ?_); (try (refine gate_guard (by rfl) ?_; dsimp only)); refine bx (N := 5) (cs := #[.int .i64 0, .int .i64 0, .int .i64 0, .int .i64 0, .int .i64 0]) (t := 95) ?_; intro gb195 hg w94 hbox hb; have BK195 := Aside0.mk (hbox); have GW195 := gs hg HB; have GE195 := gs hg HB; replace HB := hs_ HB hb; have NB190_195 := gn hg BK190; have NB195_190 := gm hg BK190; replace BK190 := kb BK190 hb; have NB191_195 := gn hg BK191; have NB195_191 := gm hg BK191; replace BK191 := kb BK191 hb; clear hb hbox hg; have hnb95 := NB195_190.out; have hnc95 := NB190_195.out; have hnb96 := NB195_191.out; have hnc96 := NB191_195.out; have ⟨z97_0, z97_1, z97_2, z97_3, z97_4, v97_0, v97_1, v97_2, v97_3, v97_4⟩ := rz5 BK195; have ⟨z98_0, z98_1, z98_2, v98_0, v98_1, v98_2⟩ := rz3 BK191))
         go_ret
         exact ⟨ee, bb HB⟩
       ·rw [if_neg c69] at H
        have c69b0 : (((rd_T95 l0_6 a1_1).f4) == 3) = false := beq_eq_false_iff_ne.mpr c69
        have c69b1 : (((rd_T95 l0_6 a1_1).f4) != 3) = true := bne_iff_ne.mpr c69
        obtain rfl := Option.some.inj H
        go_enter Try.func57, Try.ntmps57
        go_wp2_with (first | ((with_reducible refine gate_dst (N := 2) rfl ?_); (try (refine gate_guard (by rfl) ?_; dsimp only)); refine bx (N := 2) (cs := #[.slice A0_0 l0_0.length c0_0, .int .i64 a0_1, .int .i64 a0_2, .int .i64 a0_3, .slice A0_4 l0_4.length c0_4, .bool a0_5, .slice A0_6 l0_6.length c0_6, .slice A0_7 l0_7.length c0_7, .slice A0_8 l0_8.length c0_8]) (t := 36) ?_; intro gb190 hg w99 hbox hb; have BK190 := Aside0.mk (hbox); have GW190 := gs hg HB; have GE190 := gs hg HB; replace HB := hs_ HB hb; clear hb hbox hg) | ((with_reducible refine gate_dst (N := 3) rfl ?_); (try (refine gate_guard (by rfl) ?_; dsimp only)); refine bx (N := 3) (cs := #[.int .i64 a1_0, .int .i64 a1_1, .bool a1_2]) (t := 50) ?_; intro gb191 hg w100 hbox hb; have BK191 := Aside0.mk (hbox); have GW191 := gs hg HB; have GE191 := gs hg HB; replace HB := hs_ HB hb; have NB190_191 := gn hg BK190; have NB191_190 := gm hg BK190; replace BK190 := kb BK190 hb; clear hb hbox hg; have hnb101 := NB190_191.out; have hnc101 := NB191_190.out; have ⟨z102_0, z102_1, z102_2, z102_3, z102_4, z102_5, z102_6, z102_7, z102_8, v102_0, v102_1, v102_2, v102_3, v102_4, v102_5, v102_6, v102_7, v102_8⟩ := rz9 BK190) | ((with_reducible refine gate_callee (f := 55) rfl ?_); refine gl (some 7) Try.func55 #[.agg #[.slice A0_0 l0_0.length c0_0, .int .i64 a0_1, .int .i64 a0_2, .int .i64 a0_3, .slice A0_4 l0_4.length c0_4, .bool a0_5, .slice A0_6 l0_6.length c0_6, .slice A0_7 l0_7.length c0_7, .slice A0_8 l0_8.length c0_8]] ?_; (with_reducible refine (spec_BookOk.calls k _ _ l0_0 a0_1 a0_2 a0_3 _ _ l0_4 a0_5 _ _ l0_6 _ _ l0_7 _ _ l0_8 true _ ?side1 ?side2 ?side3 ?side4 ?side5 ?side6 ?side7 ?side8 ?side9 ?side10 A3.out).mono ?_); (case side1 => exact cc HR0_0 HB); (case side2 => exact HC0_0.out); (case side3 => exact cc HR0_4 HB); (case side4 => exact HC0_4.out); (case side5 => exact cc HR0_6 HB); (case side6 => exact HC0_6.out); (case side7 => exact cc HR0_7 HB); (case side8 => exact HC0_7.out); (case side9 => exact cc HR0_8 HB); (case side10 => exact HC0_8.out); rintro e w103 ⟨rfl, hb⟩; refine ⟨_, rfl, ?_⟩; replace BK190 := kb BK190 hb; replace BK191 := kb BK191 hb; replace HB := hs_ HB hb; (try clear hb hb2 hk hi); have ⟨z104_0, z104_1, z104_2, v104_0, v104_1, v104_2⟩ := rz3 BK191; have ⟨z105_0, z105_1, z105_2, z105_3, z105_4, z105_5, z105_6, z105_7, z105_8, v105_0, v105_1, v105_2, v105_3, v105_4, v105_5, v105_6, v105_7, v105_8⟩ := rz9 BK190) | (go_at_call 76; (with_reducible refine (spec_l01In.calls a1_1 0 (wrap64 ((l0_6.length : Int) - 1)) true _ A5.out).mono ?_); rintro e w' ⟨rfl, ⟨nd, rfl⟩⟩; (try (rw [drewN_self w103]; generalize hq_ : World.drewN w103 _ = w103; have n0_ : Aside0 (w103.heap[gb190]? = some (.cells #[.slice A0_0 l0_0.length c0_0, .int .i64 a0_1, .int .i64 a0_2, .int .i64 a0_3, .slice A0_4 l0_4.length c0_4, .bool a0_5, .slice A0_6 l0_6.length c0_6, .slice A0_7 l0_7.length c0_7, .slice A0_8 l0_8.length c0_8] 36 (0, 0))) := ⟨by rw [← hq_]; exact (bk BK190)⟩; have n1_ : Aside0 (w103.heap[gb191]? = some (.cells #[.int .i64 a1_0, .int .i64 a1_1, .bool a1_2] 50 (0, 0))) := ⟨by rw [← hq_]; exact (bk BK191)⟩; have n2_ : Aside0 (Below w.heap.size w w103) := ⟨by rw [← hq_]; exact (bb HB)⟩; clear BK190 BK191 HB hq_; have BK190 := n0_; have BK191 := n1_; have HB := n2_; clear n0_ n1_ n2_)); have ⟨z106_0, z106_1, z106_2, z106_3, z106_4, z106_5, z106_6, z106_7, z106_8, v106_0, v106_1, v106_2, v106_3, v106_4, v106_5, v106_6, v106_7, v106_8⟩ := rz9 BK190; have ⟨z107_0, z107_1, z107_2, v107_0, v107_1, v107_2⟩ := rz3 BK191; have p194 : 0 ≤ (a1_1 : Int) := oa; have q194 : a1_1 < (l0_6.length : Int) := oa; obtain ⟨ad194, e194, hx194_0, hx194_1, hx194_2, hx194_3, hx194_4⟩ := at_T95 HR0_6.out a1_1 p194 q194; cases e194; replace hx194_0 := hc HB hx194_0; replace hx194_1 := hc HB hx194_1; replace hx194_2 := hc HB hx194_2; replace hx194_3 := hc HB hx194_3; replace hx194_4 := hc HB hx194_4; replace p194 := eq_true p194; replace q194 := eq_true q194) | ((with_reducible refine gate_dst (N := 5) rfl ?_); (try (refine gate_guard (by rfl) ?_; dsimp only)); refine bx (N := 5) (cs := #[.int .i64 0, .int .i64 0, .int .i64 0, .int .i64 0, .int .i64 0]) (t := 95) ?_; intro gb195 hg w108 hbox hb; have BK195 := Aside0.mk (hbox); have GW195 := gs hg HB; have GE195 := gs hg HB; replace HB := hs_ HB hb; have NB190_195 := gn hg BK190; have NB195_190 := gm hg BK190; replace BK190 := kb BK190 hb; have NB191_195 := gn hg BK191; have NB195_191 := gm hg BK191; replace BK191 := kb BK191 hb; clear hb hbox hg; have hnb109 := NB195_190.out; have hnc109 := NB190_195.out; have hnb110 := NB195_191.out; have hnc110 := NB191_195.out; have ⟨z111_0, z111_1, z111_2, z111_3, z111_4, v111_0, v111_1, v111_2, v111_3, v111_4⟩ := rz5 BK195))
        go_ret
        exact ⟨ee, bb HB⟩
    ·rw [if_neg c8] at H
     exact absurd H (by simp)
   ·rw [if_neg c7] at H
    exact absurd H (by simp)
  ·replace c6 := Bool.eq_false_iff.mpr c6
   subst c6
   rw [if_neg (show ¬ (false = true) by decide)] at H
   obtain rfl := Option.some.inj H
   go_enter Try.func57, Try.ntmps57
   go_wp2_with (first | ((with_reducible refine gate_dst (N := 2) rfl ?_); (try (refine gate_guard (by rfl) ?_; dsimp only)); refine bx (N := 2) (cs := #[.slice A0_0 l0_0.length c0_0, .int .i64 a0_1, .int .i64 a0_2, .int .i64 a0_3, .slice A0_4 l0_4.length c0_4, .bool a0_5, .slice A0_6 l0_6.length c0_6, .slice A0_7 l0_7.length c0_7, .slice A0_8 l0_8.length c0_8]) (t := 36) ?_; intro gb190 hg w112 hbox hb; have BK190 := Aside0.mk (hbox); have GW190 := gs hg HB; have GE190 := gs hg HB; replace HB := hs_ HB hb; clear hb hbox hg) | ((with_reducible refine gate_dst (N := 3) rfl ?_); (try (refine gate_guard (by rfl) ?_; dsimp only)); refine bx (N := 3) (cs := #[.int .i64 a1_0, .int .i64 a1_1, .bool a1_2]) (t := 50) ?_; intro gb191 hg w113 hbox hb; have BK191 := Aside0.mk (hbox); have GW191 := gs hg HB; have GE191 := gs hg HB; replace HB := hs_ HB hb; have NB190_191 := gn hg BK190; have NB191_190 := gm hg BK190; replace BK190 := kb BK190 hb; clear hb hbox hg; have hnb114 := NB190_191.out; have hnc114 := NB191_190.out; have ⟨z115_0, z115_1, z115_2, z115_3, z115_4, z115_5, z115_6, z115_7, z115_8, v115_0, v115_1, v115_2, v115_3, v115_4, v115_5, v115_6, v115_7, v115_8⟩ := rz9 BK190) | ((with_reducible refine gate_callee (f := 55) rfl ?_); refine gl (some 7) Try.func55 #[.agg #[.slice A0_0 l0_0.length c0_0, .int .i64 a0_1, .int .i64 a0_2, .int .i64 a0_3, .slice A0_4 l0_4.length c0_4, .bool a0_5, .slice A0_6 l0_6.length c0_6, .slice A0_7 l0_7.length c0_7, .slice A0_8 l0_8.length c0_8]] ?_; (with_reducible refine (spec_BookOk.calls k _ _ l0_0 a0_1 a0_2 a0_3 _ _ l0_4 a0_5 _ _ l0_6 _ _ l0_7 _ _ l0_8 true _ ?side1 ?side2 ?side3 ?side4 ?side5 ?side6 ?side7 ?side8 ?side9 ?side10 A3.out).mono ?_); (case side1 => exact cc HR0_0 HB); (case side2 => exact HC0_0.out); (case side3 => exact cc HR0_4 HB); (case side4 => exact HC0_4.out); (case side5 => exact cc HR0_6 HB); (case side6 => exact HC0_6.out); (case side7 => exact cc HR0_7 HB); (case side8 => exact HC0_7.out); (case side9 => exact cc HR0_8 HB); (case side10 => exact HC0_8.out); rintro e w116 ⟨rfl, hb⟩; refine ⟨_, rfl, ?_⟩; replace BK190 := kb BK190 hb; replace BK191 := kb BK191 hb; replace HB := hs_ HB hb; (try clear hb hb2 hk hi); have ⟨z117_0, z117_1, z117_2, v117_0, v117_1, v117_2⟩ := rz3 BK191; have ⟨z118_0, z118_1, z118_2, z118_3, z118_4, z118_5, z118_6, z118_7, z118_8, v118_0, v118_1, v118_2, v118_3, v118_4, v118_5, v118_6, v118_7, v118_8⟩ := rz9 BK190) | (go_at_call 76; (with_reducible refine (spec_l01In.calls a1_1 0 (wrap64 ((l0_6.length : Int) - 1)) false _ A5.out).mono ?_); rintro e w' ⟨rfl, ⟨nd, rfl⟩⟩))
   go_ret
   exact ⟨ee, bb HB⟩
 ·replace c4 := Bool.eq_false_iff.mpr c4
  subst c4
  rw [if_neg (show ¬ (false = true) by decide)] at H
  obtain rfl := Option.some.inj H
  go_enter Try.func57, Try.ntmps57
  go_wp2_with (first | ((with_reducible refine gate_dst (N := 2) rfl ?_); (try (refine gate_guard (by rfl) ?_; dsimp only)); refine bx (N := 2) (cs := #[.slice A0_0 l0_0.length c0_0, .int .i64 a0_1, .int .i64 a0_2, .int .i64 a0_3, .slice A0_4 l0_4.length c0_4, .bool a0_5, .slice A0_6 l0_6.length c0_6, .slice A0_7 l0_7.length c0_7, .slice A0_8 l0_8.length c0_8]) (t := 36) ?_; intro gb190 hg w119 hbox hb; have BK190 := Aside0.mk (hbox); have GW190 := gs hg HB; have GE190 := gs hg HB; replace HB := hs_ HB hb; clear hb hbox hg) | ((with_reducible refine gate_dst (N := 3) rfl ?_); (try (refine gate_guard (by rfl) ?_; dsimp only)); refine bx (N := 3) (cs := #[.int .i64 a1_0, .int .i64 a1_1, .bool a1_2]) (t := 50) ?_; intro gb191 hg w120 hbox hb; have BK191 := Aside0.mk (hbox); have GW191 := gs hg HB; have GE191 := gs hg HB; replace HB := hs_ HB hb; have NB190_191 := gn hg BK190; have NB191_190 := gm hg BK190; replace BK190 := kb BK190 hb; clear hb hbox hg; have hnb121 := NB190_191.out; have hnc121 := NB191_190.out; have ⟨z122_0, z122_1, z122_2, z122_3, z122_4, z122_5, z122_6, z122_7, z122_8, v122_0, v122_1, v122_2, v122_3, v122_4, v122_5, v122_6, v122_7, v122_8⟩ := rz9 BK190) | ((with_reducible refine gate_callee (f := 55) rfl ?_); refine gl (some 7) Try.func55 #[.agg #[.slice A0_0 l0_0.length c0_0, .int .i64 a0_1, .int .i64 a0_2, .int .i64 a0_3, .slice A0_4 l0_4.length c0_4, .bool a0_5, .slice A0_6 l0_6.length c0_6, .slice A0_7 l0_7.length c0_7, .slice A0_8 l0_8.length c0_8]] ?_; (with_reducible refine (spec_BookOk.calls k _ _ l0_0 a0_1 a0_2 a0_3 _ _ l0_4 a0_5 _ _ l0_6 _ _ l0_7 _ _ l0_8 false _ ?side1 ?side2 ?side3 ?side4 ?side5 ?side6 ?side7 ?side8 ?side9 ?side10 A3.out).mono ?_); (case side1 => exact cc HR0_0 HB); (case side2 => exact HC0_0.out); (case side3 => exact cc HR0_4 HB); (case side4 => exact HC0_4.out); (case side5 => exact cc HR0_6 HB); (case side6 => exact HC0_6.out); (case side7 => exact cc HR0_7 HB); (case side8 => exact HC0_7.out); (case side9 => exact cc HR0_8 HB); (case side10 => exact HC0_8.out); rintro e w123 ⟨rfl, hb⟩; refine ⟨_, rfl, ?_⟩; replace BK190 := kb BK190 hb; replace BK191 := kb BK191 hb; replace HB := hs_ HB hb; (try clear hb hb2 hk hi)))
  go_ret
  exact ⟨ee, bb HB⟩
def spec_l21Award.f (a0_0 : Int) (a0_1 : Int) (a0_2 : Int) (a0_3 : Int) (a0_4 : Int) (a1 : Int) : Option (Int × Int × Int × Int × Int) := if a0_0 = a1 then (some (a0_0, a0_1, 0, 0, 2)) else (some (a0_0, a0_1, 0, 0, 3))
theorem spec_l21Award.calls (a0_0 : Int) (a0_1 : Int) (a0_2 : Int) (a0_3 : Int) (a0_4 : Int) (a1 : Int) (r1 : Int) (r2 : Int) (r3 : Int) (r4 : Int) (r5 : Int) (w : World) (h : spec_l21Award.f a0_0 a0_1 a0_2 a0_3 a0_4 a1 = some (r1, r2, r3, r4, r5)) :
    Calls Try.prog 58 #[.agg #[.int .i64 a0_0, .int .i64 a0_1, .int .i64 a0_2, .int .i64 a0_3, .int .i64 a0_4], .int .i64 a1] w fun e w' => e = .returned (.agg #[.int .i64 r1, .int .i64 r2, .int .i64 r3, .int .i64 r4, .int .i64 r5]) ∧ Below w.heap.size w w' := by
  unfold spec_l21Award.f at h
  by_cases hc : a0_0 = a1
  · rw [if_pos hc] at h
    have hb : (a0_0 == a1) = true := beq_iff_eq.mpr hc
    clear hc
    simp only [Option.some.injEq, Prod.mk.injEq] at h
    obtain ⟨rfl, rfl, rfl, rfl, rfl⟩ := h
    go_enter Try.func58, Try.ntmps58
    go_wp2
    exact bodyPost_ret (v := .agg #[.int .i64 _, .int .i64 _, .int .i64 _, .int .i64 _, .int .i64 _]) (by simp [results, Try.results58, go_sem]) rfl ⟨rfl, (by repeat (first | exact Below.refl _ _ | apply below_alloc | apply pw_below_drewN | apply below_drew1 | refine below_set ?_ (by simp; try omega)))⟩
  · rw [if_neg hc] at h
    have hb : (a0_0 == a1) = false := beq_eq_false_iff_ne.mpr hc
    clear hc
    simp only [Option.some.injEq, Prod.mk.injEq] at h
    obtain ⟨rfl, rfl, rfl, rfl, rfl⟩ := h
    go_enter Try.func58, Try.ntmps58
    go_wp2
    exact bodyPost_ret (v := .agg #[.int .i64 _, .int .i64 _, .int .i64 _, .int .i64 _, .int .i64 _]) (by simp [results, Try.results58, go_sem]) rfl ⟨rfl, (by repeat (first | exact Below.refl _ _ | apply below_alloc | apply pw_below_drewN | apply below_drew1 | refine below_set ?_ (by simp; try omega)))⟩
end Go.Proofs.Ythfefanapneocaa.Q
section
namespace Go.Proofs.Ythfefanapneocaa.Q
open Go.RowKit Go.Proofs.YthfefanapneocaaW.PrintWords Go.Proofs.YthfefanapneocaaW.PrintLast Go.Proofs.YthfefanapneocaaW.PrintMore
attribute [local go_sem] max2_int min2_int max_two min_two max_three min_three max_four min_four
set_option linter.unusedVariables false
set_option linter.unusedSimpArgs false
set_option maxRecDepth 100000
set_option maxHeartbeats 8000000
mutual
def spec_Decide.j0 : Nat → List (S50) → Bool → List (S139) → Int → Int → Int → List Int → Bool → List (S95) → List Int → List Int → Option ((List (S139)) × Int × Int × Int × List Int × Bool × (List (S95)) × List Int × List Int × Bool)
 | 0, _, _, _, _, _, _, _, _, _, _, _ => none
 | k + 1, x1, x16, x200000, x200001, x200002, x200003, x200004, x200005, x200006, x200007, x200008 => if x16 = true then (some (([] : List (S139)), 0, 0, 0, ([] : List Int), false, ([] : List (S95)), ([] : List Int), ([] : List Int), false)) else ((spec_l16Copy.f x200000 x200001 x200002 x200003 x200004 x200005 x200006 x200007 x200008).bind fun bt202 => (spec_Decide.l0 k x1 (x1.length : Int) 0 x200000 x200001 x200002 x200003 x200004 x200005 x200006 x200007 x200008 bt202.1 bt202.2.1 bt202.2.2.1 bt202.2.2.2.1 bt202.2.2.2.2.1 bt202.2.2.2.2.2.1 bt202.2.2.2.2.2.2.1 bt202.2.2.2.2.2.2.2.1 bt202.2.2.2.2.2.2.2.2))
def spec_Decide.l0 : Nat → List (S50) → Int → Int → List (S139) → Int → Int → Int → List Int → Bool → List (S95) → List Int → List Int → List (S139) → Int → Int → Int → List Int → Bool → List (S95) → List Int → List Int → Option ((List (S139)) × Int × Int × Int × List Int × Bool × (List (S95)) × List Int × List Int × Bool)
 | 0, _, _, _, _, _, _, _, _, _, _, _, _, _, _, _, _, _, _, _, _, _ => none
 | k + 1, x20, x21, x22, x200000, x200001, x200002, x200003, x200004, x200005, x200006, x200007, x200008, x222000, x222001, x222002, x222003, x222004, x222005, x222006, x222007, x222008 => if x22 < x21 then (if 0 ≤ x22 then (if x22 < (x20.length : Int) then ((spec_ProtestOk.f k x200000 x200001 x200002 x200003 x200004 x200005 x200006 x200007 x200008 ((rd_T50 x20 x22).f0) ((rd_T50 x20 x22).f1) ((rd_T50 x20 x22).f2)).bind fun t224 => (if t224 = true then (if (rd_T50 x20 x22).f2 = true then (if 0 ≤ ((rd_T50 x20 x22).f1) then (if ((rd_T50 x20 x22).f1) < (x200006.length : Int) then ((spec_l21Award.f ((rd_T95 x200006 ((rd_T50 x20 x22).f1)).f0) ((rd_T95 x200006 ((rd_T50 x20 x22).f1)).f1) ((rd_T95 x200006 ((rd_T50 x20 x22).f1)).f2) ((rd_T95 x200006 ((rd_T50 x20 x22).f1)).f3) ((rd_T95 x200006 ((rd_T50 x20 x22).f1)).f4) ((rd_T50 x20 x22).f0)).bind fun bt226 => (if ((rd_T50 x20 x22).f1) < (x222006.length : Int) then (spec_Decide.l0 k x20 x21 (wrap64 (x22 + 1)) x200000 x200001 x200002 x200003 x200004 x200005 x200006 x200007 x200008 x222000 x222001 x222002 x222003 x222004 x222005 (x222006.set (((rd_T50 x20 x22).f1) : Int).toNat (⟨bt226.1, bt226.2.1, bt226.2.2.1, bt226.2.2.2.1, bt226.2.2.2.2⟩ : S95)) x222007 x222008) else (none))) else (none)) else (none)) else (if 0 ≤ ((rd_T50 x20 x22).f1) then (if ((rd_T50 x20 x22).f1) < (x200006.length : Int) then (if ((rd_T50 x20 x22).f1) < (x222006.length : Int) then (spec_Decide.l0 k x20 x21 (wrap64 (x22 + 1)) x200000 x200001 x200002 x200003 x200004 x200005 x200006 x200007 x200008 x222000 x222001 x222002 x222003 x222004 x222005 (x222006.set (((rd_T50 x20 x22).f1) : Int).toNat (⟨(rd_T95 x200006 ((rd_T50 x20 x22).f1)).f0, (rd_T95 x200006 ((rd_T50 x20 x22).f1)).f1, (rd_T95 x200006 ((rd_T50 x20 x22).f1)).f2, (rd_T95 x200006 ((rd_T50 x20 x22).f1)).f3, (rd_T95 x200006 ((rd_T50 x20 x22).f1)).f4⟩ : S95)) x222007 x222008) else (none)) else (none)) else (none))) else (some (([] : List (S139)), 0, 0, 0, ([] : List Int), false, ([] : List (S95)), ([] : List Int), ([] : List Int), false)))) else (none)) else (none)) else (some (x222000, x222001, x222002, x222003, x222004, x222005, x222006, x222007, x222008, true))
end
def spec_Decide.f (k : Nat) (l0_0 : List (S139)) (a0_1 : Int) (a0_2 : Int) (a0_3 : Int) (l0_4 : List Int) (a0_5 : Bool) (l0_6 : List (S95)) (l0_7 : List Int) (l0_8 : List Int) (l1 : List (S50)) : Option ((List (S139)) × Int × Int × Int × List Int × Bool × (List (S95)) × List Int × List Int × Bool) := (spec_BookOk.f k l0_0 a0_1 a0_2 a0_3 l0_4 a0_5 l0_6 l0_7 l0_8).bind fun t201 => (if t201 = true then (spec_Decide.j0 k l1 (decide ((l1.length : Int) > 6)) l0_0 a0_1 a0_2 a0_3 l0_4 a0_5 l0_6 l0_7 l0_8) else (spec_Decide.j0 k l1 true l0_0 a0_1 a0_2 a0_3 l0_4 a0_5 l0_6 l0_7 l0_8))
def spec_Decide.T10 : Bool × List (List Nat × List Nat) := (true, [([], []), ([0], [0]), ([], []), ([2], [2]), ([], []), ([4], [4]), ([], []), ([6], [6]), ([5, 7], [5, 7]), ([8], [8]), ([], []), ([10], [10]), ([9, 11], [9, 11]), ([1, 3, 0, 1, 2, 3, 4, 5, 6, 7, 8, 9, 10, 11, 12], [1, 3]), ([13, 12, 12, 0, 1, 2, 3, 4, 5, 6, 7, 8, 9, 10, 11, 12], [12, 13])])
def spec_Decide.B10 : List Nat := [0, 1, 0, 4, 0, 16, 0, 64, 240, 496, 0, 1024, 4080, 8191, 16383]
theorem spec_Decide.tab10 : rtab .any (opsOf Try.f12 10) = spec_Decide.T10 := by kernel_rfl
theorem spec_Decide.bits10 : waitsOk spec_Decide.T10.2 spec_Decide.B10 = true := by kernel_rfl
def spec_Decide.T11 : Bool × List (List Nat × List Nat) := (true, [([], []), ([0], [0]), ([], []), ([2], [2]), ([], []), ([4], [4]), ([], []), ([6], [6]), ([5, 7], [5, 7]), ([8], [8]), ([1, 3, 0, 1, 2, 3, 4, 5, 6, 7, 8, 9], [1, 3]), ([10, 9, 0, 1, 2, 3, 4, 5, 6, 7, 8, 9], [9, 10])])
def spec_Decide.B11 : List Nat := [0, 1, 0, 4, 0, 16, 0, 64, 240, 496, 1023, 2047]
theorem spec_Decide.tab11 : rtab .any (opsOf Try.f12 11) = spec_Decide.T11 := by kernel_rfl
theorem spec_Decide.bits11 : waitsOk spec_Decide.T11.2 spec_Decide.B11 = true := by kernel_rfl
theorem spec_Decide.calls (k : Nat) (A0_0 : Option Addr) (c0_0 : Nat) (l0_0 : List (S139)) (a0_1 : Int) (a0_2 : Int) (a0_3 : Int) (A0_4 : Option Addr) (c0_4 : Nat) (l0_4 : List Int) (a0_5 : Bool) (A0_6 : Option Addr) (c0_6 : Nat) (l0_6 : List (S95)) (A0_7 : Option Addr) (c0_7 : Nat) (l0_7 : List Int) (A0_8 : Option Addr) (c0_8 : Nat) (l0_8 : List Int) (A1 : Option Addr) (c1 : Nat) (l1 : List (S50)) (r1 : List (S139)) (r2 : Int) (r3 : Int) (r4 : Int) (r5 : List Int) (r6 : Bool) (r7 : List (S95)) (r8 : List Int) (r9 : List Int) (r10 : Bool) (w : World) (hr0_0 : Kd.C k139 w A0_0 l0_0.length l0_0) (hc0_0 : l0_0.length ≤ c0_0) (hr0_4 : Kd.C (Kd.int .i64) w A0_4 l0_4.length l0_4) (hc0_4 : l0_4.length ≤ c0_4) (hr0_6 : Kd.C k95 w A0_6 l0_6.length l0_6) (hc0_6 : l0_6.length ≤ c0_6) (hr0_7 : Kd.C (Kd.int .i64) w A0_7 l0_7.length l0_7) (hc0_7 : l0_7.length ≤ c0_7) (hr0_8 : Kd.C (Kd.int .i64) w A0_8 l0_8.length l0_8) (hc0_8 : l0_8.length ≤ c0_8) (hr1 : Kd.C k50 w A1 l1.length l1) (hc1 : l1.length ≤ c1) (h : spec_Decide.f k l0_0 a0_1 a0_2 a0_3 l0_4 a0_5 l0_6 l0_7 l0_8 l1 = some (r1, r2, r3, r4, r5, r6, r7, r8, r9, r10)) :
  Calls Try.prog 12 #[.agg #[.slice A0_0 l0_0.length c0_0, .int .i64 a0_1, .int .i64 a0_2, .int .i64 a0_3, .slice A0_4 l0_4.length c0_4, .bool a0_5, .slice A0_6 l0_6.length c0_6, .slice A0_7 l0_7.length c0_7, .slice A0_8 l0_8.length c0_8], .slice A1 l1.length c1] w fun e w' => ∃ v0_ v4_ v6_ v7_ v8_ : Value, e = .returned (.tuple #[.agg #[v0_, .int .i64 r2, .int .i64 r3, .int .i64 r4, v4_, .bool r6, v6_, v7_, v8_], .bool r10]) ∧ Kd.R k139 139 w' w.heap.size (fun _ => True) v0_ r1 ∧ Kd.R (Kd.int .i64) 3 w' w.heap.size (fun k_ => some k_ ≠ (v7_ : Value).ownBlock ∧ some k_ ≠ (v8_ : Value).ownBlock) v4_ r5 ∧ Kd.R k95 95 w' w.heap.size (fun _ => True) v6_ r7 ∧ Kd.R (Kd.int .i64) 3 w' w.heap.size (fun k_ => some k_ ≠ (v4_ : Value).ownBlock ∧ some k_ ≠ (v8_ : Value).ownBlock) v7_ r8 ∧ Kd.R (Kd.int .i64) 3 w' w.heap.size (fun k_ => some k_ ≠ (v4_ : Value).ownBlock ∧ some k_ ≠ (v7_ : Value).ownBlock) v8_ r9 ∧ Below w.heap.size w w' := by
 have hu36 := Try.underlying36
 have hu50 := Try.underlying50
 have hu95 := Try.underlying95
 have HR0_0 := Aside0.mk hr0_0
 have HC0_0 := Aside0.mk hc0_0
 clear hr0_0 hc0_0
 have HR0_4 := Aside0.mk hr0_4
 have HC0_4 := Aside0.mk hc0_4
 clear hr0_4 hc0_4
 have HR0_6 := Aside0.mk hr0_6
 have HC0_6 := Aside0.mk hc0_6
 clear hr0_6 hc0_6
 have HR0_7 := Aside0.mk hr0_7
 have HC0_7 := Aside0.mk hc0_7
 clear hr0_7 hc0_7
 have HR0_8 := Aside0.mk hr0_8
 have HC0_8 := Aside0.mk hc0_8
 clear hr0_8 hc0_8
 have HR1 := Aside0.mk hr1
 have HC1 := Aside0.mk hc1
 clear hr1 hc1
 have HB := Aside0.mk (Below.refl w.heap.size w)
 have H : ((spec_BookOk.f k l0_0 a0_1 a0_2 a0_3 l0_4 a0_5 l0_6 l0_7 l0_8).bind fun t201 => (if t201 = true then (spec_Decide.j0 k l1 (decide ((l1.length : Int) > 6)) l0_0 a0_1 a0_2 a0_3 l0_4 a0_5 l0_6 l0_7 l0_8) else (spec_Decide.j0 k l1 true l0_0 a0_1 a0_2 a0_3 l0_4 a0_5 l0_6 l0_7 l0_8))) = some (r1, r2, r3, r4, r5, r6, r7, r8, r9, r10) := h
 clear h
 have HC3 := Aside0.mk H
 clear H
 go_enter Try.func12, Try.ntmps12
 go_upto_region 1 with (first | ((with_reducible refine gate_dst (N := 2) rfl ?_); (try (refine gate_guard (by rfl) ?_; dsimp only)); refine bx (N := 2) (cs := #[.slice A0_0 l0_0.length c0_0, .int .i64 a0_1, .int .i64 a0_2, .int .i64 a0_3, .slice A0_4 l0_4.length c0_4, .bool a0_5, .slice A0_6 l0_6.length c0_6, .slice A0_7 l0_7.length c0_7, .slice A0_8 l0_8.length c0_8]) (t := 36) ?_; intro gb199 hg w4 hbox hb; have BK199 := Aside0.mk (hbox); have GW199 := gs hg HB; have GE199 := gs hg HB; replace HB := hs_ HB hb; clear hb hbox hg) | ((with_reducible refine gate_dst (N := 4) rfl ?_); (try (refine gate_guard (by rfl) ?_; dsimp only)); refine bx (N := 4) (cs := #[.slice none 0 0, .int .i64 0, .int .i64 0, .int .i64 0, .slice none 0 0, .bool false, .slice none 0 0, .slice none 0 0, .slice none 0 0]) (t := 36) ?_; intro gb200 hg w5 hbox hb; have BK200 := Aside0.mk (hbox); have GW200 := gs hg HB; have GE200 := gs hg HB; replace HB := hs_ HB hb; have NB199_200 := gn hg BK199; have NB200_199 := gm hg BK199; replace BK199 := kb BK199 hb; clear hb hbox hg))
 (try simp only [Act.put, List.setIfInBounds_toArray, List.set_cons_zero, List.set_cons_succ])
 go_cut [16] (fun v16 wc => ∃ (kq : Nat) (x16_2 : Bool), v16 = .bool x16_2 ∧ Aside0 (spec_Decide.j0 kq l1 x16_2 l0_0 a0_1 a0_2 a0_3 l0_4 a0_5 l0_6 l0_7 l0_8 = some (r1, r2, r3, r4, r5, r6, r7, r8, r9, r10)) ∧ Aside0 (kq ≤ k) ∧ Aside0 (wc.heap[gb199]? = some (.cells #[(.slice A0_0 l0_0.length c0_0), .int .i64 a0_1, .int .i64 a0_2, .int .i64 a0_3, (.slice A0_4 l0_4.length c0_4), .bool a0_5, (.slice A0_6 l0_6.length c0_6), (.slice A0_7 l0_7.length c0_7), (.slice A0_8 l0_8.length c0_8)] 36 (0, 0))) ∧ Aside0 (wc.heap[gb200]? = some (.cells #[(.slice none 0 0), .int .i64 0, .int .i64 0, .int .i64 0, (.slice none 0 0), .bool false, (.slice none 0 0), (.slice none 0 0), (.slice none 0 0)] 36 (0, 0))) ∧ Aside0 (Below w.heap.size w wc))
 case first =>
  have H := HC3.out
  clear HC3
  replace H := Option.bind_eq_some_iff.mp H
  obtain ⟨t201, A60, H⟩ := H
  replace H : (if t201 = true then (spec_Decide.j0 k l1 (decide ((l1.length : Int) > 6)) l0_0 a0_1 a0_2 a0_3 l0_4 a0_5 l0_6 l0_7 l0_8) else (spec_Decide.j0 k l1 true l0_0 a0_1 a0_2 a0_3 l0_4 a0_5 l0_6 l0_7 l0_8)) = some (r1, r2, r3, r4, r5, r6, r7, r8, r9, r10) := H
  have A6 := Aside0.mk A60
  clear A60
  by_cases c7 : t201 = true
  ·subst c7
   have H1 : (spec_Decide.j0 k l1 (decide ((l1.length : Int) > 6)) l0_0 a0_1 a0_2 a0_3 l0_4 a0_5 l0_6 l0_7 l0_8) = some (r1, r2, r3, r4, r5, r6, r7, r8, r9, r10) := by rw [if_pos rfl] at H; exact H
   clear H
   have H := H1
   clear H1
   have H' := Aside0.mk H
   clear H
   have hnb8 := NB199_200.out
   have hnc8 := NB200_199.out
   have ⟨z9_0, z9_1, z9_2, z9_3, z9_4, z9_5, z9_6, z9_7, z9_8, v9_0, v9_1, v9_2, v9_3, v9_4, v9_5, v9_6, v9_7, v9_8⟩ := rz9 BK199
   go_wp2_with (first | ((with_reducible refine gate_callee (f := 55) rfl ?_); refine gl (some 10) Try.func55 #[.agg #[.slice A0_0 l0_0.length c0_0, .int .i64 a0_1, .int .i64 a0_2, .int .i64 a0_3, .slice A0_4 l0_4.length c0_4, .bool a0_5, .slice A0_6 l0_6.length c0_6, .slice A0_7 l0_7.length c0_7, .slice A0_8 l0_8.length c0_8]] ?_; (with_reducible refine (spec_BookOk.calls k _ _ l0_0 a0_1 a0_2 a0_3 _ _ l0_4 a0_5 _ _ l0_6 _ _ l0_7 _ _ l0_8 true _ ?side1 ?side2 ?side3 ?side4 ?side5 ?side6 ?side7 ?side8 ?side9 ?side10 A6.out).mono ?_); (case side1 => exact cc HR0_0 HB); (case side2 => exact HC0_0.out); (case side3 => exact cc HR0_4 HB); (case side4 => exact HC0_4.out); (case side5 => exact cc HR0_6 HB); (case side6 => exact HC0_6.out); (case side7 => exact cc HR0_7 HB); (case side8 => exact HC0_7.out); (case side9 => exact cc HR0_8 HB); (case side10 => exact HC0_8.out); rintro e w10 ⟨rfl, hb⟩; refine ⟨_, rfl, ?_⟩; replace BK199 := kb BK199 hb; replace BK200 := kb BK200 hb; replace HB := hs_ HB hb; (try clear hb hb2 hk hi)))
   go_meet
   case rel => exact ⟨_, (decide ((l1.length : Int) > 6)), e2_, H', ⟨by first | omega | exact Nat.le_refl _⟩, ⟨bk BK199⟩, ⟨bk BK200⟩, ⟨bb HB⟩⟩
  ·replace c7 := Bool.eq_false_iff.mpr c7
   subst c7
   have H1 : (spec_Decide.j0 k l1 true l0_0 a0_1 a0_2 a0_3 l0_4 a0_5 l0_6 l0_7 l0_8) = some (r1, r2, r3, r4, r5, r6, r7, r8, r9, r10) := by rw [if_neg (show ¬ (false = true) by decide)] at H; exact H
   clear H
   have H := H1
   clear H1
   have H' := Aside0.mk H
   clear H
   have hnb11 := NB199_200.out
   have hnc11 := NB200_199.out
   have ⟨z12_0, z12_1, z12_2, z12_3, z12_4, z12_5, z12_6, z12_7, z12_8, v12_0, v12_1, v12_2, v12_3, v12_4, v12_5, v12_6, v12_7, v12_8⟩ := rz9 BK199
   go_wp2_with (first | ((with_reducible refine gate_callee (f := 55) rfl ?_); refine gl (some 10) Try.func55 #[.agg #[.slice A0_0 l0_0.length c0_0, .int .i64 a0_1, .int .i64 a0_2, .int .i64 a0_3, .slice A0_4 l0_4.length c0_4, .bool a0_5, .slice A0_6 l0_6.length c0_6, .slice A0_7 l0_7.length c0_7, .slice A0_8 l0_8.length c0_8]] ?_; (with_reducible refine (spec_BookOk.calls k _ _ l0_0 a0_1 a0_2 a0_3 _ _ l0_4 a0_5 _ _ l0_6 _ _ l0_7 _ _ l0_8 false _ ?side1 ?side2 ?side3 ?side4 ?side5 ?side6 ?side7 ?side8 ?side9 ?side10 A6.out).mono ?_); (case side1 => exact cc HR0_0 HB); (case side2 => exact HC0_0.out); (case side3 => exact cc HR0_4 HB); (case side4 => exact HC0_4.out); (case side5 => exact cc HR0_6 HB); (case side6 => exact HC0_6.out); (case side7 => exact cc HR0_7 HB); (case side8 => exact HC0_7.out); (case side9 => exact cc HR0_8 HB); (case side10 => exact HC0_8.out); rintro e w13 ⟨rfl, hb⟩; refine ⟨_, rfl, ?_⟩; replace BK199 := kb BK199 hb; replace BK200 := kb BK200 hb; replace HB := hs_ HB hb; (try clear hb hb2 hk hi)))
   go_meet
   case rel => exact ⟨_, (true), e2_, H', ⟨by first | omega | exact Nat.le_refl _⟩, ⟨bk BK199⟩, ⟨bk BK200⟩, ⟨bb HB⟩⟩
 case rest =>
  clear HC3
  (try clear c1)
  (try clear p2)
  (try clear c5)
  (try clear c7)
  (try clear c8)
  (try clear c11)
  (try clear c12)
  (try clear z12_0 z12_1 z12_2 z12_3 z12_4 z12_5 z12_6 z12_7 z12_8)
  (try clear z9_0 z9_1 z9_2 z9_3 z9_4 z9_5 z9_6 z9_7 z9_8)
  (try clear v12_0 v12_1 v12_2 v12_3 v12_4 v12_5 v12_6 v12_7 v12_8)
  (try clear v9_0 v9_1 v9_2 v9_3 v9_4 v9_5 v9_6 v9_7 v9_8)
  obtain ⟨kq, x16_2, rfl, HA, HJ2, BK199, BK200, HB⟩ := hcut
  cases kq with
  | zero => exact absurd HA.out (by simp [spec_Decide.j0])
  | succ kj2 =>
   have H := HA.out
   clear HA
   simp only [spec_Decide.j0] at H
   by_cases c14 : x16_2 = true
   ·subst c14
    have H1 : (some (([] : List (S139)), 0, 0, 0, ([] : List Int), false, ([] : List (S95)), ([] : List Int), ([] : List Int), false)) = some (r1, r2, r3, r4, r5, r6, r7, r8, r9, r10) := by rw [if_pos rfl] at H; exact H
    clear H
    have H := H1
    clear H1
    simp only [Option.some.injEq, Prod.mk.injEq] at H
    obtain ⟨rfl, rfl, rfl, rfl, rfl, rfl, rfl, rfl, rfl, rfl⟩ := H
    have hnb15 := NB200_199.out
    have hnc15 := NB199_200.out
    have ⟨z16_0, z16_1, z16_2, z16_3, z16_4, z16_5, z16_6, z16_7, z16_8, v16_0, v16_1, v16_2, v16_3, v16_4, v16_5, v16_6, v16_7, v16_8⟩ := rz9 BK200
    go_wp2
    refine bodyPost_ret (results_ct rfl _ _ gb200 36 #[.slice none 0 0, .int .i64 0, .int .i64 0, .int .i64 0, .slice none 0 0, .bool false, .slice none 0 0, .slice none 0 0, .slice none 0 0] (0, 0) _ rfl (by (with_reducible repeat (first | refine blk_drewN ?_ _ | refine blk_drew ?_ | refine blk_alloc ?_ _)); refine blk_put (cs := #[.slice none 0 0, .int .i64 0, .int .i64 0, .int .i64 0, .slice none 0 0, .bool false, .slice none 0 0, .slice none 0 0, .slice none 0 0]) ?_ 8 _ rfl; (with_reducible repeat (first | refine blk_drewN ?_ _ | refine blk_drew ?_ | refine blk_alloc ?_ _)); refine blk_put (cs := #[.slice none 0 0, .int .i64 0, .int .i64 0, .int .i64 0, .slice none 0 0, .bool false, .slice none 0 0, .slice none 0 0, .slice none 0 0]) ?_ 7 _ rfl; (with_reducible repeat (first | refine blk_drewN ?_ _ | refine blk_drew ?_ | refine blk_alloc ?_ _)); refine blk_put (cs := #[.slice none 0 0, .int .i64 0, .int .i64 0, .int .i64 0, .slice none 0 0, .bool false, .slice none 0 0, .slice none 0 0, .slice none 0 0]) ?_ 6 _ rfl; (with_reducible repeat (first | refine blk_drewN ?_ _ | refine blk_drew ?_ | refine blk_alloc ?_ _)); refine blk_put (cs := #[.slice none 0 0, .int .i64 0, .int .i64 0, .int .i64 0, .slice none 0 0, .bool false, .slice none 0 0, .slice none 0 0, .slice none 0 0]) ?_ 5 _ rfl; (with_reducible repeat (first | refine blk_drewN ?_ _ | refine blk_drew ?_ | refine blk_alloc ?_ _)); refine blk_put (cs := #[.slice none 0 0, .int .i64 0, .int .i64 0, .int .i64 0, .slice none 0 0, .bool false, .slice none 0 0, .slice none 0 0, .slice none 0 0]) ?_ 4 _ rfl; (with_reducible repeat (first | refine blk_drewN ?_ _ | refine blk_drew ?_ | refine blk_alloc ?_ _)); refine blk_put (cs := #[.slice none 0 0, .int .i64 0, .int .i64 0, .int .i64 0, .slice none 0 0, .bool false, .slice none 0 0, .slice none 0 0, .slice none 0 0]) ?_ 3 _ rfl; (with_reducible repeat (first | refine blk_drewN ?_ _ | refine blk_drew ?_ | refine blk_alloc ?_ _)); refine blk_put (cs := #[.slice none 0 0, .int .i64 0, .int .i64 0, .int .i64 0, .slice none 0 0, .bool false, .slice none 0 0, .slice none 0 0, .slice none 0 0]) ?_ 2 _ rfl; (with_reducible repeat (first | refine blk_drewN ?_ _ | refine blk_drew ?_ | refine blk_alloc ?_ _)); refine blk_put (cs := #[.slice none 0 0, .int .i64 0, .int .i64 0, .int .i64 0, .slice none 0 0, .bool false, .slice none 0 0, .slice none 0 0, .slice none 0 0]) ?_ 1 _ rfl; (with_reducible repeat (first | refine blk_drewN ?_ _ | refine blk_drew ?_ | refine blk_alloc ?_ _)); refine blk_put (cs := #[.slice none 0 0, .int .i64 0, .int .i64 0, .int .i64 0, .slice none 0 0, .bool false, .slice none 0 0, .slice none 0 0, .slice none 0 0]) ?_ 0 _ rfl; (with_reducible repeat (first | refine blk_drewN ?_ _ | refine blk_drew ?_ | refine blk_alloc ?_ _)); exact BK200.out) Try.underlying36 rfl (by kernel_rfl)) rfl ?_
    exact ⟨_, _, _, _, _, ee, by first | exact Kd.R_nil _ _ _ _ _ | exact Kd.N_nil _ _ _ _ _ | exact Kd.V_nil _ _ _ _ _ | exact Kd.Q_nil _ _ _ _ _ | exact Kd.S_nil _ _ _ _ _, by first | exact Kd.R_nil _ _ _ _ _ | exact Kd.N_nil _ _ _ _ _ | exact Kd.V_nil _ _ _ _ _ | exact Kd.Q_nil _ _ _ _ _ | exact Kd.S_nil _ _ _ _ _, by first | exact Kd.R_nil _ _ _ _ _ | exact Kd.N_nil _ _ _ _ _ | exact Kd.V_nil _ _ _ _ _ | exact Kd.Q_nil _ _ _ _ _ | exact Kd.S_nil _ _ _ _ _, by first | exact Kd.R_nil _ _ _ _ _ | exact Kd.N_nil _ _ _ _ _ | exact Kd.V_nil _ _ _ _ _ | exact Kd.Q_nil _ _ _ _ _ | exact Kd.S_nil _ _ _ _ _, by first | exact Kd.R_nil _ _ _ _ _ | exact Kd.N_nil _ _ _ _ _ | exact Kd.V_nil _ _ _ _ _ | exact Kd.Q_nil _ _ _ _ _ | exact Kd.S_nil _ _ _ _ _, bb HB⟩
   ·replace c14 := Bool.eq_false_iff.mpr c14
    subst c14
    have H1 : ((spec_l16Copy.f l0_0 a0_1 a0_2 a0_3 l0_4 a0_5 l0_6 l0_7 l0_8).bind fun bt202 => (spec_Decide.l0 kj2 l1 (l1.length : Int) 0 l0_0 a0_1 a0_2 a0_3 l0_4 a0_5 l0_6 l0_7 l0_8 bt202.1 bt202.2.1 bt202.2.2.1 bt202.2.2.2.1 bt202.2.2.2.2.1 bt202.2.2.2.2.2.1 bt202.2.2.2.2.2.2.1 bt202.2.2.2.2.2.2.2.1 bt202.2.2.2.2.2.2.2.2)) = some (r1, r2, r3, r4, r5, r6, r7, r8, r9, r10) := by rw [if_neg (show ¬ (false = true) by decide)] at H; exact H
    clear H
    have H := H1
    clear H1
    replace H := Option.bind_eq_some_iff.mp H
    obtain ⟨⟨t202, t205, t206, t207, t208, t211, t212, t215, t218⟩, A170, H⟩ := H
    replace H : (spec_Decide.l0 kj2 l1 (l1.length : Int) 0 l0_0 a0_1 a0_2 a0_3 l0_4 a0_5 l0_6 l0_7 l0_8 t202 t205 t206 t207 t208 t211 t212 t215 t218) = some (r1, r2, r3, r4, r5, r6, r7, r8, r9, r10) := H
    have A17 := Aside0.mk A170
    clear A170
    have H' := Aside0.mk H
    clear H
    have hnb18 := NB199_200.out
    have hnc18 := NB200_199.out
    have ⟨z19_0, z19_1, z19_2, z19_3, z19_4, z19_5, z19_6, z19_7, z19_8, v19_0, v19_1, v19_2, v19_3, v19_4, v19_5, v19_6, v19_7, v19_8⟩ := rz9 BK199
    go_wp2_with (first | ((with_reducible refine gate_callee (f := 56) rfl ?_); refine gl (some 19) Try.func56 #[.agg #[.slice A0_0 l0_0.length c0_0, .int .i64 a0_1, .int .i64 a0_2, .int .i64 a0_3, .slice A0_4 l0_4.length c0_4, .bool a0_5, .slice A0_6 l0_6.length c0_6, .slice A0_7 l0_7.length c0_7, .slice A0_8 l0_8.length c0_8]] ?_; (with_reducible refine (spec_l16Copy.calls _ _ l0_0 a0_1 a0_2 a0_3 _ _ l0_4 a0_5 _ _ l0_6 _ _ l0_7 _ _ l0_8 t202 t205 t206 t207 t208 t211 t212 t215 t218 _ ?side1 ?side2 ?side3 ?side4 ?side5 ?side6 ?side7 ?side8 ?side9 ?side10 A17.out).mono ?_); (case side1 => exact cc HR0_0 HB); (case side2 => exact HC0_0.out); (case side3 => exact cc HR0_4 HB); (case side4 => exact HC0_4.out); (case side5 => exact cc HR0_6 HB); (case side6 => exact HC0_6.out); (case side7 => exact cc HR0_7 HB); (case side8 => exact HC0_7.out); (case side9 => exact cc HR0_8 HB); (case side10 => exact HC0_8.out); rintro e w20 ⟨v203, v209, v213, v216, v219, rfl, ho0, ho1, ho2, ho3, ho4, hb⟩; refine ⟨_, rfl, ?_⟩; have HO204 := kl ho0 HB; have HO210 := kl ho1 HB; have HO214 := kl ho2 HB; have HO217 := kl ho3 HB; have HO220 := kl ho4 HB; replace BK199 := kb BK199 hb; replace BK200 := kb BK200 hb; replace HB := hs_ HB hb; (try clear hb hb2 hk hi ho0 ho1 ho2 ho3 ho4)) | ((with_reducible refine gate_dst (N := 6) rfl ?_); (try (refine gate_guard (by rfl) ?_; dsimp only)); refine bx (N := 6) (cs := #[.slice none 0 0, .int .i64 0, .int .i64 0, .int .i64 0, .slice none 0 0, .bool false, .slice none 0 0, .slice none 0 0, .slice none 0 0]) (t := 36) ?_; intro gb221 hg w21 hbox hb; replace HO204 := kr HO204 hb; replace HO210 := kr HO210 hb; replace HO214 := kr HO214 hb; replace HO217 := kr HO217 hb; replace HO220 := kr HO220 hb; have BK221 := Aside0.mk (hbox); have GW221 := gs hg HB; have GE221 := gs hg HB; replace HB := hs_ HB hb; have NB199_221 := gn hg BK199; have NB221_199 := gm hg BK199; replace BK199 := kb BK199 hb; have NB200_221 := gn hg BK200; have NB221_200 := gm hg BK200; replace BK200 := kb BK200 hb; clear hb hbox hg; obtain ⟨Ao22, co22, eo22⟩ := Kd.R_slice HO204.out; subst eo22; have hnb23 := NB221_199.out; have hnc23 := NB199_221.out; have hnb24 := NB221_200.out; have hnc24 := NB200_221.out; have ⟨z25_0, z25_1, z25_2, z25_3, z25_4, z25_5, z25_6, z25_7, z25_8, v25_0, v25_1, v25_2, v25_3, v25_4, v25_5, v25_6, v25_7, v25_8⟩ := rz9 BK221; obtain ⟨Ao26, co26, eo26⟩ := Kd.R_slice HO210.out; subst eo26; obtain ⟨Ao27, co27, eo27⟩ := Kd.R_slice HO214.out; subst eo27; obtain ⟨Ao28, co28, eo28⟩ := Kd.R_slice HO217.out; subst eo28; obtain ⟨Ao29, co29, eo29⟩ := Kd.R_slice HO220.out; subst eo29))
    go_loopg [22] kj2 (fun kq v22 w' => ∃ (x22_2 : Int) (x201001_2 : Int) (x201002_2 : Int) (x201003_2 : Int) (x201005_2 : Bool) (x222006_2 : List (S95)) (u222006 : Value), v22 = .int .i64 x22_2 ∧ Aside0 (spec_Decide.l0 kq l1 (l1.length : Int) x22_2 l0_0 a0_1 a0_2 a0_3 l0_4 a0_5 l0_6 l0_7 l0_8 t202 t205 t206 t207 t208 t211 x222006_2 t215 t218 = some (r1, r2, r3, r4, r5, r6, r7, r8, r9, r10)) ∧ Aside0 (kq ≤ kj2) ∧ Aside0 (Kd.R k139 139 w' w.heap.size (fun _ => True) (.slice Ao22 t202.length co22) t202) ∧ Aside0 (Kd.R (Kd.int .i64) 3 w' w.heap.size (fun k_ => nb k_ Ao28 t215.length co28 ∧ nb k_ Ao29 t218.length co29) (.slice Ao26 t208.length co26) t208) ∧ Aside0 (Kd.R k95 95 w' w.heap.size (fun _ => True) u222006 x222006_2) ∧ Aside0 (Kd.R (Kd.int .i64) 3 w' w.heap.size (fun k_ => nb k_ Ao26 t208.length co26 ∧ nb k_ Ao29 t218.length co29) (.slice Ao28 t215.length co28) t215) ∧ Aside0 (Kd.R (Kd.int .i64) 3 w' w.heap.size (fun k_ => nb k_ Ao26 t208.length co26 ∧ nb k_ Ao28 t215.length co28) (.slice Ao29 t218.length co29) t218) ∧ Aside0 (w'.heap[gb199]? = some (.cells #[(.slice A0_0 l0_0.length c0_0), .int .i64 a0_1, .int .i64 a0_2, .int .i64 a0_3, (.slice A0_4 l0_4.length c0_4), .bool a0_5, (.slice A0_6 l0_6.length c0_6), (.slice A0_7 l0_7.length c0_7), (.slice A0_8 l0_8.length c0_8)] 36 (0, 0))) ∧ Aside0 (w'.heap[gb200]? = some (.cells #[(.slice none 0 0), .int .i64 x201001_2, .int .i64 x201002_2, .int .i64 x201003_2, (.slice none 0 0), .bool x201005_2, (.slice none 0 0), (.slice none 0 0), (.slice none 0 0)] 36 (0, 0))) ∧ Aside0 (w'.heap[gb221]? = some (.cells #[(.slice Ao22 t202.length co22), .int .i64 t205, .int .i64 t206, .int .i64 t207, (.slice Ao26 t208.length co26), .bool t211, u222006, (.slice Ao28 t215.length co28), (.slice Ao29 t218.length co29)] 36 (0, 0))) ∧ Aside0 (Below w.heap.size w w'))
    case atStart => exact ⟨(0), (0), (0), (0), (false), (t212), (.slice Ao27 t212.length co27), e2_, H', ⟨Nat.le_refl _⟩, ⟨rf HO204 BK221 (fun _ hk => trivial)⟩, ⟨rf HO210 BK221 (fun _ hk => ⟨hk.1.1, hk.1.2⟩)⟩, ⟨rf HO214 BK221 (fun _ hk => trivial)⟩, ⟨rf HO217 BK221 (fun _ hk => ⟨hk.1.1, hk.1.2⟩)⟩, ⟨rf HO220 BK221 (fun _ hk => ⟨hk.1.1, hk.1.2⟩)⟩, ⟨bf NB199_221.out BK199⟩, ⟨bf NB200_221.out BK200⟩, ⟨by (with_reducible repeat (first | refine blk_drewN ?_ _ | refine blk_drew ?_ | refine blk_alloc ?_ _)); refine blk_put (cs := #[.slice Ao22 t202.length co22, .int .i64 t205, .int .i64 t206, .int .i64 t207, .slice Ao26 t208.length co26, .bool t211, .slice Ao27 t212.length co27, .slice Ao28 t215.length co28, .slice none 0 0]) ?_ 8 _ rfl; (with_reducible repeat (first | refine blk_drewN ?_ _ | refine blk_drew ?_ | refine blk_alloc ?_ _)); refine blk_put (cs := #[.slice Ao22 t202.length co22, .int .i64 t205, .int .i64 t206, .int .i64 t207, .slice Ao26 t208.length co26, .bool t211, .slice Ao27 t212.length co27, .slice none 0 0, .slice none 0 0]) ?_ 7 _ rfl; (with_reducible repeat (first | refine blk_drewN ?_ _ | refine blk_drew ?_ | refine blk_alloc ?_ _)); refine blk_put (cs := #[.slice Ao22 t202.length co22, .int .i64 t205, .int .i64 t206, .int .i64 t207, .slice Ao26 t208.length co26, .bool t211, .slice none 0 0, .slice none 0 0, .slice none 0 0]) ?_ 6 _ rfl; (with_reducible repeat (first | refine blk_drewN ?_ _ | refine blk_drew ?_ | refine blk_alloc ?_ _)); refine blk_put (cs := #[.slice Ao22 t202.length co22, .int .i64 t205, .int .i64 t206, .int .i64 t207, .slice Ao26 t208.length co26, .bool false, .slice none 0 0, .slice none 0 0, .slice none 0 0]) ?_ 5 _ rfl; (with_reducible repeat (first | refine blk_drewN ?_ _ | refine blk_drew ?_ | refine blk_alloc ?_ _)); refine blk_put (cs := #[.slice Ao22 t202.length co22, .int .i64 t205, .int .i64 t206, .int .i64 t207, .slice none 0 0, .bool false, .slice none 0 0, .slice none 0 0, .slice none 0 0]) ?_ 4 _ rfl; (with_reducible repeat (first | refine blk_drewN ?_ _ | refine blk_drew ?_ | refine blk_alloc ?_ _)); refine blk_put (cs := #[.slice Ao22 t202.length co22, .int .i64 t205, .int .i64 t206, .int .i64 0, .slice none 0 0, .bool false, .slice none 0 0, .slice none 0 0, .slice none 0 0]) ?_ 3 _ rfl; (with_reducible repeat (first | refine blk_drewN ?_ _ | refine blk_drew ?_ | refine blk_alloc ?_ _)); refine blk_put (cs := #[.slice Ao22 t202.length co22, .int .i64 t205, .int .i64 0, .int .i64 0, .slice none 0 0, .bool false, .slice none 0 0, .slice none 0 0, .slice none 0 0]) ?_ 2 _ rfl; (with_reducible repeat (first | refine blk_drewN ?_ _ | refine blk_drew ?_ | refine blk_alloc ?_ _)); refine blk_put (cs := #[.slice Ao22 t202.length co22, .int .i64 0, .int .i64 0, .int .i64 0, .slice none 0 0, .bool false, .slice none 0 0, .slice none 0 0, .slice none 0 0]) ?_ 1 _ rfl; (with_reducible repeat (first | refine blk_drewN ?_ _ | refine blk_drew ?_ | refine blk_alloc ?_ _)); refine blk_put (cs := #[.slice none 0 0, .int .i64 0, .int .i64 0, .int .i64 0, .slice none 0 0, .bool false, .slice none 0 0, .slice none 0 0, .slice none 0 0]) ?_ 0 _ rfl; (with_reducible repeat (first | refine blk_drewN ?_ _ | refine blk_drew ?_ | refine blk_alloc ?_ _)); exact BK221.out⟩, ⟨bb HB⟩⟩
    case round =>
     clear H'
     (try clear c1)
     (try clear c2)
     (try clear p2)
     (try clear c5)
     (try clear c7)
     (try clear c8)
     (try clear c11)
     (try clear c12)
     (try clear c14)
     (try clear c15)
     (try clear c18)
     (try clear c23)
     (try clear c24)
     (try clear z12_0 z12_1 z12_2 z12_3 z12_4 z12_5 z12_6 z12_7 z12_8)
     (try clear z16_0 z16_1 z16_2 z16_3 z16_4 z16_5 z16_6 z16_7 z16_8)
     (try clear z19_0 z19_1 z19_2 z19_3 z19_4 z19_5 z19_6 z19_7 z19_8)
     (try clear z25_0 z25_1 z25_2 z25_3 z25_4 z25_5 z25_6 z25_7 z25_8)
     (try clear z9_0 z9_1 z9_2 z9_3 z9_4 z9_5 z9_6 z9_7 z9_8)
     (try clear v12_0 v12_1 v12_2 v12_3 v12_4 v12_5 v12_6 v12_7 v12_8)
     (try clear v16_0 v16_1 v16_2 v16_3 v16_4 v16_5 v16_6 v16_7 v16_8)
     (try clear v19_0 v19_1 v19_2 v19_3 v19_4 v19_5 v19_6 v19_7 v19_8)
     (try clear v25_0 v25_1 v25_2 v25_3 v25_4 v25_5 v25_6 v25_7 v25_8)
     (try clear v9_0 v9_1 v9_2 v9_3 v9_4 v9_5 v9_6 v9_7 v9_8)
     (try clear p2)
     obtain ⟨x22_2, x201001_2, x201002_2, x201003_2, x201005_2, x222006_2, u222006, rfl, HA, HK2, HO_222000, HO_222004, HO_222006, HO_222007, HO_222008, BK199, BK200, BK221, HB⟩ := hrel
     cases gk with
     | zero => exact absurd HA.out (by simp [spec_Decide.l0])
     | succ k2 =>
      have H := HA.out
      clear HA
      simp only [spec_Decide.l0] at H
      by_cases c30 : x22_2 < (l1.length : Int)
      ·rw [if_pos c30] at H
       have c30b0 : decide (x22_2 < (l1.length : Int)) = true := decide_eq_true c30
       clear c30
       by_cases c31 : 0 ≤ x22_2
       ·rw [if_pos c31] at H
        have c31b0 : decide (0 ≤ x22_2) = true := decide_eq_true c31
        clear c31
        by_cases c32 : x22_2 < (l1.length : Int)
        ·rw [if_pos c32] at H
         have c32b0 : decide (x22_2 < (l1.length : Int)) = true := decide_eq_true c32
         clear c32
         replace H := Option.bind_eq_some_iff.mp H
         obtain ⟨t224, A330, H⟩ := H
         replace H : (if t224 = true then (if (rd_T50 l1 x22_2).f2 = true then (if 0 ≤ ((rd_T50 l1 x22_2).f1) then (if ((rd_T50 l1 x22_2).f1) < (l0_6.length : Int) then ((spec_l21Award.f ((rd_T95 l0_6 ((rd_T50 l1 x22_2).f1)).f0) ((rd_T95 l0_6 ((rd_T50 l1 x22_2).f1)).f1) ((rd_T95 l0_6 ((rd_T50 l1 x22_2).f1)).f2) ((rd_T95 l0_6 ((rd_T50 l1 x22_2).f1)).f3) ((rd_T95 l0_6 ((rd_T50 l1 x22_2).f1)).f4) ((rd_T50 l1 x22_2).f0)).bind fun bt226 => (if ((rd_T50 l1 x22_2).f1) < (x222006_2.length : Int) then (spec_Decide.l0 k2 l1 (l1.length : Int) (wrap64 (x22_2 + 1)) l0_0 a0_1 a0_2 a0_3 l0_4 a0_5 l0_6 l0_7 l0_8 t202 t205 t206 t207 t208 t211 (x222006_2.set (((rd_T50 l1 x22_2).f1) : Int).toNat (⟨bt226.1, bt226.2.1, bt226.2.2.1, bt226.2.2.2.1, bt226.2.2.2.2⟩ : S95)) t215 t218) else (none))) else (none)) else (none)) else (if 0 ≤ ((rd_T50 l1 x22_2).f1) then (if ((rd_T50 l1 x22_2).f1) < (l0_6.length : Int) then (if ((rd_T50 l1 x22_2).f1) < (x222006_2.length : Int) then (spec_Decide.l0 k2 l1 (l1.length : Int) (wrap64 (x22_2 + 1)) l0_0 a0_1 a0_2 a0_3 l0_4 a0_5 l0_6 l0_7 l0_8 t202 t205 t206 t207 t208 t211 (x222006_2.set (((rd_T50 l1 x22_2).f1) : Int).toNat (⟨(rd_T95 l0_6 ((rd_T50 l1 x22_2).f1)).f0, (rd_T95 l0_6 ((rd_T50 l1 x22_2).f1)).f1, (rd_T95 l0_6 ((rd_T50 l1 x22_2).f1)).f2, (rd_T95 l0_6 ((rd_T50 l1 x22_2).f1)).f3, (rd_T95 l0_6 ((rd_T50 l1 x22_2).f1)).f4⟩ : S95)) t215 t218) else (none)) else (none)) else (none))) else (some (([] : List (S139)), 0, 0, 0, ([] : List Int), false, ([] : List (S95)), ([] : List Int), ([] : List Int), false))) = some (r1, r2, r3, r4, r5, r6, r7, r8, r9, r10) := H
         have A33 := Aside0.mk A330
         clear A330
         by_cases c34 : t224 = true
         ·subst c34
          have H1 : (if (rd_T50 l1 x22_2).f2 = true then (if 0 ≤ ((rd_T50 l1 x22_2).f1) then (if ((rd_T50 l1 x22_2).f1) < (l0_6.length : Int) then ((spec_l21Award.f ((rd_T95 l0_6 ((rd_T50 l1 x22_2).f1)).f0) ((rd_T95 l0_6 ((rd_T50 l1 x22_2).f1)).f1) ((rd_T95 l0_6 ((rd_T50 l1 x22_2).f1)).f2) ((rd_T95 l0_6 ((rd_T50 l1 x22_2).f1)).f3) ((rd_T95 l0_6 ((rd_T50 l1 x22_2).f1)).f4) ((rd_T50 l1 x22_2).f0)).bind fun bt226 => (if ((rd_T50 l1 x22_2).f1) < (x222006_2.length : Int) then (spec_Decide.l0 k2 l1 (l1.length : Int) (wrap64 (x22_2 + 1)) l0_0 a0_1 a0_2 a0_3 l0_4 a0_5 l0_6 l0_7 l0_8 t202 t205 t206 t207 t208 t211 (x222006_2.set (((rd_T50 l1 x22_2).f1) : Int).toNat (⟨bt226.1, bt226.2.1, bt226.2.2.1, bt226.2.2.2.1, bt226.2.2.2.2⟩ : S95)) t215 t218) else (none))) else (none)) else (none)) else (if 0 ≤ ((rd_T50 l1 x22_2).f1) then (if ((rd_T50 l1 x22_2).f1) < (l0_6.length : Int) then (if ((rd_T50 l1 x22_2).f1) < (x222006_2.length : Int) then (spec_Decide.l0 k2 l1 (l1.length : Int) (wrap64 (x22_2 + 1)) l0_0 a0_1 a0_2 a0_3 l0_4 a0_5 l0_6 l0_7 l0_8 t202 t205 t206 t207 t208 t211 (x222006_2.set (((rd_T50 l1 x22_2).f1) : Int).toNat (⟨(rd_T95 l0_6 ((rd_T50 l1 x22_2).f1)).f0, (rd_T95 l0_6 ((rd_T50 l1 x22_2).f1)).f1, (rd_T95 l0_6 ((rd_T50 l1 x22_2).f1)).f2, (rd_T95 l0_6 ((rd_T50 l1 x22_2).f1)).f3, (rd_T95 l0_6 ((rd_T50 l1 x22_2).f1)).f4⟩ : S95)) t215 t218) else (none)) else (none)) else (none))) = some (r1, r2, r3, r4, r5, r6, r7, r8, r9, r10) := by rw [if_pos rfl] at H; exact H
          clear H
          have H := H1
          clear H1
          obtain ⟨bq35, hbq35⟩ : ∃ b_ : Bool, b_ = ((rd_T50 l1 x22_2).f2) := ⟨_, rfl⟩
          replace H : (if bq35 = true then (if 0 ≤ ((rd_T50 l1 x22_2).f1) then (if ((rd_T50 l1 x22_2).f1) < (l0_6.length : Int) then ((spec_l21Award.f ((rd_T95 l0_6 ((rd_T50 l1 x22_2).f1)).f0) ((rd_T95 l0_6 ((rd_T50 l1 x22_2).f1)).f1) ((rd_T95 l0_6 ((rd_T50 l1 x22_2).f1)).f2) ((rd_T95 l0_6 ((rd_T50 l1 x22_2).f1)).f3) ((rd_T95 l0_6 ((rd_T50 l1 x22_2).f1)).f4) ((rd_T50 l1 x22_2).f0)).bind fun bt226 => (if ((rd_T50 l1 x22_2).f1) < (x222006_2.length : Int) then (spec_Decide.l0 k2 l1 (l1.length : Int) (wrap64 (x22_2 + 1)) l0_0 a0_1 a0_2 a0_3 l0_4 a0_5 l0_6 l0_7 l0_8 t202 t205 t206 t207 t208 t211 (x222006_2.set (((rd_T50 l1 x22_2).f1) : Int).toNat (⟨bt226.1, bt226.2.1, bt226.2.2.1, bt226.2.2.2.1, bt226.2.2.2.2⟩ : S95)) t215 t218) else (none))) else (none)) else (none)) else (if 0 ≤ ((rd_T50 l1 x22_2).f1) then (if ((rd_T50 l1 x22_2).f1) < (l0_6.length : Int) then (if ((rd_T50 l1 x22_2).f1) < (x222006_2.length : Int) then (spec_Decide.l0 k2 l1 (l1.length : Int) (wrap64 (x22_2 + 1)) l0_0 a0_1 a0_2 a0_3 l0_4 a0_5 l0_6 l0_7 l0_8 t202 t205 t206 t207 t208 t211 (x222006_2.set (((rd_T50 l1 x22_2).f1) : Int).toNat (⟨(rd_T95 l0_6 ((rd_T50 l1 x22_2).f1)).f0, (rd_T95 l0_6 ((rd_T50 l1 x22_2).f1)).f1, (rd_T95 l0_6 ((rd_T50 l1 x22_2).f1)).f2, (rd_T95 l0_6 ((rd_T50 l1 x22_2).f1)).f3, (rd_T95 l0_6 ((rd_T50 l1 x22_2).f1)).f4⟩ : S95)) t215 t218) else (none)) else (none)) else (none))) = some (r1, r2, r3, r4, r5, r6, r7, r8, r9, r10) := by rw [← hbq35] at H; exact H
          have Nbq35 := Aside0.mk hbq35
          clear hbq35
          by_cases c36 : bq35 = true
          ·subst c36
           have H1 : (if 0 ≤ ((rd_T50 l1 x22_2).f1) then (if ((rd_T50 l1 x22_2).f1) < (l0_6.length : Int) then ((spec_l21Award.f ((rd_T95 l0_6 ((rd_T50 l1 x22_2).f1)).f0) ((rd_T95 l0_6 ((rd_T50 l1 x22_2).f1)).f1) ((rd_T95 l0_6 ((rd_T50 l1 x22_2).f1)).f2) ((rd_T95 l0_6 ((rd_T50 l1 x22_2).f1)).f3) ((rd_T95 l0_6 ((rd_T50 l1 x22_2).f1)).f4) ((rd_T50 l1 x22_2).f0)).bind fun bt226 => (if ((rd_T50 l1 x22_2).f1) < (x222006_2.length : Int) then (spec_Decide.l0 k2 l1 (l1.length : Int) (wrap64 (x22_2 + 1)) l0_0 a0_1 a0_2 a0_3 l0_4 a0_5 l0_6 l0_7 l0_8 t202 t205 t206 t207 t208 t211 (x222006_2.set (((rd_T50 l1 x22_2).f1) : Int).toNat (⟨bt226.1, bt226.2.1, bt226.2.2.1, bt226.2.2.2.1, bt226.2.2.2.2⟩ : S95)) t215 t218) else (none))) else (none)) else (none)) = some (r1, r2, r3, r4, r5, r6, r7, r8, r9, r10) := by rw [if_pos rfl] at H; exact H
           clear H
           have H := H1
           clear H1
           by_cases c37 : 0 ≤ ((rd_T50 l1 x22_2).f1)
           ·rw [if_pos c37] at H
            have c37b0 : decide (0 ≤ ((rd_T50 l1 x22_2).f1)) = true := decide_eq_true c37
            clear c37
            by_cases c38 : ((rd_T50 l1 x22_2).f1) < (l0_6.length : Int)
            ·rw [if_pos c38] at H
             have c38b0 : decide (((rd_T50 l1 x22_2).f1) < (l0_6.length : Int)) = true := decide_eq_true c38
             clear c38
             replace H := Option.bind_eq_some_iff.mp H
             obtain ⟨⟨t226, t227, t228, t229, t230⟩, A390, H⟩ := H
             replace H : (if ((rd_T50 l1 x22_2).f1) < (x222006_2.length : Int) then (spec_Decide.l0 k2 l1 (l1.length : Int) (wrap64 (x22_2 + 1)) l0_0 a0_1 a0_2 a0_3 l0_4 a0_5 l0_6 l0_7 l0_8 t202 t205 t206 t207 t208 t211 (x222006_2.set (((rd_T50 l1 x22_2).f1) : Int).toNat (⟨t226, t227, t228, t229, t230⟩ : S95)) t215 t218) else (none)) = some (r1, r2, r3, r4, r5, r6, r7, r8, r9, r10) := H
             have A39 := Aside0.mk A390
             clear A390
             by_cases c40 : ((rd_T50 l1 x22_2).f1) < (x222006_2.length : Int)
             ·rw [if_pos c40] at H
              have c40b0 : decide (((rd_T50 l1 x22_2).f1) < (x222006_2.length : Int)) = true := decide_eq_true c40
              clear c40
              obtain ⟨y231, hy231⟩ : ∃ y_ : List (S95), y_ = (x222006_2.set (((rd_T50 l1 x22_2).f1) : Int).toNat (⟨t226, t227, t228, t229, t230⟩ : S95)) := ⟨_, rfl⟩
              replace H : (spec_Decide.l0 k2 l1 (l1.length : Int) (wrap64 (x22_2 + 1)) l0_0 a0_1 a0_2 a0_3 l0_4 a0_5 l0_6 l0_7 l0_8 t202 t205 t206 t207 t208 t211 y231 t215 t218) = some (r1, r2, r3, r4, r5, r6, r7, r8, r9, r10) := by first | (rw [hy231]; with_reducible exact H) | (have H2_ := (Option.bind_some _ _).symm.trans H; rw [hy231]; with_reducible exact H2_) | (have H2_ := (Option.bind_some _ _).symm.trans H; with_reducible exact H2_) | with_reducible exact H | (rw [hy231]; exact H) | exact H
              have Ny231 := Aside0.mk hy231
              clear hy231
              have H' := Aside0.mk H
              clear H
              have p222 : 0 ≤ (x22_2 : Int) := oa
              have q222 : x22_2 < (l1.length : Int) := oa
              obtain ⟨ad222, e222, hx222_0, hx222_1, hx222_2⟩ := at_T50 HR1.out x22_2 p222 q222
              (try rw [← Nbq35.out] at hx222_2)
              cases e222
              replace hx222_0 := hc HB hx222_0
              replace hx222_1 := hc HB hx222_1
              replace hx222_2 := hc HB hx222_2
              replace p222 := eq_true p222
              replace q222 := eq_true q222
              try go_wp2_with (first | ((with_reducible refine gate_dst (N := 8) rfl ?_); (try (refine gate_guard (by rfl) ?_; dsimp only)); refine bx (N := 8) (cs := #[.int .i64 0, .int .i64 0, .bool false]) (t := 50) ?_; intro gb223 hg w42 hbox hb; replace HO_222000 := kr HO_222000 hb; replace HO_222004 := kr HO_222004 hb; replace HO_222006 := kr HO_222006 hb; replace HO_222007 := kr HO_222007 hb; replace HO_222008 := kr HO_222008 hb; have BK223 := Aside0.mk (hbox); have GW223 := gs hg HB; have GE223 := gs hg HB; replace HB := hs_ HB hb; have NB199_223 := gn hg BK199; have NB223_199 := gm hg BK199; replace BK199 := kb BK199 hb; have NB200_223 := gn hg BK200; have NB223_200 := gm hg BK200; replace BK200 := kb BK200 hb; have NB221_223 := gn hg BK221; have NB223_221 := gm hg BK221; replace BK221 := kb BK221 hb; clear hb hbox hg; have hnb43 := NB223_199.out; have hnc43 := NB199_223.out; have hnb44 := NB223_200.out; have hnc44 := NB200_223.out; have hnb45 := NB223_221.out; have hnc45 := NB221_223.out; have ⟨z46_0, z46_1, z46_2, v46_0, v46_1, v46_2⟩ := rz3 BK223; have hnb47 := NB199_200.out; have hnc47 := NB200_199.out; have hnb48 := NB199_221.out; have hnc48 := NB221_199.out; have ⟨z49_0, z49_1, z49_2, z49_3, z49_4, z49_5, z49_6, z49_7, z49_8, v49_0, v49_1, v49_2, v49_3, v49_4, v49_5, v49_6, v49_7, v49_8⟩ := rz9 BK199) | ((with_reducible refine gate_callee (f := 57) rfl ?_); refine gl (some 28) Try.func57 #[.agg #[.slice A0_0 l0_0.length c0_0, .int .i64 a0_1, .int .i64 a0_2, .int .i64 a0_3, .slice A0_4 l0_4.length c0_4, .bool a0_5, .slice A0_6 l0_6.length c0_6, .slice A0_7 l0_7.length c0_7, .slice A0_8 l0_8.length c0_8], .agg #[.int .i64 ((rd_T50 l1 x22_2).f0), .int .i64 ((rd_T50 l1 x22_2).f1), .bool true]] ?_; (with_reducible refine (spec_ProtestOk.calls k2 _ _ l0_0 a0_1 a0_2 a0_3 _ _ l0_4 a0_5 _ _ l0_6 _ _ l0_7 _ _ l0_8 ((rd_T50 l1 x22_2).f0) ((rd_T50 l1 x22_2).f1) true true _ ?side1 ?side2 ?side3 ?side4 ?side5 ?side6 ?side7 ?side8 ?side9 ?side10 (by first | exact A33.out | (have h_ := A33.out; rw [← Nbq35.out] at h_; exact h_))).mono ?_); (case side1 => exact Kd.C_below HR0_0.out (bb HB)); (case side2 => exact HC0_0.out); (case side3 => exact Kd.C_below HR0_4.out (bb HB)); (case side4 => exact HC0_4.out); (case side5 => exact Kd.C_below HR0_6.out (bb HB)); (case side6 => exact HC0_6.out); (case side7 => exact Kd.C_below HR0_7.out (bb HB)); (case side8 => exact HC0_7.out); (case side9 => exact Kd.C_below HR0_8.out (bb HB)); (case side10 => exact HC0_8.out); rintro e w50 ⟨rfl, hb⟩; refine ⟨_, rfl, ?_⟩; replace HO_222000 := kf HO_222000 BK223 hb; replace HO_222004 := kf HO_222004 BK223 hb; replace HO_222006 := kf HO_222006 BK223 hb; replace HO_222007 := kf HO_222007 BK223 hb; replace HO_222008 := kf HO_222008 BK223 hb; replace BK199 := Aside0.mk (blk_below (bf NB199_223.out BK199) hb); replace BK200 := Aside0.mk (blk_below (bf NB200_223.out BK200) hb); replace BK221 := Aside0.mk (blk_below (bf NB221_223.out BK221) hb); replace BK223 := Aside0.mk (blk_below (g := gb223) (o := .cells #[.int .i64 ((rd_T50 l1 x22_2).f0), .int .i64 ((rd_T50 l1 x22_2).f1), .bool true] 50 (0, 0)) (bp BK223) hb); replace HB := hs_ HB hb; (try clear hb hb2 hk hi); have ⟨z51_0, z51_1, z51_2, v51_0, v51_1, v51_2⟩ := rz3 BK223))
              replace HO_222000 := Aside0.mk (Kd.R_drew HO_222000.out)
              replace HO_222004 := Aside0.mk (Kd.R_drew HO_222004.out)
              replace HO_222006 := Aside0.mk (Kd.R_drew HO_222006.out)
              replace HO_222007 := Aside0.mk (Kd.R_drew HO_222007.out)
              replace HO_222008 := Aside0.mk (Kd.R_drew HO_222008.out)
              replace BK199 := Aside0.mk (blk_drew BK199.out)
              replace BK200 := Aside0.mk (blk_drew BK200.out)
              replace BK221 := Aside0.mk (blk_drew BK221.out)
              replace BK223 := Aside0.mk (blk_drew BK223.out)
              replace HB := Aside0.mk (below_drew1 HB.out)
              have p225 : 0 ≤ (((rd_T50 l1 x22_2).f1) : Int) := oa
              have q225 : ((rd_T50 l1 x22_2).f1) < (l0_6.length : Int) := oa
              obtain ⟨ad225, e225, hx225_0, hx225_1, hx225_2, hx225_3, hx225_4⟩ := at_T95 HR0_6.out ((rd_T50 l1 x22_2).f1) p225 q225
              have hw225_4 := hx225_4
              have hw225_3 := hx225_3
              have hw225_2 := hx225_2
              have hw225_1 := hx225_1
              have hw225_0 := hx225_0
              cases e225
              replace hx225_0 := hc HB hx225_0
              replace hx225_1 := hc HB hx225_1
              replace hx225_2 := hc HB hx225_2
              replace hx225_3 := hc HB hx225_3
              replace hx225_4 := hc HB hx225_4
              replace p225 := eq_true p225
              replace q225 := eq_true q225
              refine start_ (n := 15) (S := fun w' => w'.cell? ⟨gb221, 0, none⟩ = some (.slice Ao22 t202.length co22) ∧ w'.cell? ⟨gb221, 1, none⟩ = some (.int .i64 t205) ∧ w'.cell? ⟨gb221, 2, none⟩ = some (.int .i64 t206) ∧ w'.cell? ⟨gb221, 3, none⟩ = some (.int .i64 t207) ∧ w'.cell? ⟨gb221, 4, none⟩ = some (.slice Ao26 t208.length co26) ∧ w'.cell? ⟨gb221, 5, none⟩ = some (.bool t211) ∧ w'.cell? ⟨gb221, 6, none⟩ = some (u222006) ∧ w'.cell? ⟨gb221, 7, none⟩ = some (.slice Ao28 t215.length co28) ∧ w'.cell? ⟨gb221, 8, none⟩ = some (.slice Ao29 t218.length co29) ∧ w'.cell? ⟨gb223, 0, none⟩ = some (.int .i64 ((rd_T50 l1 x22_2).f0)) ∧ w'.cell? ⟨gb223, 1, none⟩ = some (.int .i64 ((rd_T50 l1 x22_2).f1)) ∧ w'.cell? ⟨gb223, 2, none⟩ = some (.bool true) ∧ w'.cell? ⟨gb199, 0, none⟩ = some (.slice A0_0 l0_0.length c0_0) ∧ w'.cell? ⟨gb199, 1, none⟩ = some (.int .i64 a0_1) ∧ w'.cell? ⟨gb199, 2, none⟩ = some (.int .i64 a0_2) ∧ w'.cell? ⟨gb199, 3, none⟩ = some (.int .i64 a0_3) ∧ w'.cell? ⟨gb199, 4, none⟩ = some (.slice A0_4 l0_4.length c0_4) ∧ w'.cell? ⟨gb199, 5, none⟩ = some (.bool a0_5) ∧ w'.cell? ⟨gb199, 6, none⟩ = some (.slice (some ad225) l0_6.length c0_6) ∧ w'.cell? ⟨gb199, 7, none⟩ = some (.slice A0_7 l0_7.length c0_7) ∧ w'.cell? ⟨gb199, 8, none⟩ = some (.slice A0_8 l0_8.length c0_8) ∧ w'.cell? (ad225.add ((((rd_T50 l1 x22_2).f1)).toNat * 5)) = some (.int .i64 ((rd_T95 l0_6 ((rd_T50 l1 x22_2).f1)).f0)) ∧ w'.cell? ⟨(ad225.add ((((rd_T50 l1 x22_2).f1)).toNat * 5)).block, (ad225.add ((((rd_T50 l1 x22_2).f1)).toNat * 5)).off + 1, none⟩ = some (.int .i64 ((rd_T95 l0_6 ((rd_T50 l1 x22_2).f1)).f1)) ∧ w'.cell? ⟨(ad225.add ((((rd_T50 l1 x22_2).f1)).toNat * 5)).block, (ad225.add ((((rd_T50 l1 x22_2).f1)).toNat * 5)).off + 2, none⟩ = some (.int .i64 ((rd_T95 l0_6 ((rd_T50 l1 x22_2).f1)).f2)) ∧ w'.cell? ⟨(ad225.add ((((rd_T50 l1 x22_2).f1)).toNat * 5)).block, (ad225.add ((((rd_T50 l1 x22_2).f1)).toNat * 5)).off + 3, none⟩ = some (.int .i64 ((rd_T95 l0_6 ((rd_T50 l1 x22_2).f1)).f3)) ∧ w'.cell? ⟨(ad225.add ((((rd_T50 l1 x22_2).f1)).toNat * 5)).block, (ad225.add ((((rd_T50 l1 x22_2).f1)).toNat * 5)).off + 4, none⟩ = some (.int .i64 ((rd_T95 l0_6 ((rd_T50 l1 x22_2).f1)).f4))) (ds := [14]) #[false, false, false, false, false, false, false, false, false, false, false, false, false, false, false] (by kernel_rfl) rfl rfl ⟨bc BK221 0, bc BK221 1, bc BK221 2, bc BK221 3, bc BK221 4, bc BK221 5, bc BK221 6, bc BK221 7, bc BK221 8, bc BK223 0, bc BK223 1, bc BK223 2, bc BK199 0, bc BK199 1, bc BK199 2, bc BK199 3, bc BK199 4, bc BK199 5, bc BK199 6, bc BK199 7, bc BK199 8, (hc HB hw225_0), (hc HB hw225_1), (hc HB hw225_2), (hc HB hw225_3), (hc HB hw225_4)⟩ (fun hHeld => ?_); refine with_tabW spec_Decide.tab10 spec_Decide.bits10 (fun HT_ HW_ => ?_)
              generalize w50.drew = w52 at HO_222000 HO_222004 HO_222006 HO_222007 HO_222008 BK199 BK200 BK221 BK223 HB hx225_0 hx225_1 hx225_2 hx225_3 hx225_4 hHeld ⊢
              refine pz_ 0 33 ?_
              refine pz_ 2 35 ?_
              refine pz_ 4 37 ?_
              refine pz_ 6 39 ?_
              refine pz_ 10 43 ?_
              refine take_ (i := 1) (N := some 34) (v := ?_) (a' := ?_) #[true, true, true, false, true, false, true, false, false, false, true, false, false, false, false] rfl rfl (take_ofW HT_.out HW_.out (by kernel_rfl)) (fun _ _ _ h => h) (Or.inl ⟨by rfl, ?_⟩) hHeld ?_ ?_
              rotate_left
              ·rintro w' ⟨s0, s1, s2, s3, s4, s5, s6, s7, s8, s9, s10, s11, s12, s13, s14, s15, s16, s17, s18, s19, s20, s21, s22, s23, s24, s25⟩
               go_simp
               with_reducible rfl
              rotate_left
              ·simp only [Act.put, List.setIfInBounds_toArray, List.set_cons_zero, List.set_cons_succ, i64_w, i32_w]
               rfl
              refine take_ (i := 3) (N := some 36) (v := ?_) (a' := ?_) #[true, true, true, true, true, false, true, false, false, false, true, false, false, false, false] rfl rfl (take_ofW HT_.out HW_.out (by kernel_rfl)) (fun _ _ _ h => h) (Or.inl ⟨by rfl, ?_⟩) hHeld ?_ ?_
              rotate_left
              ·rintro w' ⟨s0, s1, s2, s3, s4, s5, s6, s7, s8, s9, s10, s11, s12, s13, s14, s15, s16, s17, s18, s19, s20, s21, s22, s23, s24, s25⟩
               go_simp
               with_reducible rfl
              rotate_left
              ·simp only [Act.put, List.setIfInBounds_toArray, List.set_cons_zero, List.set_cons_succ, i64_w, i32_w]
               rfl
              refine take_ (i := 5) (N := some 38) (v := ?_) (a' := ?_) #[true, true, true, true, true, true, true, false, false, false, true, false, false, false, false] rfl rfl (take_ofW HT_.out HW_.out (by kernel_rfl)) (fun _ _ _ h => h) (Or.inl ⟨by rfl, ?_⟩) hHeld ?_ ?_
              rotate_left
              ·rintro w' ⟨s0, s1, s2, s3, s4, s5, s6, s7, s8, s9, s10, s11, s12, s13, s14, s15, s16, s17, s18, s19, s20, s21, s22, s23, s24, s25⟩
               go_simp
               with_reducible rfl
              rotate_left
              ·simp only [Act.put, List.setIfInBounds_toArray, List.set_cons_zero, List.set_cons_succ, i64_w, i32_w]
               rfl
              refine take_ (i := 7) (N := some 40) (v := ?_) (a' := ?_) #[true, true, true, true, true, true, true, true, false, false, true, false, false, false, false] rfl rfl (take_ofW HT_.out HW_.out (by kernel_rfl)) (fun _ _ _ h => h) (Or.inl ⟨by rfl, ?_⟩) hHeld ?_ ?_
              rotate_left
              ·rintro w' ⟨s0, s1, s2, s3, s4, s5, s6, s7, s8, s9, s10, s11, s12, s13, s14, s15, s16, s17, s18, s19, s20, s21, s22, s23, s24, s25⟩
               go_simp
               with_reducible rfl
              rotate_left
              ·simp only [Act.put, List.setIfInBounds_toArray, List.set_cons_zero, List.set_cons_succ, i64_w, i32_w]
               rfl
              refine pz_ 8 41 ?_
              refine take_ (i := 9) (N := some 42) (v := ?_) (a' := ?_) #[true, true, true, true, true, true, true, true, true, true, true, false, false, false, false] rfl rfl (take_ofW HT_.out HW_.out (by kernel_rfl)) (fun _ _ _ h => h) (Or.inl ⟨by rfl, ?_⟩) hHeld ?_ ?_
              rotate_left
              ·rintro w' ⟨s0, s1, s2, s3, s4, s5, s6, s7, s8, s9, s10, s11, s12, s13, s14, s15, s16, s17, s18, s19, s20, s21, s22, s23, s24, s25⟩
               go_simp
               with_reducible rfl
              rotate_left
              ·simp only [Act.put, List.setIfInBounds_toArray, List.set_cons_zero, List.set_cons_succ, i64_w, i32_w]
               rfl
              refine take_ (i := 11) (N := some 44) (v := ?_) (a' := ?_) #[true, true, true, true, true, true, true, true, true, true, true, true, false, false, false] rfl rfl (take_ofW HT_.out HW_.out (by kernel_rfl)) (fun _ _ _ h => h) (Or.inl ⟨by rfl, ?_⟩) hHeld ?_ ?_
              rotate_left
              ·rintro w' ⟨s0, s1, s2, s3, s4, s5, s6, s7, s8, s9, s10, s11, s12, s13, s14, s15, s16, s17, s18, s19, s20, s21, s22, s23, s24, s25⟩
               go_simp
               with_reducible rfl
              rotate_left
              ·simp only [Act.put, List.setIfInBounds_toArray, List.set_cons_zero, List.set_cons_succ, i64_w, i32_w]
               rfl
              refine one_ (i := 12) (N := some 45) #[true, true, true, true, true, true, true, true, true, true, true, true, true, false, false] rfl rfl (one_of HT_.out (by kernel_rfl)) (by decide) (fun K hK => ?_)
              refine goes_ Try.func58 (by kernel_rfl) rfl #[.agg #[.int .i64 ((rd_T95 l0_6 ((rd_T50 l1 x22_2).f1)).f0), .int .i64 ((rd_T95 l0_6 ((rd_T50 l1 x22_2).f1)).f1), .int .i64 ((rd_T95 l0_6 ((rd_T50 l1 x22_2).f1)).f2), .int .i64 ((rd_T95 l0_6 ((rd_T50 l1 x22_2).f1)).f3), .int .i64 ((rd_T95 l0_6 ((rd_T50 l1 x22_2).f1)).f4)], .int .i64 ((rd_T50 l1 x22_2).f0)] (by rfl) rfl rfl (by (try simp only [List.map_toArray, List.map_cons, List.map_nil]); first | done | rfl | (simp only [List.length_drop, List.length_take]; rfl)) ?_
              with_reducible refine (spec_l21Award.calls ((rd_T95 l0_6 ((rd_T50 l1 x22_2).f1)).f0) ((rd_T95 l0_6 ((rd_T50 l1 x22_2).f1)).f1) ((rd_T95 l0_6 ((rd_T50 l1 x22_2).f1)).f2) ((rd_T95 l0_6 ((rd_T50 l1 x22_2).f1)).f3) ((rd_T95 l0_6 ((rd_T50 l1 x22_2).f1)).f4) ((rd_T50 l1 x22_2).f0) t226 t227 t228 t229 t230 _ A39.out).mono ?_
              rintro e w53 ⟨rfl, hb⟩
              refine ⟨_, rfl, ?_⟩
              replace HO_222000 := kr HO_222000 hb
              replace HO_222004 := kr HO_222004 hb
              replace HO_222006 := kr HO_222006 hb
              replace HO_222007 := kr HO_222007 hb
              replace HO_222008 := kr HO_222008 hb
              replace BK199 := kb BK199 hb
              replace BK200 := kb BK200 hb
              replace BK221 := kb BK221 hb
              replace BK223 := kb BK223 hb
              replace HB := hs_ HB hb
              (try clear hb hb2 hk hi)
              have p41 : 0 ≤ (((rd_T50 l1 x22_2).f1) : Int) := oa
              have q41 : (((rd_T50 l1 x22_2).f1) : Int) < ((x222006_2.length : Int) : Int) := oa
              obtain ⟨go41, co41, eo41, gb41, gl41, cl41, HG41⟩ := Kd.R_form HO_222006.out (by omega)
              (first | cases eo41 | (injection eo41 with ea_ en_ ec_; (first | subst ea_ | (injection ea_ with ea_; subst ea_)); subst ec_; clear en_))
              have GB41 := Aside0.mk gb41
              have GG41 := Aside0.mk HG41
              clear gb41 gl41 HG41
              obtain ⟨ce41, hcl41, hM41, hcc41, hfr41⟩ := Kd.R_elem HO_222006.out z95 (((rd_T50 l1 x22_2).f1) : Int) p41 q41
              obtain rfl := k95_openM hM41
              have hx41_0 : World.cell? _ ⟨go41, (((rd_T50 l1 x22_2).f1) : Int).toNat * 5, none⟩ = some (.int .i64 ((rd_T95 x222006_2 ((rd_T50 l1 x22_2).f1)).f0)) := hcc41 0 _ rfl
              have hx41_1 : World.cell? _ ⟨go41, (((rd_T50 l1 x22_2).f1) : Int).toNat * 5 + 1, none⟩ = some (.int .i64 ((rd_T95 x222006_2 ((rd_T50 l1 x22_2).f1)).f1)) := hcc41 1 _ rfl
              have hx41_2 : World.cell? _ ⟨go41, (((rd_T50 l1 x22_2).f1) : Int).toNat * 5 + 2, none⟩ = some (.int .i64 ((rd_T95 x222006_2 ((rd_T50 l1 x22_2).f1)).f2)) := hcc41 2 _ rfl
              have hx41_3 : World.cell? _ ⟨go41, (((rd_T50 l1 x22_2).f1) : Int).toNat * 5 + 3, none⟩ = some (.int .i64 ((rd_T95 x222006_2 ((rd_T50 l1 x22_2).f1)).f3)) := hcc41 3 _ rfl
              have hx41_4 : World.cell? _ ⟨go41, (((rd_T50 l1 x22_2).f1) : Int).toNat * 5 + 4, none⟩ = some (.int .i64 ((rd_T95 x222006_2 ((rd_T50 l1 x22_2).f1)).f4)) := hcc41 4 _ rfl
              have hf41_0 : World.frozen? _ ⟨go41, (((rd_T50 l1 x22_2).f1) : Int).toNat * 5, none⟩ = false := hfr41 0
              have hf41_1 : World.frozen? _ ⟨go41, (((rd_T50 l1 x22_2).f1) : Int).toNat * 5 + 1, none⟩ = false := hfr41 1
              have hf41_2 : World.frozen? _ ⟨go41, (((rd_T50 l1 x22_2).f1) : Int).toNat * 5 + 2, none⟩ = false := hfr41 2
              have hf41_3 : World.frozen? _ ⟨go41, (((rd_T50 l1 x22_2).f1) : Int).toNat * 5 + 3, none⟩ = false := hfr41 3
              have hf41_4 : World.frozen? _ ⟨go41, (((rd_T50 l1 x22_2).f1) : Int).toNat * 5 + 4, none⟩ = false := hfr41 4
              clear hcl41 hcc41 hfr41; (try clear hM41)
              replace p41 := eq_true p41
              replace q41 := eq_true q41
              obtain ⟨ce54, hcl54, hM54, hcc54, hfr54⟩ := Kd.R_elem HO_222006.out z95 (((rd_T50 l1 x22_2).f1) : Int) (oa) (by have h_ : (((rd_T50 l1 x22_2).f1) : Int) < ((x222006_2.length : Int) : Int) := oa; first | exact h_ | (have e_ := (Kd.R_reads' HO_222006.out).1; omega) | simpa using h_)
              obtain rfl := k95_openM hM54
              have HP54 := (Kd.R_seg HO_222006.out (((rd_T50 l1 x22_2).f1) : Int) (oa) (by have h_ : (((rd_T50 l1 x22_2).f1) : Int) < ((x222006_2.length : Int) : Int) := oa; first | exact h_ | (have e_ := (Kd.R_reads' HO_222006.out).1; omega) | simpa using h_) (seg := [.int .i64 t226, .int .i64 t227, .int .i64 t228, .int .i64 t229, .int .i64 t230]) (j := 0) hcl54 hcc54 (show 5 ≤ 5 from by decide) (x' := (⟨t226, t227, t228, t229, t230⟩ : S95)) (k95_mkM _ _ _ (⟨t226, t227, t228, t229, t230⟩ : S95) ) (fun _ hk => hk)).1
              rw [← Ny231.out] at HP54
              have HQ54 := Aside0.mk HP54
              clear hcl54 hcc54 hfr54 hM54 HP54
              refine hK.out _ _ ⟨bc BK221 0, bc BK221 1, bc BK221 2, bc BK221 3, bc BK221 4, bc BK221 5, bc BK221 6, bc BK221 7, bc BK221 8, bc BK223 0, bc BK223 1, bc BK223 2, bc BK199 0, bc BK199 1, bc BK199 2, bc BK199 3, bc BK199 4, bc BK199 5, bc BK199 6, bc BK199 7, bc BK199 8, (hc HB hw225_0), (hc HB hw225_1), (hc HB hw225_2), (hc HB hw225_3), (hc HB hw225_4)⟩ (fun hHeld => ?_)
              clear hK K
              refine norm_ (a' := ?_) ?_ ?_
              rotate_left
              ·show Act.put _ (some 45) _ = _
               simp only [Act.put, List.setIfInBounds_toArray, List.set_cons_zero, List.set_cons_succ, i64_w, i32_w]
               rfl
              refine pz_ 13 46 ?_
              refine last_ (i := 14) (N := none) #[true, true, true, true, true, true, true, true, true, true, true, true, true, true, true] rfl rfl (one_of HT_.out (by kernel_rfl)) (by decide) (fun K hK => ?_)
              refine skip_ (w1 := ?_) (by rfl) rfl ?_ ?_
              rotate_left
              ·go_simp
               rfl
              refine hK.out _ _ ?_
              clear hK K
              refine done_ (done_of HT_.out (by kernel_rfl)) ?_
              try go_wp2
              go_roundg k2
              case measure => have := HJ2.out; have := HK2.out; omega
              case rel => exact ⟨(wrap64 (x22_2 + 1)), (x201001_2), (x201002_2), (x201003_2), (x201005_2), (y231), (.slice (some ⟨go41, 0, none⟩) x222006_2.length co41), e2_, H', ⟨by have := HJ2.out; have := HK2.out; omega⟩, ⟨by (with_reducible repeat (first | apply Kd.R_alloc | apply Kd.R_drewN | apply Kd.R_drew)); exact Kd.R_mono (Kd.R_far (p := ⟨go41, (((rd_T50 l1 x22_2).f1) : Int).toNat * 5 + 4, none⟩) (Kd.R_far (p := ⟨go41, (((rd_T50 l1 x22_2).f1) : Int).toNat * 5 + 3, none⟩) (Kd.R_far (p := ⟨go41, (((rd_T50 l1 x22_2).f1) : Int).toNat * 5 + 2, none⟩) (Kd.R_far (p := ⟨go41, (((rd_T50 l1 x22_2).f1) : Int).toNat * 5 + 1, none⟩) (Kd.R_far (p := ⟨go41, (((rd_T50 l1 x22_2).f1) : Int).toNat * 5, none⟩) (Kd.R_types HO_222000.out GG41.out (by decide)) (fun _ hk => hk.2) (.int .i64 t226)) (fun _ hk => hk.2) (.int .i64 t227)) (fun _ hk => hk.2) (.int .i64 t228)) (fun _ hk => hk.2) (.int .i64 t229)) (fun _ hk => hk.2) (.int .i64 t230)) (fun _ hk => trivial)⟩, ⟨by (with_reducible repeat (first | apply Kd.R_alloc | apply Kd.R_drewN | apply Kd.R_drew)); exact Kd.R_mono (Kd.R_far (p := ⟨go41, (((rd_T50 l1 x22_2).f1) : Int).toNat * 5 + 4, none⟩) (Kd.R_far (p := ⟨go41, (((rd_T50 l1 x22_2).f1) : Int).toNat * 5 + 3, none⟩) (Kd.R_far (p := ⟨go41, (((rd_T50 l1 x22_2).f1) : Int).toNat * 5 + 2, none⟩) (Kd.R_far (p := ⟨go41, (((rd_T50 l1 x22_2).f1) : Int).toNat * 5 + 1, none⟩) (Kd.R_far (p := ⟨go41, (((rd_T50 l1 x22_2).f1) : Int).toNat * 5, none⟩) (Kd.R_types HO_222004.out GG41.out (by decide)) (fun _ hk => hk.2) (.int .i64 t226)) (fun _ hk => hk.2) (.int .i64 t227)) (fun _ hk => hk.2) (.int .i64 t228)) (fun _ hk => hk.2) (.int .i64 t229)) (fun _ hk => hk.2) (.int .i64 t230)) (fun _ hk => ⟨hk.1.1, hk.1.2⟩)⟩, ⟨rr HQ54⟩, ⟨by (with_reducible repeat (first | apply Kd.R_alloc | apply Kd.R_drewN | apply Kd.R_drew)); exact Kd.R_mono (Kd.R_far (p := ⟨go41, (((rd_T50 l1 x22_2).f1) : Int).toNat * 5 + 4, none⟩) (Kd.R_far (p := ⟨go41, (((rd_T50 l1 x22_2).f1) : Int).toNat * 5 + 3, none⟩) (Kd.R_far (p := ⟨go41, (((rd_T50 l1 x22_2).f1) : Int).toNat * 5 + 2, none⟩) (Kd.R_far (p := ⟨go41, (((rd_T50 l1 x22_2).f1) : Int).toNat * 5 + 1, none⟩) (Kd.R_far (p := ⟨go41, (((rd_T50 l1 x22_2).f1) : Int).toNat * 5, none⟩) (Kd.R_types HO_222007.out GG41.out (by decide)) (fun _ hk => hk.2) (.int .i64 t226)) (fun _ hk => hk.2) (.int .i64 t227)) (fun _ hk => hk.2) (.int .i64 t228)) (fun _ hk => hk.2) (.int .i64 t229)) (fun _ hk => hk.2) (.int .i64 t230)) (fun _ hk => ⟨hk.1.1, hk.1.2⟩)⟩, ⟨by (with_reducible repeat (first | apply Kd.R_alloc | apply Kd.R_drewN | apply Kd.R_drew)); exact Kd.R_mono (Kd.R_far (p := ⟨go41, (((rd_T50 l1 x22_2).f1) : Int).toNat * 5 + 4, none⟩) (Kd.R_far (p := ⟨go41, (((rd_T50 l1 x22_2).f1) : Int).toNat * 5 + 3, none⟩) (Kd.R_far (p := ⟨go41, (((rd_T50 l1 x22_2).f1) : Int).toNat * 5 + 2, none⟩) (Kd.R_far (p := ⟨go41, (((rd_T50 l1 x22_2).f1) : Int).toNat * 5 + 1, none⟩) (Kd.R_far (p := ⟨go41, (((rd_T50 l1 x22_2).f1) : Int).toNat * 5, none⟩) (Kd.R_types HO_222008.out GG41.out (by decide)) (fun _ hk => hk.2) (.int .i64 t226)) (fun _ hk => hk.2) (.int .i64 t227)) (fun _ hk => hk.2) (.int .i64 t228)) (fun _ hk => hk.2) (.int .i64 t229)) (fun _ hk => hk.2) (.int .i64 t230)) (fun _ hk => ⟨hk.1.1, hk.1.2⟩)⟩, ⟨bg HO_222006 BK199⟩, ⟨bg HO_222006 BK200⟩, ⟨bg HO_222006 BK221⟩, ⟨bb HB⟩⟩
             ·rw [if_neg c40] at H
              exact absurd H (by simp)
            ·rw [if_neg c38] at H
             exact absurd H (by simp)
           ·rw [if_neg c37] at H
            exact absurd H (by simp)
          ·replace c36 := Bool.eq_false_iff.mpr c36
           subst c36
           have H1 : (if 0 ≤ ((rd_T50 l1 x22_2).f1) then (if ((rd_T50 l1 x22_2).f1) < (l0_6.length : Int) then (if ((rd_T50 l1 x22_2).f1) < (x222006_2.length : Int) then (spec_Decide.l0 k2 l1 (l1.length : Int) (wrap64 (x22_2 + 1)) l0_0 a0_1 a0_2 a0_3 l0_4 a0_5 l0_6 l0_7 l0_8 t202 t205 t206 t207 t208 t211 (x222006_2.set (((rd_T50 l1 x22_2).f1) : Int).toNat (⟨(rd_T95 l0_6 ((rd_T50 l1 x22_2).f1)).f0, (rd_T95 l0_6 ((rd_T50 l1 x22_2).f1)).f1, (rd_T95 l0_6 ((rd_T50 l1 x22_2).f1)).f2, (rd_T95 l0_6 ((rd_T50 l1 x22_2).f1)).f3, (rd_T95 l0_6 ((rd_T50 l1 x22_2).f1)).f4⟩ : S95)) t215 t218) else (none)) else (none)) else (none)) = some (r1, r2, r3, r4, r5, r6, r7, r8, r9, r10) := by rw [if_neg (show ¬ (false = true) by decide)] at H; exact H
           clear H
           have H := H1
           clear H1
           by_cases c55 : 0 ≤ ((rd_T50 l1 x22_2).f1)
           ·rw [if_pos c55] at H
            have c55b0 : decide (0 ≤ ((rd_T50 l1 x22_2).f1)) = true := decide_eq_true c55
            clear c55
            by_cases c56 : ((rd_T50 l1 x22_2).f1) < (l0_6.length : Int)
            ·rw [if_pos c56] at H
             have c56b0 : decide (((rd_T50 l1 x22_2).f1) < (l0_6.length : Int)) = true := decide_eq_true c56
             clear c56
             by_cases c57 : ((rd_T50 l1 x22_2).f1) < (x222006_2.length : Int)
             ·rw [if_pos c57] at H
              have c57b0 : decide (((rd_T50 l1 x22_2).f1) < (x222006_2.length : Int)) = true := decide_eq_true c57
              clear c57
              obtain ⟨y233, hy233⟩ : ∃ y_ : List (S95), y_ = (x222006_2.set (((rd_T50 l1 x22_2).f1) : Int).toNat (⟨(rd_T95 l0_6 ((rd_T50 l1 x22_2).f1)).f0, (rd_T95 l0_6 ((rd_T50 l1 x22_2).f1)).f1, (rd_T95 l0_6 ((rd_T50 l1 x22_2).f1)).f2, (rd_T95 l0_6 ((rd_T50 l1 x22_2).f1)).f3, (rd_T95 l0_6 ((rd_T50 l1 x22_2).f1)).f4⟩ : S95)) := ⟨_, rfl⟩
              replace H : (spec_Decide.l0 k2 l1 (l1.length : Int) (wrap64 (x22_2 + 1)) l0_0 a0_1 a0_2 a0_3 l0_4 a0_5 l0_6 l0_7 l0_8 t202 t205 t206 t207 t208 t211 y233 t215 t218) = some (r1, r2, r3, r4, r5, r6, r7, r8, r9, r10) := by first | (rw [hy233]; with_reducible exact H) | (have H2_ := (Option.bind_some _ _).symm.trans H; rw [hy233]; with_reducible exact H2_) | (have H2_ := (Option.bind_some _ _).symm.trans H; with_reducible exact H2_) | with_reducible exact H | (rw [hy233]; exact H) | exact H
              have Ny233 := Aside0.mk hy233
              clear hy233
              have H' := Aside0.mk H
              clear H
              have p222 : 0 ≤ (x22_2 : Int) := oa
              have q222 : x22_2 < (l1.length : Int) := oa
              obtain ⟨ad222, e222, hx222_0, hx222_1, hx222_2⟩ := at_T50 HR1.out x22_2 p222 q222
              (try rw [← Nbq35.out] at hx222_2)
              cases e222
              replace hx222_0 := hc HB hx222_0
              replace hx222_1 := hc HB hx222_1
              replace hx222_2 := hc HB hx222_2
              replace p222 := eq_true p222
              replace q222 := eq_true q222
              try go_wp2_with (first | ((with_reducible refine gate_dst (N := 8) rfl ?_); (try (refine gate_guard (by rfl) ?_; dsimp only)); refine bx (N := 8) (cs := #[.int .i64 0, .int .i64 0, .bool false]) (t := 50) ?_; intro gb223 hg w59 hbox hb; replace HO_222000 := kr HO_222000 hb; replace HO_222004 := kr HO_222004 hb; replace HO_222006 := kr HO_222006 hb; replace HO_222007 := kr HO_222007 hb; replace HO_222008 := kr HO_222008 hb; have BK223 := Aside0.mk (hbox); have GW223 := gs hg HB; have GE223 := gs hg HB; replace HB := hs_ HB hb; have NB199_223 := gn hg BK199; have NB223_199 := gm hg BK199; replace BK199 := kb BK199 hb; have NB200_223 := gn hg BK200; have NB223_200 := gm hg BK200; replace BK200 := kb BK200 hb; have NB221_223 := gn hg BK221; have NB223_221 := gm hg BK221; replace BK221 := kb BK221 hb; clear hb hbox hg; have hnb60 := NB223_199.out; have hnc60 := NB199_223.out; have hnb61 := NB223_200.out; have hnc61 := NB200_223.out; have hnb62 := NB223_221.out; have hnc62 := NB221_223.out; have ⟨z63_0, z63_1, z63_2, v63_0, v63_1, v63_2⟩ := rz3 BK223; have hnb64 := NB199_200.out; have hnc64 := NB200_199.out; have hnb65 := NB199_221.out; have hnc65 := NB221_199.out; have ⟨z66_0, z66_1, z66_2, z66_3, z66_4, z66_5, z66_6, z66_7, z66_8, v66_0, v66_1, v66_2, v66_3, v66_4, v66_5, v66_6, v66_7, v66_8⟩ := rz9 BK199) | ((with_reducible refine gate_callee (f := 57) rfl ?_); refine gl (some 28) Try.func57 #[.agg #[.slice A0_0 l0_0.length c0_0, .int .i64 a0_1, .int .i64 a0_2, .int .i64 a0_3, .slice A0_4 l0_4.length c0_4, .bool a0_5, .slice A0_6 l0_6.length c0_6, .slice A0_7 l0_7.length c0_7, .slice A0_8 l0_8.length c0_8], .agg #[.int .i64 ((rd_T50 l1 x22_2).f0), .int .i64 ((rd_T50 l1 x22_2).f1), .bool false]] ?_; (with_reducible refine (spec_ProtestOk.calls k2 _ _ l0_0 a0_1 a0_2 a0_3 _ _ l0_4 a0_5 _ _ l0_6 _ _ l0_7 _ _ l0_8 ((rd_T50 l1 x22_2).f0) ((rd_T50 l1 x22_2).f1) false true _ ?side1 ?side2 ?side3 ?side4 ?side5 ?side6 ?side7 ?side8 ?side9 ?side10 (by first | exact A33.out | (have h_ := A33.out; rw [← Nbq35.out] at h_; exact h_))).mono ?_); (case side1 => exact Kd.C_below HR0_0.out (bb HB)); (case side2 => exact HC0_0.out); (case side3 => exact Kd.C_below HR0_4.out (bb HB)); (case side4 => exact HC0_4.out); (case side5 => exact Kd.C_below HR0_6.out (bb HB)); (case side6 => exact HC0_6.out); (case side7 => exact Kd.C_below HR0_7.out (bb HB)); (case side8 => exact HC0_7.out); (case side9 => exact Kd.C_below HR0_8.out (bb HB)); (case side10 => exact HC0_8.out); rintro e w67 ⟨rfl, hb⟩; refine ⟨_, rfl, ?_⟩; replace HO_222000 := kf HO_222000 BK223 hb; replace HO_222004 := kf HO_222004 BK223 hb; replace HO_222006 := kf HO_222006 BK223 hb; replace HO_222007 := kf HO_222007 BK223 hb; replace HO_222008 := kf HO_222008 BK223 hb; replace BK199 := Aside0.mk (blk_below (bf NB199_223.out BK199) hb); replace BK200 := Aside0.mk (blk_below (bf NB200_223.out BK200) hb); replace BK221 := Aside0.mk (blk_below (bf NB221_223.out BK221) hb); replace BK223 := Aside0.mk (blk_below (g := gb223) (o := .cells #[.int .i64 ((rd_T50 l1 x22_2).f0), .int .i64 ((rd_T50 l1 x22_2).f1), .bool false] 50 (0, 0)) (bp BK223) hb); replace HB := hs_ HB hb; (try clear hb hb2 hk hi); have ⟨z68_0, z68_1, z68_2, v68_0, v68_1, v68_2⟩ := rz3 BK223))
              replace HO_222000 := Aside0.mk (Kd.R_drew HO_222000.out)
              replace HO_222004 := Aside0.mk (Kd.R_drew HO_222004.out)
              replace HO_222006 := Aside0.mk (Kd.R_drew HO_222006.out)
              replace HO_222007 := Aside0.mk (Kd.R_drew HO_222007.out)
              replace HO_222008 := Aside0.mk (Kd.R_drew HO_222008.out)
              replace BK199 := Aside0.mk (blk_drew BK199.out)
              replace BK200 := Aside0.mk (blk_drew BK200.out)
              replace BK221 := Aside0.mk (blk_drew BK221.out)
              replace BK223 := Aside0.mk (blk_drew BK223.out)
              replace HB := Aside0.mk (below_drew1 HB.out)
              have p232 : 0 ≤ (((rd_T50 l1 x22_2).f1) : Int) := oa
              have q232 : ((rd_T50 l1 x22_2).f1) < (l0_6.length : Int) := oa
              obtain ⟨ad232, e232, hx232_0, hx232_1, hx232_2, hx232_3, hx232_4⟩ := at_T95 HR0_6.out ((rd_T50 l1 x22_2).f1) p232 q232
              have hw232_4 := hx232_4
              have hw232_3 := hx232_3
              have hw232_2 := hx232_2
              have hw232_1 := hx232_1
              have hw232_0 := hx232_0
              cases e232
              replace hx232_0 := hc HB hx232_0
              replace hx232_1 := hc HB hx232_1
              replace hx232_2 := hc HB hx232_2
              replace hx232_3 := hc HB hx232_3
              replace hx232_4 := hc HB hx232_4
              replace p232 := eq_true p232
              replace q232 := eq_true q232
              have p58 : 0 ≤ (((rd_T50 l1 x22_2).f1) : Int) := oa
              have q58 : (((rd_T50 l1 x22_2).f1) : Int) < ((x222006_2.length : Int) : Int) := oa
              obtain ⟨go58, co58, eo58, gb58, gl58, cl58, HG58⟩ := Kd.R_form HO_222006.out (by omega)
              (first | cases eo58 | (injection eo58 with ea_ en_ ec_; (first | subst ea_ | (injection ea_ with ea_; subst ea_)); subst ec_; clear en_))
              have GB58 := Aside0.mk gb58
              have GG58 := Aside0.mk HG58
              clear gb58 gl58 HG58
              obtain ⟨ce58, hcl58, hM58, hcc58, hfr58⟩ := Kd.R_elem HO_222006.out z95 (((rd_T50 l1 x22_2).f1) : Int) p58 q58
              obtain rfl := k95_openM hM58
              have hx58_0 : World.cell? _ ⟨go58, (((rd_T50 l1 x22_2).f1) : Int).toNat * 5, none⟩ = some (.int .i64 ((rd_T95 x222006_2 ((rd_T50 l1 x22_2).f1)).f0)) := hcc58 0 _ rfl
              have hx58_1 : World.cell? _ ⟨go58, (((rd_T50 l1 x22_2).f1) : Int).toNat * 5 + 1, none⟩ = some (.int .i64 ((rd_T95 x222006_2 ((rd_T50 l1 x22_2).f1)).f1)) := hcc58 1 _ rfl
              have hx58_2 : World.cell? _ ⟨go58, (((rd_T50 l1 x22_2).f1) : Int).toNat * 5 + 2, none⟩ = some (.int .i64 ((rd_T95 x222006_2 ((rd_T50 l1 x22_2).f1)).f2)) := hcc58 2 _ rfl
              have hx58_3 : World.cell? _ ⟨go58, (((rd_T50 l1 x22_2).f1) : Int).toNat * 5 + 3, none⟩ = some (.int .i64 ((rd_T95 x222006_2 ((rd_T50 l1 x22_2).f1)).f3)) := hcc58 3 _ rfl
              have hx58_4 : World.cell? _ ⟨go58, (((rd_T50 l1 x22_2).f1) : Int).toNat * 5 + 4, none⟩ = some (.int .i64 ((rd_T95 x222006_2 ((rd_T50 l1 x22_2).f1)).f4)) := hcc58 4 _ rfl
              have hf58_0 : World.frozen? _ ⟨go58, (((rd_T50 l1 x22_2).f1) : Int).toNat * 5, none⟩ = false := hfr58 0
              have hf58_1 : World.frozen? _ ⟨go58, (((rd_T50 l1 x22_2).f1) : Int).toNat * 5 + 1, none⟩ = false := hfr58 1
              have hf58_2 : World.frozen? _ ⟨go58, (((rd_T50 l1 x22_2).f1) : Int).toNat * 5 + 2, none⟩ = false := hfr58 2
              have hf58_3 : World.frozen? _ ⟨go58, (((rd_T50 l1 x22_2).f1) : Int).toNat * 5 + 3, none⟩ = false := hfr58 3
              have hf58_4 : World.frozen? _ ⟨go58, (((rd_T50 l1 x22_2).f1) : Int).toNat * 5 + 4, none⟩ = false := hfr58 4
              clear hcl58 hcc58 hfr58; (try clear hM58)
              replace p58 := eq_true p58
              replace q58 := eq_true q58
              obtain ⟨ce70, hcl70, hM70, hcc70, hfr70⟩ := Kd.R_elem HO_222006.out z95 (((rd_T50 l1 x22_2).f1) : Int) (oa) (by have h_ : (((rd_T50 l1 x22_2).f1) : Int) < ((x222006_2.length : Int) : Int) := oa; first | exact h_ | (have e_ := (Kd.R_reads' HO_222006.out).1; omega) | simpa using h_)
              obtain rfl := k95_openM hM70
              have HP70 := (Kd.R_seg HO_222006.out (((rd_T50 l1 x22_2).f1) : Int) (oa) (by have h_ : (((rd_T50 l1 x22_2).f1) : Int) < ((x222006_2.length : Int) : Int) := oa; first | exact h_ | (have e_ := (Kd.R_reads' HO_222006.out).1; omega) | simpa using h_) (seg := [.int .i64 ((rd_T95 l0_6 ((rd_T50 l1 x22_2).f1)).f0), .int .i64 ((rd_T95 l0_6 ((rd_T50 l1 x22_2).f1)).f1), .int .i64 ((rd_T95 l0_6 ((rd_T50 l1 x22_2).f1)).f2), .int .i64 ((rd_T95 l0_6 ((rd_T50 l1 x22_2).f1)).f3), .int .i64 ((rd_T95 l0_6 ((rd_T50 l1 x22_2).f1)).f4)]) (j := 0) hcl70 hcc70 (show 5 ≤ 5 from by decide) (x' := (⟨(rd_T95 l0_6 ((rd_T50 l1 x22_2).f1)).f0, (rd_T95 l0_6 ((rd_T50 l1 x22_2).f1)).f1, (rd_T95 l0_6 ((rd_T50 l1 x22_2).f1)).f2, (rd_T95 l0_6 ((rd_T50 l1 x22_2).f1)).f3, (rd_T95 l0_6 ((rd_T50 l1 x22_2).f1)).f4⟩ : S95)) (k95_mkM _ _ _ (⟨(rd_T95 l0_6 ((rd_T50 l1 x22_2).f1)).f0, (rd_T95 l0_6 ((rd_T50 l1 x22_2).f1)).f1, (rd_T95 l0_6 ((rd_T50 l1 x22_2).f1)).f2, (rd_T95 l0_6 ((rd_T50 l1 x22_2).f1)).f3, (rd_T95 l0_6 ((rd_T50 l1 x22_2).f1)).f4⟩ : S95) ) (fun _ hk => hk)).1
              rw [← Ny233.out] at HP70
              have HQ70 := Aside0.mk HP70
              clear hcl70 hcc70 hfr70 hM70 HP70
              refine start_ (n := 12) (S := fun w' => w'.cell? ⟨gb221, 0, none⟩ = some (.slice Ao22 t202.length co22) ∧ w'.cell? ⟨gb221, 1, none⟩ = some (.int .i64 t205) ∧ w'.cell? ⟨gb221, 2, none⟩ = some (.int .i64 t206) ∧ w'.cell? ⟨gb221, 3, none⟩ = some (.int .i64 t207) ∧ w'.cell? ⟨gb221, 4, none⟩ = some (.slice Ao26 t208.length co26) ∧ w'.cell? ⟨gb221, 5, none⟩ = some (.bool t211) ∧ w'.cell? ⟨gb221, 6, none⟩ = some (.slice (some ⟨go58, 0, none⟩) x222006_2.length co58) ∧ w'.cell? ⟨gb221, 7, none⟩ = some (.slice Ao28 t215.length co28) ∧ w'.cell? ⟨gb221, 8, none⟩ = some (.slice Ao29 t218.length co29) ∧ w'.cell? ⟨gb223, 0, none⟩ = some (.int .i64 ((rd_T50 l1 x22_2).f0)) ∧ w'.cell? ⟨gb223, 1, none⟩ = some (.int .i64 ((rd_T50 l1 x22_2).f1)) ∧ w'.cell? ⟨gb223, 2, none⟩ = some (.bool false) ∧ w'.cell? ⟨gb199, 0, none⟩ = some (.slice A0_0 l0_0.length c0_0) ∧ w'.cell? ⟨gb199, 1, none⟩ = some (.int .i64 a0_1) ∧ w'.cell? ⟨gb199, 2, none⟩ = some (.int .i64 a0_2) ∧ w'.cell? ⟨gb199, 3, none⟩ = some (.int .i64 a0_3) ∧ w'.cell? ⟨gb199, 4, none⟩ = some (.slice A0_4 l0_4.length c0_4) ∧ w'.cell? ⟨gb199, 5, none⟩ = some (.bool a0_5) ∧ w'.cell? ⟨gb199, 6, none⟩ = some (.slice (some ad232) l0_6.length c0_6) ∧ w'.cell? ⟨gb199, 7, none⟩ = some (.slice A0_7 l0_7.length c0_7) ∧ w'.cell? ⟨gb199, 8, none⟩ = some (.slice A0_8 l0_8.length c0_8) ∧ w'.cell? (ad232.add ((((rd_T50 l1 x22_2).f1)).toNat * 5)) = some (.int .i64 ((rd_T95 l0_6 ((rd_T50 l1 x22_2).f1)).f0)) ∧ w'.cell? ⟨(ad232.add ((((rd_T50 l1 x22_2).f1)).toNat * 5)).block, (ad232.add ((((rd_T50 l1 x22_2).f1)).toNat * 5)).off + 1, none⟩ = some (.int .i64 ((rd_T95 l0_6 ((rd_T50 l1 x22_2).f1)).f1)) ∧ w'.cell? ⟨(ad232.add ((((rd_T50 l1 x22_2).f1)).toNat * 5)).block, (ad232.add ((((rd_T50 l1 x22_2).f1)).toNat * 5)).off + 2, none⟩ = some (.int .i64 ((rd_T95 l0_6 ((rd_T50 l1 x22_2).f1)).f2)) ∧ w'.cell? ⟨(ad232.add ((((rd_T50 l1 x22_2).f1)).toNat * 5)).block, (ad232.add ((((rd_T50 l1 x22_2).f1)).toNat * 5)).off + 3, none⟩ = some (.int .i64 ((rd_T95 l0_6 ((rd_T50 l1 x22_2).f1)).f3)) ∧ w'.cell? ⟨(ad232.add ((((rd_T50 l1 x22_2).f1)).toNat * 5)).block, (ad232.add ((((rd_T50 l1 x22_2).f1)).toNat * 5)).off + 4, none⟩ = some (.int .i64 ((rd_T95 l0_6 ((rd_T50 l1 x22_2).f1)).f4))) (ds := [11]) #[false, false, false, false, false, false, false, false, false, false, false, false] (by kernel_rfl) rfl rfl ⟨bc BK221 0, bc BK221 1, bc BK221 2, bc BK221 3, bc BK221 4, bc BK221 5, bc BK221 6, bc BK221 7, bc BK221 8, bc BK223 0, bc BK223 1, bc BK223 2, bc BK199 0, bc BK199 1, bc BK199 2, bc BK199 3, bc BK199 4, bc BK199 5, bc BK199 6, bc BK199 7, bc BK199 8, (hc HB hw232_0), (hc HB hw232_1), (hc HB hw232_2), (hc HB hw232_3), (hc HB hw232_4)⟩ (fun hHeld => ?_); refine with_tabW spec_Decide.tab11 spec_Decide.bits11 (fun HT_ HW_ => ?_)
              generalize w67.drew = w69 at HO_222000 HO_222004 HO_222006 HO_222007 HO_222008 BK199 BK200 BK221 BK223 HB GG58 HQ70 hf58_0 hf58_1 hf58_2 hf58_3 hf58_4 hx232_0 hx232_1 hx232_2 hx232_3 hx232_4 hx58_0 hx58_1 hx58_2 hx58_3 hx58_4 hHeld ⊢
              refine pz_ 0 47 ?_
              refine pz_ 2 49 ?_
              refine pz_ 4 51 ?_
              refine pz_ 6 53 ?_
              refine take_ (i := 1) (N := some 48) (v := ?_) (a' := ?_) #[true, true, true, false, true, false, true, false, false, false, false, false] rfl rfl (take_ofW HT_.out HW_.out (by kernel_rfl)) (fun _ _ _ h => h) (Or.inl ⟨by rfl, ?_⟩) hHeld ?_ ?_
              rotate_left
              ·rintro w' ⟨s0, s1, s2, s3, s4, s5, s6, s7, s8, s9, s10, s11, s12, s13, s14, s15, s16, s17, s18, s19, s20, s21, s22, s23, s24, s25⟩
               go_simp
               with_reducible rfl
              rotate_left
              ·simp only [Act.put, List.setIfInBounds_toArray, List.set_cons_zero, List.set_cons_succ, i64_w, i32_w]
               rfl
              refine take_ (i := 3) (N := some 50) (v := ?_) (a' := ?_) #[true, true, true, true, true, false, true, false, false, false, false, false] rfl rfl (take_ofW HT_.out HW_.out (by kernel_rfl)) (fun _ _ _ h => h) (Or.inl ⟨by rfl, ?_⟩) hHeld ?_ ?_
              rotate_left
              ·rintro w' ⟨s0, s1, s2, s3, s4, s5, s6, s7, s8, s9, s10, s11, s12, s13, s14, s15, s16, s17, s18, s19, s20, s21, s22, s23, s24, s25⟩
               go_simp
               with_reducible rfl
              rotate_left
              ·simp only [Act.put, List.setIfInBounds_toArray, List.set_cons_zero, List.set_cons_succ, i64_w, i32_w]
               rfl
              refine take_ (i := 5) (N := some 52) (v := ?_) (a' := ?_) #[true, true, true, true, true, true, true, false, false, false, false, false] rfl rfl (take_ofW HT_.out HW_.out (by kernel_rfl)) (fun _ _ _ h => h) (Or.inl ⟨by rfl, ?_⟩) hHeld ?_ ?_
              rotate_left
              ·rintro w' ⟨s0, s1, s2, s3, s4, s5, s6, s7, s8, s9, s10, s11, s12, s13, s14, s15, s16, s17, s18, s19, s20, s21, s22, s23, s24, s25⟩
               go_simp
               with_reducible rfl
              rotate_left
              ·simp only [Act.put, List.setIfInBounds_toArray, List.set_cons_zero, List.set_cons_succ, i64_w, i32_w]
               rfl
              refine take_ (i := 7) (N := some 54) (v := ?_) (a' := ?_) #[true, true, true, true, true, true, true, true, false, false, false, false] rfl rfl (take_ofW HT_.out HW_.out (by kernel_rfl)) (fun _ _ _ h => h) (Or.inl ⟨by rfl, ?_⟩) hHeld ?_ ?_
              rotate_left
              ·rintro w' ⟨s0, s1, s2, s3, s4, s5, s6, s7, s8, s9, s10, s11, s12, s13, s14, s15, s16, s17, s18, s19, s20, s21, s22, s23, s24, s25⟩
               go_simp
               with_reducible rfl
              rotate_left
              ·simp only [Act.put, List.setIfInBounds_toArray, List.set_cons_zero, List.set_cons_succ, i64_w, i32_w]
               rfl
              refine pz_ 8 55 ?_
              refine take_ (i := 9) (N := some 56) (v := ?_) (a' := ?_) #[true, true, true, true, true, true, true, true, true, true, false, false] rfl rfl (take_ofW HT_.out HW_.out (by kernel_rfl)) (fun _ _ _ h => h) (Or.inl ⟨by rfl, ?_⟩) hHeld ?_ ?_
              rotate_left
              ·rintro w' ⟨s0, s1, s2, s3, s4, s5, s6, s7, s8, s9, s10, s11, s12, s13, s14, s15, s16, s17, s18, s19, s20, s21, s22, s23, s24, s25⟩
               go_simp
               with_reducible rfl
              rotate_left
              ·simp only [Act.put, List.setIfInBounds_toArray, List.set_cons_zero, List.set_cons_succ, i64_w, i32_w]
               rfl
              refine pz_ 10 57 ?_
              refine last_ (i := 11) (N := none) #[true, true, true, true, true, true, true, true, true, true, true, true] rfl rfl (one_of HT_.out (by kernel_rfl)) (by decide) (fun K hK => ?_)
              refine skip_ (w1 := ?_) (by rfl) rfl ?_ ?_
              rotate_left
              ·go_simp
               rfl
              refine hK.out _ _ ?_
              clear hK K
              refine done_ (done_of HT_.out (by kernel_rfl)) ?_
              try go_wp2
              go_roundg k2
              case measure => have := HJ2.out; have := HK2.out; omega
              case rel => exact ⟨(wrap64 (x22_2 + 1)), (x201001_2), (x201002_2), (x201003_2), (x201005_2), (y233), (.slice (some ⟨go58, 0, none⟩) x222006_2.length co58), e2_, H', ⟨by have := HJ2.out; have := HK2.out; omega⟩, ⟨by (with_reducible repeat (first | apply Kd.R_alloc | apply Kd.R_drewN | apply Kd.R_drew)); exact Kd.R_mono (Kd.R_far (p := ⟨go58, (((rd_T50 l1 x22_2).f1) : Int).toNat * 5 + 4, none⟩) (Kd.R_far (p := ⟨go58, (((rd_T50 l1 x22_2).f1) : Int).toNat * 5 + 3, none⟩) (Kd.R_far (p := ⟨go58, (((rd_T50 l1 x22_2).f1) : Int).toNat * 5 + 2, none⟩) (Kd.R_far (p := ⟨go58, (((rd_T50 l1 x22_2).f1) : Int).toNat * 5 + 1, none⟩) (Kd.R_far (p := ⟨go58, (((rd_T50 l1 x22_2).f1) : Int).toNat * 5, none⟩) (Kd.R_types HO_222000.out GG58.out (by decide)) (fun _ hk => hk.2) (.int .i64 ((rd_T95 l0_6 ((rd_T50 l1 x22_2).f1)).f0))) (fun _ hk => hk.2) (.int .i64 ((rd_T95 l0_6 ((rd_T50 l1 x22_2).f1)).f1))) (fun _ hk => hk.2) (.int .i64 ((rd_T95 l0_6 ((rd_T50 l1 x22_2).f1)).f2))) (fun _ hk => hk.2) (.int .i64 ((rd_T95 l0_6 ((rd_T50 l1 x22_2).f1)).f3))) (fun _ hk => hk.2) (.int .i64 ((rd_T95 l0_6 ((rd_T50 l1 x22_2).f1)).f4))) (fun _ hk => trivial)⟩, ⟨by (with_reducible repeat (first | apply Kd.R_alloc | apply Kd.R_drewN | apply Kd.R_drew)); exact Kd.R_mono (Kd.R_far (p := ⟨go58, (((rd_T50 l1 x22_2).f1) : Int).toNat * 5 + 4, none⟩) (Kd.R_far (p := ⟨go58, (((rd_T50 l1 x22_2).f1) : Int).toNat * 5 + 3, none⟩) (Kd.R_far (p := ⟨go58, (((rd_T50 l1 x22_2).f1) : Int).toNat * 5 + 2, none⟩) (Kd.R_far (p := ⟨go58, (((rd_T50 l1 x22_2).f1) : Int).toNat * 5 + 1, none⟩) (Kd.R_far (p := ⟨go58, (((rd_T50 l1 x22_2).f1) : Int).toNat * 5, none⟩) (Kd.R_types HO_222004.out GG58.out (by decide)) (fun _ hk => hk.2) (.int .i64 ((rd_T95 l0_6 ((rd_T50 l1 x22_2).f1)).f0))) (fun _ hk => hk.2) (.int .i64 ((rd_T95 l0_6 ((rd_T50 l1 x22_2).f1)).f1))) (fun _ hk => hk.2) (.int .i64 ((rd_T95 l0_6 ((rd_T50 l1 x22_2).f1)).f2))) (fun _ hk => hk.2) (.int .i64 ((rd_T95 l0_6 ((rd_T50 l1 x22_2).f1)).f3))) (fun _ hk => hk.2) (.int .i64 ((rd_T95 l0_6 ((rd_T50 l1 x22_2).f1)).f4))) (fun _ hk => ⟨hk.1.1, hk.1.2⟩)⟩, ⟨rr HQ70⟩, ⟨by (with_reducible repeat (first | apply Kd.R_alloc | apply Kd.R_drewN | apply Kd.R_drew)); exact Kd.R_mono (Kd.R_far (p := ⟨go58, (((rd_T50 l1 x22_2).f1) : Int).toNat * 5 + 4, none⟩) (Kd.R_far (p := ⟨go58, (((rd_T50 l1 x22_2).f1) : Int).toNat * 5 + 3, none⟩) (Kd.R_far (p := ⟨go58, (((rd_T50 l1 x22_2).f1) : Int).toNat * 5 + 2, none⟩) (Kd.R_far (p := ⟨go58, (((rd_T50 l1 x22_2).f1) : Int).toNat * 5 + 1, none⟩) (Kd.R_far (p := ⟨go58, (((rd_T50 l1 x22_2).f1) : Int).toNat * 5, none⟩) (Kd.R_types HO_222007.out GG58.out (by decide)) (fun _ hk => hk.2) (.int .i64 ((rd_T95 l0_6 ((rd_T50 l1 x22_2).f1)).f0))) (fun _ hk => hk.2) (.int .i64 ((rd_T95 l0_6 ((rd_T50 l1 x22_2).f1)).f1))) (fun _ hk => hk.2) (.int .i64 ((rd_T95 l0_6 ((rd_T50 l1 x22_2).f1)).f2))) (fun _ hk => hk.2) (.int .i64 ((rd_T95 l0_6 ((rd_T50 l1 x22_2).f1)).f3))) (fun _ hk => hk.2) (.int .i64 ((rd_T95 l0_6 ((rd_T50 l1 x22_2).f1)).f4))) (fun _ hk => ⟨hk.1.1, hk.1.2⟩)⟩, ⟨by (with_reducible repeat (first | apply Kd.R_alloc | apply Kd.R_drewN | apply Kd.R_drew)); exact Kd.R_mono (Kd.R_far (p := ⟨go58, (((rd_T50 l1 x22_2).f1) : Int).toNat * 5 + 4, none⟩) (Kd.R_far (p := ⟨go58, (((rd_T50 l1 x22_2).f1) : Int).toNat * 5 + 3, none⟩) (Kd.R_far (p := ⟨go58, (((rd_T50 l1 x22_2).f1) : Int).toNat * 5 + 2, none⟩) (Kd.R_far (p := ⟨go58, (((rd_T50 l1 x22_2).f1) : Int).toNat * 5 + 1, none⟩) (Kd.R_far (p := ⟨go58, (((rd_T50 l1 x22_2).f1) : Int).toNat * 5, none⟩) (Kd.R_types HO_222008.out GG58.out (by decide)) (fun _ hk => hk.2) (.int .i64 ((rd_T95 l0_6 ((rd_T50 l1 x22_2).f1)).f0))) (fun _ hk => hk.2) (.int .i64 ((rd_T95 l0_6 ((rd_T50 l1 x22_2).f1)).f1))) (fun _ hk => hk.2) (.int .i64 ((rd_T95 l0_6 ((rd_T50 l1 x22_2).f1)).f2))) (fun _ hk => hk.2) (.int .i64 ((rd_T95 l0_6 ((rd_T50 l1 x22_2).f1)).f3))) (fun _ hk => hk.2) (.int .i64 ((rd_T95 l0_6 ((rd_T50 l1 x22_2).f1)).f4))) (fun _ hk => ⟨hk.1.1, hk.1.2⟩)⟩, ⟨bg HO_222006 BK199⟩, ⟨bg HO_222006 BK200⟩, ⟨bg HO_222006 BK221⟩, ⟨bb HB⟩⟩
             ·rw [if_neg c57] at H
              exact absurd H (by simp)
            ·rw [if_neg c56] at H
             exact absurd H (by simp)
           ·rw [if_neg c55] at H
            exact absurd H (by simp)
         ·replace c34 := Bool.eq_false_iff.mpr c34
          subst c34
          have H1 : (some (([] : List (S139)), 0, 0, 0, ([] : List Int), false, ([] : List (S95)), ([] : List Int), ([] : List Int), false)) = some (r1, r2, r3, r4, r5, r6, r7, r8, r9, r10) := by rw [if_neg (show ¬ (false = true) by decide)] at H; exact H
          clear H
          have H := H1
          clear H1
          simp only [Option.some.injEq, Prod.mk.injEq] at H
          obtain ⟨rfl, rfl, rfl, rfl, rfl, rfl, rfl, rfl, rfl, rfl⟩ := H
          have p222 : 0 ≤ (x22_2 : Int) := oa
          have q222 : x22_2 < (l1.length : Int) := oa
          obtain ⟨ad222, e222, hx222_0, hx222_1, hx222_2⟩ := at_T50 HR1.out x22_2 p222 q222
          cases e222
          replace hx222_0 := hc HB hx222_0
          replace hx222_1 := hc HB hx222_1
          replace hx222_2 := hc HB hx222_2
          replace p222 := eq_true p222
          replace q222 := eq_true q222
          go_wp2_with (first | ((with_reducible refine gate_dst (N := 8) rfl ?_); (try (refine gate_guard (by rfl) ?_; dsimp only)); refine bx (N := 8) (cs := #[.int .i64 0, .int .i64 0, .bool false]) (t := 50) ?_; intro gb223 hg w71 hbox hb; replace HO_222000 := kr HO_222000 hb; replace HO_222004 := kr HO_222004 hb; replace HO_222006 := kr HO_222006 hb; replace HO_222007 := kr HO_222007 hb; replace HO_222008 := kr HO_222008 hb; have BK223 := Aside0.mk (hbox); have GW223 := gs hg HB; have GE223 := gs hg HB; replace HB := hs_ HB hb; have NB199_223 := gn hg BK199; have NB223_199 := gm hg BK199; replace BK199 := kb BK199 hb; have NB200_223 := gn hg BK200; have NB223_200 := gm hg BK200; replace BK200 := kb BK200 hb; have NB221_223 := gn hg BK221; have NB223_221 := gm hg BK221; replace BK221 := kb BK221 hb; clear hb hbox hg; have hnb72 := NB223_199.out; have hnc72 := NB199_223.out; have hnb73 := NB223_200.out; have hnc73 := NB200_223.out; have hnb74 := NB223_221.out; have hnc74 := NB221_223.out; have ⟨z75_0, z75_1, z75_2, v75_0, v75_1, v75_2⟩ := rz3 BK223; have hnb76 := NB199_200.out; have hnc76 := NB200_199.out; have hnb77 := NB199_221.out; have hnc77 := NB221_199.out; have ⟨z78_0, z78_1, z78_2, z78_3, z78_4, z78_5, z78_6, z78_7, z78_8, v78_0, v78_1, v78_2, v78_3, v78_4, v78_5, v78_6, v78_7, v78_8⟩ := rz9 BK199) | ((with_reducible refine gate_callee (f := 57) rfl ?_); refine gl (some 28) Try.func57 #[.agg #[.slice A0_0 l0_0.length c0_0, .int .i64 a0_1, .int .i64 a0_2, .int .i64 a0_3, .slice A0_4 l0_4.length c0_4, .bool a0_5, .slice A0_6 l0_6.length c0_6, .slice A0_7 l0_7.length c0_7, .slice A0_8 l0_8.length c0_8], .agg #[.int .i64 ((rd_T50 l1 x22_2).f0), .int .i64 ((rd_T50 l1 x22_2).f1), .bool ((rd_T50 l1 x22_2).f2)]] ?_; (with_reducible refine (spec_ProtestOk.calls k2 _ _ l0_0 a0_1 a0_2 a0_3 _ _ l0_4 a0_5 _ _ l0_6 _ _ l0_7 _ _ l0_8 ((rd_T50 l1 x22_2).f0) ((rd_T50 l1 x22_2).f1) ((rd_T50 l1 x22_2).f2) false _ ?side1 ?side2 ?side3 ?side4 ?side5 ?side6 ?side7 ?side8 ?side9 ?side10 A33.out).mono ?_); (case side1 => exact Kd.C_below HR0_0.out (bb HB)); (case side2 => exact HC0_0.out); (case side3 => exact Kd.C_below HR0_4.out (bb HB)); (case side4 => exact HC0_4.out); (case side5 => exact Kd.C_below HR0_6.out (bb HB)); (case side6 => exact HC0_6.out); (case side7 => exact Kd.C_below HR0_7.out (bb HB)); (case side8 => exact HC0_7.out); (case side9 => exact Kd.C_below HR0_8.out (bb HB)); (case side10 => exact HC0_8.out); rintro e w79 ⟨rfl, hb⟩; refine ⟨_, rfl, ?_⟩; replace HO_222000 := kf HO_222000 BK223 hb; replace HO_222004 := kf HO_222004 BK223 hb; replace HO_222006 := kf HO_222006 BK223 hb; replace HO_222007 := kf HO_222007 BK223 hb; replace HO_222008 := kf HO_222008 BK223 hb; replace BK199 := Aside0.mk (blk_below (bf NB199_223.out BK199) hb); replace BK200 := Aside0.mk (blk_below (bf NB200_223.out BK200) hb); replace BK221 := Aside0.mk (blk_below (bf NB221_223.out BK221) hb); replace BK223 := Aside0.mk (blk_below (g := gb223) (o := .cells #[.int .i64 ((rd_T50 l1 x22_2).f0), .int .i64 ((rd_T50 l1 x22_2).f1), .bool ((rd_T50 l1 x22_2).f2)] 50 (0, 0)) (bp BK223) hb); replace HB := hs_ HB hb; (try clear hb hb2 hk hi); have hnb80 := NB200_221.out; have hnc80 := NB221_200.out; have ⟨z81_0, z81_1, z81_2, z81_3, z81_4, z81_5, z81_6, z81_7, z81_8, v81_0, v81_1, v81_2, v81_3, v81_4, v81_5, v81_6, v81_7, v81_8⟩ := rz9 BK200))
          refine bodyPost_ret (results_ct rfl _ _ gb200 36 #[.slice none 0 0, .int .i64 0, .int .i64 0, .int .i64 0, .slice none 0 0, .bool false, .slice none 0 0, .slice none 0 0, .slice none 0 0] (0, 0) _ rfl (by (with_reducible repeat (first | refine blk_drewN ?_ _ | refine blk_drew ?_ | refine blk_alloc ?_ _)); refine blk_put (cs := #[.slice none 0 0, .int .i64 0, .int .i64 0, .int .i64 0, .slice none 0 0, .bool false, .slice none 0 0, .slice none 0 0, .slice none 0 0]) ?_ 8 _ rfl; (with_reducible repeat (first | refine blk_drewN ?_ _ | refine blk_drew ?_ | refine blk_alloc ?_ _)); refine blk_put (cs := #[.slice none 0 0, .int .i64 0, .int .i64 0, .int .i64 0, .slice none 0 0, .bool false, .slice none 0 0, .slice none 0 0, .slice none 0 0]) ?_ 7 _ rfl; (with_reducible repeat (first | refine blk_drewN ?_ _ | refine blk_drew ?_ | refine blk_alloc ?_ _)); refine blk_put (cs := #[.slice none 0 0, .int .i64 0, .int .i64 0, .int .i64 0, .slice none 0 0, .bool false, .slice none 0 0, .slice none 0 0, .slice none 0 0]) ?_ 6 _ rfl; (with_reducible repeat (first | refine blk_drewN ?_ _ | refine blk_drew ?_ | refine blk_alloc ?_ _)); refine blk_put (cs := #[.slice none 0 0, .int .i64 0, .int .i64 0, .int .i64 0, .slice none 0 0, .bool x201005_2, .slice none 0 0, .slice none 0 0, .slice none 0 0]) ?_ 5 _ rfl; (with_reducible repeat (first | refine blk_drewN ?_ _ | refine blk_drew ?_ | refine blk_alloc ?_ _)); refine blk_put (cs := #[.slice none 0 0, .int .i64 0, .int .i64 0, .int .i64 0, .slice none 0 0, .bool x201005_2, .slice none 0 0, .slice none 0 0, .slice none 0 0]) ?_ 4 _ rfl; (with_reducible repeat (first | refine blk_drewN ?_ _ | refine blk_drew ?_ | refine blk_alloc ?_ _)); refine blk_put (cs := #[.slice none 0 0, .int .i64 0, .int .i64 0, .int .i64 x201003_2, .slice none 0 0, .bool x201005_2, .slice none 0 0, .slice none 0 0, .slice none 0 0]) ?_ 3 _ rfl; (with_reducible repeat (first | refine blk_drewN ?_ _ | refine blk_drew ?_ | refine blk_alloc ?_ _)); refine blk_put (cs := #[.slice none 0 0, .int .i64 0, .int .i64 x201002_2, .int .i64 x201003_2, .slice none 0 0, .bool x201005_2, .slice none 0 0, .slice none 0 0, .slice none 0 0]) ?_ 2 _ rfl; (with_reducible repeat (first | refine blk_drewN ?_ _ | refine blk_drew ?_ | refine blk_alloc ?_ _)); refine blk_put (cs := #[.slice none 0 0, .int .i64 x201001_2, .int .i64 x201002_2, .int .i64 x201003_2, .slice none 0 0, .bool x201005_2, .slice none 0 0, .slice none 0 0, .slice none 0 0]) ?_ 1 _ rfl; (with_reducible repeat (first | refine blk_drewN ?_ _ | refine blk_drew ?_ | refine blk_alloc ?_ _)); refine blk_put (cs := #[.slice none 0 0, .int .i64 x201001_2, .int .i64 x201002_2, .int .i64 x201003_2, .slice none 0 0, .bool x201005_2, .slice none 0 0, .slice none 0 0, .slice none 0 0]) ?_ 0 _ rfl; (with_reducible repeat (first | refine blk_drewN ?_ _ | refine blk_drew ?_ | refine blk_alloc ?_ _)); exact BK200.out) Try.underlying36 rfl (by kernel_rfl)) rfl ?_
          exact ⟨_, _, _, _, _, ee, by first | exact Kd.R_nil _ _ _ _ _ | exact Kd.N_nil _ _ _ _ _ | exact Kd.V_nil _ _ _ _ _ | exact Kd.Q_nil _ _ _ _ _ | exact Kd.S_nil _ _ _ _ _, by first | exact Kd.R_nil _ _ _ _ _ | exact Kd.N_nil _ _ _ _ _ | exact Kd.V_nil _ _ _ _ _ | exact Kd.Q_nil _ _ _ _ _ | exact Kd.S_nil _ _ _ _ _, by first | exact Kd.R_nil _ _ _ _ _ | exact Kd.N_nil _ _ _ _ _ | exact Kd.V_nil _ _ _ _ _ | exact Kd.Q_nil _ _ _ _ _ | exact Kd.S_nil _ _ _ _ _, by first | exact Kd.R_nil _ _ _ _ _ | exact Kd.N_nil _ _ _ _ _ | exact Kd.V_nil _ _ _ _ _ | exact Kd.Q_nil _ _ _ _ _ | exact Kd.S_nil _ _ _ _ _, by first | exact Kd.R_nil _ _ _ _ _ | exact Kd.N_nil _ _ _ _ _ | exact Kd.V_nil _ _ _ _ _ | exact Kd.Q_nil _ _ _ _ _ | exact Kd.S_nil _ _ _ _ _, bb HB⟩
        ·rw [if_neg c32] at H
         exact absurd H (by simp)
       ·rw [if_neg c31] at H
        exact absurd H (by simp)
      ·rw [if_neg c30] at H
       have c30b0 : decide (x22_2 < (l1.length : Int)) = false := decide_eq_false c30
       clear c30
       simp only [Option.some.injEq, Prod.mk.injEq] at H
       obtain ⟨rfl, rfl, rfl, rfl, rfl, rfl, rfl, rfl, rfl, rfl⟩ := H
       have hnb82 := NB221_199.out
       have hnc82 := NB199_221.out
       have hnb83 := NB221_200.out
       have hnc83 := NB200_221.out
       have ⟨z84_0, z84_1, z84_2, z84_3, z84_4, z84_5, z84_6, z84_7, z84_8, v84_0, v84_1, v84_2, v84_3, v84_4, v84_5, v84_6, v84_7, v84_8⟩ := rz9 BK221
       have hnb85 := NB200_199.out
       have hnc85 := NB199_200.out
       have ⟨z86_0, z86_1, z86_2, z86_3, z86_4, z86_5, z86_6, z86_7, z86_8, v86_0, v86_1, v86_2, v86_3, v86_4, v86_5, v86_6, v86_7, v86_8⟩ := rz9 BK200
       obtain ⟨Ao87, co87, eo87⟩ := Kd.R_slice HO_222006.out
       subst eo87
       go_wp2
       refine bodyPost_ret (results_ct rfl _ _ gb200 36 #[.slice Ao22 t202.length co22, .int .i64 t205, .int .i64 t206, .int .i64 t207, .slice Ao26 t208.length co26, .bool t211, .slice Ao87 x222006_2.length co87, .slice Ao28 t215.length co28, .slice Ao29 t218.length co29] (0, 0) _ rfl (by (with_reducible repeat (first | refine blk_drewN ?_ _ | refine blk_drew ?_ | refine blk_alloc ?_ _)); refine blk_put (cs := #[.slice Ao22 t202.length co22, .int .i64 t205, .int .i64 t206, .int .i64 t207, .slice Ao26 t208.length co26, .bool t211, .slice Ao87 x222006_2.length co87, .slice Ao28 t215.length co28, .slice none 0 0]) ?_ 8 _ rfl; (with_reducible repeat (first | refine blk_drewN ?_ _ | refine blk_drew ?_ | refine blk_alloc ?_ _)); refine blk_put (cs := #[.slice Ao22 t202.length co22, .int .i64 t205, .int .i64 t206, .int .i64 t207, .slice Ao26 t208.length co26, .bool t211, .slice Ao87 x222006_2.length co87, .slice none 0 0, .slice none 0 0]) ?_ 7 _ rfl; (with_reducible repeat (first | refine blk_drewN ?_ _ | refine blk_drew ?_ | refine blk_alloc ?_ _)); refine blk_put (cs := #[.slice Ao22 t202.length co22, .int .i64 t205, .int .i64 t206, .int .i64 t207, .slice Ao26 t208.length co26, .bool t211, .slice none 0 0, .slice none 0 0, .slice none 0 0]) ?_ 6 _ rfl; (with_reducible repeat (first | refine blk_drewN ?_ _ | refine blk_drew ?_ | refine blk_alloc ?_ _)); refine blk_put (cs := #[.slice Ao22 t202.length co22, .int .i64 t205, .int .i64 t206, .int .i64 t207, .slice Ao26 t208.length co26, .bool x201005_2, .slice none 0 0, .slice none 0 0, .slice none 0 0]) ?_ 5 _ rfl; (with_reducible repeat (first | refine blk_drewN ?_ _ | refine blk_drew ?_ | refine blk_alloc ?_ _)); refine blk_put (cs := #[.slice Ao22 t202.length co22, .int .i64 t205, .int .i64 t206, .int .i64 t207, .slice none 0 0, .bool x201005_2, .slice none 0 0, .slice none 0 0, .slice none 0 0]) ?_ 4 _ rfl; (with_reducible repeat (first | refine blk_drewN ?_ _ | refine blk_drew ?_ | refine blk_alloc ?_ _)); refine blk_put (cs := #[.slice Ao22 t202.length co22, .int .i64 t205, .int .i64 t206, .int .i64 x201003_2, .slice none 0 0, .bool x201005_2, .slice none 0 0, .slice none 0 0, .slice none 0 0]) ?_ 3 _ rfl; (with_reducible repeat (first | refine blk_drewN ?_ _ | refine blk_drew ?_ | refine blk_alloc ?_ _)); refine blk_put (cs := #[.slice Ao22 t202.length co22, .int .i64 t205, .int .i64 x201002_2, .int .i64 x201003_2, .slice none 0 0, .bool x201005_2, .slice none 0 0, .slice none 0 0, .slice none 0 0]) ?_ 2 _ rfl; (with_reducible repeat (first | refine blk_drewN ?_ _ | refine blk_drew ?_ | refine blk_alloc ?_ _)); refine blk_put (cs := #[.slice Ao22 t202.length co22, .int .i64 x201001_2, .int .i64 x201002_2, .int .i64 x201003_2, .slice none 0 0, .bool x201005_2, .slice none 0 0, .slice none 0 0, .slice none 0 0]) ?_ 1 _ rfl; (with_reducible repeat (first | refine blk_drewN ?_ _ | refine blk_drew ?_ | refine blk_alloc ?_ _)); refine blk_put (cs := #[.slice none 0 0, .int .i64 x201001_2, .int .i64 x201002_2, .int .i64 x201003_2, .slice none 0 0, .bool x201005_2, .slice none 0 0, .slice none 0 0, .slice none 0 0]) ?_ 0 _ rfl; (with_reducible repeat (first | refine blk_drewN ?_ _ | refine blk_drew ?_ | refine blk_alloc ?_ _)); exact BK200.out) Try.underlying36 rfl (by kernel_rfl)) rfl ?_
       exact ⟨_, _, _, _, _, ee, rf HO_222000 BK200 (fun _ hk => trivial), rf HO_222004 BK200 (fun _ hk => ⟨hk.1.1, hk.1.2⟩), rf HO_222006 BK200 (fun _ hk => trivial), rf HO_222007 BK200 (fun _ hk => ⟨hk.1.1, hk.1.2⟩), rf HO_222008 BK200 (fun _ hk => ⟨hk.1.1, hk.1.2⟩), bb HB⟩
end Go.Proofs.Ythfefanapneocaa.Q
end
namespace Go.Proofs.Ythfefanapneocaa.Q
open Go.RowKit Go.Proofs.YthfefanapneocaaW.PrintWords Go.Proofs.YthfefanapneocaaW.PrintLast Go.Proofs.YthfefanapneocaaW.PrintMore
attribute [local go_sem] max2_int min2_int max_two min_two max_three min_three max_four min_four
set_option linter.unusedVariables false
set_option linter.unusedSimpArgs false
theorem eqA95 (d : Nat) (w : World) (x0 y0 : Int) (x1 y1 : Int) (x2 y2 : Int) (x3 y3 : Int) (x4 y4 : Int) :
    (Op.equalIn (d + 2) 95 (.agg #[.int .i64 x0, .int .i64 x1, .int .i64 x2, .int .i64 x3, .int .i64 x4]) (.agg #[.int .i64 y0, .int .i64 y1, .int .i64 y2, .int .i64 y3, .int .i64 y4])).run Try.prog w = .ok (x0 == y0 && (x1 == y1 && (x2 == y2 && (x3 == y3 && (x4 == y4))))) w := by
  refine eqA_of Try.underlying95 (by kernel_rfl) ?_
  refine eqf_cons (by rfl) (by go_simp; rfl) (by go_simp; rfl) (by go_simp) ?_
  refine eqf_cons (by rfl) (by go_simp; rfl) (by go_simp; rfl) (by go_simp) ?_
  refine eqf_cons (by rfl) (by go_simp; rfl) (by go_simp; rfl) (by go_simp) ?_
  refine eqf_cons (by rfl) (by go_simp; rfl) (by go_simp; rfl) (by go_simp) ?_
  exact eqf_last (by rfl) (by go_simp; rfl) (by go_simp; rfl) (by go_simp)
end Go.Proofs.Ythfefanapneocaa.Q
namespace Go.Proofs.Ythfefanapneocaa.Q
open Go.RowKit Go.Proofs.YthfefanapneocaaW.PrintWords Go.Proofs.YthfefanapneocaaW.PrintLast Go.Proofs.YthfefanapneocaaW.PrintMore
attribute [local go_sem] max2_int min2_int max_two min_two max_three min_three max_four min_four
set_option linter.unusedVariables false
set_option linter.unusedSimpArgs false
attribute [local go_sem high] eqA95
set_option maxRecDepth 100000
set_option maxHeartbeats 8000000
theorem min2_mnS (k k' : IntKind) (x y : Int) : Builtin.min2 (.int k x) (.int k' y) = pure (.int k (mn x y)) := by rw [min2_int]; rfl
attribute [local go_sem high] min2_mnS
def spec_ChangedGames.l0 : Nat → List Int → Int → List (S139) → Int → Int → Int → List Int → Bool → List (S95) → List Int → List Int → List (S139) → Int → Int → Int → List Int → Bool → List (S95) → List Int → List Int → Option (List Int)
 | 0, _, _, _, _, _, _, _, _, _, _, _, _, _, _, _, _, _, _, _, _ => none
 | k + 1, x5, x6, x671000, x671001, x671002, x671003, x671004, x671005, x671006, x671007, x671008, x672000, x672001, x672002, x672003, x672004, x672005, x672006, x672007, x672008 => if x6 < (mn (x671006.length : Int) (x672006.length : Int)) then (if 0 ≤ x6 then (if x6 < (x671006.length : Int) then (if x6 < (x672006.length : Int) then (if (!(((rd_T95 x671006 x6).f0) == ((rd_T95 x672006 x6).f0)) || (!(((rd_T95 x671006 x6).f1) == ((rd_T95 x672006 x6).f1)) || (!(((rd_T95 x671006 x6).f2) == ((rd_T95 x672006 x6).f2)) || (!(((rd_T95 x671006 x6).f3) == ((rd_T95 x672006 x6).f3)) || (!(((rd_T95 x671006 x6).f4) == ((rd_T95 x672006 x6).f4))))))) = true then (if x5.length < 17592186044416 then (spec_ChangedGames.l0 k (x5 ++ [x6]) (wrap64 (x6 + 1)) x671000 x671001 x671002 x671003 x671004 x671005 x671006 x671007 x671008 x672000 x672001 x672002 x672003 x672004 x672005 x672006 x672007 x672008) else (none)) else (spec_ChangedGames.l0 k x5 (wrap64 (x6 + 1)) x671000 x671001 x671002 x671003 x671004 x671005 x671006 x671007 x671008 x672000 x672001 x672002 x672003 x672004 x672005 x672006 x672007 x672008)) else (none)) else (none)) else (none)) else (some x5)
def spec_ChangedGames.f (k : Nat) (l0_0 : List (S139)) (a0_1 : Int) (a0_2 : Int) (a0_3 : Int) (l0_4 : List Int) (a0_5 : Bool) (l0_6 : List (S95)) (l0_7 : List Int) (l0_8 : List Int) (l1_0 : List (S139)) (a1_1 : Int) (a1_2 : Int) (a1_3 : Int) (l1_4 : List Int) (a1_5 : Bool) (l1_6 : List (S95)) (l1_7 : List Int) (l1_8 : List Int) : Option (List Int) := spec_ChangedGames.l0 k (([] : List Int)) 0 l0_0 a0_1 a0_2 a0_3 l0_4 a0_5 l0_6 l0_7 l0_8 l1_0 a1_1 a1_2 a1_3 l1_4 a1_5 l1_6 l1_7 l1_8
theorem spec_ChangedGames.calls (k : Nat) (A0_0 : Option Addr) (c0_0 : Nat) (l0_0 : List (S139)) (a0_1 : Int) (a0_2 : Int) (a0_3 : Int) (A0_4 : Option Addr) (c0_4 : Nat) (l0_4 : List Int) (a0_5 : Bool) (A0_6 : Option Addr) (c0_6 : Nat) (l0_6 : List (S95)) (A0_7 : Option Addr) (c0_7 : Nat) (l0_7 : List Int) (A0_8 : Option Addr) (c0_8 : Nat) (l0_8 : List Int) (A1_0 : Option Addr) (c1_0 : Nat) (l1_0 : List (S139)) (a1_1 : Int) (a1_2 : Int) (a1_3 : Int) (A1_4 : Option Addr) (c1_4 : Nat) (l1_4 : List Int) (a1_5 : Bool) (A1_6 : Option Addr) (c1_6 : Nat) (l1_6 : List (S95)) (A1_7 : Option Addr) (c1_7 : Nat) (l1_7 : List Int) (A1_8 : Option Addr) (c1_8 : Nat) (l1_8 : List Int) (r : List Int) (w : World) (hr0_0 : Kd.C k139 w A0_0 l0_0.length l0_0) (hc0_0 : l0_0.length ≤ c0_0) (hr0_4 : Kd.C (Kd.int .i64) w A0_4 l0_4.length l0_4) (hc0_4 : l0_4.length ≤ c0_4) (hr0_6 : Kd.C k95 w A0_6 l0_6.length l0_6) (hc0_6 : l0_6.length ≤ c0_6) (hr0_7 : Kd.C (Kd.int .i64) w A0_7 l0_7.length l0_7) (hc0_7 : l0_7.length ≤ c0_7) (hr0_8 : Kd.C (Kd.int .i64) w A0_8 l0_8.length l0_8) (hc0_8 : l0_8.length ≤ c0_8) (hr1_0 : Kd.C k139 w A1_0 l1_0.length l1_0) (hc1_0 : l1_0.length ≤ c1_0) (hr1_4 : Kd.C (Kd.int .i64) w A1_4 l1_4.length l1_4) (hc1_4 : l1_4.length ≤ c1_4) (hr1_6 : Kd.C k95 w A1_6 l1_6.length l1_6) (hc1_6 : l1_6.length ≤ c1_6) (hr1_7 : Kd.C (Kd.int .i64) w A1_7 l1_7.length l1_7) (hc1_7 : l1_7.length ≤ c1_7) (hr1_8 : Kd.C (Kd.int .i64) w A1_8 l1_8.length l1_8) (hc1_8 : l1_8.length ≤ c1_8) (h : spec_ChangedGames.f k l0_0 a0_1 a0_2 a0_3 l0_4 a0_5 l0_6 l0_7 l0_8 l1_0 a1_1 a1_2 a1_3 l1_4 a1_5 l1_6 l1_7 l1_8 = some r) :
  Calls Try.prog 74 #[.agg #[.slice A0_0 l0_0.length c0_0, .int .i64 a0_1, .int .i64 a0_2, .int .i64 a0_3, .slice A0_4 l0_4.length c0_4, .bool a0_5, .slice A0_6 l0_6.length c0_6, .slice A0_7 l0_7.length c0_7, .slice A0_8 l0_8.length c0_8], .agg #[.slice A1_0 l1_0.length c1_0, .int .i64 a1_1, .int .i64 a1_2, .int .i64 a1_3, .slice A1_4 l1_4.length c1_4, .bool a1_5, .slice A1_6 l1_6.length c1_6, .slice A1_7 l1_7.length c1_7, .slice A1_8 l1_8.length c1_8]] w fun e w' => ∃ v0_ : Value, e = .returned (v0_) ∧ Kd.R (Kd.int .i64) 3 w' w.heap.size (fun _ => True) v0_ r ∧ Below w.heap.size w w' := by
 have hu36 := Try.underlying36
 have hu95 := Try.underlying95
 have HR0_0 := Aside0.mk hr0_0
 have HC0_0 := Aside0.mk hc0_0
 clear hr0_0 hc0_0
 have HR0_4 := Aside0.mk hr0_4
 have HC0_4 := Aside0.mk hc0_4
 clear hr0_4 hc0_4
 have HR0_6 := Aside0.mk hr0_6
 have HC0_6 := Aside0.mk hc0_6
 clear hr0_6 hc0_6
 have HR0_7 := Aside0.mk hr0_7
 have HC0_7 := Aside0.mk hc0_7
 clear hr0_7 hc0_7
 have HR0_8 := Aside0.mk hr0_8
 have HC0_8 := Aside0.mk hc0_8
 clear hr0_8 hc0_8
 have HR1_0 := Aside0.mk hr1_0
 have HC1_0 := Aside0.mk hc1_0
 clear hr1_0 hc1_0
 have HR1_4 := Aside0.mk hr1_4
 have HC1_4 := Aside0.mk hc1_4
 clear hr1_4 hc1_4
 have HR1_6 := Aside0.mk hr1_6
 have HC1_6 := Aside0.mk hc1_6
 clear hr1_6 hc1_6
 have HR1_7 := Aside0.mk hr1_7
 have HC1_7 := Aside0.mk hc1_7
 clear hr1_7 hc1_7
 have HR1_8 := Aside0.mk hr1_8
 have HC1_8 := Aside0.mk hc1_8
 clear hr1_8 hc1_8
 have HB := Aside0.mk (Below.refl w.heap.size w)
 have H : (spec_ChangedGames.l0 k (([] : List Int)) 0 l0_0 a0_1 a0_2 a0_3 l0_4 a0_5 l0_6 l0_7 l0_8 l1_0 a1_1 a1_2 a1_3 l1_4 a1_5 l1_6 l1_7 l1_8) = some r := h
 clear h
 obtain ⟨y672, hy672⟩ : ∃ y_ : List Int, y_ = (([] : List Int)) := ⟨_, rfl⟩
 replace H : (spec_ChangedGames.l0 k y672 0 l0_0 a0_1 a0_2 a0_3 l0_4 a0_5 l0_6 l0_7 l0_8 l1_0 a1_1 a1_2 a1_3 l1_4 a1_5 l1_6 l1_7 l1_8) = some r := by first | (rw [hy672]; with_reducible exact H) | (have H2_ := (Option.bind_some _ _).symm.trans H; rw [hy672]; with_reducible exact H2_) | (have H2_ := (Option.bind_some _ _).symm.trans H; with_reducible exact H2_) | with_reducible exact H | (rw [hy672]; exact H) | exact H
 have Ny672 := Aside0.mk hy672
 clear hy672
 have H' := Aside0.mk H
 clear H
 go_enter Try.func74, Try.ntmps74
 go_wp2_with (first | ((with_reducible refine gate_dst (N := 2) rfl ?_); refine bx (N := 2) (cs := #[.slice A0_0 l0_0.length c0_0, .int .i64 a0_1, .int .i64 a0_2, .int .i64 a0_3, .slice A0_4 l0_4.length c0_4, .bool a0_5, .slice A0_6 l0_6.length c0_6, .slice A0_7 l0_7.length c0_7, .slice A0_8 l0_8.length c0_8]) (t := 36) ?_; intro gb670 hg w3 hbox hb; have BK670 := Aside0.mk (hbox); have GW670 := gs hg HB; have GE670 := gs hg HB; replace HB := hs_ HB hb; clear hb hbox hg) | ((with_reducible refine gate_dst (N := 3) rfl ?_); refine bx (N := 3) (cs := #[.slice A1_0 l1_0.length c1_0, .int .i64 a1_1, .int .i64 a1_2, .int .i64 a1_3, .slice A1_4 l1_4.length c1_4, .bool a1_5, .slice A1_6 l1_6.length c1_6, .slice A1_7 l1_7.length c1_7, .slice A1_8 l1_8.length c1_8]) (t := 36) ?_; intro gb671 hg w4 hbox hb; have BK671 := Aside0.mk (hbox); have GW671 := gs hg HB; have GE671 := gs hg HB; replace HB := hs_ HB hb; have NB670_671 := gn hg BK670; have NB671_670 := gm hg BK670; replace BK670 := kb BK670 hb; clear hb hbox hg) | ((with_reducible refine gate_dst (N := 7) rfl ?_); refine Kd.R_lit (Kd.int .i64) _ 3 ?hg (N := 7) ?hd (xs := ([] : List Int)) (inner := []) (ok := fun _ => True) (okp := fun _ => True) ?hr ?hp (fun _ hk => hk) trivial (Below.refl _ _) (Nat.le_refl _) (by simp) ?_; (case hd => rfl); (case hg => rfl); (case hr => first | (go_simp; done) | (go_simp; rfl)); (case hp => exact (Reps.none _ _)); intro v673 w5 ho6 hb hg_ hnew_; clear hg_ hnew_; (first | rw [← Ny672.out] at ho6 | (simp only [Int.reduceToNat] at ho6; rw [← Ny672.out] at ho6)); have HO674 := kl ho6 HB; replace BK670 := kb BK670 hb; replace BK671 := kb BK671 hb; replace HB := hs_ HB hb; clear hb ho6))
 repeat (go_quiet (first | ((with_reducible refine gate_dst (N := 2) rfl ?_); refine bx (N := 2) (cs := #[.slice A0_0 l0_0.length c0_0, .int .i64 a0_1, .int .i64 a0_2, .int .i64 a0_3, .slice A0_4 l0_4.length c0_4, .bool a0_5, .slice A0_6 l0_6.length c0_6, .slice A0_7 l0_7.length c0_7, .slice A0_8 l0_8.length c0_8]) (t := 36) ?_; intro gb670 hg w3 hbox hb; have BK670 := Aside0.mk (hbox); have GW670 := gs hg HB; have GE670 := gs hg HB; replace HB := hs_ HB hb; clear hb hbox hg) | ((with_reducible refine gate_dst (N := 3) rfl ?_); refine bx (N := 3) (cs := #[.slice A1_0 l1_0.length c1_0, .int .i64 a1_1, .int .i64 a1_2, .int .i64 a1_3, .slice A1_4 l1_4.length c1_4, .bool a1_5, .slice A1_6 l1_6.length c1_6, .slice A1_7 l1_7.length c1_7, .slice A1_8 l1_8.length c1_8]) (t := 36) ?_; intro gb671 hg w4 hbox hb; have BK671 := Aside0.mk (hbox); have GW671 := gs hg HB; have GE671 := gs hg HB; replace HB := hs_ HB hb; have NB670_671 := gn hg BK670; have NB671_670 := gm hg BK670; replace BK670 := kb BK670 hb; clear hb hbox hg) | ((with_reducible refine gate_dst (N := 7) rfl ?_); refine Kd.R_lit (Kd.int .i64) _ 3 ?hg (N := 7) ?hd (xs := ([] : List Int)) (inner := []) (ok := fun _ => True) (okp := fun _ => True) ?hr ?hp (fun _ hk => hk) trivial (Below.refl _ _) (Nat.le_refl _) (by simp) ?_; (case hd => rfl); (case hg => rfl); (case hr => first | (go_simp; done) | (go_simp; rfl)); (case hp => exact (Reps.none _ _)); intro v673 w5 ho6 hb hg_ hnew_; clear hg_ hnew_; (first | rw [← Ny672.out] at ho6 | (simp only [Int.reduceToNat] at ho6; rw [← Ny672.out] at ho6)); have HO674 := kl ho6 HB; replace BK670 := kb BK670 hb; replace BK671 := kb BK671 hb; replace HB := hs_ HB hb; clear hb ho6)); try go_wp2_with (first | ((with_reducible refine gate_dst (N := 2) rfl ?_); refine bx (N := 2) (cs := #[.slice A0_0 l0_0.length c0_0, .int .i64 a0_1, .int .i64 a0_2, .int .i64 a0_3, .slice A0_4 l0_4.length c0_4, .bool a0_5, .slice A0_6 l0_6.length c0_6, .slice A0_7 l0_7.length c0_7, .slice A0_8 l0_8.length c0_8]) (t := 36) ?_; intro gb670 hg w3 hbox hb; have BK670 := Aside0.mk (hbox); have GW670 := gs hg HB; have GE670 := gs hg HB; replace HB := hs_ HB hb; clear hb hbox hg) | ((with_reducible refine gate_dst (N := 3) rfl ?_); refine bx (N := 3) (cs := #[.slice A1_0 l1_0.length c1_0, .int .i64 a1_1, .int .i64 a1_2, .int .i64 a1_3, .slice A1_4 l1_4.length c1_4, .bool a1_5, .slice A1_6 l1_6.length c1_6, .slice A1_7 l1_7.length c1_7, .slice A1_8 l1_8.length c1_8]) (t := 36) ?_; intro gb671 hg w4 hbox hb; have BK671 := Aside0.mk (hbox); have GW671 := gs hg HB; have GE671 := gs hg HB; replace HB := hs_ HB hb; have NB670_671 := gn hg BK670; have NB671_670 := gm hg BK670; replace BK670 := kb BK670 hb; clear hb hbox hg) | ((with_reducible refine gate_dst (N := 7) rfl ?_); refine Kd.R_lit (Kd.int .i64) _ 3 ?hg (N := 7) ?hd (xs := ([] : List Int)) (inner := []) (ok := fun _ => True) (okp := fun _ => True) ?hr ?hp (fun _ hk => hk) trivial (Below.refl _ _) (Nat.le_refl _) (by simp) ?_; (case hd => rfl); (case hg => rfl); (case hr => first | (go_simp; done) | (go_simp; rfl)); (case hp => exact (Reps.none _ _)); intro v673 w5 ho6 hb hg_ hnew_; clear hg_ hnew_; (first | rw [← Ny672.out] at ho6 | (simp only [Int.reduceToNat] at ho6; rw [← Ny672.out] at ho6)); have HO674 := kl ho6 HB; replace BK670 := kb BK670 hb; replace BK671 := kb BK671 hb; replace HB := hs_ HB hb; clear hb ho6)))
 go_loopg [5, 6] k (fun kq v5 v6 w' => ∃ (x5_1 : List Int) (x6_1 : Int), v6 = .int .i64 x6_1 ∧ Aside0 (spec_ChangedGames.l0 kq x5_1 x6_1 l0_0 a0_1 a0_2 a0_3 l0_4 a0_5 l0_6 l0_7 l0_8 l1_0 a1_1 a1_2 a1_3 l1_4 a1_5 l1_6 l1_7 l1_8 = some r) ∧ Aside0 (kq ≤ k) ∧ Aside0 (Kd.R (Kd.int .i64) 3 w' w.heap.size (fun _ => True) v5 x5_1) ∧ Aside0 (w'.heap[gb670]? = some (.cells #[(.slice A0_0 l0_0.length c0_0), .int .i64 a0_1, .int .i64 a0_2, .int .i64 a0_3, (.slice A0_4 l0_4.length c0_4), .bool a0_5, (.slice A0_6 l0_6.length c0_6), (.slice A0_7 l0_7.length c0_7), (.slice A0_8 l0_8.length c0_8)] 36 (0, 0))) ∧ Aside0 (w'.heap[gb671]? = some (.cells #[(.slice A1_0 l1_0.length c1_0), .int .i64 a1_1, .int .i64 a1_2, .int .i64 a1_3, (.slice A1_4 l1_4.length c1_4), .bool a1_5, (.slice A1_6 l1_6.length c1_6), (.slice A1_7 l1_7.length c1_7), (.slice A1_8 l1_8.length c1_8)] 36 (0, 0))) ∧ Aside0 (Below w.heap.size w w'))
 case atStart => exact ⟨(y672), (0), e2_, H', ⟨Nat.le_refl _⟩, ⟨rr HO674⟩, ⟨bk BK670⟩, ⟨bk BK671⟩, ⟨bb HB⟩⟩
 case round =>
  clear H'
  (try clear c1)
  (try clear p2)
  obtain ⟨x5_1, x6_1, rfl, HA, HK1, HO_5, BK670, BK671, HB⟩ := hrel
  cases gk with
  | zero => exact absurd HA.out (by simp [spec_ChangedGames.l0])
  | succ k1 =>
   have H := HA.out
   clear HA
   simp only [spec_ChangedGames.l0] at H
   obtain ⟨ji7, hji7⟩ : ∃ j_ : Int, (mn (l0_6.length : Int) (l1_6.length : Int)) = j_ := ⟨_, rfl⟩
   replace H : (if x6_1 < (ji7) then (if 0 ≤ x6_1 then (if x6_1 < (l0_6.length : Int) then (if x6_1 < (l1_6.length : Int) then (if (!(((rd_T95 l0_6 x6_1).f0) == ((rd_T95 l1_6 x6_1).f0)) || (!(((rd_T95 l0_6 x6_1).f1) == ((rd_T95 l1_6 x6_1).f1)) || (!(((rd_T95 l0_6 x6_1).f2) == ((rd_T95 l1_6 x6_1).f2)) || (!(((rd_T95 l0_6 x6_1).f3) == ((rd_T95 l1_6 x6_1).f3)) || (!(((rd_T95 l0_6 x6_1).f4) == ((rd_T95 l1_6 x6_1).f4))))))) = true then (if x5_1.length < 17592186044416 then (spec_ChangedGames.l0 k1 (x5_1 ++ [x6_1]) (wrap64 (x6_1 + 1)) l0_0 a0_1 a0_2 a0_3 l0_4 a0_5 l0_6 l0_7 l0_8 l1_0 a1_1 a1_2 a1_3 l1_4 a1_5 l1_6 l1_7 l1_8) else (none)) else (spec_ChangedGames.l0 k1 x5_1 (wrap64 (x6_1 + 1)) l0_0 a0_1 a0_2 a0_3 l0_4 a0_5 l0_6 l0_7 l0_8 l1_0 a1_1 a1_2 a1_3 l1_4 a1_5 l1_6 l1_7 l1_8)) else (none)) else (none)) else (none)) else (some x5_1)) = some r := by first | (rw [hji7] at H; exact H) | (simp only [hji7] at H ⊢; exact H)
   have hji7_ : (if (l1_6.length : Int) < (l0_6.length : Int) then (l1_6.length : Int) else (l0_6.length : Int)) = ji7 := hji7
   by_cases c8 : x6_1 < (ji7)
   ·rw [if_pos c8] at H
    have c8b0 : decide (x6_1 < (ji7)) = true := decide_eq_true c8
    clear c8
    by_cases c9 : 0 ≤ x6_1
    ·rw [if_pos c9] at H
     have c9b0 : decide (0 ≤ x6_1) = true := decide_eq_true c9
     clear c9
     by_cases c10 : x6_1 < (l0_6.length : Int)
     ·rw [if_pos c10] at H
      have c10b0 : decide (x6_1 < (l0_6.length : Int)) = true := decide_eq_true c10
      clear c10
      by_cases c11 : x6_1 < (l1_6.length : Int)
      ·rw [if_pos c11] at H
       have c11b0 : decide (x6_1 < (l1_6.length : Int)) = true := decide_eq_true c11
       clear c11
       by_cases c12 : (!(((rd_T95 l0_6 x6_1).f0) == ((rd_T95 l1_6 x6_1).f0)) || (!(((rd_T95 l0_6 x6_1).f1) == ((rd_T95 l1_6 x6_1).f1)) || (!(((rd_T95 l0_6 x6_1).f2) == ((rd_T95 l1_6 x6_1).f2)) || (!(((rd_T95 l0_6 x6_1).f3) == ((rd_T95 l1_6 x6_1).f3)) || (!(((rd_T95 l0_6 x6_1).f4) == ((rd_T95 l1_6 x6_1).f4))))))) = true
       ·rw [if_pos c12] at H
        have c12b0 : (!(((rd_T95 l0_6 x6_1).f0) == ((rd_T95 l1_6 x6_1).f0)) || (!(((rd_T95 l0_6 x6_1).f1) == ((rd_T95 l1_6 x6_1).f1)) || (!(((rd_T95 l0_6 x6_1).f2) == ((rd_T95 l1_6 x6_1).f2)) || (!(((rd_T95 l0_6 x6_1).f3) == ((rd_T95 l1_6 x6_1).f3)) || (!(((rd_T95 l0_6 x6_1).f4) == ((rd_T95 l1_6 x6_1).f4))))))) = true := c12
        clear c12
        by_cases c13 : x5_1.length < 17592186044416
        ·rw [if_pos c13] at H
         have LMc13 := Aside0.mk c13
         clear c13
         obtain ⟨y677, hy677⟩ : ∃ y_ : List Int, y_ = (x5_1 ++ [x6_1]) := ⟨_, rfl⟩
         replace H : (spec_ChangedGames.l0 k1 y677 (wrap64 (x6_1 + 1)) l0_0 a0_1 a0_2 a0_3 l0_4 a0_5 l0_6 l0_7 l0_8 l1_0 a1_1 a1_2 a1_3 l1_4 a1_5 l1_6 l1_7 l1_8) = some r := by first | (rw [hy677]; with_reducible exact H) | (have H2_ := (Option.bind_some _ _).symm.trans H; rw [hy677]; with_reducible exact H2_) | (have H2_ := (Option.bind_some _ _).symm.trans H; with_reducible exact H2_) | with_reducible exact H | (rw [hy677]; exact H) | exact H
         have Ny677 := Aside0.mk hy677
         clear hy677
         have H' := Aside0.mk H
         clear H
         have hnb14 := NB670_671.out
         have hnc14 := NB671_670.out
         have ⟨z15_0, z15_1, z15_2, z15_3, z15_4, z15_5, z15_6, z15_7, z15_8, v15_0, v15_1, v15_2, v15_3, v15_4, v15_5, v15_6, v15_7, v15_8⟩ := rz9 BK670
         have ⟨z16_0, z16_1, z16_2, z16_3, z16_4, z16_5, z16_6, z16_7, z16_8, v16_0, v16_1, v16_2, v16_3, v16_4, v16_5, v16_6, v16_7, v16_8⟩ := rz9 BK671
         have p675 : 0 ≤ (x6_1 : Int) := oa
         have q675 : x6_1 < (l0_6.length : Int) := oa
         obtain ⟨ad675, e675, hx675_0, hx675_1, hx675_2, hx675_3, hx675_4⟩ := at_T95 HR0_6.out x6_1 p675 q675
         cases e675
         replace hx675_0 := hc HB hx675_0
         replace hx675_1 := hc HB hx675_1
         replace hx675_2 := hc HB hx675_2
         replace hx675_3 := hc HB hx675_3
         replace hx675_4 := hc HB hx675_4
         replace p675 := eq_true p675
         replace q675 := eq_true q675
         have p676 : 0 ≤ (x6_1 : Int) := oa
         have q676 : x6_1 < (l1_6.length : Int) := oa
         obtain ⟨ad676, e676, hx676_0, hx676_1, hx676_2, hx676_3, hx676_4⟩ := at_T95 HR1_6.out x6_1 p676 q676
         cases e676
         replace hx676_0 := hc HB hx676_0
         replace hx676_1 := hc HB hx676_1
         replace hx676_2 := hc HB hx676_2
         replace hx676_3 := hc HB hx676_3
         replace hx676_4 := hc HB hx676_4
         replace p676 := eq_true p676
         replace q676 := eq_true q676
         go_wp2_with (first | ((with_reducible refine gate_builtin (b := .append) (xs := #[.tmp 30, .tmp 32]) rfl ?_); at_builtin; refine Kd.R_append (Kd.int .i64) (w0 := w) w.heap.size rfl (.tmp 30) (.tmp 32) 23 3 (.int .i64 0) 8 rfl Try.underlying23 info3 rfl (by decide) (by omega) u5 x5_1 x6_1 [.int .i64 x6_1] (fun _ => True) (fun _ => False) rfl rfl ?aP (fun _ hk => hk.elim) ?aF ?aO ?aB ?aS ?aL ?_; (case aP => exact rfl); (case aB => exact (bb HB)); (case aF => exact (fun _ _ => trivial)); (case aO => exact (rr HO_5)); (case aS => exact (below_size (bb HB))); (case aL => have := LMc13.out; omega); intro v678 w17 ho hb hg hat; rw [← Ny677.out] at ho; replace BK670 := Aside0.mk (blk_grown (g := gb670) (o := .cells #[.slice A0_0 l0_0.length c0_0, .int .i64 a0_1, .int .i64 a0_2, .int .i64 a0_3, .slice A0_4 l0_4.length c0_4, .bool a0_5, .slice (some ad675) l0_6.length c0_6, .slice A0_7 l0_7.length c0_7, .slice A0_8 l0_8.length c0_8] 36 (0, 0)) (bk BK670) hg (Kd.R_ne HO_5.out BK670.out (by decide))); replace BK671 := Aside0.mk (blk_grown (g := gb671) (o := .cells #[.slice A1_0 l1_0.length c1_0, .int .i64 a1_1, .int .i64 a1_2, .int .i64 a1_3, .slice A1_4 l1_4.length c1_4, .bool a1_5, .slice (some ad676) l1_6.length c1_6, .slice A1_7 l1_7.length c1_7, .slice A1_8 l1_8.length c1_8] 36 (0, 0)) (bk BK671) hg (Kd.R_ne HO_5.out BK671.out (by decide))); replace HB := Aside0.mk (hb); have HO679 := Aside0.mk (ho); clear HO_5 ho hb hg hat))
         repeat (go_quiet (first | ((with_reducible refine gate_builtin (b := .append) (xs := #[.tmp 30, .tmp 32]) rfl ?_); at_builtin; refine Kd.R_append (Kd.int .i64) (w0 := w) w.heap.size rfl (.tmp 30) (.tmp 32) 23 3 (.int .i64 0) 8 rfl Try.underlying23 info3 rfl (by decide) (by omega) u5 x5_1 x6_1 [.int .i64 x6_1] (fun _ => True) (fun _ => False) rfl rfl ?aP (fun _ hk => hk.elim) ?aF ?aO ?aB ?aS ?aL ?_; (case aP => exact rfl); (case aB => exact (bb HB)); (case aF => exact (fun _ _ => trivial)); (case aO => exact (rr HO_5)); (case aS => exact (below_size (bb HB))); (case aL => have := LMc13.out; omega); intro v678 w17 ho hb hg hat; rw [← Ny677.out] at ho; replace BK670 := Aside0.mk (blk_grown (g := gb670) (o := .cells #[.slice A0_0 l0_0.length c0_0, .int .i64 a0_1, .int .i64 a0_2, .int .i64 a0_3, .slice A0_4 l0_4.length c0_4, .bool a0_5, .slice (some ad675) l0_6.length c0_6, .slice A0_7 l0_7.length c0_7, .slice A0_8 l0_8.length c0_8] 36 (0, 0)) (bk BK670) hg (Kd.R_ne HO_5.out BK670.out (by decide))); replace BK671 := Aside0.mk (blk_grown (g := gb671) (o := .cells #[.slice A1_0 l1_0.length c1_0, .int .i64 a1_1, .int .i64 a1_2, .int .i64 a1_3, .slice A1_4 l1_4.length c1_4, .bool a1_5, .slice (some ad676) l1_6.length c1_6, .slice A1_7 l1_7.length c1_7, .slice A1_8 l1_8.length c1_8] 36 (0, 0)) (bk BK671) hg (Kd.R_ne HO_5.out BK671.out (by decide))); replace HB := Aside0.mk (hb); have HO679 := Aside0.mk (ho); clear HO_5 ho hb hg hat)); try go_wp2_with (first | ((with_reducible refine gate_builtin (b := .append) (xs := #[.tmp 30, .tmp 32]) rfl ?_); at_builtin; refine Kd.R_append (Kd.int .i64) (w0 := w) w.heap.size rfl (.tmp 30) (.tmp 32) 23 3 (.int .i64 0) 8 rfl Try.underlying23 info3 rfl (by decide) (by omega) u5 x5_1 x6_1 [.int .i64 x6_1] (fun _ => True) (fun _ => False) rfl rfl ?aP (fun _ hk => hk.elim) ?aF ?aO ?aB ?aS ?aL ?_; (case aP => exact rfl); (case aB => exact (bb HB)); (case aF => exact (fun _ _ => trivial)); (case aO => exact (rr HO_5)); (case aS => exact (below_size (bb HB))); (case aL => have := LMc13.out; omega); intro v678 w17 ho hb hg hat; rw [← Ny677.out] at ho; replace BK670 := Aside0.mk (blk_grown (g := gb670) (o := .cells #[.slice A0_0 l0_0.length c0_0, .int .i64 a0_1, .int .i64 a0_2, .int .i64 a0_3, .slice A0_4 l0_4.length c0_4, .bool a0_5, .slice (some ad675) l0_6.length c0_6, .slice A0_7 l0_7.length c0_7, .slice A0_8 l0_8.length c0_8] 36 (0, 0)) (bk BK670) hg (Kd.R_ne HO_5.out BK670.out (by decide))); replace BK671 := Aside0.mk (blk_grown (g := gb671) (o := .cells #[.slice A1_0 l1_0.length c1_0, .int .i64 a1_1, .int .i64 a1_2, .int .i64 a1_3, .slice A1_4 l1_4.length c1_4, .bool a1_5, .slice (some ad676) l1_6.length c1_6, .slice A1_7 l1_7.length c1_7, .slice A1_8 l1_8.length c1_8] 36 (0, 0)) (bk BK671) hg (Kd.R_ne HO_5.out BK671.out (by decide))); replace HB := Aside0.mk (hb); have HO679 := Aside0.mk (ho); clear HO_5 ho hb hg hat)))
         go_roundg k1
         case measure => have := HK1.out; omega
         case rel => exact ⟨(y677), (wrap64 (x6_1 + 1)), e2_, H', ⟨by have := HK1.out; omega⟩, ⟨rr HO679⟩, ⟨bk BK670⟩, ⟨bk BK671⟩, ⟨bb HB⟩⟩
        ·rw [if_neg c13] at H
         exact absurd H (by simp)
       ·rw [if_neg c12] at H
        have c12b0 : (!(((rd_T95 l0_6 x6_1).f0) == ((rd_T95 l1_6 x6_1).f0)) || (!(((rd_T95 l0_6 x6_1).f1) == ((rd_T95 l1_6 x6_1).f1)) || (!(((rd_T95 l0_6 x6_1).f2) == ((rd_T95 l1_6 x6_1).f2)) || (!(((rd_T95 l0_6 x6_1).f3) == ((rd_T95 l1_6 x6_1).f3)) || (!(((rd_T95 l0_6 x6_1).f4) == ((rd_T95 l1_6 x6_1).f4))))))) = false := by simpa using c12
        clear c12
        have H' := Aside0.mk H
        clear H
        have hnb18 := NB670_671.out
        have hnc18 := NB671_670.out
        have ⟨z19_0, z19_1, z19_2, z19_3, z19_4, z19_5, z19_6, z19_7, z19_8, v19_0, v19_1, v19_2, v19_3, v19_4, v19_5, v19_6, v19_7, v19_8⟩ := rz9 BK670
        have ⟨z20_0, z20_1, z20_2, z20_3, z20_4, z20_5, z20_6, z20_7, z20_8, v20_0, v20_1, v20_2, v20_3, v20_4, v20_5, v20_6, v20_7, v20_8⟩ := rz9 BK671
        have p675 : 0 ≤ (x6_1 : Int) := oa
        have q675 : x6_1 < (l0_6.length : Int) := oa
        obtain ⟨ad675, e675, hx675_0, hx675_1, hx675_2, hx675_3, hx675_4⟩ := at_T95 HR0_6.out x6_1 p675 q675
        cases e675
        replace hx675_0 := hc HB hx675_0
        replace hx675_1 := hc HB hx675_1
        replace hx675_2 := hc HB hx675_2
        replace hx675_3 := hc HB hx675_3
        replace hx675_4 := hc HB hx675_4
        replace p675 := eq_true p675
        replace q675 := eq_true q675
        have p676 : 0 ≤ (x6_1 : Int) := oa
        have q676 : x6_1 < (l1_6.length : Int) := oa
        obtain ⟨ad676, e676, hx676_0, hx676_1, hx676_2, hx676_3, hx676_4⟩ := at_T95 HR1_6.out x6_1 p676 q676
        cases e676
        replace hx676_0 := hc HB hx676_0
        replace hx676_1 := hc HB hx676_1
        replace hx676_2 := hc HB hx676_2
        replace hx676_3 := hc HB hx676_3
        replace hx676_4 := hc HB hx676_4
        replace p676 := eq_true p676
        replace q676 := eq_true q676
        go_wp2
        repeat (go_quiet (fail); try go_wp2)
        go_roundg k1
        case measure => have := HK1.out; omega
        case rel => exact ⟨(x5_1), (wrap64 (x6_1 + 1)), e2_, H', ⟨by have := HK1.out; omega⟩, ⟨rr HO_5⟩, ⟨bk BK670⟩, ⟨bk BK671⟩, ⟨bb HB⟩⟩
      ·rw [if_neg c11] at H
       exact absurd H (by simp)
     ·rw [if_neg c10] at H
      exact absurd H (by simp)
    ·rw [if_neg c9] at H
     exact absurd H (by simp)
   ·rw [if_neg c8] at H
    have c8b0 : decide (x6_1 < (ji7)) = false := decide_eq_false c8
    clear c8
    obtain rfl := Option.some.inj H
    have hnb21 := NB670_671.out
    have hnc21 := NB671_670.out
    have ⟨z22_0, z22_1, z22_2, z22_3, z22_4, z22_5, z22_6, z22_7, z22_8, v22_0, v22_1, v22_2, v22_3, v22_4, v22_5, v22_6, v22_7, v22_8⟩ := rz9 BK670
    have ⟨z23_0, z23_1, z23_2, z23_3, z23_4, z23_5, z23_6, z23_7, z23_8, v23_0, v23_1, v23_2, v23_3, v23_4, v23_5, v23_6, v23_7, v23_8⟩ := rz9 BK671
    go_wp2
    repeat (go_quiet (fail); try go_wp2)
    go_ret
    exact ⟨_, by first | rfl | (simp [errW_none, errW_some] <;> rfl) | (simp only [← hji7]; first | rfl | (simp [errW_none, errW_some] <;> rfl)) | (simp [*, errW_none, errW_some] <;> rfl), rr HO_5, bb HB⟩
end Go.Proofs.Ythfefanapneocaa.Q
namespace Go.Proofs.Ythfefanapneocaa.Q
open Go.RowKit Go.Proofs.YthfefanapneocaaW.PrintWords Go.Proofs.YthfefanapneocaaW.PrintLast Go.Proofs.YthfefanapneocaaW.PrintMore
attribute [local go_sem] max2_int min2_int max_two min_two max_three min_three max_four min_four
set_option linter.unusedVariables false
set_option linter.unusedSimpArgs false
set_option maxRecDepth 100000
set_option maxHeartbeats 8000000
def spec_OrderMatters.f (k : Nat) (l0_0 : List (S139)) (a0_1 : Int) (a0_2 : Int) (a0_3 : Int) (l0_4 : List Int) (a0_5 : Bool) (l0_6 : List (S95)) (l0_7 : List Int) (l0_8 : List Int) (a1_0 : Int) (a1_1 : Int) (a1_2 : Bool) (a2_0 : Int) (a2_1 : Int) (a2_2 : Bool) : Option (Bool) := (spec_Decide.f k l0_0 a0_1 a0_2 a0_3 l0_4 a0_5 l0_6 l0_7 l0_8 (([(⟨a1_0, a1_1, a1_2⟩ : S50), (⟨a2_0, a2_1, a2_2⟩ : S50)] : List (S50)))).bind fun bt686 => ((spec_Decide.f k l0_0 a0_1 a0_2 a0_3 l0_4 a0_5 l0_6 l0_7 l0_8 (([(⟨a2_0, a2_1, a2_2⟩ : S50), (⟨a1_0, a1_1, a1_2⟩ : S50)] : List (S50)))).bind fun bt710 => (if bt686.2.2.2.2.2.2.2.2.2 = true then (if bt710.2.2.2.2.2.2.2.2.2 = true then ((spec_ChangedGames.f k bt686.1 bt686.2.1 bt686.2.2.1 bt686.2.2.2.1 bt686.2.2.2.2.1 bt686.2.2.2.2.2.1 bt686.2.2.2.2.2.2.1 bt686.2.2.2.2.2.2.2.1 bt686.2.2.2.2.2.2.2.2.1 bt710.1 bt710.2.1 bt710.2.2.1 bt710.2.2.2.1 bt710.2.2.2.2.1 bt710.2.2.2.2.2.1 bt710.2.2.2.2.2.2.1 bt710.2.2.2.2.2.2.2.1 bt710.2.2.2.2.2.2.2.2.1).bind fun t731 => (some (decide ((t731.length : Int) > 0)))) else (some false)) else (some false)))
theorem spec_OrderMatters.calls (k : Nat) (A0_0 : Option Addr) (c0_0 : Nat) (l0_0 : List (S139)) (a0_1 : Int) (a0_2 : Int) (a0_3 : Int) (A0_4 : Option Addr) (c0_4 : Nat) (l0_4 : List Int) (a0_5 : Bool) (A0_6 : Option Addr) (c0_6 : Nat) (l0_6 : List (S95)) (A0_7 : Option Addr) (c0_7 : Nat) (l0_7 : List Int) (A0_8 : Option Addr) (c0_8 : Nat) (l0_8 : List Int) (a1_0 : Int) (a1_1 : Int) (a1_2 : Bool) (a2_0 : Int) (a2_1 : Int) (a2_2 : Bool) (r : Bool) (w : World) (hr0_0 : Kd.C k139 w A0_0 l0_0.length l0_0) (hc0_0 : l0_0.length ≤ c0_0) (hr0_4 : Kd.C (Kd.int .i64) w A0_4 l0_4.length l0_4) (hc0_4 : l0_4.length ≤ c0_4) (hr0_6 : Kd.C k95 w A0_6 l0_6.length l0_6) (hc0_6 : l0_6.length ≤ c0_6) (hr0_7 : Kd.C (Kd.int .i64) w A0_7 l0_7.length l0_7) (hc0_7 : l0_7.length ≤ c0_7) (hr0_8 : Kd.C (Kd.int .i64) w A0_8 l0_8.length l0_8) (hc0_8 : l0_8.length ≤ c0_8) (h : spec_OrderMatters.f k l0_0 a0_1 a0_2 a0_3 l0_4 a0_5 l0_6 l0_7 l0_8 a1_0 a1_1 a1_2 a2_0 a2_1 a2_2 = some r) :
  Calls Try.prog 21 #[.agg #[.slice A0_0 l0_0.length c0_0, .int .i64 a0_1, .int .i64 a0_2, .int .i64 a0_3, .slice A0_4 l0_4.length c0_4, .bool a0_5, .slice A0_6 l0_6.length c0_6, .slice A0_7 l0_7.length c0_7, .slice A0_8 l0_8.length c0_8], .agg #[.int .i64 a1_0, .int .i64 a1_1, .bool a1_2], .agg #[.int .i64 a2_0, .int .i64 a2_1, .bool a2_2]] w fun e w' => e = .returned (.bool r) ∧ Below w.heap.size w w' := by
 have hu36 := Try.underlying36
 have hu50 := Try.underlying50
 have HR0_0 := Aside0.mk hr0_0
 have HC0_0 := Aside0.mk hc0_0
 clear hr0_0 hc0_0
 have HR0_4 := Aside0.mk hr0_4
 have HC0_4 := Aside0.mk hc0_4
 clear hr0_4 hc0_4
 have HR0_6 := Aside0.mk hr0_6
 have HC0_6 := Aside0.mk hc0_6
 clear hr0_6 hc0_6
 have HR0_7 := Aside0.mk hr0_7
 have HC0_7 := Aside0.mk hc0_7
 clear hr0_7 hc0_7
 have HR0_8 := Aside0.mk hr0_8
 have HC0_8 := Aside0.mk hc0_8
 clear hr0_8 hc0_8
 have HB := Aside0.mk (Below.refl w.heap.size w)
 have H : ((spec_Decide.f k l0_0 a0_1 a0_2 a0_3 l0_4 a0_5 l0_6 l0_7 l0_8 (([(⟨a1_0, a1_1, a1_2⟩ : S50), (⟨a2_0, a2_1, a2_2⟩ : S50)] : List (S50)))).bind fun bt686 => ((spec_Decide.f k l0_0 a0_1 a0_2 a0_3 l0_4 a0_5 l0_6 l0_7 l0_8 (([(⟨a2_0, a2_1, a2_2⟩ : S50), (⟨a1_0, a1_1, a1_2⟩ : S50)] : List (S50)))).bind fun bt710 => (if bt686.2.2.2.2.2.2.2.2.2 = true then (if bt710.2.2.2.2.2.2.2.2.2 = true then ((spec_ChangedGames.f k bt686.1 bt686.2.1 bt686.2.2.1 bt686.2.2.2.1 bt686.2.2.2.2.1 bt686.2.2.2.2.2.1 bt686.2.2.2.2.2.2.1 bt686.2.2.2.2.2.2.2.1 bt686.2.2.2.2.2.2.2.2.1 bt710.1 bt710.2.1 bt710.2.2.1 bt710.2.2.2.1 bt710.2.2.2.2.1 bt710.2.2.2.2.2.1 bt710.2.2.2.2.2.2.1 bt710.2.2.2.2.2.2.2.1 bt710.2.2.2.2.2.2.2.2.1).bind fun t731 => (some (decide ((t731.length : Int) > 0)))) else (some false)) else (some false)))) = some r := h
 clear h
 obtain ⟨y683, hy683⟩ : ∃ y_ : List (S50), y_ = (([(⟨a1_0, a1_1, a1_2⟩ : S50), (⟨a2_0, a2_1, a2_2⟩ : S50)] : List (S50))) := ⟨_, rfl⟩
 replace H : ((spec_Decide.f k l0_0 a0_1 a0_2 a0_3 l0_4 a0_5 l0_6 l0_7 l0_8 y683).bind fun bt686 => ((spec_Decide.f k l0_0 a0_1 a0_2 a0_3 l0_4 a0_5 l0_6 l0_7 l0_8 (([(⟨a2_0, a2_1, a2_2⟩ : S50), (⟨a1_0, a1_1, a1_2⟩ : S50)] : List (S50)))).bind fun bt710 => (if bt686.2.2.2.2.2.2.2.2.2 = true then (if bt710.2.2.2.2.2.2.2.2.2 = true then ((spec_ChangedGames.f k bt686.1 bt686.2.1 bt686.2.2.1 bt686.2.2.2.1 bt686.2.2.2.2.1 bt686.2.2.2.2.2.1 bt686.2.2.2.2.2.2.1 bt686.2.2.2.2.2.2.2.1 bt686.2.2.2.2.2.2.2.2.1 bt710.1 bt710.2.1 bt710.2.2.1 bt710.2.2.2.1 bt710.2.2.2.2.1 bt710.2.2.2.2.2.1 bt710.2.2.2.2.2.2.1 bt710.2.2.2.2.2.2.2.1 bt710.2.2.2.2.2.2.2.2.1).bind fun t731 => (some (decide ((t731.length : Int) > 0)))) else (some false)) else (some false)))) = some r := by first | (rw [hy683]; with_reducible exact H) | (have H2_ := (Option.bind_some _ _).symm.trans H; rw [hy683]; with_reducible exact H2_) | (have H2_ := (Option.bind_some _ _).symm.trans H; with_reducible exact H2_) | with_reducible exact H | (rw [hy683]; exact H) | exact H
 have Ny683 := Aside0.mk hy683
 clear hy683
 replace H := Option.bind_eq_some_iff.mp H
 obtain ⟨⟨t686, t689, t690, t691, t692, t695, t696, t699, t702, t705⟩, A40, H⟩ := H
 try dsimp only at H
 have A4 := Aside0.mk A40
 clear A40
 obtain ⟨y707, hy707⟩ : ∃ y_ : List (S50), y_ = (([(⟨a2_0, a2_1, a2_2⟩ : S50), (⟨a1_0, a1_1, a1_2⟩ : S50)] : List (S50))) := ⟨_, rfl⟩
 replace H : ((spec_Decide.f k l0_0 a0_1 a0_2 a0_3 l0_4 a0_5 l0_6 l0_7 l0_8 y707).bind fun bt710 => (if t705 = true then (if bt710.2.2.2.2.2.2.2.2.2 = true then ((spec_ChangedGames.f k t686 t689 t690 t691 t692 t695 t696 t699 t702 bt710.1 bt710.2.1 bt710.2.2.1 bt710.2.2.2.1 bt710.2.2.2.2.1 bt710.2.2.2.2.2.1 bt710.2.2.2.2.2.2.1 bt710.2.2.2.2.2.2.2.1 bt710.2.2.2.2.2.2.2.2.1).bind fun t731 => (some (decide ((t731.length : Int) > 0)))) else (some false)) else (some false))) = some r := by first | (rw [hy707]; with_reducible exact H) | (have H2_ := (Option.bind_some _ _).symm.trans H; rw [hy707]; with_reducible exact H2_) | (have H2_ := (Option.bind_some _ _).symm.trans H; with_reducible exact H2_) | with_reducible exact H | (rw [hy707]; exact H) | exact H
 have Ny707 := Aside0.mk hy707
 clear hy707
 replace H := Option.bind_eq_some_iff.mp H
 obtain ⟨⟨t710, t713, t714, t715, t716, t719, t720, t723, t726, t729⟩, A50, H⟩ := H
 try dsimp only at H
 have A5 := Aside0.mk A50
 clear A50
 by_cases c6 : t705 = true
 ·subst c6
  rw [if_pos rfl] at H
  by_cases c7 : t729 = true
  ·subst c7
   rw [if_pos rfl] at H
   replace H := Option.bind_eq_some_iff.mp H
   obtain ⟨t731, A80, H⟩ := H
   try dsimp only at H
   have A8 := Aside0.mk A80
   clear A80
   obtain rfl := Option.some.inj H
   go_enter Try.func21, Try.ntmps21
   go_wp2_with (first | ((with_reducible refine gate_dst (N := 3) rfl ?_); (try (refine gate_guard (by rfl) ?_; dsimp only)); refine bx (N := 3) (cs := #[.slice A0_0 l0_0.length c0_0, .int .i64 a0_1, .int .i64 a0_2, .int .i64 a0_3, .slice A0_4 l0_4.length c0_4, .bool a0_5, .slice A0_6 l0_6.length c0_6, .slice A0_7 l0_7.length c0_7, .slice A0_8 l0_8.length c0_8]) (t := 36) ?_; intro gb680 hg w9 hbox hb; have BK680 := Aside0.mk (hbox); have GW680 := gs hg HB; have GE680 := gs hg HB; replace HB := hs_ HB hb; clear hb hbox hg) | ((with_reducible refine gate_dst (N := 4) rfl ?_); (try (refine gate_guard (by rfl) ?_; dsimp only)); refine bx (N := 4) (cs := #[.int .i64 a1_0, .int .i64 a1_1, .bool a1_2]) (t := 50) ?_; intro gb681 hg w10 hbox hb; have BK681 := Aside0.mk (hbox); have GW681 := gs hg HB; have GE681 := gs hg HB; replace HB := hs_ HB hb; have NB680_681 := gn hg BK680; have NB681_680 := gm hg BK680; replace BK680 := kb BK680 hb; clear hb hbox hg) | ((with_reducible refine gate_dst (N := 5) rfl ?_); (try (refine gate_guard (by rfl) ?_; dsimp only)); refine bx (N := 5) (cs := #[.int .i64 a2_0, .int .i64 a2_1, .bool a2_2]) (t := 50) ?_; intro gb682 hg w11 hbox hb; have BK682 := Aside0.mk (hbox); have GW682 := gs hg HB; have GE682 := gs hg HB; replace HB := hs_ HB hb; have NB680_682 := gn hg BK680; have NB682_680 := gm hg BK680; replace BK680 := kb BK680 hb; have NB681_682 := gn hg BK681; have NB682_681 := gm hg BK681; replace BK681 := kb BK681 hb; clear hb hbox hg; have hnb12 := NB680_681.out; have hnc12 := NB681_680.out; have hnb13 := NB680_682.out; have hnc13 := NB682_680.out; have ⟨z14_0, z14_1, z14_2, z14_3, z14_4, z14_5, z14_6, z14_7, z14_8, v14_0, v14_1, v14_2, v14_3, v14_4, v14_5, v14_6, v14_7, v14_8⟩ := rz9 BK680; have hnb15 := NB681_682.out; have hnc15 := NB682_681.out; have ⟨z16_0, z16_1, z16_2, v16_0, v16_1, v16_2⟩ := rz3 BK681; have ⟨z17_0, z17_1, z17_2, v17_0, v17_1, v17_2⟩ := rz3 BK682) | ((with_reducible refine gate_dst (N := 15) rfl ?_); (try (refine gate_guard (by rfl) ?_; dsimp only)); refine Kd.R_lit k50 _ 50 ?hg (N := 15) ?hd (xs := ([(⟨a1_0, a1_1, a1_2⟩ : S50), (⟨a2_0, a2_1, a2_2⟩ : S50)] : List (S50))) (inner := [.int .i64 a1_0, .int .i64 a1_1, .bool a1_2, .int .i64 a2_0, .int .i64 a2_1, .bool a2_2]) (ok := fun _ => True) (okp := fun _ => True) ?hr ?hp (fun _ hk => hk) trivial (Below.refl _ _) (Nat.le_refl _) (by simp) ?_; (case hd => rfl); (case hg => rfl); (case hr => first | (go_simp; done) | (go_simp; rfl)); (case hp => exact (Reps.c3 (show Kd.M k50 _ _ _ (⟨a1_0, a1_1, a1_2⟩ : S50) [.int .i64 a1_0, .int .i64 a1_1, .bool a1_2] from (k50_mkM _ _ _ (⟨a1_0, a1_1, a1_2⟩ : S50) )) (Reps.c3 (show Kd.M k50 _ _ _ (⟨a2_0, a2_1, a2_2⟩ : S50) [.int .i64 a2_0, .int .i64 a2_1, .bool a2_2] from (k50_mkM _ _ _ (⟨a2_0, a2_1, a2_2⟩ : S50) )) (Reps.none _ _)))); intro v684 w18 ho19 hb hg_ hnew_; clear hg_ hnew_; (first | rw [← Ny683.out] at ho19 | (simp only [Int.reduceToNat] at ho19; rw [← Ny683.out] at ho19)); have HO685 := Aside0.mk (Kd.R_lower (Kd.R_newB (Kd.R_newB ho19 (g := gb681) (o := .cells #[.int .i64 a1_0, .int .i64 a1_1, .bool a1_2] 50 (0, 0)) (bk BK681)) (g := gb682) (o := .cells #[.int .i64 a2_0, .int .i64 a2_1, .bool a2_2] 50 (0, 0)) (bk BK682)) (below_size (bb HB))); replace BK680 := kb BK680 hb; replace BK681 := kb BK681 hb; replace BK682 := kb BK682 hb; replace HB := hs_ HB hb; clear hb ho19; obtain ⟨Ao20, co20, eo20⟩ := Kd.R_slice HO685.out; subst eo20) | ((with_reducible refine gate_callee (f := 12) rfl ?_); refine gl (some 16) Try.func12 #[.agg #[.slice A0_0 l0_0.length c0_0, .int .i64 a0_1, .int .i64 a0_2, .int .i64 a0_3, .slice A0_4 l0_4.length c0_4, .bool a0_5, .slice A0_6 l0_6.length c0_6, .slice A0_7 l0_7.length c0_7, .slice A0_8 l0_8.length c0_8], .slice Ao20 y683.length co20] ?_; (with_reducible refine (spec_Decide.calls k _ _ l0_0 a0_1 a0_2 a0_3 _ _ l0_4 a0_5 _ _ l0_6 _ _ l0_7 _ _ l0_8 _ _ y683 t686 t689 t690 t691 t692 t695 t696 t699 t702 true _ ?side1 ?side2 ?side3 ?side4 ?side5 ?side6 ?side7 ?side8 ?side9 ?side10 ?side11 ?side12 A4.out).mono ?_); (case side1 => exact cc HR0_0 HB); (case side2 => exact HC0_0.out); (case side3 => exact cc HR0_4 HB); (case side4 => exact HC0_4.out); (case side5 => exact cc HR0_6 HB); (case side6 => exact HC0_6.out); (case side7 => exact cc HR0_7 HB); (case side8 => exact HC0_7.out); (case side9 => exact cc HR0_8 HB); (case side10 => exact HC0_8.out); (case side11 => exact cr HO685); (case side12 => exact cl HO685); rintro e w21 ⟨v687, v693, v697, v700, v703, rfl, ho0, ho1, ho2, ho3, ho4, hb⟩; refine ⟨_, rfl, ?_⟩; replace HO685 := kr HO685 hb; have HO688 := kl ho0 HB; have HO694 := kl ho1 HB; have HO698 := kl ho2 HB; have HO701 := kl ho3 HB; have HO704 := kl ho4 HB; replace BK680 := kb BK680 hb; replace BK681 := kb BK681 hb; replace BK682 := kb BK682 hb; replace HB := hs_ HB hb; (try clear hb hb2 hk hi ho0 ho1 ho2 ho3 ho4)) | ((with_reducible refine gate_dst (N := 7) rfl ?_); (try (refine gate_guard (by rfl) ?_; dsimp only)); refine bx (N := 7) (cs := #[.slice none 0 0, .int .i64 0, .int .i64 0, .int .i64 0, .slice none 0 0, .bool false, .slice none 0 0, .slice none 0 0, .slice none 0 0]) (t := 36) ?_; intro gb706 hg w22 hbox hb; replace HO685 := kr HO685 hb; replace HO688 := kr HO688 hb; replace HO694 := kr HO694 hb; replace HO698 := kr HO698 hb; replace HO701 := kr HO701 hb; replace HO704 := kr HO704 hb; have BK706 := Aside0.mk (hbox); have GW706 := gs hg HB; have GE706 := gs hg HB; replace HB := hs_ HB hb; have NB680_706 := gn hg BK680; have NB706_680 := gm hg BK680; replace BK680 := kb BK680 hb; have NB681_706 := gn hg BK681; have NB706_681 := gm hg BK681; replace BK681 := kb BK681 hb; have NB682_706 := gn hg BK682; have NB706_682 := gm hg BK682; replace BK682 := kb BK682 hb; clear hb hbox hg; obtain ⟨Ao23, co23, eo23⟩ := Kd.R_slice HO688.out; subst eo23; have hnb24 := NB706_680.out; have hnc24 := NB680_706.out; have hnb25 := NB706_681.out; have hnc25 := NB681_706.out; have hnb26 := NB706_682.out; have hnc26 := NB682_706.out; have ⟨z27_0, z27_1, z27_2, z27_3, z27_4, z27_5, z27_6, z27_7, z27_8, v27_0, v27_1, v27_2, v27_3, v27_4, v27_5, v27_6, v27_7, v27_8⟩ := rz9 BK706; obtain ⟨Ao28, co28, eo28⟩ := Kd.R_slice HO694.out; subst eo28; obtain ⟨Ao29, co29, eo29⟩ := Kd.R_slice HO698.out; subst eo29; obtain ⟨Ao30, co30, eo30⟩ := Kd.R_slice HO701.out; subst eo30; obtain ⟨Ao31, co31, eo31⟩ := Kd.R_slice HO704.out; subst eo31; have ⟨z32_0, z32_1, z32_2, z32_3, z32_4, z32_5, z32_6, z32_7, z32_8, v32_0, v32_1, v32_2, v32_3, v32_4, v32_5, v32_6, v32_7, v32_8⟩ := rz9 BK680; have ⟨z33_0, z33_1, z33_2, v33_0, v33_1, v33_2⟩ := rz3 BK682; have ⟨z34_0, z34_1, z34_2, v34_0, v34_1, v34_2⟩ := rz3 BK681) | ((with_reducible refine gate_dst (N := 23) rfl ?_); (try (refine gate_guard (by rfl) ?_; dsimp only)); refine Kd.R_lit k50 _ 50 ?hg (N := 23) ?hd (xs := ([(⟨a2_0, a2_1, a2_2⟩ : S50), (⟨a1_0, a1_1, a1_2⟩ : S50)] : List (S50))) (inner := [.int .i64 a2_0, .int .i64 a2_1, .bool a2_2, .int .i64 a1_0, .int .i64 a1_1, .bool a1_2]) (ok := fun _ => True) (okp := fun _ => True) ?hr ?hp (fun _ hk => hk) trivial (Below.refl _ _) (Nat.le_refl _) (by simp) ?_; (case hd => rfl); (case hg => rfl); (case hr => first | (go_simp; done) | (go_simp; rfl)); (case hp => exact (Reps.c3 (show Kd.M k50 _ _ _ (⟨a2_0, a2_1, a2_2⟩ : S50) [.int .i64 a2_0, .int .i64 a2_1, .bool a2_2] from (k50_mkM _ _ _ (⟨a2_0, a2_1, a2_2⟩ : S50) )) (Reps.c3 (show Kd.M k50 _ _ _ (⟨a1_0, a1_1, a1_2⟩ : S50) [.int .i64 a1_0, .int .i64 a1_1, .bool a1_2] from (k50_mkM _ _ _ (⟨a1_0, a1_1, a1_2⟩ : S50) )) (Reps.none _ _)))); intro v708 w35 ho36 hb hg_ hnew_; clear hg_ hnew_; (first | rw [← Ny707.out] at ho36 | (simp only [Int.reduceToNat] at ho36; rw [← Ny707.out] at ho36)); replace HO688 := kf HO688 BK706 hb; replace HO694 := kf HO694 BK706 hb; replace HO698 := kf HO698 BK706 hb; replace HO701 := kf HO701 BK706 hb; replace HO704 := kf HO704 BK706 hb; have HO709 := Aside0.mk (Kd.R_lower (Kd.R_newB (Kd.R_newB (Kd.R_new' ho36 (Kd.R_lt (rf HO685 BK706 (fun _ h_ => h_.1)))) (g := gb681) (o := .cells #[.int .i64 a1_0, .int .i64 a1_1, .bool a1_2] 50 (0, 0)) (bf NB681_706.out BK681)) (g := gb682) (o := .cells #[.int .i64 a2_0, .int .i64 a2_1, .bool a2_2] 50 (0, 0)) (bf NB682_706.out BK682)) (below_size (bb HB))); replace HO685 := Aside0.mk (Kd.R_elder' (rf HO685 BK706 (fun _ h_ => h_.1)) (Kd.R_base ho36) hb); replace BK680 := Aside0.mk (blk_below (bf NB680_706.out BK680) hb); replace BK681 := Aside0.mk (blk_below (bf NB681_706.out BK681) hb); replace BK682 := Aside0.mk (blk_below (bf NB682_706.out BK682) hb); replace BK706 := Aside0.mk (blk_below (g := gb706) (o := .cells #[.slice Ao23 t686.length co23, .int .i64 t689, .int .i64 t690, .int .i64 t691, .slice Ao28 t692.length co28, .bool t695, .slice Ao29 t696.length co29, .slice Ao30 t699.length co30, .slice Ao31 t702.length co31] 36 (0, 0)) (bp BK706) hb); replace HB := hs_ HB hb; clear hb ho36; obtain ⟨Ao37, co37, eo37⟩ := Kd.R_slice HO709.out; subst eo37) | ((with_reducible refine gate_callee (f := 12) rfl ?_); refine gl (some 24) Try.func12 #[.agg #[.slice A0_0 l0_0.length c0_0, .int .i64 a0_1, .int .i64 a0_2, .int .i64 a0_3, .slice A0_4 l0_4.length c0_4, .bool a0_5, .slice A0_6 l0_6.length c0_6, .slice A0_7 l0_7.length c0_7, .slice A0_8 l0_8.length c0_8], .slice Ao37 y707.length co37] ?_; (with_reducible refine (spec_Decide.calls k _ _ l0_0 a0_1 a0_2 a0_3 _ _ l0_4 a0_5 _ _ l0_6 _ _ l0_7 _ _ l0_8 _ _ y707 t710 t713 t714 t715 t716 t719 t720 t723 t726 true _ ?side1 ?side2 ?side3 ?side4 ?side5 ?side6 ?side7 ?side8 ?side9 ?side10 ?side11 ?side12 A5.out).mono ?_); (case side1 => exact cc HR0_0 HB); (case side2 => exact HC0_0.out); (case side3 => exact cc HR0_4 HB); (case side4 => exact HC0_4.out); (case side5 => exact cc HR0_6 HB); (case side6 => exact HC0_6.out); (case side7 => exact cc HR0_7 HB); (case side8 => exact HC0_7.out); (case side9 => exact cc HR0_8 HB); (case side10 => exact HC0_8.out); (case side11 => exact cr HO709); (case side12 => exact cl HO709); rintro e w38 ⟨v711, v717, v721, v724, v727, rfl, ho0, ho1, ho2, ho3, ho4, hb⟩; refine ⟨_, rfl, ?_⟩; replace HO685 := kr HO685 hb; replace HO709 := kr HO709 hb; have HO712 := Aside0.mk (Kd.R_lower (Kd.R_new' ho0 (rt HO688)) (below_size (bb HB))); replace HO688 := ke HO688 ho0 hb; have HO718 := Aside0.mk (Kd.R_lower (Kd.R_new' (Kd.R_new' (Kd.R_new' ho1 (rt HO694)) (rt HO701)) (rt HO704)) (below_size (bb HB))); have HO722 := Aside0.mk (Kd.R_lower (Kd.R_new' ho2 (rt HO698)) (below_size (bb HB))); replace HO698 := ke HO698 ho2 hb; have HO725 := Aside0.mk (Kd.R_lower (Kd.R_new' (Kd.R_new' (Kd.R_new' ho3 (rt HO694)) (rt HO701)) (rt HO704)) (below_size (bb HB))); have HO728 := Aside0.mk (Kd.R_lower (Kd.R_new' (Kd.R_new' (Kd.R_new' ho4 (rt HO694)) (rt HO701)) (rt HO704)) (below_size (bb HB))); replace HO694 := Aside0.mk (Kd.R_mono (Kd.R_told (Kd.R_told (Kd.R_told (Kd.R_old (rr HO694) hb) (Kd.R_base ho1)) (Kd.R_base ho3)) (Kd.R_base ho4)) (fun _ h_ => h_.1)); replace HO701 := Aside0.mk (Kd.R_mono (Kd.R_told (Kd.R_told (Kd.R_told (Kd.R_old (rr HO701) hb) (Kd.R_base ho1)) (Kd.R_base ho3)) (Kd.R_base ho4)) (fun _ h_ => h_.1)); replace HO704 := Aside0.mk (Kd.R_mono (Kd.R_told (Kd.R_told (Kd.R_told (Kd.R_old (rr HO704) hb) (Kd.R_base ho1)) (Kd.R_base ho3)) (Kd.R_base ho4)) (fun _ h_ => h_.1)); replace BK680 := kb BK680 hb; replace BK681 := kb BK681 hb; replace BK682 := kb BK682 hb; replace BK706 := kb BK706 hb; replace HB := hs_ HB hb; (try clear hb hb2 hk hi ho0 ho1 ho2 ho3 ho4)) | ((with_reducible refine gate_dst (N := 9) rfl ?_); (try (refine gate_guard (by rfl) ?_; dsimp only)); refine bx (N := 9) (cs := #[.slice none 0 0, .int .i64 0, .int .i64 0, .int .i64 0, .slice none 0 0, .bool false, .slice none 0 0, .slice none 0 0, .slice none 0 0]) (t := 36) ?_; intro gb730 hg w39 hbox hb; replace HO685 := kr HO685 hb; replace HO688 := kr HO688 hb; replace HO694 := kr HO694 hb; replace HO698 := kr HO698 hb; replace HO701 := kr HO701 hb; replace HO704 := kr HO704 hb; replace HO709 := kr HO709 hb; replace HO712 := kr HO712 hb; replace HO718 := kr HO718 hb; replace HO722 := kr HO722 hb; replace HO725 := kr HO725 hb; replace HO728 := kr HO728 hb; have BK730 := Aside0.mk (hbox); have GW730 := gs hg HB; have GE730 := gs hg HB; replace HB := hs_ HB hb; have NB680_730 := gn hg BK680; have NB730_680 := gm hg BK680; replace BK680 := kb BK680 hb; have NB681_730 := gn hg BK681; have NB730_681 := gm hg BK681; replace BK681 := kb BK681 hb; have NB682_730 := gn hg BK682; have NB730_682 := gm hg BK682; replace BK682 := kb BK682 hb; have NB706_730 := gn hg BK706; have NB730_706 := gm hg BK706; replace BK706 := kb BK706 hb; clear hb hbox hg; obtain ⟨Ao40, co40, eo40⟩ := Kd.R_slice HO712.out; subst eo40; have hnb41 := NB730_680.out; have hnc41 := NB680_730.out; have hnb42 := NB730_681.out; have hnc42 := NB681_730.out; have hnb43 := NB730_682.out; have hnc43 := NB682_730.out; have hnb44 := NB730_706.out; have hnc44 := NB706_730.out; have ⟨z45_0, z45_1, z45_2, z45_3, z45_4, z45_5, z45_6, z45_7, z45_8, v45_0, v45_1, v45_2, v45_3, v45_4, v45_5, v45_6, v45_7, v45_8⟩ := rz9 BK730; obtain ⟨Ao46, co46, eo46⟩ := Kd.R_slice HO718.out; subst eo46; obtain ⟨Ao47, co47, eo47⟩ := Kd.R_slice HO722.out; subst eo47; obtain ⟨Ao48, co48, eo48⟩ := Kd.R_slice HO725.out; subst eo48; obtain ⟨Ao49, co49, eo49⟩ := Kd.R_slice HO728.out; subst eo49; have ⟨z50_0, z50_1, z50_2, z50_3, z50_4, z50_5, z50_6, z50_7, z50_8, v50_0, v50_1, v50_2, v50_3, v50_4, v50_5, v50_6, v50_7, v50_8⟩ := rz9 BK706) | (go_at_call 74; (with_reducible refine (spec_ChangedGames.calls k _ _ t686 t689 t690 t691 _ _ t692 t695 _ _ t696 _ _ t699 _ _ t702 _ _ t710 t713 t714 t715 _ _ t716 t719 _ _ t720 _ _ t723 _ _ t726 t731 _ ?side1 ?side2 ?side3 ?side4 ?side5 ?side6 ?side7 ?side8 ?side9 ?side10 ?side11 ?side12 ?side13 ?side14 ?side15 ?side16 ?side17 ?side18 ?side19 ?side20 A8.out).mono ?_); (case side1 => exact cf HO688 BK730); (case side2 => exact cl HO688); (case side3 => exact cf HO694 BK730); (case side4 => exact cl HO694); (case side5 => exact cf HO698 BK730); (case side6 => exact cl HO698); (case side7 => exact cf HO701 BK730); (case side8 => exact cl HO701); (case side9 => exact cf HO704 BK730); (case side10 => exact cl HO704); (case side11 => exact cf HO712 BK730); (case side12 => exact cl HO712); (case side13 => exact cf HO718 BK730); (case side14 => exact cl HO718); (case side15 => exact cf HO722 BK730); (case side16 => exact cl HO722); (case side17 => exact cf HO725 BK730); (case side18 => exact cl HO725); (case side19 => exact cf HO728 BK730); (case side20 => exact cl HO728); rintro e w51 ⟨v732, rfl, ho0, hb⟩; replace HO685 := kf HO685 BK730 hb; replace HO688 := kf HO688 BK730 hb; replace HO698 := kf HO698 BK730 hb; replace HO709 := kf HO709 BK730 hb; replace HO712 := kf HO712 BK730 hb; replace HO722 := kf HO722 BK730 hb; have HO733 := Aside0.mk (Kd.R_lower (Kd.R_new' (Kd.R_new' (Kd.R_new' (Kd.R_new' (Kd.R_new' (Kd.R_new' ho0 (Kd.R_lt (rf HO694 BK730 (fun _ h_ => h_.1)))) (Kd.R_lt (rf HO701 BK730 (fun _ h_ => h_.1)))) (Kd.R_lt (rf HO704 BK730 (fun _ h_ => h_.1)))) (Kd.R_lt (rf HO718 BK730 (fun _ h_ => h_.1)))) (Kd.R_lt (rf HO725 BK730 (fun _ h_ => h_.1)))) (Kd.R_lt (rf HO728 BK730 (fun _ h_ => h_.1)))) (below_size (bb HB))); replace HO694 := Aside0.mk (Kd.R_elder' (rf HO694 BK730 (fun _ h_ => h_.1)) (Kd.R_base ho0) hb); replace HO701 := Aside0.mk (Kd.R_elder' (rf HO701 BK730 (fun _ h_ => h_.1)) (Kd.R_base ho0) hb); replace HO704 := Aside0.mk (Kd.R_elder' (rf HO704 BK730 (fun _ h_ => h_.1)) (Kd.R_base ho0) hb); replace HO718 := Aside0.mk (Kd.R_elder' (rf HO718 BK730 (fun _ h_ => h_.1)) (Kd.R_base ho0) hb); replace HO725 := Aside0.mk (Kd.R_elder' (rf HO725 BK730 (fun _ h_ => h_.1)) (Kd.R_base ho0) hb); replace HO728 := Aside0.mk (Kd.R_elder' (rf HO728 BK730 (fun _ h_ => h_.1)) (Kd.R_base ho0) hb); replace BK680 := Aside0.mk (blk_below (bf NB680_730.out BK680) hb); replace BK681 := Aside0.mk (blk_below (bf NB681_730.out BK681) hb); replace BK682 := Aside0.mk (blk_below (bf NB682_730.out BK682) hb); replace BK706 := Aside0.mk (blk_below (bf NB706_730.out BK706) hb); replace BK730 := Aside0.mk (blk_below (g := gb730) (o := .cells #[.slice Ao40 t710.length co40, .int .i64 t713, .int .i64 t714, .int .i64 t715, .slice Ao46 t716.length co46, .bool t719, .slice Ao47 t720.length co47, .slice Ao48 t723.length co48, .slice Ao49 t726.length co49] 36 (0, 0)) (bp BK730) hb); replace HB := hs_ HB hb; (try clear hb hb2 hk hi ho0); obtain ⟨Ao52, co52, eo52⟩ := Kd.R_slice HO733.out; subst eo52))
   go_ret
   exact ⟨ee, bb HB⟩
  ·replace c7 := Bool.eq_false_iff.mpr c7
   subst c7
   rw [if_neg (show ¬ (false = true) by decide)] at H
   obtain rfl := Option.some.inj H
   go_enter Try.func21, Try.ntmps21
   go_wp2_with (first | ((with_reducible refine gate_dst (N := 3) rfl ?_); (try (refine gate_guard (by rfl) ?_; dsimp only)); refine bx (N := 3) (cs := #[.slice A0_0 l0_0.length c0_0, .int .i64 a0_1, .int .i64 a0_2, .int .i64 a0_3, .slice A0_4 l0_4.length c0_4, .bool a0_5, .slice A0_6 l0_6.length c0_6, .slice A0_7 l0_7.length c0_7, .slice A0_8 l0_8.length c0_8]) (t := 36) ?_; intro gb680 hg w53 hbox hb; have BK680 := Aside0.mk (hbox); have GW680 := gs hg HB; have GE680 := gs hg HB; replace HB := hs_ HB hb; clear hb hbox hg) | ((with_reducible refine gate_dst (N := 4) rfl ?_); (try (refine gate_guard (by rfl) ?_; dsimp only)); refine bx (N := 4) (cs := #[.int .i64 a1_0, .int .i64 a1_1, .bool a1_2]) (t := 50) ?_; intro gb681 hg w54 hbox hb; have BK681 := Aside0.mk (hbox); have GW681 := gs hg HB; have GE681 := gs hg HB; replace HB := hs_ HB hb; have NB680_681 := gn hg BK680; have NB681_680 := gm hg BK680; replace BK680 := kb BK680 hb; clear hb hbox hg) | ((with_reducible refine gate_dst (N := 5) rfl ?_); (try (refine gate_guard (by rfl) ?_; dsimp only)); refine bx (N := 5) (cs := #[.int .i64 a2_0, .int .i64 a2_1, .bool a2_2]) (t := 50) ?_; intro gb682 hg w55 hbox hb; have BK682 := Aside0.mk (hbox); have GW682 := gs hg HB; have GE682 := gs hg HB; replace HB := hs_ HB hb; have NB680_682 := gn hg BK680; have NB682_680 := gm hg BK680; replace BK680 := kb BK680 hb; have NB681_682 := gn hg BK681; have NB682_681 := gm hg BK681; replace BK681 := kb BK681 hb; clear hb hbox hg; have hnb56 := NB680_681.out; have hnc56 := NB681_680.out; have hnb57 := NB680_682.out; have hnc57 := NB682_680.out; have ⟨z58_0, z58_1, z58_2, z58_3, z58_4, z58_5, z58_6, z58_7, z58_8, v58_0, v58_1, v58_2, v58_3, v58_4, v58_5, v58_6, v58_7, v58_8⟩ := rz9 BK680; have hnb59 := NB681_682.out; have hnc59 := NB682_681.out; have ⟨z60_0, z60_1, z60_2, v60_0, v60_1, v60_2⟩ := rz3 BK681; have ⟨z61_0, z61_1, z61_2, v61_0, v61_1, v61_2⟩ := rz3 BK682) | ((with_reducible refine gate_dst (N := 15) rfl ?_); (try (refine gate_guard (by rfl) ?_; dsimp only)); refine Kd.R_lit k50 _ 50 ?hg (N := 15) ?hd (xs := ([(⟨a1_0, a1_1, a1_2⟩ : S50), (⟨a2_0, a2_1, a2_2⟩ : S50)] : List (S50))) (inner := [.int .i64 a1_0, .int .i64 a1_1, .bool a1_2, .int .i64 a2_0, .int .i64 a2_1, .bool a2_2]) (ok := fun _ => True) (okp := fun _ => True) ?hr ?hp (fun _ hk => hk) trivial (Below.refl _ _) (Nat.le_refl _) (by simp) ?_; (case hd => rfl); (case hg => rfl); (case hr => first | (go_simp; done) | (go_simp; rfl)); (case hp => exact (Reps.c3 (show Kd.M k50 _ _ _ (⟨a1_0, a1_1, a1_2⟩ : S50) [.int .i64 a1_0, .int .i64 a1_1, .bool a1_2] from (k50_mkM _ _ _ (⟨a1_0, a1_1, a1_2⟩ : S50) )) (Reps.c3 (show Kd.M k50 _ _ _ (⟨a2_0, a2_1, a2_2⟩ : S50) [.int .i64 a2_0, .int .i64 a2_1, .bool a2_2] from (k50_mkM _ _ _ (⟨a2_0, a2_1, a2_2⟩ : S50) )) (Reps.none _ _)))); intro v684 w62 ho63 hb hg_ hnew_; clear hg_ hnew_; (first | rw [← Ny683.out] at ho63 | (simp only [Int.reduceToNat] at ho63; rw [← Ny683.out] at ho63)); have HO685 := Aside0.mk (Kd.R_lower (Kd.R_newB (Kd.R_newB ho63 (g := gb681) (o := .cells #[.int .i64 a1_0, .int .i64 a1_1, .bool a1_2] 50 (0, 0)) (bk BK681)) (g := gb682) (o := .cells #[.int .i64 a2_0, .int .i64 a2_1, .bool a2_2] 50 (0, 0)) (bk BK682)) (below_size (bb HB))); replace BK680 := kb BK680 hb; replace BK681 := kb BK681 hb; replace BK682 := kb BK682 hb; replace HB := hs_ HB hb; clear hb ho63; obtain ⟨Ao64, co64, eo64⟩ := Kd.R_slice HO685.out; subst eo64) | ((with_reducible refine gate_callee (f := 12) rfl ?_); refine gl (some 16) Try.func12 #[.agg #[.slice A0_0 l0_0.length c0_0, .int .i64 a0_1, .int .i64 a0_2, .int .i64 a0_3, .slice A0_4 l0_4.length c0_4, .bool a0_5, .slice A0_6 l0_6.length c0_6, .slice A0_7 l0_7.length c0_7, .slice A0_8 l0_8.length c0_8], .slice Ao64 y683.length co64] ?_; (with_reducible refine (spec_Decide.calls k _ _ l0_0 a0_1 a0_2 a0_3 _ _ l0_4 a0_5 _ _ l0_6 _ _ l0_7 _ _ l0_8 _ _ y683 t686 t689 t690 t691 t692 t695 t696 t699 t702 true _ ?side1 ?side2 ?side3 ?side4 ?side5 ?side6 ?side7 ?side8 ?side9 ?side10 ?side11 ?side12 A4.out).mono ?_); (case side1 => exact cc HR0_0 HB); (case side2 => exact HC0_0.out); (case side3 => exact cc HR0_4 HB); (case side4 => exact HC0_4.out); (case side5 => exact cc HR0_6 HB); (case side6 => exact HC0_6.out); (case side7 => exact cc HR0_7 HB); (case side8 => exact HC0_7.out); (case side9 => exact cc HR0_8 HB); (case side10 => exact HC0_8.out); (case side11 => exact cr HO685); (case side12 => exact cl HO685); rintro e w65 ⟨v687, v693, v697, v700, v703, rfl, ho0, ho1, ho2, ho3, ho4, hb⟩; refine ⟨_, rfl, ?_⟩; replace HO685 := kr HO685 hb; have HO688 := kl ho0 HB; have HO694 := kl ho1 HB; have HO698 := kl ho2 HB; have HO701 := kl ho3 HB; have HO704 := kl ho4 HB; replace BK680 := kb BK680 hb; replace BK681 := kb BK681 hb; replace BK682 := kb BK682 hb; replace HB := hs_ HB hb; (try clear hb hb2 hk hi ho0 ho1 ho2 ho3 ho4)) | ((with_reducible refine gate_dst (N := 7) rfl ?_); (try (refine gate_guard (by rfl) ?_; dsimp only)); refine bx (N := 7) (cs := #[.slice none 0 0, .int .i64 0, .int .i64 0, .int .i64 0, .slice none 0 0, .bool false, .slice none 0 0, .slice none 0 0, .slice none 0 0]) (t := 36) ?_; intro gb706 hg w66 hbox hb; replace HO685 := kr HO685 hb; replace HO688 := kr HO688 hb; replace HO694 := kr HO694 hb; replace HO698 := kr HO698 hb; replace HO701 := kr HO701 hb; replace HO704 := kr HO704 hb; have BK706 := Aside0.mk (hbox); have GW706 := gs hg HB; have GE706 := gs hg HB; replace HB := hs_ HB hb; have NB680_706 := gn hg BK680; have NB706_680 := gm hg BK680; replace BK680 := kb BK680 hb; have NB681_706 := gn hg BK681; have NB706_681 := gm hg BK681; replace BK681 := kb BK681 hb; have NB682_706 := gn hg BK682; have NB706_682 := gm hg BK682; replace BK682 := kb BK682 hb; clear hb hbox hg; obtain ⟨Ao67, co67, eo67⟩ := Kd.R_slice HO688.out; subst eo67; have hnb68 := NB706_680.out; have hnc68 := NB680_706.out; have hnb69 := NB706_681.out; have hnc69 := NB681_706.out; have hnb70 := NB706_682.out; have hnc70 := NB682_706.out; have ⟨z71_0, z71_1, z71_2, z71_3, z71_4, z71_5, z71_6, z71_7, z71_8, v71_0, v71_1, v71_2, v71_3, v71_4, v71_5, v71_6, v71_7, v71_8⟩ := rz9 BK706; obtain ⟨Ao72, co72, eo72⟩ := Kd.R_slice HO694.out; subst eo72; obtain ⟨Ao73, co73, eo73⟩ := Kd.R_slice HO698.out; subst eo73; obtain ⟨Ao74, co74, eo74⟩ := Kd.R_slice HO701.out; subst eo74; obtain ⟨Ao75, co75, eo75⟩ := Kd.R_slice HO704.out; subst eo75; have ⟨z76_0, z76_1, z76_2, z76_3, z76_4, z76_5, z76_6, z76_7, z76_8, v76_0, v76_1, v76_2, v76_3, v76_4, v76_5, v76_6, v76_7, v76_8⟩ := rz9 BK680; have ⟨z77_0, z77_1, z77_2, v77_0, v77_1, v77_2⟩ := rz3 BK682; have ⟨z78_0, z78_1, z78_2, v78_0, v78_1, v78_2⟩ := rz3 BK681) | ((with_reducible refine gate_dst (N := 23) rfl ?_); (try (refine gate_guard (by rfl) ?_; dsimp only)); refine Kd.R_lit k50 _ 50 ?hg (N := 23) ?hd (xs := ([(⟨a2_0, a2_1, a2_2⟩ : S50), (⟨a1_0, a1_1, a1_2⟩ : S50)] : List (S50))) (inner := [.int .i64 a2_0, .int .i64 a2_1, .bool a2_2, .int .i64 a1_0, .int .i64 a1_1, .bool a1_2]) (ok := fun _ => True) (okp := fun _ => True) ?hr ?hp (fun _ hk => hk) trivial (Below.refl _ _) (Nat.le_refl _) (by simp) ?_; (case hd => rfl); (case hg => rfl); (case hr => first | (go_simp; done) | (go_simp; rfl)); (case hp => exact (Reps.c3 (show Kd.M k50 _ _ _ (⟨a2_0, a2_1, a2_2⟩ : S50) [.int .i64 a2_0, .int .i64 a2_1, .bool a2_2] from (k50_mkM _ _ _ (⟨a2_0, a2_1, a2_2⟩ : S50) )) (Reps.c3 (show Kd.M k50 _ _ _ (⟨a1_0, a1_1, a1_2⟩ : S50) [.int .i64 a1_0, .int .i64 a1_1, .bool a1_2] from (k50_mkM _ _ _ (⟨a1_0, a1_1, a1_2⟩ : S50) )) (Reps.none _ _)))); intro v708 w79 ho80 hb hg_ hnew_; clear hg_ hnew_; (first | rw [← Ny707.out] at ho80 | (simp only [Int.reduceToNat] at ho80; rw [← Ny707.out] at ho80)); replace HO688 := kf HO688 BK706 hb; replace HO694 := kf HO694 BK706 hb; replace HO698 := kf HO698 BK706 hb; replace HO701 := kf HO701 BK706 hb; replace HO704 := kf HO704 BK706 hb; have HO709 := Aside0.mk (Kd.R_lower (Kd.R_newB (Kd.R_newB (Kd.R_new' ho80 (Kd.R_lt (rf HO685 BK706 (fun _ h_ => h_.1)))) (g := gb681) (o := .cells #[.int .i64 a1_0, .int .i64 a1_1, .bool a1_2] 50 (0, 0)) (bf NB681_706.out BK681)) (g := gb682) (o := .cells #[.int .i64 a2_0, .int .i64 a2_1, .bool a2_2] 50 (0, 0)) (bf NB682_706.out BK682)) (below_size (bb HB))); replace HO685 := Aside0.mk (Kd.R_elder' (rf HO685 BK706 (fun _ h_ => h_.1)) (Kd.R_base ho80) hb); replace BK680 := Aside0.mk (blk_below (bf NB680_706.out BK680) hb); replace BK681 := Aside0.mk (blk_below (bf NB681_706.out BK681) hb); replace BK682 := Aside0.mk (blk_below (bf NB682_706.out BK682) hb); replace BK706 := Aside0.mk (blk_below (g := gb706) (o := .cells #[.slice Ao67 t686.length co67, .int .i64 t689, .int .i64 t690, .int .i64 t691, .slice Ao72 t692.length co72, .bool t695, .slice Ao73 t696.length co73, .slice Ao74 t699.length co74, .slice Ao75 t702.length co75] 36 (0, 0)) (bp BK706) hb); replace HB := hs_ HB hb; clear hb ho80; obtain ⟨Ao81, co81, eo81⟩ := Kd.R_slice HO709.out; subst eo81) | ((with_reducible refine gate_callee (f := 12) rfl ?_); refine gl (some 24) Try.func12 #[.agg #[.slice A0_0 l0_0.length c0_0, .int .i64 a0_1, .int .i64 a0_2, .int .i64 a0_3, .slice A0_4 l0_4.length c0_4, .bool a0_5, .slice A0_6 l0_6.length c0_6, .slice A0_7 l0_7.length c0_7, .slice A0_8 l0_8.length c0_8], .slice Ao81 y707.length co81] ?_; (with_reducible refine (spec_Decide.calls k _ _ l0_0 a0_1 a0_2 a0_3 _ _ l0_4 a0_5 _ _ l0_6 _ _ l0_7 _ _ l0_8 _ _ y707 t710 t713 t714 t715 t716 t719 t720 t723 t726 false _ ?side1 ?side2 ?side3 ?side4 ?side5 ?side6 ?side7 ?side8 ?side9 ?side10 ?side11 ?side12 A5.out).mono ?_); (case side1 => exact cc HR0_0 HB); (case side2 => exact HC0_0.out); (case side3 => exact cc HR0_4 HB); (case side4 => exact HC0_4.out); (case side5 => exact cc HR0_6 HB); (case side6 => exact HC0_6.out); (case side7 => exact cc HR0_7 HB); (case side8 => exact HC0_7.out); (case side9 => exact cc HR0_8 HB); (case side10 => exact HC0_8.out); (case side11 => exact cr HO709); (case side12 => exact cl HO709); rintro e w82 ⟨v711, v717, v721, v724, v727, rfl, ho0, ho1, ho2, ho3, ho4, hb⟩; refine ⟨_, rfl, ?_⟩; replace HO685 := kr HO685 hb; replace HO709 := kr HO709 hb; have HO712 := Aside0.mk (Kd.R_lower (Kd.R_new' ho0 (rt HO688)) (below_size (bb HB))); replace HO688 := ke HO688 ho0 hb; have HO718 := Aside0.mk (Kd.R_lower (Kd.R_new' (Kd.R_new' (Kd.R_new' ho1 (rt HO694)) (rt HO701)) (rt HO704)) (below_size (bb HB))); have HO722 := Aside0.mk (Kd.R_lower (Kd.R_new' ho2 (rt HO698)) (below_size (bb HB))); replace HO698 := ke HO698 ho2 hb; have HO725 := Aside0.mk (Kd.R_lower (Kd.R_new' (Kd.R_new' (Kd.R_new' ho3 (rt HO694)) (rt HO701)) (rt HO704)) (below_size (bb HB))); have HO728 := Aside0.mk (Kd.R_lower (Kd.R_new' (Kd.R_new' (Kd.R_new' ho4 (rt HO694)) (rt HO701)) (rt HO704)) (below_size (bb HB))); replace HO694 := Aside0.mk (Kd.R_mono (Kd.R_told (Kd.R_told (Kd.R_told (Kd.R_old (rr HO694) hb) (Kd.R_base ho1)) (Kd.R_base ho3)) (Kd.R_base ho4)) (fun _ h_ => h_.1)); replace HO701 := Aside0.mk (Kd.R_mono (Kd.R_told (Kd.R_told (Kd.R_told (Kd.R_old (rr HO701) hb) (Kd.R_base ho1)) (Kd.R_base ho3)) (Kd.R_base ho4)) (fun _ h_ => h_.1)); replace HO704 := Aside0.mk (Kd.R_mono (Kd.R_told (Kd.R_told (Kd.R_told (Kd.R_old (rr HO704) hb) (Kd.R_base ho1)) (Kd.R_base ho3)) (Kd.R_base ho4)) (fun _ h_ => h_.1)); replace BK680 := kb BK680 hb; replace BK681 := kb BK681 hb; replace BK682 := kb BK682 hb; replace BK706 := kb BK706 hb; replace HB := hs_ HB hb; (try clear hb hb2 hk hi ho0 ho1 ho2 ho3 ho4)) | ((with_reducible refine gate_dst (N := 9) rfl ?_); (try (refine gate_guard (by rfl) ?_; dsimp only)); refine bx (N := 9) (cs := #[.slice none 0 0, .int .i64 0, .int .i64 0, .int .i64 0, .slice none 0 0, .bool false, .slice none 0 0, .slice none 0 0, .slice none 0 0]) (t := 36) ?_; intro gb730 hg w83 hbox hb; replace HO685 := kr HO685 hb; replace HO688 := kr HO688 hb; replace HO694 := kr HO694 hb; replace HO698 := kr HO698 hb; replace HO701 := kr HO701 hb; replace HO704 := kr HO704 hb; replace HO709 := kr HO709 hb; replace HO712 := kr HO712 hb; replace HO718 := kr HO718 hb; replace HO722 := kr HO722 hb; replace HO725 := kr HO725 hb; replace HO728 := kr HO728 hb; have BK730 := Aside0.mk (hbox); have GW730 := gs hg HB; have GE730 := gs hg HB; replace HB := hs_ HB hb; have NB680_730 := gn hg BK680; have NB730_680 := gm hg BK680; replace BK680 := kb BK680 hb; have NB681_730 := gn hg BK681; have NB730_681 := gm hg BK681; replace BK681 := kb BK681 hb; have NB682_730 := gn hg BK682; have NB730_682 := gm hg BK682; replace BK682 := kb BK682 hb; have NB706_730 := gn hg BK706; have NB730_706 := gm hg BK706; replace BK706 := kb BK706 hb; clear hb hbox hg; obtain ⟨Ao84, co84, eo84⟩ := Kd.R_slice HO712.out; subst eo84; have hnb85 := NB730_680.out; have hnc85 := NB680_730.out; have hnb86 := NB730_681.out; have hnc86 := NB681_730.out; have hnb87 := NB730_682.out; have hnc87 := NB682_730.out; have hnb88 := NB730_706.out; have hnc88 := NB706_730.out; have ⟨z89_0, z89_1, z89_2, z89_3, z89_4, z89_5, z89_6, z89_7, z89_8, v89_0, v89_1, v89_2, v89_3, v89_4, v89_5, v89_6, v89_7, v89_8⟩ := rz9 BK730; obtain ⟨Ao90, co90, eo90⟩ := Kd.R_slice HO718.out; subst eo90; obtain ⟨Ao91, co91, eo91⟩ := Kd.R_slice HO722.out; subst eo91; obtain ⟨Ao92, co92, eo92⟩ := Kd.R_slice HO725.out; subst eo92; obtain ⟨Ao93, co93, eo93⟩ := Kd.R_slice HO728.out; subst eo93))
   go_ret
   exact ⟨ee, bb HB⟩
 ·replace c6 := Bool.eq_false_iff.mpr c6
  subst c6
  rw [if_neg (show ¬ (false = true) by decide)] at H
  obtain rfl := Option.some.inj H
  go_enter Try.func21, Try.ntmps21
  go_wp2_with (first | ((with_reducible refine gate_dst (N := 3) rfl ?_); (try (refine gate_guard (by rfl) ?_; dsimp only)); refine bx (N := 3) (cs := #[.slice A0_0 l0_0.length c0_0, .int .i64 a0_1, .int .i64 a0_2, .int .i64 a0_3, .slice A0_4 l0_4.length c0_4, .bool a0_5, .slice A0_6 l0_6.length c0_6, .slice A0_7 l0_7.length c0_7, .slice A0_8 l0_8.length c0_8]) (t := 36) ?_; intro gb680 hg w94 hbox hb; have BK680 := Aside0.mk (hbox); have GW680 := gs hg HB; have GE680 := gs hg HB; replace HB := hs_ HB hb; clear hb hbox hg) | ((with_reducible refine gate_dst (N := 4) rfl ?_); (try (refine gate_guard (by rfl) ?_; dsimp only)); refine bx (N := 4) (cs := #[.int .i64 a1_0, .int .i64 a1_1, .bool a1_2]) (t := 50) ?_; intro gb681 hg w95 hbox hb; have BK681 := Aside0.mk (hbox); have GW681 := gs hg HB; have GE681 := gs hg HB; replace HB := hs_ HB hb; have NB680_681 := gn hg BK680; have NB681_680 := gm hg BK680; replace BK680 := kb BK680 hb; clear hb hbox hg) | ((with_reducible refine gate_dst (N := 5) rfl ?_); (try (refine gate_guard (by rfl) ?_; dsimp only)); refine bx (N := 5) (cs := #[.int .i64 a2_0, .int .i64 a2_1, .bool a2_2]) (t := 50) ?_; intro gb682 hg w96 hbox hb; have BK682 := Aside0.mk (hbox); have GW682 := gs hg HB; have GE682 := gs hg HB; replace HB := hs_ HB hb; have NB680_682 := gn hg BK680; have NB682_680 := gm hg BK680; replace BK680 := kb BK680 hb; have NB681_682 := gn hg BK681; have NB682_681 := gm hg BK681; replace BK681 := kb BK681 hb; clear hb hbox hg; have hnb97 := NB680_681.out; have hnc97 := NB681_680.out; have hnb98 := NB680_682.out; have hnc98 := NB682_680.out; have ⟨z99_0, z99_1, z99_2, z99_3, z99_4, z99_5, z99_6, z99_7, z99_8, v99_0, v99_1, v99_2, v99_3, v99_4, v99_5, v99_6, v99_7, v99_8⟩ := rz9 BK680; have hnb100 := NB681_682.out; have hnc100 := NB682_681.out; have ⟨z101_0, z101_1, z101_2, v101_0, v101_1, v101_2⟩ := rz3 BK681; have ⟨z102_0, z102_1, z102_2, v102_0, v102_1, v102_2⟩ := rz3 BK682) | ((with_reducible refine gate_dst (N := 15) rfl ?_); (try (refine gate_guard (by rfl) ?_; dsimp only)); refine Kd.R_lit k50 _ 50 ?hg (N := 15) ?hd (xs := ([(⟨a1_0, a1_1, a1_2⟩ : S50), (⟨a2_0, a2_1, a2_2⟩ : S50)] : List (S50))) (inner := [.int .i64 a1_0, .int .i64 a1_1, .bool a1_2, .int .i64 a2_0, .int .i64 a2_1, .bool a2_2]) (ok := fun _ => True) (okp := fun _ => True) ?hr ?hp (fun _ hk => hk) trivial (Below.refl _ _) (Nat.le_refl _) (by simp) ?_; (case hd => rfl); (case hg => rfl); (case hr => first | (go_simp; done) | (go_simp; rfl)); (case hp => exact (Reps.c3 (show Kd.M k50 _ _ _ (⟨a1_0, a1_1, a1_2⟩ : S50) [.int .i64 a1_0, .int .i64 a1_1, .bool a1_2] from (k50_mkM _ _ _ (⟨a1_0, a1_1, a1_2⟩ : S50) )) (Reps.c3 (show Kd.M k50 _ _ _ (⟨a2_0, a2_1, a2_2⟩ : S50) [.int .i64 a2_0, .int .i64 a2_1, .bool a2_2] from (k50_mkM _ _ _ (⟨a2_0, a2_1, a2_2⟩ : S50) )) (Reps.none _ _)))); intro v684 w103 ho104 hb hg_ hnew_; clear hg_ hnew_; (first | rw [← Ny683.out] at ho104 | (simp only [Int.reduceToNat] at ho104; rw [← Ny683.out] at ho104)); have HO685 := Aside0.mk (Kd.R_lower (Kd.R_newB (Kd.R_newB ho104 (g := gb681) (o := .cells #[.int .i64 a1_0, .int .i64 a1_1, .bool a1_2] 50 (0, 0)) (bk BK681)) (g := gb682) (o := .cells #[.int .i64 a2_0, .int .i64 a2_1, .bool a2_2] 50 (0, 0)) (bk BK682)) (below_size (bb HB))); replace BK680 := kb BK680 hb; replace BK681 := kb BK681 hb; replace BK682 := kb BK682 hb; replace HB := hs_ HB hb; clear hb ho104; obtain ⟨Ao105, co105, eo105⟩ := Kd.R_slice HO685.out; subst eo105) | ((with_reducible refine gate_callee (f := 12) rfl ?_); refine gl (some 16) Try.func12 #[.agg #[.slice A0_0 l0_0.length c0_0, .int .i64 a0_1, .int .i64 a0_2, .int .i64 a0_3, .slice A0_4 l0_4.length c0_4, .bool a0_5, .slice A0_6 l0_6.length c0_6, .slice A0_7 l0_7.length c0_7, .slice A0_8 l0_8.length c0_8], .slice Ao105 y683.length co105] ?_; (with_reducible refine (spec_Decide.calls k _ _ l0_0 a0_1 a0_2 a0_3 _ _ l0_4 a0_5 _ _ l0_6 _ _ l0_7 _ _ l0_8 _ _ y683 t686 t689 t690 t691 t692 t695 t696 t699 t702 false _ ?side1 ?side2 ?side3 ?side4 ?side5 ?side6 ?side7 ?side8 ?side9 ?side10 ?side11 ?side12 A4.out).mono ?_); (case side1 => exact cc HR0_0 HB); (case side2 => exact HC0_0.out); (case side3 => exact cc HR0_4 HB); (case side4 => exact HC0_4.out); (case side5 => exact cc HR0_6 HB); (case side6 => exact HC0_6.out); (case side7 => exact cc HR0_7 HB); (case side8 => exact HC0_7.out); (case side9 => exact cc HR0_8 HB); (case side10 => exact HC0_8.out); (case side11 => exact cr HO685); (case side12 => exact cl HO685); rintro e w106 ⟨v687, v693, v697, v700, v703, rfl, ho0, ho1, ho2, ho3, ho4, hb⟩; refine ⟨_, rfl, ?_⟩; replace HO685 := kr HO685 hb; have HO688 := kl ho0 HB; have HO694 := kl ho1 HB; have HO698 := kl ho2 HB; have HO701 := kl ho3 HB; have HO704 := kl ho4 HB; replace BK680 := kb BK680 hb; replace BK681 := kb BK681 hb; replace BK682 := kb BK682 hb; replace HB := hs_ HB hb; (try clear hb hb2 hk hi ho0 ho1 ho2 ho3 ho4)) | ((with_reducible refine gate_dst (N := 7) rfl ?_); (try (refine gate_guard (by rfl) ?_; dsimp only)); refine bx (N := 7) (cs := #[.slice none 0 0, .int .i64 0, .int .i64 0, .int .i64 0, .slice none 0 0, .bool false, .slice none 0 0, .slice none 0 0, .slice none 0 0]) (t := 36) ?_; intro gb706 hg w107 hbox hb; replace HO685 := kr HO685 hb; replace HO688 := kr HO688 hb; replace HO694 := kr HO694 hb; replace HO698 := kr HO698 hb; replace HO701 := kr HO701 hb; replace HO704 := kr HO704 hb; have BK706 := Aside0.mk (hbox); have GW706 := gs hg HB; have GE706 := gs hg HB; replace HB := hs_ HB hb; have NB680_706 := gn hg BK680; have NB706_680 := gm hg BK680; replace BK680 := kb BK680 hb; have NB681_706 := gn hg BK681; have NB706_681 := gm hg BK681; replace BK681 := kb BK681 hb; have NB682_706 := gn hg BK682; have NB706_682 := gm hg BK682; replace BK682 := kb BK682 hb; clear hb hbox hg; obtain ⟨Ao108, co108, eo108⟩ := Kd.R_slice HO688.out; subst eo108; have hnb109 := NB706_680.out; have hnc109 := NB680_706.out; have hnb110 := NB706_681.out; have hnc110 := NB681_706.out; have hnb111 := NB706_682.out; have hnc111 := NB682_706.out; have ⟨z112_0, z112_1, z112_2, z112_3, z112_4, z112_5, z112_6, z112_7, z112_8, v112_0, v112_1, v112_2, v112_3, v112_4, v112_5, v112_6, v112_7, v112_8⟩ := rz9 BK706; obtain ⟨Ao113, co113, eo113⟩ := Kd.R_slice HO694.out; subst eo113; obtain ⟨Ao114, co114, eo114⟩ := Kd.R_slice HO698.out; subst eo114; obtain ⟨Ao115, co115, eo115⟩ := Kd.R_slice HO701.out; subst eo115; obtain ⟨Ao116, co116, eo116⟩ := Kd.R_slice HO704.out; subst eo116; have ⟨z117_0, z117_1, z117_2, z117_3, z117_4, z117_5, z117_6, z117_7, z117_8, v117_0, v117_1, v117_2, v117_3, v117_4, v117_5, v117_6, v117_7, v117_8⟩ := rz9 BK680; have ⟨z118_0, z118_1, z118_2, v118_0, v118_1, v118_2⟩ := rz3 BK682; have ⟨z119_0, z119_1, z119_2, v119_0, v119_1, v119_2⟩ := rz3 BK681) | ((with_reducible refine gate_dst (N := 23) rfl ?_); (try (refine gate_guard (by rfl) ?_; dsimp only)); refine Kd.R_lit k50 _ 50 ?hg (N := 23) ?hd (xs := ([(⟨a2_0, a2_1, a2_2⟩ : S50), (⟨a1_0, a1_1, a1_2⟩ : S50)] : List (S50))) (inner := [.int .i64 a2_0, .int .i64 a2_1, .bool a2_2, .int .i64 a1_0, .int .i64 a1_1, .bool a1_2]) (ok := fun _ => True) (okp := fun _ => True) ?hr ?hp (fun _ hk => hk) trivial (Below.refl _ _) (Nat.le_refl _) (by simp) ?_; (case hd => rfl); (case hg => rfl); (case hr => first | (go_simp; done) | (go_simp; rfl)); (case hp => exact (Reps.c3 (show Kd.M k50 _ _ _ (⟨a2_0, a2_1, a2_2⟩ : S50) [.int .i64 a2_0, .int .i64 a2_1, .bool a2_2] from (k50_mkM _ _ _ (⟨a2_0, a2_1, a2_2⟩ : S50) )) (Reps.c3 (show Kd.M k50 _ _ _ (⟨a1_0, a1_1, a1_2⟩ : S50) [.int .i64 a1_0, .int .i64 a1_1, .bool a1_2] from (k50_mkM _ _ _ (⟨a1_0, a1_1, a1_2⟩ : S50) )) (Reps.none _ _)))); intro v708 w120 ho121 hb hg_ hnew_; clear hg_ hnew_; (first | rw [← Ny707.out] at ho121 | (simp only [Int.reduceToNat] at ho121; rw [← Ny707.out] at ho121)); replace HO688 := kf HO688 BK706 hb; replace HO694 := kf HO694 BK706 hb; replace HO698 := kf HO698 BK706 hb; replace HO701 := kf HO701 BK706 hb; replace HO704 := kf HO704 BK706 hb; have HO709 := Aside0.mk (Kd.R_lower (Kd.R_newB (Kd.R_newB (Kd.R_new' ho121 (Kd.R_lt (rf HO685 BK706 (fun _ h_ => h_.1)))) (g := gb681) (o := .cells #[.int .i64 a1_0, .int .i64 a1_1, .bool a1_2] 50 (0, 0)) (bf NB681_706.out BK681)) (g := gb682) (o := .cells #[.int .i64 a2_0, .int .i64 a2_1, .bool a2_2] 50 (0, 0)) (bf NB682_706.out BK682)) (below_size (bb HB))); replace HO685 := Aside0.mk (Kd.R_elder' (rf HO685 BK706 (fun _ h_ => h_.1)) (Kd.R_base ho121) hb); replace BK680 := Aside0.mk (blk_below (bf NB680_706.out BK680) hb); replace BK681 := Aside0.mk (blk_below (bf NB681_706.out BK681) hb); replace BK682 := Aside0.mk (blk_below (bf NB682_706.out BK682) hb); replace BK706 := Aside0.mk (blk_below (g := gb706) (o := .cells #[.slice Ao108 t686.length co108, .int .i64 t689, .int .i64 t690, .int .i64 t691, .slice Ao113 t692.length co113, .bool t695, .slice Ao114 t696.length co114, .slice Ao115 t699.length co115, .slice Ao116 t702.length co116] 36 (0, 0)) (bp BK706) hb); replace HB := hs_ HB hb; clear hb ho121; obtain ⟨Ao122, co122, eo122⟩ := Kd.R_slice HO709.out; subst eo122) | ((with_reducible refine gate_callee (f := 12) rfl ?_); refine gl (some 24) Try.func12 #[.agg #[.slice A0_0 l0_0.length c0_0, .int .i64 a0_1, .int .i64 a0_2, .int .i64 a0_3, .slice A0_4 l0_4.length c0_4, .bool a0_5, .slice A0_6 l0_6.length c0_6, .slice A0_7 l0_7.length c0_7, .slice A0_8 l0_8.length c0_8], .slice Ao122 y707.length co122] ?_; (with_reducible refine (spec_Decide.calls k _ _ l0_0 a0_1 a0_2 a0_3 _ _ l0_4 a0_5 _ _ l0_6 _ _ l0_7 _ _ l0_8 _ _ y707 t710 t713 t714 t715 t716 t719 t720 t723 t726 t729 _ ?side1 ?side2 ?side3 ?side4 ?side5 ?side6 ?side7 ?side8 ?side9 ?side10 ?side11 ?side12 A5.out).mono ?_); (case side1 => exact cc HR0_0 HB); (case side2 => exact HC0_0.out); (case side3 => exact cc HR0_4 HB); (case side4 => exact HC0_4.out); (case side5 => exact cc HR0_6 HB); (case side6 => exact HC0_6.out); (case side7 => exact cc HR0_7 HB); (case side8 => exact HC0_7.out); (case side9 => exact cc HR0_8 HB); (case side10 => exact HC0_8.out); (case side11 => exact cr HO709); (case side12 => exact cl HO709); rintro e w123 ⟨v711, v717, v721, v724, v727, rfl, ho0, ho1, ho2, ho3, ho4, hb⟩; refine ⟨_, rfl, ?_⟩; replace HO685 := kr HO685 hb; replace HO709 := kr HO709 hb; have HO712 := Aside0.mk (Kd.R_lower (Kd.R_new' ho0 (rt HO688)) (below_size (bb HB))); replace HO688 := ke HO688 ho0 hb; have HO718 := Aside0.mk (Kd.R_lower (Kd.R_new' (Kd.R_new' (Kd.R_new' ho1 (rt HO694)) (rt HO701)) (rt HO704)) (below_size (bb HB))); have HO722 := Aside0.mk (Kd.R_lower (Kd.R_new' ho2 (rt HO698)) (below_size (bb HB))); replace HO698 := ke HO698 ho2 hb; have HO725 := Aside0.mk (Kd.R_lower (Kd.R_new' (Kd.R_new' (Kd.R_new' ho3 (rt HO694)) (rt HO701)) (rt HO704)) (below_size (bb HB))); have HO728 := Aside0.mk (Kd.R_lower (Kd.R_new' (Kd.R_new' (Kd.R_new' ho4 (rt HO694)) (rt HO701)) (rt HO704)) (below_size (bb HB))); replace HO694 := Aside0.mk (Kd.R_mono (Kd.R_told (Kd.R_told (Kd.R_told (Kd.R_old (rr HO694) hb) (Kd.R_base ho1)) (Kd.R_base ho3)) (Kd.R_base ho4)) (fun _ h_ => h_.1)); replace HO701 := Aside0.mk (Kd.R_mono (Kd.R_told (Kd.R_told (Kd.R_told (Kd.R_old (rr HO701) hb) (Kd.R_base ho1)) (Kd.R_base ho3)) (Kd.R_base ho4)) (fun _ h_ => h_.1)); replace HO704 := Aside0.mk (Kd.R_mono (Kd.R_told (Kd.R_told (Kd.R_told (Kd.R_old (rr HO704) hb) (Kd.R_base ho1)) (Kd.R_base ho3)) (Kd.R_base ho4)) (fun _ h_ => h_.1)); replace BK680 := kb BK680 hb; replace BK681 := kb BK681 hb; replace BK682 := kb BK682 hb; replace BK706 := kb BK706 hb; replace HB := hs_ HB hb; (try clear hb hb2 hk hi ho0 ho1 ho2 ho3 ho4)) | ((with_reducible refine gate_dst (N := 9) rfl ?_); (try (refine gate_guard (by rfl) ?_; dsimp only)); refine bx (N := 9) (cs := #[.slice none 0 0, .int .i64 0, .int .i64 0, .int .i64 0, .slice none 0 0, .bool false, .slice none 0 0, .slice none 0 0, .slice none 0 0]) (t := 36) ?_; intro gb730 hg w124 hbox hb; replace HO685 := kr HO685 hb; replace HO688 := kr HO688 hb; replace HO694 := kr HO694 hb; replace HO698 := kr HO698 hb; replace HO701 := kr HO701 hb; replace HO704 := kr HO704 hb; replace HO709 := kr HO709 hb; replace HO712 := kr HO712 hb; replace HO718 := kr HO718 hb; replace HO722 := kr HO722 hb; replace HO725 := kr HO725 hb; replace HO728 := kr HO728 hb; have BK730 := Aside0.mk (hbox); have GW730 := gs hg HB; have GE730 := gs hg HB; replace HB := hs_ HB hb; have NB680_730 := gn hg BK680; have NB730_680 := gm hg BK680; replace BK680 := kb BK680 hb; have NB681_730 := gn hg BK681; have NB730_681 := gm hg BK681; replace BK681 := kb BK681 hb; have NB682_730 := gn hg BK682; have NB730_682 := gm hg BK682; replace BK682 := kb BK682 hb; have NB706_730 := gn hg BK706; have NB730_706 := gm hg BK706; replace BK706 := kb BK706 hb; clear hb hbox hg; obtain ⟨Ao125, co125, eo125⟩ := Kd.R_slice HO712.out; subst eo125; have hnb126 := NB730_680.out; have hnc126 := NB680_730.out; have hnb127 := NB730_681.out; have hnc127 := NB681_730.out; have hnb128 := NB730_682.out; have hnc128 := NB682_730.out; have hnb129 := NB730_706.out; have hnc129 := NB706_730.out; have ⟨z130_0, z130_1, z130_2, z130_3, z130_4, z130_5, z130_6, z130_7, z130_8, v130_0, v130_1, v130_2, v130_3, v130_4, v130_5, v130_6, v130_7, v130_8⟩ := rz9 BK730; obtain ⟨Ao131, co131, eo131⟩ := Kd.R_slice HO718.out; subst eo131; obtain ⟨Ao132, co132, eo132⟩ := Kd.R_slice HO722.out; subst eo132; obtain ⟨Ao133, co133, eo133⟩ := Kd.R_slice HO725.out; subst eo133; obtain ⟨Ao134, co134, eo134⟩ := Kd.R_slice HO728.out; subst eo134))
  go_ret
  exact ⟨ee, bb HB⟩
def impl_within.f (a0 : Int) (a1 : Int) (a2 : Int) : Option (Bool) := if a1 ≤ a0 then (some (decide (a0 ≤ a2))) else (some false)
theorem impl_within.calls (a0 : Int) (a1 : Int) (a2 : Int) (r : Bool) (w : World) (h : impl_within.f a0 a1 a2 = some r) :
  Calls Try.prog 128 #[.int .i64 a0, .int .i64 a1, .int .i64 a2] w fun e w' => e = .returned (.bool r) ∧ Drawn0 w w' := by
 have H : (if a1 ≤ a0 then (some (decide (a0 ≤ a2))) else (some false)) = some r := h
 clear h
 by_cases c4 : a1 ≤ a0
 ·rw [if_pos c4] at H
  have c4b0 : decide (a1 ≤ a0) = true := decide_eq_true c4
  clear c4
  obtain rfl := Option.some.inj H
  go_enter Try.func128, Try.ntmps128
  go_wp2
  go_ret
  exact ⟨e2_, by repeat (first | exact Drawn0.refl _ | apply Drawn0.step)⟩
 ·rw [if_neg c4] at H
  have c4b0 : decide (a1 ≤ a0) = false := decide_eq_false c4
  clear c4
  obtain rfl := Option.some.inj H
  go_enter Try.func128, Try.ntmps128
  go_wp2
  go_ret
  exact ⟨e2_, by repeat (first | exact Drawn0.refl _ | apply Drawn0.step)⟩
def impl_IsName.l0 : Nat → ByteArray → Int → Int → Option (Bool)
 | 0, _, _, _ => none
 | k + 1, x0, x6, x7 => if x7 < x6 then (if 0 ≤ x7 then (if x7 < (x0.size : Int) then (if (bt x0 x7) ≥ 97 then (if ((bt x0 x7) ≤ 122) then (impl_IsName.l0 k x0 x6 (wrap64 (x7 + 1))) else (if x7 = 0 then (some false) else (if (bt x0 x7) < 48 then (some false) else (if (bt x0 x7) > 57 then (some false) else (impl_IsName.l0 k x0 x6 (wrap64 (x7 + 1))))))) else (if x7 = 0 then (some false) else (if (bt x0 x7) < 48 then (some false) else (if (bt x0 x7) > 57 then (some false) else (impl_IsName.l0 k x0 x6 (wrap64 (x7 + 1))))))) else (none)) else (none)) else ((impl_within.f (x0.size : Int) 1 8).bind fun t302 => (some t302))
def impl_IsName.f (k : Nat) (a0 : ByteArray) : Option (Bool) := impl_IsName.l0 k a0 (a0.size : Int) 0
theorem impl_IsName.calls (k : Nat) (a0 : ByteArray) (r : Bool) (w : World) (h : impl_IsName.f k a0 = some r) :
  Calls Try.prog 184 #[.string a0] w fun e w' => e = .returned (.bool r) ∧ Drawn0 w w' := by
 have H : (impl_IsName.l0 k a0 (a0.size : Int) 0) = some r := h
 clear h
 have H' := Aside0.mk H
 clear H
 go_enter Try.func184, Try.ntmps184
 go_wp2
 go_loopg [7] k (fun kq v7 w' => ∃ (x7_1 : Int), v7 = .int .i64 x7_1 ∧ Aside0 (impl_IsName.l0 kq a0 (a0.size : Int) x7_1 = some r) ∧ Aside0 (kq ≤ k) ∧ Drawn0 w w')
 case atStart => exact ⟨(0), e2_, H', ⟨Nat.le_refl _⟩, by repeat (first | exact Drawn0.refl _ | apply Drawn0.step)⟩
 case round =>
  clear H'
  (try clear c1)
  obtain ⟨x7_1, rfl, HA, HK1, ⟨m1, rfl⟩⟩ := hrel
  cases gk with
  | zero => exact absurd HA.out (by simp [impl_IsName.l0])
  | succ k1 =>
   have H := HA.out
   clear HA
   simp only [impl_IsName.l0] at H
   by_cases c2 : x7_1 < (a0.size : Int)
   ·rw [if_pos c2] at H
    have c2b0 : decide (x7_1 < (a0.size : Int)) = true := decide_eq_true c2
    clear c2
    by_cases c3 : 0 ≤ x7_1
    ·rw [if_pos c3] at H
     have c3b0 : decide (0 ≤ x7_1) = true := decide_eq_true c3
     clear c3
     by_cases c4 : x7_1 < (a0.size : Int)
     ·rw [if_pos c4] at H
      have c4b0 : decide (x7_1 < (a0.size : Int)) = true := decide_eq_true c4
      clear c4
      by_cases c6 : (bt a0 x7_1) ≥ 97
      ·rw [if_pos c6] at H
       have c6b0 : decide (97 ≤ (bt a0 x7_1)) = true := decide_eq_true c6
       clear c6
       by_cases c8 : ((bt a0 x7_1) ≤ 122)
       ·rw [if_pos c8] at H
        have c8b0 : decide ((bt a0 x7_1) ≤ 122) = true := decide_eq_true c8
        clear c8
        have H' := Aside0.mk H
        clear H
        have p5 : 0 ≤ (x7_1 : Int) := oa
        have q5 : x7_1 < (a0.size : Int) := oa
        have hx5 := bt_at a0 x7_1
        replace p5 := eq_true p5
        replace q5 := eq_true q5
        have p7 : 0 ≤ (x7_1 : Int) := oa
        have q7 : x7_1 < (a0.size : Int) := oa
        have hx7 := bt_at a0 x7_1
        replace p7 := eq_true p7
        replace q7 := eq_true q7
        go_wp2
        go_roundg k1
        case measure => have := HK1.out; omega
        case rel => exact ⟨(wrap64 (x7_1 + 1)), e2_, H', ⟨by have := HK1.out; omega⟩, by repeat (first | exact Drawn0.refl _ | apply Drawn0.step)⟩
       ·rw [if_neg c8] at H
        have c8b0 : decide ((bt a0 x7_1) ≤ 122) = false := decide_eq_false c8
        clear c8
        by_cases c9 : x7_1 = 0
        ·rw [if_pos c9] at H
         have c9b0 : (x7_1 == 0) = true := beq_iff_eq.mpr c9
         have c9b1 : (x7_1 != 0) = false := bne_eq_false_iff_eq.mpr c9
         clear c9
         obtain rfl := Option.some.inj H
         have p5 : 0 ≤ (x7_1 : Int) := oa
         have q5 : x7_1 < (a0.size : Int) := oa
         have hx5 := bt_at a0 x7_1
         replace p5 := eq_true p5
         replace q5 := eq_true q5
         have p7 : 0 ≤ (x7_1 : Int) := oa
         have q7 : x7_1 < (a0.size : Int) := oa
         have hx7 := bt_at a0 x7_1
         replace p7 := eq_true p7
         replace q7 := eq_true q7
         go_wp2
         go_ret
         exact ⟨e2_, by repeat (first | exact Drawn0.refl _ | apply Drawn0.step)⟩
        ·rw [if_neg c9] at H
         have c9b0 : (x7_1 == 0) = false := beq_eq_false_iff_ne.mpr c9
         have c9b1 : (x7_1 != 0) = true := bne_iff_ne.mpr c9
         by_cases c11 : (bt a0 x7_1) < 48
         ·rw [if_pos c11] at H
          have c11b0 : decide ((bt a0 x7_1) < 48) = true := decide_eq_true c11
          clear c11
          obtain rfl := Option.some.inj H
          have p5 : 0 ≤ (x7_1 : Int) := oa
          have q5 : x7_1 < (a0.size : Int) := oa
          have hx5 := bt_at a0 x7_1
          replace p5 := eq_true p5
          replace q5 := eq_true q5
          have p7 : 0 ≤ (x7_1 : Int) := oa
          have q7 : x7_1 < (a0.size : Int) := oa
          have hx7 := bt_at a0 x7_1
          replace p7 := eq_true p7
          replace q7 := eq_true q7
          have p10 : 0 ≤ (x7_1 : Int) := oa
          have q10 : x7_1 < (a0.size : Int) := oa
          have hx10 := bt_at a0 x7_1
          replace p10 := eq_true p10
          replace q10 := eq_true q10
          go_wp2
          go_ret
          exact ⟨e2_, by repeat (first | exact Drawn0.refl _ | apply Drawn0.step)⟩
         ·rw [if_neg c11] at H
          have c11b0 : decide ((bt a0 x7_1) < 48) = false := decide_eq_false c11
          clear c11
          by_cases c13 : (bt a0 x7_1) > 57
          ·rw [if_pos c13] at H
           have c13b0 : decide (57 < (bt a0 x7_1)) = true := decide_eq_true c13
           clear c13
           obtain rfl := Option.some.inj H
           have p5 : 0 ≤ (x7_1 : Int) := oa
           have q5 : x7_1 < (a0.size : Int) := oa
           have hx5 := bt_at a0 x7_1
           replace p5 := eq_true p5
           replace q5 := eq_true q5
           have p7 : 0 ≤ (x7_1 : Int) := oa
           have q7 : x7_1 < (a0.size : Int) := oa
           have hx7 := bt_at a0 x7_1
           replace p7 := eq_true p7
           replace q7 := eq_true q7
           have p10 : 0 ≤ (x7_1 : Int) := oa
           have q10 : x7_1 < (a0.size : Int) := oa
           have hx10 := bt_at a0 x7_1
           replace p10 := eq_true p10
           replace q10 := eq_true q10
           have p12 : 0 ≤ (x7_1 : Int) := oa
           have q12 : x7_1 < (a0.size : Int) := oa
           have hx12 := bt_at a0 x7_1
           replace p12 := eq_true p12
           replace q12 := eq_true q12
           go_wp2
           go_ret
           exact ⟨e2_, by repeat (first | exact Drawn0.refl _ | apply Drawn0.step)⟩
          ·rw [if_neg c13] at H
           have c13b0 : decide (57 < (bt a0 x7_1)) = false := decide_eq_false c13
           clear c13
           have H' := Aside0.mk H
           clear H
           have p5 : 0 ≤ (x7_1 : Int) := oa
           have q5 : x7_1 < (a0.size : Int) := oa
           have hx5 := bt_at a0 x7_1
           replace p5 := eq_true p5
           replace q5 := eq_true q5
           have p7 : 0 ≤ (x7_1 : Int) := oa
           have q7 : x7_1 < (a0.size : Int) := oa
           have hx7 := bt_at a0 x7_1
           replace p7 := eq_true p7
           replace q7 := eq_true q7
           have p10 : 0 ≤ (x7_1 : Int) := oa
           have q10 : x7_1 < (a0.size : Int) := oa
           have hx10 := bt_at a0 x7_1
           replace p10 := eq_true p10
           replace q10 := eq_true q10
           have p12 : 0 ≤ (x7_1 : Int) := oa
           have q12 : x7_1 < (a0.size : Int) := oa
           have hx12 := bt_at a0 x7_1
           replace p12 := eq_true p12
           replace q12 := eq_true q12
           go_wp2
           go_roundg k1
           case measure => have := HK1.out; omega
           case rel => exact ⟨(wrap64 (x7_1 + 1)), e2_, H', ⟨by have := HK1.out; omega⟩, by repeat (first | exact Drawn0.refl _ | apply Drawn0.step)⟩
      ·rw [if_neg c6] at H
       have c6b0 : decide (97 ≤ (bt a0 x7_1)) = false := decide_eq_false c6
       clear c6
       by_cases c14 : x7_1 = 0
       ·rw [if_pos c14] at H
        have c14b0 : (x7_1 == 0) = true := beq_iff_eq.mpr c14
        have c14b1 : (x7_1 != 0) = false := bne_eq_false_iff_eq.mpr c14
        clear c14
        obtain rfl := Option.some.inj H
        have p5 : 0 ≤ (x7_1 : Int) := oa
        have q5 : x7_1 < (a0.size : Int) := oa
        have hx5 := bt_at a0 x7_1
        replace p5 := eq_true p5
        replace q5 := eq_true q5
        go_wp2
        go_ret
        exact ⟨e2_, by repeat (first | exact Drawn0.refl _ | apply Drawn0.step)⟩
       ·rw [if_neg c14] at H
        have c14b0 : (x7_1 == 0) = false := beq_eq_false_iff_ne.mpr c14
        have c14b1 : (x7_1 != 0) = true := bne_iff_ne.mpr c14
        by_cases c16 : (bt a0 x7_1) < 48
        ·rw [if_pos c16] at H
         have c16b0 : decide ((bt a0 x7_1) < 48) = true := decide_eq_true c16
         clear c16
         obtain rfl := Option.some.inj H
         have p5 : 0 ≤ (x7_1 : Int) := oa
         have q5 : x7_1 < (a0.size : Int) := oa
         have hx5 := bt_at a0 x7_1
         replace p5 := eq_true p5
         replace q5 := eq_true q5
         have p15 : 0 ≤ (x7_1 : Int) := oa
         have q15 : x7_1 < (a0.size : Int) := oa
         have hx15 := bt_at a0 x7_1
         replace p15 := eq_true p15
         replace q15 := eq_true q15
         go_wp2
         go_ret
         exact ⟨e2_, by repeat (first | exact Drawn0.refl _ | apply Drawn0.step)⟩
        ·rw [if_neg c16] at H
         have c16b0 : decide ((bt a0 x7_1) < 48) = false := decide_eq_false c16
         clear c16
         by_cases c18 : (bt a0 x7_1) > 57
         ·rw [if_pos c18] at H
          have c18b0 : decide (57 < (bt a0 x7_1)) = true := decide_eq_true c18
          clear c18
          obtain rfl := Option.some.inj H
          have p5 : 0 ≤ (x7_1 : Int) := oa
          have q5 : x7_1 < (a0.size : Int) := oa
          have hx5 := bt_at a0 x7_1
          replace p5 := eq_true p5
          replace q5 := eq_true q5
          have p15 : 0 ≤ (x7_1 : Int) := oa
          have q15 : x7_1 < (a0.size : Int) := oa
          have hx15 := bt_at a0 x7_1
          replace p15 := eq_true p15
          replace q15 := eq_true q15
          have p17 : 0 ≤ (x7_1 : Int) := oa
          have q17 : x7_1 < (a0.size : Int) := oa
          have hx17 := bt_at a0 x7_1
          replace p17 := eq_true p17
          replace q17 := eq_true q17
          go_wp2
          go_ret
          exact ⟨e2_, by repeat (first | exact Drawn0.refl _ | apply Drawn0.step)⟩
         ·rw [if_neg c18] at H
          have c18b0 : decide (57 < (bt a0 x7_1)) = false := decide_eq_false c18
          clear c18
          have H' := Aside0.mk H
          clear H
          have p5 : 0 ≤ (x7_1 : Int) := oa
          have q5 : x7_1 < (a0.size : Int) := oa
          have hx5 := bt_at a0 x7_1
          replace p5 := eq_true p5
          replace q5 := eq_true q5
          have p15 : 0 ≤ (x7_1 : Int) := oa
          have q15 : x7_1 < (a0.size : Int) := oa
          have hx15 := bt_at a0 x7_1
          replace p15 := eq_true p15
          replace q15 := eq_true q15
          have p17 : 0 ≤ (x7_1 : Int) := oa
          have q17 : x7_1 < (a0.size : Int) := oa
          have hx17 := bt_at a0 x7_1
          replace p17 := eq_true p17
          replace q17 := eq_true q17
          go_wp2
          go_roundg k1
          case measure => have := HK1.out; omega
          case rel => exact ⟨(wrap64 (x7_1 + 1)), e2_, H', ⟨by have := HK1.out; omega⟩, by repeat (first | exact Drawn0.refl _ | apply Drawn0.step)⟩
     ·rw [if_neg c4] at H
      exact absurd H (by simp)
    ·rw [if_neg c3] at H
     exact absurd H (by simp)
   ·rw [if_neg c2] at H
    have c2b0 : decide (x7_1 < (a0.size : Int)) = false := decide_eq_false c2
    clear c2
    replace H := Option.bind_eq_some_iff.mp H
    obtain ⟨t302, A190, H⟩ := H
    try dsimp only at H
    have A19 := Aside0.mk A190
    clear A190
    obtain rfl := Option.some.inj H
    go_wp2_with (first | ((with_reducible refine gate_callee (f := 128) rfl ?_); refine gl (some 41) Try.func128 #[.int .i64 (a0.size : Int), .int .i64 1, .int .i64 8] ?_; (with_reducible refine (impl_within.calls (a0.size : Int) 1 8 t302 _ A19.out).mono ?_); rintro e w' ⟨rfl, ⟨nd, rfl⟩⟩; refine ⟨_, rfl, ?_⟩))
    go_ret
    exact ⟨e2_, by repeat (first | exact Drawn0.refl _ | apply Drawn0.step)⟩
def impl_TeamOk.f (k : Nat) (a0_0 : ByteArray) (a0_1 : Int) (a0_2 : Int) : Option (Bool) := (impl_IsName.f k a0_0).bind fun t304 => (if t304 = true then ((impl_within.f a0_1 0 5).bind fun t305 => (if t305 = true then ((impl_within.f a0_2 1 8).bind fun t306 => (some t306)) else (some false))) else (some false))
theorem impl_TeamOk.calls (k : Nat) (a0_0 : ByteArray) (a0_1 : Int) (a0_2 : Int) (r : Bool) (w : World) (h : impl_TeamOk.f k a0_0 a0_1 a0_2 = some r) :
  Calls Try.prog 160 #[.agg #[.string a0_0, .int .i64 a0_1, .int .i64 a0_2]] w fun e w' => e = .returned (.bool r) ∧ Below w.heap.size w w' := by
 have hu139 := Try.underlying139
 have HB := Aside0.mk (Below.refl w.heap.size w)
 have H : ((impl_IsName.f k a0_0).bind fun t304 => (if t304 = true then ((impl_within.f a0_1 0 5).bind fun t305 => (if t305 = true then ((impl_within.f a0_2 1 8).bind fun t306 => (some t306)) else (some false))) else (some false))) = some r := h
 clear h
 replace H := Option.bind_eq_some_iff.mp H
 obtain ⟨t304, A20, H⟩ := H
 try dsimp only at H
 have A2 := Aside0.mk A20
 clear A20
 by_cases c3 : t304 = true
 ·subst c3
  rw [if_pos rfl] at H
  replace H := Option.bind_eq_some_iff.mp H
  obtain ⟨t305, A40, H⟩ := H
  try dsimp only at H
  have A4 := Aside0.mk A40
  clear A40
  by_cases c5 : t305 = true
  ·subst c5
   rw [if_pos rfl] at H
   replace H := Option.bind_eq_some_iff.mp H
   obtain ⟨t306, A60, H⟩ := H
   try dsimp only at H
   have A6 := Aside0.mk A60
   clear A60
   obtain rfl := Option.some.inj H
   go_enter Try.func160, Try.ntmps160
   go_wp2_with (first | ((with_reducible refine gate_dst (N := 1) rfl ?_); refine bx (N := 1) (cs := #[.string a0_0, .int .i64 a0_1, .int .i64 a0_2]) (t := 139) ?_; intro gb303 hg w7 hbox hb; have BK303 := Aside0.mk (hbox); have GW303 := gs hg HB; have GE303 := gs hg HB; replace HB := hs_ HB hb; clear hb hbox hg; have ⟨z8_0, z8_1, z8_2, v8_0, v8_1, v8_2⟩ := rz3 BK303) | ((with_reducible refine gate_callee (f := 184) rfl ?_); refine gl (some 5) Try.func184 #[.string a0_0] ?_; (with_reducible refine (impl_IsName.calls k a0_0 true _ A2.out).mono ?_); rintro e w' ⟨rfl, ⟨nd, rfl⟩⟩; refine ⟨_, rfl, ?_⟩) | (go_at_call 128; (with_reducible refine (impl_within.calls a0_1 0 5 true _ A4.out).mono ?_); rintro e w' ⟨rfl, ⟨nd, rfl⟩⟩) | (go_at_call 128; (with_reducible refine (impl_within.calls a0_2 1 8 t306 _ A6.out).mono ?_); rintro e w' ⟨rfl, ⟨nd, rfl⟩⟩))
   go_ret
   exact ⟨ee, bb HB⟩
  ·replace c5 := Bool.eq_false_iff.mpr c5
   subst c5
   rw [if_neg (show ¬ (false = true) by decide)] at H
   obtain rfl := Option.some.inj H
   go_enter Try.func160, Try.ntmps160
   go_wp2_with (first | ((with_reducible refine gate_dst (N := 1) rfl ?_); refine bx (N := 1) (cs := #[.string a0_0, .int .i64 a0_1, .int .i64 a0_2]) (t := 139) ?_; intro gb303 hg w9 hbox hb; have BK303 := Aside0.mk (hbox); have GW303 := gs hg HB; have GE303 := gs hg HB; replace HB := hs_ HB hb; clear hb hbox hg; have ⟨z10_0, z10_1, z10_2, v10_0, v10_1, v10_2⟩ := rz3 BK303) | ((with_reducible refine gate_callee (f := 184) rfl ?_); refine gl (some 5) Try.func184 #[.string a0_0] ?_; (with_reducible refine (impl_IsName.calls k a0_0 true _ A2.out).mono ?_); rintro e w' ⟨rfl, ⟨nd, rfl⟩⟩; refine ⟨_, rfl, ?_⟩) | (go_at_call 128; (with_reducible refine (impl_within.calls a0_1 0 5 false _ A4.out).mono ?_); rintro e w' ⟨rfl, ⟨nd, rfl⟩⟩))
   go_ret
   exact ⟨ee, bb HB⟩
 ·replace c3 := Bool.eq_false_iff.mpr c3
  subst c3
  rw [if_neg (show ¬ (false = true) by decide)] at H
  obtain rfl := Option.some.inj H
  go_enter Try.func160, Try.ntmps160
  go_wp2_with (first | ((with_reducible refine gate_dst (N := 1) rfl ?_); refine bx (N := 1) (cs := #[.string a0_0, .int .i64 a0_1, .int .i64 a0_2]) (t := 139) ?_; intro gb303 hg w11 hbox hb; have BK303 := Aside0.mk (hbox); have GW303 := gs hg HB; have GE303 := gs hg HB; replace HB := hs_ HB hb; clear hb hbox hg; have ⟨z12_0, z12_1, z12_2, v12_0, v12_1, v12_2⟩ := rz3 BK303) | ((with_reducible refine gate_callee (f := 184) rfl ?_); refine gl (some 5) Try.func184 #[.string a0_0] ?_; (with_reducible refine (impl_IsName.calls k a0_0 false _ A2.out).mono ?_); rintro e w' ⟨rfl, ⟨nd, rfl⟩⟩; refine ⟨_, rfl, ?_⟩))
  go_ret
  exact ⟨ee, bb HB⟩
set_option maxHeartbeats 4000000 in
theorem slices_IndexFunc_impl_Team_impl_Team.calls (g : Nat) (lb : Array Value) (eg : ∀ args w, (callFunc g args).run Try.prog w = .ok (.enter g args) w) (p : S139 → Bool) (A0 : Option Addr) (c0 n0 : Nat) (l0 : List (S139)) (w0 w : World) (hB : Below w0.heap.size w0 w) (hr0 : Kd.C k139 w0 A0 n0 l0)
    (hp : ∀ (W : World) (x : S139), Below w.heap.size w W → x ∈ l0 → Calls Try.prog g (#[.agg #[.string x.f0, .int .i64 x.f1, .int .i64 x.f2]] ++ lb) W fun e w' => e = .returned (.bool (p x)) ∧ Below W.heap.size W w') :
    Calls Try.prog 185 #[.slice A0 n0 c0, .func (.func g) #[] lb] w fun e w' => e = .returned (.int .i64 (idxI p l0)) ∧ Below w.heap.size w w' := by
  obtain rfl := Kd.C_len hr0
  have hm : l0.length ≤ 9223372036854775807 := hr0.2.1
  have HR0 := Aside0.mk hr0
  have HP := Aside0.mk hp
  have HW := Aside0.mk hB.size
  have HB0 := Aside0.mk hB
  clear hr0 hp hB
  go_enter Try.func185, Try.ntmps185
  go_wp2
  go_loopg [5, 8] l0.length (fun gg _ s8 wr => ∃ kk : Nat, kk ≤ l0.length ∧ l0.length - kk ≤ gg ∧ s8 = .int .i64 kk ∧ Aside0 (Below w.heap.size w wr) ∧ Aside0 (∀ j, j < kk → p (rd_T139 l0 j) = false))
  case atStart => exact ⟨0, Nat.zero_le _, by omega, rfl, ⟨Below.refl _ w⟩, ⟨fun j hj => absurd hj (Nat.not_lt_zero _)⟩⟩
  case round =>
    obtain ⟨kk, hkk, hg, rfl, BW, HA⟩ := hrel
    by_cases hlt : kk < l0.length
    · have hltz : (kk : Int) < (l0.length : Int) := by omega
      obtain ⟨ad, ead, h0, h1, h2⟩ := at_T139 HR0.out kk (by omega) hltz
      subst ead
      have hb1 : Below w0.heap.size w0 wr := below_then HB0.out HW.out BW.out
      have hcall := HP.out wr (rd_T139 l0 kk) BW.out (by unfold rd_T139; simp [hlt])
      replace h0 := pw_cell_below hb1 h0
      replace h1 := pw_cell_below hb1 h1
      replace h2 := pw_cell_below hb1 h2
      simp only [Int.toNat_natCast] at h0 h1 h2
      have HB1 := Aside0.mk hb1
      clear hb1
      generalize hy : rd_T139 l0 kk = y at h0 h1 h2 hcall
      have B := Aside0.mk hy
      clear hy
      cases hq : p y with
      | true =>
        rw [hq] at hcall
        have Q := Aside0.mk hq
        have HC := Aside0.mk hcall
        clear hq hcall
        go_wp2_with fail
        refine HC.out.mono ?_
        rintro e w' ⟨rfl, hb'⟩
        go_wp2_with fail
        go_ret
        refine ⟨?_, below_step BW.out hb'⟩
        rw [idxI_hit p l0 kk hlt z139 (by have := B.out; unfold rd_T139 at this; simp only [Int.toNat_natCast] at this; rw [this]; exact Q.out) (fun j hj => by have := HA.out j hj; unfold rd_T139 at this; simpa using this)]
        rfl
      | false =>
        rw [hq] at hcall
        have Q := Aside0.mk hq
        have HC := Aside0.mk hcall
        clear hq hcall
        go_wp2_with fail
        refine HC.out.mono ?_
        rintro e w' ⟨rfl, hb'⟩
        go_wp2_with fail
        go_roundg (l0.length - (kk + 1))
        case measure => omega
        case rel =>
          refine ⟨kk + 1, by omega, by omega, by go_num, ⟨below_step BW.out hb'⟩, ⟨fun j hj => ?_⟩⟩
          by_cases e : j = kk
          · subst e
            rw [B.out]; exact Q.out
          · exact HA.out j (by omega)
    · have hltz : ¬ (kk : Int) < (l0.length : Int) := by omega
      have hd : decide ((kk : Int) < (l0.length : Int)) = false := by simp; omega
      have hd2 : decide (kk < l0.length) = false := by simp; omega
      have hk := Aside0.mk (show kk = l0.length by omega)
      clear hlt hltz hg
      go_wp2_with fail
      go_ret
      obtain rfl := hk.out
      refine ⟨?_, BW.out⟩
      rw [idxI_miss p l0 z139 (fun j hj => by have := HA.out j hj; unfold rd_T139 at this; simpa using this)]
      rfl
set_option maxHeartbeats 4000000 in
theorem slices_ContainsFunc_impl_Team_impl_Team.calls (g : Nat) (lb : Array Value) (eg : ∀ args w, (callFunc g args).run Try.prog w = .ok (.enter g args) w) (p : S139 → Bool) (A0 : Option Addr) (c0 n0 : Nat) (l0 : List (S139)) (w0 w : World) (hB : Below w0.heap.size w0 w) (hr0 : Kd.C k139 w0 A0 n0 l0)
    (hp : ∀ (W : World) (x : S139), Below w.heap.size w W → x ∈ l0 → Calls Try.prog g (#[.agg #[.string x.f0, .int .i64 x.f1, .int .i64 x.f2]] ++ lb) W fun e w' => e = .returned (.bool (p x)) ∧ Below W.heap.size W w') :
    Calls Try.prog 161 #[.slice A0 n0 c0, .func (.func g) #[] lb] w fun e w' => e = .returned (.bool (l0.any p)) ∧ Below w.heap.size w w' := by
  rw [← idxI_any p l0]
  have HC := Aside0.mk (slices_IndexFunc_impl_Team_impl_Team.calls g lb eg p A0 c0 n0 l0 w0 w hB hr0 hp)
  clear hr0 hp hB eg
  generalize hy : idxI p l0 = y at HC
  have HY := Aside0.mk hy
  clear hy
  go_enter Try.func161, Try.ntmps161
  go_wp2_with fail
  refine HC.out.mono ?_
  rintro e w' ⟨rfl, hb'⟩
  go_wp2_with fail
  go_ret
  exact ⟨rfl, hb'⟩
def withinB (a lo hi : Int) : Bool := decide (lo ≤ a) && decide (a ≤ hi)
theorem within_eq (a lo hi : Int) : impl_within.f a lo hi = some (withinB a lo hi) := by
  unfold impl_within.f withinB
  by_cases h : lo ≤ a <;> simp [h]
def nameAt (i c : Int) : Bool := (decide (97 ≤ c) && decide (c ≤ 122)) || (!(decide (i = 0)) && decide (48 ≤ c) && decide (c ≤ 57))
def nameFrom (s : ByteArray) (i : Nat) : Bool := (List.range (s.size - i)).all fun j => nameAt (i + j : Nat) (bt s ((i + j : Nat) : Int))
def isNameB (s : ByteArray) : Bool := nameFrom s 0 && withinB s.size 1 8
theorem nameFrom_end (s : ByteArray) (i : Nat) (h : s.size ≤ i) : nameFrom s i = true := by
  unfold nameFrom; rw [show s.size - i = 0 by omega]; rfl
theorem nameFrom_step (s : ByteArray) (i : Nat) (h : i < s.size) : nameFrom s i = (nameAt i (bt s i) && nameFrom s (i + 1)) := by
  unfold nameFrom
  obtain ⟨d, hd⟩ : ∃ d, s.size - i = d + 1 := ⟨s.size - i - 1, by omega⟩
  rw [hd, show s.size - (i + 1) = d by omega, List.range_succ_eq_map, List.all_cons, List.all_map]
  congr 1
  congr 1
  funext j
  simp only [Function.comp, Nat.succ_eq_add_one]
  rw [show i + (j + 1) = i + 1 + j by omega]
theorem isName_loop (s : ByteArray) (hs : s.size ≤ 4611686018427387904) (d : Nat) : ∀ (k i : Nat), s.size - i = d → i ≤ s.size → d < k → impl_IsName.l0 k s s.size i = some (nameFrom s i && withinB s.size 1 8) := by
  induction d with
  | zero =>
    intro k i hd hi hk
    obtain ⟨k, rfl⟩ : ∃ m, k = m + 1 := ⟨k - 1, by omega⟩
    simp only [impl_IsName.l0]
    rw [if_neg (by omega), within_eq, nameFrom_end s i (by omega)]
    simp
  | succ d ih =>
    intro k i hd hi hk
    obtain ⟨k, rfl⟩ : ∃ m, k = m + 1 := ⟨k - 1, by omega⟩
    have hlt : i < s.size := by omega
    have hw : wrap64 ((i : Int) + 1) = ((i + 1 : Nat) : Int) := by unfold wrap64; omega
    have h := ih k (i + 1) (by omega) (by omega) (by omega)
    simp only [impl_IsName.l0]
    rw [if_pos (show (i : Int) < s.size by omega), if_pos (show 0 ≤ (i : Int) by omega), if_pos (show (i : Int) < s.size by omega), hw, h, nameFrom_step s i hlt]
    unfold nameAt
    generalize bt s i = c
    rw [Bool.and_assoc]
    generalize (nameFrom s (i + 1) && withinB s.size 1 8) = z
    grind
theorem isName_eq (s : ByteArray) (hs : s.size ≤ 4611686018427387904) (k : Nat) (hk : s.size < k) : impl_IsName.f k s = some (isNameB s) := by
  unfold impl_IsName.f
  have := isName_loop s hs s.size k 0 (by omega) (by omega) hk
  simpa [isNameB] using this
def teamOkB (t : S139) : Bool := isNameB t.f0 && withinB t.f1 0 5 && withinB t.f2 1 8
theorem teamOk_eq (t : S139) (hs : t.f0.size ≤ 4611686018427387904) (k : Nat) (hk : t.f0.size < k) : impl_TeamOk.f k t.f0 t.f1 t.f2 = some (teamOkB t) := by
  unfold impl_TeamOk.f teamOkB
  rw [isName_eq _ hs k hk]
  simp only [Option.bind_some, within_eq]
  cases isNameB t.f0 <;> cases withinB t.f1 0 5 <;> simp
def teamClash (t x : S139) : Bool := (x.f0.toList == t.f0.toList) || (x.f2 == t.f2)
def fieldFrom : List (S139) → List (S139) → Bool
  | _, [] => true
  | pre, t :: l => teamOkB t && !pre.any (teamClash t) && fieldFrom (pre ++ [t]) l
def fieldOkB (l : List (S139)) : Bool := fieldFrom [] l && withinB l.length 2 8
def impl_FieldOk.f (l0 : List (S139)) : Option Bool := if l0.all (fun t => decide (t.f0.size ≤ 4611686018427387904)) then some (fieldOkB l0) else none
set_option maxHeartbeats 4000000 in
theorem impl_FieldOk_1.calls (gb : Nat) (t x : S139) (W : World) (hb : W.heap[gb]? = some (.cells #[.string t.f0, .int .i64 t.f1, .int .i64 t.f2] 139 (0, 0))) :
    Calls Try.prog 162 #[.agg #[.string x.f0, .int .i64 x.f1, .int .i64 x.f2], .pointer (some ⟨gb, 0, none⟩)] W fun e w' => e = .returned (.bool (teamClash t x)) ∧ Below W.heap.size W w' := by
  have h0 : W.cell? ⟨gb, 0, none⟩ = some (.string t.f0) := (blk_cell hb 0).trans rfl
  have h2 : W.cell? ⟨gb, 2, none⟩ = some (.int .i64 t.f2) := (blk_cell hb 2).trans rfl
  have hlt : gb < W.heap.size := blk_lt hb
  clear hb
  have hT : ∀ b, teamClash t x = b → ((x.f0.toList == t.f0.toList) || (x.f2 == t.f2)) = b := fun b h => h
  generalize teamClash t x = b at hT
  have HT := Aside0.mk (hT b rfl)
  clear hT
  cases h3 : x.f0.toList == t.f0.toList with
  | true =>
    have hb : b = true := by rw [← HT.out, h3]; rfl
    subst hb
    clear HT
    go_enter Try.func162, Try.ntmps162
    go_wp2
    go_ret
    exact ⟨rfl, below_alloc (Below.refl _ _) _⟩
  | false =>
    have hb : b = (x.f2 == t.f2) := by rw [← HT.out, h3]; rfl
    subst hb
    clear HT
    go_enter Try.func162, Try.ntmps162
    go_wp2
    go_ret
    exact ⟨rfl, below_alloc (Below.refl _ _) _⟩
set_option maxHeartbeats 4000000 in
theorem impl_FieldOk.calls (A0 : Option Addr) (c0 : Nat) (l0 : List (S139)) (r : Bool) (w : World) (hr0 : Kd.C k139 w A0 l0.length l0) (hc0 : l0.length ≤ c0) (h : impl_FieldOk.f l0 = some r) :
    Calls Try.prog 122 #[.slice A0 l0.length c0] w fun e w' => e = .returned (.bool r) ∧ Below w.heap.size w w' := by
  unfold impl_FieldOk.f at h
  by_cases hz : l0.all (fun t => decide (t.f0.size ≤ 4611686018427387904)) = true
  · rw [if_pos hz] at h
    have HZ := Aside0.mk hz
    clear hz
    have HR := Aside0.mk (Option.some.inj h)
    clear h
    have hm : l0.length ≤ 9223372036854775807 := hr0.2.1
    have HR0 := Aside0.mk hr0
    have HC0 := Aside0.mk hc0
    clear hr0 hc0
    have eg := my_enters Try.func162 (by kernel_rfl) rfl
    go_enter Try.func122, Try.ntmps122
    go_wp2
    go_loopg [3, 7] l0.length (fun gg _ s7 wr => ∃ kk : Nat, kk ≤ l0.length ∧ l0.length - kk ≤ gg ∧ s7 = .int .i64 kk ∧ Aside0 (Below w.heap.size w wr) ∧ Aside0 (fieldFrom (l0.take kk) (l0.drop kk) = fieldFrom [] l0))
    case atStart => exact ⟨0, Nat.zero_le _, by omega, rfl, ⟨Below.refl _ w⟩, ⟨by simp⟩⟩
    case round =>
      obtain ⟨kk, hkk, hg, rfl, BW, HA⟩ := hrel
      by_cases hlt : kk < l0.length
      · have hltz : (kk : Int) < (l0.length : Int) := by omega
        obtain ⟨ad, ead, h0, h1, h2⟩ := at_T139 HR0.out kk (by omega) hltz
        subst ead
        replace h0 := pw_cell_below BW.out h0
        replace h1 := pw_cell_below BW.out h1
        replace h2 := pw_cell_below BW.out h2
        simp only [Int.toNat_natCast] at h0 h1 h2
        have hd : l0.drop kk = rd_T139 l0 kk :: l0.drop (kk + 1) := by
          unfold rd_T139
          simp only [Int.toNat_natCast]
          rw [List.drop_eq_getElem_cons hlt]
          simp [hlt]
        have ht : l0.take kk ++ [rd_T139 l0 kk] = l0.take (kk + 1) := by
          unfold rd_T139
          simp only [Int.toNat_natCast]
          rw [List.take_succ_eq_append_getElem hlt]
          simp [hlt]
        have hsz : (rd_T139 l0 kk).f0.size ≤ 4611686018427387904 := by
          have := List.all_eq_true.mp HZ.out (rd_T139 l0 kk) (by unfold rd_T139; simp [hlt])
          simpa using this
        have HA1 := Aside0.mk (show fieldFrom (l0.take kk) (l0.drop kk) = (teamOkB (rd_T139 l0 kk) && !(l0.take kk).any (teamClash (rd_T139 l0 kk)) && fieldFrom (l0.take (kk + 1)) (l0.drop (kk + 1))) by rw [hd, fieldFrom, ht])
        have HT := Aside0.mk (teamOk_eq (rd_T139 l0 kk) hsz ((rd_T139 l0 kk).f0.size + 1) (by omega))
        clear hd ht hsz
        generalize rd_T139 l0 kk = t at h0 h1 h2 HA1 HT
        have hkc : kk ≤ c0 := by have := HC0.out; omega
        go_wp2_with fail
        refine (impl_TeamOk.calls _ _ _ _ _ _ HT.out).mono ?_
        rintro e w1 ⟨rfl, hb1⟩
        have hbox := hb1.block wr.heap.size (by simp)
        have hbx := my_blk_new wr (Obj.cells #[Value.string t.f0, Value.int IntKind.i64 t.f1, Value.int IntKind.i64 t.f2] 139 (0, 0))
        have HBX := Aside0.mk (hbox.trans hbx)
        have HB1 := Aside0.mk (below_step (below_alloc (Below.refl wr.heap.size wr) _) hb1)
        clear hbox hbx hb1
        cases hq : teamOkB t with
        | false =>
          have HQ := Aside0.mk hq
          have HF : Aside0 (fieldOkB l0 = false) := ⟨by unfold fieldOkB; rw [← HA.out, HA1.out, hq]; simp⟩
          clear hq
          go_wp2_with fail
          go_ret
          exact ⟨by rw [← HR.out, HF.out]; rfl, below_step BW.out HB1.out⟩
        | true =>
          have HQ := Aside0.mk hq
          clear hq
          have HG := Aside0.mk eg
          clear eg
          go_wp2_with fail
          refine ((slices_ContainsFunc_impl_Team_impl_Team.calls 162 #[.pointer (some ⟨wr.heap.size, 0, none⟩)] HG.out (teamClash t) (some ad) c0 kk (l0.take kk) w w1 (below_step BW.out HB1.out) (Kd.C_take' HR0.out kk hkk) (fun W x hW _ => impl_FieldOk_1.calls wr.heap.size t x W ((hW.block _ (blk_lt HBX.out)).trans HBX.out))).mono ?_)
          rintro e w2 ⟨rfl, hb2⟩
          have HB2 := Aside0.mk (below_step HB1.out hb2)
          clear hb2
          cases hc : (l0.take kk).any (teamClash t) with
          | true =>
            have HF : Aside0 (fieldOkB l0 = false) := ⟨by unfold fieldOkB; rw [← HA.out, HA1.out, hc]; simp⟩
            clear hc
            go_wp2_with fail
            go_ret
            exact ⟨by rw [← HR.out, HF.out]; rfl, below_step BW.out HB2.out⟩
          | false =>
            have HA2 : Aside0 (fieldFrom (l0.take (kk + 1)) (l0.drop (kk + 1)) = fieldFrom [] l0) := ⟨by rw [← HA.out, HA1.out, hc, HQ.out]; simp⟩
            have HE := Aside0.mk HG.out
            clear hc
            go_wp2_with fail
            go_roundg (l0.length - (kk + 1))
            case measure => omega
            case rel => exact ⟨kk + 1, by omega, by omega, by go_num, ⟨below_step BW.out HB2.out⟩, HA2⟩
      · have hd : decide ((kk : Int) < (l0.length : Int)) = false := by simp; omega
        have hd2 : decide (kk < l0.length) = false := by simp; omega
        have hk := Aside0.mk (show kk = l0.length by omega)
        clear hlt hg
        have HW := Aside0.mk (within_eq l0.length 2 8)
        go_wp2_with fail
        refine (impl_within.calls _ _ _ _ _ HW.out).mono ?_
        rintro e w' ⟨rfl, ⟨nd, rfl⟩⟩
        go_wp2_with fail
        go_ret
        refine ⟨?_, pw_below_drewN BW.out _⟩
        have h1 := HA.out
        rw [hk.out, List.drop_length, fieldFrom] at h1
        rw [← HR.out, fieldOkB, ← h1]
        rfl
  · rw [if_neg hz] at h
    cases h
def slices_Index_int_int.l0 : Nat → List Int → Int → Int → Int → Option (Int)
 | 0, _, _, _, _ => none
 | k + 1, x0, x1, x7, x8 => if x8 < x7 then (if 0 ≤ x8 then (if x8 < (x0.length : Int) then (if x1 = (rd x0 x8) then (some x8) else (slices_Index_int_int.l0 k x0 x1 x7 (wrap64 (x8 + 1)))) else (none)) else (none)) else (some (-1))
def slices_Index_int_int.f (k : Nat) (l0 : List Int) (a1 : Int) : Option (Int) := slices_Index_int_int.l0 k l0 a1 (l0.length : Int) 0
theorem slices_Index_int_int.calls (k : Nat) (A0 : Option Addr) (c0 : Nat) (l0 : List Int) (a1 : Int) (r : Int) (w : World) (hr0 : Kd.C (Kd.int .i64) w A0 l0.length l0) (hc0 : l0.length ≤ c0) (h : slices_Index_int_int.f k l0 a1 = some r) :
  Calls Try.prog 145 #[.slice A0 l0.length c0, .int .i64 a1] w fun e w' => e = .returned (.int .i64 r) ∧ Drawn0 w w' := by
 have HR0 := Aside0.mk hr0
 have HC0 := Aside0.mk hc0
 clear hr0 hc0
 have H : (slices_Index_int_int.l0 k l0 a1 (l0.length : Int) 0) = some r := h
 clear h
 have H' := Aside0.mk H
 clear H
 go_enter Try.func145, Try.ntmps145
 go_wp2
 go_loopg [8] k (fun kq v8 w' => ∃ (x8_1 : Int), v8 = .int .i64 x8_1 ∧ Aside0 (slices_Index_int_int.l0 kq l0 a1 (l0.length : Int) x8_1 = some r) ∧ Aside0 (kq ≤ k) ∧ Drawn0 w w')
 case atStart => exact ⟨(0), e2_, H', ⟨Nat.le_refl _⟩, by repeat (first | exact Drawn0.refl _ | apply Drawn0.step)⟩
 case round =>
  clear H'
  (try clear c1)
  (try clear p2)
  obtain ⟨x8_1, rfl, HA, HK1, ⟨m1, rfl⟩⟩ := hrel
  cases gk with
  | zero => exact absurd HA.out (by simp [slices_Index_int_int.l0])
  | succ k1 =>
   have H := HA.out
   clear HA
   simp only [slices_Index_int_int.l0] at H
   by_cases c3 : x8_1 < (l0.length : Int)
   ·rw [if_pos c3] at H
    have c3b0 : decide (x8_1 < (l0.length : Int)) = true := decide_eq_true c3
    clear c3
    by_cases c4 : 0 ≤ x8_1
    ·rw [if_pos c4] at H
     have c4b0 : decide (0 ≤ x8_1) = true := decide_eq_true c4
     clear c4
     by_cases c5 : x8_1 < (l0.length : Int)
     ·rw [if_pos c5] at H
      have c5b0 : decide (x8_1 < (l0.length : Int)) = true := decide_eq_true c5
      clear c5
      by_cases c6 : a1 = (rd l0 x8_1)
      ·rw [if_pos c6] at H
       have c6b0 : (a1 == (rd l0 x8_1)) = true := beq_iff_eq.mpr c6
       have c6b1 : (a1 != (rd l0 x8_1)) = false := bne_eq_false_iff_eq.mpr c6
       clear c6
       obtain rfl := Option.some.inj H
       have p307 : 0 ≤ (x8_1 : Int) := oa
       have q307 : x8_1 < (l0.length : Int) := oa
       obtain ⟨ad307, e307, hx307_0⟩ := Kd.at_int HR0.out x8_1 p307 q307
       cases e307
       replace p307 := eq_true p307
       replace q307 := eq_true q307
       go_wp2
       go_ret
       exact ⟨e2_, by repeat (first | exact Drawn0.refl _ | apply Drawn0.step)⟩
      ·rw [if_neg c6] at H
       have c6b0 : (a1 == (rd l0 x8_1)) = false := beq_eq_false_iff_ne.mpr c6
       have c6b1 : (a1 != (rd l0 x8_1)) = true := bne_iff_ne.mpr c6
       have H' := Aside0.mk H
       clear H
       have p307 : 0 ≤ (x8_1 : Int) := oa
       have q307 : x8_1 < (l0.length : Int) := oa
       obtain ⟨ad307, e307, hx307_0⟩ := Kd.at_int HR0.out x8_1 p307 q307
       cases e307
       replace p307 := eq_true p307
       replace q307 := eq_true q307
       go_wp2
       go_roundg k1
       case measure => have := HK1.out; omega
       case rel => exact ⟨(wrap64 (x8_1 + 1)), e2_, H', ⟨by have := HK1.out; omega⟩, by repeat (first | exact Drawn0.refl _ | apply Drawn0.step)⟩
     ·rw [if_neg c5] at H
      exact absurd H (by simp)
    ·rw [if_neg c4] at H
     exact absurd H (by simp)
   ·rw [if_neg c3] at H
    have c3b0 : decide (x8_1 < (l0.length : Int)) = false := decide_eq_false c3
    clear c3
    obtain rfl := Option.some.inj H
    go_wp2
    go_ret
    exact ⟨e2_, by repeat (first | exact Drawn0.refl _ | apply Drawn0.step)⟩
def slices_Contains_int_int.f (k : Nat) (l0 : List Int) (a1 : Int) : Option (Bool) := (slices_Index_int_int.f k l0 a1).bind fun t308 => (some (decide (t308 ≥ 0)))
theorem slices_Contains_int_int.calls (k : Nat) (A0 : Option Addr) (c0 : Nat) (l0 : List Int) (a1 : Int) (r : Bool) (w : World) (hr0 : Kd.C (Kd.int .i64) w A0 l0.length l0) (hc0 : l0.length ≤ c0) (h : slices_Contains_int_int.f k l0 a1 = some r) :
  Calls Try.prog 95 #[.slice A0 l0.length c0, .int .i64 a1] w fun e w' => e = .returned (.bool r) ∧ Drawn0 w w' := by
 have HR0 := Aside0.mk hr0
 have HC0 := Aside0.mk hc0
 clear hr0 hc0
 have H : ((slices_Index_int_int.f k l0 a1).bind fun t308 => (some (decide (t308 ≥ 0)))) = some r := h
 clear h
 replace H := Option.bind_eq_some_iff.mp H
 obtain ⟨t308, A30, H⟩ := H
 try dsimp only at H
 have A3 := Aside0.mk A30
 clear A30
 obtain rfl := Option.some.inj H
 go_enter Try.func95, Try.ntmps95
 go_wp2_with (first | ((with_reducible refine gate_callee (f := 145) rfl ?_); refine gl (some 7) Try.func145 #[.slice A0 l0.length c0, .int .i64 a1] ?_; (with_reducible refine (slices_Index_int_int.calls k _ _ l0 a1 t308 _ ?side1 ?side2 A3.out).mono ?_); (case side1 => exact cz_ HR0); (case side2 => exact HC0.out); rintro e w' ⟨rfl, ⟨nd, rfl⟩⟩; refine ⟨_, rfl, ?_⟩))
 go_ret
 exact ⟨e2_, by repeat (first | exact Drawn0.refl _ | apply Drawn0.step)⟩
def impl_isKey.f (a0 : Int) : Option (Bool) := (impl_within.f a0 1 8).bind fun t309 => (some t309)
theorem impl_isKey.calls (a0 : Int) (r : Bool) (w : World) (h : impl_isKey.f a0 = some r) :
  Calls Try.prog 163 #[.int .i64 a0] w fun e w' => e = .returned (.bool r) ∧ Drawn0 w w' := by
 have H : ((impl_within.f a0 1 8).bind fun t309 => (some t309)) = some r := h
 clear h
 replace H := Option.bind_eq_some_iff.mp H
 obtain ⟨t309, A20, H⟩ := H
 try dsimp only at H
 have A2 := Aside0.mk A20
 clear A20
 obtain rfl := Option.some.inj H
 go_enter Try.func163, Try.ntmps163
 go_wp2_with (first | ((with_reducible refine gate_callee (f := 128) rfl ?_); refine gl (some 4) Try.func128 #[.int .i64 a0, .int .i64 1, .int .i64 8] ?_; (with_reducible refine (impl_within.calls a0 1 8 t309 _ A2.out).mono ?_); rintro e w' ⟨rfl, ⟨nd, rfl⟩⟩; refine ⟨_, rfl, ?_⟩))
 go_ret
 exact ⟨e2_, by repeat (first | exact Drawn0.refl _ | apply Drawn0.step)⟩
def impl_RulesOk.l0 : Nat → List Int → Int → Int → Int → Int → Int → List Int → Bool → Option (Bool)
 | 0, _, _, _, _, _, _, _, _ => none
 | k + 1, x6, x7, x8, x311000, x311001, x311002, x311003, x311004 => if x8 < x7 then (if 0 ≤ x8 then (if x8 < (x6.length : Int) then ((impl_isKey.f (rd x6 x8)).bind fun t313 => (if t313 = true then (if x8 ≤ (x311003.length : Int) then ((slices_Contains_int_int.f k (x311003.take (x8 : Int).toNat) (rd x6 x8)).bind fun t315 => (if t315 = true then (some false) else (impl_RulesOk.l0 k x6 x7 (wrap64 (x8 + 1)) x311000 x311001 x311002 x311003 x311004))) else (none)) else (some false))) else (none)) else (none)) else (if 0 ≤ x311002 then (if x311002 ≤ x311001 then (if x311001 ≤ x311000 then (if x311000 ≤ 10 then ((impl_within.f (x311003.length : Int) 1 8).bind fun t311 => (some t311)) else (some false)) else (some false)) else (some false)) else (some false))
def impl_RulesOk.f (k : Nat) (a0_0 : Int) (a0_1 : Int) (a0_2 : Int) (l0_3 : List Int) (a0_4 : Bool) : Option (Bool) := impl_RulesOk.l0 k l0_3 (l0_3.length : Int) 0 a0_0 a0_1 a0_2 l0_3 a0_4
theorem impl_RulesOk.calls (k : Nat) (a0_0 : Int) (a0_1 : Int) (a0_2 : Int) (A0_3 : Option Addr) (c0_3 : Nat) (l0_3 : List Int) (a0_4 : Bool) (r : Bool) (w : World) (hr0_3 : Kd.C (Kd.int .i64) w A0_3 l0_3.length l0_3) (hc0_3 : l0_3.length ≤ c0_3) (h : impl_RulesOk.f k a0_0 a0_1 a0_2 l0_3 a0_4 = some r) :
  Calls Try.prog 123 #[.agg #[.int .i64 a0_0, .int .i64 a0_1, .int .i64 a0_2, .slice A0_3 l0_3.length c0_3, .bool a0_4]] w fun e w' => e = .returned (.bool r) ∧ Below w.heap.size w w' := by
 have hu33 := Try.underlying33
 have HR0_3 := Aside0.mk hr0_3
 have HC0_3 := Aside0.mk hc0_3
 clear hr0_3 hc0_3
 have HB := Aside0.mk (Below.refl w.heap.size w)
 have H : (impl_RulesOk.l0 k l0_3 (l0_3.length : Int) 0 a0_0 a0_1 a0_2 l0_3 a0_4) = some r := h
 clear h
 have H' := Aside0.mk H
 clear H
 go_enter Try.func123, Try.ntmps123
 go_wp2_with (first | ((with_reducible refine gate_dst (N := 1) rfl ?_); (try (refine gate_guard (by rfl) ?_; dsimp only)); refine bx (N := 1) (cs := #[.int .i64 a0_0, .int .i64 a0_1, .int .i64 a0_2, .slice A0_3 l0_3.length c0_3, .bool a0_4]) (t := 33) ?_; intro gb310 hg w2 hbox hb; have BK310 := Aside0.mk (hbox); have GW310 := gs hg HB; have GE310 := gs hg HB; replace HB := hs_ HB hb; clear hb hbox hg; have ⟨z3_0, z3_1, z3_2, z3_3, z3_4, v3_0, v3_1, v3_2, v3_3, v3_4⟩ := rz5 BK310))
 go_loopg [8] k (fun kq v8 w' => ∃ (x8_1 : Int), v8 = .int .i64 x8_1 ∧ Aside0 (impl_RulesOk.l0 kq l0_3 (l0_3.length : Int) x8_1 a0_0 a0_1 a0_2 l0_3 a0_4 = some r) ∧ Aside0 (kq ≤ k) ∧ Aside0 (w'.heap[gb310]? = some (.cells #[.int .i64 a0_0, .int .i64 a0_1, .int .i64 a0_2, (.slice A0_3 l0_3.length c0_3), .bool a0_4] 33 (0, 0))) ∧ Aside0 (Below w.heap.size w w'))
 case atStart => exact ⟨(0), e2_, H', ⟨Nat.le_refl _⟩, ⟨bk BK310⟩, ⟨bb HB⟩⟩
 case round =>
  clear H'
  (try clear c1)
  (try clear p2)
  (try clear z3_0 z3_1 z3_2 z3_3 z3_4)
  (try clear v3_0 v3_1 v3_2 v3_3 v3_4)
  obtain ⟨x8_1, rfl, HA, HK1, BK310, HB⟩ := hrel
  cases gk with
  | zero => exact absurd HA.out (by simp [impl_RulesOk.l0])
  | succ k1 =>
   have H := HA.out
   clear HA
   simp only [impl_RulesOk.l0] at H
   by_cases c4 : x8_1 < (l0_3.length : Int)
   ·rw [if_pos c4] at H
    have c4b0 : decide (x8_1 < (l0_3.length : Int)) = true := decide_eq_true c4
    clear c4
    by_cases c5 : 0 ≤ x8_1
    ·rw [if_pos c5] at H
     have c5b0 : decide (0 ≤ x8_1) = true := decide_eq_true c5
     clear c5
     by_cases c6 : x8_1 < (l0_3.length : Int)
     ·rw [if_pos c6] at H
      have c6b0 : decide (x8_1 < (l0_3.length : Int)) = true := decide_eq_true c6
      clear c6
      replace H := Option.bind_eq_some_iff.mp H
      obtain ⟨t313, A70, H⟩ := H
      try dsimp only at H
      have A7 := Aside0.mk A70
      clear A70
      by_cases c8 : t313 = true
      ·subst c8
       rw [if_pos rfl] at H
       have c9b0 := eq_true (oa : 0 ≤ x8_1)
       by_cases c10 : x8_1 ≤ (l0_3.length : Int)
       ·rw [if_pos c10] at H
        have c10b0 := eq_true c10
        have c10b1 : decide (x8_1 ≤ (l0_3.length : Int)) = true := decide_eq_true c10
        clear c10
        replace H := Option.bind_eq_some_iff.mp H
        obtain ⟨t315, A110, H⟩ := H
        try dsimp only at H
        have A11 := Aside0.mk A110
        clear A110
        by_cases c12 : t315 = true
        ·subst c12
         rw [if_pos rfl] at H
         obtain rfl := Option.some.inj H
         have p312 : 0 ≤ (x8_1 : Int) := oa
         have q312 : x8_1 < (l0_3.length : Int) := oa
         obtain ⟨ad312, e312, hx312_0⟩ := Kd.at_int HR0_3.out x8_1 p312 q312
         cases e312
         replace hx312_0 := hc HB hx312_0
         replace p312 := eq_true p312
         replace q312 := eq_true q312
         go_wp2_with (first | ((with_reducible refine gate_callee (f := 163) rfl ?_); refine gl (some 14) Try.func163 #[.int .i64 (rd l0_3 x8_1)] ?_; (with_reducible refine (impl_isKey.calls (rd l0_3 x8_1) true _ A7.out).mono ?_); rintro e w' ⟨rfl, ⟨nd, rfl⟩⟩; refine ⟨_, rfl, ?_⟩; have ⟨z13_0, z13_1, z13_2, z13_3, z13_4, v13_0, v13_1, v13_2, v13_3, v13_4⟩ := rz5 BK310; obtain ⟨i014, hi014, _, hsz14, _⟩ := info_parts info3; obtain ⟨hcut14, hA14, hC14⟩ := print_take_of (P := Try.prog) (Value.int .i64) 0 23 3 .i64 Try.underlying23 hi014 hsz14 (some ad312) c0_3 l0_3 x8_1 (oa) (oa) HC0_3.out; have HR314 := Aside0.mk (Kd.C_of_reads (h1 := fun _ => rfl) (hA14 _ (Kd.reads_of_C HR0_3.out))); have HC314 := Aside0.mk hC14; clear hA14 hC14 hi014 hsz14) | (go_at_call 95; refine calls_of_args (args' := #[.slice (some ad312) (l0_3.take (x8_1 : Int).toNat).length c0_3, .int .i64 (rd l0_3 x8_1)]) (by first | (rw [show (l0_3.take (x8_1 : Int).toNat).length = x8_1.toNat from (by rw [List.length_take]; have h_ : (x8_1 : Int) ≤ (l0_3.length : Int) := oa; omega)] <;> rfl) | rfl) ?_; (with_reducible refine (slices_Contains_int_int.calls k1 _ _ (l0_3.take (x8_1 : Int).toNat) (rd l0_3 x8_1) true _ ?side1 ?side2 A11.out).mono ?_); (case side1 => repeat (first | exact (Kd.C_below HR314.out (bb HB)) | (with_reducible refine Kd.C_alloc ?_ _) | (with_reducible refine Kd.C_drewN ?_ _) | (with_reducible refine Kd.C_drew ?_))); (case side2 => exact HC314.out); rintro e w' ⟨rfl, ⟨nd, rfl⟩⟩))
         go_ret
         exact ⟨ee, bb HB⟩
        ·replace c12 := Bool.eq_false_iff.mpr c12
         subst c12
         rw [if_neg (show ¬ (false = true) by decide)] at H
         have H' := Aside0.mk H
         clear H
         have p312 : 0 ≤ (x8_1 : Int) := oa
         have q312 : x8_1 < (l0_3.length : Int) := oa
         obtain ⟨ad312, e312, hx312_0⟩ := Kd.at_int HR0_3.out x8_1 p312 q312
         cases e312
         replace hx312_0 := hc HB hx312_0
         replace p312 := eq_true p312
         replace q312 := eq_true q312
         go_wp2_with (first | ((with_reducible refine gate_callee (f := 163) rfl ?_); refine gl (some 14) Try.func163 #[.int .i64 (rd l0_3 x8_1)] ?_; (with_reducible refine (impl_isKey.calls (rd l0_3 x8_1) true _ A7.out).mono ?_); rintro e w' ⟨rfl, ⟨nd, rfl⟩⟩; refine ⟨_, rfl, ?_⟩; have ⟨z15_0, z15_1, z15_2, z15_3, z15_4, v15_0, v15_1, v15_2, v15_3, v15_4⟩ := rz5 BK310; obtain ⟨i016, hi016, _, hsz16, _⟩ := info_parts info3; obtain ⟨hcut16, hA16, hC16⟩ := print_take_of (P := Try.prog) (Value.int .i64) 0 23 3 .i64 Try.underlying23 hi016 hsz16 (some ad312) c0_3 l0_3 x8_1 (oa) (oa) HC0_3.out; have HR314 := Aside0.mk (Kd.C_of_reads (h1 := fun _ => rfl) (hA16 _ (Kd.reads_of_C HR0_3.out))); have HC314 := Aside0.mk hC16; clear hA16 hC16 hi016 hsz16) | (go_at_call 95; refine calls_of_args (args' := #[.slice (some ad312) (l0_3.take (x8_1 : Int).toNat).length c0_3, .int .i64 (rd l0_3 x8_1)]) (by first | (rw [show (l0_3.take (x8_1 : Int).toNat).length = x8_1.toNat from (by rw [List.length_take]; have h_ : (x8_1 : Int) ≤ (l0_3.length : Int) := oa; omega)] <;> rfl) | rfl) ?_; (with_reducible refine (slices_Contains_int_int.calls k1 _ _ (l0_3.take (x8_1 : Int).toNat) (rd l0_3 x8_1) false _ ?side1 ?side2 A11.out).mono ?_); (case side1 => repeat (first | exact (Kd.C_below HR314.out (bb HB)) | (with_reducible refine Kd.C_alloc ?_ _) | (with_reducible refine Kd.C_drewN ?_ _) | (with_reducible refine Kd.C_drew ?_))); (case side2 => exact HC314.out); rintro e w' ⟨rfl, ⟨nd, rfl⟩⟩))
         go_roundg k1
         case measure => have := HK1.out; omega
         case rel => exact ⟨(wrap64 (x8_1 + 1)), e2_, H', ⟨by have := HK1.out; omega⟩, ⟨bk BK310⟩, ⟨bb HB⟩⟩
       ·rw [if_neg c10] at H
        exact absurd H (by simp)
      ·replace c8 := Bool.eq_false_iff.mpr c8
       subst c8
       rw [if_neg (show ¬ (false = true) by decide)] at H
       obtain rfl := Option.some.inj H
       have p312 : 0 ≤ (x8_1 : Int) := oa
       have q312 : x8_1 < (l0_3.length : Int) := oa
       obtain ⟨ad312, e312, hx312_0⟩ := Kd.at_int HR0_3.out x8_1 p312 q312
       cases e312
       replace hx312_0 := hc HB hx312_0
       replace p312 := eq_true p312
       replace q312 := eq_true q312
       go_wp2_with (first | ((with_reducible refine gate_callee (f := 163) rfl ?_); refine gl (some 14) Try.func163 #[.int .i64 (rd l0_3 x8_1)] ?_; (with_reducible refine (impl_isKey.calls (rd l0_3 x8_1) false _ A7.out).mono ?_); rintro e w' ⟨rfl, ⟨nd, rfl⟩⟩; refine ⟨_, rfl, ?_⟩))
       go_ret
       exact ⟨ee, bb HB⟩
     ·rw [if_neg c6] at H
      exact absurd H (by simp)
    ·rw [if_neg c5] at H
     exact absurd H (by simp)
   ·rw [if_neg c4] at H
    have c4b0 : decide (x8_1 < (l0_3.length : Int)) = false := decide_eq_false c4
    clear c4
    by_cases c17 : 0 ≤ a0_2
    ·rw [if_pos c17] at H
     have c17b0 : decide (0 ≤ a0_2) = true := decide_eq_true c17
     clear c17
     by_cases c18 : a0_2 ≤ a0_1
     ·rw [if_pos c18] at H
      have c18b0 : decide (a0_2 ≤ a0_1) = true := decide_eq_true c18
      clear c18
      by_cases c19 : a0_1 ≤ a0_0
      ·rw [if_pos c19] at H
       have c19b0 : decide (a0_1 ≤ a0_0) = true := decide_eq_true c19
       clear c19
       by_cases c20 : a0_0 ≤ 10
       ·rw [if_pos c20] at H
        have c20b0 : decide (a0_0 ≤ 10) = true := decide_eq_true c20
        clear c20
        replace H := Option.bind_eq_some_iff.mp H
        obtain ⟨t311, A210, H⟩ := H
        try dsimp only at H
        have A21 := Aside0.mk A210
        clear A210
        obtain rfl := Option.some.inj H
        have ⟨z22_0, z22_1, z22_2, z22_3, z22_4, v22_0, v22_1, v22_2, v22_3, v22_4⟩ := rz5 BK310
        go_wp2_with (first | (go_at_call 128; (with_reducible refine (impl_within.calls (l0_3.length : Int) 1 8 t311 _ A21.out).mono ?_); rintro e w' ⟨rfl, ⟨nd, rfl⟩⟩))
        go_ret
        exact ⟨ee, bb HB⟩
       ·rw [if_neg c20] at H
        have c20b0 : decide (a0_0 ≤ 10) = false := decide_eq_false c20
        clear c20
        obtain rfl := Option.some.inj H
        have ⟨z23_0, z23_1, z23_2, z23_3, z23_4, v23_0, v23_1, v23_2, v23_3, v23_4⟩ := rz5 BK310
        go_wp2
        go_ret
        exact ⟨ee, bb HB⟩
      ·rw [if_neg c19] at H
       have c19b0 : decide (a0_1 ≤ a0_0) = false := decide_eq_false c19
       clear c19
       obtain rfl := Option.some.inj H
       have ⟨z24_0, z24_1, z24_2, z24_3, z24_4, v24_0, v24_1, v24_2, v24_3, v24_4⟩ := rz5 BK310
       go_wp2
       go_ret
       exact ⟨ee, bb HB⟩
     ·rw [if_neg c18] at H
      have c18b0 : decide (a0_2 ≤ a0_1) = false := decide_eq_false c18
      clear c18
      obtain rfl := Option.some.inj H
      have ⟨z25_0, z25_1, z25_2, z25_3, z25_4, v25_0, v25_1, v25_2, v25_3, v25_4⟩ := rz5 BK310
      go_wp2
      go_ret
      exact ⟨ee, bb HB⟩
    ·rw [if_neg c17] at H
     have c17b0 : decide (0 ≤ a0_2) = false := decide_eq_false c17
     clear c17
     obtain rfl := Option.some.inj H
     have ⟨z26_0, z26_1, z26_2, z26_3, z26_4, v26_0, v26_1, v26_2, v26_3, v26_4⟩ := rz5 BK310
     go_wp2
     go_ret
     exact ⟨ee, bb HB⟩
end Go.Proofs.Ythfefanapneocaa.Q
