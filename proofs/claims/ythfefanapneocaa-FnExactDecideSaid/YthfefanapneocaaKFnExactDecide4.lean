/- A part of the proof of FnExactDecide: functions of the program, as plain functions, with the proof that the machine's call does what they say; plain lemmas; and those of the words that print.sh prints which this proof uses. No condition. -/
import Derived.Test.YthfefanapneocaaKFnExactDecide1
import Derived.Test.YthfefanapneocaaProg
import Derived.Below
import Derived.Deep.Draws
import Derived.Deep.AppendLies
import Derived.Maps.AppendAt
import Derived.OwnWalk
import Derived.Laws.BytesArg
import Derived.Laws.MakeOwn
import Derived.Laws.OwnMore
import Derived.Deep.OwnRows
import Derived.Tactics
import Derived.Lib.ConvBytes
import Derived.Laws.Slices
import Derived.WalkKit
import Derived.KernelRfl
import Derived.RowKit3
import Derived.Deep.LoopGhost
import Derived.Deep.QuietTactic
import Derived.BigQuiet
import Derived.WideLaws
import Derived.Deep.DeepCutAuto
import Derived.Deep.CutBlock
import Derived.Deep.RegionHeld3
import Derived.Laws.Rows
import Derived.Lib.AppendStr
import Derived.ArgAppend
import Derived.Laws.IdiomCopy
import Derived.OrdersHeld
import Derived.Laws.BitsLemmas
import Derived.RowKit
import Derived.WalkSpells
import Derived.Laws.StructEq
import Derived.Test.YthfefanapneocaaKFnExactDecide3
section
namespace Go.Proofs.Ythfefanapneocaa.Q
open Go.RowKit Go.Proofs.YthfefanapneocaaW.PrintWords Go.Proofs.YthfefanapneocaaW.PrintLast Go.Proofs.YthfefanapneocaaW.PrintMore
attribute [local go_sem] max2_int min2_int max_two min_two max_three min_three max_four min_four
set_option linter.unusedVariables false
set_option linter.unusedSimpArgs false
set_option maxRecDepth 100000
set_option maxHeartbeats 8000000
mutual
def impl_Decide.j0 : Nat → List (S50) → Bool → List (S139) → Int → Int → Int → List Int → Bool → List (S95) → List Int → List Int → Option ((List (S139)) × Int × Int × Int × List Int × Bool × (List (S95)) × List Int × List Int × Bool)
 | 0, _, _, _, _, _, _, _, _, _, _, _ => none
 | k + 1, x1, x16, x385000, x385001, x385002, x385003, x385004, x385005, x385006, x385007, x385008 => if x16 = true then (some (([] : List (S139)), 0, 0, 0, ([] : List Int), false, ([] : List (S95)), ([] : List Int), ([] : List Int), false)) else ((impl_Book_copied.f x385000 x385001 x385002 x385003 x385004 x385005 x385006 x385007 x385008).bind fun bt387 => (impl_Decide.l0 k x1 (x1.length : Int) 0 x385000 x385001 x385002 x385003 x385004 x385005 x385006 x385007 x385008 bt387.1 bt387.2.1 bt387.2.2.1 bt387.2.2.2.1 bt387.2.2.2.2.1 bt387.2.2.2.2.2.1 bt387.2.2.2.2.2.2.1 bt387.2.2.2.2.2.2.2.1 bt387.2.2.2.2.2.2.2.2))
def impl_Decide.l0 : Nat → List (S50) → Int → Int → List (S139) → Int → Int → Int → List Int → Bool → List (S95) → List Int → List Int → List (S139) → Int → Int → Int → List Int → Bool → List (S95) → List Int → List Int → Option ((List (S139)) × Int × Int × Int × List Int × Bool × (List (S95)) × List Int × List Int × Bool)
 | 0, _, _, _, _, _, _, _, _, _, _, _, _, _, _, _, _, _, _, _, _, _ => none
 | k + 1, x20, x21, x22, x385000, x385001, x385002, x385003, x385004, x385005, x385006, x385007, x385008, x407000, x407001, x407002, x407003, x407004, x407005, x407006, x407007, x407008 => if x22 < x21 then (if 0 ≤ x22 then (if x22 < (x20.length : Int) then ((impl_ProtestOk.f k x385000 x385001 x385002 x385003 x385004 x385005 x385006 x385007 x385008 ((rd_T50 x20 x22).f0) ((rd_T50 x20 x22).f1) ((rd_T50 x20 x22).f2)).bind fun t409 => (if t409 = true then (if 0 ≤ ((rd_T50 x20 x22).f1) then (if ((rd_T50 x20 x22).f1) < (x385006.length : Int) then (if ((rd_T50 x20 x22).f1) < (x407006.length : Int) then ((some (x407006.set (((rd_T50 x20 x22).f1) : Int).toNat (⟨(rd_T95 x385006 ((rd_T50 x20 x22).f1)).f0, (rd_T95 x385006 ((rd_T50 x20 x22).f1)).f1, (rd_T95 x385006 ((rd_T50 x20 x22).f1)).f2, (rd_T95 x385006 ((rd_T50 x20 x22).f1)).f3, (rd_T95 x385006 ((rd_T50 x20 x22).f1)).f4⟩ : S95) : List (S95))).bind fun y411 => (if (rd_T50 x20 x22).f2 = true then ((impl_awarded.f ((rd_T95 x385006 ((rd_T50 x20 x22).f1)).f0) ((rd_T95 x385006 ((rd_T50 x20 x22).f1)).f1) ((rd_T95 x385006 ((rd_T50 x20 x22).f1)).f2) ((rd_T95 x385006 ((rd_T50 x20 x22).f1)).f3) ((rd_T95 x385006 ((rd_T50 x20 x22).f1)).f4) ((rd_T50 x20 x22).f0)).bind fun bt413 => (impl_Decide.l0 k x20 x21 (wrap64 (x22 + 1)) x385000 x385001 x385002 x385003 x385004 x385005 x385006 x385007 x385008 x407000 x407001 x407002 x407003 x407004 x407005 (y411.set (((rd_T50 x20 x22).f1) : Int).toNat (⟨bt413.1, bt413.2.1, bt413.2.2.1, bt413.2.2.2.1, bt413.2.2.2.2⟩ : S95)) x407007 x407008)) else (impl_Decide.l0 k x20 x21 (wrap64 (x22 + 1)) x385000 x385001 x385002 x385003 x385004 x385005 x385006 x385007 x385008 x407000 x407001 x407002 x407003 x407004 x407005 y411 x407007 x407008))) else (none)) else (none)) else (none)) else (some (([] : List (S139)), 0, 0, 0, ([] : List Int), false, ([] : List (S95)), ([] : List Int), ([] : List Int), false)))) else (none)) else (none)) else (some (x407000, x407001, x407002, x407003, x407004, x407005, x407006, x407007, x407008, true))
end
def impl_Decide.f (k : Nat) (l0_0 : List (S139)) (a0_1 : Int) (a0_2 : Int) (a0_3 : Int) (l0_4 : List Int) (a0_5 : Bool) (l0_6 : List (S95)) (l0_7 : List Int) (l0_8 : List Int) (l1 : List (S50)) : Option ((List (S139)) × Int × Int × Int × List Int × Bool × (List (S95)) × List Int × List Int × Bool) := (impl_BookOk.f k l0_0 a0_1 a0_2 a0_3 l0_4 a0_5 l0_6 l0_7 l0_8).bind fun t386 => (if t386 = true then (impl_Decide.j0 k l1 (decide ((l1.length : Int) > 6)) l0_0 a0_1 a0_2 a0_3 l0_4 a0_5 l0_6 l0_7 l0_8) else (impl_Decide.j0 k l1 true l0_0 a0_1 a0_2 a0_3 l0_4 a0_5 l0_6 l0_7 l0_8))
def impl_Decide.T9 : Bool × List (List Nat × List Nat) := (true, [([], []), ([0], [0]), ([], []), ([2], [2]), ([], []), ([4], [4]), ([], []), ([6], [6]), ([5, 7], [5, 7]), ([8], [8]), ([1, 3, 0, 1, 2, 3, 4, 5, 6, 7, 8, 9], [1, 3]), ([10, 9, 0, 1, 2, 3, 4, 5, 6, 7, 8, 9], [9, 10])])
def impl_Decide.B9 : List Nat := [0, 1, 0, 4, 0, 16, 0, 64, 240, 496, 1023, 2047]
theorem impl_Decide.tab9 : rtab .any (opsOf Try.f15 9) = impl_Decide.T9 := by kernel_rfl
theorem impl_Decide.bits9 : waitsOk impl_Decide.T9.2 impl_Decide.B9 = true := by kernel_rfl
def impl_Decide.T11 : Bool × List (List Nat × List Nat) := (true, [([], []), ([0], [0]), ([], []), ([2], [2]), ([], []), ([4], [4]), ([], []), ([6], [6]), ([5, 7], [5, 7]), ([8], [8]), ([], []), ([10], [10]), ([9, 11], [9, 11]), ([1, 3, 0, 1, 2, 3, 4, 5, 6, 7, 8, 9, 10, 11, 12], [1, 3]), ([13, 12, 12, 0, 1, 2, 3, 4, 5, 6, 7, 8, 9, 10, 11, 12], [12, 13])])
def impl_Decide.B11 : List Nat := [0, 1, 0, 4, 0, 16, 0, 64, 240, 496, 0, 1024, 4080, 8191, 16383]
theorem impl_Decide.tab11 : rtab .any (opsOf Try.f15 11) = impl_Decide.T11 := by kernel_rfl
theorem impl_Decide.bits11 : waitsOk impl_Decide.T11.2 impl_Decide.B11 = true := by kernel_rfl
theorem impl_Decide.calls (k : Nat) (A0_0 : Option Addr) (c0_0 : Nat) (l0_0 : List (S139)) (a0_1 : Int) (a0_2 : Int) (a0_3 : Int) (A0_4 : Option Addr) (c0_4 : Nat) (l0_4 : List Int) (a0_5 : Bool) (A0_6 : Option Addr) (c0_6 : Nat) (l0_6 : List (S95)) (A0_7 : Option Addr) (c0_7 : Nat) (l0_7 : List Int) (A0_8 : Option Addr) (c0_8 : Nat) (l0_8 : List Int) (A1 : Option Addr) (c1 : Nat) (l1 : List (S50)) (r1 : List (S139)) (r2 : Int) (r3 : Int) (r4 : Int) (r5 : List Int) (r6 : Bool) (r7 : List (S95)) (r8 : List Int) (r9 : List Int) (r10 : Bool) (w : World) (hr0_0 : Kd.C k139 w A0_0 l0_0.length l0_0) (hc0_0 : l0_0.length ≤ c0_0) (hr0_4 : Kd.C (Kd.int .i64) w A0_4 l0_4.length l0_4) (hc0_4 : l0_4.length ≤ c0_4) (hr0_6 : Kd.C k95 w A0_6 l0_6.length l0_6) (hc0_6 : l0_6.length ≤ c0_6) (hr0_7 : Kd.C (Kd.int .i64) w A0_7 l0_7.length l0_7) (hc0_7 : l0_7.length ≤ c0_7) (hr0_8 : Kd.C (Kd.int .i64) w A0_8 l0_8.length l0_8) (hc0_8 : l0_8.length ≤ c0_8) (hr1 : Kd.C k50 w A1 l1.length l1) (hc1 : l1.length ≤ c1) (h : impl_Decide.f k l0_0 a0_1 a0_2 a0_3 l0_4 a0_5 l0_6 l0_7 l0_8 l1 = some (r1, r2, r3, r4, r5, r6, r7, r8, r9, r10)) :
  Calls Try.prog 15 #[.agg #[.slice A0_0 l0_0.length c0_0, .int .i64 a0_1, .int .i64 a0_2, .int .i64 a0_3, .slice A0_4 l0_4.length c0_4, .bool a0_5, .slice A0_6 l0_6.length c0_6, .slice A0_7 l0_7.length c0_7, .slice A0_8 l0_8.length c0_8], .slice A1 l1.length c1] w fun e w' => ∃ v0_ v4_ v6_ v7_ v8_ : Value, e = .returned (.tuple #[.agg #[v0_, .int .i64 r2, .int .i64 r3, .int .i64 r4, v4_, .bool r6, v6_, v7_, v8_], .bool r10]) ∧ Kd.R k139 139 w' w.heap.size (fun _ => True) v0_ r1 ∧ Kd.R (Kd.int .i64) 3 w' w.heap.size (fun k_ => some k_ ≠ (v7_ : Value).ownBlock ∧ some k_ ≠ (v8_ : Value).ownBlock) v4_ r5 ∧ Kd.R k95 95 w' w.heap.size (fun _ => True) v6_ r7 ∧ Kd.R (Kd.int .i64) 3 w' w.heap.size (fun k_ => some k_ ≠ (v4_ : Value).ownBlock ∧ some k_ ≠ (v8_ : Value).ownBlock) v7_ r8 ∧ Kd.R (Kd.int .i64) 3 w' w.heap.size (fun k_ => some k_ ≠ (v4_ : Value).ownBlock ∧ some k_ ≠ (v7_ : Value).ownBlock) v8_ r9 ∧ Below w.heap.size w w' := by
 have hu36 := Try.underlying36
 have hu50 := Try.underlying50
 have hu95 := Try.underlying95
 have HR0_0 := dk hr0_0
 have HC0_0 := dk hc0_0
 clear hr0_0 hc0_0
 have HR0_4 := dk hr0_4
 have HC0_4 := dk hc0_4
 clear hr0_4 hc0_4
 have HR0_6 := dk hr0_6
 have HC0_6 := dk hc0_6
 clear hr0_6 hc0_6
 have HR0_7 := dk hr0_7
 have HC0_7 := dk hc0_7
 clear hr0_7 hc0_7
 have HR0_8 := dk hr0_8
 have HC0_8 := dk hc0_8
 clear hr0_8 hc0_8
 have HR1 := dk hr1
 have HC1 := dk hc1
 clear hr1 hc1
 have HB := dk (Below.refl w.heap.size w)
 have H : ((impl_BookOk.f k l0_0 a0_1 a0_2 a0_3 l0_4 a0_5 l0_6 l0_7 l0_8).bind fun t386 => (if t386 = true then (impl_Decide.j0 k l1 (decide ((l1.length : Int) > 6)) l0_0 a0_1 a0_2 a0_3 l0_4 a0_5 l0_6 l0_7 l0_8) else (impl_Decide.j0 k l1 true l0_0 a0_1 a0_2 a0_3 l0_4 a0_5 l0_6 l0_7 l0_8))) = some (r1, r2, r3, r4, r5, r6, r7, r8, r9, r10) := h
 clear h
 have HC3 := dk H
 clear H
 go_enter Try.func15, Try.ntmps15
 go_upto_region 1 with (first | ((with_reducible refine gate_dst (N := 2) rfl ?_); (try (refine gate_guard (by rfl) ?_; dsimp only)); refine bx (N := 2) (cs := #[.slice A0_0 l0_0.length c0_0, .int .i64 a0_1, .int .i64 a0_2, .int .i64 a0_3, .slice A0_4 l0_4.length c0_4, .bool a0_5, .slice A0_6 l0_6.length c0_6, .slice A0_7 l0_7.length c0_7, .slice A0_8 l0_8.length c0_8]) (t := 36) ?_; intro gb384 hg w4 hbox hb; have BK384 := dk (hbox); have GW384 := gs hg HB; have GE384 := gs hg HB; replace HB := hs_ HB hb; clear hb hbox hg) | ((with_reducible refine gate_dst (N := 4) rfl ?_); (try (refine gate_guard (by rfl) ?_; dsimp only)); refine bx (N := 4) (cs := #[.slice none 0 0, .int .i64 0, .int .i64 0, .int .i64 0, .slice none 0 0, .bool false, .slice none 0 0, .slice none 0 0, .slice none 0 0]) (t := 36) ?_; intro gb385 hg w5 hbox hb; have BK385 := dk (hbox); have GW385 := gs hg HB; have GE385 := gs hg HB; replace HB := hs_ HB hb; have NB384_385 := gn hg BK384; have NB385_384 := gm hg BK384; replace BK384 := kb BK384 hb; clear hb hbox hg))
 (try simp only [Act.put, List.setIfInBounds_toArray, List.set_cons_zero, List.set_cons_succ])
 go_cut [16] (fun v16 wc => ∃ (kq : Nat) (x16_2 : Bool), v16 = .bool x16_2 ∧ Aside0 (impl_Decide.j0 kq l1 x16_2 l0_0 a0_1 a0_2 a0_3 l0_4 a0_5 l0_6 l0_7 l0_8 = some (r1, r2, r3, r4, r5, r6, r7, r8, r9, r10)) ∧ Aside0 (kq ≤ k) ∧ Aside0 (wc.heap[gb384]? = some (.cells #[(.slice A0_0 l0_0.length c0_0), .int .i64 a0_1, .int .i64 a0_2, .int .i64 a0_3, (.slice A0_4 l0_4.length c0_4), .bool a0_5, (.slice A0_6 l0_6.length c0_6), (.slice A0_7 l0_7.length c0_7), (.slice A0_8 l0_8.length c0_8)] 36 (0, 0))) ∧ Aside0 (wc.heap[gb385]? = some (.cells #[(.slice none 0 0), .int .i64 0, .int .i64 0, .int .i64 0, (.slice none 0 0), .bool false, (.slice none 0 0), (.slice none 0 0), (.slice none 0 0)] 36 (0, 0))) ∧ Aside0 (Below w.heap.size w wc))
 case first =>
  have H := HC3.out
  clear HC3
  replace H := Option.bind_eq_some_iff.mp H
  obtain ⟨t386, A60, H⟩ := H
  replace H : (if t386 = true then (impl_Decide.j0 k l1 (decide ((l1.length : Int) > 6)) l0_0 a0_1 a0_2 a0_3 l0_4 a0_5 l0_6 l0_7 l0_8) else (impl_Decide.j0 k l1 true l0_0 a0_1 a0_2 a0_3 l0_4 a0_5 l0_6 l0_7 l0_8)) = some (r1, r2, r3, r4, r5, r6, r7, r8, r9, r10) := H
  have A6 := dk A60
  clear A60
  by_cases c7 : t386 = true
  ·subst c7
   have H1 : (impl_Decide.j0 k l1 (decide ((l1.length : Int) > 6)) l0_0 a0_1 a0_2 a0_3 l0_4 a0_5 l0_6 l0_7 l0_8) = some (r1, r2, r3, r4, r5, r6, r7, r8, r9, r10) := by rw [if_pos rfl] at H; exact H
   clear H
   have H := H1
   clear H1
   have H' := dk H
   clear H
   have hnb8 := NB384_385.out
   have hnc8 := NB385_384.out
   have ⟨z9_0, z9_1, z9_2, z9_3, z9_4, z9_5, z9_6, z9_7, z9_8, v9_0, v9_1, v9_2, v9_3, v9_4, v9_5, v9_6, v9_7, v9_8⟩ := rz9 BK384
   go_wp2_with (first | ((with_reducible refine gate_callee (f := 61) rfl ?_); refine gl (some 10) Try.func61 #[.agg #[.slice A0_0 l0_0.length c0_0, .int .i64 a0_1, .int .i64 a0_2, .int .i64 a0_3, .slice A0_4 l0_4.length c0_4, .bool a0_5, .slice A0_6 l0_6.length c0_6, .slice A0_7 l0_7.length c0_7, .slice A0_8 l0_8.length c0_8]] ?_; (with_reducible refine (impl_BookOk.calls k _ _ l0_0 a0_1 a0_2 a0_3 _ _ l0_4 a0_5 _ _ l0_6 _ _ l0_7 _ _ l0_8 true _ ?side1 ?side2 ?side3 ?side4 ?side5 ?side6 ?side7 ?side8 ?side9 ?side10 A6.out).mono ?_); (case side1 => exact cc HR0_0 HB); (case side2 => exact HC0_0.out); (case side3 => exact cc HR0_4 HB); (case side4 => exact HC0_4.out); (case side5 => exact cc HR0_6 HB); (case side6 => exact HC0_6.out); (case side7 => exact cc HR0_7 HB); (case side8 => exact HC0_7.out); (case side9 => exact cc HR0_8 HB); (case side10 => exact HC0_8.out); rintro e w10 ⟨rfl, hb⟩; refine ⟨_, rfl, ?_⟩; replace BK384 := kb BK384 hb; replace BK385 := kb BK385 hb; replace HB := hs_ HB hb; (try clear hb hb2 hk hi)))
   go_meet
   case rel => exact ⟨_, (decide ((l1.length : Int) > 6)), e2_, H', ⟨by first | omega | exact Nat.le_refl _⟩, ⟨bk BK384⟩, ⟨bk BK385⟩, ⟨bb HB⟩⟩
  ·replace c7 := Bool.eq_false_iff.mpr c7
   subst c7
   have H1 : (impl_Decide.j0 k l1 true l0_0 a0_1 a0_2 a0_3 l0_4 a0_5 l0_6 l0_7 l0_8) = some (r1, r2, r3, r4, r5, r6, r7, r8, r9, r10) := by rw [if_neg (show ¬ (false = true) by decide)] at H; exact H
   clear H
   have H := H1
   clear H1
   have H' := dk H
   clear H
   have hnb11 := NB384_385.out
   have hnc11 := NB385_384.out
   have ⟨z12_0, z12_1, z12_2, z12_3, z12_4, z12_5, z12_6, z12_7, z12_8, v12_0, v12_1, v12_2, v12_3, v12_4, v12_5, v12_6, v12_7, v12_8⟩ := rz9 BK384
   go_wp2_with (first | ((with_reducible refine gate_callee (f := 61) rfl ?_); refine gl (some 10) Try.func61 #[.agg #[.slice A0_0 l0_0.length c0_0, .int .i64 a0_1, .int .i64 a0_2, .int .i64 a0_3, .slice A0_4 l0_4.length c0_4, .bool a0_5, .slice A0_6 l0_6.length c0_6, .slice A0_7 l0_7.length c0_7, .slice A0_8 l0_8.length c0_8]] ?_; (with_reducible refine (impl_BookOk.calls k _ _ l0_0 a0_1 a0_2 a0_3 _ _ l0_4 a0_5 _ _ l0_6 _ _ l0_7 _ _ l0_8 false _ ?side1 ?side2 ?side3 ?side4 ?side5 ?side6 ?side7 ?side8 ?side9 ?side10 A6.out).mono ?_); (case side1 => exact cc HR0_0 HB); (case side2 => exact HC0_0.out); (case side3 => exact cc HR0_4 HB); (case side4 => exact HC0_4.out); (case side5 => exact cc HR0_6 HB); (case side6 => exact HC0_6.out); (case side7 => exact cc HR0_7 HB); (case side8 => exact HC0_7.out); (case side9 => exact cc HR0_8 HB); (case side10 => exact HC0_8.out); rintro e w13 ⟨rfl, hb⟩; refine ⟨_, rfl, ?_⟩; replace BK384 := kb BK384 hb; replace BK385 := kb BK385 hb; replace HB := hs_ HB hb; (try clear hb hb2 hk hi)))
   go_meet
   case rel => exact ⟨_, (true), e2_, H', ⟨by first | omega | exact Nat.le_refl _⟩, ⟨bk BK384⟩, ⟨bk BK385⟩, ⟨bb HB⟩⟩
 case rest =>
  clear HC3
  (try clear c1)
  (try clear p2)
  (try clear c6)
  (try clear c7)
  (try clear c8)
  (try clear c11)
  (try clear z12_0 z12_1 z12_2 z12_3 z12_4 z12_5 z12_6 z12_7 z12_8)
  (try clear z9_0 z9_1 z9_2 z9_3 z9_4 z9_5 z9_6 z9_7 z9_8)
  (try clear v12_0 v12_1 v12_2 v12_3 v12_4 v12_5 v12_6 v12_7 v12_8)
  (try clear v9_0 v9_1 v9_2 v9_3 v9_4 v9_5 v9_6 v9_7 v9_8)
  obtain ⟨kq, x16_2, rfl, HA, HJ2, BK384, BK385, HB⟩ := hcut
  cases kq with
  | zero => exact absurd HA.out (by simp [impl_Decide.j0])
  | succ kj2 =>
   have H := HA.out
   clear HA
   simp only [impl_Decide.j0] at H
   by_cases c14 : x16_2 = true
   ·subst c14
    have H1 : (some (([] : List (S139)), 0, 0, 0, ([] : List Int), false, ([] : List (S95)), ([] : List Int), ([] : List Int), false)) = some (r1, r2, r3, r4, r5, r6, r7, r8, r9, r10) := by rw [if_pos rfl] at H; exact H
    clear H
    have H := H1
    clear H1
    simp only [Option.some.injEq, Prod.mk.injEq] at H
    obtain ⟨rfl, rfl, rfl, rfl, rfl, rfl, rfl, rfl, rfl, rfl⟩ := H
    have hnb15 := NB385_384.out
    have hnc15 := NB384_385.out
    have ⟨z16_0, z16_1, z16_2, z16_3, z16_4, z16_5, z16_6, z16_7, z16_8, v16_0, v16_1, v16_2, v16_3, v16_4, v16_5, v16_6, v16_7, v16_8⟩ := rz9 BK385
    go_wp2
    refine bodyPost_ret (results_ct rfl _ _ gb385 36 #[.slice none 0 0, .int .i64 0, .int .i64 0, .int .i64 0, .slice none 0 0, .bool false, .slice none 0 0, .slice none 0 0, .slice none 0 0] (0, 0) _ rfl (by (with_reducible repeat (first | refine blk_drewN ?_ _ | refine blk_drew ?_ | refine blk_alloc ?_ _)); refine blk_put (cs := #[.slice none 0 0, .int .i64 0, .int .i64 0, .int .i64 0, .slice none 0 0, .bool false, .slice none 0 0, .slice none 0 0, .slice none 0 0]) ?_ 8 _ rfl; (with_reducible repeat (first | refine blk_drewN ?_ _ | refine blk_drew ?_ | refine blk_alloc ?_ _)); refine blk_put (cs := #[.slice none 0 0, .int .i64 0, .int .i64 0, .int .i64 0, .slice none 0 0, .bool false, .slice none 0 0, .slice none 0 0, .slice none 0 0]) ?_ 7 _ rfl; (with_reducible repeat (first | refine blk_drewN ?_ _ | refine blk_drew ?_ | refine blk_alloc ?_ _)); refine blk_put (cs := #[.slice none 0 0, .int .i64 0, .int .i64 0, .int .i64 0, .slice none 0 0, .bool false, .slice none 0 0, .slice none 0 0, .slice none 0 0]) ?_ 6 _ rfl; (with_reducible repeat (first | refine blk_drewN ?_ _ | refine blk_drew ?_ | refine blk_alloc ?_ _)); refine blk_put (cs := #[.slice none 0 0, .int .i64 0, .int .i64 0, .int .i64 0, .slice none 0 0, .bool false, .slice none 0 0, .slice none 0 0, .slice none 0 0]) ?_ 5 _ rfl; (with_reducible repeat (first | refine blk_drewN ?_ _ | refine blk_drew ?_ | refine blk_alloc ?_ _)); refine blk_put (cs := #[.slice none 0 0, .int .i64 0, .int .i64 0, .int .i64 0, .slice none 0 0, .bool false, .slice none 0 0, .slice none 0 0, .slice none 0 0]) ?_ 4 _ rfl; (with_reducible repeat (first | refine blk_drewN ?_ _ | refine blk_drew ?_ | refine blk_alloc ?_ _)); refine blk_put (cs := #[.slice none 0 0, .int .i64 0, .int .i64 0, .int .i64 0, .slice none 0 0, .bool false, .slice none 0 0, .slice none 0 0, .slice none 0 0]) ?_ 3 _ rfl; (with_reducible repeat (first | refine blk_drewN ?_ _ | refine blk_drew ?_ | refine blk_alloc ?_ _)); refine blk_put (cs := #[.slice none 0 0, .int .i64 0, .int .i64 0, .int .i64 0, .slice none 0 0, .bool false, .slice none 0 0, .slice none 0 0, .slice none 0 0]) ?_ 2 _ rfl; (with_reducible repeat (first | refine blk_drewN ?_ _ | refine blk_drew ?_ | refine blk_alloc ?_ _)); refine blk_put (cs := #[.slice none 0 0, .int .i64 0, .int .i64 0, .int .i64 0, .slice none 0 0, .bool false, .slice none 0 0, .slice none 0 0, .slice none 0 0]) ?_ 1 _ rfl; (with_reducible repeat (first | refine blk_drewN ?_ _ | refine blk_drew ?_ | refine blk_alloc ?_ _)); refine blk_put (cs := #[.slice none 0 0, .int .i64 0, .int .i64 0, .int .i64 0, .slice none 0 0, .bool false, .slice none 0 0, .slice none 0 0, .slice none 0 0]) ?_ 0 _ rfl; (with_reducible repeat (first | refine blk_drewN ?_ _ | refine blk_drew ?_ | refine blk_alloc ?_ _)); exact BK385.out) Try.underlying36 rfl (by kernel_rfl)) rfl ?_
    exact ⟨_, _, _, _, _, ee, by first | exact Kd.R_nil _ _ _ _ _ | exact Kd.N_nil _ _ _ _ _ | exact Kd.V_nil _ _ _ _ _ | exact Kd.Q_nil _ _ _ _ _ | exact Kd.S_nil _ _ _ _ _, by first | exact Kd.R_nil _ _ _ _ _ | exact Kd.N_nil _ _ _ _ _ | exact Kd.V_nil _ _ _ _ _ | exact Kd.Q_nil _ _ _ _ _ | exact Kd.S_nil _ _ _ _ _, by first | exact Kd.R_nil _ _ _ _ _ | exact Kd.N_nil _ _ _ _ _ | exact Kd.V_nil _ _ _ _ _ | exact Kd.Q_nil _ _ _ _ _ | exact Kd.S_nil _ _ _ _ _, by first | exact Kd.R_nil _ _ _ _ _ | exact Kd.N_nil _ _ _ _ _ | exact Kd.V_nil _ _ _ _ _ | exact Kd.Q_nil _ _ _ _ _ | exact Kd.S_nil _ _ _ _ _, by first | exact Kd.R_nil _ _ _ _ _ | exact Kd.N_nil _ _ _ _ _ | exact Kd.V_nil _ _ _ _ _ | exact Kd.Q_nil _ _ _ _ _ | exact Kd.S_nil _ _ _ _ _, bb HB⟩
   ·replace c14 := Bool.eq_false_iff.mpr c14
    subst c14
    have H1 : ((impl_Book_copied.f l0_0 a0_1 a0_2 a0_3 l0_4 a0_5 l0_6 l0_7 l0_8).bind fun bt387 => (impl_Decide.l0 kj2 l1 (l1.length : Int) 0 l0_0 a0_1 a0_2 a0_3 l0_4 a0_5 l0_6 l0_7 l0_8 bt387.1 bt387.2.1 bt387.2.2.1 bt387.2.2.2.1 bt387.2.2.2.2.1 bt387.2.2.2.2.2.1 bt387.2.2.2.2.2.2.1 bt387.2.2.2.2.2.2.2.1 bt387.2.2.2.2.2.2.2.2)) = some (r1, r2, r3, r4, r5, r6, r7, r8, r9, r10) := by rw [if_neg (show ¬ (false = true) by decide)] at H; exact H
    clear H
    have H := H1
    clear H1
    replace H := Option.bind_eq_some_iff.mp H
    obtain ⟨⟨t387, t390, t391, t392, t393, t396, t397, t400, t403⟩, A170, H⟩ := H
    replace H : (impl_Decide.l0 kj2 l1 (l1.length : Int) 0 l0_0 a0_1 a0_2 a0_3 l0_4 a0_5 l0_6 l0_7 l0_8 t387 t390 t391 t392 t393 t396 t397 t400 t403) = some (r1, r2, r3, r4, r5, r6, r7, r8, r9, r10) := H
    have A17 := dk A170
    clear A170
    have H' := dk H
    clear H
    have hnb18 := NB384_385.out
    have hnc18 := NB385_384.out
    have ⟨z19_0, z19_1, z19_2, z19_3, z19_4, z19_5, z19_6, z19_7, z19_8, v19_0, v19_1, v19_2, v19_3, v19_4, v19_5, v19_6, v19_7, v19_8⟩ := rz9 BK384
    go_wp2_with (first | ((with_reducible refine gate_callee (f := 62) rfl ?_); refine gl (some 19) Try.func62 #[.agg #[.slice A0_0 l0_0.length c0_0, .int .i64 a0_1, .int .i64 a0_2, .int .i64 a0_3, .slice A0_4 l0_4.length c0_4, .bool a0_5, .slice A0_6 l0_6.length c0_6, .slice A0_7 l0_7.length c0_7, .slice A0_8 l0_8.length c0_8]] ?_; (with_reducible refine (impl_Book_copied.calls _ _ l0_0 a0_1 a0_2 a0_3 _ _ l0_4 a0_5 _ _ l0_6 _ _ l0_7 _ _ l0_8 t387 t390 t391 t392 t393 t396 t397 t400 t403 _ ?side1 ?side2 ?side3 ?side4 ?side5 ?side6 ?side7 ?side8 ?side9 ?side10 A17.out).mono ?_); (case side1 => exact cc HR0_0 HB); (case side2 => exact HC0_0.out); (case side3 => exact cc HR0_4 HB); (case side4 => exact HC0_4.out); (case side5 => exact cc HR0_6 HB); (case side6 => exact HC0_6.out); (case side7 => exact cc HR0_7 HB); (case side8 => exact HC0_7.out); (case side9 => exact cc HR0_8 HB); (case side10 => exact HC0_8.out); rintro e w20 ⟨v388, v394, v398, v401, v404, rfl, ho0, ho1, ho2, ho3, ho4, hb⟩; refine ⟨_, rfl, ?_⟩; have HO389 := kl ho0 HB; have HO395 := kl ho1 HB; have HO399 := kl ho2 HB; have HO402 := kl ho3 HB; have HO405 := kl ho4 HB; replace BK384 := kb BK384 hb; replace BK385 := kb BK385 hb; replace HB := hs_ HB hb; (try clear hb hb2 hk hi ho0 ho1 ho2 ho3 ho4)) | ((with_reducible refine gate_dst (N := 6) rfl ?_); (try (refine gate_guard (by rfl) ?_; dsimp only)); refine bx (N := 6) (cs := #[.slice none 0 0, .int .i64 0, .int .i64 0, .int .i64 0, .slice none 0 0, .bool false, .slice none 0 0, .slice none 0 0, .slice none 0 0]) (t := 36) ?_; intro gb406 hg w21 hbox hb; replace HO389 := kr HO389 hb; replace HO395 := kr HO395 hb; replace HO399 := kr HO399 hb; replace HO402 := kr HO402 hb; replace HO405 := kr HO405 hb; have BK406 := dk (hbox); have GW406 := gs hg HB; have GE406 := gs hg HB; replace HB := hs_ HB hb; have NB384_406 := gn hg BK384; have NB406_384 := gm hg BK384; replace BK384 := kb BK384 hb; have NB385_406 := gn hg BK385; have NB406_385 := gm hg BK385; replace BK385 := kb BK385 hb; clear hb hbox hg; obtain ⟨Ao22, co22, eo22⟩ := Kd.R_slice HO389.out; subst eo22; have hnb23 := NB406_384.out; have hnc23 := NB384_406.out; have hnb24 := NB406_385.out; have hnc24 := NB385_406.out; have ⟨z25_0, z25_1, z25_2, z25_3, z25_4, z25_5, z25_6, z25_7, z25_8, v25_0, v25_1, v25_2, v25_3, v25_4, v25_5, v25_6, v25_7, v25_8⟩ := rz9 BK406; obtain ⟨Ao26, co26, eo26⟩ := Kd.R_slice HO395.out; subst eo26; obtain ⟨Ao27, co27, eo27⟩ := Kd.R_slice HO399.out; subst eo27; obtain ⟨Ao28, co28, eo28⟩ := Kd.R_slice HO402.out; subst eo28; obtain ⟨Ao29, co29, eo29⟩ := Kd.R_slice HO405.out; subst eo29))
    go_loopg [22] kj2 (fun kq v22 w' => ∃ (x22_2 : Int) (x386001_2 : Int) (x386002_2 : Int) (x386003_2 : Int) (x386005_2 : Bool) (x407006_2 : List (S95)) (u407006 : Value), v22 = .int .i64 x22_2 ∧ Aside0 (impl_Decide.l0 kq l1 (l1.length : Int) x22_2 l0_0 a0_1 a0_2 a0_3 l0_4 a0_5 l0_6 l0_7 l0_8 t387 t390 t391 t392 t393 t396 x407006_2 t400 t403 = some (r1, r2, r3, r4, r5, r6, r7, r8, r9, r10)) ∧ Aside0 (kq ≤ kj2) ∧ Aside0 (Kd.R k139 139 w' w.heap.size (fun _ => True) (.slice Ao22 t387.length co22) t387) ∧ Aside0 (Kd.R (Kd.int .i64) 3 w' w.heap.size (fun k_ => nb k_ Ao28 t400.length co28 ∧ nb k_ Ao29 t403.length co29) (.slice Ao26 t393.length co26) t393) ∧ Aside0 (Kd.R k95 95 w' w.heap.size (fun _ => True) u407006 x407006_2) ∧ Aside0 (Kd.R (Kd.int .i64) 3 w' w.heap.size (fun k_ => nb k_ Ao26 t393.length co26 ∧ nb k_ Ao29 t403.length co29) (.slice Ao28 t400.length co28) t400) ∧ Aside0 (Kd.R (Kd.int .i64) 3 w' w.heap.size (fun k_ => nb k_ Ao26 t393.length co26 ∧ nb k_ Ao28 t400.length co28) (.slice Ao29 t403.length co29) t403) ∧ Aside0 (w'.heap[gb384]? = some (.cells #[(.slice A0_0 l0_0.length c0_0), .int .i64 a0_1, .int .i64 a0_2, .int .i64 a0_3, (.slice A0_4 l0_4.length c0_4), .bool a0_5, (.slice A0_6 l0_6.length c0_6), (.slice A0_7 l0_7.length c0_7), (.slice A0_8 l0_8.length c0_8)] 36 (0, 0))) ∧ Aside0 (w'.heap[gb385]? = some (.cells #[(.slice none 0 0), .int .i64 x386001_2, .int .i64 x386002_2, .int .i64 x386003_2, (.slice none 0 0), .bool x386005_2, (.slice none 0 0), (.slice none 0 0), (.slice none 0 0)] 36 (0, 0))) ∧ Aside0 (w'.heap[gb406]? = some (.cells #[(.slice Ao22 t387.length co22), .int .i64 t390, .int .i64 t391, .int .i64 t392, (.slice Ao26 t393.length co26), .bool t396, u407006, (.slice Ao28 t400.length co28), (.slice Ao29 t403.length co29)] 36 (0, 0))) ∧ Aside0 (Below w.heap.size w w'))
    case atStart => exact ⟨(0), (0), (0), (0), (false), (t397), (.slice Ao27 t397.length co27), e2_, H', ⟨Nat.le_refl _⟩, ⟨rf HO389 BK406 (fun _ hk => trivial)⟩, ⟨rf HO395 BK406 (fun _ hk => ⟨hk.1.1, hk.1.2⟩)⟩, ⟨rf HO399 BK406 (fun _ hk => trivial)⟩, ⟨rf HO402 BK406 (fun _ hk => ⟨hk.1.1, hk.1.2⟩)⟩, ⟨rf HO405 BK406 (fun _ hk => ⟨hk.1.1, hk.1.2⟩)⟩, ⟨bf NB384_406.out BK384⟩, ⟨bf NB385_406.out BK385⟩, ⟨by (with_reducible repeat (first | refine blk_drewN ?_ _ | refine blk_drew ?_ | refine blk_alloc ?_ _)); refine blk_put (cs := #[.slice Ao22 t387.length co22, .int .i64 t390, .int .i64 t391, .int .i64 t392, .slice Ao26 t393.length co26, .bool t396, .slice Ao27 t397.length co27, .slice Ao28 t400.length co28, .slice none 0 0]) ?_ 8 _ rfl; (with_reducible repeat (first | refine blk_drewN ?_ _ | refine blk_drew ?_ | refine blk_alloc ?_ _)); refine blk_put (cs := #[.slice Ao22 t387.length co22, .int .i64 t390, .int .i64 t391, .int .i64 t392, .slice Ao26 t393.length co26, .bool t396, .slice Ao27 t397.length co27, .slice none 0 0, .slice none 0 0]) ?_ 7 _ rfl; (with_reducible repeat (first | refine blk_drewN ?_ _ | refine blk_drew ?_ | refine blk_alloc ?_ _)); refine blk_put (cs := #[.slice Ao22 t387.length co22, .int .i64 t390, .int .i64 t391, .int .i64 t392, .slice Ao26 t393.length co26, .bool t396, .slice none 0 0, .slice none 0 0, .slice none 0 0]) ?_ 6 _ rfl; (with_reducible repeat (first | refine blk_drewN ?_ _ | refine blk_drew ?_ | refine blk_alloc ?_ _)); refine blk_put (cs := #[.slice Ao22 t387.length co22, .int .i64 t390, .int .i64 t391, .int .i64 t392, .slice Ao26 t393.length co26, .bool false, .slice none 0 0, .slice none 0 0, .slice none 0 0]) ?_ 5 _ rfl; (with_reducible repeat (first | refine blk_drewN ?_ _ | refine blk_drew ?_ | refine blk_alloc ?_ _)); refine blk_put (cs := #[.slice Ao22 t387.length co22, .int .i64 t390, .int .i64 t391, .int .i64 t392, .slice none 0 0, .bool false, .slice none 0 0, .slice none 0 0, .slice none 0 0]) ?_ 4 _ rfl; (with_reducible repeat (first | refine blk_drewN ?_ _ | refine blk_drew ?_ | refine blk_alloc ?_ _)); refine blk_put (cs := #[.slice Ao22 t387.length co22, .int .i64 t390, .int .i64 t391, .int .i64 0, .slice none 0 0, .bool false, .slice none 0 0, .slice none 0 0, .slice none 0 0]) ?_ 3 _ rfl; (with_reducible repeat (first | refine blk_drewN ?_ _ | refine blk_drew ?_ | refine blk_alloc ?_ _)); refine blk_put (cs := #[.slice Ao22 t387.length co22, .int .i64 t390, .int .i64 0, .int .i64 0, .slice none 0 0, .bool false, .slice none 0 0, .slice none 0 0, .slice none 0 0]) ?_ 2 _ rfl; (with_reducible repeat (first | refine blk_drewN ?_ _ | refine blk_drew ?_ | refine blk_alloc ?_ _)); refine blk_put (cs := #[.slice Ao22 t387.length co22, .int .i64 0, .int .i64 0, .int .i64 0, .slice none 0 0, .bool false, .slice none 0 0, .slice none 0 0, .slice none 0 0]) ?_ 1 _ rfl; (with_reducible repeat (first | refine blk_drewN ?_ _ | refine blk_drew ?_ | refine blk_alloc ?_ _)); refine blk_put (cs := #[.slice none 0 0, .int .i64 0, .int .i64 0, .int .i64 0, .slice none 0 0, .bool false, .slice none 0 0, .slice none 0 0, .slice none 0 0]) ?_ 0 _ rfl; (with_reducible repeat (first | refine blk_drewN ?_ _ | refine blk_drew ?_ | refine blk_alloc ?_ _)); exact BK406.out⟩, ⟨bb HB⟩⟩
    case round =>
     clear H'
     (try clear c1)
     (try clear c2)
     (try clear p2)
     (try clear c6)
     (try clear c7)
     (try clear c8)
     (try clear c11)
     (try clear c14)
     (try clear c15)
     (try clear c18)
     (try clear c23)
     (try clear c24)
     (try clear z12_0 z12_1 z12_2 z12_3 z12_4 z12_5 z12_6 z12_7 z12_8)
     (try clear z16_0 z16_1 z16_2 z16_3 z16_4 z16_5 z16_6 z16_7 z16_8)
     (try clear z19_0 z19_1 z19_2 z19_3 z19_4 z19_5 z19_6 z19_7 z19_8)
     (try clear z25_0 z25_1 z25_2 z25_3 z25_4 z25_5 z25_6 z25_7 z25_8)
     (try clear z9_0 z9_1 z9_2 z9_3 z9_4 z9_5 z9_6 z9_7 z9_8)
     (try clear v12_0 v12_1 v12_2 v12_3 v12_4 v12_5 v12_6 v12_7 v12_8)
     (try clear v16_0 v16_1 v16_2 v16_3 v16_4 v16_5 v16_6 v16_7 v16_8)
     (try clear v19_0 v19_1 v19_2 v19_3 v19_4 v19_5 v19_6 v19_7 v19_8)
     (try clear v25_0 v25_1 v25_2 v25_3 v25_4 v25_5 v25_6 v25_7 v25_8)
     (try clear v9_0 v9_1 v9_2 v9_3 v9_4 v9_5 v9_6 v9_7 v9_8)
     (try clear p2)
     obtain ⟨x22_2, x386001_2, x386002_2, x386003_2, x386005_2, x407006_2, u407006, rfl, HA, HK2, HO_407000, HO_407004, HO_407006, HO_407007, HO_407008, BK384, BK385, BK406, HB⟩ := hrel
     cases gk with
     | zero => exact absurd HA.out (by simp [impl_Decide.l0])
     | succ k2 =>
      have H := HA.out
      clear HA
      simp only [impl_Decide.l0] at H
      by_cases c30 : x22_2 < (l1.length : Int)
      ·rw [if_pos c30] at H
       have c30b0 : decide (x22_2 < (l1.length : Int)) = true := decide_eq_true c30
       clear c30
       by_cases c31 : 0 ≤ x22_2
       ·rw [if_pos c31] at H
        have c31b0 : decide (0 ≤ x22_2) = true := decide_eq_true c31
        clear c31
        by_cases c32 : x22_2 < (l1.length : Int)
        ·rw [if_pos c32] at H
         have c32b0 : decide (x22_2 < (l1.length : Int)) = true := decide_eq_true c32
         clear c32
         replace H := Option.bind_eq_some_iff.mp H
         obtain ⟨t409, A330, H⟩ := H
         replace H : (if t409 = true then (if 0 ≤ ((rd_T50 l1 x22_2).f1) then (if ((rd_T50 l1 x22_2).f1) < (l0_6.length : Int) then (if ((rd_T50 l1 x22_2).f1) < (x407006_2.length : Int) then ((some (x407006_2.set (((rd_T50 l1 x22_2).f1) : Int).toNat (⟨(rd_T95 l0_6 ((rd_T50 l1 x22_2).f1)).f0, (rd_T95 l0_6 ((rd_T50 l1 x22_2).f1)).f1, (rd_T95 l0_6 ((rd_T50 l1 x22_2).f1)).f2, (rd_T95 l0_6 ((rd_T50 l1 x22_2).f1)).f3, (rd_T95 l0_6 ((rd_T50 l1 x22_2).f1)).f4⟩ : S95) : List (S95))).bind fun y411 => (if (rd_T50 l1 x22_2).f2 = true then ((impl_awarded.f ((rd_T95 l0_6 ((rd_T50 l1 x22_2).f1)).f0) ((rd_T95 l0_6 ((rd_T50 l1 x22_2).f1)).f1) ((rd_T95 l0_6 ((rd_T50 l1 x22_2).f1)).f2) ((rd_T95 l0_6 ((rd_T50 l1 x22_2).f1)).f3) ((rd_T95 l0_6 ((rd_T50 l1 x22_2).f1)).f4) ((rd_T50 l1 x22_2).f0)).bind fun bt413 => (impl_Decide.l0 k2 l1 (l1.length : Int) (wrap64 (x22_2 + 1)) l0_0 a0_1 a0_2 a0_3 l0_4 a0_5 l0_6 l0_7 l0_8 t387 t390 t391 t392 t393 t396 (y411.set (((rd_T50 l1 x22_2).f1) : Int).toNat (⟨bt413.1, bt413.2.1, bt413.2.2.1, bt413.2.2.2.1, bt413.2.2.2.2⟩ : S95)) t400 t403)) else (impl_Decide.l0 k2 l1 (l1.length : Int) (wrap64 (x22_2 + 1)) l0_0 a0_1 a0_2 a0_3 l0_4 a0_5 l0_6 l0_7 l0_8 t387 t390 t391 t392 t393 t396 y411 t400 t403))) else (none)) else (none)) else (none)) else (some (([] : List (S139)), 0, 0, 0, ([] : List Int), false, ([] : List (S95)), ([] : List Int), ([] : List Int), false))) = some (r1, r2, r3, r4, r5, r6, r7, r8, r9, r10) := H
         have A33 := dk A330
         clear A330
         by_cases c34 : t409 = true
         ·subst c34
          have H1 : (if 0 ≤ ((rd_T50 l1 x22_2).f1) then (if ((rd_T50 l1 x22_2).f1) < (l0_6.length : Int) then (if ((rd_T50 l1 x22_2).f1) < (x407006_2.length : Int) then ((some (x407006_2.set (((rd_T50 l1 x22_2).f1) : Int).toNat (⟨(rd_T95 l0_6 ((rd_T50 l1 x22_2).f1)).f0, (rd_T95 l0_6 ((rd_T50 l1 x22_2).f1)).f1, (rd_T95 l0_6 ((rd_T50 l1 x22_2).f1)).f2, (rd_T95 l0_6 ((rd_T50 l1 x22_2).f1)).f3, (rd_T95 l0_6 ((rd_T50 l1 x22_2).f1)).f4⟩ : S95) : List (S95))).bind fun y411 => (if (rd_T50 l1 x22_2).f2 = true then ((impl_awarded.f ((rd_T95 l0_6 ((rd_T50 l1 x22_2).f1)).f0) ((rd_T95 l0_6 ((rd_T50 l1 x22_2).f1)).f1) ((rd_T95 l0_6 ((rd_T50 l1 x22_2).f1)).f2) ((rd_T95 l0_6 ((rd_T50 l1 x22_2).f1)).f3) ((rd_T95 l0_6 ((rd_T50 l1 x22_2).f1)).f4) ((rd_T50 l1 x22_2).f0)).bind fun bt413 => (impl_Decide.l0 k2 l1 (l1.length : Int) (wrap64 (x22_2 + 1)) l0_0 a0_1 a0_2 a0_3 l0_4 a0_5 l0_6 l0_7 l0_8 t387 t390 t391 t392 t393 t396 (y411.set (((rd_T50 l1 x22_2).f1) : Int).toNat (⟨bt413.1, bt413.2.1, bt413.2.2.1, bt413.2.2.2.1, bt413.2.2.2.2⟩ : S95)) t400 t403)) else (impl_Decide.l0 k2 l1 (l1.length : Int) (wrap64 (x22_2 + 1)) l0_0 a0_1 a0_2 a0_3 l0_4 a0_5 l0_6 l0_7 l0_8 t387 t390 t391 t392 t393 t396 y411 t400 t403))) else (none)) else (none)) else (none)) = some (r1, r2, r3, r4, r5, r6, r7, r8, r9, r10) := by rw [if_pos rfl] at H; exact H
          clear H
          have H := H1
          clear H1
          by_cases c35 : 0 ≤ ((rd_T50 l1 x22_2).f1)
          ·rw [if_pos c35] at H
           have c35b0 : decide (0 ≤ ((rd_T50 l1 x22_2).f1)) = true := decide_eq_true c35
           clear c35
           by_cases c36 : ((rd_T50 l1 x22_2).f1) < (l0_6.length : Int)
           ·rw [if_pos c36] at H
            have c36b0 : decide (((rd_T50 l1 x22_2).f1) < (l0_6.length : Int)) = true := decide_eq_true c36
            clear c36
            by_cases c37 : ((rd_T50 l1 x22_2).f1) < (x407006_2.length : Int)
            ·rw [if_pos c37] at H
             have c37b0 : decide (((rd_T50 l1 x22_2).f1) < (x407006_2.length : Int)) = true := decide_eq_true c37
             clear c37
             obtain ⟨y411, hy411⟩ : ∃ y_ : List (S95), y_ = (x407006_2.set (((rd_T50 l1 x22_2).f1) : Int).toNat (⟨(rd_T95 l0_6 ((rd_T50 l1 x22_2).f1)).f0, (rd_T95 l0_6 ((rd_T50 l1 x22_2).f1)).f1, (rd_T95 l0_6 ((rd_T50 l1 x22_2).f1)).f2, (rd_T95 l0_6 ((rd_T50 l1 x22_2).f1)).f3, (rd_T95 l0_6 ((rd_T50 l1 x22_2).f1)).f4⟩ : S95)) := ⟨_, rfl⟩
             replace H : (if (rd_T50 l1 x22_2).f2 = true then ((impl_awarded.f ((rd_T95 l0_6 ((rd_T50 l1 x22_2).f1)).f0) ((rd_T95 l0_6 ((rd_T50 l1 x22_2).f1)).f1) ((rd_T95 l0_6 ((rd_T50 l1 x22_2).f1)).f2) ((rd_T95 l0_6 ((rd_T50 l1 x22_2).f1)).f3) ((rd_T95 l0_6 ((rd_T50 l1 x22_2).f1)).f4) ((rd_T50 l1 x22_2).f0)).bind fun bt413 => (impl_Decide.l0 k2 l1 (l1.length : Int) (wrap64 (x22_2 + 1)) l0_0 a0_1 a0_2 a0_3 l0_4 a0_5 l0_6 l0_7 l0_8 t387 t390 t391 t392 t393 t396 (y411.set (((rd_T50 l1 x22_2).f1) : Int).toNat (⟨bt413.1, bt413.2.1, bt413.2.2.1, bt413.2.2.2.1, bt413.2.2.2.2⟩ : S95)) t400 t403)) else (impl_Decide.l0 k2 l1 (l1.length : Int) (wrap64 (x22_2 + 1)) l0_0 a0_1 a0_2 a0_3 l0_4 a0_5 l0_6 l0_7 l0_8 t387 t390 t391 t392 t393 t396 y411 t400 t403)) = some (r1, r2, r3, r4, r5, r6, r7, r8, r9, r10) := by first | (rw [hy411]; with_reducible exact H) | (have H2_ := (Option.bind_some _ _).symm.trans H; rw [hy411]; with_reducible exact H2_) | (have H2_ := (Option.bind_some _ _).symm.trans H; with_reducible exact H2_) | with_reducible exact H | (rw [hy411]; exact H) | exact H
             have Ny411 := dk hy411
             clear hy411
             obtain ⟨bq39, hbq39⟩ : ∃ b_ : Bool, b_ = ((rd_T50 l1 x22_2).f2) := ⟨_, rfl⟩
             replace H : (if bq39 = true then ((impl_awarded.f ((rd_T95 l0_6 ((rd_T50 l1 x22_2).f1)).f0) ((rd_T95 l0_6 ((rd_T50 l1 x22_2).f1)).f1) ((rd_T95 l0_6 ((rd_T50 l1 x22_2).f1)).f2) ((rd_T95 l0_6 ((rd_T50 l1 x22_2).f1)).f3) ((rd_T95 l0_6 ((rd_T50 l1 x22_2).f1)).f4) ((rd_T50 l1 x22_2).f0)).bind fun bt413 => (impl_Decide.l0 k2 l1 (l1.length : Int) (wrap64 (x22_2 + 1)) l0_0 a0_1 a0_2 a0_3 l0_4 a0_5 l0_6 l0_7 l0_8 t387 t390 t391 t392 t393 t396 (y411.set (((rd_T50 l1 x22_2).f1) : Int).toNat (⟨bt413.1, bt413.2.1, bt413.2.2.1, bt413.2.2.2.1, bt413.2.2.2.2⟩ : S95)) t400 t403)) else (impl_Decide.l0 k2 l1 (l1.length : Int) (wrap64 (x22_2 + 1)) l0_0 a0_1 a0_2 a0_3 l0_4 a0_5 l0_6 l0_7 l0_8 t387 t390 t391 t392 t393 t396 y411 t400 t403)) = some (r1, r2, r3, r4, r5, r6, r7, r8, r9, r10) := by rw [← hbq39] at H; exact H
             have Nbq39 := dk hbq39
             clear hbq39
             by_cases c40 : bq39 = true
             ·subst c40
              have H1 : ((impl_awarded.f ((rd_T95 l0_6 ((rd_T50 l1 x22_2).f1)).f0) ((rd_T95 l0_6 ((rd_T50 l1 x22_2).f1)).f1) ((rd_T95 l0_6 ((rd_T50 l1 x22_2).f1)).f2) ((rd_T95 l0_6 ((rd_T50 l1 x22_2).f1)).f3) ((rd_T95 l0_6 ((rd_T50 l1 x22_2).f1)).f4) ((rd_T50 l1 x22_2).f0)).bind fun bt413 => (impl_Decide.l0 k2 l1 (l1.length : Int) (wrap64 (x22_2 + 1)) l0_0 a0_1 a0_2 a0_3 l0_4 a0_5 l0_6 l0_7 l0_8 t387 t390 t391 t392 t393 t396 (y411.set (((rd_T50 l1 x22_2).f1) : Int).toNat (⟨bt413.1, bt413.2.1, bt413.2.2.1, bt413.2.2.2.1, bt413.2.2.2.2⟩ : S95)) t400 t403)) = some (r1, r2, r3, r4, r5, r6, r7, r8, r9, r10) := by rw [if_pos rfl] at H; exact H
              clear H
              have H := H1
              clear H1
              replace H := Option.bind_eq_some_iff.mp H
              obtain ⟨⟨t413, t414, t415, t416, t417⟩, A410, H⟩ := H
              replace H : (impl_Decide.l0 k2 l1 (l1.length : Int) (wrap64 (x22_2 + 1)) l0_0 a0_1 a0_2 a0_3 l0_4 a0_5 l0_6 l0_7 l0_8 t387 t390 t391 t392 t393 t396 (y411.set (((rd_T50 l1 x22_2).f1) : Int).toNat (⟨t413, t414, t415, t416, t417⟩ : S95)) t400 t403) = some (r1, r2, r3, r4, r5, r6, r7, r8, r9, r10) := H
              have A41 := dk A410
              clear A410
              obtain ⟨y418, hy418⟩ : ∃ y_ : List (S95), y_ = (y411.set (((rd_T50 l1 x22_2).f1) : Int).toNat (⟨t413, t414, t415, t416, t417⟩ : S95)) := ⟨_, rfl⟩
              replace H : (impl_Decide.l0 k2 l1 (l1.length : Int) (wrap64 (x22_2 + 1)) l0_0 a0_1 a0_2 a0_3 l0_4 a0_5 l0_6 l0_7 l0_8 t387 t390 t391 t392 t393 t396 y418 t400 t403) = some (r1, r2, r3, r4, r5, r6, r7, r8, r9, r10) := by first | (rw [hy418]; with_reducible exact H) | (have H2_ := (Option.bind_some _ _).symm.trans H; rw [hy418]; with_reducible exact H2_) | (have H2_ := (Option.bind_some _ _).symm.trans H; with_reducible exact H2_) | with_reducible exact H | (rw [hy418]; exact H) | exact H
              have Ny418 := dk hy418
              clear hy418
              have H' := dk H
              clear H
              have p407 : 0 ≤ (x22_2 : Int) := oa
              have q407 : x22_2 < (l1.length : Int) := oa
              obtain ⟨ad407, e407, hx407_0, hx407_1, hx407_2⟩ := at_T50 HR1.out x22_2 p407 q407
              (try rw [← Nbq39.out] at hx407_2)
              cases e407
              replace hx407_0 := hc HB hx407_0
              replace hx407_1 := hc HB hx407_1
              replace hx407_2 := hc HB hx407_2
              replace p407 := eq_true p407
              replace q407 := eq_true q407
              try go_wp2_with (first | ((with_reducible refine gate_dst (N := 8) rfl ?_); (try (refine gate_guard (by rfl) ?_; dsimp only)); refine bx (N := 8) (cs := #[.int .i64 0, .int .i64 0, .bool false]) (t := 50) ?_; intro gb408 hg w43 hbox hb; replace HO_407000 := kr HO_407000 hb; replace HO_407004 := kr HO_407004 hb; replace HO_407006 := kr HO_407006 hb; replace HO_407007 := kr HO_407007 hb; replace HO_407008 := kr HO_407008 hb; have BK408 := dk (hbox); have GW408 := gs hg HB; have GE408 := gs hg HB; replace HB := hs_ HB hb; have NB384_408 := gn hg BK384; have NB408_384 := gm hg BK384; replace BK384 := kb BK384 hb; have NB385_408 := gn hg BK385; have NB408_385 := gm hg BK385; replace BK385 := kb BK385 hb; have NB406_408 := gn hg BK406; have NB408_406 := gm hg BK406; replace BK406 := kb BK406 hb; clear hb hbox hg; have hnb44 := NB408_384.out; have hnc44 := NB384_408.out; have hnb45 := NB408_385.out; have hnc45 := NB385_408.out; have hnb46 := NB408_406.out; have hnc46 := NB406_408.out; have ⟨z47_0, z47_1, z47_2, v47_0, v47_1, v47_2⟩ := rz3 BK408; have hnb48 := NB384_385.out; have hnc48 := NB385_384.out; have hnb49 := NB384_406.out; have hnc49 := NB406_384.out; have ⟨z50_0, z50_1, z50_2, z50_3, z50_4, z50_5, z50_6, z50_7, z50_8, v50_0, v50_1, v50_2, v50_3, v50_4, v50_5, v50_6, v50_7, v50_8⟩ := rz9 BK384) | ((with_reducible refine gate_callee (f := 63) rfl ?_); refine gl (some 28) Try.func63 #[.agg #[.slice A0_0 l0_0.length c0_0, .int .i64 a0_1, .int .i64 a0_2, .int .i64 a0_3, .slice A0_4 l0_4.length c0_4, .bool a0_5, .slice A0_6 l0_6.length c0_6, .slice A0_7 l0_7.length c0_7, .slice A0_8 l0_8.length c0_8], .agg #[.int .i64 ((rd_T50 l1 x22_2).f0), .int .i64 ((rd_T50 l1 x22_2).f1), .bool true]] ?_; (with_reducible refine (impl_ProtestOk.calls k2 _ _ l0_0 a0_1 a0_2 a0_3 _ _ l0_4 a0_5 _ _ l0_6 _ _ l0_7 _ _ l0_8 ((rd_T50 l1 x22_2).f0) ((rd_T50 l1 x22_2).f1) true true _ ?side1 ?side2 ?side3 ?side4 ?side5 ?side6 ?side7 ?side8 ?side9 ?side10 (by first | exact A33.out | (have h_ := A33.out; rw [← Nbq39.out] at h_; exact h_))).mono ?_); (case side1 => exact Kd.C_below HR0_0.out (bb HB)); (case side2 => exact HC0_0.out); (case side3 => exact Kd.C_below HR0_4.out (bb HB)); (case side4 => exact HC0_4.out); (case side5 => exact Kd.C_below HR0_6.out (bb HB)); (case side6 => exact HC0_6.out); (case side7 => exact Kd.C_below HR0_7.out (bb HB)); (case side8 => exact HC0_7.out); (case side9 => exact Kd.C_below HR0_8.out (bb HB)); (case side10 => exact HC0_8.out); rintro e w51 ⟨rfl, hb⟩; refine ⟨_, rfl, ?_⟩; replace HO_407000 := kf HO_407000 BK408 hb; replace HO_407004 := kf HO_407004 BK408 hb; replace HO_407006 := kf HO_407006 BK408 hb; replace HO_407007 := kf HO_407007 BK408 hb; replace HO_407008 := kf HO_407008 BK408 hb; replace BK384 := dk (blk_below (bf NB384_408.out BK384) hb); replace BK385 := dk (blk_below (bf NB385_408.out BK385) hb); replace BK406 := dk (blk_below (bf NB406_408.out BK406) hb); replace BK408 := dk (blk_below (g := gb408) (o := .cells #[.int .i64 ((rd_T50 l1 x22_2).f0), .int .i64 ((rd_T50 l1 x22_2).f1), .bool true] 50 (0, 0)) (bp BK408) hb); replace HB := hs_ HB hb; (try clear hb hb2 hk hi)))
              replace HO_407000 := dk (Kd.R_drew HO_407000.out)
              replace HO_407004 := dk (Kd.R_drew HO_407004.out)
              replace HO_407006 := dk (Kd.R_drew HO_407006.out)
              replace HO_407007 := dk (Kd.R_drew HO_407007.out)
              replace HO_407008 := dk (Kd.R_drew HO_407008.out)
              replace BK384 := dk (blk_drew BK384.out)
              replace BK385 := dk (blk_drew BK385.out)
              replace BK406 := dk (blk_drew BK406.out)
              replace BK408 := dk (blk_drew BK408.out)
              replace HB := dk (below_drew1 HB.out)
              have p410 : 0 ≤ (((rd_T50 l1 x22_2).f1) : Int) := oa
              have q410 : ((rd_T50 l1 x22_2).f1) < (l0_6.length : Int) := oa
              obtain ⟨ad410, e410, hx410_0, hx410_1, hx410_2, hx410_3, hx410_4⟩ := at_T95 HR0_6.out ((rd_T50 l1 x22_2).f1) p410 q410
              have hw410_4 := hx410_4
              have hw410_3 := hx410_3
              have hw410_2 := hx410_2
              have hw410_1 := hx410_1
              have hw410_0 := hx410_0
              cases e410
              replace hx410_0 := hc HB hx410_0
              replace hx410_1 := hc HB hx410_1
              replace hx410_2 := hc HB hx410_2
              replace hx410_3 := hc HB hx410_3
              replace hx410_4 := hc HB hx410_4
              replace p410 := eq_true p410
              replace q410 := eq_true q410
              have p38 : 0 ≤ (((rd_T50 l1 x22_2).f1) : Int) := oa
              have q38 : (((rd_T50 l1 x22_2).f1) : Int) < ((x407006_2.length : Int) : Int) := oa
              obtain ⟨go38, co38, eo38, gb38, gl38, cl38, HG38⟩ := Kd.R_form HO_407006.out (by omega)
              (first | cases eo38 | (injection eo38 with ea_ en_ ec_; (first | subst ea_ | (injection ea_ with ea_; subst ea_)); subst ec_; clear en_))
              have GB38 := dk gb38
              have GG38 := dk HG38
              clear gb38 gl38 HG38
              obtain ⟨ce38, hcl38, hM38, hcc38, hfr38⟩ := Kd.R_elem HO_407006.out z95 (((rd_T50 l1 x22_2).f1) : Int) p38 q38
              obtain rfl := k95_openM hM38
              have hx38_0 : World.cell? _ ⟨go38, (((rd_T50 l1 x22_2).f1) : Int).toNat * 5, none⟩ = some (.int .i64 ((rd_T95 x407006_2 ((rd_T50 l1 x22_2).f1)).f0)) := hcc38 0 _ rfl
              have hx38_1 : World.cell? _ ⟨go38, (((rd_T50 l1 x22_2).f1) : Int).toNat * 5 + 1, none⟩ = some (.int .i64 ((rd_T95 x407006_2 ((rd_T50 l1 x22_2).f1)).f1)) := hcc38 1 _ rfl
              have hx38_2 : World.cell? _ ⟨go38, (((rd_T50 l1 x22_2).f1) : Int).toNat * 5 + 2, none⟩ = some (.int .i64 ((rd_T95 x407006_2 ((rd_T50 l1 x22_2).f1)).f2)) := hcc38 2 _ rfl
              have hx38_3 : World.cell? _ ⟨go38, (((rd_T50 l1 x22_2).f1) : Int).toNat * 5 + 3, none⟩ = some (.int .i64 ((rd_T95 x407006_2 ((rd_T50 l1 x22_2).f1)).f3)) := hcc38 3 _ rfl
              have hx38_4 : World.cell? _ ⟨go38, (((rd_T50 l1 x22_2).f1) : Int).toNat * 5 + 4, none⟩ = some (.int .i64 ((rd_T95 x407006_2 ((rd_T50 l1 x22_2).f1)).f4)) := hcc38 4 _ rfl
              have hf38_0 : World.frozen? _ ⟨go38, (((rd_T50 l1 x22_2).f1) : Int).toNat * 5, none⟩ = false := hfr38 0
              have hf38_1 : World.frozen? _ ⟨go38, (((rd_T50 l1 x22_2).f1) : Int).toNat * 5 + 1, none⟩ = false := hfr38 1
              have hf38_2 : World.frozen? _ ⟨go38, (((rd_T50 l1 x22_2).f1) : Int).toNat * 5 + 2, none⟩ = false := hfr38 2
              have hf38_3 : World.frozen? _ ⟨go38, (((rd_T50 l1 x22_2).f1) : Int).toNat * 5 + 3, none⟩ = false := hfr38 3
              have hf38_4 : World.frozen? _ ⟨go38, (((rd_T50 l1 x22_2).f1) : Int).toNat * 5 + 4, none⟩ = false := hfr38 4
              clear hcl38 hcc38 hfr38; (try clear hM38)
              replace p38 := eq_true p38
              replace q38 := eq_true q38
              obtain ⟨ce53, hcl53, hM53, hcc53, hfr53⟩ := Kd.R_elem HO_407006.out z95 (((rd_T50 l1 x22_2).f1) : Int) (oa) (by have h_ : (((rd_T50 l1 x22_2).f1) : Int) < ((x407006_2.length : Int) : Int) := oa; first | exact h_ | (have e_ := (Kd.R_reads' HO_407006.out).1; omega) | simpa using h_)
              obtain rfl := k95_openM hM53
              have HP53 := (Kd.R_seg HO_407006.out (((rd_T50 l1 x22_2).f1) : Int) (oa) (by have h_ : (((rd_T50 l1 x22_2).f1) : Int) < ((x407006_2.length : Int) : Int) := oa; first | exact h_ | (have e_ := (Kd.R_reads' HO_407006.out).1; omega) | simpa using h_) (seg := [.int .i64 ((rd_T95 l0_6 ((rd_T50 l1 x22_2).f1)).f0), .int .i64 ((rd_T95 l0_6 ((rd_T50 l1 x22_2).f1)).f1), .int .i64 ((rd_T95 l0_6 ((rd_T50 l1 x22_2).f1)).f2), .int .i64 ((rd_T95 l0_6 ((rd_T50 l1 x22_2).f1)).f3), .int .i64 ((rd_T95 l0_6 ((rd_T50 l1 x22_2).f1)).f4)]) (j := 0) hcl53 hcc53 (show 5 ≤ 5 from by decide) (x' := (⟨(rd_T95 l0_6 ((rd_T50 l1 x22_2).f1)).f0, (rd_T95 l0_6 ((rd_T50 l1 x22_2).f1)).f1, (rd_T95 l0_6 ((rd_T50 l1 x22_2).f1)).f2, (rd_T95 l0_6 ((rd_T50 l1 x22_2).f1)).f3, (rd_T95 l0_6 ((rd_T50 l1 x22_2).f1)).f4⟩ : S95)) (k95_mkM _ _ _ (⟨(rd_T95 l0_6 ((rd_T50 l1 x22_2).f1)).f0, (rd_T95 l0_6 ((rd_T50 l1 x22_2).f1)).f1, (rd_T95 l0_6 ((rd_T50 l1 x22_2).f1)).f2, (rd_T95 l0_6 ((rd_T50 l1 x22_2).f1)).f3, (rd_T95 l0_6 ((rd_T50 l1 x22_2).f1)).f4⟩ : S95) ) (fun _ hk => hk)).1
              rw [← Ny411.out] at HP53
              have HQ53 := dk HP53
              clear hcl53 hcc53 hfr53 hM53 HP53
              refine start_ (n := 12) (S := fun w' => w'.cell? ⟨gb406, 0, none⟩ = some (.slice Ao22 t387.length co22) ∧ w'.cell? ⟨gb406, 1, none⟩ = some (.int .i64 t390) ∧ w'.cell? ⟨gb406, 2, none⟩ = some (.int .i64 t391) ∧ w'.cell? ⟨gb406, 3, none⟩ = some (.int .i64 t392) ∧ w'.cell? ⟨gb406, 4, none⟩ = some (.slice Ao26 t393.length co26) ∧ w'.cell? ⟨gb406, 5, none⟩ = some (.bool t396) ∧ w'.cell? ⟨gb406, 6, none⟩ = some (.slice (some ⟨go38, 0, none⟩) x407006_2.length co38) ∧ w'.cell? ⟨gb406, 7, none⟩ = some (.slice Ao28 t400.length co28) ∧ w'.cell? ⟨gb406, 8, none⟩ = some (.slice Ao29 t403.length co29) ∧ w'.cell? ⟨gb408, 0, none⟩ = some (.int .i64 ((rd_T50 l1 x22_2).f0)) ∧ w'.cell? ⟨gb408, 1, none⟩ = some (.int .i64 ((rd_T50 l1 x22_2).f1)) ∧ w'.cell? ⟨gb408, 2, none⟩ = some (.bool true) ∧ w'.cell? ⟨gb384, 0, none⟩ = some (.slice A0_0 l0_0.length c0_0) ∧ w'.cell? ⟨gb384, 1, none⟩ = some (.int .i64 a0_1) ∧ w'.cell? ⟨gb384, 2, none⟩ = some (.int .i64 a0_2) ∧ w'.cell? ⟨gb384, 3, none⟩ = some (.int .i64 a0_3) ∧ w'.cell? ⟨gb384, 4, none⟩ = some (.slice A0_4 l0_4.length c0_4) ∧ w'.cell? ⟨gb384, 5, none⟩ = some (.bool a0_5) ∧ w'.cell? ⟨gb384, 6, none⟩ = some (.slice (some ad410) l0_6.length c0_6) ∧ w'.cell? ⟨gb384, 7, none⟩ = some (.slice A0_7 l0_7.length c0_7) ∧ w'.cell? ⟨gb384, 8, none⟩ = some (.slice A0_8 l0_8.length c0_8) ∧ w'.cell? (ad410.add ((((rd_T50 l1 x22_2).f1)).toNat * 5)) = some (.int .i64 ((rd_T95 l0_6 ((rd_T50 l1 x22_2).f1)).f0)) ∧ w'.cell? ⟨(ad410.add ((((rd_T50 l1 x22_2).f1)).toNat * 5)).block, (ad410.add ((((rd_T50 l1 x22_2).f1)).toNat * 5)).off + 1, none⟩ = some (.int .i64 ((rd_T95 l0_6 ((rd_T50 l1 x22_2).f1)).f1)) ∧ w'.cell? ⟨(ad410.add ((((rd_T50 l1 x22_2).f1)).toNat * 5)).block, (ad410.add ((((rd_T50 l1 x22_2).f1)).toNat * 5)).off + 2, none⟩ = some (.int .i64 ((rd_T95 l0_6 ((rd_T50 l1 x22_2).f1)).f2)) ∧ w'.cell? ⟨(ad410.add ((((rd_T50 l1 x22_2).f1)).toNat * 5)).block, (ad410.add ((((rd_T50 l1 x22_2).f1)).toNat * 5)).off + 3, none⟩ = some (.int .i64 ((rd_T95 l0_6 ((rd_T50 l1 x22_2).f1)).f3)) ∧ w'.cell? ⟨(ad410.add ((((rd_T50 l1 x22_2).f1)).toNat * 5)).block, (ad410.add ((((rd_T50 l1 x22_2).f1)).toNat * 5)).off + 4, none⟩ = some (.int .i64 ((rd_T95 l0_6 ((rd_T50 l1 x22_2).f1)).f4))) (ds := [11]) #[false, false, false, false, false, false, false, false, false, false, false, false] (by kernel_rfl) rfl rfl ⟨bc BK406 0, bc BK406 1, bc BK406 2, bc BK406 3, bc BK406 4, bc BK406 5, bc BK406 6, bc BK406 7, bc BK406 8, bc BK408 0, bc BK408 1, bc BK408 2, bc BK384 0, bc BK384 1, bc BK384 2, bc BK384 3, bc BK384 4, bc BK384 5, bc BK384 6, bc BK384 7, bc BK384 8, (hc HB hw410_0), (hc HB hw410_1), (hc HB hw410_2), (hc HB hw410_3), (hc HB hw410_4)⟩ (fun hHeld => ?_); refine with_tabW impl_Decide.tab9 impl_Decide.bits9 (fun HT_ HW_ => ?_)
              generalize w51.drew = w52 at HO_407000 HO_407004 HO_407006 HO_407007 HO_407008 BK384 BK385 BK406 BK408 HB GG38 HQ53 hf38_0 hf38_1 hf38_2 hf38_3 hf38_4 hx38_0 hx38_1 hx38_2 hx38_3 hx38_4 hx410_0 hx410_1 hx410_2 hx410_3 hx410_4 hHeld ⊢
              refine pz_ 0 31 ?_
              refine pz_ 2 33 ?_
              refine pz_ 4 35 ?_
              refine pz_ 6 37 ?_
              refine take_ (i := 1) (N := some 32) (v := ?_) (a' := ?_) #[true, true, true, false, true, false, true, false, false, false, false, false] rfl rfl (take_ofW HT_.out HW_.out (by kernel_rfl)) (fun _ _ _ h => h) (Or.inl ⟨by rfl, ?_⟩) hHeld ?_ ?_
              rotate_left
              ·rintro w' ⟨s0, s1, s2, s3, s4, s5, s6, s7, s8, s9, s10, s11, s12, s13, s14, s15, s16, s17, s18, s19, s20, s21, s22, s23, s24, s25⟩
               go_simp
               with_reducible rfl
              rotate_left
              ·simp only [Act.put, List.setIfInBounds_toArray, List.set_cons_zero, List.set_cons_succ, i64_w, i32_w]
               rfl
              refine take_ (i := 3) (N := some 34) (v := ?_) (a' := ?_) #[true, true, true, true, true, false, true, false, false, false, false, false] rfl rfl (take_ofW HT_.out HW_.out (by kernel_rfl)) (fun _ _ _ h => h) (Or.inl ⟨by rfl, ?_⟩) hHeld ?_ ?_
              rotate_left
              ·rintro w' ⟨s0, s1, s2, s3, s4, s5, s6, s7, s8, s9, s10, s11, s12, s13, s14, s15, s16, s17, s18, s19, s20, s21, s22, s23, s24, s25⟩
               go_simp
               with_reducible rfl
              rotate_left
              ·simp only [Act.put, List.setIfInBounds_toArray, List.set_cons_zero, List.set_cons_succ, i64_w, i32_w]
               rfl
              refine take_ (i := 5) (N := some 36) (v := ?_) (a' := ?_) #[true, true, true, true, true, true, true, false, false, false, false, false] rfl rfl (take_ofW HT_.out HW_.out (by kernel_rfl)) (fun _ _ _ h => h) (Or.inl ⟨by rfl, ?_⟩) hHeld ?_ ?_
              rotate_left
              ·rintro w' ⟨s0, s1, s2, s3, s4, s5, s6, s7, s8, s9, s10, s11, s12, s13, s14, s15, s16, s17, s18, s19, s20, s21, s22, s23, s24, s25⟩
               go_simp
               with_reducible rfl
              rotate_left
              ·simp only [Act.put, List.setIfInBounds_toArray, List.set_cons_zero, List.set_cons_succ, i64_w, i32_w]
               rfl
              refine take_ (i := 7) (N := some 38) (v := ?_) (a' := ?_) #[true, true, true, true, true, true, true, true, false, false, false, false] rfl rfl (take_ofW HT_.out HW_.out (by kernel_rfl)) (fun _ _ _ h => h) (Or.inl ⟨by rfl, ?_⟩) hHeld ?_ ?_
              rotate_left
              ·rintro w' ⟨s0, s1, s2, s3, s4, s5, s6, s7, s8, s9, s10, s11, s12, s13, s14, s15, s16, s17, s18, s19, s20, s21, s22, s23, s24, s25⟩
               go_simp
               with_reducible rfl
              rotate_left
              ·simp only [Act.put, List.setIfInBounds_toArray, List.set_cons_zero, List.set_cons_succ, i64_w, i32_w]
               rfl
              refine pz_ 8 39 ?_
              refine take_ (i := 9) (N := some 40) (v := ?_) (a' := ?_) #[true, true, true, true, true, true, true, true, true, true, false, false] rfl rfl (take_ofW HT_.out HW_.out (by kernel_rfl)) (fun _ _ _ h => h) (Or.inl ⟨by rfl, ?_⟩) hHeld ?_ ?_
              rotate_left
              ·rintro w' ⟨s0, s1, s2, s3, s4, s5, s6, s7, s8, s9, s10, s11, s12, s13, s14, s15, s16, s17, s18, s19, s20, s21, s22, s23, s24, s25⟩
               go_simp
               with_reducible rfl
              rotate_left
              ·simp only [Act.put, List.setIfInBounds_toArray, List.set_cons_zero, List.set_cons_succ, i64_w, i32_w]
               rfl
              refine pz_ 10 41 ?_
              refine last_ (i := 11) (N := none) #[true, true, true, true, true, true, true, true, true, true, true, true] rfl rfl (one_of HT_.out (by kernel_rfl)) (by decide) (fun K hK => ?_)
              refine skip_ (w1 := ?_) (by rfl) rfl ?_ ?_
              rotate_left
              ·go_simp
               rfl
              refine hK.out _ _ ?_
              clear hK K
              refine done_ (done_of HT_.out (by kernel_rfl)) ?_
              have ⟨z54_0, z54_1, z54_2, v54_0, v54_1, v54_2⟩ := rz3 BK408
              have hnr408 : go38 ≠ gb408 := fun e_ => Kd.R_ne HO_407006.out BK408.out (by decide) (by rw [← e_]; rfl)
              have hns408 : gb408 ≠ go38 := fun e_ => hnr408 e_.symm
              try go_wp2
              have n0_ : Aside0 (Kd.R k139 139 (((((w52.setCell ⟨go38, (((rd_T50 l1 x22_2).f1) : Int).toNat * 5, none⟩ (.int .i64 ((rd_T95 l0_6 ((rd_T50 l1 x22_2).f1)).f0))).setCell ⟨go38, (((rd_T50 l1 x22_2).f1) : Int).toNat * 5 + 1, none⟩ (.int .i64 ((rd_T95 l0_6 ((rd_T50 l1 x22_2).f1)).f1))).setCell ⟨go38, (((rd_T50 l1 x22_2).f1) : Int).toNat * 5 + 2, none⟩ (.int .i64 ((rd_T95 l0_6 ((rd_T50 l1 x22_2).f1)).f2))).setCell ⟨go38, (((rd_T50 l1 x22_2).f1) : Int).toNat * 5 + 3, none⟩ (.int .i64 ((rd_T95 l0_6 ((rd_T50 l1 x22_2).f1)).f3))).setCell ⟨go38, (((rd_T50 l1 x22_2).f1) : Int).toNat * 5 + 4, none⟩ (.int .i64 ((rd_T95 l0_6 ((rd_T50 l1 x22_2).f1)).f4))) w.heap.size (fun _ => True) (.slice Ao22 t387.length co22) t387) := ⟨by (with_reducible repeat (first | apply Kd.R_alloc | apply Kd.R_drewN | apply Kd.R_drew)); exact Kd.R_mono (Kd.R_far (p := ⟨go38, (((rd_T50 l1 x22_2).f1) : Int).toNat * 5 + 4, none⟩) (Kd.R_far (p := ⟨go38, (((rd_T50 l1 x22_2).f1) : Int).toNat * 5 + 3, none⟩) (Kd.R_far (p := ⟨go38, (((rd_T50 l1 x22_2).f1) : Int).toNat * 5 + 2, none⟩) (Kd.R_far (p := ⟨go38, (((rd_T50 l1 x22_2).f1) : Int).toNat * 5 + 1, none⟩) (Kd.R_far (p := ⟨go38, (((rd_T50 l1 x22_2).f1) : Int).toNat * 5, none⟩) (Kd.R_types HO_407000.out GG38.out (by decide)) (fun _ hk => hk.2) (.int .i64 ((rd_T95 l0_6 ((rd_T50 l1 x22_2).f1)).f0))) (fun _ hk => hk.2) (.int .i64 ((rd_T95 l0_6 ((rd_T50 l1 x22_2).f1)).f1))) (fun _ hk => hk.2) (.int .i64 ((rd_T95 l0_6 ((rd_T50 l1 x22_2).f1)).f2))) (fun _ hk => hk.2) (.int .i64 ((rd_T95 l0_6 ((rd_T50 l1 x22_2).f1)).f3))) (fun _ hk => hk.2) (.int .i64 ((rd_T95 l0_6 ((rd_T50 l1 x22_2).f1)).f4))) (fun _ hk => trivial)⟩
              have n1_ : Aside0 (Kd.R (Kd.int .i64) 3 (((((w52.setCell ⟨go38, (((rd_T50 l1 x22_2).f1) : Int).toNat * 5, none⟩ (.int .i64 ((rd_T95 l0_6 ((rd_T50 l1 x22_2).f1)).f0))).setCell ⟨go38, (((rd_T50 l1 x22_2).f1) : Int).toNat * 5 + 1, none⟩ (.int .i64 ((rd_T95 l0_6 ((rd_T50 l1 x22_2).f1)).f1))).setCell ⟨go38, (((rd_T50 l1 x22_2).f1) : Int).toNat * 5 + 2, none⟩ (.int .i64 ((rd_T95 l0_6 ((rd_T50 l1 x22_2).f1)).f2))).setCell ⟨go38, (((rd_T50 l1 x22_2).f1) : Int).toNat * 5 + 3, none⟩ (.int .i64 ((rd_T95 l0_6 ((rd_T50 l1 x22_2).f1)).f3))).setCell ⟨go38, (((rd_T50 l1 x22_2).f1) : Int).toNat * 5 + 4, none⟩ (.int .i64 ((rd_T95 l0_6 ((rd_T50 l1 x22_2).f1)).f4))) w.heap.size (fun k_ => nb k_ Ao28 t400.length co28 ∧ nb k_ Ao29 t403.length co29) (.slice Ao26 t393.length co26) t393) := ⟨by (with_reducible repeat (first | apply Kd.R_alloc | apply Kd.R_drewN | apply Kd.R_drew)); exact Kd.R_mono (Kd.R_far (p := ⟨go38, (((rd_T50 l1 x22_2).f1) : Int).toNat * 5 + 4, none⟩) (Kd.R_far (p := ⟨go38, (((rd_T50 l1 x22_2).f1) : Int).toNat * 5 + 3, none⟩) (Kd.R_far (p := ⟨go38, (((rd_T50 l1 x22_2).f1) : Int).toNat * 5 + 2, none⟩) (Kd.R_far (p := ⟨go38, (((rd_T50 l1 x22_2).f1) : Int).toNat * 5 + 1, none⟩) (Kd.R_far (p := ⟨go38, (((rd_T50 l1 x22_2).f1) : Int).toNat * 5, none⟩) (Kd.R_types HO_407004.out GG38.out (by decide)) (fun _ hk => hk.2) (.int .i64 ((rd_T95 l0_6 ((rd_T50 l1 x22_2).f1)).f0))) (fun _ hk => hk.2) (.int .i64 ((rd_T95 l0_6 ((rd_T50 l1 x22_2).f1)).f1))) (fun _ hk => hk.2) (.int .i64 ((rd_T95 l0_6 ((rd_T50 l1 x22_2).f1)).f2))) (fun _ hk => hk.2) (.int .i64 ((rd_T95 l0_6 ((rd_T50 l1 x22_2).f1)).f3))) (fun _ hk => hk.2) (.int .i64 ((rd_T95 l0_6 ((rd_T50 l1 x22_2).f1)).f4))) (fun _ hk => ⟨hk.1.1, hk.1.2⟩)⟩
              have n2_ : Aside0 (Kd.R k95 95 (((((w52.setCell ⟨go38, (((rd_T50 l1 x22_2).f1) : Int).toNat * 5, none⟩ (.int .i64 ((rd_T95 l0_6 ((rd_T50 l1 x22_2).f1)).f0))).setCell ⟨go38, (((rd_T50 l1 x22_2).f1) : Int).toNat * 5 + 1, none⟩ (.int .i64 ((rd_T95 l0_6 ((rd_T50 l1 x22_2).f1)).f1))).setCell ⟨go38, (((rd_T50 l1 x22_2).f1) : Int).toNat * 5 + 2, none⟩ (.int .i64 ((rd_T95 l0_6 ((rd_T50 l1 x22_2).f1)).f2))).setCell ⟨go38, (((rd_T50 l1 x22_2).f1) : Int).toNat * 5 + 3, none⟩ (.int .i64 ((rd_T95 l0_6 ((rd_T50 l1 x22_2).f1)).f3))).setCell ⟨go38, (((rd_T50 l1 x22_2).f1) : Int).toNat * 5 + 4, none⟩ (.int .i64 ((rd_T95 l0_6 ((rd_T50 l1 x22_2).f1)).f4))) w.heap.size (fun _ => True) (.slice (some ⟨go38, 0, none⟩) x407006_2.length co38) y411) := ⟨rr HQ53⟩
              have n3_ : Aside0 (Kd.R (Kd.int .i64) 3 (((((w52.setCell ⟨go38, (((rd_T50 l1 x22_2).f1) : Int).toNat * 5, none⟩ (.int .i64 ((rd_T95 l0_6 ((rd_T50 l1 x22_2).f1)).f0))).setCell ⟨go38, (((rd_T50 l1 x22_2).f1) : Int).toNat * 5 + 1, none⟩ (.int .i64 ((rd_T95 l0_6 ((rd_T50 l1 x22_2).f1)).f1))).setCell ⟨go38, (((rd_T50 l1 x22_2).f1) : Int).toNat * 5 + 2, none⟩ (.int .i64 ((rd_T95 l0_6 ((rd_T50 l1 x22_2).f1)).f2))).setCell ⟨go38, (((rd_T50 l1 x22_2).f1) : Int).toNat * 5 + 3, none⟩ (.int .i64 ((rd_T95 l0_6 ((rd_T50 l1 x22_2).f1)).f3))).setCell ⟨go38, (((rd_T50 l1 x22_2).f1) : Int).toNat * 5 + 4, none⟩ (.int .i64 ((rd_T95 l0_6 ((rd_T50 l1 x22_2).f1)).f4))) w.heap.size (fun k_ => nb k_ Ao26 t393.length co26 ∧ nb k_ Ao29 t403.length co29) (.slice Ao28 t400.length co28) t400) := ⟨by (with_reducible repeat (first | apply Kd.R_alloc | apply Kd.R_drewN | apply Kd.R_drew)); exact Kd.R_mono (Kd.R_far (p := ⟨go38, (((rd_T50 l1 x22_2).f1) : Int).toNat * 5 + 4, none⟩) (Kd.R_far (p := ⟨go38, (((rd_T50 l1 x22_2).f1) : Int).toNat * 5 + 3, none⟩) (Kd.R_far (p := ⟨go38, (((rd_T50 l1 x22_2).f1) : Int).toNat * 5 + 2, none⟩) (Kd.R_far (p := ⟨go38, (((rd_T50 l1 x22_2).f1) : Int).toNat * 5 + 1, none⟩) (Kd.R_far (p := ⟨go38, (((rd_T50 l1 x22_2).f1) : Int).toNat * 5, none⟩) (Kd.R_types HO_407007.out GG38.out (by decide)) (fun _ hk => hk.2) (.int .i64 ((rd_T95 l0_6 ((rd_T50 l1 x22_2).f1)).f0))) (fun _ hk => hk.2) (.int .i64 ((rd_T95 l0_6 ((rd_T50 l1 x22_2).f1)).f1))) (fun _ hk => hk.2) (.int .i64 ((rd_T95 l0_6 ((rd_T50 l1 x22_2).f1)).f2))) (fun _ hk => hk.2) (.int .i64 ((rd_T95 l0_6 ((rd_T50 l1 x22_2).f1)).f3))) (fun _ hk => hk.2) (.int .i64 ((rd_T95 l0_6 ((rd_T50 l1 x22_2).f1)).f4))) (fun _ hk => ⟨hk.1.1, hk.1.2⟩)⟩
              have n4_ : Aside0 (Kd.R (Kd.int .i64) 3 (((((w52.setCell ⟨go38, (((rd_T50 l1 x22_2).f1) : Int).toNat * 5, none⟩ (.int .i64 ((rd_T95 l0_6 ((rd_T50 l1 x22_2).f1)).f0))).setCell ⟨go38, (((rd_T50 l1 x22_2).f1) : Int).toNat * 5 + 1, none⟩ (.int .i64 ((rd_T95 l0_6 ((rd_T50 l1 x22_2).f1)).f1))).setCell ⟨go38, (((rd_T50 l1 x22_2).f1) : Int).toNat * 5 + 2, none⟩ (.int .i64 ((rd_T95 l0_6 ((rd_T50 l1 x22_2).f1)).f2))).setCell ⟨go38, (((rd_T50 l1 x22_2).f1) : Int).toNat * 5 + 3, none⟩ (.int .i64 ((rd_T95 l0_6 ((rd_T50 l1 x22_2).f1)).f3))).setCell ⟨go38, (((rd_T50 l1 x22_2).f1) : Int).toNat * 5 + 4, none⟩ (.int .i64 ((rd_T95 l0_6 ((rd_T50 l1 x22_2).f1)).f4))) w.heap.size (fun k_ => nb k_ Ao26 t393.length co26 ∧ nb k_ Ao28 t400.length co28) (.slice Ao29 t403.length co29) t403) := ⟨by (with_reducible repeat (first | apply Kd.R_alloc | apply Kd.R_drewN | apply Kd.R_drew)); exact Kd.R_mono (Kd.R_far (p := ⟨go38, (((rd_T50 l1 x22_2).f1) : Int).toNat * 5 + 4, none⟩) (Kd.R_far (p := ⟨go38, (((rd_T50 l1 x22_2).f1) : Int).toNat * 5 + 3, none⟩) (Kd.R_far (p := ⟨go38, (((rd_T50 l1 x22_2).f1) : Int).toNat * 5 + 2, none⟩) (Kd.R_far (p := ⟨go38, (((rd_T50 l1 x22_2).f1) : Int).toNat * 5 + 1, none⟩) (Kd.R_far (p := ⟨go38, (((rd_T50 l1 x22_2).f1) : Int).toNat * 5, none⟩) (Kd.R_types HO_407008.out GG38.out (by decide)) (fun _ hk => hk.2) (.int .i64 ((rd_T95 l0_6 ((rd_T50 l1 x22_2).f1)).f0))) (fun _ hk => hk.2) (.int .i64 ((rd_T95 l0_6 ((rd_T50 l1 x22_2).f1)).f1))) (fun _ hk => hk.2) (.int .i64 ((rd_T95 l0_6 ((rd_T50 l1 x22_2).f1)).f2))) (fun _ hk => hk.2) (.int .i64 ((rd_T95 l0_6 ((rd_T50 l1 x22_2).f1)).f3))) (fun _ hk => hk.2) (.int .i64 ((rd_T95 l0_6 ((rd_T50 l1 x22_2).f1)).f4))) (fun _ hk => ⟨hk.1.1, hk.1.2⟩)⟩
              have n5_ : Aside0 ((((((w52.setCell ⟨go38, (((rd_T50 l1 x22_2).f1) : Int).toNat * 5, none⟩ (.int .i64 ((rd_T95 l0_6 ((rd_T50 l1 x22_2).f1)).f0))).setCell ⟨go38, (((rd_T50 l1 x22_2).f1) : Int).toNat * 5 + 1, none⟩ (.int .i64 ((rd_T95 l0_6 ((rd_T50 l1 x22_2).f1)).f1))).setCell ⟨go38, (((rd_T50 l1 x22_2).f1) : Int).toNat * 5 + 2, none⟩ (.int .i64 ((rd_T95 l0_6 ((rd_T50 l1 x22_2).f1)).f2))).setCell ⟨go38, (((rd_T50 l1 x22_2).f1) : Int).toNat * 5 + 3, none⟩ (.int .i64 ((rd_T95 l0_6 ((rd_T50 l1 x22_2).f1)).f3))).setCell ⟨go38, (((rd_T50 l1 x22_2).f1) : Int).toNat * 5 + 4, none⟩ (.int .i64 ((rd_T95 l0_6 ((rd_T50 l1 x22_2).f1)).f4))).heap[gb384]? = some (.cells #[.slice A0_0 l0_0.length c0_0, .int .i64 a0_1, .int .i64 a0_2, .int .i64 a0_3, .slice A0_4 l0_4.length c0_4, .bool a0_5, .slice (some ad410) l0_6.length c0_6, .slice A0_7 l0_7.length c0_7, .slice A0_8 l0_8.length c0_8] 36 (0, 0))) := ⟨bg HO_407006 BK384⟩
              have n6_ : Aside0 ((((((w52.setCell ⟨go38, (((rd_T50 l1 x22_2).f1) : Int).toNat * 5, none⟩ (.int .i64 ((rd_T95 l0_6 ((rd_T50 l1 x22_2).f1)).f0))).setCell ⟨go38, (((rd_T50 l1 x22_2).f1) : Int).toNat * 5 + 1, none⟩ (.int .i64 ((rd_T95 l0_6 ((rd_T50 l1 x22_2).f1)).f1))).setCell ⟨go38, (((rd_T50 l1 x22_2).f1) : Int).toNat * 5 + 2, none⟩ (.int .i64 ((rd_T95 l0_6 ((rd_T50 l1 x22_2).f1)).f2))).setCell ⟨go38, (((rd_T50 l1 x22_2).f1) : Int).toNat * 5 + 3, none⟩ (.int .i64 ((rd_T95 l0_6 ((rd_T50 l1 x22_2).f1)).f3))).setCell ⟨go38, (((rd_T50 l1 x22_2).f1) : Int).toNat * 5 + 4, none⟩ (.int .i64 ((rd_T95 l0_6 ((rd_T50 l1 x22_2).f1)).f4))).heap[gb385]? = some (.cells #[.slice none 0 0, .int .i64 x386001_2, .int .i64 x386002_2, .int .i64 x386003_2, .slice none 0 0, .bool x386005_2, .slice none 0 0, .slice none 0 0, .slice none 0 0] 36 (0, 0))) := ⟨bg HO_407006 BK385⟩
              have n7_ : Aside0 ((((((w52.setCell ⟨go38, (((rd_T50 l1 x22_2).f1) : Int).toNat * 5, none⟩ (.int .i64 ((rd_T95 l0_6 ((rd_T50 l1 x22_2).f1)).f0))).setCell ⟨go38, (((rd_T50 l1 x22_2).f1) : Int).toNat * 5 + 1, none⟩ (.int .i64 ((rd_T95 l0_6 ((rd_T50 l1 x22_2).f1)).f1))).setCell ⟨go38, (((rd_T50 l1 x22_2).f1) : Int).toNat * 5 + 2, none⟩ (.int .i64 ((rd_T95 l0_6 ((rd_T50 l1 x22_2).f1)).f2))).setCell ⟨go38, (((rd_T50 l1 x22_2).f1) : Int).toNat * 5 + 3, none⟩ (.int .i64 ((rd_T95 l0_6 ((rd_T50 l1 x22_2).f1)).f3))).setCell ⟨go38, (((rd_T50 l1 x22_2).f1) : Int).toNat * 5 + 4, none⟩ (.int .i64 ((rd_T95 l0_6 ((rd_T50 l1 x22_2).f1)).f4))).heap[gb406]? = some (.cells #[.slice Ao22 t387.length co22, .int .i64 t390, .int .i64 t391, .int .i64 t392, .slice Ao26 t393.length co26, .bool t396, .slice (some ⟨go38, 0, none⟩) x407006_2.length co38, .slice Ao28 t400.length co28, .slice Ao29 t403.length co29] 36 (0, 0))) := ⟨bg HO_407006 BK406⟩
              have n8_ : Aside0 ((((((w52.setCell ⟨go38, (((rd_T50 l1 x22_2).f1) : Int).toNat * 5, none⟩ (.int .i64 ((rd_T95 l0_6 ((rd_T50 l1 x22_2).f1)).f0))).setCell ⟨go38, (((rd_T50 l1 x22_2).f1) : Int).toNat * 5 + 1, none⟩ (.int .i64 ((rd_T95 l0_6 ((rd_T50 l1 x22_2).f1)).f1))).setCell ⟨go38, (((rd_T50 l1 x22_2).f1) : Int).toNat * 5 + 2, none⟩ (.int .i64 ((rd_T95 l0_6 ((rd_T50 l1 x22_2).f1)).f2))).setCell ⟨go38, (((rd_T50 l1 x22_2).f1) : Int).toNat * 5 + 3, none⟩ (.int .i64 ((rd_T95 l0_6 ((rd_T50 l1 x22_2).f1)).f3))).setCell ⟨go38, (((rd_T50 l1 x22_2).f1) : Int).toNat * 5 + 4, none⟩ (.int .i64 ((rd_T95 l0_6 ((rd_T50 l1 x22_2).f1)).f4))).heap[gb408]? = some (.cells #[.int .i64 ((rd_T50 l1 x22_2).f0), .int .i64 ((rd_T50 l1 x22_2).f1), .bool true] 50 (0, 0))) := ⟨bg HO_407006 BK408⟩
              have n9_ : Aside0 (Below w.heap.size w (((((w52.setCell ⟨go38, (((rd_T50 l1 x22_2).f1) : Int).toNat * 5, none⟩ (.int .i64 ((rd_T95 l0_6 ((rd_T50 l1 x22_2).f1)).f0))).setCell ⟨go38, (((rd_T50 l1 x22_2).f1) : Int).toNat * 5 + 1, none⟩ (.int .i64 ((rd_T95 l0_6 ((rd_T50 l1 x22_2).f1)).f1))).setCell ⟨go38, (((rd_T50 l1 x22_2).f1) : Int).toNat * 5 + 2, none⟩ (.int .i64 ((rd_T95 l0_6 ((rd_T50 l1 x22_2).f1)).f2))).setCell ⟨go38, (((rd_T50 l1 x22_2).f1) : Int).toNat * 5 + 3, none⟩ (.int .i64 ((rd_T95 l0_6 ((rd_T50 l1 x22_2).f1)).f3))).setCell ⟨go38, (((rd_T50 l1 x22_2).f1) : Int).toNat * 5 + 4, none⟩ (.int .i64 ((rd_T95 l0_6 ((rd_T50 l1 x22_2).f1)).f4)))) := ⟨bb HB⟩
              (try clear HO_407000)
              (try clear HO_407004)
              (try clear HO_407006)
              (try clear HO_407007)
              (try clear HO_407008)
              (try clear BK384)
              (try clear BK385)
              (try clear BK406)
              (try clear BK408)
              (try clear HB)
              generalize (((((w52.setCell ⟨go38, (((rd_T50 l1 x22_2).f1) : Int).toNat * 5, none⟩ (.int .i64 ((rd_T95 l0_6 ((rd_T50 l1 x22_2).f1)).f0))).setCell ⟨go38, (((rd_T50 l1 x22_2).f1) : Int).toNat * 5 + 1, none⟩ (.int .i64 ((rd_T95 l0_6 ((rd_T50 l1 x22_2).f1)).f1))).setCell ⟨go38, (((rd_T50 l1 x22_2).f1) : Int).toNat * 5 + 2, none⟩ (.int .i64 ((rd_T95 l0_6 ((rd_T50 l1 x22_2).f1)).f2))).setCell ⟨go38, (((rd_T50 l1 x22_2).f1) : Int).toNat * 5 + 3, none⟩ (.int .i64 ((rd_T95 l0_6 ((rd_T50 l1 x22_2).f1)).f3))).setCell ⟨go38, (((rd_T50 l1 x22_2).f1) : Int).toNat * 5 + 4, none⟩ (.int .i64 ((rd_T95 l0_6 ((rd_T50 l1 x22_2).f1)).f4))) = w55 at n0_ n1_ n2_ n3_ n4_ n5_ n6_ n7_ n8_ n9_ ⊢
              have HO_407000 := n0_
              have HO_407004 := n1_
              have HO_407006 := n2_
              have HO_407007 := n3_
              have HO_407008 := n4_
              have BK384 := n5_
              have BK385 := n6_
              have BK406 := n7_
              have BK408 := n8_
              have HB := n9_
              clear n0_ n1_ n2_ n3_ n4_ n5_ n6_ n7_ n8_ n9_
              replace HO_407000 := dk (Kd.R_drew HO_407000.out)
              replace HO_407004 := dk (Kd.R_drew HO_407004.out)
              replace HO_407006 := dk (Kd.R_drew HO_407006.out)
              replace HO_407007 := dk (Kd.R_drew HO_407007.out)
              replace HO_407008 := dk (Kd.R_drew HO_407008.out)
              replace BK384 := dk (blk_drew BK384.out)
              replace BK385 := dk (blk_drew BK385.out)
              replace BK406 := dk (blk_drew BK406.out)
              replace BK408 := dk (blk_drew BK408.out)
              replace HB := dk (below_drew1 HB.out)
              have p412 : 0 ≤ (((rd_T50 l1 x22_2).f1) : Int) := oa
              have q412 : ((rd_T50 l1 x22_2).f1) < (l0_6.length : Int) := oa
              obtain ⟨ad412, e412, hx412_0, hx412_1, hx412_2, hx412_3, hx412_4⟩ := at_T95 HR0_6.out ((rd_T50 l1 x22_2).f1) p412 q412
              have hw412_4 := hx412_4
              have hw412_3 := hx412_3
              have hw412_2 := hx412_2
              have hw412_1 := hx412_1
              have hw412_0 := hx412_0
              obtain rfl : ad410 = ad412 := (by injection e412)
              replace hx412_0 := hc HB hx412_0
              replace hx412_1 := hc HB hx412_1
              replace hx412_2 := hc HB hx412_2
              replace hx412_3 := hc HB hx412_3
              replace hx412_4 := hc HB hx412_4
              replace p412 := eq_true p412
              replace q412 := eq_true q412
              refine start_ (n := 15) (S := fun w' => w'.cell? ⟨gb406, 0, none⟩ = some (.slice Ao22 t387.length co22) ∧ w'.cell? ⟨gb406, 1, none⟩ = some (.int .i64 t390) ∧ w'.cell? ⟨gb406, 2, none⟩ = some (.int .i64 t391) ∧ w'.cell? ⟨gb406, 3, none⟩ = some (.int .i64 t392) ∧ w'.cell? ⟨gb406, 4, none⟩ = some (.slice Ao26 t393.length co26) ∧ w'.cell? ⟨gb406, 5, none⟩ = some (.bool t396) ∧ w'.cell? ⟨gb406, 6, none⟩ = some (.slice (some ⟨go38, 0, none⟩) x407006_2.length co38) ∧ w'.cell? ⟨gb406, 7, none⟩ = some (.slice Ao28 t400.length co28) ∧ w'.cell? ⟨gb406, 8, none⟩ = some (.slice Ao29 t403.length co29) ∧ w'.cell? ⟨gb408, 0, none⟩ = some (.int .i64 ((rd_T50 l1 x22_2).f0)) ∧ w'.cell? ⟨gb408, 1, none⟩ = some (.int .i64 ((rd_T50 l1 x22_2).f1)) ∧ w'.cell? ⟨gb408, 2, none⟩ = some (.bool true) ∧ w'.cell? ⟨gb384, 0, none⟩ = some (.slice A0_0 l0_0.length c0_0) ∧ w'.cell? ⟨gb384, 1, none⟩ = some (.int .i64 a0_1) ∧ w'.cell? ⟨gb384, 2, none⟩ = some (.int .i64 a0_2) ∧ w'.cell? ⟨gb384, 3, none⟩ = some (.int .i64 a0_3) ∧ w'.cell? ⟨gb384, 4, none⟩ = some (.slice A0_4 l0_4.length c0_4) ∧ w'.cell? ⟨gb384, 5, none⟩ = some (.bool a0_5) ∧ w'.cell? ⟨gb384, 6, none⟩ = some (.slice (some ad410) l0_6.length c0_6) ∧ w'.cell? ⟨gb384, 7, none⟩ = some (.slice A0_7 l0_7.length c0_7) ∧ w'.cell? ⟨gb384, 8, none⟩ = some (.slice A0_8 l0_8.length c0_8) ∧ w'.cell? (ad410.add ((((rd_T50 l1 x22_2).f1)).toNat * 5)) = some (.int .i64 ((rd_T95 l0_6 ((rd_T50 l1 x22_2).f1)).f0)) ∧ w'.cell? ⟨(ad410.add ((((rd_T50 l1 x22_2).f1)).toNat * 5)).block, (ad410.add ((((rd_T50 l1 x22_2).f1)).toNat * 5)).off + 1, none⟩ = some (.int .i64 ((rd_T95 l0_6 ((rd_T50 l1 x22_2).f1)).f1)) ∧ w'.cell? ⟨(ad410.add ((((rd_T50 l1 x22_2).f1)).toNat * 5)).block, (ad410.add ((((rd_T50 l1 x22_2).f1)).toNat * 5)).off + 2, none⟩ = some (.int .i64 ((rd_T95 l0_6 ((rd_T50 l1 x22_2).f1)).f2)) ∧ w'.cell? ⟨(ad410.add ((((rd_T50 l1 x22_2).f1)).toNat * 5)).block, (ad410.add ((((rd_T50 l1 x22_2).f1)).toNat * 5)).off + 3, none⟩ = some (.int .i64 ((rd_T95 l0_6 ((rd_T50 l1 x22_2).f1)).f3)) ∧ w'.cell? ⟨(ad410.add ((((rd_T50 l1 x22_2).f1)).toNat * 5)).block, (ad410.add ((((rd_T50 l1 x22_2).f1)).toNat * 5)).off + 4, none⟩ = some (.int .i64 ((rd_T95 l0_6 ((rd_T50 l1 x22_2).f1)).f4))) (ds := [14]) #[false, false, false, false, false, false, false, false, false, false, false, false, false, false, false] (by kernel_rfl) rfl rfl ⟨bc BK406 0, bc BK406 1, bc BK406 2, bc BK406 3, bc BK406 4, bc BK406 5, bc BK406 6, bc BK406 7, bc BK406 8, bc BK408 0, bc BK408 1, bc BK408 2, bc BK384 0, bc BK384 1, bc BK384 2, bc BK384 3, bc BK384 4, bc BK384 5, bc BK384 6, bc BK384 7, bc BK384 8, (hc HB hw412_0), (hc HB hw412_1), (hc HB hw412_2), (hc HB hw412_3), (hc HB hw412_4)⟩ (fun hHeld => ?_); refine with_tabW impl_Decide.tab11 impl_Decide.bits11 (fun HT_ HW_ => ?_)
              generalize w55.drew = w56 at HO_407000 HO_407004 HO_407006 HO_407007 HO_407008 BK384 BK385 BK406 BK408 HB HQ53 hx412_0 hx412_1 hx412_2 hx412_3 hx412_4 hHeld ⊢
              refine pz_ 0 44 ?_
              refine pz_ 2 46 ?_
              refine pz_ 4 48 ?_
              refine pz_ 6 50 ?_
              refine pz_ 10 54 ?_
              refine take_ (i := 1) (N := some 45) (v := ?_) (a' := ?_) #[true, true, true, false, true, false, true, false, false, false, true, false, false, false, false] rfl rfl (take_ofW HT_.out HW_.out (by kernel_rfl)) (fun _ _ _ h => h) (Or.inl ⟨by rfl, ?_⟩) hHeld ?_ ?_
              rotate_left
              ·rintro w' ⟨s0, s1, s2, s3, s4, s5, s6, s7, s8, s9, s10, s11, s12, s13, s14, s15, s16, s17, s18, s19, s20, s21, s22, s23, s24, s25⟩
               go_simp
               with_reducible rfl
              rotate_left
              ·simp only [Act.put, List.setIfInBounds_toArray, List.set_cons_zero, List.set_cons_succ, i64_w, i32_w]
               rfl
              refine take_ (i := 3) (N := some 47) (v := ?_) (a' := ?_) #[true, true, true, true, true, false, true, false, false, false, true, false, false, false, false] rfl rfl (take_ofW HT_.out HW_.out (by kernel_rfl)) (fun _ _ _ h => h) (Or.inl ⟨by rfl, ?_⟩) hHeld ?_ ?_
              rotate_left
              ·rintro w' ⟨s0, s1, s2, s3, s4, s5, s6, s7, s8, s9, s10, s11, s12, s13, s14, s15, s16, s17, s18, s19, s20, s21, s22, s23, s24, s25⟩
               go_simp
               with_reducible rfl
              rotate_left
              ·simp only [Act.put, List.setIfInBounds_toArray, List.set_cons_zero, List.set_cons_succ, i64_w, i32_w]
               rfl
              refine take_ (i := 5) (N := some 49) (v := ?_) (a' := ?_) #[true, true, true, true, true, true, true, false, false, false, true, false, false, false, false] rfl rfl (take_ofW HT_.out HW_.out (by kernel_rfl)) (fun _ _ _ h => h) (Or.inl ⟨by rfl, ?_⟩) hHeld ?_ ?_
              rotate_left
              ·rintro w' ⟨s0, s1, s2, s3, s4, s5, s6, s7, s8, s9, s10, s11, s12, s13, s14, s15, s16, s17, s18, s19, s20, s21, s22, s23, s24, s25⟩
               go_simp
               with_reducible rfl
              rotate_left
              ·simp only [Act.put, List.setIfInBounds_toArray, List.set_cons_zero, List.set_cons_succ, i64_w, i32_w]
               rfl
              refine take_ (i := 7) (N := some 51) (v := ?_) (a' := ?_) #[true, true, true, true, true, true, true, true, false, false, true, false, false, false, false] rfl rfl (take_ofW HT_.out HW_.out (by kernel_rfl)) (fun _ _ _ h => h) (Or.inl ⟨by rfl, ?_⟩) hHeld ?_ ?_
              rotate_left
              ·rintro w' ⟨s0, s1, s2, s3, s4, s5, s6, s7, s8, s9, s10, s11, s12, s13, s14, s15, s16, s17, s18, s19, s20, s21, s22, s23, s24, s25⟩
               go_simp
               with_reducible rfl
              rotate_left
              ·simp only [Act.put, List.setIfInBounds_toArray, List.set_cons_zero, List.set_cons_succ, i64_w, i32_w]
               rfl
              refine pz_ 8 52 ?_
              refine take_ (i := 9) (N := some 53) (v := ?_) (a' := ?_) #[true, true, true, true, true, true, true, true, true, true, true, false, false, false, false] rfl rfl (take_ofW HT_.out HW_.out (by kernel_rfl)) (fun _ _ _ h => h) (Or.inl ⟨by rfl, ?_⟩) hHeld ?_ ?_
              rotate_left
              ·rintro w' ⟨s0, s1, s2, s3, s4, s5, s6, s7, s8, s9, s10, s11, s12, s13, s14, s15, s16, s17, s18, s19, s20, s21, s22, s23, s24, s25⟩
               go_simp
               with_reducible rfl
              rotate_left
              ·simp only [Act.put, List.setIfInBounds_toArray, List.set_cons_zero, List.set_cons_succ, i64_w, i32_w]
               rfl
              refine take_ (i := 11) (N := some 55) (v := ?_) (a' := ?_) #[true, true, true, true, true, true, true, true, true, true, true, true, false, false, false] rfl rfl (take_ofW HT_.out HW_.out (by kernel_rfl)) (fun _ _ _ h => h) (Or.inl ⟨by rfl, ?_⟩) hHeld ?_ ?_
              rotate_left
              ·rintro w' ⟨s0, s1, s2, s3, s4, s5, s6, s7, s8, s9, s10, s11, s12, s13, s14, s15, s16, s17, s18, s19, s20, s21, s22, s23, s24, s25⟩
               go_simp
               with_reducible rfl
              rotate_left
              ·simp only [Act.put, List.setIfInBounds_toArray, List.set_cons_zero, List.set_cons_succ, i64_w, i32_w]
               rfl
              refine one_ (i := 12) (N := some 56) #[true, true, true, true, true, true, true, true, true, true, true, true, true, false, false] rfl rfl (one_of HT_.out (by kernel_rfl)) (by decide) (fun K hK => ?_)
              refine goes_ Try.func64 (by kernel_rfl) rfl #[.agg #[.int .i64 ((rd_T95 l0_6 ((rd_T50 l1 x22_2).f1)).f0), .int .i64 ((rd_T95 l0_6 ((rd_T50 l1 x22_2).f1)).f1), .int .i64 ((rd_T95 l0_6 ((rd_T50 l1 x22_2).f1)).f2), .int .i64 ((rd_T95 l0_6 ((rd_T50 l1 x22_2).f1)).f3), .int .i64 ((rd_T95 l0_6 ((rd_T50 l1 x22_2).f1)).f4)], .int .i64 ((rd_T50 l1 x22_2).f0)] (by rfl) rfl rfl (by (try simp only [List.map_toArray, List.map_cons, List.map_nil]); first | done | rfl | (simp only [List.length_drop, List.length_take]; rfl)) ?_
              with_reducible refine (impl_awarded.calls ((rd_T95 l0_6 ((rd_T50 l1 x22_2).f1)).f0) ((rd_T95 l0_6 ((rd_T50 l1 x22_2).f1)).f1) ((rd_T95 l0_6 ((rd_T50 l1 x22_2).f1)).f2) ((rd_T95 l0_6 ((rd_T50 l1 x22_2).f1)).f3) ((rd_T95 l0_6 ((rd_T50 l1 x22_2).f1)).f4) ((rd_T50 l1 x22_2).f0) t413 t414 t415 t416 t417 _ A41.out).mono ?_
              rintro e w57 ⟨rfl, hb⟩
              refine ⟨_, rfl, ?_⟩
              replace HO_407000 := kr HO_407000 hb
              replace HO_407004 := kr HO_407004 hb
              replace HO_407006 := kr HO_407006 hb
              replace HO_407007 := kr HO_407007 hb
              replace HO_407008 := kr HO_407008 hb
              replace BK384 := kb BK384 hb
              replace BK385 := kb BK385 hb
              replace BK406 := kb BK406 hb
              replace BK408 := kb BK408 hb
              replace HB := hs_ HB hb
              (try clear hb hb2 hk hi)
              have p42 : 0 ≤ (((rd_T50 l1 x22_2).f1) : Int) := oa
              have q42 : (((rd_T50 l1 x22_2).f1) : Int) < ((x407006_2.length : Int) : Int) := oa
              obtain ⟨cl38_, HG38_⟩ := Kd.R_typed HO_407006.out go38 rfl
              have GG38 := dk HG38_
              clear HG38_
              obtain ⟨ce42, hcl42, hM42, hcc42, hfr42⟩ := Kd.R_elem HO_407006.out z95 (((rd_T50 l1 x22_2).f1) : Int) p42 q42
              obtain rfl := k95_openM hM42
              have hx42_0 : World.cell? _ ⟨go38, (((rd_T50 l1 x22_2).f1) : Int).toNat * 5, none⟩ = some (.int .i64 ((rd_T95 y411 ((rd_T50 l1 x22_2).f1)).f0)) := hcc42 0 _ rfl
              have hx42_1 : World.cell? _ ⟨go38, (((rd_T50 l1 x22_2).f1) : Int).toNat * 5 + 1, none⟩ = some (.int .i64 ((rd_T95 y411 ((rd_T50 l1 x22_2).f1)).f1)) := hcc42 1 _ rfl
              have hx42_2 : World.cell? _ ⟨go38, (((rd_T50 l1 x22_2).f1) : Int).toNat * 5 + 2, none⟩ = some (.int .i64 ((rd_T95 y411 ((rd_T50 l1 x22_2).f1)).f2)) := hcc42 2 _ rfl
              have hx42_3 : World.cell? _ ⟨go38, (((rd_T50 l1 x22_2).f1) : Int).toNat * 5 + 3, none⟩ = some (.int .i64 ((rd_T95 y411 ((rd_T50 l1 x22_2).f1)).f3)) := hcc42 3 _ rfl
              have hx42_4 : World.cell? _ ⟨go38, (((rd_T50 l1 x22_2).f1) : Int).toNat * 5 + 4, none⟩ = some (.int .i64 ((rd_T95 y411 ((rd_T50 l1 x22_2).f1)).f4)) := hcc42 4 _ rfl
              have hf42_0 : World.frozen? _ ⟨go38, (((rd_T50 l1 x22_2).f1) : Int).toNat * 5, none⟩ = false := hfr42 0
              have hf42_1 : World.frozen? _ ⟨go38, (((rd_T50 l1 x22_2).f1) : Int).toNat * 5 + 1, none⟩ = false := hfr42 1
              have hf42_2 : World.frozen? _ ⟨go38, (((rd_T50 l1 x22_2).f1) : Int).toNat * 5 + 2, none⟩ = false := hfr42 2
              have hf42_3 : World.frozen? _ ⟨go38, (((rd_T50 l1 x22_2).f1) : Int).toNat * 5 + 3, none⟩ = false := hfr42 3
              have hf42_4 : World.frozen? _ ⟨go38, (((rd_T50 l1 x22_2).f1) : Int).toNat * 5 + 4, none⟩ = false := hfr42 4
              clear hcl42 hcc42 hfr42; (try clear hM42)
              replace p42 := eq_true p42
              replace q42 := eq_true q42
              obtain ⟨ce58, hcl58, hM58, hcc58, hfr58⟩ := Kd.R_elem HO_407006.out z95 (((rd_T50 l1 x22_2).f1) : Int) (oa) (by have h_ : (((rd_T50 l1 x22_2).f1) : Int) < ((x407006_2.length : Int) : Int) := oa; first | exact h_ | (have e_ := (Kd.R_reads' HO_407006.out).1; omega) | simpa using h_)
              obtain rfl := k95_openM hM58
              have HP58 := (Kd.R_seg HO_407006.out (((rd_T50 l1 x22_2).f1) : Int) (oa) (by have h_ : (((rd_T50 l1 x22_2).f1) : Int) < ((x407006_2.length : Int) : Int) := oa; first | exact h_ | (have e_ := (Kd.R_reads' HO_407006.out).1; omega) | simpa using h_) (seg := [.int .i64 t413, .int .i64 t414, .int .i64 t415, .int .i64 t416, .int .i64 t417]) (j := 0) hcl58 hcc58 (show 5 ≤ 5 from by decide) (x' := (⟨t413, t414, t415, t416, t417⟩ : S95)) (k95_mkM _ _ _ (⟨t413, t414, t415, t416, t417⟩ : S95) ) (fun _ hk => hk)).1
              rw [← Ny418.out] at HP58
              have HQ58 := dk HP58
              clear hcl58 hcc58 hfr58 hM58 HP58
              refine hK.out _ _ ⟨bc BK406 0, bc BK406 1, bc BK406 2, bc BK406 3, bc BK406 4, bc BK406 5, bc BK406 6, bc BK406 7, bc BK406 8, bc BK408 0, bc BK408 1, bc BK408 2, bc BK384 0, bc BK384 1, bc BK384 2, bc BK384 3, bc BK384 4, bc BK384 5, bc BK384 6, bc BK384 7, bc BK384 8, (hc HB hw412_0), (hc HB hw412_1), (hc HB hw412_2), (hc HB hw412_3), (hc HB hw412_4)⟩ (fun hHeld => ?_)
              clear hK K
              refine norm_ (a' := ?_) ?_ ?_
              rotate_left
              ·show Act.put _ (some 56) _ = _
               simp only [Act.put, List.setIfInBounds_toArray, List.set_cons_zero, List.set_cons_succ, i64_w, i32_w]
               rfl
              refine pz_ 13 57 ?_
              refine last_ (i := 14) (N := none) #[true, true, true, true, true, true, true, true, true, true, true, true, true, true, true] rfl rfl (one_of HT_.out (by kernel_rfl)) (by decide) (fun K hK => ?_)
              refine skip_ (w1 := ?_) (by rfl) rfl ?_ ?_
              rotate_left
              ·go_simp
               rfl
              refine hK.out _ _ ?_
              clear hK K
              refine done_ (done_of HT_.out (by kernel_rfl)) ?_
              try go_wp2
              go_roundg k2
              case measure => have := HJ2.out; have := HK2.out; omega
              case rel => exact ⟨(wrap64 (x22_2 + 1)), (x386001_2), (x386002_2), (x386003_2), (x386005_2), (y418), (.slice (some ⟨go38, 0, none⟩) x407006_2.length co38), e2_, H', ⟨by have := HJ2.out; have := HK2.out; omega⟩, ⟨by (with_reducible repeat (first | apply Kd.R_alloc | apply Kd.R_drewN | apply Kd.R_drew)); exact Kd.R_mono (Kd.R_far (p := ⟨go38, (((rd_T50 l1 x22_2).f1) : Int).toNat * 5 + 4, none⟩) (Kd.R_far (p := ⟨go38, (((rd_T50 l1 x22_2).f1) : Int).toNat * 5 + 3, none⟩) (Kd.R_far (p := ⟨go38, (((rd_T50 l1 x22_2).f1) : Int).toNat * 5 + 2, none⟩) (Kd.R_far (p := ⟨go38, (((rd_T50 l1 x22_2).f1) : Int).toNat * 5 + 1, none⟩) (Kd.R_far (p := ⟨go38, (((rd_T50 l1 x22_2).f1) : Int).toNat * 5, none⟩) (Kd.R_types HO_407000.out GG38.out (by decide)) (fun _ hk => hk.2) (.int .i64 t413)) (fun _ hk => hk.2) (.int .i64 t414)) (fun _ hk => hk.2) (.int .i64 t415)) (fun _ hk => hk.2) (.int .i64 t416)) (fun _ hk => hk.2) (.int .i64 t417)) (fun _ hk => trivial)⟩, ⟨by (with_reducible repeat (first | apply Kd.R_alloc | apply Kd.R_drewN | apply Kd.R_drew)); exact Kd.R_mono (Kd.R_far (p := ⟨go38, (((rd_T50 l1 x22_2).f1) : Int).toNat * 5 + 4, none⟩) (Kd.R_far (p := ⟨go38, (((rd_T50 l1 x22_2).f1) : Int).toNat * 5 + 3, none⟩) (Kd.R_far (p := ⟨go38, (((rd_T50 l1 x22_2).f1) : Int).toNat * 5 + 2, none⟩) (Kd.R_far (p := ⟨go38, (((rd_T50 l1 x22_2).f1) : Int).toNat * 5 + 1, none⟩) (Kd.R_far (p := ⟨go38, (((rd_T50 l1 x22_2).f1) : Int).toNat * 5, none⟩) (Kd.R_types HO_407004.out GG38.out (by decide)) (fun _ hk => hk.2) (.int .i64 t413)) (fun _ hk => hk.2) (.int .i64 t414)) (fun _ hk => hk.2) (.int .i64 t415)) (fun _ hk => hk.2) (.int .i64 t416)) (fun _ hk => hk.2) (.int .i64 t417)) (fun _ hk => ⟨hk.1.1, hk.1.2⟩)⟩, ⟨rr HQ58⟩, ⟨by (with_reducible repeat (first | apply Kd.R_alloc | apply Kd.R_drewN | apply Kd.R_drew)); exact Kd.R_mono (Kd.R_far (p := ⟨go38, (((rd_T50 l1 x22_2).f1) : Int).toNat * 5 + 4, none⟩) (Kd.R_far (p := ⟨go38, (((rd_T50 l1 x22_2).f1) : Int).toNat * 5 + 3, none⟩) (Kd.R_far (p := ⟨go38, (((rd_T50 l1 x22_2).f1) : Int).toNat * 5 + 2, none⟩) (Kd.R_far (p := ⟨go38, (((rd_T50 l1 x22_2).f1) : Int).toNat * 5 + 1, none⟩) (Kd.R_far (p := ⟨go38, (((rd_T50 l1 x22_2).f1) : Int).toNat * 5, none⟩) (Kd.R_types HO_407007.out GG38.out (by decide)) (fun _ hk => hk.2) (.int .i64 t413)) (fun _ hk => hk.2) (.int .i64 t414)) (fun _ hk => hk.2) (.int .i64 t415)) (fun _ hk => hk.2) (.int .i64 t416)) (fun _ hk => hk.2) (.int .i64 t417)) (fun _ hk => ⟨hk.1.1, hk.1.2⟩)⟩, ⟨by (with_reducible repeat (first | apply Kd.R_alloc | apply Kd.R_drewN | apply Kd.R_drew)); exact Kd.R_mono (Kd.R_far (p := ⟨go38, (((rd_T50 l1 x22_2).f1) : Int).toNat * 5 + 4, none⟩) (Kd.R_far (p := ⟨go38, (((rd_T50 l1 x22_2).f1) : Int).toNat * 5 + 3, none⟩) (Kd.R_far (p := ⟨go38, (((rd_T50 l1 x22_2).f1) : Int).toNat * 5 + 2, none⟩) (Kd.R_far (p := ⟨go38, (((rd_T50 l1 x22_2).f1) : Int).toNat * 5 + 1, none⟩) (Kd.R_far (p := ⟨go38, (((rd_T50 l1 x22_2).f1) : Int).toNat * 5, none⟩) (Kd.R_types HO_407008.out GG38.out (by decide)) (fun _ hk => hk.2) (.int .i64 t413)) (fun _ hk => hk.2) (.int .i64 t414)) (fun _ hk => hk.2) (.int .i64 t415)) (fun _ hk => hk.2) (.int .i64 t416)) (fun _ hk => hk.2) (.int .i64 t417)) (fun _ hk => ⟨hk.1.1, hk.1.2⟩)⟩, ⟨bg HO_407006 BK384⟩, ⟨bg HO_407006 BK385⟩, ⟨bg HO_407006 BK406⟩, ⟨bb HB⟩⟩
             ·replace c40 := Bool.eq_false_iff.mpr c40
              subst c40
              have H1 : (impl_Decide.l0 k2 l1 (l1.length : Int) (wrap64 (x22_2 + 1)) l0_0 a0_1 a0_2 a0_3 l0_4 a0_5 l0_6 l0_7 l0_8 t387 t390 t391 t392 t393 t396 y411 t400 t403) = some (r1, r2, r3, r4, r5, r6, r7, r8, r9, r10) := by rw [if_neg (show ¬ (false = true) by decide)] at H; exact H
              clear H
              have H := H1
              clear H1
              have H' := dk H
              clear H
              have p407 : 0 ≤ (x22_2 : Int) := oa
              have q407 : x22_2 < (l1.length : Int) := oa
              obtain ⟨ad407, e407, hx407_0, hx407_1, hx407_2⟩ := at_T50 HR1.out x22_2 p407 q407
              (try rw [← Nbq39.out] at hx407_2)
              cases e407
              replace hx407_0 := hc HB hx407_0
              replace hx407_1 := hc HB hx407_1
              replace hx407_2 := hc HB hx407_2
              replace p407 := eq_true p407
              replace q407 := eq_true q407
              try go_wp2_with (first | ((with_reducible refine gate_dst (N := 8) rfl ?_); (try (refine gate_guard (by rfl) ?_; dsimp only)); refine bx (N := 8) (cs := #[.int .i64 0, .int .i64 0, .bool false]) (t := 50) ?_; intro gb408 hg w59 hbox hb; replace HO_407000 := kr HO_407000 hb; replace HO_407004 := kr HO_407004 hb; replace HO_407006 := kr HO_407006 hb; replace HO_407007 := kr HO_407007 hb; replace HO_407008 := kr HO_407008 hb; have BK408 := dk (hbox); have GW408 := gs hg HB; have GE408 := gs hg HB; replace HB := hs_ HB hb; have NB384_408 := gn hg BK384; have NB408_384 := gm hg BK384; replace BK384 := kb BK384 hb; have NB385_408 := gn hg BK385; have NB408_385 := gm hg BK385; replace BK385 := kb BK385 hb; have NB406_408 := gn hg BK406; have NB408_406 := gm hg BK406; replace BK406 := kb BK406 hb; clear hb hbox hg; have hnb60 := NB408_384.out; have hnc60 := NB384_408.out; have hnb61 := NB408_385.out; have hnc61 := NB385_408.out; have hnb62 := NB408_406.out; have hnc62 := NB406_408.out; have ⟨z63_0, z63_1, z63_2, v63_0, v63_1, v63_2⟩ := rz3 BK408; have hnb64 := NB384_385.out; have hnc64 := NB385_384.out; have hnb65 := NB384_406.out; have hnc65 := NB406_384.out; have ⟨z66_0, z66_1, z66_2, z66_3, z66_4, z66_5, z66_6, z66_7, z66_8, v66_0, v66_1, v66_2, v66_3, v66_4, v66_5, v66_6, v66_7, v66_8⟩ := rz9 BK384) | ((with_reducible refine gate_callee (f := 63) rfl ?_); refine gl (some 28) Try.func63 #[.agg #[.slice A0_0 l0_0.length c0_0, .int .i64 a0_1, .int .i64 a0_2, .int .i64 a0_3, .slice A0_4 l0_4.length c0_4, .bool a0_5, .slice A0_6 l0_6.length c0_6, .slice A0_7 l0_7.length c0_7, .slice A0_8 l0_8.length c0_8], .agg #[.int .i64 ((rd_T50 l1 x22_2).f0), .int .i64 ((rd_T50 l1 x22_2).f1), .bool false]] ?_; (with_reducible refine (impl_ProtestOk.calls k2 _ _ l0_0 a0_1 a0_2 a0_3 _ _ l0_4 a0_5 _ _ l0_6 _ _ l0_7 _ _ l0_8 ((rd_T50 l1 x22_2).f0) ((rd_T50 l1 x22_2).f1) false true _ ?side1 ?side2 ?side3 ?side4 ?side5 ?side6 ?side7 ?side8 ?side9 ?side10 (by first | exact A33.out | (have h_ := A33.out; rw [← Nbq39.out] at h_; exact h_))).mono ?_); (case side1 => exact Kd.C_below HR0_0.out (bb HB)); (case side2 => exact HC0_0.out); (case side3 => exact Kd.C_below HR0_4.out (bb HB)); (case side4 => exact HC0_4.out); (case side5 => exact Kd.C_below HR0_6.out (bb HB)); (case side6 => exact HC0_6.out); (case side7 => exact Kd.C_below HR0_7.out (bb HB)); (case side8 => exact HC0_7.out); (case side9 => exact Kd.C_below HR0_8.out (bb HB)); (case side10 => exact HC0_8.out); rintro e w67 ⟨rfl, hb⟩; refine ⟨_, rfl, ?_⟩; replace HO_407000 := kf HO_407000 BK408 hb; replace HO_407004 := kf HO_407004 BK408 hb; replace HO_407006 := kf HO_407006 BK408 hb; replace HO_407007 := kf HO_407007 BK408 hb; replace HO_407008 := kf HO_407008 BK408 hb; replace BK384 := dk (blk_below (bf NB384_408.out BK384) hb); replace BK385 := dk (blk_below (bf NB385_408.out BK385) hb); replace BK406 := dk (blk_below (bf NB406_408.out BK406) hb); replace BK408 := dk (blk_below (g := gb408) (o := .cells #[.int .i64 ((rd_T50 l1 x22_2).f0), .int .i64 ((rd_T50 l1 x22_2).f1), .bool false] 50 (0, 0)) (bp BK408) hb); replace HB := hs_ HB hb; (try clear hb hb2 hk hi)))
              replace HO_407000 := dk (Kd.R_drew HO_407000.out)
              replace HO_407004 := dk (Kd.R_drew HO_407004.out)
              replace HO_407006 := dk (Kd.R_drew HO_407006.out)
              replace HO_407007 := dk (Kd.R_drew HO_407007.out)
              replace HO_407008 := dk (Kd.R_drew HO_407008.out)
              replace BK384 := dk (blk_drew BK384.out)
              replace BK385 := dk (blk_drew BK385.out)
              replace BK406 := dk (blk_drew BK406.out)
              replace BK408 := dk (blk_drew BK408.out)
              replace HB := dk (below_drew1 HB.out)
              have p410 : 0 ≤ (((rd_T50 l1 x22_2).f1) : Int) := oa
              have q410 : ((rd_T50 l1 x22_2).f1) < (l0_6.length : Int) := oa
              obtain ⟨ad410, e410, hx410_0, hx410_1, hx410_2, hx410_3, hx410_4⟩ := at_T95 HR0_6.out ((rd_T50 l1 x22_2).f1) p410 q410
              have hw410_4 := hx410_4
              have hw410_3 := hx410_3
              have hw410_2 := hx410_2
              have hw410_1 := hx410_1
              have hw410_0 := hx410_0
              cases e410
              replace hx410_0 := hc HB hx410_0
              replace hx410_1 := hc HB hx410_1
              replace hx410_2 := hc HB hx410_2
              replace hx410_3 := hc HB hx410_3
              replace hx410_4 := hc HB hx410_4
              replace p410 := eq_true p410
              replace q410 := eq_true q410
              have p38 : 0 ≤ (((rd_T50 l1 x22_2).f1) : Int) := oa
              have q38 : (((rd_T50 l1 x22_2).f1) : Int) < ((x407006_2.length : Int) : Int) := oa
              obtain ⟨go38, co38, eo38, gb38, gl38, cl38, HG38⟩ := Kd.R_form HO_407006.out (by omega)
              (first | cases eo38 | (injection eo38 with ea_ en_ ec_; (first | subst ea_ | (injection ea_ with ea_; subst ea_)); subst ec_; clear en_))
              have GB38 := dk gb38
              have GG38 := dk HG38
              clear gb38 gl38 HG38
              obtain ⟨ce38, hcl38, hM38, hcc38, hfr38⟩ := Kd.R_elem HO_407006.out z95 (((rd_T50 l1 x22_2).f1) : Int) p38 q38
              obtain rfl := k95_openM hM38
              have hx38_0 : World.cell? _ ⟨go38, (((rd_T50 l1 x22_2).f1) : Int).toNat * 5, none⟩ = some (.int .i64 ((rd_T95 x407006_2 ((rd_T50 l1 x22_2).f1)).f0)) := hcc38 0 _ rfl
              have hx38_1 : World.cell? _ ⟨go38, (((rd_T50 l1 x22_2).f1) : Int).toNat * 5 + 1, none⟩ = some (.int .i64 ((rd_T95 x407006_2 ((rd_T50 l1 x22_2).f1)).f1)) := hcc38 1 _ rfl
              have hx38_2 : World.cell? _ ⟨go38, (((rd_T50 l1 x22_2).f1) : Int).toNat * 5 + 2, none⟩ = some (.int .i64 ((rd_T95 x407006_2 ((rd_T50 l1 x22_2).f1)).f2)) := hcc38 2 _ rfl
              have hx38_3 : World.cell? _ ⟨go38, (((rd_T50 l1 x22_2).f1) : Int).toNat * 5 + 3, none⟩ = some (.int .i64 ((rd_T95 x407006_2 ((rd_T50 l1 x22_2).f1)).f3)) := hcc38 3 _ rfl
              have hx38_4 : World.cell? _ ⟨go38, (((rd_T50 l1 x22_2).f1) : Int).toNat * 5 + 4, none⟩ = some (.int .i64 ((rd_T95 x407006_2 ((rd_T50 l1 x22_2).f1)).f4)) := hcc38 4 _ rfl
              have hf38_0 : World.frozen? _ ⟨go38, (((rd_T50 l1 x22_2).f1) : Int).toNat * 5, none⟩ = false := hfr38 0
              have hf38_1 : World.frozen? _ ⟨go38, (((rd_T50 l1 x22_2).f1) : Int).toNat * 5 + 1, none⟩ = false := hfr38 1
              have hf38_2 : World.frozen? _ ⟨go38, (((rd_T50 l1 x22_2).f1) : Int).toNat * 5 + 2, none⟩ = false := hfr38 2
              have hf38_3 : World.frozen? _ ⟨go38, (((rd_T50 l1 x22_2).f1) : Int).toNat * 5 + 3, none⟩ = false := hfr38 3
              have hf38_4 : World.frozen? _ ⟨go38, (((rd_T50 l1 x22_2).f1) : Int).toNat * 5 + 4, none⟩ = false := hfr38 4
              clear hcl38 hcc38 hfr38; (try clear hM38)
              replace p38 := eq_true p38
              replace q38 := eq_true q38
              obtain ⟨ce69, hcl69, hM69, hcc69, hfr69⟩ := Kd.R_elem HO_407006.out z95 (((rd_T50 l1 x22_2).f1) : Int) (oa) (by have h_ : (((rd_T50 l1 x22_2).f1) : Int) < ((x407006_2.length : Int) : Int) := oa; first | exact h_ | (have e_ := (Kd.R_reads' HO_407006.out).1; omega) | simpa using h_)
              obtain rfl := k95_openM hM69
              have HP69 := (Kd.R_seg HO_407006.out (((rd_T50 l1 x22_2).f1) : Int) (oa) (by have h_ : (((rd_T50 l1 x22_2).f1) : Int) < ((x407006_2.length : Int) : Int) := oa; first | exact h_ | (have e_ := (Kd.R_reads' HO_407006.out).1; omega) | simpa using h_) (seg := [.int .i64 ((rd_T95 l0_6 ((rd_T50 l1 x22_2).f1)).f0), .int .i64 ((rd_T95 l0_6 ((rd_T50 l1 x22_2).f1)).f1), .int .i64 ((rd_T95 l0_6 ((rd_T50 l1 x22_2).f1)).f2), .int .i64 ((rd_T95 l0_6 ((rd_T50 l1 x22_2).f1)).f3), .int .i64 ((rd_T95 l0_6 ((rd_T50 l1 x22_2).f1)).f4)]) (j := 0) hcl69 hcc69 (show 5 ≤ 5 from by decide) (x' := (⟨(rd_T95 l0_6 ((rd_T50 l1 x22_2).f1)).f0, (rd_T95 l0_6 ((rd_T50 l1 x22_2).f1)).f1, (rd_T95 l0_6 ((rd_T50 l1 x22_2).f1)).f2, (rd_T95 l0_6 ((rd_T50 l1 x22_2).f1)).f3, (rd_T95 l0_6 ((rd_T50 l1 x22_2).f1)).f4⟩ : S95)) (k95_mkM _ _ _ (⟨(rd_T95 l0_6 ((rd_T50 l1 x22_2).f1)).f0, (rd_T95 l0_6 ((rd_T50 l1 x22_2).f1)).f1, (rd_T95 l0_6 ((rd_T50 l1 x22_2).f1)).f2, (rd_T95 l0_6 ((rd_T50 l1 x22_2).f1)).f3, (rd_T95 l0_6 ((rd_T50 l1 x22_2).f1)).f4⟩ : S95) ) (fun _ hk => hk)).1
              rw [← Ny411.out] at HP69
              have HQ69 := dk HP69
              clear hcl69 hcc69 hfr69 hM69 HP69
              refine start_ (n := 12) (S := fun w' => w'.cell? ⟨gb406, 0, none⟩ = some (.slice Ao22 t387.length co22) ∧ w'.cell? ⟨gb406, 1, none⟩ = some (.int .i64 t390) ∧ w'.cell? ⟨gb406, 2, none⟩ = some (.int .i64 t391) ∧ w'.cell? ⟨gb406, 3, none⟩ = some (.int .i64 t392) ∧ w'.cell? ⟨gb406, 4, none⟩ = some (.slice Ao26 t393.length co26) ∧ w'.cell? ⟨gb406, 5, none⟩ = some (.bool t396) ∧ w'.cell? ⟨gb406, 6, none⟩ = some (.slice (some ⟨go38, 0, none⟩) x407006_2.length co38) ∧ w'.cell? ⟨gb406, 7, none⟩ = some (.slice Ao28 t400.length co28) ∧ w'.cell? ⟨gb406, 8, none⟩ = some (.slice Ao29 t403.length co29) ∧ w'.cell? ⟨gb408, 0, none⟩ = some (.int .i64 ((rd_T50 l1 x22_2).f0)) ∧ w'.cell? ⟨gb408, 1, none⟩ = some (.int .i64 ((rd_T50 l1 x22_2).f1)) ∧ w'.cell? ⟨gb408, 2, none⟩ = some (.bool false) ∧ w'.cell? ⟨gb384, 0, none⟩ = some (.slice A0_0 l0_0.length c0_0) ∧ w'.cell? ⟨gb384, 1, none⟩ = some (.int .i64 a0_1) ∧ w'.cell? ⟨gb384, 2, none⟩ = some (.int .i64 a0_2) ∧ w'.cell? ⟨gb384, 3, none⟩ = some (.int .i64 a0_3) ∧ w'.cell? ⟨gb384, 4, none⟩ = some (.slice A0_4 l0_4.length c0_4) ∧ w'.cell? ⟨gb384, 5, none⟩ = some (.bool a0_5) ∧ w'.cell? ⟨gb384, 6, none⟩ = some (.slice (some ad410) l0_6.length c0_6) ∧ w'.cell? ⟨gb384, 7, none⟩ = some (.slice A0_7 l0_7.length c0_7) ∧ w'.cell? ⟨gb384, 8, none⟩ = some (.slice A0_8 l0_8.length c0_8) ∧ w'.cell? (ad410.add ((((rd_T50 l1 x22_2).f1)).toNat * 5)) = some (.int .i64 ((rd_T95 l0_6 ((rd_T50 l1 x22_2).f1)).f0)) ∧ w'.cell? ⟨(ad410.add ((((rd_T50 l1 x22_2).f1)).toNat * 5)).block, (ad410.add ((((rd_T50 l1 x22_2).f1)).toNat * 5)).off + 1, none⟩ = some (.int .i64 ((rd_T95 l0_6 ((rd_T50 l1 x22_2).f1)).f1)) ∧ w'.cell? ⟨(ad410.add ((((rd_T50 l1 x22_2).f1)).toNat * 5)).block, (ad410.add ((((rd_T50 l1 x22_2).f1)).toNat * 5)).off + 2, none⟩ = some (.int .i64 ((rd_T95 l0_6 ((rd_T50 l1 x22_2).f1)).f2)) ∧ w'.cell? ⟨(ad410.add ((((rd_T50 l1 x22_2).f1)).toNat * 5)).block, (ad410.add ((((rd_T50 l1 x22_2).f1)).toNat * 5)).off + 3, none⟩ = some (.int .i64 ((rd_T95 l0_6 ((rd_T50 l1 x22_2).f1)).f3)) ∧ w'.cell? ⟨(ad410.add ((((rd_T50 l1 x22_2).f1)).toNat * 5)).block, (ad410.add ((((rd_T50 l1 x22_2).f1)).toNat * 5)).off + 4, none⟩ = some (.int .i64 ((rd_T95 l0_6 ((rd_T50 l1 x22_2).f1)).f4))) (ds := [11]) #[false, false, false, false, false, false, false, false, false, false, false, false] (by kernel_rfl) rfl rfl ⟨bc BK406 0, bc BK406 1, bc BK406 2, bc BK406 3, bc BK406 4, bc BK406 5, bc BK406 6, bc BK406 7, bc BK406 8, bc BK408 0, bc BK408 1, bc BK408 2, bc BK384 0, bc BK384 1, bc BK384 2, bc BK384 3, bc BK384 4, bc BK384 5, bc BK384 6, bc BK384 7, bc BK384 8, (hc HB hw410_0), (hc HB hw410_1), (hc HB hw410_2), (hc HB hw410_3), (hc HB hw410_4)⟩ (fun hHeld => ?_); refine with_tabW impl_Decide.tab9 impl_Decide.bits9 (fun HT_ HW_ => ?_)
              generalize w67.drew = w68 at HO_407000 HO_407004 HO_407006 HO_407007 HO_407008 BK384 BK385 BK406 BK408 HB GG38 HQ69 hf38_0 hf38_1 hf38_2 hf38_3 hf38_4 hx38_0 hx38_1 hx38_2 hx38_3 hx38_4 hx410_0 hx410_1 hx410_2 hx410_3 hx410_4 hHeld ⊢
              refine pz_ 0 31 ?_
              refine pz_ 2 33 ?_
              refine pz_ 4 35 ?_
              refine pz_ 6 37 ?_
              refine take_ (i := 1) (N := some 32) (v := ?_) (a' := ?_) #[true, true, true, false, true, false, true, false, false, false, false, false] rfl rfl (take_ofW HT_.out HW_.out (by kernel_rfl)) (fun _ _ _ h => h) (Or.inl ⟨by rfl, ?_⟩) hHeld ?_ ?_
              rotate_left
              ·rintro w' ⟨s0, s1, s2, s3, s4, s5, s6, s7, s8, s9, s10, s11, s12, s13, s14, s15, s16, s17, s18, s19, s20, s21, s22, s23, s24, s25⟩
               go_simp
               with_reducible rfl
              rotate_left
              ·simp only [Act.put, List.setIfInBounds_toArray, List.set_cons_zero, List.set_cons_succ, i64_w, i32_w]
               rfl
              refine take_ (i := 3) (N := some 34) (v := ?_) (a' := ?_) #[true, true, true, true, true, false, true, false, false, false, false, false] rfl rfl (take_ofW HT_.out HW_.out (by kernel_rfl)) (fun _ _ _ h => h) (Or.inl ⟨by rfl, ?_⟩) hHeld ?_ ?_
              rotate_left
              ·rintro w' ⟨s0, s1, s2, s3, s4, s5, s6, s7, s8, s9, s10, s11, s12, s13, s14, s15, s16, s17, s18, s19, s20, s21, s22, s23, s24, s25⟩
               go_simp
               with_reducible rfl
              rotate_left
              ·simp only [Act.put, List.setIfInBounds_toArray, List.set_cons_zero, List.set_cons_succ, i64_w, i32_w]
               rfl
              refine take_ (i := 5) (N := some 36) (v := ?_) (a' := ?_) #[true, true, true, true, true, true, true, false, false, false, false, false] rfl rfl (take_ofW HT_.out HW_.out (by kernel_rfl)) (fun _ _ _ h => h) (Or.inl ⟨by rfl, ?_⟩) hHeld ?_ ?_
              rotate_left
              ·rintro w' ⟨s0, s1, s2, s3, s4, s5, s6, s7, s8, s9, s10, s11, s12, s13, s14, s15, s16, s17, s18, s19, s20, s21, s22, s23, s24, s25⟩
               go_simp
               with_reducible rfl
              rotate_left
              ·simp only [Act.put, List.setIfInBounds_toArray, List.set_cons_zero, List.set_cons_succ, i64_w, i32_w]
               rfl
              refine take_ (i := 7) (N := some 38) (v := ?_) (a' := ?_) #[true, true, true, true, true, true, true, true, false, false, false, false] rfl rfl (take_ofW HT_.out HW_.out (by kernel_rfl)) (fun _ _ _ h => h) (Or.inl ⟨by rfl, ?_⟩) hHeld ?_ ?_
              rotate_left
              ·rintro w' ⟨s0, s1, s2, s3, s4, s5, s6, s7, s8, s9, s10, s11, s12, s13, s14, s15, s16, s17, s18, s19, s20, s21, s22, s23, s24, s25⟩
               go_simp
               with_reducible rfl
              rotate_left
              ·simp only [Act.put, List.setIfInBounds_toArray, List.set_cons_zero, List.set_cons_succ, i64_w, i32_w]
               rfl
              refine pz_ 8 39 ?_
              refine take_ (i := 9) (N := some 40) (v := ?_) (a' := ?_) #[true, true, true, true, true, true, true, true, true, true, false, false] rfl rfl (take_ofW HT_.out HW_.out (by kernel_rfl)) (fun _ _ _ h => h) (Or.inl ⟨by rfl, ?_⟩) hHeld ?_ ?_
              rotate_left
              ·rintro w' ⟨s0, s1, s2, s3, s4, s5, s6, s7, s8, s9, s10, s11, s12, s13, s14, s15, s16, s17, s18, s19, s20, s21, s22, s23, s24, s25⟩
               go_simp
               with_reducible rfl
              rotate_left
              ·simp only [Act.put, List.setIfInBounds_toArray, List.set_cons_zero, List.set_cons_succ, i64_w, i32_w]
               rfl
              refine pz_ 10 41 ?_
              refine last_ (i := 11) (N := none) #[true, true, true, true, true, true, true, true, true, true, true, true] rfl rfl (one_of HT_.out (by kernel_rfl)) (by decide) (fun K hK => ?_)
              refine skip_ (w1 := ?_) (by rfl) rfl ?_ ?_
              rotate_left
              ·go_simp
               rfl
              refine hK.out _ _ ?_
              clear hK K
              refine done_ (done_of HT_.out (by kernel_rfl)) ?_
              have ⟨z70_0, z70_1, z70_2, v70_0, v70_1, v70_2⟩ := rz3 BK408
              have hnr408 : go38 ≠ gb408 := fun e_ => Kd.R_ne HO_407006.out BK408.out (by decide) (by rw [← e_]; rfl)
              have hns408 : gb408 ≠ go38 := fun e_ => hnr408 e_.symm
              try go_wp2
              go_roundg k2
              case measure => have := HJ2.out; have := HK2.out; omega
              case rel => exact ⟨(wrap64 (x22_2 + 1)), (x386001_2), (x386002_2), (x386003_2), (x386005_2), (y411), (.slice (some ⟨go38, 0, none⟩) x407006_2.length co38), e2_, H', ⟨by have := HJ2.out; have := HK2.out; omega⟩, ⟨by (with_reducible repeat (first | apply Kd.R_alloc | apply Kd.R_drewN | apply Kd.R_drew)); exact Kd.R_mono (Kd.R_far (p := ⟨go38, (((rd_T50 l1 x22_2).f1) : Int).toNat * 5 + 4, none⟩) (Kd.R_far (p := ⟨go38, (((rd_T50 l1 x22_2).f1) : Int).toNat * 5 + 3, none⟩) (Kd.R_far (p := ⟨go38, (((rd_T50 l1 x22_2).f1) : Int).toNat * 5 + 2, none⟩) (Kd.R_far (p := ⟨go38, (((rd_T50 l1 x22_2).f1) : Int).toNat * 5 + 1, none⟩) (Kd.R_far (p := ⟨go38, (((rd_T50 l1 x22_2).f1) : Int).toNat * 5, none⟩) (Kd.R_types HO_407000.out GG38.out (by decide)) (fun _ hk => hk.2) (.int .i64 ((rd_T95 l0_6 ((rd_T50 l1 x22_2).f1)).f0))) (fun _ hk => hk.2) (.int .i64 ((rd_T95 l0_6 ((rd_T50 l1 x22_2).f1)).f1))) (fun _ hk => hk.2) (.int .i64 ((rd_T95 l0_6 ((rd_T50 l1 x22_2).f1)).f2))) (fun _ hk => hk.2) (.int .i64 ((rd_T95 l0_6 ((rd_T50 l1 x22_2).f1)).f3))) (fun _ hk => hk.2) (.int .i64 ((rd_T95 l0_6 ((rd_T50 l1 x22_2).f1)).f4))) (fun _ hk => trivial)⟩, ⟨by (with_reducible repeat (first | apply Kd.R_alloc | apply Kd.R_drewN | apply Kd.R_drew)); exact Kd.R_mono (Kd.R_far (p := ⟨go38, (((rd_T50 l1 x22_2).f1) : Int).toNat * 5 + 4, none⟩) (Kd.R_far (p := ⟨go38, (((rd_T50 l1 x22_2).f1) : Int).toNat * 5 + 3, none⟩) (Kd.R_far (p := ⟨go38, (((rd_T50 l1 x22_2).f1) : Int).toNat * 5 + 2, none⟩) (Kd.R_far (p := ⟨go38, (((rd_T50 l1 x22_2).f1) : Int).toNat * 5 + 1, none⟩) (Kd.R_far (p := ⟨go38, (((rd_T50 l1 x22_2).f1) : Int).toNat * 5, none⟩) (Kd.R_types HO_407004.out GG38.out (by decide)) (fun _ hk => hk.2) (.int .i64 ((rd_T95 l0_6 ((rd_T50 l1 x22_2).f1)).f0))) (fun _ hk => hk.2) (.int .i64 ((rd_T95 l0_6 ((rd_T50 l1 x22_2).f1)).f1))) (fun _ hk => hk.2) (.int .i64 ((rd_T95 l0_6 ((rd_T50 l1 x22_2).f1)).f2))) (fun _ hk => hk.2) (.int .i64 ((rd_T95 l0_6 ((rd_T50 l1 x22_2).f1)).f3))) (fun _ hk => hk.2) (.int .i64 ((rd_T95 l0_6 ((rd_T50 l1 x22_2).f1)).f4))) (fun _ hk => ⟨hk.1.1, hk.1.2⟩)⟩, ⟨rr HQ69⟩, ⟨by (with_reducible repeat (first | apply Kd.R_alloc | apply Kd.R_drewN | apply Kd.R_drew)); exact Kd.R_mono (Kd.R_far (p := ⟨go38, (((rd_T50 l1 x22_2).f1) : Int).toNat * 5 + 4, none⟩) (Kd.R_far (p := ⟨go38, (((rd_T50 l1 x22_2).f1) : Int).toNat * 5 + 3, none⟩) (Kd.R_far (p := ⟨go38, (((rd_T50 l1 x22_2).f1) : Int).toNat * 5 + 2, none⟩) (Kd.R_far (p := ⟨go38, (((rd_T50 l1 x22_2).f1) : Int).toNat * 5 + 1, none⟩) (Kd.R_far (p := ⟨go38, (((rd_T50 l1 x22_2).f1) : Int).toNat * 5, none⟩) (Kd.R_types HO_407007.out GG38.out (by decide)) (fun _ hk => hk.2) (.int .i64 ((rd_T95 l0_6 ((rd_T50 l1 x22_2).f1)).f0))) (fun _ hk => hk.2) (.int .i64 ((rd_T95 l0_6 ((rd_T50 l1 x22_2).f1)).f1))) (fun _ hk => hk.2) (.int .i64 ((rd_T95 l0_6 ((rd_T50 l1 x22_2).f1)).f2))) (fun _ hk => hk.2) (.int .i64 ((rd_T95 l0_6 ((rd_T50 l1 x22_2).f1)).f3))) (fun _ hk => hk.2) (.int .i64 ((rd_T95 l0_6 ((rd_T50 l1 x22_2).f1)).f4))) (fun _ hk => ⟨hk.1.1, hk.1.2⟩)⟩, ⟨by (with_reducible repeat (first | apply Kd.R_alloc | apply Kd.R_drewN | apply Kd.R_drew)); exact Kd.R_mono (Kd.R_far (p := ⟨go38, (((rd_T50 l1 x22_2).f1) : Int).toNat * 5 + 4, none⟩) (Kd.R_far (p := ⟨go38, (((rd_T50 l1 x22_2).f1) : Int).toNat * 5 + 3, none⟩) (Kd.R_far (p := ⟨go38, (((rd_T50 l1 x22_2).f1) : Int).toNat * 5 + 2, none⟩) (Kd.R_far (p := ⟨go38, (((rd_T50 l1 x22_2).f1) : Int).toNat * 5 + 1, none⟩) (Kd.R_far (p := ⟨go38, (((rd_T50 l1 x22_2).f1) : Int).toNat * 5, none⟩) (Kd.R_types HO_407008.out GG38.out (by decide)) (fun _ hk => hk.2) (.int .i64 ((rd_T95 l0_6 ((rd_T50 l1 x22_2).f1)).f0))) (fun _ hk => hk.2) (.int .i64 ((rd_T95 l0_6 ((rd_T50 l1 x22_2).f1)).f1))) (fun _ hk => hk.2) (.int .i64 ((rd_T95 l0_6 ((rd_T50 l1 x22_2).f1)).f2))) (fun _ hk => hk.2) (.int .i64 ((rd_T95 l0_6 ((rd_T50 l1 x22_2).f1)).f3))) (fun _ hk => hk.2) (.int .i64 ((rd_T95 l0_6 ((rd_T50 l1 x22_2).f1)).f4))) (fun _ hk => ⟨hk.1.1, hk.1.2⟩)⟩, ⟨bg HO_407006 BK384⟩, ⟨bg HO_407006 BK385⟩, ⟨bg HO_407006 BK406⟩, ⟨bb HB⟩⟩
            ·rw [if_neg c37] at H
             exact absurd H (by simp)
           ·rw [if_neg c36] at H
            exact absurd H (by simp)
          ·rw [if_neg c35] at H
           exact absurd H (by simp)
         ·replace c34 := Bool.eq_false_iff.mpr c34
          subst c34
          have H1 : (some (([] : List (S139)), 0, 0, 0, ([] : List Int), false, ([] : List (S95)), ([] : List Int), ([] : List Int), false)) = some (r1, r2, r3, r4, r5, r6, r7, r8, r9, r10) := by rw [if_neg (show ¬ (false = true) by decide)] at H; exact H
          clear H
          have H := H1
          clear H1
          simp only [Option.some.injEq, Prod.mk.injEq] at H
          obtain ⟨rfl, rfl, rfl, rfl, rfl, rfl, rfl, rfl, rfl, rfl⟩ := H
          have p407 : 0 ≤ (x22_2 : Int) := oa
          have q407 : x22_2 < (l1.length : Int) := oa
          obtain ⟨ad407, e407, hx407_0, hx407_1, hx407_2⟩ := at_T50 HR1.out x22_2 p407 q407
          cases e407
          replace hx407_0 := hc HB hx407_0
          replace hx407_1 := hc HB hx407_1
          replace hx407_2 := hc HB hx407_2
          replace p407 := eq_true p407
          replace q407 := eq_true q407
          go_wp2_with (first | ((with_reducible refine gate_dst (N := 8) rfl ?_); (try (refine gate_guard (by rfl) ?_; dsimp only)); refine bx (N := 8) (cs := #[.int .i64 0, .int .i64 0, .bool false]) (t := 50) ?_; intro gb408 hg w71 hbox hb; replace HO_407000 := kr HO_407000 hb; replace HO_407004 := kr HO_407004 hb; replace HO_407006 := kr HO_407006 hb; replace HO_407007 := kr HO_407007 hb; replace HO_407008 := kr HO_407008 hb; have BK408 := dk (hbox); have GW408 := gs hg HB; have GE408 := gs hg HB; replace HB := hs_ HB hb; have NB384_408 := gn hg BK384; have NB408_384 := gm hg BK384; replace BK384 := kb BK384 hb; have NB385_408 := gn hg BK385; have NB408_385 := gm hg BK385; replace BK385 := kb BK385 hb; have NB406_408 := gn hg BK406; have NB408_406 := gm hg BK406; replace BK406 := kb BK406 hb; clear hb hbox hg; have hnb72 := NB408_384.out; have hnc72 := NB384_408.out; have hnb73 := NB408_385.out; have hnc73 := NB385_408.out; have hnb74 := NB408_406.out; have hnc74 := NB406_408.out; have ⟨z75_0, z75_1, z75_2, v75_0, v75_1, v75_2⟩ := rz3 BK408; have hnb76 := NB384_385.out; have hnc76 := NB385_384.out; have hnb77 := NB384_406.out; have hnc77 := NB406_384.out; have ⟨z78_0, z78_1, z78_2, z78_3, z78_4, z78_5, z78_6, z78_7, z78_8, v78_0, v78_1, v78_2, v78_3, v78_4, v78_5, v78_6, v78_7, v78_8⟩ := rz9 BK384) | ((with_reducible refine gate_callee (f := 63) rfl ?_); refine gl (some 28) Try.func63 #[.agg #[.slice A0_0 l0_0.length c0_0, .int .i64 a0_1, .int .i64 a0_2, .int .i64 a0_3, .slice A0_4 l0_4.length c0_4, .bool a0_5, .slice A0_6 l0_6.length c0_6, .slice A0_7 l0_7.length c0_7, .slice A0_8 l0_8.length c0_8], .agg #[.int .i64 ((rd_T50 l1 x22_2).f0), .int .i64 ((rd_T50 l1 x22_2).f1), .bool ((rd_T50 l1 x22_2).f2)]] ?_; (with_reducible refine (impl_ProtestOk.calls k2 _ _ l0_0 a0_1 a0_2 a0_3 _ _ l0_4 a0_5 _ _ l0_6 _ _ l0_7 _ _ l0_8 ((rd_T50 l1 x22_2).f0) ((rd_T50 l1 x22_2).f1) ((rd_T50 l1 x22_2).f2) false _ ?side1 ?side2 ?side3 ?side4 ?side5 ?side6 ?side7 ?side8 ?side9 ?side10 A33.out).mono ?_); (case side1 => exact Kd.C_below HR0_0.out (bb HB)); (case side2 => exact HC0_0.out); (case side3 => exact Kd.C_below HR0_4.out (bb HB)); (case side4 => exact HC0_4.out); (case side5 => exact Kd.C_below HR0_6.out (bb HB)); (case side6 => exact HC0_6.out); (case side7 => exact Kd.C_below HR0_7.out (bb HB)); (case side8 => exact HC0_7.out); (case side9 => exact Kd.C_below HR0_8.out (bb HB)); (case side10 => exact HC0_8.out); rintro e w79 ⟨rfl, hb⟩; refine ⟨_, rfl, ?_⟩; replace HO_407000 := kf HO_407000 BK408 hb; replace HO_407004 := kf HO_407004 BK408 hb; replace HO_407006 := kf HO_407006 BK408 hb; replace HO_407007 := kf HO_407007 BK408 hb; replace HO_407008 := kf HO_407008 BK408 hb; replace BK384 := dk (blk_below (bf NB384_408.out BK384) hb); replace BK385 := dk (blk_below (bf NB385_408.out BK385) hb); replace BK406 := dk (blk_below (bf NB406_408.out BK406) hb); replace BK408 := dk (blk_below (g := gb408) (o := .cells #[.int .i64 ((rd_T50 l1 x22_2).f0), .int .i64 ((rd_T50 l1 x22_2).f1), .bool ((rd_T50 l1 x22_2).f2)] 50 (0, 0)) (bp BK408) hb); replace HB := hs_ HB hb; (try clear hb hb2 hk hi); have hnb80 := NB385_406.out; have hnc80 := NB406_385.out; have ⟨z81_0, z81_1, z81_2, z81_3, z81_4, z81_5, z81_6, z81_7, z81_8, v81_0, v81_1, v81_2, v81_3, v81_4, v81_5, v81_6, v81_7, v81_8⟩ := rz9 BK385))
          refine bodyPost_ret (results_ct rfl _ _ gb385 36 #[.slice none 0 0, .int .i64 0, .int .i64 0, .int .i64 0, .slice none 0 0, .bool false, .slice none 0 0, .slice none 0 0, .slice none 0 0] (0, 0) _ rfl (by (with_reducible repeat (first | refine blk_drewN ?_ _ | refine blk_drew ?_ | refine blk_alloc ?_ _)); refine blk_put (cs := #[.slice none 0 0, .int .i64 0, .int .i64 0, .int .i64 0, .slice none 0 0, .bool false, .slice none 0 0, .slice none 0 0, .slice none 0 0]) ?_ 8 _ rfl; (with_reducible repeat (first | refine blk_drewN ?_ _ | refine blk_drew ?_ | refine blk_alloc ?_ _)); refine blk_put (cs := #[.slice none 0 0, .int .i64 0, .int .i64 0, .int .i64 0, .slice none 0 0, .bool false, .slice none 0 0, .slice none 0 0, .slice none 0 0]) ?_ 7 _ rfl; (with_reducible repeat (first | refine blk_drewN ?_ _ | refine blk_drew ?_ | refine blk_alloc ?_ _)); refine blk_put (cs := #[.slice none 0 0, .int .i64 0, .int .i64 0, .int .i64 0, .slice none 0 0, .bool false, .slice none 0 0, .slice none 0 0, .slice none 0 0]) ?_ 6 _ rfl; (with_reducible repeat (first | refine blk_drewN ?_ _ | refine blk_drew ?_ | refine blk_alloc ?_ _)); refine blk_put (cs := #[.slice none 0 0, .int .i64 0, .int .i64 0, .int .i64 0, .slice none 0 0, .bool x386005_2, .slice none 0 0, .slice none 0 0, .slice none 0 0]) ?_ 5 _ rfl; (with_reducible repeat (first | refine blk_drewN ?_ _ | refine blk_drew ?_ | refine blk_alloc ?_ _)); refine blk_put (cs := #[.slice none 0 0, .int .i64 0, .int .i64 0, .int .i64 0, .slice none 0 0, .bool x386005_2, .slice none 0 0, .slice none 0 0, .slice none 0 0]) ?_ 4 _ rfl; (with_reducible repeat (first | refine blk_drewN ?_ _ | refine blk_drew ?_ | refine blk_alloc ?_ _)); refine blk_put (cs := #[.slice none 0 0, .int .i64 0, .int .i64 0, .int .i64 x386003_2, .slice none 0 0, .bool x386005_2, .slice none 0 0, .slice none 0 0, .slice none 0 0]) ?_ 3 _ rfl; (with_reducible repeat (first | refine blk_drewN ?_ _ | refine blk_drew ?_ | refine blk_alloc ?_ _)); refine blk_put (cs := #[.slice none 0 0, .int .i64 0, .int .i64 x386002_2, .int .i64 x386003_2, .slice none 0 0, .bool x386005_2, .slice none 0 0, .slice none 0 0, .slice none 0 0]) ?_ 2 _ rfl; (with_reducible repeat (first | refine blk_drewN ?_ _ | refine blk_drew ?_ | refine blk_alloc ?_ _)); refine blk_put (cs := #[.slice none 0 0, .int .i64 x386001_2, .int .i64 x386002_2, .int .i64 x386003_2, .slice none 0 0, .bool x386005_2, .slice none 0 0, .slice none 0 0, .slice none 0 0]) ?_ 1 _ rfl; (with_reducible repeat (first | refine blk_drewN ?_ _ | refine blk_drew ?_ | refine blk_alloc ?_ _)); refine blk_put (cs := #[.slice none 0 0, .int .i64 x386001_2, .int .i64 x386002_2, .int .i64 x386003_2, .slice none 0 0, .bool x386005_2, .slice none 0 0, .slice none 0 0, .slice none 0 0]) ?_ 0 _ rfl; (with_reducible repeat (first | refine blk_drewN ?_ _ | refine blk_drew ?_ | refine blk_alloc ?_ _)); exact BK385.out) Try.underlying36 rfl (by kernel_rfl)) rfl ?_
          exact ⟨_, _, _, _, _, ee, by first | exact Kd.R_nil _ _ _ _ _ | exact Kd.N_nil _ _ _ _ _ | exact Kd.V_nil _ _ _ _ _ | exact Kd.Q_nil _ _ _ _ _ | exact Kd.S_nil _ _ _ _ _, by first | exact Kd.R_nil _ _ _ _ _ | exact Kd.N_nil _ _ _ _ _ | exact Kd.V_nil _ _ _ _ _ | exact Kd.Q_nil _ _ _ _ _ | exact Kd.S_nil _ _ _ _ _, by first | exact Kd.R_nil _ _ _ _ _ | exact Kd.N_nil _ _ _ _ _ | exact Kd.V_nil _ _ _ _ _ | exact Kd.Q_nil _ _ _ _ _ | exact Kd.S_nil _ _ _ _ _, by first | exact Kd.R_nil _ _ _ _ _ | exact Kd.N_nil _ _ _ _ _ | exact Kd.V_nil _ _ _ _ _ | exact Kd.Q_nil _ _ _ _ _ | exact Kd.S_nil _ _ _ _ _, by first | exact Kd.R_nil _ _ _ _ _ | exact Kd.N_nil _ _ _ _ _ | exact Kd.V_nil _ _ _ _ _ | exact Kd.Q_nil _ _ _ _ _ | exact Kd.S_nil _ _ _ _ _, bb HB⟩
        ·rw [if_neg c32] at H
         exact absurd H (by simp)
       ·rw [if_neg c31] at H
        exact absurd H (by simp)
      ·rw [if_neg c30] at H
       have c30b0 : decide (x22_2 < (l1.length : Int)) = false := decide_eq_false c30
       clear c30
       simp only [Option.some.injEq, Prod.mk.injEq] at H
       obtain ⟨rfl, rfl, rfl, rfl, rfl, rfl, rfl, rfl, rfl, rfl⟩ := H
       have hnb82 := NB406_384.out
       have hnc82 := NB384_406.out
       have hnb83 := NB406_385.out
       have hnc83 := NB385_406.out
       have ⟨z84_0, z84_1, z84_2, z84_3, z84_4, z84_5, z84_6, z84_7, z84_8, v84_0, v84_1, v84_2, v84_3, v84_4, v84_5, v84_6, v84_7, v84_8⟩ := rz9 BK406
       have hnb85 := NB385_384.out
       have hnc85 := NB384_385.out
       have ⟨z86_0, z86_1, z86_2, z86_3, z86_4, z86_5, z86_6, z86_7, z86_8, v86_0, v86_1, v86_2, v86_3, v86_4, v86_5, v86_6, v86_7, v86_8⟩ := rz9 BK385
       obtain ⟨Ao87, co87, eo87⟩ := Kd.R_slice HO_407006.out
       subst eo87
       go_wp2
       refine bodyPost_ret (results_ct rfl _ _ gb385 36 #[.slice Ao22 t387.length co22, .int .i64 t390, .int .i64 t391, .int .i64 t392, .slice Ao26 t393.length co26, .bool t396, .slice Ao87 x407006_2.length co87, .slice Ao28 t400.length co28, .slice Ao29 t403.length co29] (0, 0) _ rfl (by (with_reducible repeat (first | refine blk_drewN ?_ _ | refine blk_drew ?_ | refine blk_alloc ?_ _)); refine blk_put (cs := #[.slice Ao22 t387.length co22, .int .i64 t390, .int .i64 t391, .int .i64 t392, .slice Ao26 t393.length co26, .bool t396, .slice Ao87 x407006_2.length co87, .slice Ao28 t400.length co28, .slice none 0 0]) ?_ 8 _ rfl; (with_reducible repeat (first | refine blk_drewN ?_ _ | refine blk_drew ?_ | refine blk_alloc ?_ _)); refine blk_put (cs := #[.slice Ao22 t387.length co22, .int .i64 t390, .int .i64 t391, .int .i64 t392, .slice Ao26 t393.length co26, .bool t396, .slice Ao87 x407006_2.length co87, .slice none 0 0, .slice none 0 0]) ?_ 7 _ rfl; (with_reducible repeat (first | refine blk_drewN ?_ _ | refine blk_drew ?_ | refine blk_alloc ?_ _)); refine blk_put (cs := #[.slice Ao22 t387.length co22, .int .i64 t390, .int .i64 t391, .int .i64 t392, .slice Ao26 t393.length co26, .bool t396, .slice none 0 0, .slice none 0 0, .slice none 0 0]) ?_ 6 _ rfl; (with_reducible repeat (first | refine blk_drewN ?_ _ | refine blk_drew ?_ | refine blk_alloc ?_ _)); refine blk_put (cs := #[.slice Ao22 t387.length co22, .int .i64 t390, .int .i64 t391, .int .i64 t392, .slice Ao26 t393.length co26, .bool x386005_2, .slice none 0 0, .slice none 0 0, .slice none 0 0]) ?_ 5 _ rfl; (with_reducible repeat (first | refine blk_drewN ?_ _ | refine blk_drew ?_ | refine blk_alloc ?_ _)); refine blk_put (cs := #[.slice Ao22 t387.length co22, .int .i64 t390, .int .i64 t391, .int .i64 t392, .slice none 0 0, .bool x386005_2, .slice none 0 0, .slice none 0 0, .slice none 0 0]) ?_ 4 _ rfl; (with_reducible repeat (first | refine blk_drewN ?_ _ | refine blk_drew ?_ | refine blk_alloc ?_ _)); refine blk_put (cs := #[.slice Ao22 t387.length co22, .int .i64 t390, .int .i64 t391, .int .i64 x386003_2, .slice none 0 0, .bool x386005_2, .slice none 0 0, .slice none 0 0, .slice none 0 0]) ?_ 3 _ rfl; (with_reducible repeat (first | refine blk_drewN ?_ _ | refine blk_drew ?_ | refine blk_alloc ?_ _)); refine blk_put (cs := #[.slice Ao22 t387.length co22, .int .i64 t390, .int .i64 x386002_2, .int .i64 x386003_2, .slice none 0 0, .bool x386005_2, .slice none 0 0, .slice none 0 0, .slice none 0 0]) ?_ 2 _ rfl; (with_reducible repeat (first | refine blk_drewN ?_ _ | refine blk_drew ?_ | refine blk_alloc ?_ _)); refine blk_put (cs := #[.slice Ao22 t387.length co22, .int .i64 x386001_2, .int .i64 x386002_2, .int .i64 x386003_2, .slice none 0 0, .bool x386005_2, .slice none 0 0, .slice none 0 0, .slice none 0 0]) ?_ 1 _ rfl; (with_reducible repeat (first | refine blk_drewN ?_ _ | refine blk_drew ?_ | refine blk_alloc ?_ _)); refine blk_put (cs := #[.slice none 0 0, .int .i64 x386001_2, .int .i64 x386002_2, .int .i64 x386003_2, .slice none 0 0, .bool x386005_2, .slice none 0 0, .slice none 0 0, .slice none 0 0]) ?_ 0 _ rfl; (with_reducible repeat (first | refine blk_drewN ?_ _ | refine blk_drew ?_ | refine blk_alloc ?_ _)); exact BK385.out) Try.underlying36 rfl (by kernel_rfl)) rfl ?_
       exact ⟨_, _, _, _, _, ee, rf HO_407000 BK385 (fun _ hk => trivial), rf HO_407004 BK385 (fun _ hk => ⟨hk.1.1, hk.1.2⟩), rf HO_407006 BK385 (fun _ hk => trivial), rf HO_407007 BK385 (fun _ hk => ⟨hk.1.1, hk.1.2⟩), rf HO_407008 BK385 (fun _ hk => ⟨hk.1.1, hk.1.2⟩), bb HB⟩
end Go.Proofs.Ythfefanapneocaa.Q
end
namespace Go.Proofs.Ythfefanapneocaa.Q
open Go.RowKit Go.Proofs.YthfefanapneocaaW.PrintWords Go.Proofs.YthfefanapneocaaW.PrintLast Go.Proofs.YthfefanapneocaaW.PrintMore
attribute [local go_sem] max2_int min2_int max_two min_two max_three min_three max_four min_four
set_option linter.unusedVariables false
set_option linter.unusedSimpArgs false
set_option maxRecDepth 100000
set_option maxHeartbeats 8000000
def laws_eqIntS.l0 : Nat → List Int → List Int → Int → Option (Bool)
 | 0, _, _, _ => none
 | k + 1, x0, x1, x5 => if x5 < (x0.length : Int) then (if 0 ≤ x5 then (if x5 < (x1.length : Int) then (if (rd x0 x5) = (rd x1 x5) then (laws_eqIntS.l0 k x0 x1 (wrap64 (x5 + 1))) else (some false)) else (none)) else (none)) else (some true)
def laws_eqIntS.f (k : Nat) (l0 : List Int) (l1 : List Int) : Option (Bool) := if (l0.length : Int) = (l1.length : Int) then (laws_eqIntS.l0 k l0 l1 0) else (some false)
theorem laws_eqIntS.calls (k : Nat) (A0 : Option Addr) (c0 : Nat) (l0 : List Int) (A1 : Option Addr) (c1 : Nat) (l1 : List Int) (r : Bool) (w : World) (hr0 : Kd.C (Kd.int .i64) w A0 l0.length l0) (hc0 : l0.length ≤ c0) (hr1 : Kd.C (Kd.int .i64) w A1 l1.length l1) (hc1 : l1.length ≤ c1) (h : laws_eqIntS.f k l0 l1 = some r) :
  Calls Try.prog 28 #[.slice A0 l0.length c0, .slice A1 l1.length c1] w fun e w' => e = .returned (.bool r) ∧ Drawn0 w w' := by
 have HR0 := dk hr0
 have HC0 := dk hc0
 clear hr0 hc0
 have HR1 := dk hr1
 have HC1 := dk hc1
 clear hr1 hc1
 have H : (if (l0.length : Int) = (l1.length : Int) then (laws_eqIntS.l0 k l0 l1 0) else (some false)) = some r := h
 clear h
 by_cases c3 : (l0.length : Int) = (l1.length : Int)
 ·rw [if_pos c3] at H
  have c3b0 : ((l0.length : Int) == (l1.length : Int)) = true := beq_iff_eq.mpr c3
  have c3b1 : ((l0.length : Int) != (l1.length : Int)) = false := bne_eq_false_iff_eq.mpr c3
  have c3b2 : (l0.length == l1.length) = true := by first | simpa using c3 | (simp at c3 ⊢; omega)
  clear c3
  have H' := dk H
  clear H
  go_enter Try.func28, Try.ntmps28
  go_wp2
  repeat (go_quiet (fail); try go_wp2)
  go_loopg [5] k (fun kq v5 w' => ∃ (x5_1 : Int), v5 = .int .i64 x5_1 ∧ Aside0 (laws_eqIntS.l0 kq l0 l1 x5_1 = some r) ∧ Aside0 (kq ≤ k) ∧ Drawn0 w w')
  case atStart => exact ⟨(0), e2_, H', ⟨Nat.le_refl _⟩, by repeat (first | exact Drawn0.refl _ | apply Drawn0.step)⟩
  case round =>
   clear H'
   (try clear c1)
   (try clear c2)
   (try clear p2)
   (try clear c3)
   (try clear c3b0)
   (try clear c3b1)
   (try clear c3b2)
   obtain ⟨x5_1, rfl, HA, HK1, ⟨m1, rfl⟩⟩ := hrel
   cases gk with
   | zero => exact absurd HA.out (by simp [laws_eqIntS.l0])
   | succ k1 =>
    have H := HA.out
    clear HA
    simp only [laws_eqIntS.l0] at H
    by_cases c4 : x5_1 < (l0.length : Int)
    ·rw [if_pos c4] at H
     have c4b0 : decide (x5_1 < (l0.length : Int)) = true := decide_eq_true c4
     clear c4
     by_cases c5 : 0 ≤ x5_1
     ·rw [if_pos c5] at H
      have c5b0 : decide (0 ≤ x5_1) = true := decide_eq_true c5
      clear c5
      by_cases c6 : x5_1 < (l1.length : Int)
      ·rw [if_pos c6] at H
       have c6b0 : decide (x5_1 < (l1.length : Int)) = true := decide_eq_true c6
       clear c6
       by_cases c7 : (rd l0 x5_1) = (rd l1 x5_1)
       ·rw [if_pos c7] at H
        have c7b0 : ((rd l0 x5_1) == (rd l1 x5_1)) = true := beq_iff_eq.mpr c7
        have c7b1 : ((rd l0 x5_1) != (rd l1 x5_1)) = false := bne_eq_false_iff_eq.mpr c7
        clear c7
        have H' := dk H
        clear H
        have p419 : 0 ≤ (x5_1 : Int) := oa
        have q419 : x5_1 < (l0.length : Int) := oa
        obtain ⟨ad419, e419, hx419_0⟩ := Kd.at_int HR0.out x5_1 p419 q419
        cases e419
        replace p419 := eq_true p419
        replace q419 := eq_true q419
        have p420 : 0 ≤ (x5_1 : Int) := oa
        have q420 : x5_1 < (l1.length : Int) := oa
        obtain ⟨ad420, e420, hx420_0⟩ := Kd.at_int HR1.out x5_1 p420 q420
        cases e420
        replace p420 := eq_true p420
        replace q420 := eq_true q420
        go_wp2
        repeat (go_quiet (fail); try go_wp2)
        go_roundg k1
        case measure => have := HK1.out; omega
        case rel => exact ⟨(wrap64 (x5_1 + 1)), e2_, H', ⟨by have := HK1.out; omega⟩, by repeat (first | exact Drawn0.refl _ | apply Drawn0.step)⟩
       ·rw [if_neg c7] at H
        have c7b0 : ((rd l0 x5_1) == (rd l1 x5_1)) = false := beq_eq_false_iff_ne.mpr c7
        have c7b1 : ((rd l0 x5_1) != (rd l1 x5_1)) = true := bne_iff_ne.mpr c7
        obtain rfl := Option.some.inj H
        have p419 : 0 ≤ (x5_1 : Int) := oa
        have q419 : x5_1 < (l0.length : Int) := oa
        obtain ⟨ad419, e419, hx419_0⟩ := Kd.at_int HR0.out x5_1 p419 q419
        cases e419
        replace p419 := eq_true p419
        replace q419 := eq_true q419
        have p420 : 0 ≤ (x5_1 : Int) := oa
        have q420 : x5_1 < (l1.length : Int) := oa
        obtain ⟨ad420, e420, hx420_0⟩ := Kd.at_int HR1.out x5_1 p420 q420
        cases e420
        replace p420 := eq_true p420
        replace q420 := eq_true q420
        go_wp2
        repeat (go_quiet (fail); try go_wp2)
        go_ret
        exact ⟨e2_, by repeat (first | exact Drawn0.refl _ | apply Drawn0.step)⟩
      ·rw [if_neg c6] at H
       exact absurd H (by simp)
     ·rw [if_neg c5] at H
      exact absurd H (by simp)
    ·rw [if_neg c4] at H
     have c4b0 : decide (x5_1 < (l0.length : Int)) = false := decide_eq_false c4
     clear c4
     obtain rfl := Option.some.inj H
     go_wp2
     repeat (go_quiet (fail); try go_wp2)
     go_ret
     exact ⟨e2_, by repeat (first | exact Drawn0.refl _ | apply Drawn0.step)⟩
 ·rw [if_neg c3] at H
  have c3b0 : ((l0.length : Int) == (l1.length : Int)) = false := beq_eq_false_iff_ne.mpr c3
  have c3b1 : ((l0.length : Int) != (l1.length : Int)) = true := bne_iff_ne.mpr c3
  have c3b2 : (l0.length == l1.length) = false := by first | simpa using c3 | (simp at c3 ⊢; omega)
  obtain rfl := Option.some.inj H
  go_enter Try.func28, Try.ntmps28
  go_wp2
  repeat (go_quiet (fail); try go_wp2)
  go_ret
  exact ⟨e2_, by repeat (first | exact Drawn0.refl _ | apply Drawn0.step)⟩
def laws_eqTeam.f (a0_0 : ByteArray) (a0_1 : Int) (a0_2 : Int) (a1_0 : ByteArray) (a1_1 : Int) (a1_2 : Int) : Option (Bool) := if a0_0.toList = a1_0.toList then (if a0_1 = a1_1 then (if a0_2 = a1_2 then (some true) else (some false)) else (some false)) else (some false)
theorem laws_eqTeam.calls (a0_0 : ByteArray) (a0_1 : Int) (a0_2 : Int) (a1_0 : ByteArray) (a1_1 : Int) (a1_2 : Int) (r : Bool) (w : World) (h : laws_eqTeam.f a0_0 a0_1 a0_2 a1_0 a1_1 a1_2 = some r) :
  Calls Try.prog 117 #[.agg #[.string a0_0, .int .i64 a0_1, .int .i64 a0_2], .agg #[.string a1_0, .int .i64 a1_1, .int .i64 a1_2]] w fun e w' => e = .returned (.bool r) ∧ Below w.heap.size w w' := by
 have hu139 := Try.underlying139
 have HB := dk (Below.refl w.heap.size w)
 have H : (if a0_0.toList = a1_0.toList then (if a0_1 = a1_1 then (if a0_2 = a1_2 then (some true) else (some false)) else (some false)) else (some false)) = some r := h
 clear h
 by_cases c3 : a0_0.toList = a1_0.toList
 ·rw [if_pos c3] at H
  have c3b0 : (a0_0.toList == a1_0.toList) = true := beq_iff_eq.mpr c3
  have c3b1 : (a0_0.toList != a1_0.toList) = false := bne_eq_false_iff_eq.mpr c3
  clear c3
  by_cases c4 : a0_1 = a1_1
  ·rw [if_pos c4] at H
   have c4b0 : (a0_1 == a1_1) = true := beq_iff_eq.mpr c4
   have c4b1 : (a0_1 != a1_1) = false := bne_eq_false_iff_eq.mpr c4
   clear c4
   by_cases c5 : a0_2 = a1_2
   ·rw [if_pos c5] at H
    have c5b0 : (a0_2 == a1_2) = true := beq_iff_eq.mpr c5
    have c5b1 : (a0_2 != a1_2) = false := bne_eq_false_iff_eq.mpr c5
    clear c5
    obtain rfl := Option.some.inj H
    go_enter Try.func117, Try.ntmps117
    go_wp2_with (first | ((with_reducible refine gate_dst (N := 2) rfl ?_); refine bx (N := 2) (cs := #[.string a0_0, .int .i64 a0_1, .int .i64 a0_2]) (t := 139) ?_; intro gb421 hg w6 hbox hb; have BK421 := dk (hbox); have GW421 := gs hg HB; have GE421 := gs hg HB; replace HB := hs_ HB hb; clear hb hbox hg) | ((with_reducible refine gate_dst (N := 3) rfl ?_); refine bx (N := 3) (cs := #[.string a1_0, .int .i64 a1_1, .int .i64 a1_2]) (t := 139) ?_; intro gb422 hg w7 hbox hb; have BK422 := dk (hbox); have GW422 := gs hg HB; have GE422 := gs hg HB; replace HB := hs_ HB hb; have NB421_422 := gn hg BK421; have NB422_421 := gm hg BK421; replace BK421 := kb BK421 hb; clear hb hbox hg; have hnb8 := NB421_422.out; have hnc8 := NB422_421.out; have ⟨z9_0, z9_1, z9_2, v9_0, v9_1, v9_2⟩ := rz3 BK421; have ⟨z10_0, z10_1, z10_2, v10_0, v10_1, v10_2⟩ := rz3 BK422))
    go_ret
    exact ⟨ee, bb HB⟩
   ·rw [if_neg c5] at H
    have c5b0 : (a0_2 == a1_2) = false := beq_eq_false_iff_ne.mpr c5
    have c5b1 : (a0_2 != a1_2) = true := bne_iff_ne.mpr c5
    obtain rfl := Option.some.inj H
    go_enter Try.func117, Try.ntmps117
    go_wp2_with (first | ((with_reducible refine gate_dst (N := 2) rfl ?_); refine bx (N := 2) (cs := #[.string a0_0, .int .i64 a0_1, .int .i64 a0_2]) (t := 139) ?_; intro gb421 hg w11 hbox hb; have BK421 := dk (hbox); have GW421 := gs hg HB; have GE421 := gs hg HB; replace HB := hs_ HB hb; clear hb hbox hg) | ((with_reducible refine gate_dst (N := 3) rfl ?_); refine bx (N := 3) (cs := #[.string a1_0, .int .i64 a1_1, .int .i64 a1_2]) (t := 139) ?_; intro gb422 hg w12 hbox hb; have BK422 := dk (hbox); have GW422 := gs hg HB; have GE422 := gs hg HB; replace HB := hs_ HB hb; have NB421_422 := gn hg BK421; have NB422_421 := gm hg BK421; replace BK421 := kb BK421 hb; clear hb hbox hg; have hnb13 := NB421_422.out; have hnc13 := NB422_421.out; have ⟨z14_0, z14_1, z14_2, v14_0, v14_1, v14_2⟩ := rz3 BK421; have ⟨z15_0, z15_1, z15_2, v15_0, v15_1, v15_2⟩ := rz3 BK422))
    go_ret
    exact ⟨ee, bb HB⟩
  ·rw [if_neg c4] at H
   have c4b0 : (a0_1 == a1_1) = false := beq_eq_false_iff_ne.mpr c4
   have c4b1 : (a0_1 != a1_1) = true := bne_iff_ne.mpr c4
   obtain rfl := Option.some.inj H
   go_enter Try.func117, Try.ntmps117
   go_wp2_with (first | ((with_reducible refine gate_dst (N := 2) rfl ?_); refine bx (N := 2) (cs := #[.string a0_0, .int .i64 a0_1, .int .i64 a0_2]) (t := 139) ?_; intro gb421 hg w16 hbox hb; have BK421 := dk (hbox); have GW421 := gs hg HB; have GE421 := gs hg HB; replace HB := hs_ HB hb; clear hb hbox hg) | ((with_reducible refine gate_dst (N := 3) rfl ?_); refine bx (N := 3) (cs := #[.string a1_0, .int .i64 a1_1, .int .i64 a1_2]) (t := 139) ?_; intro gb422 hg w17 hbox hb; have BK422 := dk (hbox); have GW422 := gs hg HB; have GE422 := gs hg HB; replace HB := hs_ HB hb; have NB421_422 := gn hg BK421; have NB422_421 := gm hg BK421; replace BK421 := kb BK421 hb; clear hb hbox hg; have hnb18 := NB421_422.out; have hnc18 := NB422_421.out; have ⟨z19_0, z19_1, z19_2, v19_0, v19_1, v19_2⟩ := rz3 BK421; have ⟨z20_0, z20_1, z20_2, v20_0, v20_1, v20_2⟩ := rz3 BK422))
   go_ret
   exact ⟨ee, bb HB⟩
 ·rw [if_neg c3] at H
  have c3b0 : (a0_0.toList == a1_0.toList) = false := beq_eq_false_iff_ne.mpr c3
  have c3b1 : (a0_0.toList != a1_0.toList) = true := bne_iff_ne.mpr c3
  obtain rfl := Option.some.inj H
  go_enter Try.func117, Try.ntmps117
  go_wp2_with (first | ((with_reducible refine gate_dst (N := 2) rfl ?_); refine bx (N := 2) (cs := #[.string a0_0, .int .i64 a0_1, .int .i64 a0_2]) (t := 139) ?_; intro gb421 hg w21 hbox hb; have BK421 := dk (hbox); have GW421 := gs hg HB; have GE421 := gs hg HB; replace HB := hs_ HB hb; clear hb hbox hg) | ((with_reducible refine gate_dst (N := 3) rfl ?_); refine bx (N := 3) (cs := #[.string a1_0, .int .i64 a1_1, .int .i64 a1_2]) (t := 139) ?_; intro gb422 hg w22 hbox hb; have BK422 := dk (hbox); have GW422 := gs hg HB; have GE422 := gs hg HB; replace HB := hs_ HB hb; have NB421_422 := gn hg BK421; have NB422_421 := gm hg BK421; replace BK421 := kb BK421 hb; clear hb hbox hg; have hnb23 := NB421_422.out; have hnc23 := NB422_421.out; have ⟨z24_0, z24_1, z24_2, v24_0, v24_1, v24_2⟩ := rz3 BK421; have ⟨z25_0, z25_1, z25_2, v25_0, v25_1, v25_2⟩ := rz3 BK422))
  go_ret
  exact ⟨ee, bb HB⟩
def laws_eqTeamS.l0 : Nat → List (S139) → List (S139) → Int → Option (Bool)
 | 0, _, _, _ => none
 | k + 1, x0, x1, x5 => if x5 < (x0.length : Int) then (if 0 ≤ x5 then (if x5 < (x1.length : Int) then ((laws_eqTeam.f ((rd_T139 x0 x5).f0) ((rd_T139 x0 x5).f1) ((rd_T139 x0 x5).f2) ((rd_T139 x1 x5).f0) ((rd_T139 x1 x5).f1) ((rd_T139 x1 x5).f2)).bind fun t425 => (if t425 = true then (laws_eqTeamS.l0 k x0 x1 (wrap64 (x5 + 1))) else (some false))) else (none)) else (none)) else (some true)
def laws_eqTeamS.f (k : Nat) (l0 : List (S139)) (l1 : List (S139)) : Option (Bool) := if (l0.length : Int) = (l1.length : Int) then (laws_eqTeamS.l0 k l0 l1 0) else (some false)
def laws_eqTeamS.T6 : Bool × List (List Nat × List Nat) := (true, [([], []), ([], []), ([0, 1], [0, 1]), ([2], [2]), ([], []), ([], []), ([4, 5], [4, 5]), ([6], [6]), ([3, 7], [3, 7]), ([8], [8])])
def laws_eqTeamS.B6 : List Nat := [0, 0, 3, 7, 0, 0, 48, 112, 255, 511]
theorem laws_eqTeamS.tab6 : rtab .any (opsOf Try.f50 6) = laws_eqTeamS.T6 := by kernel_rfl
theorem laws_eqTeamS.bits6 : waitsOk laws_eqTeamS.T6.2 laws_eqTeamS.B6 = true := by kernel_rfl
theorem laws_eqTeamS.calls (k : Nat) (A0 : Option Addr) (c0 : Nat) (l0 : List (S139)) (A1 : Option Addr) (c1 : Nat) (l1 : List (S139)) (r : Bool) (w : World) (hr0 : Kd.C k139 w A0 l0.length l0) (hc0 : l0.length ≤ c0) (hr1 : Kd.C k139 w A1 l1.length l1) (hc1 : l1.length ≤ c1) (h : laws_eqTeamS.f k l0 l1 = some r) :
  Calls Try.prog 50 #[.slice A0 l0.length c0, .slice A1 l1.length c1] w fun e w' => e = .returned (.bool r) ∧ Below w.heap.size w w' := by
 have hu139 := Try.underlying139
 have HR0 := dk hr0
 have HC0 := dk hc0
 clear hr0 hc0
 have HR1 := dk hr1
 have HC1 := dk hc1
 clear hr1 hc1
 have HB := dk (Below.refl w.heap.size w)
 have H : (if (l0.length : Int) = (l1.length : Int) then (laws_eqTeamS.l0 k l0 l1 0) else (some false)) = some r := h
 clear h
 by_cases c3 : (l0.length : Int) = (l1.length : Int)
 ·rw [if_pos c3] at H
  have c3b0 : ((l0.length : Int) == (l1.length : Int)) = true := beq_iff_eq.mpr c3
  have c3b1 : ((l0.length : Int) != (l1.length : Int)) = false := bne_eq_false_iff_eq.mpr c3
  have c3b2 : (l0.length == l1.length) = true := by first | simpa using c3 | (simp at c3 ⊢; omega)
  clear c3
  have H' := dk H
  clear H
  go_enter Try.func50, Try.ntmps50
  go_wp2
  go_loopg [5] k (fun kq v5 w' => ∃ (x5_1 : Int), v5 = .int .i64 x5_1 ∧ Aside0 (laws_eqTeamS.l0 kq l0 l1 x5_1 = some r) ∧ Aside0 (kq ≤ k) ∧ Aside0 (Below w.heap.size w w'))
  case atStart => exact ⟨(0), e2_, H', ⟨Nat.le_refl _⟩, ⟨bb HB⟩⟩
  case round =>
   clear H'
   (try clear c1)
   (try clear p2)
   (try clear c3)
   (try clear c3b0)
   (try clear c3b1)
   (try clear c3b2)
   obtain ⟨x5_1, rfl, HA, HK1, HB⟩ := hrel
   cases gk with
   | zero => exact absurd HA.out (by simp [laws_eqTeamS.l0])
   | succ k1 =>
    have H := HA.out
    clear HA
    simp only [laws_eqTeamS.l0] at H
    by_cases c4 : x5_1 < (l0.length : Int)
    ·rw [if_pos c4] at H
     have c4b0 : decide (x5_1 < (l0.length : Int)) = true := decide_eq_true c4
     clear c4
     by_cases c5 : 0 ≤ x5_1
     ·rw [if_pos c5] at H
      have c5b0 : decide (0 ≤ x5_1) = true := decide_eq_true c5
      clear c5
      by_cases c6 : x5_1 < (l1.length : Int)
      ·rw [if_pos c6] at H
       have c6b0 : decide (x5_1 < (l1.length : Int)) = true := decide_eq_true c6
       clear c6
       replace H := Option.bind_eq_some_iff.mp H
       obtain ⟨t425, A70, H⟩ := H
       try dsimp only at H
       have A7 := dk A70
       clear A70
       by_cases c8 : t425 = true
       ·subst c8
        rw [if_pos rfl] at H
        have H' := dk H
        clear H
        try go_wp2
        replace HB := dk (below_drew1 HB.out)
        have p423 : 0 ≤ (x5_1 : Int) := oa
        have q423 : x5_1 < (l0.length : Int) := oa
        obtain ⟨ad423, e423, hx423_0, hx423_1, hx423_2⟩ := at_T139 HR0.out x5_1 p423 q423
        have hw423_2 := hx423_2
        have hw423_1 := hx423_1
        have hw423_0 := hx423_0
        cases e423
        replace hx423_0 := hc HB hx423_0
        replace hx423_1 := hc HB hx423_1
        replace hx423_2 := hc HB hx423_2
        replace p423 := eq_true p423
        replace q423 := eq_true q423
        have p424 : 0 ≤ (x5_1 : Int) := oa
        have q424 : x5_1 < (l1.length : Int) := oa
        obtain ⟨ad424, e424, hx424_0, hx424_1, hx424_2⟩ := at_T139 HR1.out x5_1 p424 q424
        have hw424_2 := hx424_2
        have hw424_1 := hx424_1
        have hw424_0 := hx424_0
        cases e424
        replace hx424_0 := hc HB hx424_0
        replace hx424_1 := hc HB hx424_1
        replace hx424_2 := hc HB hx424_2
        replace p424 := eq_true p424
        replace q424 := eq_true q424
        refine start_ (n := 10) (S := fun w' => w'.cell? (ad423.add ((x5_1).toNat * 3)) = some (.string ((rd_T139 l0 x5_1).f0)) ∧ w'.cell? ⟨(ad423.add ((x5_1).toNat * 3)).block, (ad423.add ((x5_1).toNat * 3)).off + 1, none⟩ = some (.int .i64 ((rd_T139 l0 x5_1).f1)) ∧ w'.cell? ⟨(ad423.add ((x5_1).toNat * 3)).block, (ad423.add ((x5_1).toNat * 3)).off + 2, none⟩ = some (.int .i64 ((rd_T139 l0 x5_1).f2)) ∧ w'.cell? (ad424.add ((x5_1).toNat * 3)) = some (.string ((rd_T139 l1 x5_1).f0)) ∧ w'.cell? ⟨(ad424.add ((x5_1).toNat * 3)).block, (ad424.add ((x5_1).toNat * 3)).off + 1, none⟩ = some (.int .i64 ((rd_T139 l1 x5_1).f1)) ∧ w'.cell? ⟨(ad424.add ((x5_1).toNat * 3)).block, (ad424.add ((x5_1).toNat * 3)).off + 2, none⟩ = some (.int .i64 ((rd_T139 l1 x5_1).f2))) (ds := []) #[false, false, false, false, false, false, false, false, false, false] (by kernel_rfl) rfl rfl ⟨(hc HB hw423_0), (hc HB hw423_1), (hc HB hw423_2), (hc HB hw424_0), (hc HB hw424_1), (hc HB hw424_2)⟩ (fun hHeld => ?_); refine with_tabW laws_eqTeamS.tab6 laws_eqTeamS.bits6 (fun HT_ HW_ => ?_)
        generalize wr.drew = w9 at HB hx423_0 hx423_1 hx423_2 hx424_0 hx424_1 hx424_2 hHeld ⊢
        refine pz_ 0 17 ?_
        refine pz_ 1 18 ?_
        refine pz_ 2 19 ?_
        refine pz_ 4 21 ?_
        refine pz_ 5 22 ?_
        refine pz_ 6 23 ?_
        refine take_ (i := 3) (N := some 20) (v := ?_) (a' := ?_) #[true, true, true, true, true, true, true, false, false, false] rfl rfl (take_ofW HT_.out HW_.out (by kernel_rfl)) (fun _ _ _ h => h) (Or.inl ⟨by rfl, ?_⟩) hHeld ?_ ?_
        rotate_left
        ·rintro w' ⟨s0, s1, s2, s3, s4, s5⟩
         go_simp
         with_reducible rfl
        rotate_left
        ·simp only [Act.put, List.setIfInBounds_toArray, List.set_cons_zero, List.set_cons_succ, i64_w, i32_w]
         rfl
        refine take_ (i := 7) (N := some 24) (v := ?_) (a' := ?_) #[true, true, true, true, true, true, true, true, false, false] rfl rfl (take_ofW HT_.out HW_.out (by kernel_rfl)) (fun _ _ _ h => h) (Or.inl ⟨by rfl, ?_⟩) hHeld ?_ ?_
        rotate_left
        ·rintro w' ⟨s0, s1, s2, s3, s4, s5⟩
         go_simp
         with_reducible rfl
        rotate_left
        ·simp only [Act.put, List.setIfInBounds_toArray, List.set_cons_zero, List.set_cons_succ, i64_w, i32_w]
         rfl
        refine one_ (i := 8) (N := some 25) #[true, true, true, true, true, true, true, true, true, false] rfl rfl (one_of HT_.out (by kernel_rfl)) (by decide) (fun K hK => ?_)
        refine goes_ Try.func117 (by kernel_rfl) rfl #[.agg #[.string ((rd_T139 l0 x5_1).f0), .int .i64 ((rd_T139 l0 x5_1).f1), .int .i64 ((rd_T139 l0 x5_1).f2)], .agg #[.string ((rd_T139 l1 x5_1).f0), .int .i64 ((rd_T139 l1 x5_1).f1), .int .i64 ((rd_T139 l1 x5_1).f2)]] (by rfl) rfl rfl (by (try simp only [List.map_toArray, List.map_cons, List.map_nil]); first | done | rfl | (simp only [List.length_drop, List.length_take]; rfl)) ?_
        with_reducible refine (laws_eqTeam.calls ((rd_T139 l0 x5_1).f0) ((rd_T139 l0 x5_1).f1) ((rd_T139 l0 x5_1).f2) ((rd_T139 l1 x5_1).f0) ((rd_T139 l1 x5_1).f1) ((rd_T139 l1 x5_1).f2) true _ A7.out).mono ?_
        rintro e w10 ⟨rfl, hb⟩
        refine ⟨_, rfl, ?_⟩
        replace HB := hs_ HB hb
        (try clear hb hb2 hk hi)
        refine hK.out _ _ ⟨(hc HB hw423_0), (hc HB hw423_1), (hc HB hw423_2), (hc HB hw424_0), (hc HB hw424_1), (hc HB hw424_2)⟩ (fun hHeld => ?_)
        clear hK K
        refine norm_ (a' := ?_) ?_ ?_
        rotate_left
        ·show Act.put _ (some 25) _ = _
         simp only [Act.put, List.setIfInBounds_toArray, List.set_cons_zero, List.set_cons_succ, i64_w, i32_w]
         rfl
        refine pz_ 9 26 ?_
        refine done_ (done_of HT_.out (by kernel_rfl)) ?_
        try go_wp2
        go_roundg k1
        case measure => have := HK1.out; omega
        case rel => exact ⟨(wrap64 (x5_1 + 1)), e2_, H', ⟨by have := HK1.out; omega⟩, ⟨bb HB⟩⟩
       ·replace c8 := Bool.eq_false_iff.mpr c8
        subst c8
        rw [if_neg (show ¬ (false = true) by decide)] at H
        obtain rfl := Option.some.inj H
        try go_wp2
        replace HB := dk (below_drew1 HB.out)
        have p423 : 0 ≤ (x5_1 : Int) := oa
        have q423 : x5_1 < (l0.length : Int) := oa
        obtain ⟨ad423, e423, hx423_0, hx423_1, hx423_2⟩ := at_T139 HR0.out x5_1 p423 q423
        have hw423_2 := hx423_2
        have hw423_1 := hx423_1
        have hw423_0 := hx423_0
        cases e423
        replace hx423_0 := hc HB hx423_0
        replace hx423_1 := hc HB hx423_1
        replace hx423_2 := hc HB hx423_2
        replace p423 := eq_true p423
        replace q423 := eq_true q423
        have p424 : 0 ≤ (x5_1 : Int) := oa
        have q424 : x5_1 < (l1.length : Int) := oa
        obtain ⟨ad424, e424, hx424_0, hx424_1, hx424_2⟩ := at_T139 HR1.out x5_1 p424 q424
        have hw424_2 := hx424_2
        have hw424_1 := hx424_1
        have hw424_0 := hx424_0
        cases e424
        replace hx424_0 := hc HB hx424_0
        replace hx424_1 := hc HB hx424_1
        replace hx424_2 := hc HB hx424_2
        replace p424 := eq_true p424
        replace q424 := eq_true q424
        refine start_ (n := 10) (S := fun w' => w'.cell? (ad423.add ((x5_1).toNat * 3)) = some (.string ((rd_T139 l0 x5_1).f0)) ∧ w'.cell? ⟨(ad423.add ((x5_1).toNat * 3)).block, (ad423.add ((x5_1).toNat * 3)).off + 1, none⟩ = some (.int .i64 ((rd_T139 l0 x5_1).f1)) ∧ w'.cell? ⟨(ad423.add ((x5_1).toNat * 3)).block, (ad423.add ((x5_1).toNat * 3)).off + 2, none⟩ = some (.int .i64 ((rd_T139 l0 x5_1).f2)) ∧ w'.cell? (ad424.add ((x5_1).toNat * 3)) = some (.string ((rd_T139 l1 x5_1).f0)) ∧ w'.cell? ⟨(ad424.add ((x5_1).toNat * 3)).block, (ad424.add ((x5_1).toNat * 3)).off + 1, none⟩ = some (.int .i64 ((rd_T139 l1 x5_1).f1)) ∧ w'.cell? ⟨(ad424.add ((x5_1).toNat * 3)).block, (ad424.add ((x5_1).toNat * 3)).off + 2, none⟩ = some (.int .i64 ((rd_T139 l1 x5_1).f2))) (ds := []) #[false, false, false, false, false, false, false, false, false, false] (by kernel_rfl) rfl rfl ⟨(hc HB hw423_0), (hc HB hw423_1), (hc HB hw423_2), (hc HB hw424_0), (hc HB hw424_1), (hc HB hw424_2)⟩ (fun hHeld => ?_); refine with_tabW laws_eqTeamS.tab6 laws_eqTeamS.bits6 (fun HT_ HW_ => ?_)
        generalize wr.drew = w11 at HB hx423_0 hx423_1 hx423_2 hx424_0 hx424_1 hx424_2 hHeld ⊢
        refine pz_ 0 17 ?_
        refine pz_ 1 18 ?_
        refine pz_ 2 19 ?_
        refine pz_ 4 21 ?_
        refine pz_ 5 22 ?_
        refine pz_ 6 23 ?_
        refine take_ (i := 3) (N := some 20) (v := ?_) (a' := ?_) #[true, true, true, true, true, true, true, false, false, false] rfl rfl (take_ofW HT_.out HW_.out (by kernel_rfl)) (fun _ _ _ h => h) (Or.inl ⟨by rfl, ?_⟩) hHeld ?_ ?_
        rotate_left
        ·rintro w' ⟨s0, s1, s2, s3, s4, s5⟩
         go_simp
         with_reducible rfl
        rotate_left
        ·simp only [Act.put, List.setIfInBounds_toArray, List.set_cons_zero, List.set_cons_succ, i64_w, i32_w]
         rfl
        refine take_ (i := 7) (N := some 24) (v := ?_) (a' := ?_) #[true, true, true, true, true, true, true, true, false, false] rfl rfl (take_ofW HT_.out HW_.out (by kernel_rfl)) (fun _ _ _ h => h) (Or.inl ⟨by rfl, ?_⟩) hHeld ?_ ?_
        rotate_left
        ·rintro w' ⟨s0, s1, s2, s3, s4, s5⟩
         go_simp
         with_reducible rfl
        rotate_left
        ·simp only [Act.put, List.setIfInBounds_toArray, List.set_cons_zero, List.set_cons_succ, i64_w, i32_w]
         rfl
        refine one_ (i := 8) (N := some 25) #[true, true, true, true, true, true, true, true, true, false] rfl rfl (one_of HT_.out (by kernel_rfl)) (by decide) (fun K hK => ?_)
        refine goes_ Try.func117 (by kernel_rfl) rfl #[.agg #[.string ((rd_T139 l0 x5_1).f0), .int .i64 ((rd_T139 l0 x5_1).f1), .int .i64 ((rd_T139 l0 x5_1).f2)], .agg #[.string ((rd_T139 l1 x5_1).f0), .int .i64 ((rd_T139 l1 x5_1).f1), .int .i64 ((rd_T139 l1 x5_1).f2)]] (by rfl) rfl rfl (by (try simp only [List.map_toArray, List.map_cons, List.map_nil]); first | done | rfl | (simp only [List.length_drop, List.length_take]; rfl)) ?_
        with_reducible refine (laws_eqTeam.calls ((rd_T139 l0 x5_1).f0) ((rd_T139 l0 x5_1).f1) ((rd_T139 l0 x5_1).f2) ((rd_T139 l1 x5_1).f0) ((rd_T139 l1 x5_1).f1) ((rd_T139 l1 x5_1).f2) false _ A7.out).mono ?_
        rintro e w12 ⟨rfl, hb⟩
        refine ⟨_, rfl, ?_⟩
        replace HB := hs_ HB hb
        (try clear hb hb2 hk hi)
        refine hK.out _ _ ⟨(hc HB hw423_0), (hc HB hw423_1), (hc HB hw423_2), (hc HB hw424_0), (hc HB hw424_1), (hc HB hw424_2)⟩ (fun hHeld => ?_)
        clear hK K
        refine norm_ (a' := ?_) ?_ ?_
        rotate_left
        ·show Act.put _ (some 25) _ = _
         simp only [Act.put, List.setIfInBounds_toArray, List.set_cons_zero, List.set_cons_succ, i64_w, i32_w]
         rfl
        refine pz_ 9 26 ?_
        refine done_ (done_of HT_.out (by kernel_rfl)) ?_
        try go_wp2
        go_ret
        exact ⟨ee, bb HB⟩
      ·rw [if_neg c6] at H
       exact absurd H (by simp)
     ·rw [if_neg c5] at H
      exact absurd H (by simp)
    ·rw [if_neg c4] at H
     have c4b0 : decide (x5_1 < (l0.length : Int)) = false := decide_eq_false c4
     clear c4
     obtain rfl := Option.some.inj H
     go_wp2
     go_ret
     exact ⟨ee, bb HB⟩
 ·rw [if_neg c3] at H
  have c3b0 : ((l0.length : Int) == (l1.length : Int)) = false := beq_eq_false_iff_ne.mpr c3
  have c3b1 : ((l0.length : Int) != (l1.length : Int)) = true := bne_iff_ne.mpr c3
  have c3b2 : (l0.length == l1.length) = false := by first | simpa using c3 | (simp at c3 ⊢; omega)
  obtain rfl := Option.some.inj H
  go_enter Try.func50, Try.ntmps50
  go_wp2
  go_ret
  exact ⟨ee, bb HB⟩
def laws_eqRules.f (k : Nat) (a0_0 : Int) (a0_1 : Int) (a0_2 : Int) (l0_3 : List Int) (a0_4 : Bool) (a1_0 : Int) (a1_1 : Int) (a1_2 : Int) (l1_3 : List Int) (a1_4 : Bool) : Option (Bool) := if a0_0 = a1_0 then (if a0_1 = a1_1 then (if a0_2 = a1_2 then ((laws_eqIntS.f k l0_3 l1_3).bind fun t428 => (if t428 = true then (if (a0_4 != a1_4) = true then (some false) else (some true)) else (some false))) else (some false)) else (some false)) else (some false)
theorem laws_eqRules.calls (k : Nat) (a0_0 : Int) (a0_1 : Int) (a0_2 : Int) (A0_3 : Option Addr) (c0_3 : Nat) (l0_3 : List Int) (a0_4 : Bool) (a1_0 : Int) (a1_1 : Int) (a1_2 : Int) (A1_3 : Option Addr) (c1_3 : Nat) (l1_3 : List Int) (a1_4 : Bool) (r : Bool) (w : World) (hr0_3 : Kd.C (Kd.int .i64) w A0_3 l0_3.length l0_3) (hc0_3 : l0_3.length ≤ c0_3) (hr1_3 : Kd.C (Kd.int .i64) w A1_3 l1_3.length l1_3) (hc1_3 : l1_3.length ≤ c1_3) (h : laws_eqRules.f k a0_0 a0_1 a0_2 l0_3 a0_4 a1_0 a1_1 a1_2 l1_3 a1_4 = some r) :
  Calls Try.prog 65 #[.agg #[.int .i64 a0_0, .int .i64 a0_1, .int .i64 a0_2, .slice A0_3 l0_3.length c0_3, .bool a0_4], .agg #[.int .i64 a1_0, .int .i64 a1_1, .int .i64 a1_2, .slice A1_3 l1_3.length c1_3, .bool a1_4]] w fun e w' => e = .returned (.bool r) ∧ Below w.heap.size w w' := by
 have hu33 := Try.underlying33
 have HR0_3 := dk hr0_3
 have HC0_3 := dk hc0_3
 clear hr0_3 hc0_3
 have HR1_3 := dk hr1_3
 have HC1_3 := dk hc1_3
 clear hr1_3 hc1_3
 have HB := dk (Below.refl w.heap.size w)
 have H : (if a0_0 = a1_0 then (if a0_1 = a1_1 then (if a0_2 = a1_2 then ((laws_eqIntS.f k l0_3 l1_3).bind fun t428 => (if t428 = true then (if (a0_4 != a1_4) = true then (some false) else (some true)) else (some false))) else (some false)) else (some false)) else (some false)) = some r := h
 clear h
 by_cases c3 : a0_0 = a1_0
 ·rw [if_pos c3] at H
  have c3b0 : (a0_0 == a1_0) = true := beq_iff_eq.mpr c3
  have c3b1 : (a0_0 != a1_0) = false := bne_eq_false_iff_eq.mpr c3
  clear c3
  by_cases c4 : a0_1 = a1_1
  ·rw [if_pos c4] at H
   have c4b0 : (a0_1 == a1_1) = true := beq_iff_eq.mpr c4
   have c4b1 : (a0_1 != a1_1) = false := bne_eq_false_iff_eq.mpr c4
   clear c4
   by_cases c5 : a0_2 = a1_2
   ·rw [if_pos c5] at H
    have c5b0 : (a0_2 == a1_2) = true := beq_iff_eq.mpr c5
    have c5b1 : (a0_2 != a1_2) = false := bne_eq_false_iff_eq.mpr c5
    clear c5
    replace H := Option.bind_eq_some_iff.mp H
    obtain ⟨t428, A60, H⟩ := H
    try dsimp only at H
    have A6 := dk A60
    clear A60
    by_cases c7 : t428 = true
    ·subst c7
     rw [if_pos rfl] at H
     by_cases c8 : (a0_4 != a1_4) = true
     ·rw [if_pos c8] at H
      have c8b0 : (a0_4 != a1_4) = true := c8
      (try (have c8b1 : decide (a0_4 = a1_4) = false := by simpa using c8))
      (try (have c8b2 : (a0_4 == a1_4) = false := by simpa using c8))
      (try (have c8b3 : ¬ (a0_4 = a1_4) := by simpa using c8))
      clear c8
      obtain rfl := Option.some.inj H
      go_enter Try.func65, Try.ntmps65
      go_wp2_with (first | ((with_reducible refine gate_dst (N := 2) rfl ?_); refine bx (N := 2) (cs := #[.int .i64 a0_0, .int .i64 a0_1, .int .i64 a0_2, .slice A0_3 l0_3.length c0_3, .bool a0_4]) (t := 33) ?_; intro gb426 hg w9 hbox hb; have BK426 := dk (hbox); have GW426 := gs hg HB; have GE426 := gs hg HB; replace HB := hs_ HB hb; clear hb hbox hg) | ((with_reducible refine gate_dst (N := 3) rfl ?_); refine bx (N := 3) (cs := #[.int .i64 a1_0, .int .i64 a1_1, .int .i64 a1_2, .slice A1_3 l1_3.length c1_3, .bool a1_4]) (t := 33) ?_; intro gb427 hg w10 hbox hb; have BK427 := dk (hbox); have GW427 := gs hg HB; have GE427 := gs hg HB; replace HB := hs_ HB hb; have NB426_427 := gn hg BK426; have NB427_426 := gm hg BK426; replace BK426 := kb BK426 hb; clear hb hbox hg; have hnb11 := NB426_427.out; have hnc11 := NB427_426.out; have ⟨z12_0, z12_1, z12_2, z12_3, z12_4, v12_0, v12_1, v12_2, v12_3, v12_4⟩ := rz5 BK426; have ⟨z13_0, z13_1, z13_2, z13_3, z13_4, v13_0, v13_1, v13_2, v13_3, v13_4⟩ := rz5 BK427) | ((with_reducible refine gate_callee (f := 28) rfl ?_); refine gl (some 24) Try.func28 #[.slice A0_3 l0_3.length c0_3, .slice A1_3 l1_3.length c1_3] ?_; (with_reducible refine (laws_eqIntS.calls k _ _ l0_3 _ _ l1_3 true _ ?side1 ?side2 ?side3 ?side4 A6.out).mono ?_); (case side1 => exact cc HR0_3 HB); (case side2 => exact HC0_3.out); (case side3 => exact cc HR1_3 HB); (case side4 => exact HC1_3.out); rintro e w' ⟨rfl, ⟨nd, rfl⟩⟩; refine ⟨_, rfl, ?_⟩))
      go_ret
      exact ⟨ee, bb HB⟩
     ·rw [if_neg c8] at H
      have c8b0 : (a0_4 != a1_4) = false := by simpa using c8
      (try (have c8b1 : decide (a0_4 = a1_4) = true := by simpa using c8))
      (try (have c8b2 : (a0_4 == a1_4) = true := by simpa using c8))
      clear c8
      obtain rfl := Option.some.inj H
      go_enter Try.func65, Try.ntmps65
      go_wp2_with (first | ((with_reducible refine gate_dst (N := 2) rfl ?_); refine bx (N := 2) (cs := #[.int .i64 a0_0, .int .i64 a0_1, .int .i64 a0_2, .slice A0_3 l0_3.length c0_3, .bool a0_4]) (t := 33) ?_; intro gb426 hg w14 hbox hb; have BK426 := dk (hbox); have GW426 := gs hg HB; have GE426 := gs hg HB; replace HB := hs_ HB hb; clear hb hbox hg) | ((with_reducible refine gate_dst (N := 3) rfl ?_); refine bx (N := 3) (cs := #[.int .i64 a1_0, .int .i64 a1_1, .int .i64 a1_2, .slice A1_3 l1_3.length c1_3, .bool a1_4]) (t := 33) ?_; intro gb427 hg w15 hbox hb; have BK427 := dk (hbox); have GW427 := gs hg HB; have GE427 := gs hg HB; replace HB := hs_ HB hb; have NB426_427 := gn hg BK426; have NB427_426 := gm hg BK426; replace BK426 := kb BK426 hb; clear hb hbox hg; have hnb16 := NB426_427.out; have hnc16 := NB427_426.out; have ⟨z17_0, z17_1, z17_2, z17_3, z17_4, v17_0, v17_1, v17_2, v17_3, v17_4⟩ := rz5 BK426; have ⟨z18_0, z18_1, z18_2, z18_3, z18_4, v18_0, v18_1, v18_2, v18_3, v18_4⟩ := rz5 BK427) | ((with_reducible refine gate_callee (f := 28) rfl ?_); refine gl (some 24) Try.func28 #[.slice A0_3 l0_3.length c0_3, .slice A1_3 l1_3.length c1_3] ?_; (with_reducible refine (laws_eqIntS.calls k _ _ l0_3 _ _ l1_3 true _ ?side1 ?side2 ?side3 ?side4 A6.out).mono ?_); (case side1 => exact cc HR0_3 HB); (case side2 => exact HC0_3.out); (case side3 => exact cc HR1_3 HB); (case side4 => exact HC1_3.out); rintro e w' ⟨rfl, ⟨nd, rfl⟩⟩; refine ⟨_, rfl, ?_⟩))
      go_ret
      exact ⟨ee, bb HB⟩
    ·replace c7 := Bool.eq_false_iff.mpr c7
     subst c7
     rw [if_neg (show ¬ (false = true) by decide)] at H
     obtain rfl := Option.some.inj H
     go_enter Try.func65, Try.ntmps65
     go_wp2_with (first | ((with_reducible refine gate_dst (N := 2) rfl ?_); refine bx (N := 2) (cs := #[.int .i64 a0_0, .int .i64 a0_1, .int .i64 a0_2, .slice A0_3 l0_3.length c0_3, .bool a0_4]) (t := 33) ?_; intro gb426 hg w19 hbox hb; have BK426 := dk (hbox); have GW426 := gs hg HB; have GE426 := gs hg HB; replace HB := hs_ HB hb; clear hb hbox hg) | ((with_reducible refine gate_dst (N := 3) rfl ?_); refine bx (N := 3) (cs := #[.int .i64 a1_0, .int .i64 a1_1, .int .i64 a1_2, .slice A1_3 l1_3.length c1_3, .bool a1_4]) (t := 33) ?_; intro gb427 hg w20 hbox hb; have BK427 := dk (hbox); have GW427 := gs hg HB; have GE427 := gs hg HB; replace HB := hs_ HB hb; have NB426_427 := gn hg BK426; have NB427_426 := gm hg BK426; replace BK426 := kb BK426 hb; clear hb hbox hg; have hnb21 := NB426_427.out; have hnc21 := NB427_426.out; have ⟨z22_0, z22_1, z22_2, z22_3, z22_4, v22_0, v22_1, v22_2, v22_3, v22_4⟩ := rz5 BK426; have ⟨z23_0, z23_1, z23_2, z23_3, z23_4, v23_0, v23_1, v23_2, v23_3, v23_4⟩ := rz5 BK427) | ((with_reducible refine gate_callee (f := 28) rfl ?_); refine gl (some 24) Try.func28 #[.slice A0_3 l0_3.length c0_3, .slice A1_3 l1_3.length c1_3] ?_; (with_reducible refine (laws_eqIntS.calls k _ _ l0_3 _ _ l1_3 false _ ?side1 ?side2 ?side3 ?side4 A6.out).mono ?_); (case side1 => exact cc HR0_3 HB); (case side2 => exact HC0_3.out); (case side3 => exact cc HR1_3 HB); (case side4 => exact HC1_3.out); rintro e w' ⟨rfl, ⟨nd, rfl⟩⟩; refine ⟨_, rfl, ?_⟩))
     go_ret
     exact ⟨ee, bb HB⟩
   ·rw [if_neg c5] at H
    have c5b0 : (a0_2 == a1_2) = false := beq_eq_false_iff_ne.mpr c5
    have c5b1 : (a0_2 != a1_2) = true := bne_iff_ne.mpr c5
    obtain rfl := Option.some.inj H
    go_enter Try.func65, Try.ntmps65
    go_wp2_with (first | ((with_reducible refine gate_dst (N := 2) rfl ?_); refine bx (N := 2) (cs := #[.int .i64 a0_0, .int .i64 a0_1, .int .i64 a0_2, .slice A0_3 l0_3.length c0_3, .bool a0_4]) (t := 33) ?_; intro gb426 hg w24 hbox hb; have BK426 := dk (hbox); have GW426 := gs hg HB; have GE426 := gs hg HB; replace HB := hs_ HB hb; clear hb hbox hg) | ((with_reducible refine gate_dst (N := 3) rfl ?_); refine bx (N := 3) (cs := #[.int .i64 a1_0, .int .i64 a1_1, .int .i64 a1_2, .slice A1_3 l1_3.length c1_3, .bool a1_4]) (t := 33) ?_; intro gb427 hg w25 hbox hb; have BK427 := dk (hbox); have GW427 := gs hg HB; have GE427 := gs hg HB; replace HB := hs_ HB hb; have NB426_427 := gn hg BK426; have NB427_426 := gm hg BK426; replace BK426 := kb BK426 hb; clear hb hbox hg; have hnb26 := NB426_427.out; have hnc26 := NB427_426.out; have ⟨z27_0, z27_1, z27_2, z27_3, z27_4, v27_0, v27_1, v27_2, v27_3, v27_4⟩ := rz5 BK426; have ⟨z28_0, z28_1, z28_2, z28_3, z28_4, v28_0, v28_1, v28_2, v28_3, v28_4⟩ := rz5 BK427))
    go_ret
    exact ⟨ee, bb HB⟩
  ·rw [if_neg c4] at H
   have c4b0 : (a0_1 == a1_1) = false := beq_eq_false_iff_ne.mpr c4
   have c4b1 : (a0_1 != a1_1) = true := bne_iff_ne.mpr c4
   obtain rfl := Option.some.inj H
   go_enter Try.func65, Try.ntmps65
   go_wp2_with (first | ((with_reducible refine gate_dst (N := 2) rfl ?_); refine bx (N := 2) (cs := #[.int .i64 a0_0, .int .i64 a0_1, .int .i64 a0_2, .slice A0_3 l0_3.length c0_3, .bool a0_4]) (t := 33) ?_; intro gb426 hg w29 hbox hb; have BK426 := dk (hbox); have GW426 := gs hg HB; have GE426 := gs hg HB; replace HB := hs_ HB hb; clear hb hbox hg) | ((with_reducible refine gate_dst (N := 3) rfl ?_); refine bx (N := 3) (cs := #[.int .i64 a1_0, .int .i64 a1_1, .int .i64 a1_2, .slice A1_3 l1_3.length c1_3, .bool a1_4]) (t := 33) ?_; intro gb427 hg w30 hbox hb; have BK427 := dk (hbox); have GW427 := gs hg HB; have GE427 := gs hg HB; replace HB := hs_ HB hb; have NB426_427 := gn hg BK426; have NB427_426 := gm hg BK426; replace BK426 := kb BK426 hb; clear hb hbox hg; have hnb31 := NB426_427.out; have hnc31 := NB427_426.out; have ⟨z32_0, z32_1, z32_2, z32_3, z32_4, v32_0, v32_1, v32_2, v32_3, v32_4⟩ := rz5 BK426; have ⟨z33_0, z33_1, z33_2, z33_3, z33_4, v33_0, v33_1, v33_2, v33_3, v33_4⟩ := rz5 BK427))
   go_ret
   exact ⟨ee, bb HB⟩
 ·rw [if_neg c3] at H
  have c3b0 : (a0_0 == a1_0) = false := beq_eq_false_iff_ne.mpr c3
  have c3b1 : (a0_0 != a1_0) = true := bne_iff_ne.mpr c3
  obtain rfl := Option.some.inj H
  go_enter Try.func65, Try.ntmps65
  go_wp2_with (first | ((with_reducible refine gate_dst (N := 2) rfl ?_); refine bx (N := 2) (cs := #[.int .i64 a0_0, .int .i64 a0_1, .int .i64 a0_2, .slice A0_3 l0_3.length c0_3, .bool a0_4]) (t := 33) ?_; intro gb426 hg w34 hbox hb; have BK426 := dk (hbox); have GW426 := gs hg HB; have GE426 := gs hg HB; replace HB := hs_ HB hb; clear hb hbox hg) | ((with_reducible refine gate_dst (N := 3) rfl ?_); refine bx (N := 3) (cs := #[.int .i64 a1_0, .int .i64 a1_1, .int .i64 a1_2, .slice A1_3 l1_3.length c1_3, .bool a1_4]) (t := 33) ?_; intro gb427 hg w35 hbox hb; have BK427 := dk (hbox); have GW427 := gs hg HB; have GE427 := gs hg HB; replace HB := hs_ HB hb; have NB426_427 := gn hg BK426; have NB427_426 := gm hg BK426; replace BK426 := kb BK426 hb; clear hb hbox hg; have hnb36 := NB426_427.out; have hnc36 := NB427_426.out; have ⟨z37_0, z37_1, z37_2, z37_3, z37_4, v37_0, v37_1, v37_2, v37_3, v37_4⟩ := rz5 BK426; have ⟨z38_0, z38_1, z38_2, z38_3, z38_4, v38_0, v38_1, v38_2, v38_3, v38_4⟩ := rz5 BK427))
  go_ret
  exact ⟨ee, bb HB⟩
def laws_eqGame.f (a0_0 : Int) (a0_1 : Int) (a0_2 : Int) (a0_3 : Int) (a0_4 : Int) (a1_0 : Int) (a1_1 : Int) (a1_2 : Int) (a1_3 : Int) (a1_4 : Int) : Option (Bool) := if a0_0 = a1_0 then (if a0_1 = a1_1 then (if a0_2 = a1_2 then (if a0_3 = a1_3 then (if a0_4 = a1_4 then (some true) else (some false)) else (some false)) else (some false)) else (some false)) else (some false)
theorem laws_eqGame.calls (a0_0 : Int) (a0_1 : Int) (a0_2 : Int) (a0_3 : Int) (a0_4 : Int) (a1_0 : Int) (a1_1 : Int) (a1_2 : Int) (a1_3 : Int) (a1_4 : Int) (r : Bool) (w : World) (h : laws_eqGame.f a0_0 a0_1 a0_2 a0_3 a0_4 a1_0 a1_1 a1_2 a1_3 a1_4 = some r) :
  Calls Try.prog 129 #[.agg #[.int .i64 a0_0, .int .i64 a0_1, .int .i64 a0_2, .int .i64 a0_3, .int .i64 a0_4], .agg #[.int .i64 a1_0, .int .i64 a1_1, .int .i64 a1_2, .int .i64 a1_3, .int .i64 a1_4]] w fun e w' => e = .returned (.bool r) ∧ Below w.heap.size w w' := by
 have hu95 := Try.underlying95
 have HB := dk (Below.refl w.heap.size w)
 have H : (if a0_0 = a1_0 then (if a0_1 = a1_1 then (if a0_2 = a1_2 then (if a0_3 = a1_3 then (if a0_4 = a1_4 then (some true) else (some false)) else (some false)) else (some false)) else (some false)) else (some false)) = some r := h
 clear h
 by_cases c3 : a0_0 = a1_0
 ·rw [if_pos c3] at H
  have c3b0 : (a0_0 == a1_0) = true := beq_iff_eq.mpr c3
  have c3b1 : (a0_0 != a1_0) = false := bne_eq_false_iff_eq.mpr c3
  clear c3
  by_cases c4 : a0_1 = a1_1
  ·rw [if_pos c4] at H
   have c4b0 : (a0_1 == a1_1) = true := beq_iff_eq.mpr c4
   have c4b1 : (a0_1 != a1_1) = false := bne_eq_false_iff_eq.mpr c4
   clear c4
   by_cases c5 : a0_2 = a1_2
   ·rw [if_pos c5] at H
    have c5b0 : (a0_2 == a1_2) = true := beq_iff_eq.mpr c5
    have c5b1 : (a0_2 != a1_2) = false := bne_eq_false_iff_eq.mpr c5
    clear c5
    by_cases c6 : a0_3 = a1_3
    ·rw [if_pos c6] at H
     have c6b0 : (a0_3 == a1_3) = true := beq_iff_eq.mpr c6
     have c6b1 : (a0_3 != a1_3) = false := bne_eq_false_iff_eq.mpr c6
     clear c6
     by_cases c7 : a0_4 = a1_4
     ·rw [if_pos c7] at H
      have c7b0 : (a0_4 == a1_4) = true := beq_iff_eq.mpr c7
      have c7b1 : (a0_4 != a1_4) = false := bne_eq_false_iff_eq.mpr c7
      clear c7
      obtain rfl := Option.some.inj H
      go_enter Try.func129, Try.ntmps129
      go_wp2_with (first | ((with_reducible refine gate_dst (N := 2) rfl ?_); refine bx (N := 2) (cs := #[.int .i64 a0_0, .int .i64 a0_1, .int .i64 a0_2, .int .i64 a0_3, .int .i64 a0_4]) (t := 95) ?_; intro gb429 hg w8 hbox hb; have BK429 := dk (hbox); have GW429 := gs hg HB; have GE429 := gs hg HB; replace HB := hs_ HB hb; clear hb hbox hg) | ((with_reducible refine gate_dst (N := 3) rfl ?_); refine bx (N := 3) (cs := #[.int .i64 a1_0, .int .i64 a1_1, .int .i64 a1_2, .int .i64 a1_3, .int .i64 a1_4]) (t := 95) ?_; intro gb430 hg w9 hbox hb; have BK430 := dk (hbox); have GW430 := gs hg HB; have GE430 := gs hg HB; replace HB := hs_ HB hb; have NB429_430 := gn hg BK429; have NB430_429 := gm hg BK429; replace BK429 := kb BK429 hb; clear hb hbox hg; have hnb10 := NB429_430.out; have hnc10 := NB430_429.out; have ⟨z11_0, z11_1, z11_2, z11_3, z11_4, v11_0, v11_1, v11_2, v11_3, v11_4⟩ := rz5 BK429; have ⟨z12_0, z12_1, z12_2, z12_3, z12_4, v12_0, v12_1, v12_2, v12_3, v12_4⟩ := rz5 BK430))
      go_ret
      exact ⟨ee, bb HB⟩
     ·rw [if_neg c7] at H
      have c7b0 : (a0_4 == a1_4) = false := beq_eq_false_iff_ne.mpr c7
      have c7b1 : (a0_4 != a1_4) = true := bne_iff_ne.mpr c7
      obtain rfl := Option.some.inj H
      go_enter Try.func129, Try.ntmps129
      go_wp2_with (first | ((with_reducible refine gate_dst (N := 2) rfl ?_); refine bx (N := 2) (cs := #[.int .i64 a0_0, .int .i64 a0_1, .int .i64 a0_2, .int .i64 a0_3, .int .i64 a0_4]) (t := 95) ?_; intro gb429 hg w13 hbox hb; have BK429 := dk (hbox); have GW429 := gs hg HB; have GE429 := gs hg HB; replace HB := hs_ HB hb; clear hb hbox hg) | ((with_reducible refine gate_dst (N := 3) rfl ?_); refine bx (N := 3) (cs := #[.int .i64 a1_0, .int .i64 a1_1, .int .i64 a1_2, .int .i64 a1_3, .int .i64 a1_4]) (t := 95) ?_; intro gb430 hg w14 hbox hb; have BK430 := dk (hbox); have GW430 := gs hg HB; have GE430 := gs hg HB; replace HB := hs_ HB hb; have NB429_430 := gn hg BK429; have NB430_429 := gm hg BK429; replace BK429 := kb BK429 hb; clear hb hbox hg; have hnb15 := NB429_430.out; have hnc15 := NB430_429.out; have ⟨z16_0, z16_1, z16_2, z16_3, z16_4, v16_0, v16_1, v16_2, v16_3, v16_4⟩ := rz5 BK429; have ⟨z17_0, z17_1, z17_2, z17_3, z17_4, v17_0, v17_1, v17_2, v17_3, v17_4⟩ := rz5 BK430))
      go_ret
      exact ⟨ee, bb HB⟩
    ·rw [if_neg c6] at H
     have c6b0 : (a0_3 == a1_3) = false := beq_eq_false_iff_ne.mpr c6
     have c6b1 : (a0_3 != a1_3) = true := bne_iff_ne.mpr c6
     obtain rfl := Option.some.inj H
     go_enter Try.func129, Try.ntmps129
     go_wp2_with (first | ((with_reducible refine gate_dst (N := 2) rfl ?_); refine bx (N := 2) (cs := #[.int .i64 a0_0, .int .i64 a0_1, .int .i64 a0_2, .int .i64 a0_3, .int .i64 a0_4]) (t := 95) ?_; intro gb429 hg w18 hbox hb; have BK429 := dk (hbox); have GW429 := gs hg HB; have GE429 := gs hg HB; replace HB := hs_ HB hb; clear hb hbox hg) | ((with_reducible refine gate_dst (N := 3) rfl ?_); refine bx (N := 3) (cs := #[.int .i64 a1_0, .int .i64 a1_1, .int .i64 a1_2, .int .i64 a1_3, .int .i64 a1_4]) (t := 95) ?_; intro gb430 hg w19 hbox hb; have BK430 := dk (hbox); have GW430 := gs hg HB; have GE430 := gs hg HB; replace HB := hs_ HB hb; have NB429_430 := gn hg BK429; have NB430_429 := gm hg BK429; replace BK429 := kb BK429 hb; clear hb hbox hg; have hnb20 := NB429_430.out; have hnc20 := NB430_429.out; have ⟨z21_0, z21_1, z21_2, z21_3, z21_4, v21_0, v21_1, v21_2, v21_3, v21_4⟩ := rz5 BK429; have ⟨z22_0, z22_1, z22_2, z22_3, z22_4, v22_0, v22_1, v22_2, v22_3, v22_4⟩ := rz5 BK430))
     go_ret
     exact ⟨ee, bb HB⟩
   ·rw [if_neg c5] at H
    have c5b0 : (a0_2 == a1_2) = false := beq_eq_false_iff_ne.mpr c5
    have c5b1 : (a0_2 != a1_2) = true := bne_iff_ne.mpr c5
    obtain rfl := Option.some.inj H
    go_enter Try.func129, Try.ntmps129
    go_wp2_with (first | ((with_reducible refine gate_dst (N := 2) rfl ?_); refine bx (N := 2) (cs := #[.int .i64 a0_0, .int .i64 a0_1, .int .i64 a0_2, .int .i64 a0_3, .int .i64 a0_4]) (t := 95) ?_; intro gb429 hg w23 hbox hb; have BK429 := dk (hbox); have GW429 := gs hg HB; have GE429 := gs hg HB; replace HB := hs_ HB hb; clear hb hbox hg) | ((with_reducible refine gate_dst (N := 3) rfl ?_); refine bx (N := 3) (cs := #[.int .i64 a1_0, .int .i64 a1_1, .int .i64 a1_2, .int .i64 a1_3, .int .i64 a1_4]) (t := 95) ?_; intro gb430 hg w24 hbox hb; have BK430 := dk (hbox); have GW430 := gs hg HB; have GE430 := gs hg HB; replace HB := hs_ HB hb; have NB429_430 := gn hg BK429; have NB430_429 := gm hg BK429; replace BK429 := kb BK429 hb; clear hb hbox hg; have hnb25 := NB429_430.out; have hnc25 := NB430_429.out; have ⟨z26_0, z26_1, z26_2, z26_3, z26_4, v26_0, v26_1, v26_2, v26_3, v26_4⟩ := rz5 BK429; have ⟨z27_0, z27_1, z27_2, z27_3, z27_4, v27_0, v27_1, v27_2, v27_3, v27_4⟩ := rz5 BK430))
    go_ret
    exact ⟨ee, bb HB⟩
  ·rw [if_neg c4] at H
   have c4b0 : (a0_1 == a1_1) = false := beq_eq_false_iff_ne.mpr c4
   have c4b1 : (a0_1 != a1_1) = true := bne_iff_ne.mpr c4
   obtain rfl := Option.some.inj H
   go_enter Try.func129, Try.ntmps129
   go_wp2_with (first | ((with_reducible refine gate_dst (N := 2) rfl ?_); refine bx (N := 2) (cs := #[.int .i64 a0_0, .int .i64 a0_1, .int .i64 a0_2, .int .i64 a0_3, .int .i64 a0_4]) (t := 95) ?_; intro gb429 hg w28 hbox hb; have BK429 := dk (hbox); have GW429 := gs hg HB; have GE429 := gs hg HB; replace HB := hs_ HB hb; clear hb hbox hg) | ((with_reducible refine gate_dst (N := 3) rfl ?_); refine bx (N := 3) (cs := #[.int .i64 a1_0, .int .i64 a1_1, .int .i64 a1_2, .int .i64 a1_3, .int .i64 a1_4]) (t := 95) ?_; intro gb430 hg w29 hbox hb; have BK430 := dk (hbox); have GW430 := gs hg HB; have GE430 := gs hg HB; replace HB := hs_ HB hb; have NB429_430 := gn hg BK429; have NB430_429 := gm hg BK429; replace BK429 := kb BK429 hb; clear hb hbox hg; have hnb30 := NB429_430.out; have hnc30 := NB430_429.out; have ⟨z31_0, z31_1, z31_2, z31_3, z31_4, v31_0, v31_1, v31_2, v31_3, v31_4⟩ := rz5 BK429; have ⟨z32_0, z32_1, z32_2, z32_3, z32_4, v32_0, v32_1, v32_2, v32_3, v32_4⟩ := rz5 BK430))
   go_ret
   exact ⟨ee, bb HB⟩
 ·rw [if_neg c3] at H
  have c3b0 : (a0_0 == a1_0) = false := beq_eq_false_iff_ne.mpr c3
  have c3b1 : (a0_0 != a1_0) = true := bne_iff_ne.mpr c3
  obtain rfl := Option.some.inj H
  go_enter Try.func129, Try.ntmps129
  go_wp2_with (first | ((with_reducible refine gate_dst (N := 2) rfl ?_); refine bx (N := 2) (cs := #[.int .i64 a0_0, .int .i64 a0_1, .int .i64 a0_2, .int .i64 a0_3, .int .i64 a0_4]) (t := 95) ?_; intro gb429 hg w33 hbox hb; have BK429 := dk (hbox); have GW429 := gs hg HB; have GE429 := gs hg HB; replace HB := hs_ HB hb; clear hb hbox hg) | ((with_reducible refine gate_dst (N := 3) rfl ?_); refine bx (N := 3) (cs := #[.int .i64 a1_0, .int .i64 a1_1, .int .i64 a1_2, .int .i64 a1_3, .int .i64 a1_4]) (t := 95) ?_; intro gb430 hg w34 hbox hb; have BK430 := dk (hbox); have GW430 := gs hg HB; have GE430 := gs hg HB; replace HB := hs_ HB hb; have NB429_430 := gn hg BK429; have NB430_429 := gm hg BK429; replace BK429 := kb BK429 hb; clear hb hbox hg; have hnb35 := NB429_430.out; have hnc35 := NB430_429.out; have ⟨z36_0, z36_1, z36_2, z36_3, z36_4, v36_0, v36_1, v36_2, v36_3, v36_4⟩ := rz5 BK429; have ⟨z37_0, z37_1, z37_2, z37_3, z37_4, v37_0, v37_1, v37_2, v37_3, v37_4⟩ := rz5 BK430))
  go_ret
  exact ⟨ee, bb HB⟩
def laws_eqGameS.l0 : Nat → List (S95) → List (S95) → Int → Option (Bool)
 | 0, _, _, _ => none
 | k + 1, x0, x1, x5 => if x5 < (x0.length : Int) then (if 0 ≤ x5 then (if x5 < (x1.length : Int) then ((laws_eqGame.f ((rd_T95 x0 x5).f0) ((rd_T95 x0 x5).f1) ((rd_T95 x0 x5).f2) ((rd_T95 x0 x5).f3) ((rd_T95 x0 x5).f4) ((rd_T95 x1 x5).f0) ((rd_T95 x1 x5).f1) ((rd_T95 x1 x5).f2) ((rd_T95 x1 x5).f3) ((rd_T95 x1 x5).f4)).bind fun t433 => (if t433 = true then (laws_eqGameS.l0 k x0 x1 (wrap64 (x5 + 1))) else (some false))) else (none)) else (none)) else (some true)
def laws_eqGameS.f (k : Nat) (l0 : List (S95)) (l1 : List (S95)) : Option (Bool) := if (l0.length : Int) = (l1.length : Int) then (laws_eqGameS.l0 k l0 l1 0) else (some false)
def laws_eqGameS.T6 : Bool × List (List Nat × List Nat) := (true, [([], []), ([], []), ([0, 1], [0, 1]), ([2], [2]), ([], []), ([], []), ([4, 5], [4, 5]), ([6], [6]), ([3, 7], [3, 7]), ([8], [8])])
def laws_eqGameS.B6 : List Nat := [0, 0, 3, 7, 0, 0, 48, 112, 255, 511]
theorem laws_eqGameS.tab6 : rtab .any (opsOf Try.f66 6) = laws_eqGameS.T6 := by kernel_rfl
theorem laws_eqGameS.bits6 : waitsOk laws_eqGameS.T6.2 laws_eqGameS.B6 = true := by kernel_rfl
theorem laws_eqGameS.calls (k : Nat) (A0 : Option Addr) (c0 : Nat) (l0 : List (S95)) (A1 : Option Addr) (c1 : Nat) (l1 : List (S95)) (r : Bool) (w : World) (hr0 : Kd.C k95 w A0 l0.length l0) (hc0 : l0.length ≤ c0) (hr1 : Kd.C k95 w A1 l1.length l1) (hc1 : l1.length ≤ c1) (h : laws_eqGameS.f k l0 l1 = some r) :
  Calls Try.prog 66 #[.slice A0 l0.length c0, .slice A1 l1.length c1] w fun e w' => e = .returned (.bool r) ∧ Below w.heap.size w w' := by
 have hu95 := Try.underlying95
 have HR0 := dk hr0
 have HC0 := dk hc0
 clear hr0 hc0
 have HR1 := dk hr1
 have HC1 := dk hc1
 clear hr1 hc1
 have HB := dk (Below.refl w.heap.size w)
 have H : (if (l0.length : Int) = (l1.length : Int) then (laws_eqGameS.l0 k l0 l1 0) else (some false)) = some r := h
 clear h
 by_cases c3 : (l0.length : Int) = (l1.length : Int)
 ·rw [if_pos c3] at H
  have c3b0 : ((l0.length : Int) == (l1.length : Int)) = true := beq_iff_eq.mpr c3
  have c3b1 : ((l0.length : Int) != (l1.length : Int)) = false := bne_eq_false_iff_eq.mpr c3
  have c3b2 : (l0.length == l1.length) = true := by first | simpa using c3 | (simp at c3 ⊢; omega)
  clear c3
  have H' := dk H
  clear H
  go_enter Try.func66, Try.ntmps66
  go_wp2
  go_loopg [5] k (fun kq v5 w' => ∃ (x5_1 : Int), v5 = .int .i64 x5_1 ∧ Aside0 (laws_eqGameS.l0 kq l0 l1 x5_1 = some r) ∧ Aside0 (kq ≤ k) ∧ Aside0 (Below w.heap.size w w'))
  case atStart => exact ⟨(0), e2_, H', ⟨Nat.le_refl _⟩, ⟨bb HB⟩⟩
  case round =>
   clear H'
   (try clear c1)
   (try clear p2)
   (try clear c3)
   (try clear c3b0)
   (try clear c3b1)
   (try clear c3b2)
   obtain ⟨x5_1, rfl, HA, HK1, HB⟩ := hrel
   cases gk with
   | zero => exact absurd HA.out (by simp [laws_eqGameS.l0])
   | succ k1 =>
    have H := HA.out
    clear HA
    simp only [laws_eqGameS.l0] at H
    by_cases c4 : x5_1 < (l0.length : Int)
    ·rw [if_pos c4] at H
     have c4b0 : decide (x5_1 < (l0.length : Int)) = true := decide_eq_true c4
     clear c4
     by_cases c5 : 0 ≤ x5_1
     ·rw [if_pos c5] at H
      have c5b0 : decide (0 ≤ x5_1) = true := decide_eq_true c5
      clear c5
      by_cases c6 : x5_1 < (l1.length : Int)
      ·rw [if_pos c6] at H
       have c6b0 : decide (x5_1 < (l1.length : Int)) = true := decide_eq_true c6
       clear c6
       replace H := Option.bind_eq_some_iff.mp H
       obtain ⟨t433, A70, H⟩ := H
       try dsimp only at H
       have A7 := dk A70
       clear A70
       by_cases c8 : t433 = true
       ·subst c8
        rw [if_pos rfl] at H
        have H' := dk H
        clear H
        try go_wp2
        replace HB := dk (below_drew1 HB.out)
        have p431 : 0 ≤ (x5_1 : Int) := oa
        have q431 : x5_1 < (l0.length : Int) := oa
        obtain ⟨ad431, e431, hx431_0, hx431_1, hx431_2, hx431_3, hx431_4⟩ := at_T95 HR0.out x5_1 p431 q431
        have hw431_4 := hx431_4
        have hw431_3 := hx431_3
        have hw431_2 := hx431_2
        have hw431_1 := hx431_1
        have hw431_0 := hx431_0
        cases e431
        replace hx431_0 := hc HB hx431_0
        replace hx431_1 := hc HB hx431_1
        replace hx431_2 := hc HB hx431_2
        replace hx431_3 := hc HB hx431_3
        replace hx431_4 := hc HB hx431_4
        replace p431 := eq_true p431
        replace q431 := eq_true q431
        have p432 : 0 ≤ (x5_1 : Int) := oa
        have q432 : x5_1 < (l1.length : Int) := oa
        obtain ⟨ad432, e432, hx432_0, hx432_1, hx432_2, hx432_3, hx432_4⟩ := at_T95 HR1.out x5_1 p432 q432
        have hw432_4 := hx432_4
        have hw432_3 := hx432_3
        have hw432_2 := hx432_2
        have hw432_1 := hx432_1
        have hw432_0 := hx432_0
        cases e432
        replace hx432_0 := hc HB hx432_0
        replace hx432_1 := hc HB hx432_1
        replace hx432_2 := hc HB hx432_2
        replace hx432_3 := hc HB hx432_3
        replace hx432_4 := hc HB hx432_4
        replace p432 := eq_true p432
        replace q432 := eq_true q432
        refine start_ (n := 10) (S := fun w' => w'.cell? (ad431.add ((x5_1).toNat * 5)) = some (.int .i64 ((rd_T95 l0 x5_1).f0)) ∧ w'.cell? ⟨(ad431.add ((x5_1).toNat * 5)).block, (ad431.add ((x5_1).toNat * 5)).off + 1, none⟩ = some (.int .i64 ((rd_T95 l0 x5_1).f1)) ∧ w'.cell? ⟨(ad431.add ((x5_1).toNat * 5)).block, (ad431.add ((x5_1).toNat * 5)).off + 2, none⟩ = some (.int .i64 ((rd_T95 l0 x5_1).f2)) ∧ w'.cell? ⟨(ad431.add ((x5_1).toNat * 5)).block, (ad431.add ((x5_1).toNat * 5)).off + 3, none⟩ = some (.int .i64 ((rd_T95 l0 x5_1).f3)) ∧ w'.cell? ⟨(ad431.add ((x5_1).toNat * 5)).block, (ad431.add ((x5_1).toNat * 5)).off + 4, none⟩ = some (.int .i64 ((rd_T95 l0 x5_1).f4)) ∧ w'.cell? (ad432.add ((x5_1).toNat * 5)) = some (.int .i64 ((rd_T95 l1 x5_1).f0)) ∧ w'.cell? ⟨(ad432.add ((x5_1).toNat * 5)).block, (ad432.add ((x5_1).toNat * 5)).off + 1, none⟩ = some (.int .i64 ((rd_T95 l1 x5_1).f1)) ∧ w'.cell? ⟨(ad432.add ((x5_1).toNat * 5)).block, (ad432.add ((x5_1).toNat * 5)).off + 2, none⟩ = some (.int .i64 ((rd_T95 l1 x5_1).f2)) ∧ w'.cell? ⟨(ad432.add ((x5_1).toNat * 5)).block, (ad432.add ((x5_1).toNat * 5)).off + 3, none⟩ = some (.int .i64 ((rd_T95 l1 x5_1).f3)) ∧ w'.cell? ⟨(ad432.add ((x5_1).toNat * 5)).block, (ad432.add ((x5_1).toNat * 5)).off + 4, none⟩ = some (.int .i64 ((rd_T95 l1 x5_1).f4))) (ds := []) #[false, false, false, false, false, false, false, false, false, false] (by kernel_rfl) rfl rfl ⟨(hc HB hw431_0), (hc HB hw431_1), (hc HB hw431_2), (hc HB hw431_3), (hc HB hw431_4), (hc HB hw432_0), (hc HB hw432_1), (hc HB hw432_2), (hc HB hw432_3), (hc HB hw432_4)⟩ (fun hHeld => ?_); refine with_tabW laws_eqGameS.tab6 laws_eqGameS.bits6 (fun HT_ HW_ => ?_)
        generalize wr.drew = w9 at HB hx431_0 hx431_1 hx431_2 hx431_3 hx431_4 hx432_0 hx432_1 hx432_2 hx432_3 hx432_4 hHeld ⊢
        refine pz_ 0 17 ?_
        refine pz_ 1 18 ?_
        refine pz_ 2 19 ?_
        refine pz_ 4 21 ?_
        refine pz_ 5 22 ?_
        refine pz_ 6 23 ?_
        refine take_ (i := 3) (N := some 20) (v := ?_) (a' := ?_) #[true, true, true, true, true, true, true, false, false, false] rfl rfl (take_ofW HT_.out HW_.out (by kernel_rfl)) (fun _ _ _ h => h) (Or.inl ⟨by rfl, ?_⟩) hHeld ?_ ?_
        rotate_left
        ·rintro w' ⟨s0, s1, s2, s3, s4, s5, s6, s7, s8, s9⟩
         go_simp
         with_reducible rfl
        rotate_left
        ·simp only [Act.put, List.setIfInBounds_toArray, List.set_cons_zero, List.set_cons_succ, i64_w, i32_w]
         rfl
        refine take_ (i := 7) (N := some 24) (v := ?_) (a' := ?_) #[true, true, true, true, true, true, true, true, false, false] rfl rfl (take_ofW HT_.out HW_.out (by kernel_rfl)) (fun _ _ _ h => h) (Or.inl ⟨by rfl, ?_⟩) hHeld ?_ ?_
        rotate_left
        ·rintro w' ⟨s0, s1, s2, s3, s4, s5, s6, s7, s8, s9⟩
         go_simp
         with_reducible rfl
        rotate_left
        ·simp only [Act.put, List.setIfInBounds_toArray, List.set_cons_zero, List.set_cons_succ, i64_w, i32_w]
         rfl
        refine one_ (i := 8) (N := some 25) #[true, true, true, true, true, true, true, true, true, false] rfl rfl (one_of HT_.out (by kernel_rfl)) (by decide) (fun K hK => ?_)
        refine goes_ Try.func129 (by kernel_rfl) rfl #[.agg #[.int .i64 ((rd_T95 l0 x5_1).f0), .int .i64 ((rd_T95 l0 x5_1).f1), .int .i64 ((rd_T95 l0 x5_1).f2), .int .i64 ((rd_T95 l0 x5_1).f3), .int .i64 ((rd_T95 l0 x5_1).f4)], .agg #[.int .i64 ((rd_T95 l1 x5_1).f0), .int .i64 ((rd_T95 l1 x5_1).f1), .int .i64 ((rd_T95 l1 x5_1).f2), .int .i64 ((rd_T95 l1 x5_1).f3), .int .i64 ((rd_T95 l1 x5_1).f4)]] (by rfl) rfl rfl (by (try simp only [List.map_toArray, List.map_cons, List.map_nil]); first | done | rfl | (simp only [List.length_drop, List.length_take]; rfl)) ?_
        with_reducible refine (laws_eqGame.calls ((rd_T95 l0 x5_1).f0) ((rd_T95 l0 x5_1).f1) ((rd_T95 l0 x5_1).f2) ((rd_T95 l0 x5_1).f3) ((rd_T95 l0 x5_1).f4) ((rd_T95 l1 x5_1).f0) ((rd_T95 l1 x5_1).f1) ((rd_T95 l1 x5_1).f2) ((rd_T95 l1 x5_1).f3) ((rd_T95 l1 x5_1).f4) true _ A7.out).mono ?_
        rintro e w10 ⟨rfl, hb⟩
        refine ⟨_, rfl, ?_⟩
        replace HB := hs_ HB hb
        (try clear hb hb2 hk hi)
        refine hK.out _ _ ⟨(hc HB hw431_0), (hc HB hw431_1), (hc HB hw431_2), (hc HB hw431_3), (hc HB hw431_4), (hc HB hw432_0), (hc HB hw432_1), (hc HB hw432_2), (hc HB hw432_3), (hc HB hw432_4)⟩ (fun hHeld => ?_)
        clear hK K
        refine norm_ (a' := ?_) ?_ ?_
        rotate_left
        ·show Act.put _ (some 25) _ = _
         simp only [Act.put, List.setIfInBounds_toArray, List.set_cons_zero, List.set_cons_succ, i64_w, i32_w]
         rfl
        refine pz_ 9 26 ?_
        refine done_ (done_of HT_.out (by kernel_rfl)) ?_
        try go_wp2
        go_roundg k1
        case measure => have := HK1.out; omega
        case rel => exact ⟨(wrap64 (x5_1 + 1)), e2_, H', ⟨by have := HK1.out; omega⟩, ⟨bb HB⟩⟩
       ·replace c8 := Bool.eq_false_iff.mpr c8
        subst c8
        rw [if_neg (show ¬ (false = true) by decide)] at H
        obtain rfl := Option.some.inj H
        try go_wp2
        replace HB := dk (below_drew1 HB.out)
        have p431 : 0 ≤ (x5_1 : Int) := oa
        have q431 : x5_1 < (l0.length : Int) := oa
        obtain ⟨ad431, e431, hx431_0, hx431_1, hx431_2, hx431_3, hx431_4⟩ := at_T95 HR0.out x5_1 p431 q431
        have hw431_4 := hx431_4
        have hw431_3 := hx431_3
        have hw431_2 := hx431_2
        have hw431_1 := hx431_1
        have hw431_0 := hx431_0
        cases e431
        replace hx431_0 := hc HB hx431_0
        replace hx431_1 := hc HB hx431_1
        replace hx431_2 := hc HB hx431_2
        replace hx431_3 := hc HB hx431_3
        replace hx431_4 := hc HB hx431_4
        replace p431 := eq_true p431
        replace q431 := eq_true q431
        have p432 : 0 ≤ (x5_1 : Int) := oa
        have q432 : x5_1 < (l1.length : Int) := oa
        obtain ⟨ad432, e432, hx432_0, hx432_1, hx432_2, hx432_3, hx432_4⟩ := at_T95 HR1.out x5_1 p432 q432
        have hw432_4 := hx432_4
        have hw432_3 := hx432_3
        have hw432_2 := hx432_2
        have hw432_1 := hx432_1
        have hw432_0 := hx432_0
        cases e432
        replace hx432_0 := hc HB hx432_0
        replace hx432_1 := hc HB hx432_1
        replace hx432_2 := hc HB hx432_2
        replace hx432_3 := hc HB hx432_3
        replace hx432_4 := hc HB hx432_4
        replace p432 := eq_true p432
        replace q432 := eq_true q432
        refine start_ (n := 10) (S := fun w' => w'.cell? (ad431.add ((x5_1).toNat * 5)) = some (.int .i64 ((rd_T95 l0 x5_1).f0)) ∧ w'.cell? ⟨(ad431.add ((x5_1).toNat * 5)).block, (ad431.add ((x5_1).toNat * 5)).off + 1, none⟩ = some (.int .i64 ((rd_T95 l0 x5_1).f1)) ∧ w'.cell? ⟨(ad431.add ((x5_1).toNat * 5)).block, (ad431.add ((x5_1).toNat * 5)).off + 2, none⟩ = some (.int .i64 ((rd_T95 l0 x5_1).f2)) ∧ w'.cell? ⟨(ad431.add ((x5_1).toNat * 5)).block, (ad431.add ((x5_1).toNat * 5)).off + 3, none⟩ = some (.int .i64 ((rd_T95 l0 x5_1).f3)) ∧ w'.cell? ⟨(ad431.add ((x5_1).toNat * 5)).block, (ad431.add ((x5_1).toNat * 5)).off + 4, none⟩ = some (.int .i64 ((rd_T95 l0 x5_1).f4)) ∧ w'.cell? (ad432.add ((x5_1).toNat * 5)) = some (.int .i64 ((rd_T95 l1 x5_1).f0)) ∧ w'.cell? ⟨(ad432.add ((x5_1).toNat * 5)).block, (ad432.add ((x5_1).toNat * 5)).off + 1, none⟩ = some (.int .i64 ((rd_T95 l1 x5_1).f1)) ∧ w'.cell? ⟨(ad432.add ((x5_1).toNat * 5)).block, (ad432.add ((x5_1).toNat * 5)).off + 2, none⟩ = some (.int .i64 ((rd_T95 l1 x5_1).f2)) ∧ w'.cell? ⟨(ad432.add ((x5_1).toNat * 5)).block, (ad432.add ((x5_1).toNat * 5)).off + 3, none⟩ = some (.int .i64 ((rd_T95 l1 x5_1).f3)) ∧ w'.cell? ⟨(ad432.add ((x5_1).toNat * 5)).block, (ad432.add ((x5_1).toNat * 5)).off + 4, none⟩ = some (.int .i64 ((rd_T95 l1 x5_1).f4))) (ds := []) #[false, false, false, false, false, false, false, false, false, false] (by kernel_rfl) rfl rfl ⟨(hc HB hw431_0), (hc HB hw431_1), (hc HB hw431_2), (hc HB hw431_3), (hc HB hw431_4), (hc HB hw432_0), (hc HB hw432_1), (hc HB hw432_2), (hc HB hw432_3), (hc HB hw432_4)⟩ (fun hHeld => ?_); refine with_tabW laws_eqGameS.tab6 laws_eqGameS.bits6 (fun HT_ HW_ => ?_)
        generalize wr.drew = w11 at HB hx431_0 hx431_1 hx431_2 hx431_3 hx431_4 hx432_0 hx432_1 hx432_2 hx432_3 hx432_4 hHeld ⊢
        refine pz_ 0 17 ?_
        refine pz_ 1 18 ?_
        refine pz_ 2 19 ?_
        refine pz_ 4 21 ?_
        refine pz_ 5 22 ?_
        refine pz_ 6 23 ?_
        refine take_ (i := 3) (N := some 20) (v := ?_) (a' := ?_) #[true, true, true, true, true, true, true, false, false, false] rfl rfl (take_ofW HT_.out HW_.out (by kernel_rfl)) (fun _ _ _ h => h) (Or.inl ⟨by rfl, ?_⟩) hHeld ?_ ?_
        rotate_left
        ·rintro w' ⟨s0, s1, s2, s3, s4, s5, s6, s7, s8, s9⟩
         go_simp
         with_reducible rfl
        rotate_left
        ·simp only [Act.put, List.setIfInBounds_toArray, List.set_cons_zero, List.set_cons_succ, i64_w, i32_w]
         rfl
        refine take_ (i := 7) (N := some 24) (v := ?_) (a' := ?_) #[true, true, true, true, true, true, true, true, false, false] rfl rfl (take_ofW HT_.out HW_.out (by kernel_rfl)) (fun _ _ _ h => h) (Or.inl ⟨by rfl, ?_⟩) hHeld ?_ ?_
        rotate_left
        ·rintro w' ⟨s0, s1, s2, s3, s4, s5, s6, s7, s8, s9⟩
         go_simp
         with_reducible rfl
        rotate_left
        ·simp only [Act.put, List.setIfInBounds_toArray, List.set_cons_zero, List.set_cons_succ, i64_w, i32_w]
         rfl
        refine one_ (i := 8) (N := some 25) #[true, true, true, true, true, true, true, true, true, false] rfl rfl (one_of HT_.out (by kernel_rfl)) (by decide) (fun K hK => ?_)
        refine goes_ Try.func129 (by kernel_rfl) rfl #[.agg #[.int .i64 ((rd_T95 l0 x5_1).f0), .int .i64 ((rd_T95 l0 x5_1).f1), .int .i64 ((rd_T95 l0 x5_1).f2), .int .i64 ((rd_T95 l0 x5_1).f3), .int .i64 ((rd_T95 l0 x5_1).f4)], .agg #[.int .i64 ((rd_T95 l1 x5_1).f0), .int .i64 ((rd_T95 l1 x5_1).f1), .int .i64 ((rd_T95 l1 x5_1).f2), .int .i64 ((rd_T95 l1 x5_1).f3), .int .i64 ((rd_T95 l1 x5_1).f4)]] (by rfl) rfl rfl (by (try simp only [List.map_toArray, List.map_cons, List.map_nil]); first | done | rfl | (simp only [List.length_drop, List.length_take]; rfl)) ?_
        with_reducible refine (laws_eqGame.calls ((rd_T95 l0 x5_1).f0) ((rd_T95 l0 x5_1).f1) ((rd_T95 l0 x5_1).f2) ((rd_T95 l0 x5_1).f3) ((rd_T95 l0 x5_1).f4) ((rd_T95 l1 x5_1).f0) ((rd_T95 l1 x5_1).f1) ((rd_T95 l1 x5_1).f2) ((rd_T95 l1 x5_1).f3) ((rd_T95 l1 x5_1).f4) false _ A7.out).mono ?_
        rintro e w12 ⟨rfl, hb⟩
        refine ⟨_, rfl, ?_⟩
        replace HB := hs_ HB hb
        (try clear hb hb2 hk hi)
        refine hK.out _ _ ⟨(hc HB hw431_0), (hc HB hw431_1), (hc HB hw431_2), (hc HB hw431_3), (hc HB hw431_4), (hc HB hw432_0), (hc HB hw432_1), (hc HB hw432_2), (hc HB hw432_3), (hc HB hw432_4)⟩ (fun hHeld => ?_)
        clear hK K
        refine norm_ (a' := ?_) ?_ ?_
        rotate_left
        ·show Act.put _ (some 25) _ = _
         simp only [Act.put, List.setIfInBounds_toArray, List.set_cons_zero, List.set_cons_succ, i64_w, i32_w]
         rfl
        refine pz_ 9 26 ?_
        refine done_ (done_of HT_.out (by kernel_rfl)) ?_
        try go_wp2
        go_ret
        exact ⟨ee, bb HB⟩
      ·rw [if_neg c6] at H
       exact absurd H (by simp)
     ·rw [if_neg c5] at H
      exact absurd H (by simp)
    ·rw [if_neg c4] at H
     have c4b0 : decide (x5_1 < (l0.length : Int)) = false := decide_eq_false c4
     clear c4
     obtain rfl := Option.some.inj H
     go_wp2
     go_ret
     exact ⟨ee, bb HB⟩
 ·rw [if_neg c3] at H
  have c3b0 : ((l0.length : Int) == (l1.length : Int)) = false := beq_eq_false_iff_ne.mpr c3
  have c3b1 : ((l0.length : Int) != (l1.length : Int)) = true := bne_iff_ne.mpr c3
  have c3b2 : (l0.length == l1.length) = false := by first | simpa using c3 | (simp at c3 ⊢; omega)
  obtain rfl := Option.some.inj H
  go_enter Try.func66, Try.ntmps66
  go_wp2
  go_ret
  exact ⟨ee, bb HB⟩
def laws_eqBook.f (k : Nat) (l0_0 : List (S139)) (a0_1 : Int) (a0_2 : Int) (a0_3 : Int) (l0_4 : List Int) (a0_5 : Bool) (l0_6 : List (S95)) (l0_7 : List Int) (l0_8 : List Int) (l1_0 : List (S139)) (a1_1 : Int) (a1_2 : Int) (a1_3 : Int) (l1_4 : List Int) (a1_5 : Bool) (l1_6 : List (S95)) (l1_7 : List Int) (l1_8 : List Int) : Option (Bool) := (laws_eqTeamS.f k l0_0 l1_0).bind fun t436 => (if t436 = true then ((laws_eqRules.f k a0_1 a0_2 a0_3 l0_4 a0_5 a1_1 a1_2 a1_3 l1_4 a1_5).bind fun t437 => (if t437 = true then ((laws_eqGameS.f k l0_6 l1_6).bind fun t438 => (if t438 = true then ((laws_eqIntS.f k l0_7 l1_7).bind fun t439 => (if t439 = true then ((laws_eqIntS.f k l0_8 l1_8).bind fun t440 => (if t440 = true then (some true) else (some false))) else (some false))) else (some false))) else (some false))) else (some false))
theorem laws_eqBook.calls (k : Nat) (A0_0 : Option Addr) (c0_0 : Nat) (l0_0 : List (S139)) (a0_1 : Int) (a0_2 : Int) (a0_3 : Int) (A0_4 : Option Addr) (c0_4 : Nat) (l0_4 : List Int) (a0_5 : Bool) (A0_6 : Option Addr) (c0_6 : Nat) (l0_6 : List (S95)) (A0_7 : Option Addr) (c0_7 : Nat) (l0_7 : List Int) (A0_8 : Option Addr) (c0_8 : Nat) (l0_8 : List Int) (A1_0 : Option Addr) (c1_0 : Nat) (l1_0 : List (S139)) (a1_1 : Int) (a1_2 : Int) (a1_3 : Int) (A1_4 : Option Addr) (c1_4 : Nat) (l1_4 : List Int) (a1_5 : Bool) (A1_6 : Option Addr) (c1_6 : Nat) (l1_6 : List (S95)) (A1_7 : Option Addr) (c1_7 : Nat) (l1_7 : List Int) (A1_8 : Option Addr) (c1_8 : Nat) (l1_8 : List Int) (r : Bool) (w : World) (hr0_0 : Kd.C k139 w A0_0 l0_0.length l0_0) (hc0_0 : l0_0.length ≤ c0_0) (hr0_4 : Kd.C (Kd.int .i64) w A0_4 l0_4.length l0_4) (hc0_4 : l0_4.length ≤ c0_4) (hr0_6 : Kd.C k95 w A0_6 l0_6.length l0_6) (hc0_6 : l0_6.length ≤ c0_6) (hr0_7 : Kd.C (Kd.int .i64) w A0_7 l0_7.length l0_7) (hc0_7 : l0_7.length ≤ c0_7) (hr0_8 : Kd.C (Kd.int .i64) w A0_8 l0_8.length l0_8) (hc0_8 : l0_8.length ≤ c0_8) (hr1_0 : Kd.C k139 w A1_0 l1_0.length l1_0) (hc1_0 : l1_0.length ≤ c1_0) (hr1_4 : Kd.C (Kd.int .i64) w A1_4 l1_4.length l1_4) (hc1_4 : l1_4.length ≤ c1_4) (hr1_6 : Kd.C k95 w A1_6 l1_6.length l1_6) (hc1_6 : l1_6.length ≤ c1_6) (hr1_7 : Kd.C (Kd.int .i64) w A1_7 l1_7.length l1_7) (hc1_7 : l1_7.length ≤ c1_7) (hr1_8 : Kd.C (Kd.int .i64) w A1_8 l1_8.length l1_8) (hc1_8 : l1_8.length ≤ c1_8) (h : laws_eqBook.f k l0_0 a0_1 a0_2 a0_3 l0_4 a0_5 l0_6 l0_7 l0_8 l1_0 a1_1 a1_2 a1_3 l1_4 a1_5 l1_6 l1_7 l1_8 = some r) :
  Calls Try.prog 16 #[.agg #[.slice A0_0 l0_0.length c0_0, .int .i64 a0_1, .int .i64 a0_2, .int .i64 a0_3, .slice A0_4 l0_4.length c0_4, .bool a0_5, .slice A0_6 l0_6.length c0_6, .slice A0_7 l0_7.length c0_7, .slice A0_8 l0_8.length c0_8], .agg #[.slice A1_0 l1_0.length c1_0, .int .i64 a1_1, .int .i64 a1_2, .int .i64 a1_3, .slice A1_4 l1_4.length c1_4, .bool a1_5, .slice A1_6 l1_6.length c1_6, .slice A1_7 l1_7.length c1_7, .slice A1_8 l1_8.length c1_8]] w fun e w' => e = .returned (.bool r) ∧ Below w.heap.size w w' := by
 have hu36 := Try.underlying36
 have hu33 := Try.underlying33
 have HR0_0 := dk hr0_0
 have HC0_0 := dk hc0_0
 clear hr0_0 hc0_0
 have HR0_4 := dk hr0_4
 have HC0_4 := dk hc0_4
 clear hr0_4 hc0_4
 have HR0_6 := dk hr0_6
 have HC0_6 := dk hc0_6
 clear hr0_6 hc0_6
 have HR0_7 := dk hr0_7
 have HC0_7 := dk hc0_7
 clear hr0_7 hc0_7
 have HR0_8 := dk hr0_8
 have HC0_8 := dk hc0_8
 clear hr0_8 hc0_8
 have HR1_0 := dk hr1_0
 have HC1_0 := dk hc1_0
 clear hr1_0 hc1_0
 have HR1_4 := dk hr1_4
 have HC1_4 := dk hc1_4
 clear hr1_4 hc1_4
 have HR1_6 := dk hr1_6
 have HC1_6 := dk hc1_6
 clear hr1_6 hc1_6
 have HR1_7 := dk hr1_7
 have HC1_7 := dk hc1_7
 clear hr1_7 hc1_7
 have HR1_8 := dk hr1_8
 have HC1_8 := dk hc1_8
 clear hr1_8 hc1_8
 have HB := dk (Below.refl w.heap.size w)
 have H : ((laws_eqTeamS.f k l0_0 l1_0).bind fun t436 => (if t436 = true then ((laws_eqRules.f k a0_1 a0_2 a0_3 l0_4 a0_5 a1_1 a1_2 a1_3 l1_4 a1_5).bind fun t437 => (if t437 = true then ((laws_eqGameS.f k l0_6 l1_6).bind fun t438 => (if t438 = true then ((laws_eqIntS.f k l0_7 l1_7).bind fun t439 => (if t439 = true then ((laws_eqIntS.f k l0_8 l1_8).bind fun t440 => (if t440 = true then (some true) else (some false))) else (some false))) else (some false))) else (some false))) else (some false))) = some r := h
 clear h
 replace H := Option.bind_eq_some_iff.mp H
 obtain ⟨t436, A30, H⟩ := H
 try dsimp only at H
 have A3 := dk A30
 clear A30
 by_cases c4 : t436 = true
 ·subst c4
  rw [if_pos rfl] at H
  replace H := Option.bind_eq_some_iff.mp H
  obtain ⟨t437, A50, H⟩ := H
  try dsimp only at H
  have A5 := dk A50
  clear A50
  by_cases c6 : t437 = true
  ·subst c6
   rw [if_pos rfl] at H
   replace H := Option.bind_eq_some_iff.mp H
   obtain ⟨t438, A70, H⟩ := H
   try dsimp only at H
   have A7 := dk A70
   clear A70
   by_cases c8 : t438 = true
   ·subst c8
    rw [if_pos rfl] at H
    replace H := Option.bind_eq_some_iff.mp H
    obtain ⟨t439, A90, H⟩ := H
    try dsimp only at H
    have A9 := dk A90
    clear A90
    by_cases c10 : t439 = true
    ·subst c10
     rw [if_pos rfl] at H
     replace H := Option.bind_eq_some_iff.mp H
     obtain ⟨t440, A110, H⟩ := H
     try dsimp only at H
     have A11 := dk A110
     clear A110
     by_cases c12 : t440 = true
     ·subst c12
      rw [if_pos rfl] at H
      obtain rfl := Option.some.inj H
      go_enter Try.func16, Try.ntmps16
      go_wp2_with (first | ((with_reducible refine gate_dst (N := 2) rfl ?_); refine bx (N := 2) (cs := #[.slice A0_0 l0_0.length c0_0, .int .i64 a0_1, .int .i64 a0_2, .int .i64 a0_3, .slice A0_4 l0_4.length c0_4, .bool a0_5, .slice A0_6 l0_6.length c0_6, .slice A0_7 l0_7.length c0_7, .slice A0_8 l0_8.length c0_8]) (t := 36) ?_; intro gb434 hg w13 hbox hb; have BK434 := dk (hbox); have GW434 := gs hg HB; have GE434 := gs hg HB; replace HB := hs_ HB hb; clear hb hbox hg) | ((with_reducible refine gate_dst (N := 3) rfl ?_); refine bx (N := 3) (cs := #[.slice A1_0 l1_0.length c1_0, .int .i64 a1_1, .int .i64 a1_2, .int .i64 a1_3, .slice A1_4 l1_4.length c1_4, .bool a1_5, .slice A1_6 l1_6.length c1_6, .slice A1_7 l1_7.length c1_7, .slice A1_8 l1_8.length c1_8]) (t := 36) ?_; intro gb435 hg w14 hbox hb; have BK435 := dk (hbox); have GW435 := gs hg HB; have GE435 := gs hg HB; replace HB := hs_ HB hb; have NB434_435 := gn hg BK434; have NB435_434 := gm hg BK434; replace BK434 := kb BK434 hb; clear hb hbox hg; have hnb15 := NB434_435.out; have hnc15 := NB435_434.out; have ⟨z16_0, z16_1, z16_2, z16_3, z16_4, z16_5, z16_6, z16_7, z16_8, v16_0, v16_1, v16_2, v16_3, v16_4, v16_5, v16_6, v16_7, v16_8⟩ := rz9 BK434; have ⟨z17_0, z17_1, z17_2, z17_3, z17_4, z17_5, z17_6, z17_7, z17_8, v17_0, v17_1, v17_2, v17_3, v17_4, v17_5, v17_6, v17_7, v17_8⟩ := rz9 BK435) | ((with_reducible refine gate_callee (f := 50) rfl ?_); refine gl (some 9) Try.func50 #[.slice A0_0 l0_0.length c0_0, .slice A1_0 l1_0.length c1_0] ?_; (with_reducible refine (laws_eqTeamS.calls k _ _ l0_0 _ _ l1_0 true _ ?side1 ?side2 ?side3 ?side4 A3.out).mono ?_); (case side1 => exact cc HR0_0 HB); (case side2 => exact HC0_0.out); (case side3 => exact cc HR1_0 HB); (case side4 => exact HC1_0.out); rintro e w18 ⟨rfl, hb⟩; refine ⟨_, rfl, ?_⟩; replace BK434 := kb BK434 hb; replace BK435 := kb BK435 hb; replace HB := hs_ HB hb; (try clear hb hb2 hk hi); have ⟨z19_0, z19_1, z19_2, z19_3, z19_4, z19_5, z19_6, z19_7, z19_8, v19_0, v19_1, v19_2, v19_3, v19_4, v19_5, v19_6, v19_7, v19_8⟩ := rz9 BK434; have ⟨z20_0, z20_1, z20_2, z20_3, z20_4, z20_5, z20_6, z20_7, z20_8, v20_0, v20_1, v20_2, v20_3, v20_4, v20_5, v20_6, v20_7, v20_8⟩ := rz9 BK435) | ((with_reducible refine gate_callee (f := 65) rfl ?_); refine gl (some 15) Try.func65 #[.agg #[.int .i64 a0_1, .int .i64 a0_2, .int .i64 a0_3, .slice A0_4 l0_4.length c0_4, .bool a0_5], .agg #[.int .i64 a1_1, .int .i64 a1_2, .int .i64 a1_3, .slice A1_4 l1_4.length c1_4, .bool a1_5]] ?_; (with_reducible refine (laws_eqRules.calls k a0_1 a0_2 a0_3 _ _ l0_4 a0_5 a1_1 a1_2 a1_3 _ _ l1_4 a1_5 true _ ?side1 ?side2 ?side3 ?side4 A5.out).mono ?_); (case side1 => exact cc HR0_4 HB); (case side2 => exact HC0_4.out); (case side3 => exact cc HR1_4 HB); (case side4 => exact HC1_4.out); rintro e w21 ⟨rfl, hb⟩; refine ⟨_, rfl, ?_⟩; replace BK434 := kb BK434 hb; replace BK435 := kb BK435 hb; replace HB := hs_ HB hb; (try clear hb hb2 hk hi); have ⟨z22_0, z22_1, z22_2, z22_3, z22_4, z22_5, z22_6, z22_7, z22_8, v22_0, v22_1, v22_2, v22_3, v22_4, v22_5, v22_6, v22_7, v22_8⟩ := rz9 BK434; have ⟨z23_0, z23_1, z23_2, z23_3, z23_4, z23_5, z23_6, z23_7, z23_8, v23_0, v23_1, v23_2, v23_3, v23_4, v23_5, v23_6, v23_7, v23_8⟩ := rz9 BK435) | ((with_reducible refine gate_callee (f := 66) rfl ?_); refine gl (some 21) Try.func66 #[.slice A0_6 l0_6.length c0_6, .slice A1_6 l1_6.length c1_6] ?_; (with_reducible refine (laws_eqGameS.calls k _ _ l0_6 _ _ l1_6 true _ ?side1 ?side2 ?side3 ?side4 A7.out).mono ?_); (case side1 => exact cc HR0_6 HB); (case side2 => exact HC0_6.out); (case side3 => exact cc HR1_6 HB); (case side4 => exact HC1_6.out); rintro e w24 ⟨rfl, hb⟩; refine ⟨_, rfl, ?_⟩; replace BK434 := kb BK434 hb; replace BK435 := kb BK435 hb; replace HB := hs_ HB hb; (try clear hb hb2 hk hi); have ⟨z25_0, z25_1, z25_2, z25_3, z25_4, z25_5, z25_6, z25_7, z25_8, v25_0, v25_1, v25_2, v25_3, v25_4, v25_5, v25_6, v25_7, v25_8⟩ := rz9 BK434; have ⟨z26_0, z26_1, z26_2, z26_3, z26_4, z26_5, z26_6, z26_7, z26_8, v26_0, v26_1, v26_2, v26_3, v26_4, v26_5, v26_6, v26_7, v26_8⟩ := rz9 BK435) | ((with_reducible refine gate_callee (f := 28) rfl ?_); refine gl (some 27) Try.func28 #[.slice A0_7 l0_7.length c0_7, .slice A1_7 l1_7.length c1_7] ?_; (with_reducible refine (laws_eqIntS.calls k _ _ l0_7 _ _ l1_7 true _ ?side1 ?side2 ?side3 ?side4 A9.out).mono ?_); (case side1 => exact cc HR0_7 HB); (case side2 => exact HC0_7.out); (case side3 => exact cc HR1_7 HB); (case side4 => exact HC1_7.out); rintro e w' ⟨rfl, ⟨nd, rfl⟩⟩; refine ⟨_, rfl, ?_⟩) | ((with_reducible refine gate_callee (f := 28) rfl ?_); refine gl (some 33) Try.func28 #[.slice A0_8 l0_8.length c0_8, .slice A1_8 l1_8.length c1_8] ?_; (with_reducible refine (laws_eqIntS.calls k _ _ l0_8 _ _ l1_8 true _ ?side1 ?side2 ?side3 ?side4 A11.out).mono ?_); (case side1 => repeat (first | exact (Kd.C_below HR0_8.out (bb HB)) | (with_reducible refine Kd.C_alloc ?_ _) | (with_reducible refine Kd.C_drewN ?_ _) | (with_reducible refine Kd.C_drew ?_))); (case side2 => exact HC0_8.out); (case side3 => repeat (first | exact (Kd.C_below HR1_8.out (bb HB)) | (with_reducible refine Kd.C_alloc ?_ _) | (with_reducible refine Kd.C_drewN ?_ _) | (with_reducible refine Kd.C_drew ?_))); (case side4 => exact HC1_8.out); rintro e w' ⟨rfl, ⟨nd, rfl⟩⟩; refine ⟨_, rfl, ?_⟩))
      go_ret
      exact ⟨ee, bb HB⟩
     ·replace c12 := Bool.eq_false_iff.mpr c12
      subst c12
      rw [if_neg (show ¬ (false = true) by decide)] at H
      obtain rfl := Option.some.inj H
      go_enter Try.func16, Try.ntmps16
      go_wp2_with (first | ((with_reducible refine gate_dst (N := 2) rfl ?_); refine bx (N := 2) (cs := #[.slice A0_0 l0_0.length c0_0, .int .i64 a0_1, .int .i64 a0_2, .int .i64 a0_3, .slice A0_4 l0_4.length c0_4, .bool a0_5, .slice A0_6 l0_6.length c0_6, .slice A0_7 l0_7.length c0_7, .slice A0_8 l0_8.length c0_8]) (t := 36) ?_; intro gb434 hg w27 hbox hb; have BK434 := dk (hbox); have GW434 := gs hg HB; have GE434 := gs hg HB; replace HB := hs_ HB hb; clear hb hbox hg) | ((with_reducible refine gate_dst (N := 3) rfl ?_); refine bx (N := 3) (cs := #[.slice A1_0 l1_0.length c1_0, .int .i64 a1_1, .int .i64 a1_2, .int .i64 a1_3, .slice A1_4 l1_4.length c1_4, .bool a1_5, .slice A1_6 l1_6.length c1_6, .slice A1_7 l1_7.length c1_7, .slice A1_8 l1_8.length c1_8]) (t := 36) ?_; intro gb435 hg w28 hbox hb; have BK435 := dk (hbox); have GW435 := gs hg HB; have GE435 := gs hg HB; replace HB := hs_ HB hb; have NB434_435 := gn hg BK434; have NB435_434 := gm hg BK434; replace BK434 := kb BK434 hb; clear hb hbox hg; have hnb29 := NB434_435.out; have hnc29 := NB435_434.out; have ⟨z30_0, z30_1, z30_2, z30_3, z30_4, z30_5, z30_6, z30_7, z30_8, v30_0, v30_1, v30_2, v30_3, v30_4, v30_5, v30_6, v30_7, v30_8⟩ := rz9 BK434; have ⟨z31_0, z31_1, z31_2, z31_3, z31_4, z31_5, z31_6, z31_7, z31_8, v31_0, v31_1, v31_2, v31_3, v31_4, v31_5, v31_6, v31_7, v31_8⟩ := rz9 BK435) | ((with_reducible refine gate_callee (f := 50) rfl ?_); refine gl (some 9) Try.func50 #[.slice A0_0 l0_0.length c0_0, .slice A1_0 l1_0.length c1_0] ?_; (with_reducible refine (laws_eqTeamS.calls k _ _ l0_0 _ _ l1_0 true _ ?side1 ?side2 ?side3 ?side4 A3.out).mono ?_); (case side1 => exact cc HR0_0 HB); (case side2 => exact HC0_0.out); (case side3 => exact cc HR1_0 HB); (case side4 => exact HC1_0.out); rintro e w32 ⟨rfl, hb⟩; refine ⟨_, rfl, ?_⟩; replace BK434 := kb BK434 hb; replace BK435 := kb BK435 hb; replace HB := hs_ HB hb; (try clear hb hb2 hk hi); have ⟨z33_0, z33_1, z33_2, z33_3, z33_4, z33_5, z33_6, z33_7, z33_8, v33_0, v33_1, v33_2, v33_3, v33_4, v33_5, v33_6, v33_7, v33_8⟩ := rz9 BK434; have ⟨z34_0, z34_1, z34_2, z34_3, z34_4, z34_5, z34_6, z34_7, z34_8, v34_0, v34_1, v34_2, v34_3, v34_4, v34_5, v34_6, v34_7, v34_8⟩ := rz9 BK435) | ((with_reducible refine gate_callee (f := 65) rfl ?_); refine gl (some 15) Try.func65 #[.agg #[.int .i64 a0_1, .int .i64 a0_2, .int .i64 a0_3, .slice A0_4 l0_4.length c0_4, .bool a0_5], .agg #[.int .i64 a1_1, .int .i64 a1_2, .int .i64 a1_3, .slice A1_4 l1_4.length c1_4, .bool a1_5]] ?_; (with_reducible refine (laws_eqRules.calls k a0_1 a0_2 a0_3 _ _ l0_4 a0_5 a1_1 a1_2 a1_3 _ _ l1_4 a1_5 true _ ?side1 ?side2 ?side3 ?side4 A5.out).mono ?_); (case side1 => exact cc HR0_4 HB); (case side2 => exact HC0_4.out); (case side3 => exact cc HR1_4 HB); (case side4 => exact HC1_4.out); rintro e w35 ⟨rfl, hb⟩; refine ⟨_, rfl, ?_⟩; replace BK434 := kb BK434 hb; replace BK435 := kb BK435 hb; replace HB := hs_ HB hb; (try clear hb hb2 hk hi); have ⟨z36_0, z36_1, z36_2, z36_3, z36_4, z36_5, z36_6, z36_7, z36_8, v36_0, v36_1, v36_2, v36_3, v36_4, v36_5, v36_6, v36_7, v36_8⟩ := rz9 BK434; have ⟨z37_0, z37_1, z37_2, z37_3, z37_4, z37_5, z37_6, z37_7, z37_8, v37_0, v37_1, v37_2, v37_3, v37_4, v37_5, v37_6, v37_7, v37_8⟩ := rz9 BK435) | ((with_reducible refine gate_callee (f := 66) rfl ?_); refine gl (some 21) Try.func66 #[.slice A0_6 l0_6.length c0_6, .slice A1_6 l1_6.length c1_6] ?_; (with_reducible refine (laws_eqGameS.calls k _ _ l0_6 _ _ l1_6 true _ ?side1 ?side2 ?side3 ?side4 A7.out).mono ?_); (case side1 => exact cc HR0_6 HB); (case side2 => exact HC0_6.out); (case side3 => exact cc HR1_6 HB); (case side4 => exact HC1_6.out); rintro e w38 ⟨rfl, hb⟩; refine ⟨_, rfl, ?_⟩; replace BK434 := kb BK434 hb; replace BK435 := kb BK435 hb; replace HB := hs_ HB hb; (try clear hb hb2 hk hi); have ⟨z39_0, z39_1, z39_2, z39_3, z39_4, z39_5, z39_6, z39_7, z39_8, v39_0, v39_1, v39_2, v39_3, v39_4, v39_5, v39_6, v39_7, v39_8⟩ := rz9 BK434; have ⟨z40_0, z40_1, z40_2, z40_3, z40_4, z40_5, z40_6, z40_7, z40_8, v40_0, v40_1, v40_2, v40_3, v40_4, v40_5, v40_6, v40_7, v40_8⟩ := rz9 BK435) | ((with_reducible refine gate_callee (f := 28) rfl ?_); refine gl (some 27) Try.func28 #[.slice A0_7 l0_7.length c0_7, .slice A1_7 l1_7.length c1_7] ?_; (with_reducible refine (laws_eqIntS.calls k _ _ l0_7 _ _ l1_7 true _ ?side1 ?side2 ?side3 ?side4 A9.out).mono ?_); (case side1 => exact cc HR0_7 HB); (case side2 => exact HC0_7.out); (case side3 => exact cc HR1_7 HB); (case side4 => exact HC1_7.out); rintro e w' ⟨rfl, ⟨nd, rfl⟩⟩; refine ⟨_, rfl, ?_⟩) | ((with_reducible refine gate_callee (f := 28) rfl ?_); refine gl (some 33) Try.func28 #[.slice A0_8 l0_8.length c0_8, .slice A1_8 l1_8.length c1_8] ?_; (with_reducible refine (laws_eqIntS.calls k _ _ l0_8 _ _ l1_8 false _ ?side1 ?side2 ?side3 ?side4 A11.out).mono ?_); (case side1 => repeat (first | exact (Kd.C_below HR0_8.out (bb HB)) | (with_reducible refine Kd.C_alloc ?_ _) | (with_reducible refine Kd.C_drewN ?_ _) | (with_reducible refine Kd.C_drew ?_))); (case side2 => exact HC0_8.out); (case side3 => repeat (first | exact (Kd.C_below HR1_8.out (bb HB)) | (with_reducible refine Kd.C_alloc ?_ _) | (with_reducible refine Kd.C_drewN ?_ _) | (with_reducible refine Kd.C_drew ?_))); (case side4 => exact HC1_8.out); rintro e w' ⟨rfl, ⟨nd, rfl⟩⟩; refine ⟨_, rfl, ?_⟩))
      go_ret
      exact ⟨ee, bb HB⟩
    ·replace c10 := Bool.eq_false_iff.mpr c10
     subst c10
     rw [if_neg (show ¬ (false = true) by decide)] at H
     obtain rfl := Option.some.inj H
     go_enter Try.func16, Try.ntmps16
     go_wp2_with (first | ((with_reducible refine gate_dst (N := 2) rfl ?_); refine bx (N := 2) (cs := #[.slice A0_0 l0_0.length c0_0, .int .i64 a0_1, .int .i64 a0_2, .int .i64 a0_3, .slice A0_4 l0_4.length c0_4, .bool a0_5, .slice A0_6 l0_6.length c0_6, .slice A0_7 l0_7.length c0_7, .slice A0_8 l0_8.length c0_8]) (t := 36) ?_; intro gb434 hg w41 hbox hb; have BK434 := dk (hbox); have GW434 := gs hg HB; have GE434 := gs hg HB; replace HB := hs_ HB hb; clear hb hbox hg) | ((with_reducible refine gate_dst (N := 3) rfl ?_); refine bx (N := 3) (cs := #[.slice A1_0 l1_0.length c1_0, .int .i64 a1_1, .int .i64 a1_2, .int .i64 a1_3, .slice A1_4 l1_4.length c1_4, .bool a1_5, .slice A1_6 l1_6.length c1_6, .slice A1_7 l1_7.length c1_7, .slice A1_8 l1_8.length c1_8]) (t := 36) ?_; intro gb435 hg w42 hbox hb; have BK435 := dk (hbox); have GW435 := gs hg HB; have GE435 := gs hg HB; replace HB := hs_ HB hb; have NB434_435 := gn hg BK434; have NB435_434 := gm hg BK434; replace BK434 := kb BK434 hb; clear hb hbox hg; have hnb43 := NB434_435.out; have hnc43 := NB435_434.out; have ⟨z44_0, z44_1, z44_2, z44_3, z44_4, z44_5, z44_6, z44_7, z44_8, v44_0, v44_1, v44_2, v44_3, v44_4, v44_5, v44_6, v44_7, v44_8⟩ := rz9 BK434; have ⟨z45_0, z45_1, z45_2, z45_3, z45_4, z45_5, z45_6, z45_7, z45_8, v45_0, v45_1, v45_2, v45_3, v45_4, v45_5, v45_6, v45_7, v45_8⟩ := rz9 BK435) | ((with_reducible refine gate_callee (f := 50) rfl ?_); refine gl (some 9) Try.func50 #[.slice A0_0 l0_0.length c0_0, .slice A1_0 l1_0.length c1_0] ?_; (with_reducible refine (laws_eqTeamS.calls k _ _ l0_0 _ _ l1_0 true _ ?side1 ?side2 ?side3 ?side4 A3.out).mono ?_); (case side1 => exact cc HR0_0 HB); (case side2 => exact HC0_0.out); (case side3 => exact cc HR1_0 HB); (case side4 => exact HC1_0.out); rintro e w46 ⟨rfl, hb⟩; refine ⟨_, rfl, ?_⟩; replace BK434 := kb BK434 hb; replace BK435 := kb BK435 hb; replace HB := hs_ HB hb; (try clear hb hb2 hk hi); have ⟨z47_0, z47_1, z47_2, z47_3, z47_4, z47_5, z47_6, z47_7, z47_8, v47_0, v47_1, v47_2, v47_3, v47_4, v47_5, v47_6, v47_7, v47_8⟩ := rz9 BK434; have ⟨z48_0, z48_1, z48_2, z48_3, z48_4, z48_5, z48_6, z48_7, z48_8, v48_0, v48_1, v48_2, v48_3, v48_4, v48_5, v48_6, v48_7, v48_8⟩ := rz9 BK435) | ((with_reducible refine gate_callee (f := 65) rfl ?_); refine gl (some 15) Try.func65 #[.agg #[.int .i64 a0_1, .int .i64 a0_2, .int .i64 a0_3, .slice A0_4 l0_4.length c0_4, .bool a0_5], .agg #[.int .i64 a1_1, .int .i64 a1_2, .int .i64 a1_3, .slice A1_4 l1_4.length c1_4, .bool a1_5]] ?_; (with_reducible refine (laws_eqRules.calls k a0_1 a0_2 a0_3 _ _ l0_4 a0_5 a1_1 a1_2 a1_3 _ _ l1_4 a1_5 true _ ?side1 ?side2 ?side3 ?side4 A5.out).mono ?_); (case side1 => exact cc HR0_4 HB); (case side2 => exact HC0_4.out); (case side3 => exact cc HR1_4 HB); (case side4 => exact HC1_4.out); rintro e w49 ⟨rfl, hb⟩; refine ⟨_, rfl, ?_⟩; replace BK434 := kb BK434 hb; replace BK435 := kb BK435 hb; replace HB := hs_ HB hb; (try clear hb hb2 hk hi); have ⟨z50_0, z50_1, z50_2, z50_3, z50_4, z50_5, z50_6, z50_7, z50_8, v50_0, v50_1, v50_2, v50_3, v50_4, v50_5, v50_6, v50_7, v50_8⟩ := rz9 BK434; have ⟨z51_0, z51_1, z51_2, z51_3, z51_4, z51_5, z51_6, z51_7, z51_8, v51_0, v51_1, v51_2, v51_3, v51_4, v51_5, v51_6, v51_7, v51_8⟩ := rz9 BK435) | ((with_reducible refine gate_callee (f := 66) rfl ?_); refine gl (some 21) Try.func66 #[.slice A0_6 l0_6.length c0_6, .slice A1_6 l1_6.length c1_6] ?_; (with_reducible refine (laws_eqGameS.calls k _ _ l0_6 _ _ l1_6 true _ ?side1 ?side2 ?side3 ?side4 A7.out).mono ?_); (case side1 => exact cc HR0_6 HB); (case side2 => exact HC0_6.out); (case side3 => exact cc HR1_6 HB); (case side4 => exact HC1_6.out); rintro e w52 ⟨rfl, hb⟩; refine ⟨_, rfl, ?_⟩; replace BK434 := kb BK434 hb; replace BK435 := kb BK435 hb; replace HB := hs_ HB hb; (try clear hb hb2 hk hi); have ⟨z53_0, z53_1, z53_2, z53_3, z53_4, z53_5, z53_6, z53_7, z53_8, v53_0, v53_1, v53_2, v53_3, v53_4, v53_5, v53_6, v53_7, v53_8⟩ := rz9 BK434; have ⟨z54_0, z54_1, z54_2, z54_3, z54_4, z54_5, z54_6, z54_7, z54_8, v54_0, v54_1, v54_2, v54_3, v54_4, v54_5, v54_6, v54_7, v54_8⟩ := rz9 BK435) | ((with_reducible refine gate_callee (f := 28) rfl ?_); refine gl (some 27) Try.func28 #[.slice A0_7 l0_7.length c0_7, .slice A1_7 l1_7.length c1_7] ?_; (with_reducible refine (laws_eqIntS.calls k _ _ l0_7 _ _ l1_7 false _ ?side1 ?side2 ?side3 ?side4 A9.out).mono ?_); (case side1 => exact cc HR0_7 HB); (case side2 => exact HC0_7.out); (case side3 => exact cc HR1_7 HB); (case side4 => exact HC1_7.out); rintro e w' ⟨rfl, ⟨nd, rfl⟩⟩; refine ⟨_, rfl, ?_⟩))
     go_ret
     exact ⟨ee, bb HB⟩
   ·replace c8 := Bool.eq_false_iff.mpr c8
    subst c8
    rw [if_neg (show ¬ (false = true) by decide)] at H
    obtain rfl := Option.some.inj H
    go_enter Try.func16, Try.ntmps16
    go_wp2_with (first | ((with_reducible refine gate_dst (N := 2) rfl ?_); refine bx (N := 2) (cs := #[.slice A0_0 l0_0.length c0_0, .int .i64 a0_1, .int .i64 a0_2, .int .i64 a0_3, .slice A0_4 l0_4.length c0_4, .bool a0_5, .slice A0_6 l0_6.length c0_6, .slice A0_7 l0_7.length c0_7, .slice A0_8 l0_8.length c0_8]) (t := 36) ?_; intro gb434 hg w55 hbox hb; have BK434 := dk (hbox); have GW434 := gs hg HB; have GE434 := gs hg HB; replace HB := hs_ HB hb; clear hb hbox hg) | ((with_reducible refine gate_dst (N := 3) rfl ?_); refine bx (N := 3) (cs := #[.slice A1_0 l1_0.length c1_0, .int .i64 a1_1, .int .i64 a1_2, .int .i64 a1_3, .slice A1_4 l1_4.length c1_4, .bool a1_5, .slice A1_6 l1_6.length c1_6, .slice A1_7 l1_7.length c1_7, .slice A1_8 l1_8.length c1_8]) (t := 36) ?_; intro gb435 hg w56 hbox hb; have BK435 := dk (hbox); have GW435 := gs hg HB; have GE435 := gs hg HB; replace HB := hs_ HB hb; have NB434_435 := gn hg BK434; have NB435_434 := gm hg BK434; replace BK434 := kb BK434 hb; clear hb hbox hg; have hnb57 := NB434_435.out; have hnc57 := NB435_434.out; have ⟨z58_0, z58_1, z58_2, z58_3, z58_4, z58_5, z58_6, z58_7, z58_8, v58_0, v58_1, v58_2, v58_3, v58_4, v58_5, v58_6, v58_7, v58_8⟩ := rz9 BK434; have ⟨z59_0, z59_1, z59_2, z59_3, z59_4, z59_5, z59_6, z59_7, z59_8, v59_0, v59_1, v59_2, v59_3, v59_4, v59_5, v59_6, v59_7, v59_8⟩ := rz9 BK435) | ((with_reducible refine gate_callee (f := 50) rfl ?_); refine gl (some 9) Try.func50 #[.slice A0_0 l0_0.length c0_0, .slice A1_0 l1_0.length c1_0] ?_; (with_reducible refine (laws_eqTeamS.calls k _ _ l0_0 _ _ l1_0 true _ ?side1 ?side2 ?side3 ?side4 A3.out).mono ?_); (case side1 => exact cc HR0_0 HB); (case side2 => exact HC0_0.out); (case side3 => exact cc HR1_0 HB); (case side4 => exact HC1_0.out); rintro e w60 ⟨rfl, hb⟩; refine ⟨_, rfl, ?_⟩; replace BK434 := kb BK434 hb; replace BK435 := kb BK435 hb; replace HB := hs_ HB hb; (try clear hb hb2 hk hi); have ⟨z61_0, z61_1, z61_2, z61_3, z61_4, z61_5, z61_6, z61_7, z61_8, v61_0, v61_1, v61_2, v61_3, v61_4, v61_5, v61_6, v61_7, v61_8⟩ := rz9 BK434; have ⟨z62_0, z62_1, z62_2, z62_3, z62_4, z62_5, z62_6, z62_7, z62_8, v62_0, v62_1, v62_2, v62_3, v62_4, v62_5, v62_6, v62_7, v62_8⟩ := rz9 BK435) | ((with_reducible refine gate_callee (f := 65) rfl ?_); refine gl (some 15) Try.func65 #[.agg #[.int .i64 a0_1, .int .i64 a0_2, .int .i64 a0_3, .slice A0_4 l0_4.length c0_4, .bool a0_5], .agg #[.int .i64 a1_1, .int .i64 a1_2, .int .i64 a1_3, .slice A1_4 l1_4.length c1_4, .bool a1_5]] ?_; (with_reducible refine (laws_eqRules.calls k a0_1 a0_2 a0_3 _ _ l0_4 a0_5 a1_1 a1_2 a1_3 _ _ l1_4 a1_5 true _ ?side1 ?side2 ?side3 ?side4 A5.out).mono ?_); (case side1 => exact cc HR0_4 HB); (case side2 => exact HC0_4.out); (case side3 => exact cc HR1_4 HB); (case side4 => exact HC1_4.out); rintro e w63 ⟨rfl, hb⟩; refine ⟨_, rfl, ?_⟩; replace BK434 := kb BK434 hb; replace BK435 := kb BK435 hb; replace HB := hs_ HB hb; (try clear hb hb2 hk hi); have ⟨z64_0, z64_1, z64_2, z64_3, z64_4, z64_5, z64_6, z64_7, z64_8, v64_0, v64_1, v64_2, v64_3, v64_4, v64_5, v64_6, v64_7, v64_8⟩ := rz9 BK434; have ⟨z65_0, z65_1, z65_2, z65_3, z65_4, z65_5, z65_6, z65_7, z65_8, v65_0, v65_1, v65_2, v65_3, v65_4, v65_5, v65_6, v65_7, v65_8⟩ := rz9 BK435) | ((with_reducible refine gate_callee (f := 66) rfl ?_); refine gl (some 21) Try.func66 #[.slice A0_6 l0_6.length c0_6, .slice A1_6 l1_6.length c1_6] ?_; (with_reducible refine (laws_eqGameS.calls k _ _ l0_6 _ _ l1_6 false _ ?side1 ?side2 ?side3 ?side4 A7.out).mono ?_); (case side1 => exact cc HR0_6 HB); (case side2 => exact HC0_6.out); (case side3 => exact cc HR1_6 HB); (case side4 => exact HC1_6.out); rintro e w66 ⟨rfl, hb⟩; refine ⟨_, rfl, ?_⟩; replace BK434 := kb BK434 hb; replace BK435 := kb BK435 hb; replace HB := hs_ HB hb; (try clear hb hb2 hk hi)))
    go_ret
    exact ⟨ee, bb HB⟩
  ·replace c6 := Bool.eq_false_iff.mpr c6
   subst c6
   rw [if_neg (show ¬ (false = true) by decide)] at H
   obtain rfl := Option.some.inj H
   go_enter Try.func16, Try.ntmps16
   go_wp2_with (first | ((with_reducible refine gate_dst (N := 2) rfl ?_); refine bx (N := 2) (cs := #[.slice A0_0 l0_0.length c0_0, .int .i64 a0_1, .int .i64 a0_2, .int .i64 a0_3, .slice A0_4 l0_4.length c0_4, .bool a0_5, .slice A0_6 l0_6.length c0_6, .slice A0_7 l0_7.length c0_7, .slice A0_8 l0_8.length c0_8]) (t := 36) ?_; intro gb434 hg w67 hbox hb; have BK434 := dk (hbox); have GW434 := gs hg HB; have GE434 := gs hg HB; replace HB := hs_ HB hb; clear hb hbox hg) | ((with_reducible refine gate_dst (N := 3) rfl ?_); refine bx (N := 3) (cs := #[.slice A1_0 l1_0.length c1_0, .int .i64 a1_1, .int .i64 a1_2, .int .i64 a1_3, .slice A1_4 l1_4.length c1_4, .bool a1_5, .slice A1_6 l1_6.length c1_6, .slice A1_7 l1_7.length c1_7, .slice A1_8 l1_8.length c1_8]) (t := 36) ?_; intro gb435 hg w68 hbox hb; have BK435 := dk (hbox); have GW435 := gs hg HB; have GE435 := gs hg HB; replace HB := hs_ HB hb; have NB434_435 := gn hg BK434; have NB435_434 := gm hg BK434; replace BK434 := kb BK434 hb; clear hb hbox hg; have hnb69 := NB434_435.out; have hnc69 := NB435_434.out; have ⟨z70_0, z70_1, z70_2, z70_3, z70_4, z70_5, z70_6, z70_7, z70_8, v70_0, v70_1, v70_2, v70_3, v70_4, v70_5, v70_6, v70_7, v70_8⟩ := rz9 BK434; have ⟨z71_0, z71_1, z71_2, z71_3, z71_4, z71_5, z71_6, z71_7, z71_8, v71_0, v71_1, v71_2, v71_3, v71_4, v71_5, v71_6, v71_7, v71_8⟩ := rz9 BK435) | ((with_reducible refine gate_callee (f := 50) rfl ?_); refine gl (some 9) Try.func50 #[.slice A0_0 l0_0.length c0_0, .slice A1_0 l1_0.length c1_0] ?_; (with_reducible refine (laws_eqTeamS.calls k _ _ l0_0 _ _ l1_0 true _ ?side1 ?side2 ?side3 ?side4 A3.out).mono ?_); (case side1 => exact cc HR0_0 HB); (case side2 => exact HC0_0.out); (case side3 => exact cc HR1_0 HB); (case side4 => exact HC1_0.out); rintro e w72 ⟨rfl, hb⟩; refine ⟨_, rfl, ?_⟩; replace BK434 := kb BK434 hb; replace BK435 := kb BK435 hb; replace HB := hs_ HB hb; (try clear hb hb2 hk hi); have ⟨z73_0, z73_1, z73_2, z73_3, z73_4, z73_5, z73_6, z73_7, z73_8, v73_0, v73_1, v73_2, v73_3, v73_4, v73_5, v73_6, v73_7, v73_8⟩ := rz9 BK434; have ⟨z74_0, z74_1, z74_2, z74_3, z74_4, z74_5, z74_6, z74_7, z74_8, v74_0, v74_1, v74_2, v74_3, v74_4, v74_5, v74_6, v74_7, v74_8⟩ := rz9 BK435) | ((with_reducible refine gate_callee (f := 65) rfl ?_); refine gl (some 15) Try.func65 #[.agg #[.int .i64 a0_1, .int .i64 a0_2, .int .i64 a0_3, .slice A0_4 l0_4.length c0_4, .bool a0_5], .agg #[.int .i64 a1_1, .int .i64 a1_2, .int .i64 a1_3, .slice A1_4 l1_4.length c1_4, .bool a1_5]] ?_; (with_reducible refine (laws_eqRules.calls k a0_1 a0_2 a0_3 _ _ l0_4 a0_5 a1_1 a1_2 a1_3 _ _ l1_4 a1_5 false _ ?side1 ?side2 ?side3 ?side4 A5.out).mono ?_); (case side1 => exact cc HR0_4 HB); (case side2 => exact HC0_4.out); (case side3 => exact cc HR1_4 HB); (case side4 => exact HC1_4.out); rintro e w75 ⟨rfl, hb⟩; refine ⟨_, rfl, ?_⟩; replace BK434 := kb BK434 hb; replace BK435 := kb BK435 hb; replace HB := hs_ HB hb; (try clear hb hb2 hk hi)))
   go_ret
   exact ⟨ee, bb HB⟩
 ·replace c4 := Bool.eq_false_iff.mpr c4
  subst c4
  rw [if_neg (show ¬ (false = true) by decide)] at H
  obtain rfl := Option.some.inj H
  go_enter Try.func16, Try.ntmps16
  go_wp2_with (first | ((with_reducible refine gate_dst (N := 2) rfl ?_); refine bx (N := 2) (cs := #[.slice A0_0 l0_0.length c0_0, .int .i64 a0_1, .int .i64 a0_2, .int .i64 a0_3, .slice A0_4 l0_4.length c0_4, .bool a0_5, .slice A0_6 l0_6.length c0_6, .slice A0_7 l0_7.length c0_7, .slice A0_8 l0_8.length c0_8]) (t := 36) ?_; intro gb434 hg w76 hbox hb; have BK434 := dk (hbox); have GW434 := gs hg HB; have GE434 := gs hg HB; replace HB := hs_ HB hb; clear hb hbox hg) | ((with_reducible refine gate_dst (N := 3) rfl ?_); refine bx (N := 3) (cs := #[.slice A1_0 l1_0.length c1_0, .int .i64 a1_1, .int .i64 a1_2, .int .i64 a1_3, .slice A1_4 l1_4.length c1_4, .bool a1_5, .slice A1_6 l1_6.length c1_6, .slice A1_7 l1_7.length c1_7, .slice A1_8 l1_8.length c1_8]) (t := 36) ?_; intro gb435 hg w77 hbox hb; have BK435 := dk (hbox); have GW435 := gs hg HB; have GE435 := gs hg HB; replace HB := hs_ HB hb; have NB434_435 := gn hg BK434; have NB435_434 := gm hg BK434; replace BK434 := kb BK434 hb; clear hb hbox hg; have hnb78 := NB434_435.out; have hnc78 := NB435_434.out; have ⟨z79_0, z79_1, z79_2, z79_3, z79_4, z79_5, z79_6, z79_7, z79_8, v79_0, v79_1, v79_2, v79_3, v79_4, v79_5, v79_6, v79_7, v79_8⟩ := rz9 BK434; have ⟨z80_0, z80_1, z80_2, z80_3, z80_4, z80_5, z80_6, z80_7, z80_8, v80_0, v80_1, v80_2, v80_3, v80_4, v80_5, v80_6, v80_7, v80_8⟩ := rz9 BK435) | ((with_reducible refine gate_callee (f := 50) rfl ?_); refine gl (some 9) Try.func50 #[.slice A0_0 l0_0.length c0_0, .slice A1_0 l1_0.length c1_0] ?_; (with_reducible refine (laws_eqTeamS.calls k _ _ l0_0 _ _ l1_0 false _ ?side1 ?side2 ?side3 ?side4 A3.out).mono ?_); (case side1 => exact cc HR0_0 HB); (case side2 => exact HC0_0.out); (case side3 => exact cc HR1_0 HB); (case side4 => exact HC1_0.out); rintro e w81 ⟨rfl, hb⟩; refine ⟨_, rfl, ?_⟩; replace BK434 := kb BK434 hb; replace BK435 := kb BK435 hb; replace HB := hs_ HB hb; (try clear hb hb2 hk hi)))
  go_ret
  exact ⟨ee, bb HB⟩
def laws_eqProtest.f (a0_0 : Int) (a0_1 : Int) (a0_2 : Bool) (a1_0 : Int) (a1_1 : Int) (a1_2 : Bool) : Option (Bool) := if a0_0 = a1_0 then (if a0_1 = a1_1 then (if (a0_2 != a1_2) = true then (some false) else (some true)) else (some false)) else (some false)
theorem laws_eqProtest.calls (a0_0 : Int) (a0_1 : Int) (a0_2 : Bool) (a1_0 : Int) (a1_1 : Int) (a1_2 : Bool) (r : Bool) (w : World) (h : laws_eqProtest.f a0_0 a0_1 a0_2 a1_0 a1_1 a1_2 = some r) :
  Calls Try.prog 67 #[.agg #[.int .i64 a0_0, .int .i64 a0_1, .bool a0_2], .agg #[.int .i64 a1_0, .int .i64 a1_1, .bool a1_2]] w fun e w' => e = .returned (.bool r) ∧ Below w.heap.size w w' := by
 have hu50 := Try.underlying50
 have HB := dk (Below.refl w.heap.size w)
 have H : (if a0_0 = a1_0 then (if a0_1 = a1_1 then (if (a0_2 != a1_2) = true then (some false) else (some true)) else (some false)) else (some false)) = some r := h
 clear h
 by_cases c3 : a0_0 = a1_0
 ·rw [if_pos c3] at H
  have c3b0 : (a0_0 == a1_0) = true := beq_iff_eq.mpr c3
  have c3b1 : (a0_0 != a1_0) = false := bne_eq_false_iff_eq.mpr c3
  clear c3
  by_cases c4 : a0_1 = a1_1
  ·rw [if_pos c4] at H
   have c4b0 : (a0_1 == a1_1) = true := beq_iff_eq.mpr c4
   have c4b1 : (a0_1 != a1_1) = false := bne_eq_false_iff_eq.mpr c4
   clear c4
   by_cases c5 : (a0_2 != a1_2) = true
   ·rw [if_pos c5] at H
    have c5b0 : (a0_2 != a1_2) = true := c5
    (try (have c5b1 : decide (a0_2 = a1_2) = false := by simpa using c5))
    (try (have c5b2 : (a0_2 == a1_2) = false := by simpa using c5))
    (try (have c5b3 : ¬ (a0_2 = a1_2) := by simpa using c5))
    clear c5
    obtain rfl := Option.some.inj H
    go_enter Try.func67, Try.ntmps67
    go_wp2_with (first | ((with_reducible refine gate_dst (N := 2) rfl ?_); refine bx (N := 2) (cs := #[.int .i64 a0_0, .int .i64 a0_1, .bool a0_2]) (t := 50) ?_; intro gb441 hg w6 hbox hb; have BK441 := dk (hbox); have GW441 := gs hg HB; have GE441 := gs hg HB; replace HB := hs_ HB hb; clear hb hbox hg) | ((with_reducible refine gate_dst (N := 3) rfl ?_); refine bx (N := 3) (cs := #[.int .i64 a1_0, .int .i64 a1_1, .bool a1_2]) (t := 50) ?_; intro gb442 hg w7 hbox hb; have BK442 := dk (hbox); have GW442 := gs hg HB; have GE442 := gs hg HB; replace HB := hs_ HB hb; have NB441_442 := gn hg BK441; have NB442_441 := gm hg BK441; replace BK441 := kb BK441 hb; clear hb hbox hg; have hnb8 := NB441_442.out; have hnc8 := NB442_441.out; have ⟨z9_0, z9_1, z9_2, v9_0, v9_1, v9_2⟩ := rz3 BK441; have ⟨z10_0, z10_1, z10_2, v10_0, v10_1, v10_2⟩ := rz3 BK442))
    go_ret
    exact ⟨ee, bb HB⟩
   ·rw [if_neg c5] at H
    have c5b0 : (a0_2 != a1_2) = false := by simpa using c5
    (try (have c5b1 : decide (a0_2 = a1_2) = true := by simpa using c5))
    (try (have c5b2 : (a0_2 == a1_2) = true := by simpa using c5))
    clear c5
    obtain rfl := Option.some.inj H
    go_enter Try.func67, Try.ntmps67
    go_wp2_with (first | ((with_reducible refine gate_dst (N := 2) rfl ?_); refine bx (N := 2) (cs := #[.int .i64 a0_0, .int .i64 a0_1, .bool a0_2]) (t := 50) ?_; intro gb441 hg w11 hbox hb; have BK441 := dk (hbox); have GW441 := gs hg HB; have GE441 := gs hg HB; replace HB := hs_ HB hb; clear hb hbox hg) | ((with_reducible refine gate_dst (N := 3) rfl ?_); refine bx (N := 3) (cs := #[.int .i64 a1_0, .int .i64 a1_1, .bool a1_2]) (t := 50) ?_; intro gb442 hg w12 hbox hb; have BK442 := dk (hbox); have GW442 := gs hg HB; have GE442 := gs hg HB; replace HB := hs_ HB hb; have NB441_442 := gn hg BK441; have NB442_441 := gm hg BK441; replace BK441 := kb BK441 hb; clear hb hbox hg; have hnb13 := NB441_442.out; have hnc13 := NB442_441.out; have ⟨z14_0, z14_1, z14_2, v14_0, v14_1, v14_2⟩ := rz3 BK441; have ⟨z15_0, z15_1, z15_2, v15_0, v15_1, v15_2⟩ := rz3 BK442))
    go_ret
    exact ⟨ee, bb HB⟩
  ·rw [if_neg c4] at H
   have c4b0 : (a0_1 == a1_1) = false := beq_eq_false_iff_ne.mpr c4
   have c4b1 : (a0_1 != a1_1) = true := bne_iff_ne.mpr c4
   obtain rfl := Option.some.inj H
   go_enter Try.func67, Try.ntmps67
   go_wp2_with (first | ((with_reducible refine gate_dst (N := 2) rfl ?_); refine bx (N := 2) (cs := #[.int .i64 a0_0, .int .i64 a0_1, .bool a0_2]) (t := 50) ?_; intro gb441 hg w16 hbox hb; have BK441 := dk (hbox); have GW441 := gs hg HB; have GE441 := gs hg HB; replace HB := hs_ HB hb; clear hb hbox hg) | ((with_reducible refine gate_dst (N := 3) rfl ?_); refine bx (N := 3) (cs := #[.int .i64 a1_0, .int .i64 a1_1, .bool a1_2]) (t := 50) ?_; intro gb442 hg w17 hbox hb; have BK442 := dk (hbox); have GW442 := gs hg HB; have GE442 := gs hg HB; replace HB := hs_ HB hb; have NB441_442 := gn hg BK441; have NB442_441 := gm hg BK441; replace BK441 := kb BK441 hb; clear hb hbox hg; have hnb18 := NB441_442.out; have hnc18 := NB442_441.out; have ⟨z19_0, z19_1, z19_2, v19_0, v19_1, v19_2⟩ := rz3 BK441; have ⟨z20_0, z20_1, z20_2, v20_0, v20_1, v20_2⟩ := rz3 BK442))
   go_ret
   exact ⟨ee, bb HB⟩
 ·rw [if_neg c3] at H
  have c3b0 : (a0_0 == a1_0) = false := beq_eq_false_iff_ne.mpr c3
  have c3b1 : (a0_0 != a1_0) = true := bne_iff_ne.mpr c3
  obtain rfl := Option.some.inj H
  go_enter Try.func67, Try.ntmps67
  go_wp2_with (first | ((with_reducible refine gate_dst (N := 2) rfl ?_); refine bx (N := 2) (cs := #[.int .i64 a0_0, .int .i64 a0_1, .bool a0_2]) (t := 50) ?_; intro gb441 hg w21 hbox hb; have BK441 := dk (hbox); have GW441 := gs hg HB; have GE441 := gs hg HB; replace HB := hs_ HB hb; clear hb hbox hg) | ((with_reducible refine gate_dst (N := 3) rfl ?_); refine bx (N := 3) (cs := #[.int .i64 a1_0, .int .i64 a1_1, .bool a1_2]) (t := 50) ?_; intro gb442 hg w22 hbox hb; have BK442 := dk (hbox); have GW442 := gs hg HB; have GE442 := gs hg HB; replace HB := hs_ HB hb; have NB441_442 := gn hg BK441; have NB442_441 := gm hg BK441; replace BK441 := kb BK441 hb; clear hb hbox hg; have hnb23 := NB441_442.out; have hnc23 := NB442_441.out; have ⟨z24_0, z24_1, z24_2, v24_0, v24_1, v24_2⟩ := rz3 BK441; have ⟨z25_0, z25_1, z25_2, v25_0, v25_1, v25_2⟩ := rz3 BK442))
  go_ret
  exact ⟨ee, bb HB⟩
def laws_eqProtestS.l0 : Nat → List (S50) → List (S50) → Int → Option (Bool)
 | 0, _, _, _ => none
 | k + 1, x0, x1, x5 => if x5 < (x0.length : Int) then (if 0 ≤ x5 then (if x5 < (x1.length : Int) then ((laws_eqProtest.f ((rd_T50 x0 x5).f0) ((rd_T50 x0 x5).f1) ((rd_T50 x0 x5).f2) ((rd_T50 x1 x5).f0) ((rd_T50 x1 x5).f1) ((rd_T50 x1 x5).f2)).bind fun t445 => (if t445 = true then (laws_eqProtestS.l0 k x0 x1 (wrap64 (x5 + 1))) else (some false))) else (none)) else (none)) else (some true)
def laws_eqProtestS.f (k : Nat) (l0 : List (S50)) (l1 : List (S50)) : Option (Bool) := if (l0.length : Int) = (l1.length : Int) then (laws_eqProtestS.l0 k l0 l1 0) else (some false)
def laws_eqProtestS.T6 : Bool × List (List Nat × List Nat) := (true, [([], []), ([], []), ([0, 1], [0, 1]), ([2], [2]), ([], []), ([], []), ([4, 5], [4, 5]), ([6], [6]), ([3, 7], [3, 7]), ([8], [8])])
def laws_eqProtestS.B6 : List Nat := [0, 0, 3, 7, 0, 0, 48, 112, 255, 511]
theorem laws_eqProtestS.tab6 : rtab .any (opsOf Try.f17 6) = laws_eqProtestS.T6 := by kernel_rfl
theorem laws_eqProtestS.bits6 : waitsOk laws_eqProtestS.T6.2 laws_eqProtestS.B6 = true := by kernel_rfl
theorem laws_eqProtestS.calls (k : Nat) (A0 : Option Addr) (c0 : Nat) (l0 : List (S50)) (A1 : Option Addr) (c1 : Nat) (l1 : List (S50)) (r : Bool) (w : World) (hr0 : Kd.C k50 w A0 l0.length l0) (hc0 : l0.length ≤ c0) (hr1 : Kd.C k50 w A1 l1.length l1) (hc1 : l1.length ≤ c1) (h : laws_eqProtestS.f k l0 l1 = some r) :
  Calls Try.prog 17 #[.slice A0 l0.length c0, .slice A1 l1.length c1] w fun e w' => e = .returned (.bool r) ∧ Below w.heap.size w w' := by
 have hu50 := Try.underlying50
 have HR0 := dk hr0
 have HC0 := dk hc0
 clear hr0 hc0
 have HR1 := dk hr1
 have HC1 := dk hc1
 clear hr1 hc1
 have HB := dk (Below.refl w.heap.size w)
 have H : (if (l0.length : Int) = (l1.length : Int) then (laws_eqProtestS.l0 k l0 l1 0) else (some false)) = some r := h
 clear h
 by_cases c3 : (l0.length : Int) = (l1.length : Int)
 ·rw [if_pos c3] at H
  have c3b0 : ((l0.length : Int) == (l1.length : Int)) = true := beq_iff_eq.mpr c3
  have c3b1 : ((l0.length : Int) != (l1.length : Int)) = false := bne_eq_false_iff_eq.mpr c3
  have c3b2 : (l0.length == l1.length) = true := by first | simpa using c3 | (simp at c3 ⊢; omega)
  clear c3
  have H' := dk H
  clear H
  go_enter Try.func17, Try.ntmps17
  go_wp2
  go_loopg [5] k (fun kq v5 w' => ∃ (x5_1 : Int), v5 = .int .i64 x5_1 ∧ Aside0 (laws_eqProtestS.l0 kq l0 l1 x5_1 = some r) ∧ Aside0 (kq ≤ k) ∧ Aside0 (Below w.heap.size w w'))
  case atStart => exact ⟨(0), e2_, H', ⟨Nat.le_refl _⟩, ⟨bb HB⟩⟩
  case round =>
   clear H'
   (try clear c1)
   (try clear p2)
   (try clear c3)
   (try clear c3b0)
   (try clear c3b1)
   (try clear c3b2)
   obtain ⟨x5_1, rfl, HA, HK1, HB⟩ := hrel
   cases gk with
   | zero => exact absurd HA.out (by simp [laws_eqProtestS.l0])
   | succ k1 =>
    have H := HA.out
    clear HA
    simp only [laws_eqProtestS.l0] at H
    by_cases c4 : x5_1 < (l0.length : Int)
    ·rw [if_pos c4] at H
     have c4b0 : decide (x5_1 < (l0.length : Int)) = true := decide_eq_true c4
     clear c4
     by_cases c5 : 0 ≤ x5_1
     ·rw [if_pos c5] at H
      have c5b0 : decide (0 ≤ x5_1) = true := decide_eq_true c5
      clear c5
      by_cases c6 : x5_1 < (l1.length : Int)
      ·rw [if_pos c6] at H
       have c6b0 : decide (x5_1 < (l1.length : Int)) = true := decide_eq_true c6
       clear c6
       replace H := Option.bind_eq_some_iff.mp H
       obtain ⟨t445, A70, H⟩ := H
       try dsimp only at H
       have A7 := dk A70
       clear A70
       by_cases c8 : t445 = true
       ·subst c8
        rw [if_pos rfl] at H
        have H' := dk H
        clear H
        try go_wp2
        replace HB := dk (below_drew1 HB.out)
        have p443 : 0 ≤ (x5_1 : Int) := oa
        have q443 : x5_1 < (l0.length : Int) := oa
        obtain ⟨ad443, e443, hx443_0, hx443_1, hx443_2⟩ := at_T50 HR0.out x5_1 p443 q443
        have hw443_2 := hx443_2
        have hw443_1 := hx443_1
        have hw443_0 := hx443_0
        cases e443
        replace hx443_0 := hc HB hx443_0
        replace hx443_1 := hc HB hx443_1
        replace hx443_2 := hc HB hx443_2
        replace p443 := eq_true p443
        replace q443 := eq_true q443
        have p444 : 0 ≤ (x5_1 : Int) := oa
        have q444 : x5_1 < (l1.length : Int) := oa
        obtain ⟨ad444, e444, hx444_0, hx444_1, hx444_2⟩ := at_T50 HR1.out x5_1 p444 q444
        have hw444_2 := hx444_2
        have hw444_1 := hx444_1
        have hw444_0 := hx444_0
        cases e444
        replace hx444_0 := hc HB hx444_0
        replace hx444_1 := hc HB hx444_1
        replace hx444_2 := hc HB hx444_2
        replace p444 := eq_true p444
        replace q444 := eq_true q444
        refine start_ (n := 10) (S := fun w' => w'.cell? (ad443.add ((x5_1).toNat * 3)) = some (.int .i64 ((rd_T50 l0 x5_1).f0)) ∧ w'.cell? ⟨(ad443.add ((x5_1).toNat * 3)).block, (ad443.add ((x5_1).toNat * 3)).off + 1, none⟩ = some (.int .i64 ((rd_T50 l0 x5_1).f1)) ∧ w'.cell? ⟨(ad443.add ((x5_1).toNat * 3)).block, (ad443.add ((x5_1).toNat * 3)).off + 2, none⟩ = some (.bool ((rd_T50 l0 x5_1).f2)) ∧ w'.cell? (ad444.add ((x5_1).toNat * 3)) = some (.int .i64 ((rd_T50 l1 x5_1).f0)) ∧ w'.cell? ⟨(ad444.add ((x5_1).toNat * 3)).block, (ad444.add ((x5_1).toNat * 3)).off + 1, none⟩ = some (.int .i64 ((rd_T50 l1 x5_1).f1)) ∧ w'.cell? ⟨(ad444.add ((x5_1).toNat * 3)).block, (ad444.add ((x5_1).toNat * 3)).off + 2, none⟩ = some (.bool ((rd_T50 l1 x5_1).f2))) (ds := []) #[false, false, false, false, false, false, false, false, false, false] (by kernel_rfl) rfl rfl ⟨(hc HB hw443_0), (hc HB hw443_1), (hc HB hw443_2), (hc HB hw444_0), (hc HB hw444_1), (hc HB hw444_2)⟩ (fun hHeld => ?_); refine with_tabW laws_eqProtestS.tab6 laws_eqProtestS.bits6 (fun HT_ HW_ => ?_)
        generalize wr.drew = w9 at HB hx443_0 hx443_1 hx443_2 hx444_0 hx444_1 hx444_2 hHeld ⊢
        refine pz_ 0 17 ?_
        refine pz_ 1 18 ?_
        refine pz_ 2 19 ?_
        refine pz_ 4 21 ?_
        refine pz_ 5 22 ?_
        refine pz_ 6 23 ?_
        refine take_ (i := 3) (N := some 20) (v := ?_) (a' := ?_) #[true, true, true, true, true, true, true, false, false, false] rfl rfl (take_ofW HT_.out HW_.out (by kernel_rfl)) (fun _ _ _ h => h) (Or.inl ⟨by rfl, ?_⟩) hHeld ?_ ?_
        rotate_left
        ·rintro w' ⟨s0, s1, s2, s3, s4, s5⟩
         go_simp
         with_reducible rfl
        rotate_left
        ·simp only [Act.put, List.setIfInBounds_toArray, List.set_cons_zero, List.set_cons_succ, i64_w, i32_w]
         rfl
        refine take_ (i := 7) (N := some 24) (v := ?_) (a' := ?_) #[true, true, true, true, true, true, true, true, false, false] rfl rfl (take_ofW HT_.out HW_.out (by kernel_rfl)) (fun _ _ _ h => h) (Or.inl ⟨by rfl, ?_⟩) hHeld ?_ ?_
        rotate_left
        ·rintro w' ⟨s0, s1, s2, s3, s4, s5⟩
         go_simp
         with_reducible rfl
        rotate_left
        ·simp only [Act.put, List.setIfInBounds_toArray, List.set_cons_zero, List.set_cons_succ, i64_w, i32_w]
         rfl
        refine one_ (i := 8) (N := some 25) #[true, true, true, true, true, true, true, true, true, false] rfl rfl (one_of HT_.out (by kernel_rfl)) (by decide) (fun K hK => ?_)
        refine goes_ Try.func67 (by kernel_rfl) rfl #[.agg #[.int .i64 ((rd_T50 l0 x5_1).f0), .int .i64 ((rd_T50 l0 x5_1).f1), .bool ((rd_T50 l0 x5_1).f2)], .agg #[.int .i64 ((rd_T50 l1 x5_1).f0), .int .i64 ((rd_T50 l1 x5_1).f1), .bool ((rd_T50 l1 x5_1).f2)]] (by rfl) rfl rfl (by (try simp only [List.map_toArray, List.map_cons, List.map_nil]); first | done | rfl | (simp only [List.length_drop, List.length_take]; rfl)) ?_
        with_reducible refine (laws_eqProtest.calls ((rd_T50 l0 x5_1).f0) ((rd_T50 l0 x5_1).f1) ((rd_T50 l0 x5_1).f2) ((rd_T50 l1 x5_1).f0) ((rd_T50 l1 x5_1).f1) ((rd_T50 l1 x5_1).f2) true _ A7.out).mono ?_
        rintro e w10 ⟨rfl, hb⟩
        refine ⟨_, rfl, ?_⟩
        replace HB := hs_ HB hb
        (try clear hb hb2 hk hi)
        refine hK.out _ _ ⟨(hc HB hw443_0), (hc HB hw443_1), (hc HB hw443_2), (hc HB hw444_0), (hc HB hw444_1), (hc HB hw444_2)⟩ (fun hHeld => ?_)
        clear hK K
        refine norm_ (a' := ?_) ?_ ?_
        rotate_left
        ·show Act.put _ (some 25) _ = _
         simp only [Act.put, List.setIfInBounds_toArray, List.set_cons_zero, List.set_cons_succ, i64_w, i32_w]
         rfl
        refine pz_ 9 26 ?_
        refine done_ (done_of HT_.out (by kernel_rfl)) ?_
        try go_wp2
        go_roundg k1
        case measure => have := HK1.out; omega
        case rel => exact ⟨(wrap64 (x5_1 + 1)), e2_, H', ⟨by have := HK1.out; omega⟩, ⟨bb HB⟩⟩
       ·replace c8 := Bool.eq_false_iff.mpr c8
        subst c8
        rw [if_neg (show ¬ (false = true) by decide)] at H
        obtain rfl := Option.some.inj H
        try go_wp2
        replace HB := dk (below_drew1 HB.out)
        have p443 : 0 ≤ (x5_1 : Int) := oa
        have q443 : x5_1 < (l0.length : Int) := oa
        obtain ⟨ad443, e443, hx443_0, hx443_1, hx443_2⟩ := at_T50 HR0.out x5_1 p443 q443
        have hw443_2 := hx443_2
        have hw443_1 := hx443_1
        have hw443_0 := hx443_0
        cases e443
        replace hx443_0 := hc HB hx443_0
        replace hx443_1 := hc HB hx443_1
        replace hx443_2 := hc HB hx443_2
        replace p443 := eq_true p443
        replace q443 := eq_true q443
        have p444 : 0 ≤ (x5_1 : Int) := oa
        have q444 : x5_1 < (l1.length : Int) := oa
        obtain ⟨ad444, e444, hx444_0, hx444_1, hx444_2⟩ := at_T50 HR1.out x5_1 p444 q444
        have hw444_2 := hx444_2
        have hw444_1 := hx444_1
        have hw444_0 := hx444_0
        cases e444
        replace hx444_0 := hc HB hx444_0
        replace hx444_1 := hc HB hx444_1
        replace hx444_2 := hc HB hx444_2
        replace p444 := eq_true p444
        replace q444 := eq_true q444
        refine start_ (n := 10) (S := fun w' => w'.cell? (ad443.add ((x5_1).toNat * 3)) = some (.int .i64 ((rd_T50 l0 x5_1).f0)) ∧ w'.cell? ⟨(ad443.add ((x5_1).toNat * 3)).block, (ad443.add ((x5_1).toNat * 3)).off + 1, none⟩ = some (.int .i64 ((rd_T50 l0 x5_1).f1)) ∧ w'.cell? ⟨(ad443.add ((x5_1).toNat * 3)).block, (ad443.add ((x5_1).toNat * 3)).off + 2, none⟩ = some (.bool ((rd_T50 l0 x5_1).f2)) ∧ w'.cell? (ad444.add ((x5_1).toNat * 3)) = some (.int .i64 ((rd_T50 l1 x5_1).f0)) ∧ w'.cell? ⟨(ad444.add ((x5_1).toNat * 3)).block, (ad444.add ((x5_1).toNat * 3)).off + 1, none⟩ = some (.int .i64 ((rd_T50 l1 x5_1).f1)) ∧ w'.cell? ⟨(ad444.add ((x5_1).toNat * 3)).block, (ad444.add ((x5_1).toNat * 3)).off + 2, none⟩ = some (.bool ((rd_T50 l1 x5_1).f2))) (ds := []) #[false, false, false, false, false, false, false, false, false, false] (by kernel_rfl) rfl rfl ⟨(hc HB hw443_0), (hc HB hw443_1), (hc HB hw443_2), (hc HB hw444_0), (hc HB hw444_1), (hc HB hw444_2)⟩ (fun hHeld => ?_); refine with_tabW laws_eqProtestS.tab6 laws_eqProtestS.bits6 (fun HT_ HW_ => ?_)
        generalize wr.drew = w11 at HB hx443_0 hx443_1 hx443_2 hx444_0 hx444_1 hx444_2 hHeld ⊢
        refine pz_ 0 17 ?_
        refine pz_ 1 18 ?_
        refine pz_ 2 19 ?_
        refine pz_ 4 21 ?_
        refine pz_ 5 22 ?_
        refine pz_ 6 23 ?_
        refine take_ (i := 3) (N := some 20) (v := ?_) (a' := ?_) #[true, true, true, true, true, true, true, false, false, false] rfl rfl (take_ofW HT_.out HW_.out (by kernel_rfl)) (fun _ _ _ h => h) (Or.inl ⟨by rfl, ?_⟩) hHeld ?_ ?_
        rotate_left
        ·rintro w' ⟨s0, s1, s2, s3, s4, s5⟩
         go_simp
         with_reducible rfl
        rotate_left
        ·simp only [Act.put, List.setIfInBounds_toArray, List.set_cons_zero, List.set_cons_succ, i64_w, i32_w]
         rfl
        refine take_ (i := 7) (N := some 24) (v := ?_) (a' := ?_) #[true, true, true, true, true, true, true, true, false, false] rfl rfl (take_ofW HT_.out HW_.out (by kernel_rfl)) (fun _ _ _ h => h) (Or.inl ⟨by rfl, ?_⟩) hHeld ?_ ?_
        rotate_left
        ·rintro w' ⟨s0, s1, s2, s3, s4, s5⟩
         go_simp
         with_reducible rfl
        rotate_left
        ·simp only [Act.put, List.setIfInBounds_toArray, List.set_cons_zero, List.set_cons_succ, i64_w, i32_w]
         rfl
        refine one_ (i := 8) (N := some 25) #[true, true, true, true, true, true, true, true, true, false] rfl rfl (one_of HT_.out (by kernel_rfl)) (by decide) (fun K hK => ?_)
        refine goes_ Try.func67 (by kernel_rfl) rfl #[.agg #[.int .i64 ((rd_T50 l0 x5_1).f0), .int .i64 ((rd_T50 l0 x5_1).f1), .bool ((rd_T50 l0 x5_1).f2)], .agg #[.int .i64 ((rd_T50 l1 x5_1).f0), .int .i64 ((rd_T50 l1 x5_1).f1), .bool ((rd_T50 l1 x5_1).f2)]] (by rfl) rfl rfl (by (try simp only [List.map_toArray, List.map_cons, List.map_nil]); first | done | rfl | (simp only [List.length_drop, List.length_take]; rfl)) ?_
        with_reducible refine (laws_eqProtest.calls ((rd_T50 l0 x5_1).f0) ((rd_T50 l0 x5_1).f1) ((rd_T50 l0 x5_1).f2) ((rd_T50 l1 x5_1).f0) ((rd_T50 l1 x5_1).f1) ((rd_T50 l1 x5_1).f2) false _ A7.out).mono ?_
        rintro e w12 ⟨rfl, hb⟩
        refine ⟨_, rfl, ?_⟩
        replace HB := hs_ HB hb
        (try clear hb hb2 hk hi)
        refine hK.out _ _ ⟨(hc HB hw443_0), (hc HB hw443_1), (hc HB hw443_2), (hc HB hw444_0), (hc HB hw444_1), (hc HB hw444_2)⟩ (fun hHeld => ?_)
        clear hK K
        refine norm_ (a' := ?_) ?_ ?_
        rotate_left
        ·show Act.put _ (some 25) _ = _
         simp only [Act.put, List.setIfInBounds_toArray, List.set_cons_zero, List.set_cons_succ, i64_w, i32_w]
         rfl
        refine pz_ 9 26 ?_
        refine done_ (done_of HT_.out (by kernel_rfl)) ?_
        try go_wp2
        go_ret
        exact ⟨ee, bb HB⟩
      ·rw [if_neg c6] at H
       exact absurd H (by simp)
     ·rw [if_neg c5] at H
      exact absurd H (by simp)
    ·rw [if_neg c4] at H
     have c4b0 : decide (x5_1 < (l0.length : Int)) = false := decide_eq_false c4
     clear c4
     obtain rfl := Option.some.inj H
     go_wp2
     go_ret
     exact ⟨ee, bb HB⟩
 ·rw [if_neg c3] at H
  have c3b0 : ((l0.length : Int) == (l1.length : Int)) = false := beq_eq_false_iff_ne.mpr c3
  have c3b1 : ((l0.length : Int) != (l1.length : Int)) = true := bne_iff_ne.mpr c3
  have c3b2 : (l0.length == l1.length) = false := by first | simpa using c3 | (simp at c3 ⊢; omega)
  obtain rfl := Option.some.inj H
  go_enter Try.func17, Try.ntmps17
  go_wp2
  go_ret
  exact ⟨ee, bb HB⟩
def laws_markIntS.l0 : Nat → List Int → Int → Int → Option (Int × List Int)
 | 0, _, _, _ => none
 | k + 1, x0, x1, x5 => if x5 < (x0.length : Int) then (if 0 ≤ x5 then (laws_markIntS.l0 k (x0.set (x5 : Int).toNat x1) (wrap64 (x1 + 1)) (wrap64 (x5 + 1))) else (none)) else (some (x1, x0))
def laws_markIntS.f (k : Nat) (l0 : List Int) (a1 : Int) : Option (Int × List Int) := laws_markIntS.l0 k l0 a1 0
theorem laws_markIntS.calls (k : Nat) (P0_ : Nat → Prop) (u9000_ : Value) (l0 : List Int) (a1 : Int) (r1 : Int) (r2 : List Int) (w0 w : World) (hB : Below w0.heap.size w0 w) (ho0 : Kd.R (Kd.int .i64) 3 w w0.heap.size P0_ u9000_ l0) (h : laws_markIntS.f k l0 a1 = some (r1, r2)) :
  Calls Try.prog 29 #[u9000_, .int .i64 a1] w fun e w' => e = .returned (.int .i64 r1) ∧ Kd.R (Kd.int .i64) 3 w' w0.heap.size (fun k_ => (P0_ k_ ∨ w.heap.size ≤ k_)) u9000_ r2 ∧ Below w0.heap.size w0 w' ∧ Kept w w' (fun k_ => P0_ k_) := by
 have HO0 := dk (show Kd.R (Kd.int .i64) 3 w w0.heap.size (fun k_ => (P0_ k_ ∨ w.heap.size ≤ k_)) u9000_ l0 from Kd.R_mono ho0 (fun k_ hk => (.inl hk)))
 have HK := dk (Kept.refl w (fun k_ => P0_ k_))
 have HW0 := dk hB.size
 have HB := dk hB
 clear hB
 have H : (laws_markIntS.l0 k l0 a1 0) = some (r1, r2) := h
 clear h
 have H' := dk H
 clear H
 go_enter Try.func29, Try.ntmps29
 go_wp2
 go_loopg [1, 5] k (fun kq v1 v5 w' => ∃ (x0_1 : List Int) (x1_1 : Int) (x5_1 : Int), v1 = .int .i64 x1_1 ∧ v5 = .int .i64 x5_1 ∧ Aside0 (laws_markIntS.l0 kq x0_1 x1_1 x5_1 = some (r1, r2)) ∧ Aside0 (kq ≤ k) ∧ Aside0 (Kd.R (Kd.int .i64) 3 w' w0.heap.size (fun k_ => (P0_ k_ ∨ w.heap.size ≤ k_)) u9000_ x0_1) ∧ Aside0 (Kept w w' (fun k_ => P0_ k_)) ∧ Aside0 (Below w0.heap.size w0 w'))
 case atStart => exact ⟨(l0), (a1), (0), e2_, e2_, H', ⟨Nat.le_refl _⟩, ⟨rr HO0⟩, ⟨by repeat (first | (with_reducible first | exact HK.out | apply Kept.alloc | apply Kept.drewN | apply Kept.drew) | exact HK.out)⟩, ⟨bb HB⟩⟩
 case round =>
  clear H'
  (try clear c2)
  (try clear p2)
  obtain ⟨x0_1, x1_1, x5_1, rfl, rfl, HA, HK1, HO_0, HK, HB⟩ := hrel
  cases gk with
  | zero => exact absurd HA.out (by simp [laws_markIntS.l0])
  | succ k1 =>
   have H := HA.out
   clear HA
   simp only [laws_markIntS.l0] at H
   by_cases c3 : x5_1 < (x0_1.length : Int)
   ·rw [if_pos c3] at H
    have c3b0 : decide (x5_1 < (x0_1.length : Int)) = true := decide_eq_true c3
    clear c3
    by_cases c4 : 0 ≤ x5_1
    ·rw [if_pos c4] at H
     have c4b0 : decide (0 ≤ x5_1) = true := decide_eq_true c4
     clear c4
     obtain ⟨y446, hy446⟩ : ∃ y_ : List Int, y_ = (x0_1.set (x5_1 : Int).toNat x1_1) := ⟨_, rfl⟩
     replace H : (laws_markIntS.l0 k1 y446 (wrap64 (x1_1 + 1)) (wrap64 (x5_1 + 1))) = some (r1, r2) := by first | (rw [hy446]; with_reducible exact H) | (have H2_ := (Option.bind_some _ _).symm.trans H; rw [hy446]; with_reducible exact H2_) | (have H2_ := (Option.bind_some _ _).symm.trans H; with_reducible exact H2_) | with_reducible exact H | (rw [hy446]; exact H) | exact H
     have Ny446 := dk hy446
     clear hy446
     have H' := dk H
     clear H
     obtain ⟨Ao6, co6, eo6⟩ := Kd.R_slice HO_0.out
     subst eo6
     have p5 : 0 ≤ (x5_1 : Int) := oa
     have q5 : (x5_1 : Int) < ((x0_1.length : Int) : Int) := oa
     obtain ⟨go5, co5, eo5, gb5, gl5, cl5, HG5⟩ := Kd.R_form HO_0.out (by omega)
     (first | cases eo5 | (injection eo5 with ea_ en_ ec_; (first | subst ea_ | (injection ea_ with ea_; subst ea_)); subst ec_; clear en_))
     have GB5 := dk gb5
     have GG5 := dk HG5
     clear gb5 gl5 HG5
     have HMgo5 := dk (show (P0_ go5 ∨ w.heap.size ≤ go5) from (HO_0.out.1 _ rfl))
     obtain ⟨hx5_0, hf5_0⟩ := Kd.R_celln 0 HO_0.out (x5_1 : Int) p5 q5
     replace p5 := eq_true p5
     replace q5 := eq_true q5
     have HP7 := Kd.R_putg HO_0.out (x5_1 : Int) x1_1
     go_wp2_with (first | ((with_reducible refine gate_store (t := 3) (p := 15) rfl ?_); refine store_event (t := 3) (p := 15) (v := ?vo_w8) (w1 := (wr.setCell ⟨go5, (x5_1 : Int).toNat, none⟩ (.int .i64 x1_1))) ?hg ?ho ?hn ?hr ?_; (case ho => rfl); (case hg => rfl); (case hn => rfl); (case hr => first | (go_simp; done) | (go_simp; rfl)); intro w8 hw; have hg : wr.grownBy w8 (some go5) := (by rw [hw]; exact HP7.2); have hp_ : Kd.R (Kd.int .i64) 3 w8 w0.heap.size (fun k_ => (P0_ k_ ∨ w.heap.size ≤ k_)) (.slice (some ⟨go5, 0, none⟩) x0_1.length co6) y446 := (by rw [hw, Ny446.out]; exact HP7.1); clear HP7; replace HB := dk (by rw [hw]; exact below_set (HB.out) GB5.out : Below w0.heap.size w0 w8); replace HK := dk (Kept.of_grown (S := (fun k_ => P0_ k_)) hg (by repeat (first | (with_reducible first | exact HK.out | apply Kept.alloc | apply Kept.drewN | apply Kept.drew) | exact HK.out)) (fun k_ e_ => (HO_0.out.1 k_ e_))); replace HO_0 := dk (hp_); clear hg hw hp_))
     go_roundg k1
     case measure => have := HK1.out; omega
     case rel => exact ⟨(y446), (wrap64 (x1_1 + 1)), (wrap64 (x5_1 + 1)), e2_, e2_, H', ⟨by have := HK1.out; omega⟩, ⟨rr HO_0⟩, ⟨by repeat (first | (with_reducible first | exact HK.out | apply Kept.alloc | apply Kept.drewN | apply Kept.drew) | exact HK.out)⟩, ⟨bb HB⟩⟩
    ·rw [if_neg c4] at H
     exact absurd H (by simp)
   ·rw [if_neg c3] at H
    have c3b0 : decide (x5_1 < (x0_1.length : Int)) = false := decide_eq_false c3
    clear c3
    simp only [Option.some.injEq, Prod.mk.injEq] at H
    obtain ⟨rfl, rfl⟩ := H
    obtain ⟨Ao9, co9, eo9⟩ := Kd.R_slice HO_0.out
    subst eo9
    go_wp2
    go_ret
    exact ⟨ee, rr HO_0, bb HB, by repeat (first | (with_reducible first | exact HK.out | apply Kept.alloc | apply Kept.drewN | apply Kept.drew) | exact HK.out)⟩
def laws_markText.l0 : Nat → Int → ByteArray → Option (ByteArray)
 | 0, _, _ => none
 | k + 1, x0, x3 => if x0 > 0 then ((some (([(wrap64 (48 + (Int.tmod x0 10))) % 256] : List Int) : List Int)).bind fun y447 => (if (strOfNums y447).size + x3.size ≤ 9223372036854775807 then (laws_markText.l0 k (wrap64 (Int.tdiv x0 10)) ((strOfNums y447) ++ x3)) else (none))) else (if 1 + x3.size ≤ 9223372036854775807 then (some ((⟨#[109]⟩ : ByteArray) ++ x3)) else (none))
def laws_markText.f (k : Nat) (a0 : Int) : Option (ByteArray) := if a0 ≤ 0 then (some (⟨#[109, 48]⟩ : ByteArray)) else (laws_markText.l0 k a0 (⟨#[]⟩ : ByteArray))
theorem laws_markText.calls (k : Nat) (a0 : Int) (r : ByteArray) (w : World) (h : laws_markText.f k a0 = some r) :
  Calls Try.prog 130 #[.int .i64 a0] w fun e w' => e = .returned (.string r) ∧ Below w.heap.size w w' := by
 have HB := dk (Below.refl w.heap.size w)
 have H : (if a0 ≤ 0 then (some (⟨#[109, 48]⟩ : ByteArray)) else (laws_markText.l0 k a0 (⟨#[]⟩ : ByteArray))) = some r := h
 clear h
 by_cases c2 : a0 ≤ 0
 ·rw [if_pos c2] at H
  have c2b0 : decide (a0 ≤ 0) = true := decide_eq_true c2
  clear c2
  obtain rfl := Option.some.inj H
  go_enter Try.func130, Try.ntmps130
  go_wp2
  go_ret
  exact ⟨ee, bb HB⟩
 ·rw [if_neg c2] at H
  have c2b0 : decide (a0 ≤ 0) = false := decide_eq_false c2
  clear c2
  have H' := dk H
  clear H
  go_enter Try.func130, Try.ntmps130
  go_wp2
  go_loopg [0, 3] k (fun kq v0 v3 w' => ∃ (x0_1 : Int) (x3_1 : ByteArray), v0 = .int .i64 x0_1 ∧ v3 = .string x3_1 ∧ Aside0 (laws_markText.l0 kq x0_1 x3_1 = some r) ∧ Aside0 (kq ≤ k) ∧ Aside0 (Below w.heap.size w w'))
  case atStart => exact ⟨(a0), ((⟨#[]⟩ : ByteArray)), e2_, e2_, H', ⟨Nat.le_refl _⟩, ⟨bb HB⟩⟩
  case round =>
   clear H'
   (try clear c1)
   (try clear c2)
   (try clear c2b0)
   (try clear p2)
   obtain ⟨x0_1, x3_1, rfl, rfl, HA, HK1, HB⟩ := hrel
   cases gk with
   | zero => exact absurd HA.out (by simp [laws_markText.l0])
   | succ k1 =>
    have H := HA.out
    clear HA
    simp only [laws_markText.l0] at H
    by_cases c3 : x0_1 > 0
    ·rw [if_pos c3] at H
     have c3b0 : decide (0 < x0_1) = true := decide_eq_true c3
     clear c3
     obtain ⟨y447, hy447⟩ : ∃ y_ : List Int, y_ = (([(wrap64 (48 + (Int.tmod x0_1 10))) % 256] : List Int)) := ⟨_, rfl⟩
     replace H : (if (strOfNums y447).size + x3_1.size ≤ 9223372036854775807 then (laws_markText.l0 k1 (wrap64 (Int.tdiv x0_1 10)) ((strOfNums y447) ++ x3_1)) else (none)) = some r := by first | (rw [hy447]; with_reducible exact H) | (have H2_ := (Option.bind_some _ _).symm.trans H; rw [hy447]; with_reducible exact H2_) | (have H2_ := (Option.bind_some _ _).symm.trans H; with_reducible exact H2_) | with_reducible exact H | (rw [hy447]; exact H) | exact H
     have Ny447 := dk hy447
     clear hy447
     by_cases c4 : (strOfNums y447).size + x3_1.size ≤ 9223372036854775807
     ·rw [if_pos c4] at H
      have c4b0 := eq_true c4
      have c4b1 : decide ((strOfNums y447).size + x3_1.size ≤ 9223372036854775807) = true := decide_eq_true c4
      try have c4b2 : (9223372036854775807 < (strOfNums y447).size + x3_1.size) = False := eq_false (Nat.not_lt.2 c4)
      have H' := dk H
      clear H
      go_wp2_with (first | ((with_reducible refine gate_dst (N := 12) rfl ?_); refine Kd.R_lit (Kd.int .u8) _ 5 ?hg (N := 12) ?hd (xs := ([(wrap64 (48 + (Int.tmod x0_1 10))) % 256] : List Int)) (inner := [.int .u8 ((wrap64 (48 + (Int.tmod x0_1 10))) % 256)]) (ok := fun _ => True) (okp := fun _ => True) ?hr ?hp (fun _ hk => hk) trivial (Below.refl _ _) (Nat.le_refl _) (by simp) ?_; (case hd => rfl); (case hg => rfl); (case hr => first | (go_simp; done) | (go_simp; rfl)); (case hp => exact (Reps.one (show Kd.M (Kd.int .u8) _ _ _ ((wrap64 (48 + (Int.tmod x0_1 10))) % 256) [.int .u8 ((wrap64 (48 + (Int.tmod x0_1 10))) % 256)] from rfl) (Reps.none _ _))); intro v448 w5 ho6 hb hg_ hnew_; clear hg_ hnew_; (first | rw [← Ny447.out] at ho6 | (simp only [Int.reduceToNat] at ho6; rw [← Ny447.out] at ho6)); have HO449 := kl ho6 HB; replace HB := hs_ HB hb; clear hb ho6; have hcv7 := own_string (P := Try.prog) Try.underlying177 Try.underlying5 Try.underlying9 (Kd.own_of_R HO449.out)))
      go_roundg k1
      case measure => have := HK1.out; omega
      case rel => exact ⟨(wrap64 (Int.tdiv x0_1 10)), ((strOfNums y447) ++ x3_1), e2_, e2_, H', ⟨by have := HK1.out; omega⟩, ⟨bb HB⟩⟩
     ·rw [if_neg c4] at H
      exact absurd H (by simp)
    ·rw [if_neg c3] at H
     have c3b0 : decide (0 < x0_1) = false := decide_eq_false c3
     clear c3
     by_cases c8 : 1 + x3_1.size ≤ 9223372036854775807
     ·rw [if_pos c8] at H
      have c8b0 := eq_true c8
      have c8b1 : decide (1 + x3_1.size ≤ 9223372036854775807) = true := decide_eq_true c8
      try have c8b2 : (9223372036854775807 < 1 + x3_1.size) = False := eq_false (Nat.not_lt.2 c8)
      obtain rfl := Option.some.inj H
      go_wp2
      go_ret
      exact ⟨ee, bb HB⟩
     ·rw [if_neg c8] at H
      exact absurd H (by simp)
def laws_markTeamS.l0 : Nat → List (S139) → Int → Int → Option (Int × (List (S139)))
 | 0, _, _, _ => none
 | k + 1, x0, x1, x5 => if x5 < (x0.length : Int) then ((laws_markText.f k x1).bind fun t450 => (if 0 ≤ x5 then ((some (x0.set (x5 : Int).toNat (⟨t450, (rd_T139 x0 x5).f1, (rd_T139 x0 x5).f2⟩ : S139) : List (S139))).bind fun y451 => ((some (y451.set (x5 : Int).toNat (⟨(rd_T139 y451 x5).f0, wrap64 (x1 + 1), (rd_T139 y451 x5).f2⟩ : S139) : List (S139))).bind fun y452 => (laws_markTeamS.l0 k (y452.set (x5 : Int).toNat (⟨(rd_T139 y452 x5).f0, (rd_T139 y452 x5).f1, wrap64 ((wrap64 (x1 + 1)) + 1)⟩ : S139)) (wrap64 ((wrap64 ((wrap64 (x1 + 1)) + 1)) + 1)) (wrap64 (x5 + 1))))) else (none))) else (some (x1, x0))
def laws_markTeamS.f (k : Nat) (l0 : List (S139)) (a1 : Int) : Option (Int × (List (S139))) := laws_markTeamS.l0 k l0 a1 0
theorem laws_markTeamS.calls (k : Nat) (P0_ : Nat → Prop) (u9000_ : Value) (l0 : List (S139)) (a1 : Int) (r1 : Int) (r2 : List (S139)) (w0 w : World) (hB : Below w0.heap.size w0 w) (ho0 : Kd.R k139 139 w w0.heap.size P0_ u9000_ l0) (h : laws_markTeamS.f k l0 a1 = some (r1, r2)) :
  Calls Try.prog 68 #[u9000_, .int .i64 a1] w fun e w' => e = .returned (.int .i64 r1) ∧ Kd.R k139 139 w' w0.heap.size (fun k_ => (P0_ k_ ∨ w.heap.size ≤ k_)) u9000_ r2 ∧ Below w0.heap.size w0 w' ∧ Kept w w' (fun k_ => P0_ k_) := by
 have HO0 := dk (show Kd.R k139 139 w w0.heap.size (fun k_ => (P0_ k_ ∨ w.heap.size ≤ k_)) u9000_ l0 from Kd.R_mono ho0 (fun k_ hk => (.inl hk)))
 have HK := dk (Kept.refl w (fun k_ => P0_ k_))
 have HW0 := dk hB.size
 have HB := dk hB
 clear hB
 have H : (laws_markTeamS.l0 k l0 a1 0) = some (r1, r2) := h
 clear h
 have H' := dk H
 clear H
 go_enter Try.func68, Try.ntmps68
 go_wp2
 go_loopg [1, 5] k (fun kq v1 v5 w' => ∃ (x0_1 : List (S139)) (x1_1 : Int) (x5_1 : Int), v1 = .int .i64 x1_1 ∧ v5 = .int .i64 x5_1 ∧ Aside0 (laws_markTeamS.l0 kq x0_1 x1_1 x5_1 = some (r1, r2)) ∧ Aside0 (kq ≤ k) ∧ Aside0 (Kd.R k139 139 w' w0.heap.size (fun k_ => (P0_ k_ ∨ w.heap.size ≤ k_)) u9000_ x0_1) ∧ Aside0 (Kept w w' (fun k_ => P0_ k_)) ∧ Aside0 (Below w0.heap.size w0 w'))
 case atStart => exact ⟨(l0), (a1), (0), e2_, e2_, H', ⟨Nat.le_refl _⟩, ⟨rr HO0⟩, ⟨by repeat (first | (with_reducible first | exact HK.out | apply Kept.alloc | apply Kept.drewN | apply Kept.drew) | exact HK.out)⟩, ⟨bb HB⟩⟩
 case round =>
  clear H'
  (try clear p2)
  obtain ⟨x0_1, x1_1, x5_1, rfl, rfl, HA, HK1, HO_0, HK, HB⟩ := hrel
  cases gk with
  | zero => exact absurd HA.out (by simp [laws_markTeamS.l0])
  | succ k1 =>
   have H := HA.out
   clear HA
   simp only [laws_markTeamS.l0] at H
   by_cases c3 : x5_1 < (x0_1.length : Int)
   ·rw [if_pos c3] at H
    have c3b0 : decide (x5_1 < (x0_1.length : Int)) = true := decide_eq_true c3
    clear c3
    replace H := Option.bind_eq_some_iff.mp H
    obtain ⟨t450, A40, H⟩ := H
    replace H : (if 0 ≤ x5_1 then ((some (x0_1.set (x5_1 : Int).toNat (⟨t450, (rd_T139 x0_1 x5_1).f1, (rd_T139 x0_1 x5_1).f2⟩ : S139) : List (S139))).bind fun y451 => ((some (y451.set (x5_1 : Int).toNat (⟨(rd_T139 y451 x5_1).f0, wrap64 (x1_1 + 1), (rd_T139 y451 x5_1).f2⟩ : S139) : List (S139))).bind fun y452 => (laws_markTeamS.l0 k1 (y452.set (x5_1 : Int).toNat (⟨(rd_T139 y452 x5_1).f0, (rd_T139 y452 x5_1).f1, wrap64 ((wrap64 (x1_1 + 1)) + 1)⟩ : S139)) (wrap64 ((wrap64 ((wrap64 (x1_1 + 1)) + 1)) + 1)) (wrap64 (x5_1 + 1))))) else (none)) = some (r1, r2) := H
    have A4 := dk A40
    clear A40
    by_cases c5 : 0 ≤ x5_1
    ·rw [if_pos c5] at H
     have c5b0 : decide (0 ≤ x5_1) = true := decide_eq_true c5
     clear c5
     obtain ⟨y451, hy451⟩ : ∃ y_ : List (S139), y_ = (x0_1.set (x5_1 : Int).toNat (⟨t450, (rd_T139 x0_1 x5_1).f1, (rd_T139 x0_1 x5_1).f2⟩ : S139)) := ⟨_, rfl⟩
     replace H : ((some (y451.set (x5_1 : Int).toNat (⟨(rd_T139 y451 x5_1).f0, wrap64 (x1_1 + 1), (rd_T139 y451 x5_1).f2⟩ : S139) : List (S139))).bind fun y452 => (laws_markTeamS.l0 k1 (y452.set (x5_1 : Int).toNat (⟨(rd_T139 y452 x5_1).f0, (rd_T139 y452 x5_1).f1, wrap64 ((wrap64 (x1_1 + 1)) + 1)⟩ : S139)) (wrap64 ((wrap64 ((wrap64 (x1_1 + 1)) + 1)) + 1)) (wrap64 (x5_1 + 1)))) = some (r1, r2) := by first | (rw [hy451]; with_reducible exact H) | (have H2_ := (Option.bind_some _ _).symm.trans H; rw [hy451]; with_reducible exact H2_) | (have H2_ := (Option.bind_some _ _).symm.trans H; with_reducible exact H2_) | with_reducible exact H | (rw [hy451]; exact H) | exact H
     have Ny451 := dk hy451
     clear hy451
     obtain ⟨y452, hy452⟩ : ∃ y_ : List (S139), y_ = (y451.set (x5_1 : Int).toNat (⟨(rd_T139 y451 x5_1).f0, wrap64 (x1_1 + 1), (rd_T139 y451 x5_1).f2⟩ : S139)) := ⟨_, rfl⟩
     replace H : (laws_markTeamS.l0 k1 (y452.set (x5_1 : Int).toNat (⟨(rd_T139 y452 x5_1).f0, (rd_T139 y452 x5_1).f1, wrap64 ((wrap64 (x1_1 + 1)) + 1)⟩ : S139)) (wrap64 ((wrap64 ((wrap64 (x1_1 + 1)) + 1)) + 1)) (wrap64 (x5_1 + 1))) = some (r1, r2) := by first | (rw [hy452]; with_reducible exact H) | (have H2_ := (Option.bind_some _ _).symm.trans H; rw [hy452]; with_reducible exact H2_) | (have H2_ := (Option.bind_some _ _).symm.trans H; with_reducible exact H2_) | with_reducible exact H | (rw [hy452]; exact H) | exact H
     have Ny452 := dk hy452
     clear hy452
     obtain ⟨y453, hy453⟩ : ∃ y_ : List (S139), y_ = (y452.set (x5_1 : Int).toNat (⟨(rd_T139 y452 x5_1).f0, (rd_T139 y452 x5_1).f1, wrap64 ((wrap64 (x1_1 + 1)) + 1)⟩ : S139)) := ⟨_, rfl⟩
     replace H : (laws_markTeamS.l0 k1 y453 (wrap64 ((wrap64 ((wrap64 (x1_1 + 1)) + 1)) + 1)) (wrap64 (x5_1 + 1))) = some (r1, r2) := by first | (rw [hy453]; with_reducible exact H) | (have H2_ := (Option.bind_some _ _).symm.trans H; rw [hy453]; with_reducible exact H2_) | (have H2_ := (Option.bind_some _ _).symm.trans H; with_reducible exact H2_) | with_reducible exact H | (rw [hy453]; exact H) | exact H
     have Ny453 := dk hy453
     clear hy453
     have H' := dk H
     clear H
     obtain ⟨Ao9, co9, eo9⟩ := Kd.R_slice HO_0.out
     subst eo9
     go_wp2_with (first | ((with_reducible refine gate_callee (f := 130) rfl ?_); refine gl (some 15) Try.func130 #[.int .i64 x1_1] ?_; (with_reducible refine (laws_markText.calls k1 x1_1 t450 _ A4.out).mono ?_); rintro e w10 ⟨rfl, hb⟩; refine ⟨_, rfl, ?_⟩; replace HO_0 := kr HO_0 hb; replace HK := dk (Kept.below (S := (fun k_ => P0_ k_)) (by repeat (first | (with_reducible first | exact HK.out | apply Kept.alloc | apply Kept.drewN | apply Kept.drew) | exact HK.out)) hb); replace HB := hs_ HB hb; (try clear hb hb2 hk hi); have p6 : 0 ≤ (x5_1 : Int) := oa; have q6 : (x5_1 : Int) < ((x0_1.length : Int) : Int) := oa; obtain ⟨go6, co6, eo6, gb6, gl6, cl6, HG6⟩ := Kd.R_form HO_0.out (by omega); (first | cases eo6 | (injection eo6 with ea_ en_ ec_; (first | subst ea_ | (injection ea_ with ea_; subst ea_)); subst ec_; clear en_)); have GB6 := dk gb6; have GG6 := dk HG6; clear gb6 gl6 HG6; have HMgo6 := dk (show (P0_ go6 ∨ w.heap.size ≤ go6) from (HO_0.out.1 _ rfl)); obtain ⟨ce6, hcl6, hM6, hcc6, hfr6⟩ := Kd.R_elem HO_0.out z139 (x5_1 : Int) p6 q6; obtain rfl := k139_openM hM6; have hx6_0 : w10.cell? ⟨go6, (x5_1 : Int).toNat * 3, none⟩ = some (.string ((rd_T139 x0_1 x5_1).f0)) := hcc6 0 _ rfl; have hx6_1 : w10.cell? ⟨go6, (x5_1 : Int).toNat * 3 + 1, none⟩ = some (.int .i64 ((rd_T139 x0_1 x5_1).f1)) := hcc6 1 _ rfl; have hx6_2 : w10.cell? ⟨go6, (x5_1 : Int).toNat * 3 + 2, none⟩ = some (.int .i64 ((rd_T139 x0_1 x5_1).f2)) := hcc6 2 _ rfl; have hf6_0 : w10.frozen? ⟨go6, (x5_1 : Int).toNat * 3, none⟩ = false := hfr6 0; have hf6_1 : w10.frozen? ⟨go6, (x5_1 : Int).toNat * 3 + 1, none⟩ = false := hfr6 1; have hf6_2 : w10.frozen? ⟨go6, (x5_1 : Int).toNat * 3 + 2, none⟩ = false := hfr6 2; clear hcl6 hcc6 hfr6; (try clear hM6); replace p6 := eq_true p6; replace q6 := eq_true q6; have HX11 := dk (show Kd.R k139 139 w10 w0.heap.size (fun k_ => (P0_ k_ ∨ w.heap.size ≤ k_)) (.slice (some ⟨go6, 0, none⟩) x0_1.length co9) x0_1 from (rr HO_0)); obtain ⟨ce11, hcl11, hM11, hcc11, hfr11⟩ := Kd.R_elem HX11.out z139 (x5_1 : Int) (oa) (by have h_ : (x5_1 : Int) < ((x0_1.length : Int) : Int) := oa; first | exact h_ | (have e_ := (Kd.R_reads' HO_0.out).1; omega) | simpa using h_); obtain rfl := k139_openM hM11; have HP11 := Kd.R_seg HX11.out (x5_1 : Int) (oa) (by have h_ : (x5_1 : Int) < ((x0_1.length : Int) : Int) := oa; first | exact h_ | (have e_ := (Kd.R_reads' HO_0.out).1; omega) | simpa using h_) (seg := [.string t450]) (j := 0) hcl11 hcc11 (show 1 ≤ 3 from by decide) (x' := (⟨t450, (rd_T139 x0_1 x5_1).f1, (rd_T139 x0_1 x5_1).f2⟩ : S139)) (k139_mkM _ _ _ (⟨t450, (rd_T139 x0_1 x5_1).f1, (rd_T139 x0_1 x5_1).f2⟩ : S139) ) (fun _ hk => hk); have hx11_0 := hcc11 0 _ rfl; (try simp only [show (k139).sz = 3 from rfl, Nat.mul_one, Nat.add_zero] at hx11_0); have hf11_0 := hfr11 0; (try simp only [show (k139).sz = 3 from rfl, Nat.mul_one, Nat.add_zero] at hf11_0); clear hcl11 hcc11 hfr11; (try clear hM11)) | ((with_reducible refine gate_store (t := 9) (p := 17) rfl ?_); refine store_event (t := 9) (p := 17) (v := ?vo_w12) (w1 := (w10.setCell ⟨go6, (x5_1 : Int).toNat * 3, none⟩ (.string t450))) ?hg ?ho ?hn ?hr ?_; (case ho => rfl); (case hg => rfl); (case hn => rfl); (case hr => first | (go_simp; done) | (go_simp; rfl)); intro w12 hw; have hg : w10.grownBy w12 (some go6) := (by rw [hw]; exact HP11.2); have hp_ : Kd.R k139 139 w12 w0.heap.size (fun k_ => (P0_ k_ ∨ w.heap.size ≤ k_)) (.slice (some ⟨go6, 0, none⟩) x0_1.length co9) y451 := (by rw [hw, Ny451.out]; exact HP11.1); clear HP11; replace HB := dk (by rw [hw]; exact below_set (HB.out) GB6.out : Below w0.heap.size w0 w12); replace HK := dk (Kept.of_grown (S := (fun k_ => P0_ k_)) hg (by repeat (first | (with_reducible first | exact HK.out | apply Kept.alloc | apply Kept.drewN | apply Kept.drew) | exact HK.out)) (fun k_ e_ => (HO_0.out.1 k_ e_))); replace HO_0 := dk (hp_); clear hg hw hp_; have p7 : 0 ≤ (x5_1 : Int) := oa; have q7 : (x5_1 : Int) < ((x0_1.length : Int) : Int) := oa; obtain ⟨ce7, hcl7, hM7, hcc7, hfr7⟩ := Kd.R_elem HO_0.out z139 (x5_1 : Int) p7 q7; obtain rfl := k139_openM hM7; have hx7_0 : w12.cell? ⟨go6, (x5_1 : Int).toNat * 3, none⟩ = some (.string ((rd_T139 y451 x5_1).f0)) := hcc7 0 _ rfl; have hx7_1 : w12.cell? ⟨go6, (x5_1 : Int).toNat * 3 + 1, none⟩ = some (.int .i64 ((rd_T139 y451 x5_1).f1)) := hcc7 1 _ rfl; have hx7_2 : w12.cell? ⟨go6, (x5_1 : Int).toNat * 3 + 2, none⟩ = some (.int .i64 ((rd_T139 y451 x5_1).f2)) := hcc7 2 _ rfl; have hf7_0 : w12.frozen? ⟨go6, (x5_1 : Int).toNat * 3, none⟩ = false := hfr7 0; have hf7_1 : w12.frozen? ⟨go6, (x5_1 : Int).toNat * 3 + 1, none⟩ = false := hfr7 1; have hf7_2 : w12.frozen? ⟨go6, (x5_1 : Int).toNat * 3 + 2, none⟩ = false := hfr7 2; clear hcl7 hcc7 hfr7; (try clear hM7); replace p7 := eq_true p7; replace q7 := eq_true q7; have HX13 := dk (show Kd.R k139 139 w12 w0.heap.size (fun k_ => (P0_ k_ ∨ w.heap.size ≤ k_)) (.slice (some ⟨go6, 0, none⟩) x0_1.length co9) y451 from (rr HO_0)); obtain ⟨ce13, hcl13, hM13, hcc13, hfr13⟩ := Kd.R_elem HX13.out z139 (x5_1 : Int) (oa) (by have h_ : (x5_1 : Int) < ((x0_1.length : Int) : Int) := oa; first | exact h_ | (have e_ := (Kd.R_reads' HO_0.out).1; omega) | simpa using h_); obtain rfl := k139_openM hM13; have HP13 := Kd.R_seg HX13.out (x5_1 : Int) (oa) (by have h_ : (x5_1 : Int) < ((x0_1.length : Int) : Int) := oa; first | exact h_ | (have e_ := (Kd.R_reads' HO_0.out).1; omega) | simpa using h_) (seg := [.int .i64 (wrap64 (x1_1 + 1))]) (j := 1) hcl13 hcc13 (show 2 ≤ 3 from by decide) (x' := (⟨(rd_T139 y451 x5_1).f0, wrap64 (x1_1 + 1), (rd_T139 y451 x5_1).f2⟩ : S139)) (k139_mkM _ _ _ (⟨(rd_T139 y451 x5_1).f0, wrap64 (x1_1 + 1), (rd_T139 y451 x5_1).f2⟩ : S139) ) (fun _ hk => hk); have hx13_1 := hcc13 1 _ rfl; (try simp only [show (k139).sz = 3 from rfl, Nat.mul_one, Nat.add_zero] at hx13_1); have hf13_1 := hfr13 1; (try simp only [show (k139).sz = 3 from rfl, Nat.mul_one, Nat.add_zero] at hf13_1); clear hcl13 hcc13 hfr13; (try clear hM13)) | ((with_reducible refine gate_store (t := 3) (p := 24) rfl ?_); refine store_event (t := 3) (p := 24) (v := ?vo_w14) (w1 := (w12.setCell ⟨go6, (x5_1 : Int).toNat * 3 + 1, none⟩ (.int .i64 (wrap64 (x1_1 + 1))))) ?hg ?ho ?hn ?hr ?_; (case ho => rfl); (case hg => rfl); (case hn => rfl); (case hr => first | (go_simp; done) | (go_simp; rfl)); intro w14 hw; have hg : w12.grownBy w14 (some go6) := (by rw [hw]; exact HP13.2); have hp_ : Kd.R k139 139 w14 w0.heap.size (fun k_ => (P0_ k_ ∨ w.heap.size ≤ k_)) (.slice (some ⟨go6, 0, none⟩) x0_1.length co9) y452 := (by rw [hw, Ny452.out]; exact HP13.1); clear HP13; replace HB := dk (by rw [hw]; exact below_set (HB.out) GB6.out : Below w0.heap.size w0 w14); replace HK := dk (Kept.of_grown (S := (fun k_ => P0_ k_)) hg (by repeat (first | (with_reducible first | exact HK.out | apply Kept.alloc | apply Kept.drewN | apply Kept.drew) | exact HK.out)) (fun k_ e_ => (HO_0.out.1 k_ e_))); replace HO_0 := dk (hp_); clear hg hw hp_; have p8 : 0 ≤ (x5_1 : Int) := oa; have q8 : (x5_1 : Int) < ((x0_1.length : Int) : Int) := oa; obtain ⟨ce8, hcl8, hM8, hcc8, hfr8⟩ := Kd.R_elem HO_0.out z139 (x5_1 : Int) p8 q8; obtain rfl := k139_openM hM8; have hx8_0 : w14.cell? ⟨go6, (x5_1 : Int).toNat * 3, none⟩ = some (.string ((rd_T139 y452 x5_1).f0)) := hcc8 0 _ rfl; have hx8_1 : w14.cell? ⟨go6, (x5_1 : Int).toNat * 3 + 1, none⟩ = some (.int .i64 ((rd_T139 y452 x5_1).f1)) := hcc8 1 _ rfl; have hx8_2 : w14.cell? ⟨go6, (x5_1 : Int).toNat * 3 + 2, none⟩ = some (.int .i64 ((rd_T139 y452 x5_1).f2)) := hcc8 2 _ rfl; have hf8_0 : w14.frozen? ⟨go6, (x5_1 : Int).toNat * 3, none⟩ = false := hfr8 0; have hf8_1 : w14.frozen? ⟨go6, (x5_1 : Int).toNat * 3 + 1, none⟩ = false := hfr8 1; have hf8_2 : w14.frozen? ⟨go6, (x5_1 : Int).toNat * 3 + 2, none⟩ = false := hfr8 2; clear hcl8 hcc8 hfr8; (try clear hM8); replace p8 := eq_true p8; replace q8 := eq_true q8; have HX15 := dk (show Kd.R k139 139 w14 w0.heap.size (fun k_ => (P0_ k_ ∨ w.heap.size ≤ k_)) (.slice (some ⟨go6, 0, none⟩) x0_1.length co9) y452 from (rr HO_0)); obtain ⟨ce15, hcl15, hM15, hcc15, hfr15⟩ := Kd.R_elem HX15.out z139 (x5_1 : Int) (oa) (by have h_ : (x5_1 : Int) < ((x0_1.length : Int) : Int) := oa; first | exact h_ | (have e_ := (Kd.R_reads' HO_0.out).1; omega) | simpa using h_); obtain rfl := k139_openM hM15; have HP15 := Kd.R_seg HX15.out (x5_1 : Int) (oa) (by have h_ : (x5_1 : Int) < ((x0_1.length : Int) : Int) := oa; first | exact h_ | (have e_ := (Kd.R_reads' HO_0.out).1; omega) | simpa using h_) (seg := [.int .i64 (wrap64 ((wrap64 (x1_1 + 1)) + 1))]) (j := 2) hcl15 hcc15 (show 3 ≤ 3 from by decide) (x' := (⟨(rd_T139 y452 x5_1).f0, (rd_T139 y452 x5_1).f1, wrap64 ((wrap64 (x1_1 + 1)) + 1)⟩ : S139)) (k139_mkM _ _ _ (⟨(rd_T139 y452 x5_1).f0, (rd_T139 y452 x5_1).f1, wrap64 ((wrap64 (x1_1 + 1)) + 1)⟩ : S139) ) (fun _ hk => hk); have hx15_2 := hcc15 2 _ rfl; (try simp only [show (k139).sz = 3 from rfl, Nat.mul_one, Nat.add_zero] at hx15_2); have hf15_2 := hfr15 2; (try simp only [show (k139).sz = 3 from rfl, Nat.mul_one, Nat.add_zero] at hf15_2); clear hcl15 hcc15 hfr15; (try clear hM15)) | ((with_reducible refine gate_store (t := 3) (p := 31) rfl ?_); refine store_event (t := 3) (p := 31) (v := ?vo_w16) (w1 := (w14.setCell ⟨go6, (x5_1 : Int).toNat * 3 + 2, none⟩ (.int .i64 (wrap64 ((wrap64 (x1_1 + 1)) + 1))))) ?hg ?ho ?hn ?hr ?_; (case ho => rfl); (case hg => rfl); (case hn => rfl); (case hr => first | (go_simp; done) | (go_simp; rfl)); intro w16 hw; have hg : w14.grownBy w16 (some go6) := (by rw [hw]; exact HP15.2); have hp_ : Kd.R k139 139 w16 w0.heap.size (fun k_ => (P0_ k_ ∨ w.heap.size ≤ k_)) (.slice (some ⟨go6, 0, none⟩) x0_1.length co9) y453 := (by rw [hw, Ny453.out]; exact HP15.1); clear HP15; replace HB := dk (by rw [hw]; exact below_set (HB.out) GB6.out : Below w0.heap.size w0 w16); replace HK := dk (Kept.of_grown (S := (fun k_ => P0_ k_)) hg (by repeat (first | (with_reducible first | exact HK.out | apply Kept.alloc | apply Kept.drewN | apply Kept.drew) | exact HK.out)) (fun k_ e_ => (HO_0.out.1 k_ e_))); replace HO_0 := dk (hp_); clear hg hw hp_))
     go_roundg k1
     case measure => have := HK1.out; omega
     case rel => exact ⟨(y453), (wrap64 ((wrap64 ((wrap64 (x1_1 + 1)) + 1)) + 1)), (wrap64 (x5_1 + 1)), e2_, e2_, H', ⟨by have := HK1.out; omega⟩, ⟨rr HO_0⟩, ⟨by repeat (first | (with_reducible first | exact HK.out | apply Kept.alloc | apply Kept.drewN | apply Kept.drew) | exact HK.out)⟩, ⟨bb HB⟩⟩
    ·rw [if_neg c5] at H
     exact absurd H (by simp)
   ·rw [if_neg c3] at H
    have c3b0 : decide (x5_1 < (x0_1.length : Int)) = false := decide_eq_false c3
    clear c3
    simp only [Option.some.injEq, Prod.mk.injEq] at H
    obtain ⟨rfl, rfl⟩ := H
    obtain ⟨Ao17, co17, eo17⟩ := Kd.R_slice HO_0.out
    subst eo17
    go_wp2
    go_ret
    exact ⟨ee, rr HO_0, bb HB, by repeat (first | (with_reducible first | exact HK.out | apply Kept.alloc | apply Kept.drewN | apply Kept.drew) | exact HK.out)⟩
def laws_markRules.f (k : Nat) (a0_0 : Int) (a0_1 : Int) (a0_2 : Int) (l0_3 : List Int) (a0_4 : Bool) (a1 : Int) : Option (Int × List Int) := (laws_markIntS.f k l0_3 a1).bind fun bt455 => (some (bt455.1, bt455.2))
theorem laws_markRules.calls (k : Nat) (a0_0 : Int) (a0_1 : Int) (a0_2 : Int) (P0_3_ : Nat → Prop) (u9000_ : Value) (l0_3 : List Int) (a0_4 : Bool) (a1 : Int) (r1 : Int) (r2 : List Int) (w0 w : World) (hB : Below w0.heap.size w0 w) (ho0_3 : Kd.R (Kd.int .i64) 3 w w0.heap.size P0_3_ u9000_ l0_3) (h : laws_markRules.f k a0_0 a0_1 a0_2 l0_3 a0_4 a1 = some (r1, r2)) :
  Calls Try.prog 69 #[.agg #[.int .i64 a0_0, .int .i64 a0_1, .int .i64 a0_2, u9000_, .bool a0_4], .int .i64 a1] w fun e w' => e = .returned (.int .i64 r1) ∧ Kd.R (Kd.int .i64) 3 w' w0.heap.size (fun k_ => (P0_3_ k_ ∨ w.heap.size ≤ k_)) u9000_ r2 ∧ Below w0.heap.size w0 w' ∧ Kept w w' (fun k_ => P0_3_ k_) := by
 have hu33 := Try.underlying33
 have HO0_3 := dk (show Kd.R (Kd.int .i64) 3 w w0.heap.size (fun k_ => (P0_3_ k_ ∨ w.heap.size ≤ k_)) u9000_ l0_3 from Kd.R_mono ho0_3 (fun k_ hk => (.inl hk)))
 have HK := dk (Kept.refl w (fun k_ => P0_3_ k_))
 have HW0 := dk hB.size
 have HB := dk hB
 clear hB
 have H : ((laws_markIntS.f k l0_3 a1).bind fun bt455 => (some (bt455.1, bt455.2))) = some (r1, r2) := h
 clear h
 replace H := Option.bind_eq_some_iff.mp H
 obtain ⟨⟨t455, t456⟩, A30, H⟩ := H
 replace H : (some (t455, t456)) = some (r1, r2) := H
 have A3 := dk A30
 clear A30
 simp only [Option.some.injEq, Prod.mk.injEq] at H
 obtain ⟨rfl, rfl⟩ := H
 obtain ⟨Ao4, co4, eo4⟩ := Kd.R_slice HO0_3.out
 subst eo4
 go_enter Try.func69, Try.ntmps69
 go_wp2_with (first | ((with_reducible refine gate_dst (N := 2) rfl ?_); refine bx (N := 2) (cs := #[.int .i64 a0_0, .int .i64 a0_1, .int .i64 a0_2, .slice Ao4 l0_3.length co4, .bool a0_4]) (t := 33) ?_; intro gb454 hg w5 hbox hb; replace HO0_3 := kr HO0_3 hb; have BK454 := dk (hbox); have GW454 := dk (by rw [hg]; exact (by first | exact HK.out.1 | exact (show Kept w _ (fun k_ => P0_3_ k_) from by repeat (first | (with_reducible first | exact HK.out | apply Kept.alloc | apply Kept.drewN | apply Kept.drew) | exact HK.out)).1) : w.heap.size ≤ gb454); replace HK := dk (Kept.below (S := (fun k_ => P0_3_ k_)) (by repeat (first | (with_reducible first | exact HK.out | apply Kept.alloc | apply Kept.drewN | apply Kept.drew) | exact HK.out)) hb); have GE454 := gs hg HB; replace HB := hs_ HB hb; clear hb hbox hg; have ⟨z6_0, z6_1, z6_2, z6_3, z6_4, v6_0, v6_1, v6_2, v6_3, v6_4⟩ := rz5 BK454) | ((with_reducible refine gate_callee (f := 29) rfl ?_); refine gl (some 8) Try.func29 #[.slice Ao4 l0_3.length co4, .int .i64 a1] ?_; (with_reducible refine (laws_markIntS.calls k (fun k_ => some k_ = (.slice Ao4 l0_3.length co4 : Value).ownBlock) (.slice Ao4 l0_3.length co4) l0_3 a1 t455 t456 w0 _ ?side1 ?side2 A3.out).mono ?_); (case side1 => exact bb HB); (case side2 => exact Kd.R_tight rfl HO0_3.out); rintro e w7 ⟨rfl, hy0, hb, hkp⟩; refine ⟨_, rfl, ?_⟩; replace BK454 := dk (blk_kept (bk BK454) hkp (fun hs_ => (fun e_ => (Kd.R_ne HO0_3.out BK454.out (by decide)) e_) hs_)); replace HK := dk (Kept.then_ (S := (fun k_ => P0_3_ k_)) (by repeat (first | (with_reducible first | exact HK.out | apply Kept.alloc | apply Kept.drewN | apply Kept.drew | refine Kept.setCell ?_ (.inr GW454.out) _) | exact HK.out)) hkp (fun k_ hs_ => (fun e_ => (HO0_3.out.1 k_ e_.symm)) hs_)); replace HO0_3 := dk (Kd.R_reok rfl hy0 (fun k_ e_ => HO0_3.out.1 k_ e_)); replace HB := dk (hb); (try clear hb hkp hy0)))
 go_ret
 exact ⟨ee, rr HO0_3, bb HB, by repeat (first | (with_reducible first | exact HK.out | apply Kept.alloc | apply Kept.drewN | apply Kept.drew | refine Kept.setCell ?_ (.inr GW454.out) _) | exact HK.out)⟩
end Go.Proofs.Ythfefanapneocaa.Q
