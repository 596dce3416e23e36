/- A part of the proof of FnExactOrderMatters: functions of the program, as plain functions, with the proof that the machine's call does what they say; plain lemmas; and those of the words that print.sh prints which this proof uses. No condition. -/
import Derived.Test.YthfefanapneocaaKFnExactOrderMatters1
import Derived.Test.YthfefanapneocaaProg
import Derived.Below
import Derived.Deep.Draws
import Derived.Deep.AppendLies
import Derived.Maps.AppendAt
import Derived.OwnWalk
import Derived.Laws.BytesArg
import Derived.Laws.MakeOwn
import Derived.Laws.OwnMore
import Derived.Deep.OwnRows
import Derived.Tactics
import Derived.Lib.ConvBytes
import Derived.Laws.Slices
import Derived.WalkKit
import Derived.KernelRfl
import Derived.RowKit3
import Derived.Deep.LoopGhost
import Derived.Deep.QuietTactic
import Derived.BigQuiet
import Derived.WideLaws
import Derived.Deep.DeepCutAuto
import Derived.Deep.CutBlock
import Derived.Deep.RegionHeld3
import Derived.Laws.Rows
import Derived.Lib.AppendStr
import Derived.ArgAppend
import Derived.Laws.IdiomCopy
import Derived.OrdersHeld
import Derived.Laws.BitsLemmas
import Derived.RowKit
import Derived.WalkSpells
import Derived.Shelf.Strings.Builder1
import Derived.Shelf.Strings.Builder2
import Derived.Shelf.Small.Bits
import Derived.Shelf.Strconv.Itoa0
import Derived.Ground.Names2Prog
import Derived.Shelf.Slices.Clone
import Derived.Shelf.Slices.SearchI
import Derived.Ground.SlgnProg
import Derived.Shelf.SlicesE.Clone
import Derived.Lib.AppendIntMem
import Derived.Laws.StructEq
import Derived.Test.YthfefanapneocaaKFnExactOrderMatters4
import Derived.Test.YthfefanapneocaaKFnExactOrderMatters3
import Derived.Shelf.SlicesE.DeleteFunc
import Derived.Lib.OwnBridge
import Derived.Test.YthfefanapneocaaKFnExactOrderMatters2
import Derived.Test.YthfefanapneocaaRows
import Derived.ProofKit
import Derived.OpenShut
import Derived.ShutString
import Derived.ChangeOld
import Derived.SizedLaws
section
namespace Go.Proofs.Ythfefanapneocaa.Q
open Go.RowKit Go.Proofs.YthfefanapneocaaW.PrintWords Go.Proofs.YthfefanapneocaaW.PrintLast Go.Proofs.YthfefanapneocaaW.PrintMore
attribute [local go_sem] max2_int min2_int max_two min_two max_three min_three max_four min_four
set_option linter.unusedVariables false
set_option linter.unusedSimpArgs false
set_option maxRecDepth 100000
set_option maxHeartbeats 8000000
mutual
def impl_Decide.j0 : Nat → List (S50) → Bool → List (S139) → Int → Int → Int → List Int → Bool → List (S95) → List Int → List Int → Option ((List (S139)) × Int × Int × Int × List Int × Bool × (List (S95)) × List Int × List Int × Bool)
 | 0, _, _, _, _, _, _, _, _, _, _, _ => none
 | k + 1, x1, x16, x385000, x385001, x385002, x385003, x385004, x385005, x385006, x385007, x385008 => if x16 = true then (some (([] : List (S139)), 0, 0, 0, ([] : List Int), false, ([] : List (S95)), ([] : List Int), ([] : List Int), false)) else ((impl_Book_copied.f x385000 x385001 x385002 x385003 x385004 x385005 x385006 x385007 x385008).bind fun bt387 => (impl_Decide.l0 k x1 (x1.length : Int) 0 x385000 x385001 x385002 x385003 x385004 x385005 x385006 x385007 x385008 bt387.1 bt387.2.1 bt387.2.2.1 bt387.2.2.2.1 bt387.2.2.2.2.1 bt387.2.2.2.2.2.1 bt387.2.2.2.2.2.2.1 bt387.2.2.2.2.2.2.2.1 bt387.2.2.2.2.2.2.2.2))
def impl_Decide.l0 : Nat → List (S50) → Int → Int → List (S139) → Int → Int → Int → List Int → Bool → List (S95) → List Int → List Int → List (S139) → Int → Int → Int → List Int → Bool → List (S95) → List Int → List Int → Option ((List (S139)) × Int × Int × Int × List Int × Bool × (List (S95)) × List Int × List Int × Bool)
 | 0, _, _, _, _, _, _, _, _, _, _, _, _, _, _, _, _, _, _, _, _, _ => none
 | k + 1, x20, x21, x22, x385000, x385001, x385002, x385003, x385004, x385005, x385006, x385007, x385008, x407000, x407001, x407002, x407003, x407004, x407005, x407006, x407007, x407008 => if x22 < x21 then (if 0 ≤ x22 then (if x22 < (x20.length : Int) then ((impl_ProtestOk.f k x385000 x385001 x385002 x385003 x385004 x385005 x385006 x385007 x385008 ((rd_T50 x20 x22).f0) ((rd_T50 x20 x22).f1) ((rd_T50 x20 x22).f2)).bind fun t409 => (if t409 = true then (if 0 ≤ ((rd_T50 x20 x22).f1) then (if ((rd_T50 x20 x22).f1) < (x385006.length : Int) then (if ((rd_T50 x20 x22).f1) < (x407006.length : Int) then ((some (x407006.set (((rd_T50 x20 x22).f1) : Int).toNat (⟨(rd_T95 x385006 ((rd_T50 x20 x22).f1)).f0, (rd_T95 x385006 ((rd_T50 x20 x22).f1)).f1, (rd_T95 x385006 ((rd_T50 x20 x22).f1)).f2, (rd_T95 x385006 ((rd_T50 x20 x22).f1)).f3, (rd_T95 x385006 ((rd_T50 x20 x22).f1)).f4⟩ : S95) : List (S95))).bind fun y411 => (if (rd_T50 x20 x22).f2 = true then ((impl_awarded.f ((rd_T95 x385006 ((rd_T50 x20 x22).f1)).f0) ((rd_T95 x385006 ((rd_T50 x20 x22).f1)).f1) ((rd_T95 x385006 ((rd_T50 x20 x22).f1)).f2) ((rd_T95 x385006 ((rd_T50 x20 x22).f1)).f3) ((rd_T95 x385006 ((rd_T50 x20 x22).f1)).f4) ((rd_T50 x20 x22).f0)).bind fun bt413 => (impl_Decide.l0 k x20 x21 (wrap64 (x22 + 1)) x385000 x385001 x385002 x385003 x385004 x385005 x385006 x385007 x385008 x407000 x407001 x407002 x407003 x407004 x407005 (y411.set (((rd_T50 x20 x22).f1) : Int).toNat (⟨bt413.1, bt413.2.1, bt413.2.2.1, bt413.2.2.2.1, bt413.2.2.2.2⟩ : S95)) x407007 x407008)) else (impl_Decide.l0 k x20 x21 (wrap64 (x22 + 1)) x385000 x385001 x385002 x385003 x385004 x385005 x385006 x385007 x385008 x407000 x407001 x407002 x407003 x407004 x407005 y411 x407007 x407008))) else (none)) else (none)) else (none)) else (some (([] : List (S139)), 0, 0, 0, ([] : List Int), false, ([] : List (S95)), ([] : List Int), ([] : List Int), false)))) else (none)) else (none)) else (some (x407000, x407001, x407002, x407003, x407004, x407005, x407006, x407007, x407008, true))
end
def impl_Decide.f (k : Nat) (l0_0 : List (S139)) (a0_1 : Int) (a0_2 : Int) (a0_3 : Int) (l0_4 : List Int) (a0_5 : Bool) (l0_6 : List (S95)) (l0_7 : List Int) (l0_8 : List Int) (l1 : List (S50)) : Option ((List (S139)) × Int × Int × Int × List Int × Bool × (List (S95)) × List Int × List Int × Bool) := (impl_BookOk.f k l0_0 a0_1 a0_2 a0_3 l0_4 a0_5 l0_6 l0_7 l0_8).bind fun t386 => (if t386 = true then (impl_Decide.j0 k l1 (decide ((l1.length : Int) > 6)) l0_0 a0_1 a0_2 a0_3 l0_4 a0_5 l0_6 l0_7 l0_8) else (impl_Decide.j0 k l1 true l0_0 a0_1 a0_2 a0_3 l0_4 a0_5 l0_6 l0_7 l0_8))
def impl_Decide.T9 : Bool × List (List Nat × List Nat) := (true, [([], []), ([0], [0]), ([], []), ([2], [2]), ([], []), ([4], [4]), ([], []), ([6], [6]), ([5, 7], [5, 7]), ([8], [8]), ([1, 3, 0, 1, 2, 3, 4, 5, 6, 7, 8, 9], [1, 3]), ([10, 9, 0, 1, 2, 3, 4, 5, 6, 7, 8, 9], [9, 10])])
def impl_Decide.B9 : List Nat := [0, 1, 0, 4, 0, 16, 0, 64, 240, 496, 1023, 2047]
theorem impl_Decide.tab9 : rtab .any (opsOf Try.f15 9) = impl_Decide.T9 := by kernel_rfl
theorem impl_Decide.bits9 : waitsOk impl_Decide.T9.2 impl_Decide.B9 = true := by kernel_rfl
def impl_Decide.T11 : Bool × List (List Nat × List Nat) := (true, [([], []), ([0], [0]), ([], []), ([2], [2]), ([], []), ([4], [4]), ([], []), ([6], [6]), ([5, 7], [5, 7]), ([8], [8]), ([], []), ([10], [10]), ([9, 11], [9, 11]), ([1, 3, 0, 1, 2, 3, 4, 5, 6, 7, 8, 9, 10, 11, 12], [1, 3]), ([13, 12, 12, 0, 1, 2, 3, 4, 5, 6, 7, 8, 9, 10, 11, 12], [12, 13])])
def impl_Decide.B11 : List Nat := [0, 1, 0, 4, 0, 16, 0, 64, 240, 496, 0, 1024, 4080, 8191, 16383]
theorem impl_Decide.tab11 : rtab .any (opsOf Try.f15 11) = impl_Decide.T11 := by kernel_rfl
theorem impl_Decide.bits11 : waitsOk impl_Decide.T11.2 impl_Decide.B11 = true := by kernel_rfl
theorem impl_Decide.calls (k : Nat) (A0_0 : Option Addr) (c0_0 : Nat) (l0_0 : List (S139)) (a0_1 : Int) (a0_2 : Int) (a0_3 : Int) (A0_4 : Option Addr) (c0_4 : Nat) (l0_4 : List Int) (a0_5 : Bool) (A0_6 : Option Addr) (c0_6 : Nat) (l0_6 : List (S95)) (A0_7 : Option Addr) (c0_7 : Nat) (l0_7 : List Int) (A0_8 : Option Addr) (c0_8 : Nat) (l0_8 : List Int) (A1 : Option Addr) (c1 : Nat) (l1 : List (S50)) (r1 : List (S139)) (r2 : Int) (r3 : Int) (r4 : Int) (r5 : List Int) (r6 : Bool) (r7 : List (S95)) (r8 : List Int) (r9 : List Int) (r10 : Bool) (w : World) (hr0_0 : Kd.C k139 w A0_0 l0_0.length l0_0) (hc0_0 : l0_0.length ≤ c0_0) (hr0_4 : Kd.C (Kd.int .i64) w A0_4 l0_4.length l0_4) (hc0_4 : l0_4.length ≤ c0_4) (hr0_6 : Kd.C k95 w A0_6 l0_6.length l0_6) (hc0_6 : l0_6.length ≤ c0_6) (hr0_7 : Kd.C (Kd.int .i64) w A0_7 l0_7.length l0_7) (hc0_7 : l0_7.length ≤ c0_7) (hr0_8 : Kd.C (Kd.int .i64) w A0_8 l0_8.length l0_8) (hc0_8 : l0_8.length ≤ c0_8) (hr1 : Kd.C k50 w A1 l1.length l1) (hc1 : l1.length ≤ c1) (h : impl_Decide.f k l0_0 a0_1 a0_2 a0_3 l0_4 a0_5 l0_6 l0_7 l0_8 l1 = some (r1, r2, r3, r4, r5, r6, r7, r8, r9, r10)) :
  Calls Try.prog 15 #[.agg #[.slice A0_0 l0_0.length c0_0, .int .i64 a0_1, .int .i64 a0_2, .int .i64 a0_3, .slice A0_4 l0_4.length c0_4, .bool a0_5, .slice A0_6 l0_6.length c0_6, .slice A0_7 l0_7.length c0_7, .slice A0_8 l0_8.length c0_8], .slice A1 l1.length c1] w fun e w' => ∃ v0_ v4_ v6_ v7_ v8_ : Value, e = .returned (.tuple #[.agg #[v0_, .int .i64 r2, .int .i64 r3, .int .i64 r4, v4_, .bool r6, v6_, v7_, v8_], .bool r10]) ∧ Kd.R k139 139 w' w.heap.size (fun _ => True) v0_ r1 ∧ Kd.R (Kd.int .i64) 3 w' w.heap.size (fun k_ => some k_ ≠ (v7_ : Value).ownBlock ∧ some k_ ≠ (v8_ : Value).ownBlock) v4_ r5 ∧ Kd.R k95 95 w' w.heap.size (fun _ => True) v6_ r7 ∧ Kd.R (Kd.int .i64) 3 w' w.heap.size (fun k_ => some k_ ≠ (v4_ : Value).ownBlock ∧ some k_ ≠ (v8_ : Value).ownBlock) v7_ r8 ∧ Kd.R (Kd.int .i64) 3 w' w.heap.size (fun k_ => some k_ ≠ (v4_ : Value).ownBlock ∧ some k_ ≠ (v7_ : Value).ownBlock) v8_ r9 ∧ Below w.heap.size w w' := by
 have hu36 := Try.underlying36
 have hu50 := Try.underlying50
 have hu95 := Try.underlying95
 have HR0_0 := Aside0.mk hr0_0
 have HC0_0 := Aside0.mk hc0_0
 clear hr0_0 hc0_0
 have HR0_4 := Aside0.mk hr0_4
 have HC0_4 := Aside0.mk hc0_4
 clear hr0_4 hc0_4
 have HR0_6 := Aside0.mk hr0_6
 have HC0_6 := Aside0.mk hc0_6
 clear hr0_6 hc0_6
 have HR0_7 := Aside0.mk hr0_7
 have HC0_7 := Aside0.mk hc0_7
 clear hr0_7 hc0_7
 have HR0_8 := Aside0.mk hr0_8
 have HC0_8 := Aside0.mk hc0_8
 clear hr0_8 hc0_8
 have HR1 := Aside0.mk hr1
 have HC1 := Aside0.mk hc1
 clear hr1 hc1
 have HB := Aside0.mk (Below.refl w.heap.size w)
 have H : ((impl_BookOk.f k l0_0 a0_1 a0_2 a0_3 l0_4 a0_5 l0_6 l0_7 l0_8).bind fun t386 => (if t386 = true then (impl_Decide.j0 k l1 (decide ((l1.length : Int) > 6)) l0_0 a0_1 a0_2 a0_3 l0_4 a0_5 l0_6 l0_7 l0_8) else (impl_Decide.j0 k l1 true l0_0 a0_1 a0_2 a0_3 l0_4 a0_5 l0_6 l0_7 l0_8))) = some (r1, r2, r3, r4, r5, r6, r7, r8, r9, r10) := h
 clear h
 have HC3 := Aside0.mk H
 clear H
 go_enter Try.func15, Try.ntmps15
 go_upto_region 1 with (first | ((with_reducible refine gate_dst (N := 2) rfl ?_); (try (refine gate_guard (by rfl) ?_; dsimp only)); refine bx (N := 2) (cs := #[.slice A0_0 l0_0.length c0_0, .int .i64 a0_1, .int .i64 a0_2, .int .i64 a0_3, .slice A0_4 l0_4.length c0_4, .bool a0_5, .slice A0_6 l0_6.length c0_6, .slice A0_7 l0_7.length c0_7, .slice A0_8 l0_8.length c0_8]) (t := 36) ?_; intro gb384 hg w4 hbox hb; have BK384 := Aside0.mk (hbox); have GW384 := gs hg HB; have GE384 := gs hg HB; replace HB := hs_ HB hb; clear hb hbox hg) | ((with_reducible refine gate_dst (N := 4) rfl ?_); (try (refine gate_guard (by rfl) ?_; dsimp only)); refine bx (N := 4) (cs := #[.slice none 0 0, .int .i64 0, .int .i64 0, .int .i64 0, .slice none 0 0, .bool false, .slice none 0 0, .slice none 0 0, .slice none 0 0]) (t := 36) ?_; intro gb385 hg w5 hbox hb; have BK385 := Aside0.mk (hbox); have GW385 := gs hg HB; have GE385 := gs hg HB; replace HB := hs_ HB hb; have NB384_385 := gn hg BK384; have NB385_384 := gm hg BK384; replace BK384 := kb BK384 hb; clear hb hbox hg))
 (try simp only [Act.put, List.setIfInBounds_toArray, List.set_cons_zero, List.set_cons_succ])
 go_cut [16] (fun v16 wc => ∃ (kq : Nat) (x16_2 : Bool), v16 = .bool x16_2 ∧ Aside0 (impl_Decide.j0 kq l1 x16_2 l0_0 a0_1 a0_2 a0_3 l0_4 a0_5 l0_6 l0_7 l0_8 = some (r1, r2, r3, r4, r5, r6, r7, r8, r9, r10)) ∧ Aside0 (kq ≤ k) ∧ Aside0 (wc.heap[gb384]? = some (.cells #[(.slice A0_0 l0_0.length c0_0), .int .i64 a0_1, .int .i64 a0_2, .int .i64 a0_3, (.slice A0_4 l0_4.length c0_4), .bool a0_5, (.slice A0_6 l0_6.length c0_6), (.slice A0_7 l0_7.length c0_7), (.slice A0_8 l0_8.length c0_8)] 36 (0, 0))) ∧ Aside0 (wc.heap[gb385]? = some (.cells #[(.slice none 0 0), .int .i64 0, .int .i64 0, .int .i64 0, (.slice none 0 0), .bool false, (.slice none 0 0), (.slice none 0 0), (.slice none 0 0)] 36 (0, 0))) ∧ Aside0 (Below w.heap.size w wc))
 case first =>
  have H := HC3.out
  clear HC3
  replace H := Option.bind_eq_some_iff.mp H
  obtain ⟨t386, A60, H⟩ := H
  replace H : (if t386 = true then (impl_Decide.j0 k l1 (decide ((l1.length : Int) > 6)) l0_0 a0_1 a0_2 a0_3 l0_4 a0_5 l0_6 l0_7 l0_8) else (impl_Decide.j0 k l1 true l0_0 a0_1 a0_2 a0_3 l0_4 a0_5 l0_6 l0_7 l0_8)) = some (r1, r2, r3, r4, r5, r6, r7, r8, r9, r10) := H
  have A6 := Aside0.mk A60
  clear A60
  by_cases c7 : t386 = true
  ·subst c7
   have H1 : (impl_Decide.j0 k l1 (decide ((l1.length : Int) > 6)) l0_0 a0_1 a0_2 a0_3 l0_4 a0_5 l0_6 l0_7 l0_8) = some (r1, r2, r3, r4, r5, r6, r7, r8, r9, r10) := by rw [if_pos rfl] at H; exact H
   clear H
   have H := H1
   clear H1
   have H' := Aside0.mk H
   clear H
   have hnb8 := NB384_385.out
   have hnc8 := NB385_384.out
   have ⟨z9_0, z9_1, z9_2, z9_3, z9_4, z9_5, z9_6, z9_7, z9_8, v9_0, v9_1, v9_2, v9_3, v9_4, v9_5, v9_6, v9_7, v9_8⟩ := rz9 BK384
   go_wp2_with (first | ((with_reducible refine gate_callee (f := 61) rfl ?_); refine gl (some 10) Try.func61 #[.agg #[.slice A0_0 l0_0.length c0_0, .int .i64 a0_1, .int .i64 a0_2, .int .i64 a0_3, .slice A0_4 l0_4.length c0_4, .bool a0_5, .slice A0_6 l0_6.length c0_6, .slice A0_7 l0_7.length c0_7, .slice A0_8 l0_8.length c0_8]] ?_; (with_reducible refine (impl_BookOk.calls k _ _ l0_0 a0_1 a0_2 a0_3 _ _ l0_4 a0_5 _ _ l0_6 _ _ l0_7 _ _ l0_8 true _ ?side1 ?side2 ?side3 ?side4 ?side5 ?side6 ?side7 ?side8 ?side9 ?side10 A6.out).mono ?_); (case side1 => exact cc HR0_0 HB); (case side2 => exact HC0_0.out); (case side3 => exact cc HR0_4 HB); (case side4 => exact HC0_4.out); (case side5 => exact cc HR0_6 HB); (case side6 => exact HC0_6.out); (case side7 => exact cc HR0_7 HB); (case side8 => exact HC0_7.out); (case side9 => exact cc HR0_8 HB); (case side10 => exact HC0_8.out); rintro e w10 ⟨rfl, hb⟩; refine ⟨_, rfl, ?_⟩; replace BK384 := kb BK384 hb; replace BK385 := kb BK385 hb; replace HB := hs_ HB hb; (try clear hb hb2 hk hi)))
   go_meet
   case rel => exact ⟨_, (decide ((l1.length : Int) > 6)), e2_, H', ⟨by first | omega | exact Nat.le_refl _⟩, ⟨bk BK384⟩, ⟨bk BK385⟩, ⟨bb HB⟩⟩
  ·replace c7 := Bool.eq_false_iff.mpr c7
   subst c7
   have H1 : (impl_Decide.j0 k l1 true l0_0 a0_1 a0_2 a0_3 l0_4 a0_5 l0_6 l0_7 l0_8) = some (r1, r2, r3, r4, r5, r6, r7, r8, r9, r10) := by rw [if_neg (show ¬ (false = true) by decide)] at H; exact H
   clear H
   have H := H1
   clear H1
   have H' := Aside0.mk H
   clear H
   have hnb11 := NB384_385.out
   have hnc11 := NB385_384.out
   have ⟨z12_0, z12_1, z12_2, z12_3, z12_4, z12_5, z12_6, z12_7, z12_8, v12_0, v12_1, v12_2, v12_3, v12_4, v12_5, v12_6, v12_7, v12_8⟩ := rz9 BK384
   go_wp2_with (first | ((with_reducible refine gate_callee (f := 61) rfl ?_); refine gl (some 10) Try.func61 #[.agg #[.slice A0_0 l0_0.length c0_0, .int .i64 a0_1, .int .i64 a0_2, .int .i64 a0_3, .slice A0_4 l0_4.length c0_4, .bool a0_5, .slice A0_6 l0_6.length c0_6, .slice A0_7 l0_7.length c0_7, .slice A0_8 l0_8.length c0_8]] ?_; (with_reducible refine (impl_BookOk.calls k _ _ l0_0 a0_1 a0_2 a0_3 _ _ l0_4 a0_5 _ _ l0_6 _ _ l0_7 _ _ l0_8 false _ ?side1 ?side2 ?side3 ?side4 ?side5 ?side6 ?side7 ?side8 ?side9 ?side10 A6.out).mono ?_); (case side1 => exact cc HR0_0 HB); (case side2 => exact HC0_0.out); (case side3 => exact cc HR0_4 HB); (case side4 => exact HC0_4.out); (case side5 => exact cc HR0_6 HB); (case side6 => exact HC0_6.out); (case side7 => exact cc HR0_7 HB); (case side8 => exact HC0_7.out); (case side9 => exact cc HR0_8 HB); (case side10 => exact HC0_8.out); rintro e w13 ⟨rfl, hb⟩; refine ⟨_, rfl, ?_⟩; replace BK384 := kb BK384 hb; replace BK385 := kb BK385 hb; replace HB := hs_ HB hb; (try clear hb hb2 hk hi)))
   go_meet
   case rel => exact ⟨_, (true), e2_, H', ⟨by first | omega | exact Nat.le_refl _⟩, ⟨bk BK384⟩, ⟨bk BK385⟩, ⟨bb HB⟩⟩
 case rest =>
  clear HC3
  (try clear c1)
  (try clear p2)
  (try clear c6)
  (try clear c7)
  (try clear c8)
  (try clear c11)
  (try clear z12_0 z12_1 z12_2 z12_3 z12_4 z12_5 z12_6 z12_7 z12_8)
  (try clear z9_0 z9_1 z9_2 z9_3 z9_4 z9_5 z9_6 z9_7 z9_8)
  (try clear v12_0 v12_1 v12_2 v12_3 v12_4 v12_5 v12_6 v12_7 v12_8)
  (try clear v9_0 v9_1 v9_2 v9_3 v9_4 v9_5 v9_6 v9_7 v9_8)
  obtain ⟨kq, x16_2, rfl, HA, HJ2, BK384, BK385, HB⟩ := hcut
  cases kq with
  | zero => exact absurd HA.out (by simp [impl_Decide.j0])
  | succ kj2 =>
   have H := HA.out
   clear HA
   simp only [impl_Decide.j0] at H
   by_cases c14 : x16_2 = true
   ·subst c14
    have H1 : (some (([] : List (S139)), 0, 0, 0, ([] : List Int), false, ([] : List (S95)), ([] : List Int), ([] : List Int), false)) = some (r1, r2, r3, r4, r5, r6, r7, r8, r9, r10) := by rw [if_pos rfl] at H; exact H
    clear H
    have H := H1
    clear H1
    simp only [Option.some.injEq, Prod.mk.injEq] at H
    obtain ⟨rfl, rfl, rfl, rfl, rfl, rfl, rfl, rfl, rfl, rfl⟩ := H
    have hnb15 := NB385_384.out
    have hnc15 := NB384_385.out
    have ⟨z16_0, z16_1, z16_2, z16_3, z16_4, z16_5, z16_6, z16_7, z16_8, v16_0, v16_1, v16_2, v16_3, v16_4, v16_5, v16_6, v16_7, v16_8⟩ := rz9 BK385
    go_wp2
    refine bodyPost_ret (results_ct rfl _ _ gb385 36 #[.slice none 0 0, .int .i64 0, .int .i64 0, .int .i64 0, .slice none 0 0, .bool false, .slice none 0 0, .slice none 0 0, .slice none 0 0] (0, 0) _ rfl (by (with_reducible repeat (first | refine blk_drewN ?_ _ | refine blk_drew ?_ | refine blk_alloc ?_ _)); refine blk_put (cs := #[.slice none 0 0, .int .i64 0, .int .i64 0, .int .i64 0, .slice none 0 0, .bool false, .slice none 0 0, .slice none 0 0, .slice none 0 0]) ?_ 8 _ rfl; (with_reducible repeat (first | refine blk_drewN ?_ _ | refine blk_drew ?_ | refine blk_alloc ?_ _)); refine blk_put (cs := #[.slice none 0 0, .int .i64 0, .int .i64 0, .int .i64 0, .slice none 0 0, .bool false, .slice none 0 0, .slice none 0 0, .slice none 0 0]) ?_ 7 _ rfl; (with_reducible repeat (first | refine blk_drewN ?_ _ | refine blk_drew ?_ | refine blk_alloc ?_ _)); refine blk_put (cs := #[.slice none 0 0, .int .i64 0, .int .i64 0, .int .i64 0, .slice none 0 0, .bool false, .slice none 0 0, .slice none 0 0, .slice none 0 0]) ?_ 6 _ rfl; (with_reducible repeat (first | refine blk_drewN ?_ _ | refine blk_drew ?_ | refine blk_alloc ?_ _)); refine blk_put (cs := #[.slice none 0 0, .int .i64 0, .int .i64 0, .int .i64 0, .slice none 0 0, .bool false, .slice none 0 0, .slice none 0 0, .slice none 0 0]) ?_ 5 _ rfl; (with_reducible repeat (first | refine blk_drewN ?_ _ | refine blk_drew ?_ | refine blk_alloc ?_ _)); refine blk_put (cs := #[.slice none 0 0, .int .i64 0, .int .i64 0, .int .i64 0, .slice none 0 0, .bool false, .slice none 0 0, .slice none 0 0, .slice none 0 0]) ?_ 4 _ rfl; (with_reducible repeat (first | refine blk_drewN ?_ _ | refine blk_drew ?_ | refine blk_alloc ?_ _)); refine blk_put (cs := #[.slice none 0 0, .int .i64 0, .int .i64 0, .int .i64 0, .slice none 0 0, .bool false, .slice none 0 0, .slice none 0 0, .slice none 0 0]) ?_ 3 _ rfl; (with_reducible repeat (first | refine blk_drewN ?_ _ | refine blk_drew ?_ | refine blk_alloc ?_ _)); refine blk_put (cs := #[.slice none 0 0, .int .i64 0, .int .i64 0, .int .i64 0, .slice none 0 0, .bool false, .slice none 0 0, .slice none 0 0, .slice none 0 0]) ?_ 2 _ rfl; (with_reducible repeat (first | refine blk_drewN ?_ _ | refine blk_drew ?_ | refine blk_alloc ?_ _)); refine blk_put (cs := #[.slice none 0 0, .int .i64 0, .int .i64 0, .int .i64 0, .slice none 0 0, .bool false, .slice none 0 0, .slice none 0 0, .slice none 0 0]) ?_ 1 _ rfl; (with_reducible repeat (first | refine blk_drewN ?_ _ | refine blk_drew ?_ | refine blk_alloc ?_ _)); refine blk_put (cs := #[.slice none 0 0, .int .i64 0, .int .i64 0, .int .i64 0, .slice none 0 0, .bool false, .slice none 0 0, .slice none 0 0, .slice none 0 0]) ?_ 0 _ rfl; (with_reducible repeat (first | refine blk_drewN ?_ _ | refine blk_drew ?_ | refine blk_alloc ?_ _)); exact BK385.out) Try.underlying36 rfl (by kernel_rfl)) rfl ?_
    exact ⟨_, _, _, _, _, ee, by first | exact Kd.R_nil _ _ _ _ _ | exact Kd.N_nil _ _ _ _ _ | exact Kd.V_nil _ _ _ _ _ | exact Kd.Q_nil _ _ _ _ _ | exact Kd.S_nil _ _ _ _ _, by first | exact Kd.R_nil _ _ _ _ _ | exact Kd.N_nil _ _ _ _ _ | exact Kd.V_nil _ _ _ _ _ | exact Kd.Q_nil _ _ _ _ _ | exact Kd.S_nil _ _ _ _ _, by first | exact Kd.R_nil _ _ _ _ _ | exact Kd.N_nil _ _ _ _ _ | exact Kd.V_nil _ _ _ _ _ | exact Kd.Q_nil _ _ _ _ _ | exact Kd.S_nil _ _ _ _ _, by first | exact Kd.R_nil _ _ _ _ _ | exact Kd.N_nil _ _ _ _ _ | exact Kd.V_nil _ _ _ _ _ | exact Kd.Q_nil _ _ _ _ _ | exact Kd.S_nil _ _ _ _ _, by first | exact Kd.R_nil _ _ _ _ _ | exact Kd.N_nil _ _ _ _ _ | exact Kd.V_nil _ _ _ _ _ | exact Kd.Q_nil _ _ _ _ _ | exact Kd.S_nil _ _ _ _ _, bb HB⟩
   ·replace c14 := Bool.eq_false_iff.mpr c14
    subst c14
    have H1 : ((impl_Book_copied.f l0_0 a0_1 a0_2 a0_3 l0_4 a0_5 l0_6 l0_7 l0_8).bind fun bt387 => (impl_Decide.l0 kj2 l1 (l1.length : Int) 0 l0_0 a0_1 a0_2 a0_3 l0_4 a0_5 l0_6 l0_7 l0_8 bt387.1 bt387.2.1 bt387.2.2.1 bt387.2.2.2.1 bt387.2.2.2.2.1 bt387.2.2.2.2.2.1 bt387.2.2.2.2.2.2.1 bt387.2.2.2.2.2.2.2.1 bt387.2.2.2.2.2.2.2.2)) = some (r1, r2, r3, r4, r5, r6, r7, r8, r9, r10) := by rw [if_neg (show ¬ (false = true) by decide)] at H; exact H
    clear H
    have H := H1
    clear H1
    replace H := Option.bind_eq_some_iff.mp H
    obtain ⟨⟨t387, t390, t391, t392, t393, t396, t397, t400, t403⟩, A170, H⟩ := H
    replace H : (impl_Decide.l0 kj2 l1 (l1.length : Int) 0 l0_0 a0_1 a0_2 a0_3 l0_4 a0_5 l0_6 l0_7 l0_8 t387 t390 t391 t392 t393 t396 t397 t400 t403) = some (r1, r2, r3, r4, r5, r6, r7, r8, r9, r10) := H
    have A17 := Aside0.mk A170
    clear A170
    have H' := Aside0.mk H
    clear H
    have hnb18 := NB384_385.out
    have hnc18 := NB385_384.out
    have ⟨z19_0, z19_1, z19_2, z19_3, z19_4, z19_5, z19_6, z19_7, z19_8, v19_0, v19_1, v19_2, v19_3, v19_4, v19_5, v19_6, v19_7, v19_8⟩ := rz9 BK384
    go_wp2_with (first | ((with_reducible refine gate_callee (f := 62) rfl ?_); refine gl (some 19) Try.func62 #[.agg #[.slice A0_0 l0_0.length c0_0, .int .i64 a0_1, .int .i64 a0_2, .int .i64 a0_3, .slice A0_4 l0_4.length c0_4, .bool a0_5, .slice A0_6 l0_6.length c0_6, .slice A0_7 l0_7.length c0_7, .slice A0_8 l0_8.length c0_8]] ?_; (with_reducible refine (impl_Book_copied.calls _ _ l0_0 a0_1 a0_2 a0_3 _ _ l0_4 a0_5 _ _ l0_6 _ _ l0_7 _ _ l0_8 t387 t390 t391 t392 t393 t396 t397 t400 t403 _ ?side1 ?side2 ?side3 ?side4 ?side5 ?side6 ?side7 ?side8 ?side9 ?side10 A17.out).mono ?_); (case side1 => exact cc HR0_0 HB); (case side2 => exact HC0_0.out); (case side3 => exact cc HR0_4 HB); (case side4 => exact HC0_4.out); (case side5 => exact cc HR0_6 HB); (case side6 => exact HC0_6.out); (case side7 => exact cc HR0_7 HB); (case side8 => exact HC0_7.out); (case side9 => exact cc HR0_8 HB); (case side10 => exact HC0_8.out); rintro e w20 ⟨v388, v394, v398, v401, v404, rfl, ho0, ho1, ho2, ho3, ho4, hb⟩; refine ⟨_, rfl, ?_⟩; have HO389 := kl ho0 HB; have HO395 := kl ho1 HB; have HO399 := kl ho2 HB; have HO402 := kl ho3 HB; have HO405 := kl ho4 HB; replace BK384 := kb BK384 hb; replace BK385 := kb BK385 hb; replace HB := hs_ HB hb; (try clear hb hb2 hk hi ho0 ho1 ho2 ho3 ho4)) | ((with_reducible refine gate_dst (N := 6) rfl ?_); (try (refine gate_guard (by rfl) ?_; dsimp only)); refine bx (N := 6) (cs := #[.slice none 0 0, .int .i64 0, .int .i64 0, .int .i64 0, .slice none 0 0, .bool false, .slice none 0 0, .slice none 0 0, .slice none 0 0]) (t := 36) ?_; intro gb406 hg w21 hbox hb; replace HO389 := kr HO389 hb; replace HO395 := kr HO395 hb; replace HO399 := kr HO399 hb; replace HO402 := kr HO402 hb; replace HO405 := kr HO405 hb; have BK406 := Aside0.mk (hbox); have GW406 := gs hg HB; have GE406 := gs hg HB; replace HB := hs_ HB hb; have NB384_406 := gn hg BK384; have NB406_384 := gm hg BK384; replace BK384 := kb BK384 hb; have NB385_406 := gn hg BK385; have NB406_385 := gm hg BK385; replace BK385 := kb BK385 hb; clear hb hbox hg; obtain ⟨Ao22, co22, eo22⟩ := Kd.R_slice HO389.out; subst eo22; have hnb23 := NB406_384.out; have hnc23 := NB384_406.out; have hnb24 := NB406_385.out; have hnc24 := NB385_406.out; have ⟨z25_0, z25_1, z25_2, z25_3, z25_4, z25_5, z25_6, z25_7, z25_8, v25_0, v25_1, v25_2, v25_3, v25_4, v25_5, v25_6, v25_7, v25_8⟩ := rz9 BK406; obtain ⟨Ao26, co26, eo26⟩ := Kd.R_slice HO395.out; subst eo26; obtain ⟨Ao27, co27, eo27⟩ := Kd.R_slice HO399.out; subst eo27; obtain ⟨Ao28, co28, eo28⟩ := Kd.R_slice HO402.out; subst eo28; obtain ⟨Ao29, co29, eo29⟩ := Kd.R_slice HO405.out; subst eo29))
    go_loopg [22] kj2 (fun kq v22 w' => ∃ (x22_2 : Int) (x386001_2 : Int) (x386002_2 : Int) (x386003_2 : Int) (x386005_2 : Bool) (x407006_2 : List (S95)) (u407006 : Value), v22 = .int .i64 x22_2 ∧ Aside0 (impl_Decide.l0 kq l1 (l1.length : Int) x22_2 l0_0 a0_1 a0_2 a0_3 l0_4 a0_5 l0_6 l0_7 l0_8 t387 t390 t391 t392 t393 t396 x407006_2 t400 t403 = some (r1, r2, r3, r4, r5, r6, r7, r8, r9, r10)) ∧ Aside0 (kq ≤ kj2) ∧ Aside0 (Kd.R k139 139 w' w.heap.size (fun _ => True) (.slice Ao22 t387.length co22) t387) ∧ Aside0 (Kd.R (Kd.int .i64) 3 w' w.heap.size (fun k_ => nb k_ Ao28 t400.length co28 ∧ nb k_ Ao29 t403.length co29) (.slice Ao26 t393.length co26) t393) ∧ Aside0 (Kd.R k95 95 w' w.heap.size (fun _ => True) u407006 x407006_2) ∧ Aside0 (Kd.R (Kd.int .i64) 3 w' w.heap.size (fun k_ => nb k_ Ao26 t393.length co26 ∧ nb k_ Ao29 t403.length co29) (.slice Ao28 t400.length co28) t400) ∧ Aside0 (Kd.R (Kd.int .i64) 3 w' w.heap.size (fun k_ => nb k_ Ao26 t393.length co26 ∧ nb k_ Ao28 t400.length co28) (.slice Ao29 t403.length co29) t403) ∧ Aside0 (w'.heap[gb384]? = some (.cells #[(.slice A0_0 l0_0.length c0_0), .int .i64 a0_1, .int .i64 a0_2, .int .i64 a0_3, (.slice A0_4 l0_4.length c0_4), .bool a0_5, (.slice A0_6 l0_6.length c0_6), (.slice A0_7 l0_7.length c0_7), (.slice A0_8 l0_8.length c0_8)] 36 (0, 0))) ∧ Aside0 (w'.heap[gb385]? = some (.cells #[(.slice none 0 0), .int .i64 x386001_2, .int .i64 x386002_2, .int .i64 x386003_2, (.slice none 0 0), .bool x386005_2, (.slice none 0 0), (.slice none 0 0), (.slice none 0 0)] 36 (0, 0))) ∧ Aside0 (w'.heap[gb406]? = some (.cells #[(.slice Ao22 t387.length co22), .int .i64 t390, .int .i64 t391, .int .i64 t392, (.slice Ao26 t393.length co26), .bool t396, u407006, (.slice Ao28 t400.length co28), (.slice Ao29 t403.length co29)] 36 (0, 0))) ∧ Aside0 (Below w.heap.size w w'))
    case atStart => exact ⟨(0), (0), (0), (0), (false), (t397), (.slice Ao27 t397.length co27), e2_, H', ⟨Nat.le_refl _⟩, ⟨rf HO389 BK406 (fun _ hk => trivial)⟩, ⟨rf HO395 BK406 (fun _ hk => ⟨hk.1.1, hk.1.2⟩)⟩, ⟨rf HO399 BK406 (fun _ hk => trivial)⟩, ⟨rf HO402 BK406 (fun _ hk => ⟨hk.1.1, hk.1.2⟩)⟩, ⟨rf HO405 BK406 (fun _ hk => ⟨hk.1.1, hk.1.2⟩)⟩, ⟨bf NB384_406.out BK384⟩, ⟨bf NB385_406.out BK385⟩, ⟨by (with_reducible repeat (first | refine blk_drewN ?_ _ | refine blk_drew ?_ | refine blk_alloc ?_ _)); refine blk_put (cs := #[.slice Ao22 t387.length co22, .int .i64 t390, .int .i64 t391, .int .i64 t392, .slice Ao26 t393.length co26, .bool t396, .slice Ao27 t397.length co27, .slice Ao28 t400.length co28, .slice none 0 0]) ?_ 8 _ rfl; (with_reducible repeat (first | refine blk_drewN ?_ _ | refine blk_drew ?_ | refine blk_alloc ?_ _)); refine blk_put (cs := #[.slice Ao22 t387.length co22, .int .i64 t390, .int .i64 t391, .int .i64 t392, .slice Ao26 t393.length co26, .bool t396, .slice Ao27 t397.length co27, .slice none 0 0, .slice none 0 0]) ?_ 7 _ rfl; (with_reducible repeat (first | refine blk_drewN ?_ _ | refine blk_drew ?_ | refine blk_alloc ?_ _)); refine blk_put (cs := #[.slice Ao22 t387.length co22, .int .i64 t390, .int .i64 t391, .int .i64 t392, .slice Ao26 t393.length co26, .bool t396, .slice none 0 0, .slice none 0 0, .slice none 0 0]) ?_ 6 _ rfl; (with_reducible repeat (first | refine blk_drewN ?_ _ | refine blk_drew ?_ | refine blk_alloc ?_ _)); refine blk_put (cs := #[.slice Ao22 t387.length co22, .int .i64 t390, .int .i64 t391, .int .i64 t392, .slice Ao26 t393.length co26, .bool false, .slice none 0 0, .slice none 0 0, .slice none 0 0]) ?_ 5 _ rfl; (with_reducible repeat (first | refine blk_drewN ?_ _ | refine blk_drew ?_ | refine blk_alloc ?_ _)); refine blk_put (cs := #[.slice Ao22 t387.length co22, .int .i64 t390, .int .i64 t391, .int .i64 t392, .slice none 0 0, .bool false, .slice none 0 0, .slice none 0 0, .slice none 0 0]) ?_ 4 _ rfl; (with_reducible repeat (first | refine blk_drewN ?_ _ | refine blk_drew ?_ | refine blk_alloc ?_ _)); refine blk_put (cs := #[.slice Ao22 t387.length co22, .int .i64 t390, .int .i64 t391, .int .i64 0, .slice none 0 0, .bool false, .slice none 0 0, .slice none 0 0, .slice none 0 0]) ?_ 3 _ rfl; (with_reducible repeat (first | refine blk_drewN ?_ _ | refine blk_drew ?_ | refine blk_alloc ?_ _)); refine blk_put (cs := #[.slice Ao22 t387.length co22, .int .i64 t390, .int .i64 0, .int .i64 0, .slice none 0 0, .bool false, .slice none 0 0, .slice none 0 0, .slice none 0 0]) ?_ 2 _ rfl; (with_reducible repeat (first | refine blk_drewN ?_ _ | refine blk_drew ?_ | refine blk_alloc ?_ _)); refine blk_put (cs := #[.slice Ao22 t387.length co22, .int .i64 0, .int .i64 0, .int .i64 0, .slice none 0 0, .bool false, .slice none 0 0, .slice none 0 0, .slice none 0 0]) ?_ 1 _ rfl; (with_reducible repeat (first | refine blk_drewN ?_ _ | refine blk_drew ?_ | refine blk_alloc ?_ _)); refine blk_put (cs := #[.slice none 0 0, .int .i64 0, .int .i64 0, .int .i64 0, .slice none 0 0, .bool false, .slice none 0 0, .slice none 0 0, .slice none 0 0]) ?_ 0 _ rfl; (with_reducible repeat (first | refine blk_drewN ?_ _ | refine blk_drew ?_ | refine blk_alloc ?_ _)); exact BK406.out⟩, ⟨bb HB⟩⟩
    case round =>
     clear H'
     (try clear c1)
     (try clear c2)
     (try clear p2)
     (try clear c6)
     (try clear c7)
     (try clear c8)
     (try clear c11)
     (try clear c14)
     (try clear c15)
     (try clear c18)
     (try clear c23)
     (try clear c24)
     (try clear z12_0 z12_1 z12_2 z12_3 z12_4 z12_5 z12_6 z12_7 z12_8)
     (try clear z16_0 z16_1 z16_2 z16_3 z16_4 z16_5 z16_6 z16_7 z16_8)
     (try clear z19_0 z19_1 z19_2 z19_3 z19_4 z19_5 z19_6 z19_7 z19_8)
     (try clear z25_0 z25_1 z25_2 z25_3 z25_4 z25_5 z25_6 z25_7 z25_8)
     (try clear z9_0 z9_1 z9_2 z9_3 z9_4 z9_5 z9_6 z9_7 z9_8)
     (try clear v12_0 v12_1 v12_2 v12_3 v12_4 v12_5 v12_6 v12_7 v12_8)
     (try clear v16_0 v16_1 v16_2 v16_3 v16_4 v16_5 v16_6 v16_7 v16_8)
     (try clear v19_0 v19_1 v19_2 v19_3 v19_4 v19_5 v19_6 v19_7 v19_8)
     (try clear v25_0 v25_1 v25_2 v25_3 v25_4 v25_5 v25_6 v25_7 v25_8)
     (try clear v9_0 v9_1 v9_2 v9_3 v9_4 v9_5 v9_6 v9_7 v9_8)
     (try clear p2)
     obtain ⟨x22_2, x386001_2, x386002_2, x386003_2, x386005_2, x407006_2, u407006, rfl, HA, HK2, HO_407000, HO_407004, HO_407006, HO_407007, HO_407008, BK384, BK385, BK406, HB⟩ := hrel
     cases gk with
     | zero => exact absurd HA.out (by simp [impl_Decide.l0])
     | succ k2 =>
      have H := HA.out
      clear HA
      simp only [impl_Decide.l0] at H
      by_cases c30 : x22_2 < (l1.length : Int)
      ·rw [if_pos c30] at H
       have c30b0 : decide (x22_2 < (l1.length : Int)) = true := decide_eq_true c30
       clear c30
       by_cases c31 : 0 ≤ x22_2
       ·rw [if_pos c31] at H
        have c31b0 : decide (0 ≤ x22_2) = true := decide_eq_true c31
        clear c31
        by_cases c32 : x22_2 < (l1.length : Int)
        ·rw [if_pos c32] at H
         have c32b0 : decide (x22_2 < (l1.length : Int)) = true := decide_eq_true c32
         clear c32
         replace H := Option.bind_eq_some_iff.mp H
         obtain ⟨t409, A330, H⟩ := H
         replace H : (if t409 = true then (if 0 ≤ ((rd_T50 l1 x22_2).f1) then (if ((rd_T50 l1 x22_2).f1) < (l0_6.length : Int) then (if ((rd_T50 l1 x22_2).f1) < (x407006_2.length : Int) then ((some (x407006_2.set (((rd_T50 l1 x22_2).f1) : Int).toNat (⟨(rd_T95 l0_6 ((rd_T50 l1 x22_2).f1)).f0, (rd_T95 l0_6 ((rd_T50 l1 x22_2).f1)).f1, (rd_T95 l0_6 ((rd_T50 l1 x22_2).f1)).f2, (rd_T95 l0_6 ((rd_T50 l1 x22_2).f1)).f3, (rd_T95 l0_6 ((rd_T50 l1 x22_2).f1)).f4⟩ : S95) : List (S95))).bind fun y411 => (if (rd_T50 l1 x22_2).f2 = true then ((impl_awarded.f ((rd_T95 l0_6 ((rd_T50 l1 x22_2).f1)).f0) ((rd_T95 l0_6 ((rd_T50 l1 x22_2).f1)).f1) ((rd_T95 l0_6 ((rd_T50 l1 x22_2).f1)).f2) ((rd_T95 l0_6 ((rd_T50 l1 x22_2).f1)).f3) ((rd_T95 l0_6 ((rd_T50 l1 x22_2).f1)).f4) ((rd_T50 l1 x22_2).f0)).bind fun bt413 => (impl_Decide.l0 k2 l1 (l1.length : Int) (wrap64 (x22_2 + 1)) l0_0 a0_1 a0_2 a0_3 l0_4 a0_5 l0_6 l0_7 l0_8 t387 t390 t391 t392 t393 t396 (y411.set (((rd_T50 l1 x22_2).f1) : Int).toNat (⟨bt413.1, bt413.2.1, bt413.2.2.1, bt413.2.2.2.1, bt413.2.2.2.2⟩ : S95)) t400 t403)) else (impl_Decide.l0 k2 l1 (l1.length : Int) (wrap64 (x22_2 + 1)) l0_0 a0_1 a0_2 a0_3 l0_4 a0_5 l0_6 l0_7 l0_8 t387 t390 t391 t392 t393 t396 y411 t400 t403))) else (none)) else (none)) else (none)) else (some (([] : List (S139)), 0, 0, 0, ([] : List Int), false, ([] : List (S95)), ([] : List Int), ([] : List Int), false))) = some (r1, r2, r3, r4, r5, r6, r7, r8, r9, r10) := H
         have A33 := Aside0.mk A330
         clear A330
         by_cases c34 : t409 = true
         ·subst c34
          have H1 : (if 0 ≤ ((rd_T50 l1 x22_2).f1) then (if ((rd_T50 l1 x22_2).f1) < (l0_6.length : Int) then (if ((rd_T50 l1 x22_2).f1) < (x407006_2.length : Int) then ((some (x407006_2.set (((rd_T50 l1 x22_2).f1) : Int).toNat (⟨(rd_T95 l0_6 ((rd_T50 l1 x22_2).f1)).f0, (rd_T95 l0_6 ((rd_T50 l1 x22_2).f1)).f1, (rd_T95 l0_6 ((rd_T50 l1 x22_2).f1)).f2, (rd_T95 l0_6 ((rd_T50 l1 x22_2).f1)).f3, (rd_T95 l0_6 ((rd_T50 l1 x22_2).f1)).f4⟩ : S95) : List (S95))).bind fun y411 => (if (rd_T50 l1 x22_2).f2 = true then ((impl_awarded.f ((rd_T95 l0_6 ((rd_T50 l1 x22_2).f1)).f0) ((rd_T95 l0_6 ((rd_T50 l1 x22_2).f1)).f1) ((rd_T95 l0_6 ((rd_T50 l1 x22_2).f1)).f2) ((rd_T95 l0_6 ((rd_T50 l1 x22_2).f1)).f3) ((rd_T95 l0_6 ((rd_T50 l1 x22_2).f1)).f4) ((rd_T50 l1 x22_2).f0)).bind fun bt413 => (impl_Decide.l0 k2 l1 (l1.length : Int) (wrap64 (x22_2 + 1)) l0_0 a0_1 a0_2 a0_3 l0_4 a0_5 l0_6 l0_7 l0_8 t387 t390 t391 t392 t393 t396 (y411.set (((rd_T50 l1 x22_2).f1) : Int).toNat (⟨bt413.1, bt413.2.1, bt413.2.2.1, bt413.2.2.2.1, bt413.2.2.2.2⟩ : S95)) t400 t403)) else (impl_Decide.l0 k2 l1 (l1.length : Int) (wrap64 (x22_2 + 1)) l0_0 a0_1 a0_2 a0_3 l0_4 a0_5 l0_6 l0_7 l0_8 t387 t390 t391 t392 t393 t396 y411 t400 t403))) else (none)) else (none)) else (none)) = some (r1, r2, r3, r4, r5, r6, r7, r8, r9, r10) := by rw [if_pos rfl] at H; exact H
          clear H
          have H := H1
          clear H1
          by_cases c35 : 0 ≤ ((rd_T50 l1 x22_2).f1)
          ·rw [if_pos c35] at H
           have c35b0 : decide (0 ≤ ((rd_T50 l1 x22_2).f1)) = true := decide_eq_true c35
           clear c35
           by_cases c36 : ((rd_T50 l1 x22_2).f1) < (l0_6.length : Int)
           ·rw [if_pos c36] at H
            have c36b0 : decide (((rd_T50 l1 x22_2).f1) < (l0_6.length : Int)) = true := decide_eq_true c36
            clear c36
            by_cases c37 : ((rd_T50 l1 x22_2).f1) < (x407006_2.length : Int)
            ·rw [if_pos c37] at H
             have c37b0 : decide (((rd_T50 l1 x22_2).f1) < (x407006_2.length : Int)) = true := decide_eq_true c37
             clear c37
             obtain ⟨y411, hy411⟩ : ∃ y_ : List (S95), y_ = (x407006_2.set (((rd_T50 l1 x22_2).f1) : Int).toNat (⟨(rd_T95 l0_6 ((rd_T50 l1 x22_2).f1)).f0, (rd_T95 l0_6 ((rd_T50 l1 x22_2).f1)).f1, (rd_T95 l0_6 ((rd_T50 l1 x22_2).f1)).f2, (rd_T95 l0_6 ((rd_T50 l1 x22_2).f1)).f3, (rd_T95 l0_6 ((rd_T50 l1 x22_2).f1)).f4⟩ : S95)) := ⟨_, rfl⟩
             replace H : (if (rd_T50 l1 x22_2).f2 = true then ((impl_awarded.f ((rd_T95 l0_6 ((rd_T50 l1 x22_2).f1)).f0) ((rd_T95 l0_6 ((rd_T50 l1 x22_2).f1)).f1) ((rd_T95 l0_6 ((rd_T50 l1 x22_2).f1)).f2) ((rd_T95 l0_6 ((rd_T50 l1 x22_2).f1)).f3) ((rd_T95 l0_6 ((rd_T50 l1 x22_2).f1)).f4) ((rd_T50 l1 x22_2).f0)).bind fun bt413 => (impl_Decide.l0 k2 l1 (l1.length : Int) (wrap64 (x22_2 + 1)) l0_0 a0_1 a0_2 a0_3 l0_4 a0_5 l0_6 l0_7 l0_8 t387 t390 t391 t392 t393 t396 (y411.set (((rd_T50 l1 x22_2).f1) : Int).toNat (⟨bt413.1, bt413.2.1, bt413.2.2.1, bt413.2.2.2.1, bt413.2.2.2.2⟩ : S95)) t400 t403)) else (impl_Decide.l0 k2 l1 (l1.length : Int) (wrap64 (x22_2 + 1)) l0_0 a0_1 a0_2 a0_3 l0_4 a0_5 l0_6 l0_7 l0_8 t387 t390 t391 t392 t393 t396 y411 t400 t403)) = some (r1, r2, r3, r4, r5, r6, r7, r8, r9, r10) := by first | (rw [hy411]; with_reducible exact H) | (have H2_ := (Option.bind_some _ _).symm.trans H; rw [hy411]; with_reducible exact H2_) | (have H2_ := (Option.bind_some _ _).symm.trans H; with_reducible exact H2_) | with_reducible exact H | (rw [hy411]; exact H) | exact H
             have Ny411 := Aside0.mk hy411
             clear hy411
             obtain ⟨bq39, hbq39⟩ : ∃ b_ : Bool, b_ = ((rd_T50 l1 x22_2).f2) := ⟨_, rfl⟩
             replace H : (if bq39 = true then ((impl_awarded.f ((rd_T95 l0_6 ((rd_T50 l1 x22_2).f1)).f0) ((rd_T95 l0_6 ((rd_T50 l1 x22_2).f1)).f1) ((rd_T95 l0_6 ((rd_T50 l1 x22_2).f1)).f2) ((rd_T95 l0_6 ((rd_T50 l1 x22_2).f1)).f3) ((rd_T95 l0_6 ((rd_T50 l1 x22_2).f1)).f4) ((rd_T50 l1 x22_2).f0)).bind fun bt413 => (impl_Decide.l0 k2 l1 (l1.length : Int) (wrap64 (x22_2 + 1)) l0_0 a0_1 a0_2 a0_3 l0_4 a0_5 l0_6 l0_7 l0_8 t387 t390 t391 t392 t393 t396 (y411.set (((rd_T50 l1 x22_2).f1) : Int).toNat (⟨bt413.1, bt413.2.1, bt413.2.2.1, bt413.2.2.2.1, bt413.2.2.2.2⟩ : S95)) t400 t403)) else (impl_Decide.l0 k2 l1 (l1.length : Int) (wrap64 (x22_2 + 1)) l0_0 a0_1 a0_2 a0_3 l0_4 a0_5 l0_6 l0_7 l0_8 t387 t390 t391 t392 t393 t396 y411 t400 t403)) = some (r1, r2, r3, r4, r5, r6, r7, r8, r9, r10) := by rw [← hbq39] at H; exact H
             have Nbq39 := Aside0.mk hbq39
             clear hbq39
             by_cases c40 : bq39 = true
             ·subst c40
              have H1 : ((impl_awarded.f ((rd_T95 l0_6 ((rd_T50 l1 x22_2).f1)).f0) ((rd_T95 l0_6 ((rd_T50 l1 x22_2).f1)).f1) ((rd_T95 l0_6 ((rd_T50 l1 x22_2).f1)).f2) ((rd_T95 l0_6 ((rd_T50 l1 x22_2).f1)).f3) ((rd_T95 l0_6 ((rd_T50 l1 x22_2).f1)).f4) ((rd_T50 l1 x22_2).f0)).bind fun bt413 => (impl_Decide.l0 k2 l1 (l1.length : Int) (wrap64 (x22_2 + 1)) l0_0 a0_1 a0_2 a0_3 l0_4 a0_5 l0_6 l0_7 l0_8 t387 t390 t391 t392 t393 t396 (y411.set (((rd_T50 l1 x22_2).f1) : Int).toNat (⟨bt413.1, bt413.2.1, bt413.2.2.1, bt413.2.2.2.1, bt413.2.2.2.2⟩ : S95)) t400 t403)) = some (r1, r2, r3, r4, r5, r6, r7, r8, r9, r10) := by rw [if_pos rfl] at H; exact H
              clear H
              have H := H1
              clear H1
              replace H := Option.bind_eq_some_iff.mp H
              obtain ⟨⟨t413, t414, t415, t416, t417⟩, A410, H⟩ := H
              replace H : (impl_Decide.l0 k2 l1 (l1.length : Int) (wrap64 (x22_2 + 1)) l0_0 a0_1 a0_2 a0_3 l0_4 a0_5 l0_6 l0_7 l0_8 t387 t390 t391 t392 t393 t396 (y411.set (((rd_T50 l1 x22_2).f1) : Int).toNat (⟨t413, t414, t415, t416, t417⟩ : S95)) t400 t403) = some (r1, r2, r3, r4, r5, r6, r7, r8, r9, r10) := H
              have A41 := Aside0.mk A410
              clear A410
              obtain ⟨y418, hy418⟩ : ∃ y_ : List (S95), y_ = (y411.set (((rd_T50 l1 x22_2).f1) : Int).toNat (⟨t413, t414, t415, t416, t417⟩ : S95)) := ⟨_, rfl⟩
              replace H : (impl_Decide.l0 k2 l1 (l1.length : Int) (wrap64 (x22_2 + 1)) l0_0 a0_1 a0_2 a0_3 l0_4 a0_5 l0_6 l0_7 l0_8 t387 t390 t391 t392 t393 t396 y418 t400 t403) = some (r1, r2, r3, r4, r5, r6, r7, r8, r9, r10) := by first | (rw [hy418]; with_reducible exact H) | (have H2_ := (Option.bind_some _ _).symm.trans H; rw [hy418]; with_reducible exact H2_) | (have H2_ := (Option.bind_some _ _).symm.trans H; with_reducible exact H2_) | with_reducible exact H | (rw [hy418]; exact H) | exact H
              have Ny418 := Aside0.mk hy418
              clear hy418
              have H' := Aside0.mk H
              clear H
              have p407 : 0 ≤ (x22_2 : Int) := oa
              have q407 : x22_2 < (l1.length : Int) := oa
              obtain ⟨ad407, e407, hx407_0, hx407_1, hx407_2⟩ := at_T50 HR1.out x22_2 p407 q407
              (try rw [← Nbq39.out] at hx407_2)
              cases e407
              replace hx407_0 := hc HB hx407_0
              replace hx407_1 := hc HB hx407_1
              replace hx407_2 := hc HB hx407_2
              replace p407 := eq_true p407
              replace q407 := eq_true q407
              try go_wp2_with (first | ((with_reducible refine gate_dst (N := 8) rfl ?_); (try (refine gate_guard (by rfl) ?_; dsimp only)); refine bx (N := 8) (cs := #[.int .i64 0, .int .i64 0, .bool false]) (t := 50) ?_; intro gb408 hg w43 hbox hb; replace HO_407000 := kr HO_407000 hb; replace HO_407004 := kr HO_407004 hb; replace HO_407006 := kr HO_407006 hb; replace HO_407007 := kr HO_407007 hb; replace HO_407008 := kr HO_407008 hb; have BK408 := Aside0.mk (hbox); have GW408 := gs hg HB; have GE408 := gs hg HB; replace HB := hs_ HB hb; have NB384_408 := gn hg BK384; have NB408_384 := gm hg BK384; replace BK384 := kb BK384 hb; have NB385_408 := gn hg BK385; have NB408_385 := gm hg BK385; replace BK385 := kb BK385 hb; have NB406_408 := gn hg BK406; have NB408_406 := gm hg BK406; replace BK406 := kb BK406 hb; clear hb hbox hg; have hnb44 := NB408_384.out; have hnc44 := NB384_408.out; have hnb45 := NB408_385.out; have hnc45 := NB385_408.out; have hnb46 := NB408_406.out; have hnc46 := NB406_408.out; have ⟨z47_0, z47_1, z47_2, v47_0, v47_1, v47_2⟩ := rz3 BK408; have hnb48 := NB384_385.out; have hnc48 := NB385_384.out; have hnb49 := NB384_406.out; have hnc49 := NB406_384.out; have ⟨z50_0, z50_1, z50_2, z50_3, z50_4, z50_5, z50_6, z50_7, z50_8, v50_0, v50_1, v50_2, v50_3, v50_4, v50_5, v50_6, v50_7, v50_8⟩ := rz9 BK384) | ((with_reducible refine gate_callee (f := 63) rfl ?_); refine gl (some 28) Try.func63 #[.agg #[.slice A0_0 l0_0.length c0_0, .int .i64 a0_1, .int .i64 a0_2, .int .i64 a0_3, .slice A0_4 l0_4.length c0_4, .bool a0_5, .slice A0_6 l0_6.length c0_6, .slice A0_7 l0_7.length c0_7, .slice A0_8 l0_8.length c0_8], .agg #[.int .i64 ((rd_T50 l1 x22_2).f0), .int .i64 ((rd_T50 l1 x22_2).f1), .bool true]] ?_; (with_reducible refine (impl_ProtestOk.calls k2 _ _ l0_0 a0_1 a0_2 a0_3 _ _ l0_4 a0_5 _ _ l0_6 _ _ l0_7 _ _ l0_8 ((rd_T50 l1 x22_2).f0) ((rd_T50 l1 x22_2).f1) true true _ ?side1 ?side2 ?side3 ?side4 ?side5 ?side6 ?side7 ?side8 ?side9 ?side10 (by first | exact A33.out | (have h_ := A33.out; rw [← Nbq39.out] at h_; exact h_))).mono ?_); (case side1 => exact Kd.C_below HR0_0.out (bb HB)); (case side2 => exact HC0_0.out); (case side3 => exact Kd.C_below HR0_4.out (bb HB)); (case side4 => exact HC0_4.out); (case side5 => exact Kd.C_below HR0_6.out (bb HB)); (case side6 => exact HC0_6.out); (case side7 => exact Kd.C_below HR0_7.out (bb HB)); (case side8 => exact HC0_7.out); (case side9 => exact Kd.C_below HR0_8.out (bb HB)); (case side10 => exact HC0_8.out); rintro e w51 ⟨rfl, hb⟩; refine ⟨_, rfl, ?_⟩; replace HO_407000 := kf HO_407000 BK408 hb; replace HO_407004 := kf HO_407004 BK408 hb; replace HO_407006 := kf HO_407006 BK408 hb; replace HO_407007 := kf HO_407007 BK408 hb; replace HO_407008 := kf HO_407008 BK408 hb; replace BK384 := Aside0.mk (blk_below (bf NB384_408.out BK384) hb); replace BK385 := Aside0.mk (blk_below (bf NB385_408.out BK385) hb); replace BK406 := Aside0.mk (blk_below (bf NB406_408.out BK406) hb); replace BK408 := Aside0.mk (blk_below (g := gb408) (o := .cells #[.int .i64 ((rd_T50 l1 x22_2).f0), .int .i64 ((rd_T50 l1 x22_2).f1), .bool true] 50 (0, 0)) (bp BK408) hb); replace HB := hs_ HB hb; (try clear hb hb2 hk hi)))
              replace HO_407000 := Aside0.mk (Kd.R_drew HO_407000.out)
              replace HO_407004 := Aside0.mk (Kd.R_drew HO_407004.out)
              replace HO_407006 := Aside0.mk (Kd.R_drew HO_407006.out)
              replace HO_407007 := Aside0.mk (Kd.R_drew HO_407007.out)
              replace HO_407008 := Aside0.mk (Kd.R_drew HO_407008.out)
              replace BK384 := Aside0.mk (blk_drew BK384.out)
              replace BK385 := Aside0.mk (blk_drew BK385.out)
              replace BK406 := Aside0.mk (blk_drew BK406.out)
              replace BK408 := Aside0.mk (blk_drew BK408.out)
              replace HB := Aside0.mk (below_drew1 HB.out)
              have p410 : 0 ≤ (((rd_T50 l1 x22_2).f1) : Int) := oa
              have q410 : ((rd_T50 l1 x22_2).f1) < (l0_6.length : Int) := oa
              obtain ⟨ad410, e410, hx410_0, hx410_1, hx410_2, hx410_3, hx410_4⟩ := at_T95 HR0_6.out ((rd_T50 l1 x22_2).f1) p410 q410
              have hw410_4 := hx410_4
              have hw410_3 := hx410_3
              have hw410_2 := hx410_2
              have hw410_1 := hx410_1
              have hw410_0 := hx410_0
              cases e410
              replace hx410_0 := hc HB hx410_0
              replace hx410_1 := hc HB hx410_1
              replace hx410_2 := hc HB hx410_2
              replace hx410_3 := hc HB hx410_3
              replace hx410_4 := hc HB hx410_4
              replace p410 := eq_true p410
              replace q410 := eq_true q410
              have p38 : 0 ≤ (((rd_T50 l1 x22_2).f1) : Int) := oa
              have q38 : (((rd_T50 l1 x22_2).f1) : Int) < ((x407006_2.length : Int) : Int) := oa
              obtain ⟨go38, co38, eo38, gb38, gl38, cl38, HG38⟩ := Kd.R_form HO_407006.out (by omega)
              (first | cases eo38 | (injection eo38 with ea_ en_ ec_; (first | subst ea_ | (injection ea_ with ea_; subst ea_)); subst ec_; clear en_))
              have GB38 := Aside0.mk gb38
              have GG38 := Aside0.mk HG38
              clear gb38 gl38 HG38
              obtain ⟨ce38, hcl38, hM38, hcc38, hfr38⟩ := Kd.R_elem HO_407006.out z95 (((rd_T50 l1 x22_2).f1) : Int) p38 q38
              obtain rfl := k95_openM hM38
              have hx38_0 : World.cell? _ ⟨go38, (((rd_T50 l1 x22_2).f1) : Int).toNat * 5, none⟩ = some (.int .i64 ((rd_T95 x407006_2 ((rd_T50 l1 x22_2).f1)).f0)) := hcc38 0 _ rfl
              have hx38_1 : World.cell? _ ⟨go38, (((rd_T50 l1 x22_2).f1) : Int).toNat * 5 + 1, none⟩ = some (.int .i64 ((rd_T95 x407006_2 ((rd_T50 l1 x22_2).f1)).f1)) := hcc38 1 _ rfl
              have hx38_2 : World.cell? _ ⟨go38, (((rd_T50 l1 x22_2).f1) : Int).toNat * 5 + 2, none⟩ = some (.int .i64 ((rd_T95 x407006_2 ((rd_T50 l1 x22_2).f1)).f2)) := hcc38 2 _ rfl
              have hx38_3 : World.cell? _ ⟨go38, (((rd_T50 l1 x22_2).f1) : Int).toNat * 5 + 3, none⟩ = some (.int .i64 ((rd_T95 x407006_2 ((rd_T50 l1 x22_2).f1)).f3)) := hcc38 3 _ rfl
              have hx38_4 : World.cell? _ ⟨go38, (((rd_T50 l1 x22_2).f1) : Int).toNat * 5 + 4, none⟩ = some (.int .i64 ((rd_T95 x407006_2 ((rd_T50 l1 x22_2).f1)).f4)) := hcc38 4 _ rfl
              have hf38_0 : World.frozen? _ ⟨go38, (((rd_T50 l1 x22_2).f1) : Int).toNat * 5, none⟩ = false := hfr38 0
              have hf38_1 : World.frozen? _ ⟨go38, (((rd_T50 l1 x22_2).f1) : Int).toNat * 5 + 1, none⟩ = false := hfr38 1
              have hf38_2 : World.frozen? _ ⟨go38, (((rd_T50 l1 x22_2).f1) : Int).toNat * 5 + 2, none⟩ = false := hfr38 2
              have hf38_3 : World.frozen? _ ⟨go38, (((rd_T50 l1 x22_2).f1) : Int).toNat * 5 + 3, none⟩ = false := hfr38 3
              have hf38_4 : World.frozen? _ ⟨go38, (((rd_T50 l1 x22_2).f1) : Int).toNat * 5 + 4, none⟩ = false := hfr38 4
              clear hcl38 hcc38 hfr38; (try clear hM38)
              replace p38 := eq_true p38
              replace q38 := eq_true q38
              obtain ⟨ce53, hcl53, hM53, hcc53, hfr53⟩ := Kd.R_elem HO_407006.out z95 (((rd_T50 l1 x22_2).f1) : Int) (oa) (by have h_ : (((rd_T50 l1 x22_2).f1) : Int) < ((x407006_2.length : Int) : Int) := oa; first | exact h_ | (have e_ := (Kd.R_reads' HO_407006.out).1; omega) | simpa using h_)
              obtain rfl := k95_openM hM53
              have HP53 := (Kd.R_seg HO_407006.out (((rd_T50 l1 x22_2).f1) : Int) (oa) (by have h_ : (((rd_T50 l1 x22_2).f1) : Int) < ((x407006_2.length : Int) : Int) := oa; first | exact h_ | (have e_ := (Kd.R_reads' HO_407006.out).1; omega) | simpa using h_) (seg := [.int .i64 ((rd_T95 l0_6 ((rd_T50 l1 x22_2).f1)).f0), .int .i64 ((rd_T95 l0_6 ((rd_T50 l1 x22_2).f1)).f1), .int .i64 ((rd_T95 l0_6 ((rd_T50 l1 x22_2).f1)).f2), .int .i64 ((rd_T95 l0_6 ((rd_T50 l1 x22_2).f1)).f3), .int .i64 ((rd_T95 l0_6 ((rd_T50 l1 x22_2).f1)).f4)]) (j := 0) hcl53 hcc53 (show 5 ≤ 5 from by decide) (x' := (⟨(rd_T95 l0_6 ((rd_T50 l1 x22_2).f1)).f0, (rd_T95 l0_6 ((rd_T50 l1 x22_2).f1)).f1, (rd_T95 l0_6 ((rd_T50 l1 x22_2).f1)).f2, (rd_T95 l0_6 ((rd_T50 l1 x22_2).f1)).f3, (rd_T95 l0_6 ((rd_T50 l1 x22_2).f1)).f4⟩ : S95)) (k95_mkM _ _ _ (⟨(rd_T95 l0_6 ((rd_T50 l1 x22_2).f1)).f0, (rd_T95 l0_6 ((rd_T50 l1 x22_2).f1)).f1, (rd_T95 l0_6 ((rd_T50 l1 x22_2).f1)).f2, (rd_T95 l0_6 ((rd_T50 l1 x22_2).f1)).f3, (rd_T95 l0_6 ((rd_T50 l1 x22_2).f1)).f4⟩ : S95) ) (fun _ hk => hk)).1
              rw [← Ny411.out] at HP53
              have HQ53 := Aside0.mk HP53
              clear hcl53 hcc53 hfr53 hM53 HP53
              refine start_ (n := 12) (S := fun w' => w'.cell? ⟨gb406, 0, none⟩ = some (.slice Ao22 t387.length co22) ∧ w'.cell? ⟨gb406, 1, none⟩ = some (.int .i64 t390) ∧ w'.cell? ⟨gb406, 2, none⟩ = some (.int .i64 t391) ∧ w'.cell? ⟨gb406, 3, none⟩ = some (.int .i64 t392) ∧ w'.cell? ⟨gb406, 4, none⟩ = some (.slice Ao26 t393.length co26) ∧ w'.cell? ⟨gb406, 5, none⟩ = some (.bool t396) ∧ w'.cell? ⟨gb406, 6, none⟩ = some (.slice (some ⟨go38, 0, none⟩) x407006_2.length co38) ∧ w'.cell? ⟨gb406, 7, none⟩ = some (.slice Ao28 t400.length co28) ∧ w'.cell? ⟨gb406, 8, none⟩ = some (.slice Ao29 t403.length co29) ∧ w'.cell? ⟨gb408, 0, none⟩ = some (.int .i64 ((rd_T50 l1 x22_2).f0)) ∧ w'.cell? ⟨gb408, 1, none⟩ = some (.int .i64 ((rd_T50 l1 x22_2).f1)) ∧ w'.cell? ⟨gb408, 2, none⟩ = some (.bool true) ∧ w'.cell? ⟨gb384, 0, none⟩ = some (.slice A0_0 l0_0.length c0_0) ∧ w'.cell? ⟨gb384, 1, none⟩ = some (.int .i64 a0_1) ∧ w'.cell? ⟨gb384, 2, none⟩ = some (.int .i64 a0_2) ∧ w'.cell? ⟨gb384, 3, none⟩ = some (.int .i64 a0_3) ∧ w'.cell? ⟨gb384, 4, none⟩ = some (.slice A0_4 l0_4.length c0_4) ∧ w'.cell? ⟨gb384, 5, none⟩ = some (.bool a0_5) ∧ w'.cell? ⟨gb384, 6, none⟩ = some (.slice (some ad410) l0_6.length c0_6) ∧ w'.cell? ⟨gb384, 7, none⟩ = some (.slice A0_7 l0_7.length c0_7) ∧ w'.cell? ⟨gb384, 8, none⟩ = some (.slice A0_8 l0_8.length c0_8) ∧ w'.cell? (ad410.add ((((rd_T50 l1 x22_2).f1)).toNat * 5)) = some (.int .i64 ((rd_T95 l0_6 ((rd_T50 l1 x22_2).f1)).f0)) ∧ w'.cell? ⟨(ad410.add ((((rd_T50 l1 x22_2).f1)).toNat * 5)).block, (ad410.add ((((rd_T50 l1 x22_2).f1)).toNat * 5)).off + 1, none⟩ = some (.int .i64 ((rd_T95 l0_6 ((rd_T50 l1 x22_2).f1)).f1)) ∧ w'.cell? ⟨(ad410.add ((((rd_T50 l1 x22_2).f1)).toNat * 5)).block, (ad410.add ((((rd_T50 l1 x22_2).f1)).toNat * 5)).off + 2, none⟩ = some (.int .i64 ((rd_T95 l0_6 ((rd_T50 l1 x22_2).f1)).f2)) ∧ w'.cell? ⟨(ad410.add ((((rd_T50 l1 x22_2).f1)).toNat * 5)).block, (ad410.add ((((rd_T50 l1 x22_2).f1)).toNat * 5)).off + 3, none⟩ = some (.int .i64 ((rd_T95 l0_6 ((rd_T50 l1 x22_2).f1)).f3)) ∧ w'.cell? ⟨(ad410.add ((((rd_T50 l1 x22_2).f1)).toNat * 5)).block, (ad410.add ((((rd_T50 l1 x22_2).f1)).toNat * 5)).off + 4, none⟩ = some (.int .i64 ((rd_T95 l0_6 ((rd_T50 l1 x22_2).f1)).f4))) (ds := [11]) #[false, false, false, false, false, false, false, false, false, false, false, false] (by kernel_rfl) rfl rfl ⟨bc BK406 0, bc BK406 1, bc BK406 2, bc BK406 3, bc BK406 4, bc BK406 5, bc BK406 6, bc BK406 7, bc BK406 8, bc BK408 0, bc BK408 1, bc BK408 2, bc BK384 0, bc BK384 1, bc BK384 2, bc BK384 3, bc BK384 4, bc BK384 5, bc BK384 6, bc BK384 7, bc BK384 8, (hc HB hw410_0), (hc HB hw410_1), (hc HB hw410_2), (hc HB hw410_3), (hc HB hw410_4)⟩ (fun hHeld => ?_); refine with_tabW impl_Decide.tab9 impl_Decide.bits9 (fun HT_ HW_ => ?_)
              generalize w51.drew = w52 at HO_407000 HO_407004 HO_407006 HO_407007 HO_407008 BK384 BK385 BK406 BK408 HB GG38 HQ53 hf38_0 hf38_1 hf38_2 hf38_3 hf38_4 hx38_0 hx38_1 hx38_2 hx38_3 hx38_4 hx410_0 hx410_1 hx410_2 hx410_3 hx410_4 hHeld ⊢
              refine pz_ 0 31 ?_
              refine pz_ 2 33 ?_
              refine pz_ 4 35 ?_
              refine pz_ 6 37 ?_
              refine take_ (i := 1) (N := some 32) (v := ?_) (a' := ?_) #[true, true, true, false, true, false, true, false, false, false, false, false] rfl rfl (take_ofW HT_.out HW_.out (by kernel_rfl)) (fun _ _ _ h => h) (Or.inl ⟨by rfl, ?_⟩) hHeld ?_ ?_
              rotate_left
              ·rintro w' ⟨s0, s1, s2, s3, s4, s5, s6, s7, s8, s9, s10, s11, s12, s13, s14, s15, s16, s17, s18, s19, s20, s21, s22, s23, s24, s25⟩
               go_simp
               with_reducible rfl
              rotate_left
              ·simp only [Act.put, List.setIfInBounds_toArray, List.set_cons_zero, List.set_cons_succ, i64_w, i32_w]
               rfl
              refine take_ (i := 3) (N := some 34) (v := ?_) (a' := ?_) #[true, true, true, true, true, false, true, false, false, false, false, false] rfl rfl (take_ofW HT_.out HW_.out (by kernel_rfl)) (fun _ _ _ h => h) (Or.inl ⟨by rfl, ?_⟩) hHeld ?_ ?_
              rotate_left
              ·rintro w' ⟨s0, s1, s2, s3, s4, s5, s6, s7, s8, s9, s10, s11, s12, s13, s14, s15, s16, s17, s18, s19, s20, s21, s22, s23, s24, s25⟩
               go_simp
               with_reducible rfl
              rotate_left
              ·simp only [Act.put, List.setIfInBounds_toArray, List.set_cons_zero, List.set_cons_succ, i64_w, i32_w]
               rfl
              refine take_ (i := 5) (N := some 36) (v := ?_) (a' := ?_) #[true, true, true, true, true, true, true, false, false, false, false, false] rfl rfl (take_ofW HT_.out HW_.out (by kernel_rfl)) (fun _ _ _ h => h) (Or.inl ⟨by rfl, ?_⟩) hHeld ?_ ?_
              rotate_left
              ·rintro w' ⟨s0, s1, s2, s3, s4, s5, s6, s7, s8, s9, s10, s11, s12, s13, s14, s15, s16, s17, s18, s19, s20, s21, s22, s23, s24, s25⟩
               go_simp
               with_reducible rfl
              rotate_left
              ·simp only [Act.put, List.setIfInBounds_toArray, List.set_cons_zero, List.set_cons_succ, i64_w, i32_w]
               rfl
              refine take_ (i := 7) (N := some 38) (v := ?_) (a' := ?_) #[true, true, true, true, true, true, true, true, false, false, false, false] rfl rfl (take_ofW HT_.out HW_.out (by kernel_rfl)) (fun _ _ _ h => h) (Or.inl ⟨by rfl, ?_⟩) hHeld ?_ ?_
              rotate_left
              ·rintro w' ⟨s0, s1, s2, s3, s4, s5, s6, s7, s8, s9, s10, s11, s12, s13, s14, s15, s16, s17, s18, s19, s20, s21, s22, s23, s24, s25⟩
               go_simp
               with_reducible rfl
              rotate_left
              ·simp only [Act.put, List.setIfInBounds_toArray, List.set_cons_zero, List.set_cons_succ, i64_w, i32_w]
               rfl
              refine pz_ 8 39 ?_
              refine take_ (i := 9) (N := some 40) (v := ?_) (a' := ?_) #[true, true, true, true, true, true, true, true, true, true, false, false] rfl rfl (take_ofW HT_.out HW_.out (by kernel_rfl)) (fun _ _ _ h => h) (Or.inl ⟨by rfl, ?_⟩) hHeld ?_ ?_
              rotate_left
              ·rintro w' ⟨s0, s1, s2, s3, s4, s5, s6, s7, s8, s9, s10, s11, s12, s13, s14, s15, s16, s17, s18, s19, s20, s21, s22, s23, s24, s25⟩
               go_simp
               with_reducible rfl
              rotate_left
              ·simp only [Act.put, List.setIfInBounds_toArray, List.set_cons_zero, List.set_cons_succ, i64_w, i32_w]
               rfl
              refine pz_ 10 41 ?_
              refine last_ (i := 11) (N := none) #[true, true, true, true, true, true, true, true, true, true, true, true] rfl rfl (one_of HT_.out (by kernel_rfl)) (by decide) (fun K hK => ?_)
              refine skip_ (w1 := ?_) (by rfl) rfl ?_ ?_
              rotate_left
              ·go_simp
               rfl
              refine hK.out _ _ ?_
              clear hK K
              refine done_ (done_of HT_.out (by kernel_rfl)) ?_
              have ⟨z54_0, z54_1, z54_2, v54_0, v54_1, v54_2⟩ := rz3 BK408
              have hnr408 : go38 ≠ gb408 := fun e_ => Kd.R_ne HO_407006.out BK408.out (by decide) (by rw [← e_]; rfl)
              have hns408 : gb408 ≠ go38 := fun e_ => hnr408 e_.symm
              try go_wp2
              have n0_ : Aside0 (Kd.R k139 139 (((((w52.setCell ⟨go38, (((rd_T50 l1 x22_2).f1) : Int).toNat * 5, none⟩ (.int .i64 ((rd_T95 l0_6 ((rd_T50 l1 x22_2).f1)).f0))).setCell ⟨go38, (((rd_T50 l1 x22_2).f1) : Int).toNat * 5 + 1, none⟩ (.int .i64 ((rd_T95 l0_6 ((rd_T50 l1 x22_2).f1)).f1))).setCell ⟨go38, (((rd_T50 l1 x22_2).f1) : Int).toNat * 5 + 2, none⟩ (.int .i64 ((rd_T95 l0_6 ((rd_T50 l1 x22_2).f1)).f2))).setCell ⟨go38, (((rd_T50 l1 x22_2).f1) : Int).toNat * 5 + 3, none⟩ (.int .i64 ((rd_T95 l0_6 ((rd_T50 l1 x22_2).f1)).f3))).setCell ⟨go38, (((rd_T50 l1 x22_2).f1) : Int).toNat * 5 + 4, none⟩ (.int .i64 ((rd_T95 l0_6 ((rd_T50 l1 x22_2).f1)).f4))) w.heap.size (fun _ => True) (.slice Ao22 t387.length co22) t387) := ⟨by (with_reducible repeat (first | apply Kd.R_alloc | apply Kd.R_drewN | apply Kd.R_drew)); exact Kd.R_mono (Kd.R_far (p := ⟨go38, (((rd_T50 l1 x22_2).f1) : Int).toNat * 5 + 4, none⟩) (Kd.R_far (p := ⟨go38, (((rd_T50 l1 x22_2).f1) : Int).toNat * 5 + 3, none⟩) (Kd.R_far (p := ⟨go38, (((rd_T50 l1 x22_2).f1) : Int).toNat * 5 + 2, none⟩) (Kd.R_far (p := ⟨go38, (((rd_T50 l1 x22_2).f1) : Int).toNat * 5 + 1, none⟩) (Kd.R_far (p := ⟨go38, (((rd_T50 l1 x22_2).f1) : Int).toNat * 5, none⟩) (Kd.R_types HO_407000.out GG38.out (by decide)) (fun _ hk => hk.2) (.int .i64 ((rd_T95 l0_6 ((rd_T50 l1 x22_2).f1)).f0))) (fun _ hk => hk.2) (.int .i64 ((rd_T95 l0_6 ((rd_T50 l1 x22_2).f1)).f1))) (fun _ hk => hk.2) (.int .i64 ((rd_T95 l0_6 ((rd_T50 l1 x22_2).f1)).f2))) (fun _ hk => hk.2) (.int .i64 ((rd_T95 l0_6 ((rd_T50 l1 x22_2).f1)).f3))) (fun _ hk => hk.2) (.int .i64 ((rd_T95 l0_6 ((rd_T50 l1 x22_2).f1)).f4))) (fun _ hk => trivial)⟩
              have n1_ : Aside0 (Kd.R (Kd.int .i64) 3 (((((w52.setCell ⟨go38, (((rd_T50 l1 x22_2).f1) : Int).toNat * 5, none⟩ (.int .i64 ((rd_T95 l0_6 ((rd_T50 l1 x22_2).f1)).f0))).setCell ⟨go38, (((rd_T50 l1 x22_2).f1) : Int).toNat * 5 + 1, none⟩ (.int .i64 ((rd_T95 l0_6 ((rd_T50 l1 x22_2).f1)).f1))).setCell ⟨go38, (((rd_T50 l1 x22_2).f1) : Int).toNat * 5 + 2, none⟩ (.int .i64 ((rd_T95 l0_6 ((rd_T50 l1 x22_2).f1)).f2))).setCell ⟨go38, (((rd_T50 l1 x22_2).f1) : Int).toNat * 5 + 3, none⟩ (.int .i64 ((rd_T95 l0_6 ((rd_T50 l1 x22_2).f1)).f3))).setCell ⟨go38, (((rd_T50 l1 x22_2).f1) : Int).toNat * 5 + 4, none⟩ (.int .i64 ((rd_T95 l0_6 ((rd_T50 l1 x22_2).f1)).f4))) w.heap.size (fun k_ => nb k_ Ao28 t400.length co28 ∧ nb k_ Ao29 t403.length co29) (.slice Ao26 t393.length co26) t393) := ⟨by (with_reducible repeat (first | apply Kd.R_alloc | apply Kd.R_drewN | apply Kd.R_drew)); exact Kd.R_mono (Kd.R_far (p := ⟨go38, (((rd_T50 l1 x22_2).f1) : Int).toNat * 5 + 4, none⟩) (Kd.R_far (p := ⟨go38, (((rd_T50 l1 x22_2).f1) : Int).toNat * 5 + 3, none⟩) (Kd.R_far (p := ⟨go38, (((rd_T50 l1 x22_2).f1) : Int).toNat * 5 + 2, none⟩) (Kd.R_far (p := ⟨go38, (((rd_T50 l1 x22_2).f1) : Int).toNat * 5 + 1, none⟩) (Kd.R_far (p := ⟨go38, (((rd_T50 l1 x22_2).f1) : Int).toNat * 5, none⟩) (Kd.R_types HO_407004.out GG38.out (by decide)) (fun _ hk => hk.2) (.int .i64 ((rd_T95 l0_6 ((rd_T50 l1 x22_2).f1)).f0))) (fun _ hk => hk.2) (.int .i64 ((rd_T95 l0_6 ((rd_T50 l1 x22_2).f1)).f1))) (fun _ hk => hk.2) (.int .i64 ((rd_T95 l0_6 ((rd_T50 l1 x22_2).f1)).f2))) (fun _ hk => hk.2) (.int .i64 ((rd_T95 l0_6 ((rd_T50 l1 x22_2).f1)).f3))) (fun _ hk => hk.2) (.int .i64 ((rd_T95 l0_6 ((rd_T50 l1 x22_2).f1)).f4))) (fun _ hk => ⟨hk.1.1, hk.1.2⟩)⟩
              have n2_ : Aside0 (Kd.R k95 95 (((((w52.setCell ⟨go38, (((rd_T50 l1 x22_2).f1) : Int).toNat * 5, none⟩ (.int .i64 ((rd_T95 l0_6 ((rd_T50 l1 x22_2).f1)).f0))).setCell ⟨go38, (((rd_T50 l1 x22_2).f1) : Int).toNat * 5 + 1, none⟩ (.int .i64 ((rd_T95 l0_6 ((rd_T50 l1 x22_2).f1)).f1))).setCell ⟨go38, (((rd_T50 l1 x22_2).f1) : Int).toNat * 5 + 2, none⟩ (.int .i64 ((rd_T95 l0_6 ((rd_T50 l1 x22_2).f1)).f2))).setCell ⟨go38, (((rd_T50 l1 x22_2).f1) : Int).toNat * 5 + 3, none⟩ (.int .i64 ((rd_T95 l0_6 ((rd_T50 l1 x22_2).f1)).f3))).setCell ⟨go38, (((rd_T50 l1 x22_2).f1) : Int).toNat * 5 + 4, none⟩ (.int .i64 ((rd_T95 l0_6 ((rd_T50 l1 x22_2).f1)).f4))) w.heap.size (fun _ => True) (.slice (some ⟨go38, 0, none⟩) x407006_2.length co38) y411) := ⟨rr HQ53⟩
              have n3_ : Aside0 (Kd.R (Kd.int .i64) 3 (((((w52.setCell ⟨go38, (((rd_T50 l1 x22_2).f1) : Int).toNat * 5, none⟩ (.int .i64 ((rd_T95 l0_6 ((rd_T50 l1 x22_2).f1)).f0))).setCell ⟨go38, (((rd_T50 l1 x22_2).f1) : Int).toNat * 5 + 1, none⟩ (.int .i64 ((rd_T95 l0_6 ((rd_T50 l1 x22_2).f1)).f1))).setCell ⟨go38, (((rd_T50 l1 x22_2).f1) : Int).toNat * 5 + 2, none⟩ (.int .i64 ((rd_T95 l0_6 ((rd_T50 l1 x22_2).f1)).f2))).setCell ⟨go38, (((rd_T50 l1 x22_2).f1) : Int).toNat * 5 + 3, none⟩ (.int .i64 ((rd_T95 l0_6 ((rd_T50 l1 x22_2).f1)).f3))).setCell ⟨go38, (((rd_T50 l1 x22_2).f1) : Int).toNat * 5 + 4, none⟩ (.int .i64 ((rd_T95 l0_6 ((rd_T50 l1 x22_2).f1)).f4))) w.heap.size (fun k_ => nb k_ Ao26 t393.length co26 ∧ nb k_ Ao29 t403.length co29) (.slice Ao28 t400.length co28) t400) := ⟨by (with_reducible repeat (first | apply Kd.R_alloc | apply Kd.R_drewN | apply Kd.R_drew)); exact Kd.R_mono (Kd.R_far (p := ⟨go38, (((rd_T50 l1 x22_2).f1) : Int).toNat * 5 + 4, none⟩) (Kd.R_far (p := ⟨go38, (((rd_T50 l1 x22_2).f1) : Int).toNat * 5 + 3, none⟩) (Kd.R_far (p := ⟨go38, (((rd_T50 l1 x22_2).f1) : Int).toNat * 5 + 2, none⟩) (Kd.R_far (p := ⟨go38, (((rd_T50 l1 x22_2).f1) : Int).toNat * 5 + 1, none⟩) (Kd.R_far (p := ⟨go38, (((rd_T50 l1 x22_2).f1) : Int).toNat * 5, none⟩) (Kd.R_types HO_407007.out GG38.out (by decide)) (fun _ hk => hk.2) (.int .i64 ((rd_T95 l0_6 ((rd_T50 l1 x22_2).f1)).f0))) (fun _ hk => hk.2) (.int .i64 ((rd_T95 l0_6 ((rd_T50 l1 x22_2).f1)).f1))) (fun _ hk => hk.2) (.int .i64 ((rd_T95 l0_6 ((rd_T50 l1 x22_2).f1)).f2))) (fun _ hk => hk.2) (.int .i64 ((rd_T95 l0_6 ((rd_T50 l1 x22_2).f1)).f3))) (fun _ hk => hk.2) (.int .i64 ((rd_T95 l0_6 ((rd_T50 l1 x22_2).f1)).f4))) (fun _ hk => ⟨hk.1.1, hk.1.2⟩)⟩
              have n4_ : Aside0 (Kd.R (Kd.int .i64) 3 (((((w52.setCell ⟨go38, (((rd_T50 l1 x22_2).f1) : Int).toNat * 5, none⟩ (.int .i64 ((rd_T95 l0_6 ((rd_T50 l1 x22_2).f1)).f0))).setCell ⟨go38, (((rd_T50 l1 x22_2).f1) : Int).toNat * 5 + 1, none⟩ (.int .i64 ((rd_T95 l0_6 ((rd_T50 l1 x22_2).f1)).f1))).setCell ⟨go38, (((rd_T50 l1 x22_2).f1) : Int).toNat * 5 + 2, none⟩ (.int .i64 ((rd_T95 l0_6 ((rd_T50 l1 x22_2).f1)).f2))).setCell ⟨go38, (((rd_T50 l1 x22_2).f1) : Int).toNat * 5 + 3, none⟩ (.int .i64 ((rd_T95 l0_6 ((rd_T50 l1 x22_2).f1)).f3))).setCell ⟨go38, (((rd_T50 l1 x22_2).f1) : Int).toNat * 5 + 4, none⟩ (.int .i64 ((rd_T95 l0_6 ((rd_T50 l1 x22_2).f1)).f4))) w.heap.size (fun k_ => nb k_ Ao26 t393.length co26 ∧ nb k_ Ao28 t400.length co28) (.slice Ao29 t403.length co29) t403) := ⟨by (with_reducible repeat (first | apply Kd.R_alloc | apply Kd.R_drewN | apply Kd.R_drew)); exact Kd.R_mono (Kd.R_far (p := ⟨go38, (((rd_T50 l1 x22_2).f1) : Int).toNat * 5 + 4, none⟩) (Kd.R_far (p := ⟨go38, (((rd_T50 l1 x22_2).f1) : Int).toNat * 5 + 3, none⟩) (Kd.R_far (p := ⟨go38, (((rd_T50 l1 x22_2).f1) : Int).toNat * 5 + 2, none⟩) (Kd.R_far (p := ⟨go38, (((rd_T50 l1 x22_2).f1) : Int).toNat * 5 + 1, none⟩) (Kd.R_far (p := ⟨go38, (((rd_T50 l1 x22_2).f1) : Int).toNat * 5, none⟩) (Kd.R_types HO_407008.out GG38.out (by decide)) (fun _ hk => hk.2) (.int .i64 ((rd_T95 l0_6 ((rd_T50 l1 x22_2).f1)).f0))) (fun _ hk => hk.2) (.int .i64 ((rd_T95 l0_6 ((rd_T50 l1 x22_2).f1)).f1))) (fun _ hk => hk.2) (.int .i64 ((rd_T95 l0_6 ((rd_T50 l1 x22_2).f1)).f2))) (fun _ hk => hk.2) (.int .i64 ((rd_T95 l0_6 ((rd_T50 l1 x22_2).f1)).f3))) (fun _ hk => hk.2) (.int .i64 ((rd_T95 l0_6 ((rd_T50 l1 x22_2).f1)).f4))) (fun _ hk => ⟨hk.1.1, hk.1.2⟩)⟩
              have n5_ : Aside0 ((((((w52.setCell ⟨go38, (((rd_T50 l1 x22_2).f1) : Int).toNat * 5, none⟩ (.int .i64 ((rd_T95 l0_6 ((rd_T50 l1 x22_2).f1)).f0))).setCell ⟨go38, (((rd_T50 l1 x22_2).f1) : Int).toNat * 5 + 1, none⟩ (.int .i64 ((rd_T95 l0_6 ((rd_T50 l1 x22_2).f1)).f1))).setCell ⟨go38, (((rd_T50 l1 x22_2).f1) : Int).toNat * 5 + 2, none⟩ (.int .i64 ((rd_T95 l0_6 ((rd_T50 l1 x22_2).f1)).f2))).setCell ⟨go38, (((rd_T50 l1 x22_2).f1) : Int).toNat * 5 + 3, none⟩ (.int .i64 ((rd_T95 l0_6 ((rd_T50 l1 x22_2).f1)).f3))).setCell ⟨go38, (((rd_T50 l1 x22_2).f1) : Int).toNat * 5 + 4, none⟩ (.int .i64 ((rd_T95 l0_6 ((rd_T50 l1 x22_2).f1)).f4))).heap[gb384]? = some (.cells #[.slice A0_0 l0_0.length c0_0, .int .i64 a0_1, .int .i64 a0_2, .int .i64 a0_3, .slice A0_4 l0_4.length c0_4, .bool a0_5, .slice (some ad410) l0_6.length c0_6, .slice A0_7 l0_7.length c0_7, .slice A0_8 l0_8.length c0_8] 36 (0, 0))) := ⟨bg HO_407006 BK384⟩
              have n6_ : Aside0 ((((((w52.setCell ⟨go38, (((rd_T50 l1 x22_2).f1) : Int).toNat * 5, none⟩ (.int .i64 ((rd_T95 l0_6 ((rd_T50 l1 x22_2).f1)).f0))).setCell ⟨go38, (((rd_T50 l1 x22_2).f1) : Int).toNat * 5 + 1, none⟩ (.int .i64 ((rd_T95 l0_6 ((rd_T50 l1 x22_2).f1)).f1))).setCell ⟨go38, (((rd_T50 l1 x22_2).f1) : Int).toNat * 5 + 2, none⟩ (.int .i64 ((rd_T95 l0_6 ((rd_T50 l1 x22_2).f1)).f2))).setCell ⟨go38, (((rd_T50 l1 x22_2).f1) : Int).toNat * 5 + 3, none⟩ (.int .i64 ((rd_T95 l0_6 ((rd_T50 l1 x22_2).f1)).f3))).setCell ⟨go38, (((rd_T50 l1 x22_2).f1) : Int).toNat * 5 + 4, none⟩ (.int .i64 ((rd_T95 l0_6 ((rd_T50 l1 x22_2).f1)).f4))).heap[gb385]? = some (.cells #[.slice none 0 0, .int .i64 x386001_2, .int .i64 x386002_2, .int .i64 x386003_2, .slice none 0 0, .bool x386005_2, .slice none 0 0, .slice none 0 0, .slice none 0 0] 36 (0, 0))) := ⟨bg HO_407006 BK385⟩
              have n7_ : Aside0 ((((((w52.setCell ⟨go38, (((rd_T50 l1 x22_2).f1) : Int).toNat * 5, none⟩ (.int .i64 ((rd_T95 l0_6 ((rd_T50 l1 x22_2).f1)).f0))).setCell ⟨go38, (((rd_T50 l1 x22_2).f1) : Int).toNat * 5 + 1, none⟩ (.int .i64 ((rd_T95 l0_6 ((rd_T50 l1 x22_2).f1)).f1))).setCell ⟨go38, (((rd_T50 l1 x22_2).f1) : Int).toNat * 5 + 2, none⟩ (.int .i64 ((rd_T95 l0_6 ((rd_T50 l1 x22_2).f1)).f2))).setCell ⟨go38, (((rd_T50 l1 x22_2).f1) : Int).toNat * 5 + 3, none⟩ (.int .i64 ((rd_T95 l0_6 ((rd_T50 l1 x22_2).f1)).f3))).setCell ⟨go38, (((rd_T50 l1 x22_2).f1) : Int).toNat * 5 + 4, none⟩ (.int .i64 ((rd_T95 l0_6 ((rd_T50 l1 x22_2).f1)).f4))).heap[gb406]? = some (.cells #[.slice Ao22 t387.length co22, .int .i64 t390, .int .i64 t391, .int .i64 t392, .slice Ao26 t393.length co26, .bool t396, .slice (some ⟨go38, 0, none⟩) x407006_2.length co38, .slice Ao28 t400.length co28, .slice Ao29 t403.length co29] 36 (0, 0))) := ⟨bg HO_407006 BK406⟩
              have n8_ : Aside0 ((((((w52.setCell ⟨go38, (((rd_T50 l1 x22_2).f1) : Int).toNat * 5, none⟩ (.int .i64 ((rd_T95 l0_6 ((rd_T50 l1 x22_2).f1)).f0))).setCell ⟨go38, (((rd_T50 l1 x22_2).f1) : Int).toNat * 5 + 1, none⟩ (.int .i64 ((rd_T95 l0_6 ((rd_T50 l1 x22_2).f1)).f1))).setCell ⟨go38, (((rd_T50 l1 x22_2).f1) : Int).toNat * 5 + 2, none⟩ (.int .i64 ((rd_T95 l0_6 ((rd_T50 l1 x22_2).f1)).f2))).setCell ⟨go38, (((rd_T50 l1 x22_2).f1) : Int).toNat * 5 + 3, none⟩ (.int .i64 ((rd_T95 l0_6 ((rd_T50 l1 x22_2).f1)).f3))).setCell ⟨go38, (((rd_T50 l1 x22_2).f1) : Int).toNat * 5 + 4, none⟩ (.int .i64 ((rd_T95 l0_6 ((rd_T50 l1 x22_2).f1)).f4))).heap[gb408]? = some (.cells #[.int .i64 ((rd_T50 l1 x22_2).f0), .int .i64 ((rd_T50 l1 x22_2).f1), .bool true] 50 (0, 0))) := ⟨bg HO_407006 BK408⟩
              have n9_ : Aside0 (Below w.heap.size w (((((w52.setCell ⟨go38, (((rd_T50 l1 x22_2).f1) : Int).toNat * 5, none⟩ (.int .i64 ((rd_T95 l0_6 ((rd_T50 l1 x22_2).f1)).f0))).setCell ⟨go38, (((rd_T50 l1 x22_2).f1) : Int).toNat * 5 + 1, none⟩ (.int .i64 ((rd_T95 l0_6 ((rd_T50 l1 x22_2).f1)).f1))).setCell ⟨go38, (((rd_T50 l1 x22_2).f1) : Int).toNat * 5 + 2, none⟩ (.int .i64 ((rd_T95 l0_6 ((rd_T50 l1 x22_2).f1)).f2))).setCell ⟨go38, (((rd_T50 l1 x22_2).f1) : Int).toNat * 5 + 3, none⟩ (.int .i64 ((rd_T95 l0_6 ((rd_T50 l1 x22_2).f1)).f3))).setCell ⟨go38, (((rd_T50 l1 x22_2).f1) : Int).toNat * 5 + 4, none⟩ (.int .i64 ((rd_T95 l0_6 ((rd_T50 l1 x22_2).f1)).f4)))) := ⟨bb HB⟩
              (try clear HO_407000)
              (try clear HO_407004)
              (try clear HO_407006)
              (try clear HO_407007)
              (try clear HO_407008)
              (try clear BK384)
              (try clear BK385)
              (try clear BK406)
              (try clear BK408)
              (try clear HB)
              generalize (((((w52.setCell ⟨go38, (((rd_T50 l1 x22_2).f1) : Int).toNat * 5, none⟩ (.int .i64 ((rd_T95 l0_6 ((rd_T50 l1 x22_2).f1)).f0))).setCell ⟨go38, (((rd_T50 l1 x22_2).f1) : Int).toNat * 5 + 1, none⟩ (.int .i64 ((rd_T95 l0_6 ((rd_T50 l1 x22_2).f1)).f1))).setCell ⟨go38, (((rd_T50 l1 x22_2).f1) : Int).toNat * 5 + 2, none⟩ (.int .i64 ((rd_T95 l0_6 ((rd_T50 l1 x22_2).f1)).f2))).setCell ⟨go38, (((rd_T50 l1 x22_2).f1) : Int).toNat * 5 + 3, none⟩ (.int .i64 ((rd_T95 l0_6 ((rd_T50 l1 x22_2).f1)).f3))).setCell ⟨go38, (((rd_T50 l1 x22_2).f1) : Int).toNat * 5 + 4, none⟩ (.int .i64 ((rd_T95 l0_6 ((rd_T50 l1 x22_2).f1)).f4))) = w55 at n0_ n1_ n2_ n3_ n4_ n5_ n6_ n7_ n8_ n9_ ⊢
              have HO_407000 := n0_
              have HO_407004 := n1_
              have HO_407006 := n2_
              have HO_407007 := n3_
              have HO_407008 := n4_
              have BK384 := n5_
              have BK385 := n6_
              have BK406 := n7_
              have BK408 := n8_
              have HB := n9_
              clear n0_ n1_ n2_ n3_ n4_ n5_ n6_ n7_ n8_ n9_
              replace HO_407000 := Aside0.mk (Kd.R_drew HO_407000.out)
              replace HO_407004 := Aside0.mk (Kd.R_drew HO_407004.out)
              replace HO_407006 := Aside0.mk (Kd.R_drew HO_407006.out)
              replace HO_407007 := Aside0.mk (Kd.R_drew HO_407007.out)
              replace HO_407008 := Aside0.mk (Kd.R_drew HO_407008.out)
              replace BK384 := Aside0.mk (blk_drew BK384.out)
              replace BK385 := Aside0.mk (blk_drew BK385.out)
              replace BK406 := Aside0.mk (blk_drew BK406.out)
              replace BK408 := Aside0.mk (blk_drew BK408.out)
              replace HB := Aside0.mk (below_drew1 HB.out)
              have p412 : 0 ≤ (((rd_T50 l1 x22_2).f1) : Int) := oa
              have q412 : ((rd_T50 l1 x22_2).f1) < (l0_6.length : Int) := oa
              obtain ⟨ad412, e412, hx412_0, hx412_1, hx412_2, hx412_3, hx412_4⟩ := at_T95 HR0_6.out ((rd_T50 l1 x22_2).f1) p412 q412
              have hw412_4 := hx412_4
              have hw412_3 := hx412_3
              have hw412_2 := hx412_2
              have hw412_1 := hx412_1
              have hw412_0 := hx412_0
              obtain rfl : ad410 = ad412 := (by injection e412)
              replace hx412_0 := hc HB hx412_0
              replace hx412_1 := hc HB hx412_1
              replace hx412_2 := hc HB hx412_2
              replace hx412_3 := hc HB hx412_3
              replace hx412_4 := hc HB hx412_4
              replace p412 := eq_true p412
              replace q412 := eq_true q412
              refine start_ (n := 15) (S := fun w' => w'.cell? ⟨gb406, 0, none⟩ = some (.slice Ao22 t387.length co22) ∧ w'.cell? ⟨gb406, 1, none⟩ = some (.int .i64 t390) ∧ w'.cell? ⟨gb406, 2, none⟩ = some (.int .i64 t391) ∧ w'.cell? ⟨gb406, 3, none⟩ = some (.int .i64 t392) ∧ w'.cell? ⟨gb406, 4, none⟩ = some (.slice Ao26 t393.length co26) ∧ w'.cell? ⟨gb406, 5, none⟩ = some (.bool t396) ∧ w'.cell? ⟨gb406, 6, none⟩ = some (.slice (some ⟨go38, 0, none⟩) x407006_2.length co38) ∧ w'.cell? ⟨gb406, 7, none⟩ = some (.slice Ao28 t400.length co28) ∧ w'.cell? ⟨gb406, 8, none⟩ = some (.slice Ao29 t403.length co29) ∧ w'.cell? ⟨gb408, 0, none⟩ = some (.int .i64 ((rd_T50 l1 x22_2).f0)) ∧ w'.cell? ⟨gb408, 1, none⟩ = some (.int .i64 ((rd_T50 l1 x22_2).f1)) ∧ w'.cell? ⟨gb408, 2, none⟩ = some (.bool true) ∧ w'.cell? ⟨gb384, 0, none⟩ = some (.slice A0_0 l0_0.length c0_0) ∧ w'.cell? ⟨gb384, 1, none⟩ = some (.int .i64 a0_1) ∧ w'.cell? ⟨gb384, 2, none⟩ = some (.int .i64 a0_2) ∧ w'.cell? ⟨gb384, 3, none⟩ = some (.int .i64 a0_3) ∧ w'.cell? ⟨gb384, 4, none⟩ = some (.slice A0_4 l0_4.length c0_4) ∧ w'.cell? ⟨gb384, 5, none⟩ = some (.bool a0_5) ∧ w'.cell? ⟨gb384, 6, none⟩ = some (.slice (some ad410) l0_6.length c0_6) ∧ w'.cell? ⟨gb384, 7, none⟩ = some (.slice A0_7 l0_7.length c0_7) ∧ w'.cell? ⟨gb384, 8, none⟩ = some (.slice A0_8 l0_8.length c0_8) ∧ w'.cell? (ad410.add ((((rd_T50 l1 x22_2).f1)).toNat * 5)) = some (.int .i64 ((rd_T95 l0_6 ((rd_T50 l1 x22_2).f1)).f0)) ∧ w'.cell? ⟨(ad410.add ((((rd_T50 l1 x22_2).f1)).toNat * 5)).block, (ad410.add ((((rd_T50 l1 x22_2).f1)).toNat * 5)).off + 1, none⟩ = some (.int .i64 ((rd_T95 l0_6 ((rd_T50 l1 x22_2).f1)).f1)) ∧ w'.cell? ⟨(ad410.add ((((rd_T50 l1 x22_2).f1)).toNat * 5)).block, (ad410.add ((((rd_T50 l1 x22_2).f1)).toNat * 5)).off + 2, none⟩ = some (.int .i64 ((rd_T95 l0_6 ((rd_T50 l1 x22_2).f1)).f2)) ∧ w'.cell? ⟨(ad410.add ((((rd_T50 l1 x22_2).f1)).toNat * 5)).block, (ad410.add ((((rd_T50 l1 x22_2).f1)).toNat * 5)).off + 3, none⟩ = some (.int .i64 ((rd_T95 l0_6 ((rd_T50 l1 x22_2).f1)).f3)) ∧ w'.cell? ⟨(ad410.add ((((rd_T50 l1 x22_2).f1)).toNat * 5)).block, (ad410.add ((((rd_T50 l1 x22_2).f1)).toNat * 5)).off + 4, none⟩ = some (.int .i64 ((rd_T95 l0_6 ((rd_T50 l1 x22_2).f1)).f4))) (ds := [14]) #[false, false, false, false, false, false, false, false, false, false, false, false, false, false, false] (by kernel_rfl) rfl rfl ⟨bc BK406 0, bc BK406 1, bc BK406 2, bc BK406 3, bc BK406 4, bc BK406 5, bc BK406 6, bc BK406 7, bc BK406 8, bc BK408 0, bc BK408 1, bc BK408 2, bc BK384 0, bc BK384 1, bc BK384 2, bc BK384 3, bc BK384 4, bc BK384 5, bc BK384 6, bc BK384 7, bc BK384 8, (hc HB hw412_0), (hc HB hw412_1), (hc HB hw412_2), (hc HB hw412_3), (hc HB hw412_4)⟩ (fun hHeld => ?_); refine with_tabW impl_Decide.tab11 impl_Decide.bits11 (fun HT_ HW_ => ?_)
              generalize w55.drew = w56 at HO_407000 HO_407004 HO_407006 HO_407007 HO_407008 BK384 BK385 BK406 BK408 HB HQ53 hx412_0 hx412_1 hx412_2 hx412_3 hx412_4 hHeld ⊢
              refine pz_ 0 44 ?_
              refine pz_ 2 46 ?_
              refine pz_ 4 48 ?_
              refine pz_ 6 50 ?_
              refine pz_ 10 54 ?_
              refine take_ (i := 1) (N := some 45) (v := ?_) (a' := ?_) #[true, true, true, false, true, false, true, false, false, false, true, false, false, false, false] rfl rfl (take_ofW HT_.out HW_.out (by kernel_rfl)) (fun _ _ _ h => h) (Or.inl ⟨by rfl, ?_⟩) hHeld ?_ ?_
              rotate_left
              ·rintro w' ⟨s0, s1, s2, s3, s4, s5, s6, s7, s8, s9, s10, s11, s12, s13, s14, s15, s16, s17, s18, s19, s20, s21, s22, s23, s24, s25⟩
               go_simp
               with_reducible rfl
              rotate_left
              ·simp only [Act.put, List.setIfInBounds_toArray, List.set_cons_zero, List.set_cons_succ, i64_w, i32_w]
               rfl
              refine take_ (i := 3) (N := some 47) (v := ?_) (a' := ?_) #[true, true, true, true, true, false, true, false, false, false, true, false, false, false, false] rfl rfl (take_ofW HT_.out HW_.out (by kernel_rfl)) (fun _ _ _ h => h) (Or.inl ⟨by rfl, ?_⟩) hHeld ?_ ?_
              rotate_left
              ·rintro w' ⟨s0, s1, s2, s3, s4, s5, s6, s7, s8, s9, s10, s11, s12, s13, s14, s15, s16, s17, s18, s19, s20, s21, s22, s23, s24, s25⟩
               go_simp
               with_reducible rfl
              rotate_left
              ·simp only [Act.put, List.setIfInBounds_toArray, List.set_cons_zero, List.set_cons_succ, i64_w, i32_w]
               rfl
              refine take_ (i := 5) (N := some 49) (v := ?_) (a' := ?_) #[true, true, true, true, true, true, true, false, false, false, true, false, false, false, false] rfl rfl (take_ofW HT_.out HW_.out (by kernel_rfl)) (fun _ _ _ h => h) (Or.inl ⟨by rfl, ?_⟩) hHeld ?_ ?_
              rotate_left
              ·rintro w' ⟨s0, s1, s2, s3, s4, s5, s6, s7, s8, s9, s10, s11, s12, s13, s14, s15, s16, s17, s18, s19, s20, s21, s22, s23, s24, s25⟩
               go_simp
               with_reducible rfl
              rotate_left
              ·simp only [Act.put, List.setIfInBounds_toArray, List.set_cons_zero, List.set_cons_succ, i64_w, i32_w]
               rfl
              refine take_ (i := 7) (N := some 51) (v := ?_) (a' := ?_) #[true, true, true, true, true, true, true, true, false, false, true, false, false, false, false] rfl rfl (take_ofW HT_.out HW_.out (by kernel_rfl)) (fun _ _ _ h => h) (Or.inl ⟨by rfl, ?_⟩) hHeld ?_ ?_
              rotate_left
              ·rintro w' ⟨s0, s1, s2, s3, s4, s5, s6, s7, s8, s9, s10, s11, s12, s13, s14, s15, s16, s17, s18, s19, s20, s21, s22, s23, s24, s25⟩
               go_simp
               with_reducible rfl
              rotate_left
              ·simp only [Act.put, List.setIfInBounds_toArray, List.set_cons_zero, List.set_cons_succ, i64_w, i32_w]
               rfl
              refine pz_ 8 52 ?_
              refine take_ (i := 9) (N := some 53) (v := ?_) (a' := ?_) #[true, true, true, true, true, true, true, true, true, true, true, false, false, false, false] rfl rfl (take_ofW HT_.out HW_.out (by kernel_rfl)) (fun _ _ _ h => h) (Or.inl ⟨by rfl, ?_⟩) hHeld ?_ ?_
              rotate_left
              ·rintro w' ⟨s0, s1, s2, s3, s4, s5, s6, s7, s8, s9, s10, s11, s12, s13, s14, s15, s16, s17, s18, s19, s20, s21, s22, s23, s24, s25⟩
               go_simp
               with_reducible rfl
              rotate_left
              ·simp only [Act.put, List.setIfInBounds_toArray, List.set_cons_zero, List.set_cons_succ, i64_w, i32_w]
               rfl
              refine take_ (i := 11) (N := some 55) (v := ?_) (a' := ?_) #[true, true, true, true, true, true, true, true, true, true, true, true, false, false, false] rfl rfl (take_ofW HT_.out HW_.out (by kernel_rfl)) (fun _ _ _ h => h) (Or.inl ⟨by rfl, ?_⟩) hHeld ?_ ?_
              rotate_left
              ·rintro w' ⟨s0, s1, s2, s3, s4, s5, s6, s7, s8, s9, s10, s11, s12, s13, s14, s15, s16, s17, s18, s19, s20, s21, s22, s23, s24, s25⟩
               go_simp
               with_reducible rfl
              rotate_left
              ·simp only [Act.put, List.setIfInBounds_toArray, List.set_cons_zero, List.set_cons_succ, i64_w, i32_w]
               rfl
              refine one_ (i := 12) (N := some 56) #[true, true, true, true, true, true, true, true, true, true, true, true, true, false, false] rfl rfl (one_of HT_.out (by kernel_rfl)) (by decide) (fun K hK => ?_)
              refine goes_ Try.func64 (by kernel_rfl) rfl #[.agg #[.int .i64 ((rd_T95 l0_6 ((rd_T50 l1 x22_2).f1)).f0), .int .i64 ((rd_T95 l0_6 ((rd_T50 l1 x22_2).f1)).f1), .int .i64 ((rd_T95 l0_6 ((rd_T50 l1 x22_2).f1)).f2), .int .i64 ((rd_T95 l0_6 ((rd_T50 l1 x22_2).f1)).f3), .int .i64 ((rd_T95 l0_6 ((rd_T50 l1 x22_2).f1)).f4)], .int .i64 ((rd_T50 l1 x22_2).f0)] (by rfl) rfl rfl (by (try simp only [List.map_toArray, List.map_cons, List.map_nil]); first | done | rfl | (simp only [List.length_drop, List.length_take]; rfl)) ?_
              with_reducible refine (impl_awarded.calls ((rd_T95 l0_6 ((rd_T50 l1 x22_2).f1)).f0) ((rd_T95 l0_6 ((rd_T50 l1 x22_2).f1)).f1) ((rd_T95 l0_6 ((rd_T50 l1 x22_2).f1)).f2) ((rd_T95 l0_6 ((rd_T50 l1 x22_2).f1)).f3) ((rd_T95 l0_6 ((rd_T50 l1 x22_2).f1)).f4) ((rd_T50 l1 x22_2).f0) t413 t414 t415 t416 t417 _ A41.out).mono ?_
              rintro e w57 ⟨rfl, hb⟩
              refine ⟨_, rfl, ?_⟩
              replace HO_407000 := kr HO_407000 hb
              replace HO_407004 := kr HO_407004 hb
              replace HO_407006 := kr HO_407006 hb
              replace HO_407007 := kr HO_407007 hb
              replace HO_407008 := kr HO_407008 hb
              replace BK384 := kb BK384 hb
              replace BK385 := kb BK385 hb
              replace BK406 := kb BK406 hb
              replace BK408 := kb BK408 hb
              replace HB := hs_ HB hb
              (try clear hb hb2 hk hi)
              have p42 : 0 ≤ (((rd_T50 l1 x22_2).f1) : Int) := oa
              have q42 : (((rd_T50 l1 x22_2).f1) : Int) < ((x407006_2.length : Int) : Int) := oa
              obtain ⟨cl38_, HG38_⟩ := Kd.R_typed HO_407006.out go38 rfl
              have GG38 := Aside0.mk HG38_
              clear HG38_
              obtain ⟨ce42, hcl42, hM42, hcc42, hfr42⟩ := Kd.R_elem HO_407006.out z95 (((rd_T50 l1 x22_2).f1) : Int) p42 q42
              obtain rfl := k95_openM hM42
              have hx42_0 : World.cell? _ ⟨go38, (((rd_T50 l1 x22_2).f1) : Int).toNat * 5, none⟩ = some (.int .i64 ((rd_T95 y411 ((rd_T50 l1 x22_2).f1)).f0)) := hcc42 0 _ rfl
              have hx42_1 : World.cell? _ ⟨go38, (((rd_T50 l1 x22_2).f1) : Int).toNat * 5 + 1, none⟩ = some (.int .i64 ((rd_T95 y411 ((rd_T50 l1 x22_2).f1)).f1)) := hcc42 1 _ rfl
              have hx42_2 : World.cell? _ ⟨go38, (((rd_T50 l1 x22_2).f1) : Int).toNat * 5 + 2, none⟩ = some (.int .i64 ((rd_T95 y411 ((rd_T50 l1 x22_2).f1)).f2)) := hcc42 2 _ rfl
              have hx42_3 : World.cell? _ ⟨go38, (((rd_T50 l1 x22_2).f1) : Int).toNat * 5 + 3, none⟩ = some (.int .i64 ((rd_T95 y411 ((rd_T50 l1 x22_2).f1)).f3)) := hcc42 3 _ rfl
              have hx42_4 : World.cell? _ ⟨go38, (((rd_T50 l1 x22_2).f1) : Int).toNat * 5 + 4, none⟩ = some (.int .i64 ((rd_T95 y411 ((rd_T50 l1 x22_2).f1)).f4)) := hcc42 4 _ rfl
              have hf42_0 : World.frozen? _ ⟨go38, (((rd_T50 l1 x22_2).f1) : Int).toNat * 5, none⟩ = false := hfr42 0
              have hf42_1 : World.frozen? _ ⟨go38, (((rd_T50 l1 x22_2).f1) : Int).toNat * 5 + 1, none⟩ = false := hfr42 1
              have hf42_2 : World.frozen? _ ⟨go38, (((rd_T50 l1 x22_2).f1) : Int).toNat * 5 + 2, none⟩ = false := hfr42 2
              have hf42_3 : World.frozen? _ ⟨go38, (((rd_T50 l1 x22_2).f1) : Int).toNat * 5 + 3, none⟩ = false := hfr42 3
              have hf42_4 : World.frozen? _ ⟨go38, (((rd_T50 l1 x22_2).f1) : Int).toNat * 5 + 4, none⟩ = false := hfr42 4
              clear hcl42 hcc42 hfr42; (try clear hM42)
              replace p42 := eq_true p42
              replace q42 := eq_true q42
              obtain ⟨ce58, hcl58, hM58, hcc58, hfr58⟩ := Kd.R_elem HO_407006.out z95 (((rd_T50 l1 x22_2).f1) : Int) (oa) (by have h_ : (((rd_T50 l1 x22_2).f1) : Int) < ((x407006_2.length : Int) : Int) := oa; first | exact h_ | (have e_ := (Kd.R_reads' HO_407006.out).1; omega) | simpa using h_)
              obtain rfl := k95_openM hM58
              have HP58 := (Kd.R_seg HO_407006.out (((rd_T50 l1 x22_2).f1) : Int) (oa) (by have h_ : (((rd_T50 l1 x22_2).f1) : Int) < ((x407006_2.length : Int) : Int) := oa; first | exact h_ | (have e_ := (Kd.R_reads' HO_407006.out).1; omega) | simpa using h_) (seg := [.int .i64 t413, .int .i64 t414, .int .i64 t415, .int .i64 t416, .int .i64 t417]) (j := 0) hcl58 hcc58 (show 5 ≤ 5 from by decide) (x' := (⟨t413, t414, t415, t416, t417⟩ : S95)) (k95_mkM _ _ _ (⟨t413, t414, t415, t416, t417⟩ : S95) ) (fun _ hk => hk)).1
              rw [← Ny418.out] at HP58
              have HQ58 := Aside0.mk HP58
              clear hcl58 hcc58 hfr58 hM58 HP58
              refine hK.out _ _ ⟨bc BK406 0, bc BK406 1, bc BK406 2, bc BK406 3, bc BK406 4, bc BK406 5, bc BK406 6, bc BK406 7, bc BK406 8, bc BK408 0, bc BK408 1, bc BK408 2, bc BK384 0, bc BK384 1, bc BK384 2, bc BK384 3, bc BK384 4, bc BK384 5, bc BK384 6, bc BK384 7, bc BK384 8, (hc HB hw412_0), (hc HB hw412_1), (hc HB hw412_2), (hc HB hw412_3), (hc HB hw412_4)⟩ (fun hHeld => ?_)
              clear hK K
              refine norm_ (a' := ?_) ?_ ?_
              rotate_left
              ·show Act.put _ (some 56) _ = _
               simp only [Act.put, List.setIfInBounds_toArray, List.set_cons_zero, List.set_cons_succ, i64_w, i32_w]
               rfl
              refine pz_ 13 57 ?_
              refine last_ (i := 14) (N := none) #[true, true, true, true, true, true, true, true, true, true, true, true, true, true, true] rfl rfl (one_of HT_.out (by kernel_rfl)) (by decide) (fun K hK => ?_)
              refine skip_ (w1 := ?_) (by rfl) rfl ?_ ?_
              rotate_left
              ·go_simp
               rfl
              refine hK.out _ _ ?_
              clear hK K
              refine done_ (done_of HT_.out (by kernel_rfl)) ?_
              try go_wp2
              go_roundg k2
              case measure => have := HJ2.out; have := HK2.out; omega
              case rel => exact ⟨(wrap64 (x22_2 + 1)), (x386001_2), (x386002_2), (x386003_2), (x386005_2), (y418), (.slice (some ⟨go38, 0, none⟩) x407006_2.length co38), e2_, H', ⟨by have := HJ2.out; have := HK2.out; omega⟩, ⟨by (with_reducible repeat (first | apply Kd.R_alloc | apply Kd.R_drewN | apply Kd.R_drew)); exact Kd.R_mono (Kd.R_far (p := ⟨go38, (((rd_T50 l1 x22_2).f1) : Int).toNat * 5 + 4, none⟩) (Kd.R_far (p := ⟨go38, (((rd_T50 l1 x22_2).f1) : Int).toNat * 5 + 3, none⟩) (Kd.R_far (p := ⟨go38, (((rd_T50 l1 x22_2).f1) : Int).toNat * 5 + 2, none⟩) (Kd.R_far (p := ⟨go38, (((rd_T50 l1 x22_2).f1) : Int).toNat * 5 + 1, none⟩) (Kd.R_far (p := ⟨go38, (((rd_T50 l1 x22_2).f1) : Int).toNat * 5, none⟩) (Kd.R_types HO_407000.out GG38.out (by decide)) (fun _ hk => hk.2) (.int .i64 t413)) (fun _ hk => hk.2) (.int .i64 t414)) (fun _ hk => hk.2) (.int .i64 t415)) (fun _ hk => hk.2) (.int .i64 t416)) (fun _ hk => hk.2) (.int .i64 t417)) (fun _ hk => trivial)⟩, ⟨by (with_reducible repeat (first | apply Kd.R_alloc | apply Kd.R_drewN | apply Kd.R_drew)); exact Kd.R_mono (Kd.R_far (p := ⟨go38, (((rd_T50 l1 x22_2).f1) : Int).toNat * 5 + 4, none⟩) (Kd.R_far (p := ⟨go38, (((rd_T50 l1 x22_2).f1) : Int).toNat * 5 + 3, none⟩) (Kd.R_far (p := ⟨go38, (((rd_T50 l1 x22_2).f1) : Int).toNat * 5 + 2, none⟩) (Kd.R_far (p := ⟨go38, (((rd_T50 l1 x22_2).f1) : Int).toNat * 5 + 1, none⟩) (Kd.R_far (p := ⟨go38, (((rd_T50 l1 x22_2).f1) : Int).toNat * 5, none⟩) (Kd.R_types HO_407004.out GG38.out (by decide)) (fun _ hk => hk.2) (.int .i64 t413)) (fun _ hk => hk.2) (.int .i64 t414)) (fun _ hk => hk.2) (.int .i64 t415)) (fun _ hk => hk.2) (.int .i64 t416)) (fun _ hk => hk.2) (.int .i64 t417)) (fun _ hk => ⟨hk.1.1, hk.1.2⟩)⟩, ⟨rr HQ58⟩, ⟨by (with_reducible repeat (first | apply Kd.R_alloc | apply Kd.R_drewN | apply Kd.R_drew)); exact Kd.R_mono (Kd.R_far (p := ⟨go38, (((rd_T50 l1 x22_2).f1) : Int).toNat * 5 + 4, none⟩) (Kd.R_far (p := ⟨go38, (((rd_T50 l1 x22_2).f1) : Int).toNat * 5 + 3, none⟩) (Kd.R_far (p := ⟨go38, (((rd_T50 l1 x22_2).f1) : Int).toNat * 5 + 2, none⟩) (Kd.R_far (p := ⟨go38, (((rd_T50 l1 x22_2).f1) : Int).toNat * 5 + 1, none⟩) (Kd.R_far (p := ⟨go38, (((rd_T50 l1 x22_2).f1) : Int).toNat * 5, none⟩) (Kd.R_types HO_407007.out GG38.out (by decide)) (fun _ hk => hk.2) (.int .i64 t413)) (fun _ hk => hk.2) (.int .i64 t414)) (fun _ hk => hk.2) (.int .i64 t415)) (fun _ hk => hk.2) (.int .i64 t416)) (fun _ hk => hk.2) (.int .i64 t417)) (fun _ hk => ⟨hk.1.1, hk.1.2⟩)⟩, ⟨by (with_reducible repeat (first | apply Kd.R_alloc | apply Kd.R_drewN | apply Kd.R_drew)); exact Kd.R_mono (Kd.R_far (p := ⟨go38, (((rd_T50 l1 x22_2).f1) : Int).toNat * 5 + 4, none⟩) (Kd.R_far (p := ⟨go38, (((rd_T50 l1 x22_2).f1) : Int).toNat * 5 + 3, none⟩) (Kd.R_far (p := ⟨go38, (((rd_T50 l1 x22_2).f1) : Int).toNat * 5 + 2, none⟩) (Kd.R_far (p := ⟨go38, (((rd_T50 l1 x22_2).f1) : Int).toNat * 5 + 1, none⟩) (Kd.R_far (p := ⟨go38, (((rd_T50 l1 x22_2).f1) : Int).toNat * 5, none⟩) (Kd.R_types HO_407008.out GG38.out (by decide)) (fun _ hk => hk.2) (.int .i64 t413)) (fun _ hk => hk.2) (.int .i64 t414)) (fun _ hk => hk.2) (.int .i64 t415)) (fun _ hk => hk.2) (.int .i64 t416)) (fun _ hk => hk.2) (.int .i64 t417)) (fun _ hk => ⟨hk.1.1, hk.1.2⟩)⟩, ⟨bg HO_407006 BK384⟩, ⟨bg HO_407006 BK385⟩, ⟨bg HO_407006 BK406⟩, ⟨bb HB⟩⟩
             ·replace c40 := Bool.eq_false_iff.mpr c40
              subst c40
              have H1 : (impl_Decide.l0 k2 l1 (l1.length : Int) (wrap64 (x22_2 + 1)) l0_0 a0_1 a0_2 a0_3 l0_4 a0_5 l0_6 l0_7 l0_8 t387 t390 t391 t392 t393 t396 y411 t400 t403) = some (r1, r2, r3, r4, r5, r6, r7, r8, r9, r10) := by rw [if_neg (show ¬ (false = true) by decide)] at H; exact H
              clear H
              have H := H1
              clear H1
              have H' := Aside0.mk H
              clear H
              have p407 : 0 ≤ (x22_2 : Int) := oa
              have q407 : x22_2 < (l1.length : Int) := oa
              obtain ⟨ad407, e407, hx407_0, hx407_1, hx407_2⟩ := at_T50 HR1.out x22_2 p407 q407
              (try rw [← Nbq39.out] at hx407_2)
              cases e407
              replace hx407_0 := hc HB hx407_0
              replace hx407_1 := hc HB hx407_1
              replace hx407_2 := hc HB hx407_2
              replace p407 := eq_true p407
              replace q407 := eq_true q407
              try go_wp2_with (first | ((with_reducible refine gate_dst (N := 8) rfl ?_); (try (refine gate_guard (by rfl) ?_; dsimp only)); refine bx (N := 8) (cs := #[.int .i64 0, .int .i64 0, .bool false]) (t := 50) ?_; intro gb408 hg w59 hbox hb; replace HO_407000 := kr HO_407000 hb; replace HO_407004 := kr HO_407004 hb; replace HO_407006 := kr HO_407006 hb; replace HO_407007 := kr HO_407007 hb; replace HO_407008 := kr HO_407008 hb; have BK408 := Aside0.mk (hbox); have GW408 := gs hg HB; have GE408 := gs hg HB; replace HB := hs_ HB hb; have NB384_408 := gn hg BK384; have NB408_384 := gm hg BK384; replace BK384 := kb BK384 hb; have NB385_408 := gn hg BK385; have NB408_385 := gm hg BK385; replace BK385 := kb BK385 hb; have NB406_408 := gn hg BK406; have NB408_406 := gm hg BK406; replace BK406 := kb BK406 hb; clear hb hbox hg; have hnb60 := NB408_384.out; have hnc60 := NB384_408.out; have hnb61 := NB408_385.out; have hnc61 := NB385_408.out; have hnb62 := NB408_406.out; have hnc62 := NB406_408.out; have ⟨z63_0, z63_1, z63_2, v63_0, v63_1, v63_2⟩ := rz3 BK408; have hnb64 := NB384_385.out; have hnc64 := NB385_384.out; have hnb65 := NB384_406.out; have hnc65 := NB406_384.out; have ⟨z66_0, z66_1, z66_2, z66_3, z66_4, z66_5, z66_6, z66_7, z66_8, v66_0, v66_1, v66_2, v66_3, v66_4, v66_5, v66_6, v66_7, v66_8⟩ := rz9 BK384) | ((with_reducible refine gate_callee (f := 63) rfl ?_); refine gl (some 28) Try.func63 #[.agg #[.slice A0_0 l0_0.length c0_0, .int .i64 a0_1, .int .i64 a0_2, .int .i64 a0_3, .slice A0_4 l0_4.length c0_4, .bool a0_5, .slice A0_6 l0_6.length c0_6, .slice A0_7 l0_7.length c0_7, .slice A0_8 l0_8.length c0_8], .agg #[.int .i64 ((rd_T50 l1 x22_2).f0), .int .i64 ((rd_T50 l1 x22_2).f1), .bool false]] ?_; (with_reducible refine (impl_ProtestOk.calls k2 _ _ l0_0 a0_1 a0_2 a0_3 _ _ l0_4 a0_5 _ _ l0_6 _ _ l0_7 _ _ l0_8 ((rd_T50 l1 x22_2).f0) ((rd_T50 l1 x22_2).f1) false true _ ?side1 ?side2 ?side3 ?side4 ?side5 ?side6 ?side7 ?side8 ?side9 ?side10 (by first | exact A33.out | (have h_ := A33.out; rw [← Nbq39.out] at h_; exact h_))).mono ?_); (case side1 => exact Kd.C_below HR0_0.out (bb HB)); (case side2 => exact HC0_0.out); (case side3 => exact Kd.C_below HR0_4.out (bb HB)); (case side4 => exact HC0_4.out); (case side5 => exact Kd.C_below HR0_6.out (bb HB)); (case side6 => exact HC0_6.out); (case side7 => exact Kd.C_below HR0_7.out (bb HB)); (case side8 => exact HC0_7.out); (case side9 => exact Kd.C_below HR0_8.out (bb HB)); (case side10 => exact HC0_8.out); rintro e w67 ⟨rfl, hb⟩; refine ⟨_, rfl, ?_⟩; replace HO_407000 := kf HO_407000 BK408 hb; replace HO_407004 := kf HO_407004 BK408 hb; replace HO_407006 := kf HO_407006 BK408 hb; replace HO_407007 := kf HO_407007 BK408 hb; replace HO_407008 := kf HO_407008 BK408 hb; replace BK384 := Aside0.mk (blk_below (bf NB384_408.out BK384) hb); replace BK385 := Aside0.mk (blk_below (bf NB385_408.out BK385) hb); replace BK406 := Aside0.mk (blk_below (bf NB406_408.out BK406) hb); replace BK408 := Aside0.mk (blk_below (g := gb408) (o := .cells #[.int .i64 ((rd_T50 l1 x22_2).f0), .int .i64 ((rd_T50 l1 x22_2).f1), .bool false] 50 (0, 0)) (bp BK408) hb); replace HB := hs_ HB hb; (try clear hb hb2 hk hi)))
              replace HO_407000 := Aside0.mk (Kd.R_drew HO_407000.out)
              replace HO_407004 := Aside0.mk (Kd.R_drew HO_407004.out)
              replace HO_407006 := Aside0.mk (Kd.R_drew HO_407006.out)
              replace HO_407007 := Aside0.mk (Kd.R_drew HO_407007.out)
              replace HO_407008 := Aside0.mk (Kd.R_drew HO_407008.out)
              replace BK384 := Aside0.mk (blk_drew BK384.out)
              replace BK385 := Aside0.mk (blk_drew BK385.out)
              replace BK406 := Aside0.mk (blk_drew BK406.out)
              replace BK408 := Aside0.mk (blk_drew BK408.out)
              replace HB := Aside0.mk (below_drew1 HB.out)
              have p410 : 0 ≤ (((rd_T50 l1 x22_2).f1) : Int) := oa
              have q410 : ((rd_T50 l1 x22_2).f1) < (l0_6.length : Int) := oa
              obtain ⟨ad410, e410, hx410_0, hx410_1, hx410_2, hx410_3, hx410_4⟩ := at_T95 HR0_6.out ((rd_T50 l1 x22_2).f1) p410 q410
              have hw410_4 := hx410_4
              have hw410_3 := hx410_3
              have hw410_2 := hx410_2
              have hw410_1 := hx410_1
              have hw410_0 := hx410_0
              cases e410
              replace hx410_0 := hc HB hx410_0
              replace hx410_1 := hc HB hx410_1
              replace hx410_2 := hc HB hx410_2
              replace hx410_3 := hc HB hx410_3
              replace hx410_4 := hc HB hx410_4
              replace p410 := eq_true p410
              replace q410 := eq_true q410
              have p38 : 0 ≤ (((rd_T50 l1 x22_2).f1) : Int) := oa
              have q38 : (((rd_T50 l1 x22_2).f1) : Int) < ((x407006_2.length : Int) : Int) := oa
              obtain ⟨go38, co38, eo38, gb38, gl38, cl38, HG38⟩ := Kd.R_form HO_407006.out (by omega)
              (first | cases eo38 | (injection eo38 with ea_ en_ ec_; (first | subst ea_ | (injection ea_ with ea_; subst ea_)); subst ec_; clear en_))
              have GB38 := Aside0.mk gb38
              have GG38 := Aside0.mk HG38
              clear gb38 gl38 HG38
              obtain ⟨ce38, hcl38, hM38, hcc38, hfr38⟩ := Kd.R_elem HO_407006.out z95 (((rd_T50 l1 x22_2).f1) : Int) p38 q38
              obtain rfl := k95_openM hM38
              have hx38_0 : World.cell? _ ⟨go38, (((rd_T50 l1 x22_2).f1) : Int).toNat * 5, none⟩ = some (.int .i64 ((rd_T95 x407006_2 ((rd_T50 l1 x22_2).f1)).f0)) := hcc38 0 _ rfl
              have hx38_1 : World.cell? _ ⟨go38, (((rd_T50 l1 x22_2).f1) : Int).toNat * 5 + 1, none⟩ = some (.int .i64 ((rd_T95 x407006_2 ((rd_T50 l1 x22_2).f1)).f1)) := hcc38 1 _ rfl
              have hx38_2 : World.cell? _ ⟨go38, (((rd_T50 l1 x22_2).f1) : Int).toNat * 5 + 2, none⟩ = some (.int .i64 ((rd_T95 x407006_2 ((rd_T50 l1 x22_2).f1)).f2)) := hcc38 2 _ rfl
              have hx38_3 : World.cell? _ ⟨go38, (((rd_T50 l1 x22_2).f1) : Int).toNat * 5 + 3, none⟩ = some (.int .i64 ((rd_T95 x407006_2 ((rd_T50 l1 x22_2).f1)).f3)) := hcc38 3 _ rfl
              have hx38_4 : World.cell? _ ⟨go38, (((rd_T50 l1 x22_2).f1) : Int).toNat * 5 + 4, none⟩ = some (.int .i64 ((rd_T95 x407006_2 ((rd_T50 l1 x22_2).f1)).f4)) := hcc38 4 _ rfl
              have hf38_0 : World.frozen? _ ⟨go38, (((rd_T50 l1 x22_2).f1) : Int).toNat * 5, none⟩ = false := hfr38 0
              have hf38_1 : World.frozen? _ ⟨go38, (((rd_T50 l1 x22_2).f1) : Int).toNat * 5 + 1, none⟩ = false := hfr38 1
              have hf38_2 : World.frozen? _ ⟨go38, (((rd_T50 l1 x22_2).f1) : Int).toNat * 5 + 2, none⟩ = false := hfr38 2
              have hf38_3 : World.frozen? _ ⟨go38, (((rd_T50 l1 x22_2).f1) : Int).toNat * 5 + 3, none⟩ = false := hfr38 3
              have hf38_4 : World.frozen? _ ⟨go38, (((rd_T50 l1 x22_2).f1) : Int).toNat * 5 + 4, none⟩ = false := hfr38 4
              clear hcl38 hcc38 hfr38; (try clear hM38)
              replace p38 := eq_true p38
              replace q38 := eq_true q38
              obtain ⟨ce69, hcl69, hM69, hcc69, hfr69⟩ := Kd.R_elem HO_407006.out z95 (((rd_T50 l1 x22_2).f1) : Int) (oa) (by have h_ : (((rd_T50 l1 x22_2).f1) : Int) < ((x407006_2.length : Int) : Int) := oa; first | exact h_ | (have e_ := (Kd.R_reads' HO_407006.out).1; omega) | simpa using h_)
              obtain rfl := k95_openM hM69
              have HP69 := (Kd.R_seg HO_407006.out (((rd_T50 l1 x22_2).f1) : Int) (oa) (by have h_ : (((rd_T50 l1 x22_2).f1) : Int) < ((x407006_2.length : Int) : Int) := oa; first | exact h_ | (have e_ := (Kd.R_reads' HO_407006.out).1; omega) | simpa using h_) (seg := [.int .i64 ((rd_T95 l0_6 ((rd_T50 l1 x22_2).f1)).f0), .int .i64 ((rd_T95 l0_6 ((rd_T50 l1 x22_2).f1)).f1), .int .i64 ((rd_T95 l0_6 ((rd_T50 l1 x22_2).f1)).f2), .int .i64 ((rd_T95 l0_6 ((rd_T50 l1 x22_2).f1)).f3), .int .i64 ((rd_T95 l0_6 ((rd_T50 l1 x22_2).f1)).f4)]) (j := 0) hcl69 hcc69 (show 5 ≤ 5 from by decide) (x' := (⟨(rd_T95 l0_6 ((rd_T50 l1 x22_2).f1)).f0, (rd_T95 l0_6 ((rd_T50 l1 x22_2).f1)).f1, (rd_T95 l0_6 ((rd_T50 l1 x22_2).f1)).f2, (rd_T95 l0_6 ((rd_T50 l1 x22_2).f1)).f3, (rd_T95 l0_6 ((rd_T50 l1 x22_2).f1)).f4⟩ : S95)) (k95_mkM _ _ _ (⟨(rd_T95 l0_6 ((rd_T50 l1 x22_2).f1)).f0, (rd_T95 l0_6 ((rd_T50 l1 x22_2).f1)).f1, (rd_T95 l0_6 ((rd_T50 l1 x22_2).f1)).f2, (rd_T95 l0_6 ((rd_T50 l1 x22_2).f1)).f3, (rd_T95 l0_6 ((rd_T50 l1 x22_2).f1)).f4⟩ : S95) ) (fun _ hk => hk)).1
              rw [← Ny411.out] at HP69
              have HQ69 := Aside0.mk HP69
              clear hcl69 hcc69 hfr69 hM69 HP69
              refine start_ (n := 12) (S := fun w' => w'.cell? ⟨gb406, 0, none⟩ = some (.slice Ao22 t387.length co22) ∧ w'.cell? ⟨gb406, 1, none⟩ = some (.int .i64 t390) ∧ w'.cell? ⟨gb406, 2, none⟩ = some (.int .i64 t391) ∧ w'.cell? ⟨gb406, 3, none⟩ = some (.int .i64 t392) ∧ w'.cell? ⟨gb406, 4, none⟩ = some (.slice Ao26 t393.length co26) ∧ w'.cell? ⟨gb406, 5, none⟩ = some (.bool t396) ∧ w'.cell? ⟨gb406, 6, none⟩ = some (.slice (some ⟨go38, 0, none⟩) x407006_2.length co38) ∧ w'.cell? ⟨gb406, 7, none⟩ = some (.slice Ao28 t400.length co28) ∧ w'.cell? ⟨gb406, 8, none⟩ = some (.slice Ao29 t403.length co29) ∧ w'.cell? ⟨gb408, 0, none⟩ = some (.int .i64 ((rd_T50 l1 x22_2).f0)) ∧ w'.cell? ⟨gb408, 1, none⟩ = some (.int .i64 ((rd_T50 l1 x22_2).f1)) ∧ w'.cell? ⟨gb408, 2, none⟩ = some (.bool false) ∧ w'.cell? ⟨gb384, 0, none⟩ = some (.slice A0_0 l0_0.length c0_0) ∧ w'.cell? ⟨gb384, 1, none⟩ = some (.int .i64 a0_1) ∧ w'.cell? ⟨gb384, 2, none⟩ = some (.int .i64 a0_2) ∧ w'.cell? ⟨gb384, 3, none⟩ = some (.int .i64 a0_3) ∧ w'.cell? ⟨gb384, 4, none⟩ = some (.slice A0_4 l0_4.length c0_4) ∧ w'.cell? ⟨gb384, 5, none⟩ = some (.bool a0_5) ∧ w'.cell? ⟨gb384, 6, none⟩ = some (.slice (some ad410) l0_6.length c0_6) ∧ w'.cell? ⟨gb384, 7, none⟩ = some (.slice A0_7 l0_7.length c0_7) ∧ w'.cell? ⟨gb384, 8, none⟩ = some (.slice A0_8 l0_8.length c0_8) ∧ w'.cell? (ad410.add ((((rd_T50 l1 x22_2).f1)).toNat * 5)) = some (.int .i64 ((rd_T95 l0_6 ((rd_T50 l1 x22_2).f1)).f0)) ∧ w'.cell? ⟨(ad410.add ((((rd_T50 l1 x22_2).f1)).toNat * 5)).block, (ad410.add ((((rd_T50 l1 x22_2).f1)).toNat * 5)).off + 1, none⟩ = some (.int .i64 ((rd_T95 l0_6 ((rd_T50 l1 x22_2).f1)).f1)) ∧ w'.cell? ⟨(ad410.add ((((rd_T50 l1 x22_2).f1)).toNat * 5)).block, (ad410.add ((((rd_T50 l1 x22_2).f1)).toNat * 5)).off + 2, none⟩ = some (.int .i64 ((rd_T95 l0_6 ((rd_T50 l1 x22_2).f1)).f2)) ∧ w'.cell? ⟨(ad410.add ((((rd_T50 l1 x22_2).f1)).toNat * 5)).block, (ad410.add ((((rd_T50 l1 x22_2).f1)).toNat * 5)).off + 3, none⟩ = some (.int .i64 ((rd_T95 l0_6 ((rd_T50 l1 x22_2).f1)).f3)) ∧ w'.cell? ⟨(ad410.add ((((rd_T50 l1 x22_2).f1)).toNat * 5)).block, (ad410.add ((((rd_T50 l1 x22_2).f1)).toNat * 5)).off + 4, none⟩ = some (.int .i64 ((rd_T95 l0_6 ((rd_T50 l1 x22_2).f1)).f4))) (ds := [11]) #[false, false, false, false, false, false, false, false, false, false, false, false] (by kernel_rfl) rfl rfl ⟨bc BK406 0, bc BK406 1, bc BK406 2, bc BK406 3, bc BK406 4, bc BK406 5, bc BK406 6, bc BK406 7, bc BK406 8, bc BK408 0, bc BK408 1, bc BK408 2, bc BK384 0, bc BK384 1, bc BK384 2, bc BK384 3, bc BK384 4, bc BK384 5, bc BK384 6, bc BK384 7, bc BK384 8, (hc HB hw410_0), (hc HB hw410_1), (hc HB hw410_2), (hc HB hw410_3), (hc HB hw410_4)⟩ (fun hHeld => ?_); refine with_tabW impl_Decide.tab9 impl_Decide.bits9 (fun HT_ HW_ => ?_)
              generalize w67.drew = w68 at HO_407000 HO_407004 HO_407006 HO_407007 HO_407008 BK384 BK385 BK406 BK408 HB GG38 HQ69 hf38_0 hf38_1 hf38_2 hf38_3 hf38_4 hx38_0 hx38_1 hx38_2 hx38_3 hx38_4 hx410_0 hx410_1 hx410_2 hx410_3 hx410_4 hHeld ⊢
              refine pz_ 0 31 ?_
              refine pz_ 2 33 ?_
              refine pz_ 4 35 ?_
              refine pz_ 6 37 ?_
              refine take_ (i := 1) (N := some 32) (v := ?_) (a' := ?_) #[true, true, true, false, true, false, true, false, false, false, false, false] rfl rfl (take_ofW HT_.out HW_.out (by kernel_rfl)) (fun _ _ _ h => h) (Or.inl ⟨by rfl, ?_⟩) hHeld ?_ ?_
              rotate_left
              ·rintro w' ⟨s0, s1, s2, s3, s4, s5, s6, s7, s8, s9, s10, s11, s12, s13, s14, s15, s16, s17, s18, s19, s20, s21, s22, s23, s24, s25⟩
               go_simp
               with_reducible rfl
              rotate_left
              ·simp only [Act.put, List.setIfInBounds_toArray, List.set_cons_zero, List.set_cons_succ, i64_w, i32_w]
               rfl
              refine take_ (i := 3) (N := some 34) (v := ?_) (a' := ?_) #[true, true, true, true, true, false, true, false, false, false, false, false] rfl rfl (take_ofW HT_.out HW_.out (by kernel_rfl)) (fun _ _ _ h => h) (Or.inl ⟨by rfl, ?_⟩) hHeld ?_ ?_
              rotate_left
              ·rintro w' ⟨s0, s1, s2, s3, s4, s5, s6, s7, s8, s9, s10, s11, s12, s13, s14, s15, s16, s17, s18, s19, s20, s21, s22, s23, s24, s25⟩
               go_simp
               with_reducible rfl
              rotate_left
              ·simp only [Act.put, List.setIfInBounds_toArray, List.set_cons_zero, List.set_cons_succ, i64_w, i32_w]
               rfl
              refine take_ (i := 5) (N := some 36) (v := ?_) (a' := ?_) #[true, true, true, true, true, true, true, false, false, false, false, false] rfl rfl (take_ofW HT_.out HW_.out (by kernel_rfl)) (fun _ _ _ h => h) (Or.inl ⟨by rfl, ?_⟩) hHeld ?_ ?_
              rotate_left
              ·rintro w' ⟨s0, s1, s2, s3, s4, s5, s6, s7, s8, s9, s10, s11, s12, s13, s14, s15, s16, s17, s18, s19, s20, s21, s22, s23, s24, s25⟩
               go_simp
               with_reducible rfl
              rotate_left
              ·simp only [Act.put, List.setIfInBounds_toArray, List.set_cons_zero, List.set_cons_succ, i64_w, i32_w]
               rfl
              refine take_ (i := 7) (N := some 38) (v := ?_) (a' := ?_) #[true, true, true, true, true, true, true, true, false, false, false, false] rfl rfl (take_ofW HT_.out HW_.out (by kernel_rfl)) (fun _ _ _ h => h) (Or.inl ⟨by rfl, ?_⟩) hHeld ?_ ?_
              rotate_left
              ·rintro w' ⟨s0, s1, s2, s3, s4, s5, s6, s7, s8, s9, s10, s11, s12, s13, s14, s15, s16, s17, s18, s19, s20, s21, s22, s23, s24, s25⟩
               go_simp
               with_reducible rfl
              rotate_left
              ·simp only [Act.put, List.setIfInBounds_toArray, List.set_cons_zero, List.set_cons_succ, i64_w, i32_w]
               rfl
              refine pz_ 8 39 ?_
              refine take_ (i := 9) (N := some 40) (v := ?_) (a' := ?_) #[true, true, true, true, true, true, true, true, true, true, false, false] rfl rfl (take_ofW HT_.out HW_.out (by kernel_rfl)) (fun _ _ _ h => h) (Or.inl ⟨by rfl, ?_⟩) hHeld ?_ ?_
              rotate_left
              ·rintro w' ⟨s0, s1, s2, s3, s4, s5, s6, s7, s8, s9, s10, s11, s12, s13, s14, s15, s16, s17, s18, s19, s20, s21, s22, s23, s24, s25⟩
               go_simp
               with_reducible rfl
              rotate_left
              ·simp only [Act.put, List.setIfInBounds_toArray, List.set_cons_zero, List.set_cons_succ, i64_w, i32_w]
               rfl
              refine pz_ 10 41 ?_
              refine last_ (i := 11) (N := none) #[true, true, true, true, true, true, true, true, true, true, true, true] rfl rfl (one_of HT_.out (by kernel_rfl)) (by decide) (fun K hK => ?_)
              refine skip_ (w1 := ?_) (by rfl) rfl ?_ ?_
              rotate_left
              ·go_simp
               rfl
              refine hK.out _ _ ?_
              clear hK K
              refine done_ (done_of HT_.out (by kernel_rfl)) ?_
              have ⟨z70_0, z70_1, z70_2, v70_0, v70_1, v70_2⟩ := rz3 BK408
              have hnr408 : go38 ≠ gb408 := fun e_ => Kd.R_ne HO_407006.out BK408.out (by decide) (by rw [← e_]; rfl)
              have hns408 : gb408 ≠ go38 := fun e_ => hnr408 e_.symm
              try go_wp2
              go_roundg k2
              case measure => have := HJ2.out; have := HK2.out; omega
              case rel => exact ⟨(wrap64 (x22_2 + 1)), (x386001_2), (x386002_2), (x386003_2), (x386005_2), (y411), (.slice (some ⟨go38, 0, none⟩) x407006_2.length co38), e2_, H', ⟨by have := HJ2.out; have := HK2.out; omega⟩, ⟨by (with_reducible repeat (first | apply Kd.R_alloc | apply Kd.R_drewN | apply Kd.R_drew)); exact Kd.R_mono (Kd.R_far (p := ⟨go38, (((rd_T50 l1 x22_2).f1) : Int).toNat * 5 + 4, none⟩) (Kd.R_far (p := ⟨go38, (((rd_T50 l1 x22_2).f1) : Int).toNat * 5 + 3, none⟩) (Kd.R_far (p := ⟨go38, (((rd_T50 l1 x22_2).f1) : Int).toNat * 5 + 2, none⟩) (Kd.R_far (p := ⟨go38, (((rd_T50 l1 x22_2).f1) : Int).toNat * 5 + 1, none⟩) (Kd.R_far (p := ⟨go38, (((rd_T50 l1 x22_2).f1) : Int).toNat * 5, none⟩) (Kd.R_types HO_407000.out GG38.out (by decide)) (fun _ hk => hk.2) (.int .i64 ((rd_T95 l0_6 ((rd_T50 l1 x22_2).f1)).f0))) (fun _ hk => hk.2) (.int .i64 ((rd_T95 l0_6 ((rd_T50 l1 x22_2).f1)).f1))) (fun _ hk => hk.2) (.int .i64 ((rd_T95 l0_6 ((rd_T50 l1 x22_2).f1)).f2))) (fun _ hk => hk.2) (.int .i64 ((rd_T95 l0_6 ((rd_T50 l1 x22_2).f1)).f3))) (fun _ hk => hk.2) (.int .i64 ((rd_T95 l0_6 ((rd_T50 l1 x22_2).f1)).f4))) (fun _ hk => trivial)⟩, ⟨by (with_reducible repeat (first | apply Kd.R_alloc | apply Kd.R_drewN | apply Kd.R_drew)); exact Kd.R_mono (Kd.R_far (p := ⟨go38, (((rd_T50 l1 x22_2).f1) : Int).toNat * 5 + 4, none⟩) (Kd.R_far (p := ⟨go38, (((rd_T50 l1 x22_2).f1) : Int).toNat * 5 + 3, none⟩) (Kd.R_far (p := ⟨go38, (((rd_T50 l1 x22_2).f1) : Int).toNat * 5 + 2, none⟩) (Kd.R_far (p := ⟨go38, (((rd_T50 l1 x22_2).f1) : Int).toNat * 5 + 1, none⟩) (Kd.R_far (p := ⟨go38, (((rd_T50 l1 x22_2).f1) : Int).toNat * 5, none⟩) (Kd.R_types HO_407004.out GG38.out (by decide)) (fun _ hk => hk.2) (.int .i64 ((rd_T95 l0_6 ((rd_T50 l1 x22_2).f1)).f0))) (fun _ hk => hk.2) (.int .i64 ((rd_T95 l0_6 ((rd_T50 l1 x22_2).f1)).f1))) (fun _ hk => hk.2) (.int .i64 ((rd_T95 l0_6 ((rd_T50 l1 x22_2).f1)).f2))) (fun _ hk => hk.2) (.int .i64 ((rd_T95 l0_6 ((rd_T50 l1 x22_2).f1)).f3))) (fun _ hk => hk.2) (.int .i64 ((rd_T95 l0_6 ((rd_T50 l1 x22_2).f1)).f4))) (fun _ hk => ⟨hk.1.1, hk.1.2⟩)⟩, ⟨rr HQ69⟩, ⟨by (with_reducible repeat (first | apply Kd.R_alloc | apply Kd.R_drewN | apply Kd.R_drew)); exact Kd.R_mono (Kd.R_far (p := ⟨go38, (((rd_T50 l1 x22_2).f1) : Int).toNat * 5 + 4, none⟩) (Kd.R_far (p := ⟨go38, (((rd_T50 l1 x22_2).f1) : Int).toNat * 5 + 3, none⟩) (Kd.R_far (p := ⟨go38, (((rd_T50 l1 x22_2).f1) : Int).toNat * 5 + 2, none⟩) (Kd.R_far (p := ⟨go38, (((rd_T50 l1 x22_2).f1) : Int).toNat * 5 + 1, none⟩) (Kd.R_far (p := ⟨go38, (((rd_T50 l1 x22_2).f1) : Int).toNat * 5, none⟩) (Kd.R_types HO_407007.out GG38.out (by decide)) (fun _ hk => hk.2) (.int .i64 ((rd_T95 l0_6 ((rd_T50 l1 x22_2).f1)).f0))) (fun _ hk => hk.2) (.int .i64 ((rd_T95 l0_6 ((rd_T50 l1 x22_2).f1)).f1))) (fun _ hk => hk.2) (.int .i64 ((rd_T95 l0_6 ((rd_T50 l1 x22_2).f1)).f2))) (fun _ hk => hk.2) (.int .i64 ((rd_T95 l0_6 ((rd_T50 l1 x22_2).f1)).f3))) (fun _ hk => hk.2) (.int .i64 ((rd_T95 l0_6 ((rd_T50 l1 x22_2).f1)).f4))) (fun _ hk => ⟨hk.1.1, hk.1.2⟩)⟩, ⟨by (with_reducible repeat (first | apply Kd.R_alloc | apply Kd.R_drewN | apply Kd.R_drew)); exact Kd.R_mono (Kd.R_far (p := ⟨go38, (((rd_T50 l1 x22_2).f1) : Int).toNat * 5 + 4, none⟩) (Kd.R_far (p := ⟨go38, (((rd_T50 l1 x22_2).f1) : Int).toNat * 5 + 3, none⟩) (Kd.R_far (p := ⟨go38, (((rd_T50 l1 x22_2).f1) : Int).toNat * 5 + 2, none⟩) (Kd.R_far (p := ⟨go38, (((rd_T50 l1 x22_2).f1) : Int).toNat * 5 + 1, none⟩) (Kd.R_far (p := ⟨go38, (((rd_T50 l1 x22_2).f1) : Int).toNat * 5, none⟩) (Kd.R_types HO_407008.out GG38.out (by decide)) (fun _ hk => hk.2) (.int .i64 ((rd_T95 l0_6 ((rd_T50 l1 x22_2).f1)).f0))) (fun _ hk => hk.2) (.int .i64 ((rd_T95 l0_6 ((rd_T50 l1 x22_2).f1)).f1))) (fun _ hk => hk.2) (.int .i64 ((rd_T95 l0_6 ((rd_T50 l1 x22_2).f1)).f2))) (fun _ hk => hk.2) (.int .i64 ((rd_T95 l0_6 ((rd_T50 l1 x22_2).f1)).f3))) (fun _ hk => hk.2) (.int .i64 ((rd_T95 l0_6 ((rd_T50 l1 x22_2).f1)).f4))) (fun _ hk => ⟨hk.1.1, hk.1.2⟩)⟩, ⟨bg HO_407006 BK384⟩, ⟨bg HO_407006 BK385⟩, ⟨bg HO_407006 BK406⟩, ⟨bb HB⟩⟩
            ·rw [if_neg c37] at H
             exact absurd H (by simp)
           ·rw [if_neg c36] at H
            exact absurd H (by simp)
          ·rw [if_neg c35] at H
           exact absurd H (by simp)
         ·replace c34 := Bool.eq_false_iff.mpr c34
          subst c34
          have H1 : (some (([] : List (S139)), 0, 0, 0, ([] : List Int), false, ([] : List (S95)), ([] : List Int), ([] : List Int), false)) = some (r1, r2, r3, r4, r5, r6, r7, r8, r9, r10) := by rw [if_neg (show ¬ (false = true) by decide)] at H; exact H
          clear H
          have H := H1
          clear H1
          simp only [Option.some.injEq, Prod.mk.injEq] at H
          obtain ⟨rfl, rfl, rfl, rfl, rfl, rfl, rfl, rfl, rfl, rfl⟩ := H
          have p407 : 0 ≤ (x22_2 : Int) := oa
          have q407 : x22_2 < (l1.length : Int) := oa
          obtain ⟨ad407, e407, hx407_0, hx407_1, hx407_2⟩ := at_T50 HR1.out x22_2 p407 q407
          cases e407
          replace hx407_0 := hc HB hx407_0
          replace hx407_1 := hc HB hx407_1
          replace hx407_2 := hc HB hx407_2
          replace p407 := eq_true p407
          replace q407 := eq_true q407
          go_wp2_with (first | ((with_reducible refine gate_dst (N := 8) rfl ?_); (try (refine gate_guard (by rfl) ?_; dsimp only)); refine bx (N := 8) (cs := #[.int .i64 0, .int .i64 0, .bool false]) (t := 50) ?_; intro gb408 hg w71 hbox hb; replace HO_407000 := kr HO_407000 hb; replace HO_407004 := kr HO_407004 hb; replace HO_407006 := kr HO_407006 hb; replace HO_407007 := kr HO_407007 hb; replace HO_407008 := kr HO_407008 hb; have BK408 := Aside0.mk (hbox); have GW408 := gs hg HB; have GE408 := gs hg HB; replace HB := hs_ HB hb; have NB384_408 := gn hg BK384; have NB408_384 := gm hg BK384; replace BK384 := kb BK384 hb; have NB385_408 := gn hg BK385; have NB408_385 := gm hg BK385; replace BK385 := kb BK385 hb; have NB406_408 := gn hg BK406; have NB408_406 := gm hg BK406; replace BK406 := kb BK406 hb; clear hb hbox hg; have hnb72 := NB408_384.out; have hnc72 := NB384_408.out; have hnb73 := NB408_385.out; have hnc73 := NB385_408.out; have hnb74 := NB408_406.out; have hnc74 := NB406_408.out; have ⟨z75_0, z75_1, z75_2, v75_0, v75_1, v75_2⟩ := rz3 BK408; have hnb76 := NB384_385.out; have hnc76 := NB385_384.out; have hnb77 := NB384_406.out; have hnc77 := NB406_384.out; have ⟨z78_0, z78_1, z78_2, z78_3, z78_4, z78_5, z78_6, z78_7, z78_8, v78_0, v78_1, v78_2, v78_3, v78_4, v78_5, v78_6, v78_7, v78_8⟩ := rz9 BK384) | ((with_reducible refine gate_callee (f := 63) rfl ?_); refine gl (some 28) Try.func63 #[.agg #[.slice A0_0 l0_0.length c0_0, .int .i64 a0_1, .int .i64 a0_2, .int .i64 a0_3, .slice A0_4 l0_4.length c0_4, .bool a0_5, .slice A0_6 l0_6.length c0_6, .slice A0_7 l0_7.length c0_7, .slice A0_8 l0_8.length c0_8], .agg #[.int .i64 ((rd_T50 l1 x22_2).f0), .int .i64 ((rd_T50 l1 x22_2).f1), .bool ((rd_T50 l1 x22_2).f2)]] ?_; (with_reducible refine (impl_ProtestOk.calls k2 _ _ l0_0 a0_1 a0_2 a0_3 _ _ l0_4 a0_5 _ _ l0_6 _ _ l0_7 _ _ l0_8 ((rd_T50 l1 x22_2).f0) ((rd_T50 l1 x22_2).f1) ((rd_T50 l1 x22_2).f2) false _ ?side1 ?side2 ?side3 ?side4 ?side5 ?side6 ?side7 ?side8 ?side9 ?side10 A33.out).mono ?_); (case side1 => exact Kd.C_below HR0_0.out (bb HB)); (case side2 => exact HC0_0.out); (case side3 => exact Kd.C_below HR0_4.out (bb HB)); (case side4 => exact HC0_4.out); (case side5 => exact Kd.C_below HR0_6.out (bb HB)); (case side6 => exact HC0_6.out); (case side7 => exact Kd.C_below HR0_7.out (bb HB)); (case side8 => exact HC0_7.out); (case side9 => exact Kd.C_below HR0_8.out (bb HB)); (case side10 => exact HC0_8.out); rintro e w79 ⟨rfl, hb⟩; refine ⟨_, rfl, ?_⟩; replace HO_407000 := kf HO_407000 BK408 hb; replace HO_407004 := kf HO_407004 BK408 hb; replace HO_407006 := kf HO_407006 BK408 hb; replace HO_407007 := kf HO_407007 BK408 hb; replace HO_407008 := kf HO_407008 BK408 hb; replace BK384 := Aside0.mk (blk_below (bf NB384_408.out BK384) hb); replace BK385 := Aside0.mk (blk_below (bf NB385_408.out BK385) hb); replace BK406 := Aside0.mk (blk_below (bf NB406_408.out BK406) hb); replace BK408 := Aside0.mk (blk_below (g := gb408) (o := .cells #[.int .i64 ((rd_T50 l1 x22_2).f0), .int .i64 ((rd_T50 l1 x22_2).f1), .bool ((rd_T50 l1 x22_2).f2)] 50 (0, 0)) (bp BK408) hb); replace HB := hs_ HB hb; (try clear hb hb2 hk hi); have hnb80 := NB385_406.out; have hnc80 := NB406_385.out; have ⟨z81_0, z81_1, z81_2, z81_3, z81_4, z81_5, z81_6, z81_7, z81_8, v81_0, v81_1, v81_2, v81_3, v81_4, v81_5, v81_6, v81_7, v81_8⟩ := rz9 BK385))
          refine bodyPost_ret (results_ct rfl _ _ gb385 36 #[.slice none 0 0, .int .i64 0, .int .i64 0, .int .i64 0, .slice none 0 0, .bool false, .slice none 0 0, .slice none 0 0, .slice none 0 0] (0, 0) _ rfl (by (with_reducible repeat (first | refine blk_drewN ?_ _ | refine blk_drew ?_ | refine blk_alloc ?_ _)); refine blk_put (cs := #[.slice none 0 0, .int .i64 0, .int .i64 0, .int .i64 0, .slice none 0 0, .bool false, .slice none 0 0, .slice none 0 0, .slice none 0 0]) ?_ 8 _ rfl; (with_reducible repeat (first | refine blk_drewN ?_ _ | refine blk_drew ?_ | refine blk_alloc ?_ _)); refine blk_put (cs := #[.slice none 0 0, .int .i64 0, .int .i64 0, .int .i64 0, .slice none 0 0, .bool false, .slice none 0 0, .slice none 0 0, .slice none 0 0]) ?_ 7 _ rfl; (with_reducible repeat (first | refine blk_drewN ?_ _ | refine blk_drew ?_ | refine blk_alloc ?_ _)); refine blk_put (cs := #[.slice none 0 0, .int .i64 0, .int .i64 0, .int .i64 0, .slice none 0 0, .bool false, .slice none 0 0, .slice none 0 0, .slice none 0 0]) ?_ 6 _ rfl; (with_reducible repeat (first | refine blk_drewN ?_ _ | refine blk_drew ?_ | refine blk_alloc ?_ _)); refine blk_put (cs := #[.slice none 0 0, .int .i64 0, .int .i64 0, .int .i64 0, .slice none 0 0, .bool x386005_2, .slice none 0 0, .slice none 0 0, .slice none 0 0]) ?_ 5 _ rfl; (with_reducible repeat (first | refine blk_drewN ?_ _ | refine blk_drew ?_ | refine blk_alloc ?_ _)); refine blk_put (cs := #[.slice none 0 0, .int .i64 0, .int .i64 0, .int .i64 0, .slice none 0 0, .bool x386005_2, .slice none 0 0, .slice none 0 0, .slice none 0 0]) ?_ 4 _ rfl; (with_reducible repeat (first | refine blk_drewN ?_ _ | refine blk_drew ?_ | refine blk_alloc ?_ _)); refine blk_put (cs := #[.slice none 0 0, .int .i64 0, .int .i64 0, .int .i64 x386003_2, .slice none 0 0, .bool x386005_2, .slice none 0 0, .slice none 0 0, .slice none 0 0]) ?_ 3 _ rfl; (with_reducible repeat (first | refine blk_drewN ?_ _ | refine blk_drew ?_ | refine blk_alloc ?_ _)); refine blk_put (cs := #[.slice none 0 0, .int .i64 0, .int .i64 x386002_2, .int .i64 x386003_2, .slice none 0 0, .bool x386005_2, .slice none 0 0, .slice none 0 0, .slice none 0 0]) ?_ 2 _ rfl; (with_reducible repeat (first | refine blk_drewN ?_ _ | refine blk_drew ?_ | refine blk_alloc ?_ _)); refine blk_put (cs := #[.slice none 0 0, .int .i64 x386001_2, .int .i64 x386002_2, .int .i64 x386003_2, .slice none 0 0, .bool x386005_2, .slice none 0 0, .slice none 0 0, .slice none 0 0]) ?_ 1 _ rfl; (with_reducible repeat (first | refine blk_drewN ?_ _ | refine blk_drew ?_ | refine blk_alloc ?_ _)); refine blk_put (cs := #[.slice none 0 0, .int .i64 x386001_2, .int .i64 x386002_2, .int .i64 x386003_2, .slice none 0 0, .bool x386005_2, .slice none 0 0, .slice none 0 0, .slice none 0 0]) ?_ 0 _ rfl; (with_reducible repeat (first | refine blk_drewN ?_ _ | refine blk_drew ?_ | refine blk_alloc ?_ _)); exact BK385.out) Try.underlying36 rfl (by kernel_rfl)) rfl ?_
          exact ⟨_, _, _, _, _, ee, by first | exact Kd.R_nil _ _ _ _ _ | exact Kd.N_nil _ _ _ _ _ | exact Kd.V_nil _ _ _ _ _ | exact Kd.Q_nil _ _ _ _ _ | exact Kd.S_nil _ _ _ _ _, by first | exact Kd.R_nil _ _ _ _ _ | exact Kd.N_nil _ _ _ _ _ | exact Kd.V_nil _ _ _ _ _ | exact Kd.Q_nil _ _ _ _ _ | exact Kd.S_nil _ _ _ _ _, by first | exact Kd.R_nil _ _ _ _ _ | exact Kd.N_nil _ _ _ _ _ | exact Kd.V_nil _ _ _ _ _ | exact Kd.Q_nil _ _ _ _ _ | exact Kd.S_nil _ _ _ _ _, by first | exact Kd.R_nil _ _ _ _ _ | exact Kd.N_nil _ _ _ _ _ | exact Kd.V_nil _ _ _ _ _ | exact Kd.Q_nil _ _ _ _ _ | exact Kd.S_nil _ _ _ _ _, by first | exact Kd.R_nil _ _ _ _ _ | exact Kd.N_nil _ _ _ _ _ | exact Kd.V_nil _ _ _ _ _ | exact Kd.Q_nil _ _ _ _ _ | exact Kd.S_nil _ _ _ _ _, bb HB⟩
        ·rw [if_neg c32] at H
         exact absurd H (by simp)
       ·rw [if_neg c31] at H
        exact absurd H (by simp)
      ·rw [if_neg c30] at H
       have c30b0 : decide (x22_2 < (l1.length : Int)) = false := decide_eq_false c30
       clear c30
       simp only [Option.some.injEq, Prod.mk.injEq] at H
       obtain ⟨rfl, rfl, rfl, rfl, rfl, rfl, rfl, rfl, rfl, rfl⟩ := H
       have hnb82 := NB406_384.out
       have hnc82 := NB384_406.out
       have hnb83 := NB406_385.out
       have hnc83 := NB385_406.out
       have ⟨z84_0, z84_1, z84_2, z84_3, z84_4, z84_5, z84_6, z84_7, z84_8, v84_0, v84_1, v84_2, v84_3, v84_4, v84_5, v84_6, v84_7, v84_8⟩ := rz9 BK406
       have hnb85 := NB385_384.out
       have hnc85 := NB384_385.out
       have ⟨z86_0, z86_1, z86_2, z86_3, z86_4, z86_5, z86_6, z86_7, z86_8, v86_0, v86_1, v86_2, v86_3, v86_4, v86_5, v86_6, v86_7, v86_8⟩ := rz9 BK385
       obtain ⟨Ao87, co87, eo87⟩ := Kd.R_slice HO_407006.out
       subst eo87
       go_wp2
       refine bodyPost_ret (results_ct rfl _ _ gb385 36 #[.slice Ao22 t387.length co22, .int .i64 t390, .int .i64 t391, .int .i64 t392, .slice Ao26 t393.length co26, .bool t396, .slice Ao87 x407006_2.length co87, .slice Ao28 t400.length co28, .slice Ao29 t403.length co29] (0, 0) _ rfl (by (with_reducible repeat (first | refine blk_drewN ?_ _ | refine blk_drew ?_ | refine blk_alloc ?_ _)); refine blk_put (cs := #[.slice Ao22 t387.length co22, .int .i64 t390, .int .i64 t391, .int .i64 t392, .slice Ao26 t393.length co26, .bool t396, .slice Ao87 x407006_2.length co87, .slice Ao28 t400.length co28, .slice none 0 0]) ?_ 8 _ rfl; (with_reducible repeat (first | refine blk_drewN ?_ _ | refine blk_drew ?_ | refine blk_alloc ?_ _)); refine blk_put (cs := #[.slice Ao22 t387.length co22, .int .i64 t390, .int .i64 t391, .int .i64 t392, .slice Ao26 t393.length co26, .bool t396, .slice Ao87 x407006_2.length co87, .slice none 0 0, .slice none 0 0]) ?_ 7 _ rfl; (with_reducible repeat (first | refine blk_drewN ?_ _ | refine blk_drew ?_ | refine blk_alloc ?_ _)); refine blk_put (cs := #[.slice Ao22 t387.length co22, .int .i64 t390, .int .i64 t391, .int .i64 t392, .slice Ao26 t393.length co26, .bool t396, .slice none 0 0, .slice none 0 0, .slice none 0 0]) ?_ 6 _ rfl; (with_reducible repeat (first | refine blk_drewN ?_ _ | refine blk_drew ?_ | refine blk_alloc ?_ _)); refine blk_put (cs := #[.slice Ao22 t387.length co22, .int .i64 t390, .int .i64 t391, .int .i64 t392, .slice Ao26 t393.length co26, .bool x386005_2, .slice none 0 0, .slice none 0 0, .slice none 0 0]) ?_ 5 _ rfl; (with_reducible repeat (first | refine blk_drewN ?_ _ | refine blk_drew ?_ | refine blk_alloc ?_ _)); refine blk_put (cs := #[.slice Ao22 t387.length co22, .int .i64 t390, .int .i64 t391, .int .i64 t392, .slice none 0 0, .bool x386005_2, .slice none 0 0, .slice none 0 0, .slice none 0 0]) ?_ 4 _ rfl; (with_reducible repeat (first | refine blk_drewN ?_ _ | refine blk_drew ?_ | refine blk_alloc ?_ _)); refine blk_put (cs := #[.slice Ao22 t387.length co22, .int .i64 t390, .int .i64 t391, .int .i64 x386003_2, .slice none 0 0, .bool x386005_2, .slice none 0 0, .slice none 0 0, .slice none 0 0]) ?_ 3 _ rfl; (with_reducible repeat (first | refine blk_drewN ?_ _ | refine blk_drew ?_ | refine blk_alloc ?_ _)); refine blk_put (cs := #[.slice Ao22 t387.length co22, .int .i64 t390, .int .i64 x386002_2, .int .i64 x386003_2, .slice none 0 0, .bool x386005_2, .slice none 0 0, .slice none 0 0, .slice none 0 0]) ?_ 2 _ rfl; (with_reducible repeat (first | refine blk_drewN ?_ _ | refine blk_drew ?_ | refine blk_alloc ?_ _)); refine blk_put (cs := #[.slice Ao22 t387.length co22, .int .i64 x386001_2, .int .i64 x386002_2, .int .i64 x386003_2, .slice none 0 0, .bool x386005_2, .slice none 0 0, .slice none 0 0, .slice none 0 0]) ?_ 1 _ rfl; (with_reducible repeat (first | refine blk_drewN ?_ _ | refine blk_drew ?_ | refine blk_alloc ?_ _)); refine blk_put (cs := #[.slice none 0 0, .int .i64 x386001_2, .int .i64 x386002_2, .int .i64 x386003_2, .slice none 0 0, .bool x386005_2, .slice none 0 0, .slice none 0 0, .slice none 0 0]) ?_ 0 _ rfl; (with_reducible repeat (first | refine blk_drewN ?_ _ | refine blk_drew ?_ | refine blk_alloc ?_ _)); exact BK385.out) Try.underlying36 rfl (by kernel_rfl)) rfl ?_
       exact ⟨_, _, _, _, _, ee, rf HO_407000 BK385 (fun _ hk => trivial), rf HO_407004 BK385 (fun _ hk => ⟨hk.1.1, hk.1.2⟩), rf HO_407006 BK385 (fun _ hk => trivial), rf HO_407007 BK385 (fun _ hk => ⟨hk.1.1, hk.1.2⟩), rf HO_407008 BK385 (fun _ hk => ⟨hk.1.1, hk.1.2⟩), bb HB⟩
end Go.Proofs.Ythfefanapneocaa.Q
end
namespace Go.Proofs.Ythfefanapneocaa.Q
open Go.RowKit Go.Proofs.YthfefanapneocaaW.PrintWords Go.Proofs.YthfefanapneocaaW.PrintLast Go.Proofs.YthfefanapneocaaW.PrintMore
attribute [local go_sem] max2_int min2_int max_two min_two max_three min_three max_four min_four
set_option linter.unusedVariables false
set_option linter.unusedSimpArgs false
set_option maxRecDepth 100000
set_option maxHeartbeats 8000000
def impl_upTo.l0 : Nat → List Int → Int → Int → Option (List Int)
 | 0, _, _, _ => none
 | k + 1, x3, x7, x8 => if x8 < x7 then (if x3.length < 17592186044416 then (impl_upTo.l0 k (x3 ++ [x8]) x7 (wrap64 (x8 + 1))) else (none)) else (some x3)
def impl_upTo.f (k : Nat) (a0 : Int) : Option (List Int) := impl_upTo.l0 k (([] : List Int)) (mx a0 0) 0
theorem impl_upTo.calls (k : Nat) (a0 : Int) (r : List Int) (w : World) (h : impl_upTo.f k a0 = some r) :
  Calls Try.prog 132 #[.int .i64 a0] w fun e w' => ∃ v0_ : Value, e = .returned (v0_) ∧ Kd.R (Kd.int .i64) 3 w' w.heap.size (fun _ => True) v0_ r ∧ Below w.heap.size w w' := by
 have HB := Aside0.mk (Below.refl w.heap.size w)
 have H : (impl_upTo.l0 k (([] : List Int)) (mx a0 0) 0) = some r := h
 clear h
 obtain ⟨y734, hy734⟩ : ∃ y_ : List Int, y_ = (([] : List Int)) := ⟨_, rfl⟩
 replace H : (impl_upTo.l0 k y734 (mx a0 0) 0) = some r := by first | (rw [hy734]; with_reducible exact H) | (have H2_ := (Option.bind_some _ _).symm.trans H; rw [hy734]; with_reducible exact H2_) | (have H2_ := (Option.bind_some _ _).symm.trans H; with_reducible exact H2_) | with_reducible exact H | (rw [hy734]; exact H) | exact H
 have Ny734 := Aside0.mk hy734
 clear hy734
 obtain ⟨ji2, hji2⟩ : ∃ j_ : Int, (mx a0 0) = j_ := ⟨_, rfl⟩
 replace H : (impl_upTo.l0 k y734 ji2 0) = some r := by first | (rw [hji2] at H; exact H) | (simp only [hji2] at H ⊢; exact H)
 (try (have hji2l : 0 ≤ ji2 := by (rw [← hji2]; unfold mx; (repeat' split) <;> omega)))
 (try (have hji2m : 0 ≤ ji2 := by omega))
 have hji2_ : (if a0 < 0 then 0 else a0) = ji2 := hji2
 have H' := Aside0.mk H
 clear H
 go_enter Try.func132, Try.ntmps132
 go_wp2_with (first | ((with_reducible refine gate_dst (N := 5) rfl ?_); refine Kd.R_lit (Kd.int .i64) _ 3 ?hg (N := 5) ?hd (xs := ([] : List Int)) (inner := []) (ok := fun _ => True) (okp := fun _ => True) ?hr ?hp (fun _ hk => hk) trivial (Below.refl _ _) (Nat.le_refl _) (by simp) ?_; (case hd => rfl); (case hg => rfl); (case hr => first | (go_simp; done) | (go_simp; rfl)); (case hp => exact (Reps.none _ _)); intro v735 w3 ho4 hb hg_ hnew_; clear hg_ hnew_; (first | rw [← Ny734.out] at ho4 | (simp only [Int.reduceToNat] at ho4; rw [← Ny734.out] at ho4)); have HO736 := kl ho4 HB; replace HB := hs_ HB hb; clear hb ho4))
 go_loopg [3, 8] k (fun kq v3 v8 w' => ∃ (x3_1 : List Int) (x8_1 : Int), v8 = .int .i64 x8_1 ∧ Aside0 (impl_upTo.l0 kq x3_1 ji2 x8_1 = some r) ∧ Aside0 (kq ≤ k) ∧ Aside0 (Kd.R (Kd.int .i64) 3 w' w.heap.size (fun _ => True) v3 x3_1) ∧ Aside0 (Below w.heap.size w w'))
 case atStart => exact ⟨(y734), (0), e2_, H', ⟨Nat.le_refl _⟩, ⟨rr HO736⟩, ⟨bb HB⟩⟩
 case round =>
  clear H'
  (try clear c1)
  (try clear p2)
  obtain ⟨x3_1, x8_1, rfl, HA, HK1, HO_3, HB⟩ := hrel
  cases gk with
  | zero => exact absurd HA.out (by simp [impl_upTo.l0])
  | succ k1 =>
   have H := HA.out
   clear HA
   simp only [impl_upTo.l0] at H
   by_cases c5 : x8_1 < ji2
   ·rw [if_pos c5] at H
    have c5b0 : decide (x8_1 < ji2) = true := decide_eq_true c5
    clear c5
    by_cases c6 : x3_1.length < 17592186044416
    ·rw [if_pos c6] at H
     have LMc6 := Aside0.mk c6
     clear c6
     obtain ⟨y737, hy737⟩ : ∃ y_ : List Int, y_ = (x3_1 ++ [x8_1]) := ⟨_, rfl⟩
     replace H : (impl_upTo.l0 k1 y737 ji2 (wrap64 (x8_1 + 1))) = some r := by first | (rw [hy737]; with_reducible exact H) | (have H2_ := (Option.bind_some _ _).symm.trans H; rw [hy737]; with_reducible exact H2_) | (have H2_ := (Option.bind_some _ _).symm.trans H; with_reducible exact H2_) | with_reducible exact H | (rw [hy737]; exact H) | exact H
     have Ny737 := Aside0.mk hy737
     clear hy737
     have H' := Aside0.mk H
     clear H
     go_wp2_with (first | ((with_reducible refine gate_builtin (b := .append) (xs := #[.tmp 11, .tmp 13]) rfl ?_); at_builtin; refine Kd.R_append (Kd.int .i64) (w0 := w) w.heap.size rfl (.tmp 11) (.tmp 13) 23 3 (.int .i64 0) 8 rfl Try.underlying23 info3 rfl (by decide) (by omega) u3 x3_1 x8_1 [.int .i64 x8_1] (fun _ => True) (fun _ => False) rfl rfl ?aP (fun _ hk => hk.elim) ?aF ?aO ?aB ?aS ?aL ?_; (case aP => exact rfl); (case aB => exact (bb HB)); (case aF => exact (fun _ _ => trivial)); (case aO => exact (rr HO_3)); (case aS => exact (below_size (bb HB))); (case aL => have := LMc6.out; omega); intro v738 w7 ho hb hg hat; rw [← Ny737.out] at ho; replace HB := Aside0.mk (hb); have HO739 := Aside0.mk (ho); clear HO_3 ho hb hg hat))
     go_roundg k1
     case measure => have := HK1.out; omega
     case rel => exact ⟨(y737), (wrap64 (x8_1 + 1)), e2_, H', ⟨by have := HK1.out; omega⟩, ⟨rr HO739⟩, ⟨bb HB⟩⟩
    ·rw [if_neg c6] at H
     exact absurd H (by simp)
   ·rw [if_neg c5] at H
    have c5b0 : decide (x8_1 < ji2) = false := decide_eq_false c5
    clear c5
    obtain rfl := Option.some.inj H
    go_wp2
    go_ret
    exact ⟨_, by first | rfl | (simp [errW_none, errW_some] <;> rfl) | (simp only [← hji2]; first | rfl | (simp [errW_none, errW_some] <;> rfl)) | (simp [*, errW_none, errW_some] <;> rfl), rr HO_3, bb HB⟩
end Go.Proofs.Ythfefanapneocaa.Q
namespace Go.Proofs.Ythfefanapneocaa.Q
open Go.RowKit Go.Proofs.YthfefanapneocaaW.PrintWords Go.Proofs.YthfefanapneocaaW.PrintLast Go.Proofs.YthfefanapneocaaW.PrintMore
attribute [local go_sem] max2_int min2_int max_two min_two max_three min_three max_four min_four
set_option linter.unusedVariables false
set_option linter.unusedSimpArgs false
attribute [local go_sem high] eqA95
def cgP (l1 l2 : List S95) (i : Int) : Bool := ((rd_T95 l1 i).f0 == (rd_T95 l2 i).f0 && ((rd_T95 l1 i).f1 == (rd_T95 l2 i).f1 && ((rd_T95 l1 i).f2 == (rd_T95 l2 i).f2 && ((rd_T95 l1 i).f3 == (rd_T95 l2 i).f3 && ((rd_T95 l1 i).f4 == (rd_T95 l2 i).f4)))))
set_option maxHeartbeats 4000000 in
set_option maxRecDepth 100000 in
theorem impl_ChangedGames_1.gives (l1 l2 : List S95) (A1 A2 : Option Addr) (c1 c2 ga gb : Nat) (i : Int) (hi : 0 ≤ i) (h1 : i < (l1.length : Int)) (h2 : i < (l2.length : Int)) (W : World)
    (ca : W.cell? ⟨ga, 6, none⟩ = some (.slice A1 l1.length c1)) (cb : W.cell? ⟨gb, 6, none⟩ = some (.slice A2 l2.length c2)) (r1 : Kd.C k95 W A1 l1.length l1) (r2 : Kd.C k95 W A2 l2.length l2) :
    FnGives Try.prog 133 #[.pointer (some ⟨ga, 0, none⟩), .pointer (some ⟨gb, 0, none⟩)] #[.int .i64 i] (.bool (cgP l1 l2 i)) W := by
  show Calls Try.prog 133 #[.int .i64 i, .pointer (some ⟨ga, 0, none⟩), .pointer (some ⟨gb, 0, none⟩)] W _
  obtain ⟨ad1, e1, x10, x11, x12, x13, x14⟩ := at_T95 r1 i hi h1
  obtain ⟨ad2, e2, x20, x21, x22, x23, x24⟩ := at_T95 r2 i hi h2
  cases e1
  cases e2
  clear r1 r2
  have p1 := eq_true hi
  have q1 := eq_true h1
  have q2 := eq_true h2
  unfold cgP
  clear hi h1 h2
  generalize rd_T95 l1 i = y1 at *
  generalize rd_T95 l2 i = y2 at *
  go_enter Try.func133, Try.ntmps133
  try go_wp2
  repeat (go_quiet (fail); try go_wp2)
  go_ret
  exact ⟨by rfl, _, rfl⟩
def Try.delRen : Go.Shelf.Ren := ⟨fun | 6 => 167 | 10 => 131 | n => n, fun | 22 => 23 | 23 => 3 | 25 => 153 | n => n, fun | n => n⟩
theorem Try.delLays : Go.Proofs.SlLaysH.n10 Try.prog Try.delRen := {
  mixed := by kernel_rfl
  f6 := ⟨Try.f167.name, by decide, Try.func167.trans (congrArg some (by kernel_rfl))⟩
  f10 := ⟨Try.f131.name, by decide, Try.func131.trans (congrArg some (by kernel_rfl))⟩
  t0 := Try.underlying0, a0 := Try.isAgg0, z0 := Try.sizeOf0, v0 := Try.zeroValue0
  t3 := Try.underlying3, a3 := Try.isAgg3, z3 := Try.sizeOf3, v3 := Try.zeroValue3
  t4 := Try.underlying4, a4 := Try.isAgg4, z4 := Try.sizeOf4, v4 := Try.zeroValue4
  t22 := Try.underlying23, a22 := Try.isAgg23, z22 := Try.sizeOf23, v22 := Try.zeroValue23
  a23 := Try.isAgg3, z23 := Try.sizeOf3
  t25 := Try.underlying153, a25 := Try.isAgg153, z25 := Try.sizeOf153, v25 := Try.zeroValue153 }
def upL (n : Nat) : List Int := (List.range n).map (fun i : Nat => (i : Int))
theorem upTo_eq (n : Nat) (h : n < 17592186044416) : impl_upTo.f (n + 1) (n : Int) = some (upL n) := by
  have key : ∀ d i, i + d = n → impl_upTo.l0 (d + 1) (upL i) (n : Int) (i : Int) = some (upL n) := by
    intro d
    induction d with
    | zero =>
      intro i hi
      obtain rfl : i = n := by omega
      rw [impl_upTo.l0, if_neg (by omega)]
    | succ d ih =>
      intro i hi
      have hs : upL i ++ [(i : Int)] = upL (i + 1) := by simp [upL, List.range_succ]
      have hl : (upL i).length = i := by simp [upL]
      have hw : wrap64 ((i : Int) + 1) = ((i + 1 : Nat) : Int) := by unfold wrap64; omega
      rw [impl_upTo.l0, if_pos (by omega), if_pos (by omega), hs, hw]
      exact ih (i + 1) (by omega)
  unfold impl_upTo.f
  have hm : mx (n : Int) 0 = (n : Int) := by unfold mx; split <;> omega
  rw [hm]
  exact key n 0 (by omega)
theorem finR (n : Nat) : List.range n = (List.finRange n).map (fun i => i.val) := by apply List.ext_getElem <;> simp
theorem int_inner {w : World} {base : Nat} {ok : Nat → Prop} {ps : List Int} {cs : List Value} (h : Reps ((Kd.int .i64).M w base ok) 1 ps cs) : cs = ps.map (Value.int .i64) := by
  obtain ⟨hl, h⟩ := h
  have hM : ∀ j p, ps[j]? = some p → (cs.drop (j * 1)).take 1 = [Value.int .i64 p] := h
  apply List.ext_getElem?
  intro j
  rw [List.getElem?_map]
  cases hp : ps[j]? with
  | none =>
    rw [List.getElem?_eq_none_iff] at hp
    rw [List.getElem?_eq_none (by omega)]
    rfl
  | some p =>
    have := congrArg (fun l => l[0]?) (hM j p hp)
    simpa [List.getElem?_take, List.getElem?_drop] using this
theorem int_row {w : World} {base : Nat} {v : Value} {xs : List Int} (h : w.ownsRow base 3 1 v xs.length (xs.map (Value.int .i64))) : Kd.R (Kd.int .i64) 3 w base (fun _ => True) v xs := by
  refine ⟨fun _ _ => trivial, _, h, by simp [Kd.int, Kd.scalar], fun j p hj => ?_⟩
  show ((xs.map (Value.int .i64)).drop (j * 1)).take 1 = [Value.int .i64 p]
  have hj' : j < xs.length := by rw [List.getElem?_eq_some_iff] at hj; exact hj.1
  rw [List.drop_eq_getElem_cons (by simpa using hj')]
  rw [List.getElem?_eq_getElem hj'] at hj
  simp only [Nat.mul_one, List.take_succ_cons, List.take_zero, List.getElem_map]
  rw [Option.some.inj hj]
theorem below_sortWorld {α : Type} [Inhabited α] {enc : α → Value} {B : Nat} {w0 w : World} {blk off n : Nat} {d : Array α} {os : Array Obj} (h : Below B w0 w) (hw : B ≤ w.heap.size) (hg : B ≤ blk) : Below B w0 (Go.Proofs.sortWorld enc w blk off n d os) :=
  ⟨h.os, h.tape, h.output, Nat.le_trans h.size (by show w.heap.size ≤ ((Sort.putRow enc (Sort.ahead w n) blk off d).heap ++ os).size; rw [Array.size_append, Sort.size_putRow]; exact Nat.le_add_right _ _), fun k hk => by
    rw [← h.block k hk]
    have h1 : (Go.Proofs.sortWorld enc w blk off n d os).heap[k]? = (Sort.putRow enc (Sort.ahead w n) blk off d).heap[k]? := Sort.heap_grow_old _ os (by rw [Sort.size_putRow]; exact Nat.lt_of_lt_of_le hk hw)
    rw [h1]
    simp [Sort.putRow, Sort.mapBlock, Sort.ahead, Array.getElem?_modify, show blk ≠ k by omega]⟩
theorem delGames (n : Nat) (hn0 : 0 < n) (hn : n < 17592186044416) (l1 l2 : List S95) (h1 : n ≤ l1.length) (h2 : n ≤ l2.length) (A1 A2 : Option Addr) (c1 c2 ga gb : Nat) (w1 w : World) (v : Value) (base : Nat)
    (ca : w1.cell? ⟨ga, 6, none⟩ = some (.slice A1 l1.length c1)) (cb : w1.cell? ⟨gb, 6, none⟩ = some (.slice A2 l2.length c2)) (r1 : Kd.C k95 w1 A1 l1.length l1) (r2 : Kd.C k95 w1 A2 l2.length l2)
    (hb : Below w1.heap.size w1 w) (hbase : w1.heap.size ≤ base) (ho : Kd.R (Kd.int .i64) 3 w base (fun _ => True) v (upL n)) :
    Calls Try.prog 131 #[v, .func (.func 133) #[] #[.pointer (some ⟨ga, 0, none⟩), .pointer (some ⟨gb, 0, none⟩)]] w fun e w' => ∃ v', e = .returned v' ∧ Kd.R (Kd.int .i64) 3 w' base (fun _ => True) v' ((upL n).filter fun i => !cgP l1 l2 i) ∧ Below w1.heap.size w1 w' := by
  have : Inhabited (Fin n) := ⟨⟨0, hn0⟩⟩
  obtain ⟨-, inner, hown, hreps⟩ := ho
  have hin : inner = (upL n).map (Value.int .i64) := int_inner hreps
  have hlen : (upL n).length = n := by simp [upL]
  have hL : (upL n).map (Value.int .i64) = (List.finRange n).map (fun i : Fin n => Value.int .i64 (i.val : Int)) := by
    unfold upL
    rw [finR, List.map_map, List.map_map]
    rfl
  rw [hin, hlen, hL] at hown
  have hne : v ≠ .slice none 0 0 := by
    rintro rfl
    rcases hown.2 with ⟨_, h0⟩ | ⟨g, cap, cur, h0, _⟩
    · omega
    · cases h0
  obtain ⟨g, cap, rfl, hg, hglt, hcap, hmax, -, hH⟩ := Lib.holds_of_ownsRow (enc := fun i : Fin n => Value.int .i64 (i.val : Int)) hown hne
  have hsz : (List.finRange n).toArray.size = n := by simp
  have give : ∀ (W : World) (x : Fin n), Below w1.heap.size w1 W → FnGives Try.prog 133 #[.pointer (some ⟨ga, 0, none⟩), .pointer (some ⟨gb, 0, none⟩)] #[.int .i64 (x.val : Int)] (.bool (cgP l1 l2 (x.val : Int))) W := by
    intro W x hW
    have hx := x.isLt
    refine impl_ChangedGames_1.gives l1 l2 A1 A2 c1 c2 ga gb (x.val : Int) (by omega) (by omega) (by omega) W ((hW.cell (World.block_lt_of_cell? w1 _ ca)).trans ca) ((hW.cell (World.block_lt_of_cell? w1 _ cb)).trans cb) (Kd.C_below r1 hW) (Kd.C_below r2 hW)
  have eg : ∀ args w, (callFunc 133 args).run Try.prog w = .ok (.enter 133 args) w := my_enters Try.func133 (by kernel_rfl) rfl
  have hws : w1.heap.size ≤ w.heap.size := hb.size
  have hcon := Go.Proofs.AnyE.slices_DeleteFunc Try.delLays (fun i : Fin n => Value.int .i64 (i.val : Int)) (fun _ => rfl) (fun x => cgP l1 l2 (x.val : Int)) 133 #[.pointer (some ⟨ga, 0, none⟩), .pointer (some ⟨gb, 0, none⟩)] eg ⟨0, hn0⟩ Try.zeroValue3 g 0 cap (List.finRange n).toArray w
    (fun W x hW => give W x (below_then hb hws hW))
    (fun m os dk x _ => give _ x (below_sortWorld hb hws (Nat.le_trans hbase hg)))
    hH (by rw [hsz]; omega) (by rw [hsz]; exact hcap)
  rw [hsz] at hcon
  refine Calls.mono hcon ?_
  rintro e w' ⟨rfl, q, rfl⟩
  refine ⟨_, rfl, ?_, Lib.below_putRow hb (Nat.le_trans hbase hg)⟩
  have hF : ((upL n).filter fun i => !cgP l1 l2 i) = ((List.finRange n).filter fun x => !cgP l1 l2 (x.val : Int)).map (fun i : Fin n => (i.val : Int)) := by
    unfold upL
    rw [finR, List.map_map, List.filter_map]
    rfl
  generalize hk : (List.finRange n).filter (fun x => !cgP l1 l2 (x.val : Int)) = kept at hF
  have hkl : kept.length ≤ n := by rw [← hk]; have := List.length_filter_le (fun x : Fin n => !cgP l1 l2 (x.val : Int)) (List.finRange n); simpa using this
  have hR := Lib.ownsRow_putRow (q := q) (k := kept.length) (ys := kept ++ List.replicate (n - kept.length) (⟨0, hn0⟩ : Fin n)) hown (by simp; omega) hkl
  rw [List.take_left' rfl] at hR
  rw [hF]
  refine int_row ?_
  rw [List.length_map, List.map_map]
  exact hR
theorem min2_mn (k k' : IntKind) (x y : Int) : Builtin.min2 (.int k x) (.int k' y) = pure (.int k (mn x y)) := by rw [min2_int]; rfl
attribute [local go_sem high] min2_mn
def impl_ChangedGames.f (l0_0 : List (S139)) (a0_1 : Int) (a0_2 : Int) (a0_3 : Int) (l0_4 : List Int) (a0_5 : Bool) (l0_6 : List (S95)) (l0_7 : List Int) (l0_8 : List Int) (l1_0 : List (S139)) (a1_1 : Int) (a1_2 : Int) (a1_3 : Int) (l1_4 : List Int) (a1_5 : Bool) (l1_6 : List (S95)) (l1_7 : List Int) (l1_8 : List Int) : Option (List Int) := if 0 < min l0_6.length l1_6.length ∧ min l0_6.length l1_6.length < 17592186044416 then some ((upL (min l0_6.length l1_6.length)).filter fun i => !cgP l0_6 l1_6 i) else none
set_option maxHeartbeats 4000000 in
set_option maxRecDepth 100000 in
theorem impl_ChangedGames.calls (A0_0 : Option Addr) (c0_0 : Nat) (l0_0 : List (S139)) (a0_1 : Int) (a0_2 : Int) (a0_3 : Int) (A0_4 : Option Addr) (c0_4 : Nat) (l0_4 : List Int) (a0_5 : Bool) (A0_6 : Option Addr) (c0_6 : Nat) (l0_6 : List (S95)) (A0_7 : Option Addr) (c0_7 : Nat) (l0_7 : List Int) (A0_8 : Option Addr) (c0_8 : Nat) (l0_8 : List Int) (A1_0 : Option Addr) (c1_0 : Nat) (l1_0 : List (S139)) (a1_1 : Int) (a1_2 : Int) (a1_3 : Int) (A1_4 : Option Addr) (c1_4 : Nat) (l1_4 : List Int) (a1_5 : Bool) (A1_6 : Option Addr) (c1_6 : Nat) (l1_6 : List (S95)) (A1_7 : Option Addr) (c1_7 : Nat) (l1_7 : List Int) (A1_8 : Option Addr) (c1_8 : Nat) (l1_8 : List Int) (r : List Int) (w : World) (hr0_0 : Kd.C k139 w A0_0 l0_0.length l0_0) (hc0_0 : l0_0.length ≤ c0_0) (hr0_4 : Kd.C (Kd.int .i64) w A0_4 l0_4.length l0_4) (hc0_4 : l0_4.length ≤ c0_4) (hr0_6 : Kd.C k95 w A0_6 l0_6.length l0_6) (hc0_6 : l0_6.length ≤ c0_6) (hr0_7 : Kd.C (Kd.int .i64) w A0_7 l0_7.length l0_7) (hc0_7 : l0_7.length ≤ c0_7) (hr0_8 : Kd.C (Kd.int .i64) w A0_8 l0_8.length l0_8) (hc0_8 : l0_8.length ≤ c0_8) (hr1_0 : Kd.C k139 w A1_0 l1_0.length l1_0) (hc1_0 : l1_0.length ≤ c1_0) (hr1_4 : Kd.C (Kd.int .i64) w A1_4 l1_4.length l1_4) (hc1_4 : l1_4.length ≤ c1_4) (hr1_6 : Kd.C k95 w A1_6 l1_6.length l1_6) (hc1_6 : l1_6.length ≤ c1_6) (hr1_7 : Kd.C (Kd.int .i64) w A1_7 l1_7.length l1_7) (hc1_7 : l1_7.length ≤ c1_7) (hr1_8 : Kd.C (Kd.int .i64) w A1_8 l1_8.length l1_8) (hc1_8 : l1_8.length ≤ c1_8) (h : impl_ChangedGames.f l0_0 a0_1 a0_2 a0_3 l0_4 a0_5 l0_6 l0_7 l0_8 l1_0 a1_1 a1_2 a1_3 l1_4 a1_5 l1_6 l1_7 l1_8 = some r) :
    Calls Try.prog 75 #[.agg #[.slice A0_0 l0_0.length c0_0, .int .i64 a0_1, .int .i64 a0_2, .int .i64 a0_3, .slice A0_4 l0_4.length c0_4, .bool a0_5, .slice A0_6 l0_6.length c0_6, .slice A0_7 l0_7.length c0_7, .slice A0_8 l0_8.length c0_8], .agg #[.slice A1_0 l1_0.length c1_0, .int .i64 a1_1, .int .i64 a1_2, .int .i64 a1_3, .slice A1_4 l1_4.length c1_4, .bool a1_5, .slice A1_6 l1_6.length c1_6, .slice A1_7 l1_7.length c1_7, .slice A1_8 l1_8.length c1_8]] w fun e w' => ∃ v0_ : Value, e = .returned v0_ ∧ Kd.R (Kd.int .i64) 3 w' w.heap.size (fun _ => True) v0_ r ∧ Below w.heap.size w w' := by
  unfold impl_ChangedGames.f at h
  by_cases hz : 0 < min l0_6.length l1_6.length ∧ min l0_6.length l1_6.length < 17592186044416
  · rw [if_pos hz] at h
    obtain rfl := Option.some.inj h
    have HZ := Aside0.mk hz
    have R1 := Aside0.mk hr0_6
    have R2 := Aside0.mk hr1_6
    have hmn : mn (l0_6.length : Int) (l1_6.length : Int) = ((min l0_6.length l1_6.length : Nat) : Int) := by unfold mn; omega
    have hup := upTo_eq (min l0_6.length l1_6.length) hz.2
    rw [← hmn] at hup
    have UP := Aside0.mk hup
    have DEL := Aside0.mk (delGames (min l0_6.length l1_6.length) hz.1 hz.2 l0_6 l1_6 (Nat.min_le_left _ _) (Nat.min_le_right _ _))
    clear h hz hr0_0 hc0_0 hr0_4 hc0_4 hr0_6 hc0_6 hr0_7 hc0_7 hr0_8 hc0_8 hr1_0 hc1_0 hr1_4 hc1_4 hr1_6 hc1_6 hr1_7 hc1_7 hr1_8 hc1_8 hup hmn
    generalize min l0_6.length l1_6.length = n at UP DEL ⊢
    have HB := Aside0.mk (Below.refl w.heap.size w)
    go_enter Try.func75, Try.ntmps75
    go_wp2_with (first
      | ((with_reducible refine gate_dst (N := 2) rfl ?_); refine bx (N := 2) (cs := #[.slice A0_0 l0_0.length c0_0, .int .i64 a0_1, .int .i64 a0_2, .int .i64 a0_3, .slice A0_4 l0_4.length c0_4, .bool a0_5, .slice A0_6 l0_6.length c0_6, .slice A0_7 l0_7.length c0_7, .slice A0_8 l0_8.length c0_8]) (t := 36) ?_; intro ga hga w1 hbox hb; have BA := Aside0.mk hbox; replace HB := hs_ HB hb; clear hbox hb hga)
      | ((with_reducible refine gate_dst (N := 3) rfl ?_); refine bx (N := 3) (cs := #[.slice A1_0 l1_0.length c1_0, .int .i64 a1_1, .int .i64 a1_2, .int .i64 a1_3, .slice A1_4 l1_4.length c1_4, .bool a1_5, .slice A1_6 l1_6.length c1_6, .slice A1_7 l1_7.length c1_7, .slice A1_8 l1_8.length c1_8]) (t := 36) ?_; intro gb hgb w2 hbox hb; replace BA := kb BA hb; have BB := Aside0.mk hbox; replace HB := hs_ HB hb; clear hbox hb hgb; have ⟨za0, za1, za2, za3, za4, za5, za6, za7, za8, _⟩ := rz9 BA; have ⟨zb0, zb1, zb2, zb3, zb4, zb5, zb6, zb7, zb8, _⟩ := rz9 BB)
      | ((with_reducible refine gate_callee (f := 132) rfl ?_); refine gl (some 12) Try.func132 #[.int .i64 (mn (l0_6.length : Int) (l1_6.length : Int))] ?_; (with_reducible refine (impl_upTo.calls (n + 1) _ _ _ UP.out).mono ?_); rintro e w3 ⟨v, rfl, ho, hb⟩; refine ⟨_, rfl, ?_⟩; have HO := Aside0.mk ho; have HB3 := Aside0.mk hb; clear ho hb)
      | ((with_reducible refine gate_callee (f := 131) rfl ?_); refine gl (some 14) Try.func131 #[v, .func (.func 133) #[] #[.pointer (some ⟨ga, 0, none⟩), .pointer (some ⟨gb, 0, none⟩)]] ?_; (with_reducible refine (DEL.out A0_6 A1_6 c0_6 c1_6 ga gb w2 w3 v w2.heap.size (rz9 BA).2.2.2.2.2.2.1 (rz9 BB).2.2.2.2.2.2.1 (cc R1 HB) (cc R2 HB) HB3.out (Nat.le_refl _) HO.out).mono ?_); rintro e w4 ⟨v', rfl, ho, hb⟩; refine ⟨_, rfl, ?_⟩; have HO4 := kl ho HB; replace HB := hs_ HB hb; clear ho hb))
    go_ret
    exact ⟨_, rfl, HO4.out, HB.out⟩
  · rw [if_neg hz] at h
    cases h
end Go.Proofs.Ythfefanapneocaa.Q
namespace Go.Proofs.Ythfefanapneocaa.Q
open Go.RowKit Go.Proofs.YthfefanapneocaaW.PrintWords Go.Proofs.YthfefanapneocaaW.PrintLast Go.Proofs.YthfefanapneocaaW.PrintMore
attribute [local go_sem] max2_int min2_int max_two min_two max_three min_three max_four min_four
set_option linter.unusedVariables false
set_option linter.unusedSimpArgs false
set_option maxRecDepth 100000
set_option maxHeartbeats 8000000
def impl_OrderMatters.f (k : Nat) (l0_0 : List (S139)) (a0_1 : Int) (a0_2 : Int) (a0_3 : Int) (l0_4 : List Int) (a0_5 : Bool) (l0_6 : List (S95)) (l0_7 : List Int) (l0_8 : List Int) (a1_0 : Int) (a1_1 : Int) (a1_2 : Bool) (a2_0 : Int) (a2_1 : Int) (a2_2 : Bool) : Option (Bool) := (impl_Decide.f k l0_0 a0_1 a0_2 a0_3 l0_4 a0_5 l0_6 l0_7 l0_8 (([(⟨a1_0, a1_1, a1_2⟩ : S50), (⟨a2_0, a2_1, a2_2⟩ : S50)] : List (S50)))).bind fun bt746 => ((impl_Decide.f k l0_0 a0_1 a0_2 a0_3 l0_4 a0_5 l0_6 l0_7 l0_8 (([(⟨a2_0, a2_1, a2_2⟩ : S50), (⟨a1_0, a1_1, a1_2⟩ : S50)] : List (S50)))).bind fun bt770 => (if bt746.2.2.2.2.2.2.2.2.2 = true then (if bt770.2.2.2.2.2.2.2.2.2 = true then ((impl_ChangedGames.f bt746.1 bt746.2.1 bt746.2.2.1 bt746.2.2.2.1 bt746.2.2.2.2.1 bt746.2.2.2.2.2.1 bt746.2.2.2.2.2.2.1 bt746.2.2.2.2.2.2.2.1 bt746.2.2.2.2.2.2.2.2.1 bt770.1 bt770.2.1 bt770.2.2.1 bt770.2.2.2.1 bt770.2.2.2.2.1 bt770.2.2.2.2.2.1 bt770.2.2.2.2.2.2.1 bt770.2.2.2.2.2.2.2.1 bt770.2.2.2.2.2.2.2.2.1).bind fun t791 => (some (decide ((t791.length : Int) > 0)))) else (some false)) else (some false)))
theorem impl_OrderMatters.calls (k : Nat) (A0_0 : Option Addr) (c0_0 : Nat) (l0_0 : List (S139)) (a0_1 : Int) (a0_2 : Int) (a0_3 : Int) (A0_4 : Option Addr) (c0_4 : Nat) (l0_4 : List Int) (a0_5 : Bool) (A0_6 : Option Addr) (c0_6 : Nat) (l0_6 : List (S95)) (A0_7 : Option Addr) (c0_7 : Nat) (l0_7 : List Int) (A0_8 : Option Addr) (c0_8 : Nat) (l0_8 : List Int) (a1_0 : Int) (a1_1 : Int) (a1_2 : Bool) (a2_0 : Int) (a2_1 : Int) (a2_2 : Bool) (r : Bool) (w : World) (hr0_0 : Kd.C k139 w A0_0 l0_0.length l0_0) (hc0_0 : l0_0.length ≤ c0_0) (hr0_4 : Kd.C (Kd.int .i64) w A0_4 l0_4.length l0_4) (hc0_4 : l0_4.length ≤ c0_4) (hr0_6 : Kd.C k95 w A0_6 l0_6.length l0_6) (hc0_6 : l0_6.length ≤ c0_6) (hr0_7 : Kd.C (Kd.int .i64) w A0_7 l0_7.length l0_7) (hc0_7 : l0_7.length ≤ c0_7) (hr0_8 : Kd.C (Kd.int .i64) w A0_8 l0_8.length l0_8) (hc0_8 : l0_8.length ≤ c0_8) (h : impl_OrderMatters.f k l0_0 a0_1 a0_2 a0_3 l0_4 a0_5 l0_6 l0_7 l0_8 a1_0 a1_1 a1_2 a2_0 a2_1 a2_2 = some r) :
  Calls Try.prog 23 #[.agg #[.slice A0_0 l0_0.length c0_0, .int .i64 a0_1, .int .i64 a0_2, .int .i64 a0_3, .slice A0_4 l0_4.length c0_4, .bool a0_5, .slice A0_6 l0_6.length c0_6, .slice A0_7 l0_7.length c0_7, .slice A0_8 l0_8.length c0_8], .agg #[.int .i64 a1_0, .int .i64 a1_1, .bool a1_2], .agg #[.int .i64 a2_0, .int .i64 a2_1, .bool a2_2]] w fun e w' => e = .returned (.bool r) ∧ Below w.heap.size w w' := by
 have hu36 := Try.underlying36
 have hu50 := Try.underlying50
 have HR0_0 := Aside0.mk hr0_0
 have HC0_0 := Aside0.mk hc0_0
 clear hr0_0 hc0_0
 have HR0_4 := Aside0.mk hr0_4
 have HC0_4 := Aside0.mk hc0_4
 clear hr0_4 hc0_4
 have HR0_6 := Aside0.mk hr0_6
 have HC0_6 := Aside0.mk hc0_6
 clear hr0_6 hc0_6
 have HR0_7 := Aside0.mk hr0_7
 have HC0_7 := Aside0.mk hc0_7
 clear hr0_7 hc0_7
 have HR0_8 := Aside0.mk hr0_8
 have HC0_8 := Aside0.mk hc0_8
 clear hr0_8 hc0_8
 have HB := Aside0.mk (Below.refl w.heap.size w)
 have H : ((impl_Decide.f k l0_0 a0_1 a0_2 a0_3 l0_4 a0_5 l0_6 l0_7 l0_8 (([(⟨a1_0, a1_1, a1_2⟩ : S50), (⟨a2_0, a2_1, a2_2⟩ : S50)] : List (S50)))).bind fun bt746 => ((impl_Decide.f k l0_0 a0_1 a0_2 a0_3 l0_4 a0_5 l0_6 l0_7 l0_8 (([(⟨a2_0, a2_1, a2_2⟩ : S50), (⟨a1_0, a1_1, a1_2⟩ : S50)] : List (S50)))).bind fun bt770 => (if bt746.2.2.2.2.2.2.2.2.2 = true then (if bt770.2.2.2.2.2.2.2.2.2 = true then ((impl_ChangedGames.f bt746.1 bt746.2.1 bt746.2.2.1 bt746.2.2.2.1 bt746.2.2.2.2.1 bt746.2.2.2.2.2.1 bt746.2.2.2.2.2.2.1 bt746.2.2.2.2.2.2.2.1 bt746.2.2.2.2.2.2.2.2.1 bt770.1 bt770.2.1 bt770.2.2.1 bt770.2.2.2.1 bt770.2.2.2.2.1 bt770.2.2.2.2.2.1 bt770.2.2.2.2.2.2.1 bt770.2.2.2.2.2.2.2.1 bt770.2.2.2.2.2.2.2.2.1).bind fun t791 => (some (decide ((t791.length : Int) > 0)))) else (some false)) else (some false)))) = some r := h
 clear h
 obtain ⟨y743, hy743⟩ : ∃ y_ : List (S50), y_ = (([(⟨a1_0, a1_1, a1_2⟩ : S50), (⟨a2_0, a2_1, a2_2⟩ : S50)] : List (S50))) := ⟨_, rfl⟩
 replace H : ((impl_Decide.f k l0_0 a0_1 a0_2 a0_3 l0_4 a0_5 l0_6 l0_7 l0_8 y743).bind fun bt746 => ((impl_Decide.f k l0_0 a0_1 a0_2 a0_3 l0_4 a0_5 l0_6 l0_7 l0_8 (([(⟨a2_0, a2_1, a2_2⟩ : S50), (⟨a1_0, a1_1, a1_2⟩ : S50)] : List (S50)))).bind fun bt770 => (if bt746.2.2.2.2.2.2.2.2.2 = true then (if bt770.2.2.2.2.2.2.2.2.2 = true then ((impl_ChangedGames.f bt746.1 bt746.2.1 bt746.2.2.1 bt746.2.2.2.1 bt746.2.2.2.2.1 bt746.2.2.2.2.2.1 bt746.2.2.2.2.2.2.1 bt746.2.2.2.2.2.2.2.1 bt746.2.2.2.2.2.2.2.2.1 bt770.1 bt770.2.1 bt770.2.2.1 bt770.2.2.2.1 bt770.2.2.2.2.1 bt770.2.2.2.2.2.1 bt770.2.2.2.2.2.2.1 bt770.2.2.2.2.2.2.2.1 bt770.2.2.2.2.2.2.2.2.1).bind fun t791 => (some (decide ((t791.length : Int) > 0)))) else (some false)) else (some false)))) = some r := by first | (rw [hy743]; with_reducible exact H) | (have H2_ := (Option.bind_some _ _).symm.trans H; rw [hy743]; with_reducible exact H2_) | (have H2_ := (Option.bind_some _ _).symm.trans H; with_reducible exact H2_) | with_reducible exact H | (rw [hy743]; exact H) | exact H
 have Ny743 := Aside0.mk hy743
 clear hy743
 replace H := Option.bind_eq_some_iff.mp H
 obtain ⟨⟨t746, t749, t750, t751, t752, t755, t756, t759, t762, t765⟩, A40, H⟩ := H
 try dsimp only at H
 have A4 := Aside0.mk A40
 clear A40
 obtain ⟨y767, hy767⟩ : ∃ y_ : List (S50), y_ = (([(⟨a2_0, a2_1, a2_2⟩ : S50), (⟨a1_0, a1_1, a1_2⟩ : S50)] : List (S50))) := ⟨_, rfl⟩
 replace H : ((impl_Decide.f k l0_0 a0_1 a0_2 a0_3 l0_4 a0_5 l0_6 l0_7 l0_8 y767).bind fun bt770 => (if t765 = true then (if bt770.2.2.2.2.2.2.2.2.2 = true then ((impl_ChangedGames.f t746 t749 t750 t751 t752 t755 t756 t759 t762 bt770.1 bt770.2.1 bt770.2.2.1 bt770.2.2.2.1 bt770.2.2.2.2.1 bt770.2.2.2.2.2.1 bt770.2.2.2.2.2.2.1 bt770.2.2.2.2.2.2.2.1 bt770.2.2.2.2.2.2.2.2.1).bind fun t791 => (some (decide ((t791.length : Int) > 0)))) else (some false)) else (some false))) = some r := by first | (rw [hy767]; with_reducible exact H) | (have H2_ := (Option.bind_some _ _).symm.trans H; rw [hy767]; with_reducible exact H2_) | (have H2_ := (Option.bind_some _ _).symm.trans H; with_reducible exact H2_) | with_reducible exact H | (rw [hy767]; exact H) | exact H
 have Ny767 := Aside0.mk hy767
 clear hy767
 replace H := Option.bind_eq_some_iff.mp H
 obtain ⟨⟨t770, t773, t774, t775, t776, t779, t780, t783, t786, t789⟩, A50, H⟩ := H
 try dsimp only at H
 have A5 := Aside0.mk A50
 clear A50
 by_cases c6 : t765 = true
 ·subst c6
  rw [if_pos rfl] at H
  by_cases c7 : t789 = true
  ·subst c7
   rw [if_pos rfl] at H
   replace H := Option.bind_eq_some_iff.mp H
   obtain ⟨t791, A80, H⟩ := H
   try dsimp only at H
   have A8 := Aside0.mk A80
   clear A80
   obtain rfl := Option.some.inj H
   go_enter Try.func23, Try.ntmps23
   go_wp2_with (first | ((with_reducible refine gate_dst (N := 3) rfl ?_); (try (refine gate_guard (by rfl) ?_; dsimp only)); refine bx (N := 3) (cs := #[.slice A0_0 l0_0.length c0_0, .int .i64 a0_1, .int .i64 a0_2, .int .i64 a0_3, .slice A0_4 l0_4.length c0_4, .bool a0_5, .slice A0_6 l0_6.length c0_6, .slice A0_7 l0_7.length c0_7, .slice A0_8 l0_8.length c0_8]) (t := 36) ?_; intro gb740 hg w9 hbox hb; have BK740 := Aside0.mk (hbox); have GW740 := gs hg HB; have GE740 := gs hg HB; replace HB := hs_ HB hb; clear hb hbox hg) | ((with_reducible refine gate_dst (N := 4) rfl ?_); (try (refine gate_guard (by rfl) ?_; dsimp only)); refine bx (N := 4) (cs := #[.int .i64 a1_0, .int .i64 a1_1, .bool a1_2]) (t := 50) ?_; intro gb741 hg w10 hbox hb; have BK741 := Aside0.mk (hbox); have GW741 := gs hg HB; have GE741 := gs hg HB; replace HB := hs_ HB hb; have NB740_741 := gn hg BK740; have NB741_740 := gm hg BK740; replace BK740 := kb BK740 hb; clear hb hbox hg) | ((with_reducible refine gate_dst (N := 5) rfl ?_); (try (refine gate_guard (by rfl) ?_; dsimp only)); refine bx (N := 5) (cs := #[.int .i64 a2_0, .int .i64 a2_1, .bool a2_2]) (t := 50) ?_; intro gb742 hg w11 hbox hb; have BK742 := Aside0.mk (hbox); have GW742 := gs hg HB; have GE742 := gs hg HB; replace HB := hs_ HB hb; have NB740_742 := gn hg BK740; have NB742_740 := gm hg BK740; replace BK740 := kb BK740 hb; have NB741_742 := gn hg BK741; have NB742_741 := gm hg BK741; replace BK741 := kb BK741 hb; clear hb hbox hg; have hnb12 := NB740_741.out; have hnc12 := NB741_740.out; have hnb13 := NB740_742.out; have hnc13 := NB742_740.out; have ⟨z14_0, z14_1, z14_2, z14_3, z14_4, z14_5, z14_6, z14_7, z14_8, v14_0, v14_1, v14_2, v14_3, v14_4, v14_5, v14_6, v14_7, v14_8⟩ := rz9 BK740; have hnb15 := NB741_742.out; have hnc15 := NB742_741.out; have ⟨z16_0, z16_1, z16_2, v16_0, v16_1, v16_2⟩ := rz3 BK741; have ⟨z17_0, z17_1, z17_2, v17_0, v17_1, v17_2⟩ := rz3 BK742) | ((with_reducible refine gate_dst (N := 15) rfl ?_); (try (refine gate_guard (by rfl) ?_; dsimp only)); refine Kd.R_lit k50 _ 50 ?hg (N := 15) ?hd (xs := ([(⟨a1_0, a1_1, a1_2⟩ : S50), (⟨a2_0, a2_1, a2_2⟩ : S50)] : List (S50))) (inner := [.int .i64 a1_0, .int .i64 a1_1, .bool a1_2, .int .i64 a2_0, .int .i64 a2_1, .bool a2_2]) (ok := fun _ => True) (okp := fun _ => True) ?hr ?hp (fun _ hk => hk) trivial (Below.refl _ _) (Nat.le_refl _) (by simp) ?_; (case hd => rfl); (case hg => rfl); (case hr => first | (go_simp; done) | (go_simp; rfl)); (case hp => exact (Reps.c3 (show Kd.M k50 _ _ _ (⟨a1_0, a1_1, a1_2⟩ : S50) [.int .i64 a1_0, .int .i64 a1_1, .bool a1_2] from (k50_mkM _ _ _ (⟨a1_0, a1_1, a1_2⟩ : S50) )) (Reps.c3 (show Kd.M k50 _ _ _ (⟨a2_0, a2_1, a2_2⟩ : S50) [.int .i64 a2_0, .int .i64 a2_1, .bool a2_2] from (k50_mkM _ _ _ (⟨a2_0, a2_1, a2_2⟩ : S50) )) (Reps.none _ _)))); intro v744 w18 ho19 hb hg_ hnew_; clear hg_ hnew_; (first | rw [← Ny743.out] at ho19 | (simp only [Int.reduceToNat] at ho19; rw [← Ny743.out] at ho19)); have HO745 := Aside0.mk (Kd.R_lower (Kd.R_newB (Kd.R_newB ho19 (g := gb741) (o := .cells #[.int .i64 a1_0, .int .i64 a1_1, .bool a1_2] 50 (0, 0)) (bk BK741)) (g := gb742) (o := .cells #[.int .i64 a2_0, .int .i64 a2_1, .bool a2_2] 50 (0, 0)) (bk BK742)) (below_size (bb HB))); replace BK740 := kb BK740 hb; replace BK741 := kb BK741 hb; replace BK742 := kb BK742 hb; replace HB := hs_ HB hb; clear hb ho19; obtain ⟨Ao20, co20, eo20⟩ := Kd.R_slice HO745.out; subst eo20) | ((with_reducible refine gate_callee (f := 15) rfl ?_); refine gl (some 16) Try.func15 #[.agg #[.slice A0_0 l0_0.length c0_0, .int .i64 a0_1, .int .i64 a0_2, .int .i64 a0_3, .slice A0_4 l0_4.length c0_4, .bool a0_5, .slice A0_6 l0_6.length c0_6, .slice A0_7 l0_7.length c0_7, .slice A0_8 l0_8.length c0_8], .slice Ao20 y743.length co20] ?_; (with_reducible refine (impl_Decide.calls k _ _ l0_0 a0_1 a0_2 a0_3 _ _ l0_4 a0_5 _ _ l0_6 _ _ l0_7 _ _ l0_8 _ _ y743 t746 t749 t750 t751 t752 t755 t756 t759 t762 true _ ?side1 ?side2 ?side3 ?side4 ?side5 ?side6 ?side7 ?side8 ?side9 ?side10 ?side11 ?side12 A4.out).mono ?_); (case side1 => exact cc HR0_0 HB); (case side2 => exact HC0_0.out); (case side3 => exact cc HR0_4 HB); (case side4 => exact HC0_4.out); (case side5 => exact cc HR0_6 HB); (case side6 => exact HC0_6.out); (case side7 => exact cc HR0_7 HB); (case side8 => exact HC0_7.out); (case side9 => exact cc HR0_8 HB); (case side10 => exact HC0_8.out); (case side11 => exact cr HO745); (case side12 => exact cl HO745); rintro e w21 ⟨v747, v753, v757, v760, v763, rfl, ho0, ho1, ho2, ho3, ho4, hb⟩; refine ⟨_, rfl, ?_⟩; replace HO745 := kr HO745 hb; have HO748 := kl ho0 HB; have HO754 := kl ho1 HB; have HO758 := kl ho2 HB; have HO761 := kl ho3 HB; have HO764 := kl ho4 HB; replace BK740 := kb BK740 hb; replace BK741 := kb BK741 hb; replace BK742 := kb BK742 hb; replace HB := hs_ HB hb; (try clear hb hb2 hk hi ho0 ho1 ho2 ho3 ho4)) | ((with_reducible refine gate_dst (N := 7) rfl ?_); (try (refine gate_guard (by rfl) ?_; dsimp only)); refine bx (N := 7) (cs := #[.slice none 0 0, .int .i64 0, .int .i64 0, .int .i64 0, .slice none 0 0, .bool false, .slice none 0 0, .slice none 0 0, .slice none 0 0]) (t := 36) ?_; intro gb766 hg w22 hbox hb; replace HO745 := kr HO745 hb; replace HO748 := kr HO748 hb; replace HO754 := kr HO754 hb; replace HO758 := kr HO758 hb; replace HO761 := kr HO761 hb; replace HO764 := kr HO764 hb; have BK766 := Aside0.mk (hbox); have GW766 := gs hg HB; have GE766 := gs hg HB; replace HB := hs_ HB hb; have NB740_766 := gn hg BK740; have NB766_740 := gm hg BK740; replace BK740 := kb BK740 hb; have NB741_766 := gn hg BK741; have NB766_741 := gm hg BK741; replace BK741 := kb BK741 hb; have NB742_766 := gn hg BK742; have NB766_742 := gm hg BK742; replace BK742 := kb BK742 hb; clear hb hbox hg; obtain ⟨Ao23, co23, eo23⟩ := Kd.R_slice HO748.out; subst eo23; have hnb24 := NB766_740.out; have hnc24 := NB740_766.out; have hnb25 := NB766_741.out; have hnc25 := NB741_766.out; have hnb26 := NB766_742.out; have hnc26 := NB742_766.out; have ⟨z27_0, z27_1, z27_2, z27_3, z27_4, z27_5, z27_6, z27_7, z27_8, v27_0, v27_1, v27_2, v27_3, v27_4, v27_5, v27_6, v27_7, v27_8⟩ := rz9 BK766; obtain ⟨Ao28, co28, eo28⟩ := Kd.R_slice HO754.out; subst eo28; obtain ⟨Ao29, co29, eo29⟩ := Kd.R_slice HO758.out; subst eo29; obtain ⟨Ao30, co30, eo30⟩ := Kd.R_slice HO761.out; subst eo30; obtain ⟨Ao31, co31, eo31⟩ := Kd.R_slice HO764.out; subst eo31; have ⟨z32_0, z32_1, z32_2, z32_3, z32_4, z32_5, z32_6, z32_7, z32_8, v32_0, v32_1, v32_2, v32_3, v32_4, v32_5, v32_6, v32_7, v32_8⟩ := rz9 BK740; have ⟨z33_0, z33_1, z33_2, v33_0, v33_1, v33_2⟩ := rz3 BK742; have ⟨z34_0, z34_1, z34_2, v34_0, v34_1, v34_2⟩ := rz3 BK741) | ((with_reducible refine gate_dst (N := 23) rfl ?_); (try (refine gate_guard (by rfl) ?_; dsimp only)); refine Kd.R_lit k50 _ 50 ?hg (N := 23) ?hd (xs := ([(⟨a2_0, a2_1, a2_2⟩ : S50), (⟨a1_0, a1_1, a1_2⟩ : S50)] : List (S50))) (inner := [.int .i64 a2_0, .int .i64 a2_1, .bool a2_2, .int .i64 a1_0, .int .i64 a1_1, .bool a1_2]) (ok := fun _ => True) (okp := fun _ => True) ?hr ?hp (fun _ hk => hk) trivial (Below.refl _ _) (Nat.le_refl _) (by simp) ?_; (case hd => rfl); (case hg => rfl); (case hr => first | (go_simp; done) | (go_simp; rfl)); (case hp => exact (Reps.c3 (show Kd.M k50 _ _ _ (⟨a2_0, a2_1, a2_2⟩ : S50) [.int .i64 a2_0, .int .i64 a2_1, .bool a2_2] from (k50_mkM _ _ _ (⟨a2_0, a2_1, a2_2⟩ : S50) )) (Reps.c3 (show Kd.M k50 _ _ _ (⟨a1_0, a1_1, a1_2⟩ : S50) [.int .i64 a1_0, .int .i64 a1_1, .bool a1_2] from (k50_mkM _ _ _ (⟨a1_0, a1_1, a1_2⟩ : S50) )) (Reps.none _ _)))); intro v768 w35 ho36 hb hg_ hnew_; clear hg_ hnew_; (first | rw [← Ny767.out] at ho36 | (simp only [Int.reduceToNat] at ho36; rw [← Ny767.out] at ho36)); replace HO748 := kf HO748 BK766 hb; replace HO754 := kf HO754 BK766 hb; replace HO758 := kf HO758 BK766 hb; replace HO761 := kf HO761 BK766 hb; replace HO764 := kf HO764 BK766 hb; have HO769 := Aside0.mk (Kd.R_lower (Kd.R_newB (Kd.R_newB (Kd.R_new' ho36 (Kd.R_lt (rf HO745 BK766 (fun _ h_ => h_.1)))) (g := gb741) (o := .cells #[.int .i64 a1_0, .int .i64 a1_1, .bool a1_2] 50 (0, 0)) (bf NB741_766.out BK741)) (g := gb742) (o := .cells #[.int .i64 a2_0, .int .i64 a2_1, .bool a2_2] 50 (0, 0)) (bf NB742_766.out BK742)) (below_size (bb HB))); replace HO745 := Aside0.mk (Kd.R_elder' (rf HO745 BK766 (fun _ h_ => h_.1)) (Kd.R_base ho36) hb); replace BK740 := Aside0.mk (blk_below (bf NB740_766.out BK740) hb); replace BK741 := Aside0.mk (blk_below (bf NB741_766.out BK741) hb); replace BK742 := Aside0.mk (blk_below (bf NB742_766.out BK742) hb); replace BK766 := Aside0.mk (blk_below (g := gb766) (o := .cells #[.slice Ao23 t746.length co23, .int .i64 t749, .int .i64 t750, .int .i64 t751, .slice Ao28 t752.length co28, .bool t755, .slice Ao29 t756.length co29, .slice Ao30 t759.length co30, .slice Ao31 t762.length co31] 36 (0, 0)) (bp BK766) hb); replace HB := hs_ HB hb; clear hb ho36; obtain ⟨Ao37, co37, eo37⟩ := Kd.R_slice HO769.out; subst eo37) | ((with_reducible refine gate_callee (f := 15) rfl ?_); refine gl (some 24) Try.func15 #[.agg #[.slice A0_0 l0_0.length c0_0, .int .i64 a0_1, .int .i64 a0_2, .int .i64 a0_3, .slice A0_4 l0_4.length c0_4, .bool a0_5, .slice A0_6 l0_6.length c0_6, .slice A0_7 l0_7.length c0_7, .slice A0_8 l0_8.length c0_8], .slice Ao37 y767.length co37] ?_; (with_reducible refine (impl_Decide.calls k _ _ l0_0 a0_1 a0_2 a0_3 _ _ l0_4 a0_5 _ _ l0_6 _ _ l0_7 _ _ l0_8 _ _ y767 t770 t773 t774 t775 t776 t779 t780 t783 t786 true _ ?side1 ?side2 ?side3 ?side4 ?side5 ?side6 ?side7 ?side8 ?side9 ?side10 ?side11 ?side12 A5.out).mono ?_); (case side1 => exact cc HR0_0 HB); (case side2 => exact HC0_0.out); (case side3 => exact cc HR0_4 HB); (case side4 => exact HC0_4.out); (case side5 => exact cc HR0_6 HB); (case side6 => exact HC0_6.out); (case side7 => exact cc HR0_7 HB); (case side8 => exact HC0_7.out); (case side9 => exact cc HR0_8 HB); (case side10 => exact HC0_8.out); (case side11 => exact cr HO769); (case side12 => exact cl HO769); rintro e w38 ⟨v771, v777, v781, v784, v787, rfl, ho0, ho1, ho2, ho3, ho4, hb⟩; refine ⟨_, rfl, ?_⟩; replace HO745 := kr HO745 hb; replace HO769 := kr HO769 hb; have HO772 := Aside0.mk (Kd.R_lower (Kd.R_new' ho0 (rt HO748)) (below_size (bb HB))); replace HO748 := ke HO748 ho0 hb; have HO778 := Aside0.mk (Kd.R_lower (Kd.R_new' (Kd.R_new' (Kd.R_new' ho1 (rt HO754)) (rt HO761)) (rt HO764)) (below_size (bb HB))); have HO782 := Aside0.mk (Kd.R_lower (Kd.R_new' ho2 (rt HO758)) (below_size (bb HB))); replace HO758 := ke HO758 ho2 hb; have HO785 := Aside0.mk (Kd.R_lower (Kd.R_new' (Kd.R_new' (Kd.R_new' ho3 (rt HO754)) (rt HO761)) (rt HO764)) (below_size (bb HB))); have HO788 := Aside0.mk (Kd.R_lower (Kd.R_new' (Kd.R_new' (Kd.R_new' ho4 (rt HO754)) (rt HO761)) (rt HO764)) (below_size (bb HB))); replace HO754 := Aside0.mk (Kd.R_mono (Kd.R_told (Kd.R_told (Kd.R_told (Kd.R_old (rr HO754) hb) (Kd.R_base ho1)) (Kd.R_base ho3)) (Kd.R_base ho4)) (fun _ h_ => h_.1)); replace HO761 := Aside0.mk (Kd.R_mono (Kd.R_told (Kd.R_told (Kd.R_told (Kd.R_old (rr HO761) hb) (Kd.R_base ho1)) (Kd.R_base ho3)) (Kd.R_base ho4)) (fun _ h_ => h_.1)); replace HO764 := Aside0.mk (Kd.R_mono (Kd.R_told (Kd.R_told (Kd.R_told (Kd.R_old (rr HO764) hb) (Kd.R_base ho1)) (Kd.R_base ho3)) (Kd.R_base ho4)) (fun _ h_ => h_.1)); replace BK740 := kb BK740 hb; replace BK741 := kb BK741 hb; replace BK742 := kb BK742 hb; replace BK766 := kb BK766 hb; replace HB := hs_ HB hb; (try clear hb hb2 hk hi ho0 ho1 ho2 ho3 ho4)) | ((with_reducible refine gate_dst (N := 9) rfl ?_); (try (refine gate_guard (by rfl) ?_; dsimp only)); refine bx (N := 9) (cs := #[.slice none 0 0, .int .i64 0, .int .i64 0, .int .i64 0, .slice none 0 0, .bool false, .slice none 0 0, .slice none 0 0, .slice none 0 0]) (t := 36) ?_; intro gb790 hg w39 hbox hb; replace HO745 := kr HO745 hb; replace HO748 := kr HO748 hb; replace HO754 := kr HO754 hb; replace HO758 := kr HO758 hb; replace HO761 := kr HO761 hb; replace HO764 := kr HO764 hb; replace HO769 := kr HO769 hb; replace HO772 := kr HO772 hb; replace HO778 := kr HO778 hb; replace HO782 := kr HO782 hb; replace HO785 := kr HO785 hb; replace HO788 := kr HO788 hb; have BK790 := Aside0.mk (hbox); have GW790 := gs hg HB; have GE790 := gs hg HB; replace HB := hs_ HB hb; have NB740_790 := gn hg BK740; have NB790_740 := gm hg BK740; replace BK740 := kb BK740 hb; have NB741_790 := gn hg BK741; have NB790_741 := gm hg BK741; replace BK741 := kb BK741 hb; have NB742_790 := gn hg BK742; have NB790_742 := gm hg BK742; replace BK742 := kb BK742 hb; have NB766_790 := gn hg BK766; have NB790_766 := gm hg BK766; replace BK766 := kb BK766 hb; clear hb hbox hg; obtain ⟨Ao40, co40, eo40⟩ := Kd.R_slice HO772.out; subst eo40; have hnb41 := NB790_740.out; have hnc41 := NB740_790.out; have hnb42 := NB790_741.out; have hnc42 := NB741_790.out; have hnb43 := NB790_742.out; have hnc43 := NB742_790.out; have hnb44 := NB790_766.out; have hnc44 := NB766_790.out; have ⟨z45_0, z45_1, z45_2, z45_3, z45_4, z45_5, z45_6, z45_7, z45_8, v45_0, v45_1, v45_2, v45_3, v45_4, v45_5, v45_6, v45_7, v45_8⟩ := rz9 BK790; obtain ⟨Ao46, co46, eo46⟩ := Kd.R_slice HO778.out; subst eo46; obtain ⟨Ao47, co47, eo47⟩ := Kd.R_slice HO782.out; subst eo47; obtain ⟨Ao48, co48, eo48⟩ := Kd.R_slice HO785.out; subst eo48; obtain ⟨Ao49, co49, eo49⟩ := Kd.R_slice HO788.out; subst eo49; have ⟨z50_0, z50_1, z50_2, z50_3, z50_4, z50_5, z50_6, z50_7, z50_8, v50_0, v50_1, v50_2, v50_3, v50_4, v50_5, v50_6, v50_7, v50_8⟩ := rz9 BK766) | (go_at_call 75; (with_reducible refine (impl_ChangedGames.calls _ _ t746 t749 t750 t751 _ _ t752 t755 _ _ t756 _ _ t759 _ _ t762 _ _ t770 t773 t774 t775 _ _ t776 t779 _ _ t780 _ _ t783 _ _ t786 t791 _ ?side1 ?side2 ?side3 ?side4 ?side5 ?side6 ?side7 ?side8 ?side9 ?side10 ?side11 ?side12 ?side13 ?side14 ?side15 ?side16 ?side17 ?side18 ?side19 ?side20 A8.out).mono ?_); (case side1 => exact cf HO748 BK790); (case side2 => exact cl HO748); (case side3 => exact cf HO754 BK790); (case side4 => exact cl HO754); (case side5 => exact cf HO758 BK790); (case side6 => exact cl HO758); (case side7 => exact cf HO761 BK790); (case side8 => exact cl HO761); (case side9 => exact cf HO764 BK790); (case side10 => exact cl HO764); (case side11 => exact cf HO772 BK790); (case side12 => exact cl HO772); (case side13 => exact cf HO778 BK790); (case side14 => exact cl HO778); (case side15 => exact cf HO782 BK790); (case side16 => exact cl HO782); (case side17 => exact cf HO785 BK790); (case side18 => exact cl HO785); (case side19 => exact cf HO788 BK790); (case side20 => exact cl HO788); rintro e w51 ⟨v792, rfl, ho0, hb⟩; replace HO745 := kf HO745 BK790 hb; replace HO748 := kf HO748 BK790 hb; replace HO758 := kf HO758 BK790 hb; replace HO769 := kf HO769 BK790 hb; replace HO772 := kf HO772 BK790 hb; replace HO782 := kf HO782 BK790 hb; have HO793 := Aside0.mk (Kd.R_lower (Kd.R_new' (Kd.R_new' (Kd.R_new' (Kd.R_new' (Kd.R_new' (Kd.R_new' ho0 (Kd.R_lt (rf HO754 BK790 (fun _ h_ => h_.1)))) (Kd.R_lt (rf HO761 BK790 (fun _ h_ => h_.1)))) (Kd.R_lt (rf HO764 BK790 (fun _ h_ => h_.1)))) (Kd.R_lt (rf HO778 BK790 (fun _ h_ => h_.1)))) (Kd.R_lt (rf HO785 BK790 (fun _ h_ => h_.1)))) (Kd.R_lt (rf HO788 BK790 (fun _ h_ => h_.1)))) (below_size (bb HB))); replace HO754 := Aside0.mk (Kd.R_elder' (rf HO754 BK790 (fun _ h_ => h_.1)) (Kd.R_base ho0) hb); replace HO761 := Aside0.mk (Kd.R_elder' (rf HO761 BK790 (fun _ h_ => h_.1)) (Kd.R_base ho0) hb); replace HO764 := Aside0.mk (Kd.R_elder' (rf HO764 BK790 (fun _ h_ => h_.1)) (Kd.R_base ho0) hb); replace HO778 := Aside0.mk (Kd.R_elder' (rf HO778 BK790 (fun _ h_ => h_.1)) (Kd.R_base ho0) hb); replace HO785 := Aside0.mk (Kd.R_elder' (rf HO785 BK790 (fun _ h_ => h_.1)) (Kd.R_base ho0) hb); replace HO788 := Aside0.mk (Kd.R_elder' (rf HO788 BK790 (fun _ h_ => h_.1)) (Kd.R_base ho0) hb); replace BK740 := Aside0.mk (blk_below (bf NB740_790.out BK740) hb); replace BK741 := Aside0.mk (blk_below (bf NB741_790.out BK741) hb); replace BK742 := Aside0.mk (blk_below (bf NB742_790.out BK742) hb); replace BK766 := Aside0.mk (blk_below (bf NB766_790.out BK766) hb); replace BK790 := Aside0.mk (blk_below (g := gb790) (o := .cells #[.slice Ao40 t770.length co40, .int .i64 t773, .int .i64 t774, .int .i64 t775, .slice Ao46 t776.length co46, .bool t779, .slice Ao47 t780.length co47, .slice Ao48 t783.length co48, .slice Ao49 t786.length co49] 36 (0, 0)) (bp BK790) hb); replace HB := hs_ HB hb; (try clear hb hb2 hk hi ho0); obtain ⟨Ao52, co52, eo52⟩ := Kd.R_slice HO793.out; subst eo52))
   go_ret
   exact ⟨ee, bb HB⟩
  ·replace c7 := Bool.eq_false_iff.mpr c7
   subst c7
   rw [if_neg (show ¬ (false = true) by decide)] at H
   obtain rfl := Option.some.inj H
   go_enter Try.func23, Try.ntmps23
   go_wp2_with (first | ((with_reducible refine gate_dst (N := 3) rfl ?_); (try (refine gate_guard (by rfl) ?_; dsimp only)); refine bx (N := 3) (cs := #[.slice A0_0 l0_0.length c0_0, .int .i64 a0_1, .int .i64 a0_2, .int .i64 a0_3, .slice A0_4 l0_4.length c0_4, .bool a0_5, .slice A0_6 l0_6.length c0_6, .slice A0_7 l0_7.length c0_7, .slice A0_8 l0_8.length c0_8]) (t := 36) ?_; intro gb740 hg w53 hbox hb; have BK740 := Aside0.mk (hbox); have GW740 := gs hg HB; have GE740 := gs hg HB; replace HB := hs_ HB hb; clear hb hbox hg) | ((with_reducible refine gate_dst (N := 4) rfl ?_); (try (refine gate_guard (by rfl) ?_; dsimp only)); refine bx (N := 4) (cs := #[.int .i64 a1_0, .int .i64 a1_1, .bool a1_2]) (t := 50) ?_; intro gb741 hg w54 hbox hb; have BK741 := Aside0.mk (hbox); have GW741 := gs hg HB; have GE741 := gs hg HB; replace HB := hs_ HB hb; have NB740_741 := gn hg BK740; have NB741_740 := gm hg BK740; replace BK740 := kb BK740 hb; clear hb hbox hg) | ((with_reducible refine gate_dst (N := 5) rfl ?_); (try (refine gate_guard (by rfl) ?_; dsimp only)); refine bx (N := 5) (cs := #[.int .i64 a2_0, .int .i64 a2_1, .bool a2_2]) (t := 50) ?_; intro gb742 hg w55 hbox hb; have BK742 := Aside0.mk (hbox); have GW742 := gs hg HB; have GE742 := gs hg HB; replace HB := hs_ HB hb; have NB740_742 := gn hg BK740; have NB742_740 := gm hg BK740; replace BK740 := kb BK740 hb; have NB741_742 := gn hg BK741; have NB742_741 := gm hg BK741; replace BK741 := kb BK741 hb; clear hb hbox hg; have hnb56 := NB740_741.out; have hnc56 := NB741_740.out; have hnb57 := NB740_742.out; have hnc57 := NB742_740.out; have ⟨z58_0, z58_1, z58_2, z58_3, z58_4, z58_5, z58_6, z58_7, z58_8, v58_0, v58_1, v58_2, v58_3, v58_4, v58_5, v58_6, v58_7, v58_8⟩ := rz9 BK740; have hnb59 := NB741_742.out; have hnc59 := NB742_741.out; have ⟨z60_0, z60_1, z60_2, v60_0, v60_1, v60_2⟩ := rz3 BK741; have ⟨z61_0, z61_1, z61_2, v61_0, v61_1, v61_2⟩ := rz3 BK742) | ((with_reducible refine gate_dst (N := 15) rfl ?_); (try (refine gate_guard (by rfl) ?_; dsimp only)); refine Kd.R_lit k50 _ 50 ?hg (N := 15) ?hd (xs := ([(⟨a1_0, a1_1, a1_2⟩ : S50), (⟨a2_0, a2_1, a2_2⟩ : S50)] : List (S50))) (inner := [.int .i64 a1_0, .int .i64 a1_1, .bool a1_2, .int .i64 a2_0, .int .i64 a2_1, .bool a2_2]) (ok := fun _ => True) (okp := fun _ => True) ?hr ?hp (fun _ hk => hk) trivial (Below.refl _ _) (Nat.le_refl _) (by simp) ?_; (case hd => rfl); (case hg => rfl); (case hr => first | (go_simp; done) | (go_simp; rfl)); (case hp => exact (Reps.c3 (show Kd.M k50 _ _ _ (⟨a1_0, a1_1, a1_2⟩ : S50) [.int .i64 a1_0, .int .i64 a1_1, .bool a1_2] from (k50_mkM _ _ _ (⟨a1_0, a1_1, a1_2⟩ : S50) )) (Reps.c3 (show Kd.M k50 _ _ _ (⟨a2_0, a2_1, a2_2⟩ : S50) [.int .i64 a2_0, .int .i64 a2_1, .bool a2_2] from (k50_mkM _ _ _ (⟨a2_0, a2_1, a2_2⟩ : S50) )) (Reps.none _ _)))); intro v744 w62 ho63 hb hg_ hnew_; clear hg_ hnew_; (first | rw [← Ny743.out] at ho63 | (simp only [Int.reduceToNat] at ho63; rw [← Ny743.out] at ho63)); have HO745 := Aside0.mk (Kd.R_lower (Kd.R_newB (Kd.R_newB ho63 (g := gb741) (o := .cells #[.int .i64 a1_0, .int .i64 a1_1, .bool a1_2] 50 (0, 0)) (bk BK741)) (g := gb742) (o := .cells #[.int .i64 a2_0, .int .i64 a2_1, .bool a2_2] 50 (0, 0)) (bk BK742)) (below_size (bb HB))); replace BK740 := kb BK740 hb; replace BK741 := kb BK741 hb; replace BK742 := kb BK742 hb; replace HB := hs_ HB hb; clear hb ho63; obtain ⟨Ao64, co64, eo64⟩ := Kd.R_slice HO745.out; subst eo64) | ((with_reducible refine gate_callee (f := 15) rfl ?_); refine gl (some 16) Try.func15 #[.agg #[.slice A0_0 l0_0.length c0_0, .int .i64 a0_1, .int .i64 a0_2, .int .i64 a0_3, .slice A0_4 l0_4.length c0_4, .bool a0_5, .slice A0_6 l0_6.length c0_6, .slice A0_7 l0_7.length c0_7, .slice A0_8 l0_8.length c0_8], .slice Ao64 y743.length co64] ?_; (with_reducible refine (impl_Decide.calls k _ _ l0_0 a0_1 a0_2 a0_3 _ _ l0_4 a0_5 _ _ l0_6 _ _ l0_7 _ _ l0_8 _ _ y743 t746 t749 t750 t751 t752 t755 t756 t759 t762 true _ ?side1 ?side2 ?side3 ?side4 ?side5 ?side6 ?side7 ?side8 ?side9 ?side10 ?side11 ?side12 A4.out).mono ?_); (case side1 => exact cc HR0_0 HB); (case side2 => exact HC0_0.out); (case side3 => exact cc HR0_4 HB); (case side4 => exact HC0_4.out); (case side5 => exact cc HR0_6 HB); (case side6 => exact HC0_6.out); (case side7 => exact cc HR0_7 HB); (case side8 => exact HC0_7.out); (case side9 => exact cc HR0_8 HB); (case side10 => exact HC0_8.out); (case side11 => exact cr HO745); (case side12 => exact cl HO745); rintro e w65 ⟨v747, v753, v757, v760, v763, rfl, ho0, ho1, ho2, ho3, ho4, hb⟩; refine ⟨_, rfl, ?_⟩; replace HO745 := kr HO745 hb; have HO748 := kl ho0 HB; have HO754 := kl ho1 HB; have HO758 := kl ho2 HB; have HO761 := kl ho3 HB; have HO764 := kl ho4 HB; replace BK740 := kb BK740 hb; replace BK741 := kb BK741 hb; replace BK742 := kb BK742 hb; replace HB := hs_ HB hb; (try clear hb hb2 hk hi ho0 ho1 ho2 ho3 ho4)) | ((with_reducible refine gate_dst (N := 7) rfl ?_); (try (refine gate_guard (by rfl) ?_; dsimp only)); refine bx (N := 7) (cs := #[.slice none 0 0, .int .i64 0, .int .i64 0, .int .i64 0, .slice none 0 0, .bool false, .slice none 0 0, .slice none 0 0, .slice none 0 0]) (t := 36) ?_; intro gb766 hg w66 hbox hb; replace HO745 := kr HO745 hb; replace HO748 := kr HO748 hb; replace HO754 := kr HO754 hb; replace HO758 := kr HO758 hb; replace HO761 := kr HO761 hb; replace HO764 := kr HO764 hb; have BK766 := Aside0.mk (hbox); have GW766 := gs hg HB; have GE766 := gs hg HB; replace HB := hs_ HB hb; have NB740_766 := gn hg BK740; have NB766_740 := gm hg BK740; replace BK740 := kb BK740 hb; have NB741_766 := gn hg BK741; have NB766_741 := gm hg BK741; replace BK741 := kb BK741 hb; have NB742_766 := gn hg BK742; have NB766_742 := gm hg BK742; replace BK742 := kb BK742 hb; clear hb hbox hg; obtain ⟨Ao67, co67, eo67⟩ := Kd.R_slice HO748.out; subst eo67; have hnb68 := NB766_740.out; have hnc68 := NB740_766.out; have hnb69 := NB766_741.out; have hnc69 := NB741_766.out; have hnb70 := NB766_742.out; have hnc70 := NB742_766.out; have ⟨z71_0, z71_1, z71_2, z71_3, z71_4, z71_5, z71_6, z71_7, z71_8, v71_0, v71_1, v71_2, v71_3, v71_4, v71_5, v71_6, v71_7, v71_8⟩ := rz9 BK766; obtain ⟨Ao72, co72, eo72⟩ := Kd.R_slice HO754.out; subst eo72; obtain ⟨Ao73, co73, eo73⟩ := Kd.R_slice HO758.out; subst eo73; obtain ⟨Ao74, co74, eo74⟩ := Kd.R_slice HO761.out; subst eo74; obtain ⟨Ao75, co75, eo75⟩ := Kd.R_slice HO764.out; subst eo75; have ⟨z76_0, z76_1, z76_2, z76_3, z76_4, z76_5, z76_6, z76_7, z76_8, v76_0, v76_1, v76_2, v76_3, v76_4, v76_5, v76_6, v76_7, v76_8⟩ := rz9 BK740; have ⟨z77_0, z77_1, z77_2, v77_0, v77_1, v77_2⟩ := rz3 BK742; have ⟨z78_0, z78_1, z78_2, v78_0, v78_1, v78_2⟩ := rz3 BK741) | ((with_reducible refine gate_dst (N := 23) rfl ?_); (try (refine gate_guard (by rfl) ?_; dsimp only)); refine Kd.R_lit k50 _ 50 ?hg (N := 23) ?hd (xs := ([(⟨a2_0, a2_1, a2_2⟩ : S50), (⟨a1_0, a1_1, a1_2⟩ : S50)] : List (S50))) (inner := [.int .i64 a2_0, .int .i64 a2_1, .bool a2_2, .int .i64 a1_0, .int .i64 a1_1, .bool a1_2]) (ok := fun _ => True) (okp := fun _ => True) ?hr ?hp (fun _ hk => hk) trivial (Below.refl _ _) (Nat.le_refl _) (by simp) ?_; (case hd => rfl); (case hg => rfl); (case hr => first | (go_simp; done) | (go_simp; rfl)); (case hp => exact (Reps.c3 (show Kd.M k50 _ _ _ (⟨a2_0, a2_1, a2_2⟩ : S50) [.int .i64 a2_0, .int .i64 a2_1, .bool a2_2] from (k50_mkM _ _ _ (⟨a2_0, a2_1, a2_2⟩ : S50) )) (Reps.c3 (show Kd.M k50 _ _ _ (⟨a1_0, a1_1, a1_2⟩ : S50) [.int .i64 a1_0, .int .i64 a1_1, .bool a1_2] from (k50_mkM _ _ _ (⟨a1_0, a1_1, a1_2⟩ : S50) )) (Reps.none _ _)))); intro v768 w79 ho80 hb hg_ hnew_; clear hg_ hnew_; (first | rw [← Ny767.out] at ho80 | (simp only [Int.reduceToNat] at ho80; rw [← Ny767.out] at ho80)); replace HO748 := kf HO748 BK766 hb; replace HO754 := kf HO754 BK766 hb; replace HO758 := kf HO758 BK766 hb; replace HO761 := kf HO761 BK766 hb; replace HO764 := kf HO764 BK766 hb; have HO769 := Aside0.mk (Kd.R_lower (Kd.R_newB (Kd.R_newB (Kd.R_new' ho80 (Kd.R_lt (rf HO745 BK766 (fun _ h_ => h_.1)))) (g := gb741) (o := .cells #[.int .i64 a1_0, .int .i64 a1_1, .bool a1_2] 50 (0, 0)) (bf NB741_766.out BK741)) (g := gb742) (o := .cells #[.int .i64 a2_0, .int .i64 a2_1, .bool a2_2] 50 (0, 0)) (bf NB742_766.out BK742)) (below_size (bb HB))); replace HO745 := Aside0.mk (Kd.R_elder' (rf HO745 BK766 (fun _ h_ => h_.1)) (Kd.R_base ho80) hb); replace BK740 := Aside0.mk (blk_below (bf NB740_766.out BK740) hb); replace BK741 := Aside0.mk (blk_below (bf NB741_766.out BK741) hb); replace BK742 := Aside0.mk (blk_below (bf NB742_766.out BK742) hb); replace BK766 := Aside0.mk (blk_below (g := gb766) (o := .cells #[.slice Ao67 t746.length co67, .int .i64 t749, .int .i64 t750, .int .i64 t751, .slice Ao72 t752.length co72, .bool t755, .slice Ao73 t756.length co73, .slice Ao74 t759.length co74, .slice Ao75 t762.length co75] 36 (0, 0)) (bp BK766) hb); replace HB := hs_ HB hb; clear hb ho80; obtain ⟨Ao81, co81, eo81⟩ := Kd.R_slice HO769.out; subst eo81) | ((with_reducible refine gate_callee (f := 15) rfl ?_); refine gl (some 24) Try.func15 #[.agg #[.slice A0_0 l0_0.length c0_0, .int .i64 a0_1, .int .i64 a0_2, .int .i64 a0_3, .slice A0_4 l0_4.length c0_4, .bool a0_5, .slice A0_6 l0_6.length c0_6, .slice A0_7 l0_7.length c0_7, .slice A0_8 l0_8.length c0_8], .slice Ao81 y767.length co81] ?_; (with_reducible refine (impl_Decide.calls k _ _ l0_0 a0_1 a0_2 a0_3 _ _ l0_4 a0_5 _ _ l0_6 _ _ l0_7 _ _ l0_8 _ _ y767 t770 t773 t774 t775 t776 t779 t780 t783 t786 false _ ?side1 ?side2 ?side3 ?side4 ?side5 ?side6 ?side7 ?side8 ?side9 ?side10 ?side11 ?side12 A5.out).mono ?_); (case side1 => exact cc HR0_0 HB); (case side2 => exact HC0_0.out); (case side3 => exact cc HR0_4 HB); (case side4 => exact HC0_4.out); (case side5 => exact cc HR0_6 HB); (case side6 => exact HC0_6.out); (case side7 => exact cc HR0_7 HB); (case side8 => exact HC0_7.out); (case side9 => exact cc HR0_8 HB); (case side10 => exact HC0_8.out); (case side11 => exact cr HO769); (case side12 => exact cl HO769); rintro e w82 ⟨v771, v777, v781, v784, v787, rfl, ho0, ho1, ho2, ho3, ho4, hb⟩; refine ⟨_, rfl, ?_⟩; replace HO745 := kr HO745 hb; replace HO769 := kr HO769 hb; have HO772 := Aside0.mk (Kd.R_lower (Kd.R_new' ho0 (rt HO748)) (below_size (bb HB))); replace HO748 := ke HO748 ho0 hb; have HO778 := Aside0.mk (Kd.R_lower (Kd.R_new' (Kd.R_new' (Kd.R_new' ho1 (rt HO754)) (rt HO761)) (rt HO764)) (below_size (bb HB))); have HO782 := Aside0.mk (Kd.R_lower (Kd.R_new' ho2 (rt HO758)) (below_size (bb HB))); replace HO758 := ke HO758 ho2 hb; have HO785 := Aside0.mk (Kd.R_lower (Kd.R_new' (Kd.R_new' (Kd.R_new' ho3 (rt HO754)) (rt HO761)) (rt HO764)) (below_size (bb HB))); have HO788 := Aside0.mk (Kd.R_lower (Kd.R_new' (Kd.R_new' (Kd.R_new' ho4 (rt HO754)) (rt HO761)) (rt HO764)) (below_size (bb HB))); replace HO754 := Aside0.mk (Kd.R_mono (Kd.R_told (Kd.R_told (Kd.R_told (Kd.R_old (rr HO754) hb) (Kd.R_base ho1)) (Kd.R_base ho3)) (Kd.R_base ho4)) (fun _ h_ => h_.1)); replace HO761 := Aside0.mk (Kd.R_mono (Kd.R_told (Kd.R_told (Kd.R_told (Kd.R_old (rr HO761) hb) (Kd.R_base ho1)) (Kd.R_base ho3)) (Kd.R_base ho4)) (fun _ h_ => h_.1)); replace HO764 := Aside0.mk (Kd.R_mono (Kd.R_told (Kd.R_told (Kd.R_told (Kd.R_old (rr HO764) hb) (Kd.R_base ho1)) (Kd.R_base ho3)) (Kd.R_base ho4)) (fun _ h_ => h_.1)); replace BK740 := kb BK740 hb; replace BK741 := kb BK741 hb; replace BK742 := kb BK742 hb; replace BK766 := kb BK766 hb; replace HB := hs_ HB hb; (try clear hb hb2 hk hi ho0 ho1 ho2 ho3 ho4)) | ((with_reducible refine gate_dst (N := 9) rfl ?_); (try (refine gate_guard (by rfl) ?_; dsimp only)); refine bx (N := 9) (cs := #[.slice none 0 0, .int .i64 0, .int .i64 0, .int .i64 0, .slice none 0 0, .bool false, .slice none 0 0, .slice none 0 0, .slice none 0 0]) (t := 36) ?_; intro gb790 hg w83 hbox hb; replace HO745 := kr HO745 hb; replace HO748 := kr HO748 hb; replace HO754 := kr HO754 hb; replace HO758 := kr HO758 hb; replace HO761 := kr HO761 hb; replace HO764 := kr HO764 hb; replace HO769 := kr HO769 hb; replace HO772 := kr HO772 hb; replace HO778 := kr HO778 hb; replace HO782 := kr HO782 hb; replace HO785 := kr HO785 hb; replace HO788 := kr HO788 hb; have BK790 := Aside0.mk (hbox); have GW790 := gs hg HB; have GE790 := gs hg HB; replace HB := hs_ HB hb; have NB740_790 := gn hg BK740; have NB790_740 := gm hg BK740; replace BK740 := kb BK740 hb; have NB741_790 := gn hg BK741; have NB790_741 := gm hg BK741; replace BK741 := kb BK741 hb; have NB742_790 := gn hg BK742; have NB790_742 := gm hg BK742; replace BK742 := kb BK742 hb; have NB766_790 := gn hg BK766; have NB790_766 := gm hg BK766; replace BK766 := kb BK766 hb; clear hb hbox hg; obtain ⟨Ao84, co84, eo84⟩ := Kd.R_slice HO772.out; subst eo84; have hnb85 := NB790_740.out; have hnc85 := NB740_790.out; have hnb86 := NB790_741.out; have hnc86 := NB741_790.out; have hnb87 := NB790_742.out; have hnc87 := NB742_790.out; have hnb88 := NB790_766.out; have hnc88 := NB766_790.out; have ⟨z89_0, z89_1, z89_2, z89_3, z89_4, z89_5, z89_6, z89_7, z89_8, v89_0, v89_1, v89_2, v89_3, v89_4, v89_5, v89_6, v89_7, v89_8⟩ := rz9 BK790; obtain ⟨Ao90, co90, eo90⟩ := Kd.R_slice HO778.out; subst eo90; obtain ⟨Ao91, co91, eo91⟩ := Kd.R_slice HO782.out; subst eo91; obtain ⟨Ao92, co92, eo92⟩ := Kd.R_slice HO785.out; subst eo92; obtain ⟨Ao93, co93, eo93⟩ := Kd.R_slice HO788.out; subst eo93))
   go_ret
   exact ⟨ee, bb HB⟩
 ·replace c6 := Bool.eq_false_iff.mpr c6
  subst c6
  rw [if_neg (show ¬ (false = true) by decide)] at H
  obtain rfl := Option.some.inj H
  go_enter Try.func23, Try.ntmps23
  go_wp2_with (first | ((with_reducible refine gate_dst (N := 3) rfl ?_); (try (refine gate_guard (by rfl) ?_; dsimp only)); refine bx (N := 3) (cs := #[.slice A0_0 l0_0.length c0_0, .int .i64 a0_1, .int .i64 a0_2, .int .i64 a0_3, .slice A0_4 l0_4.length c0_4, .bool a0_5, .slice A0_6 l0_6.length c0_6, .slice A0_7 l0_7.length c0_7, .slice A0_8 l0_8.length c0_8]) (t := 36) ?_; intro gb740 hg w94 hbox hb; have BK740 := Aside0.mk (hbox); have GW740 := gs hg HB; have GE740 := gs hg HB; replace HB := hs_ HB hb; clear hb hbox hg) | ((with_reducible refine gate_dst (N := 4) rfl ?_); (try (refine gate_guard (by rfl) ?_; dsimp only)); refine bx (N := 4) (cs := #[.int .i64 a1_0, .int .i64 a1_1, .bool a1_2]) (t := 50) ?_; intro gb741 hg w95 hbox hb; have BK741 := Aside0.mk (hbox); have GW741 := gs hg HB; have GE741 := gs hg HB; replace HB := hs_ HB hb; have NB740_741 := gn hg BK740; have NB741_740 := gm hg BK740; replace BK740 := kb BK740 hb; clear hb hbox hg) | ((with_reducible refine gate_dst (N := 5) rfl ?_); (try (refine gate_guard (by rfl) ?_; dsimp only)); refine bx (N := 5) (cs := #[.int .i64 a2_0, .int .i64 a2_1, .bool a2_2]) (t := 50) ?_; intro gb742 hg w96 hbox hb; have BK742 := Aside0.mk (hbox); have GW742 := gs hg HB; have GE742 := gs hg HB; replace HB := hs_ HB hb; have NB740_742 := gn hg BK740; have NB742_740 := gm hg BK740; replace BK740 := kb BK740 hb; have NB741_742 := gn hg BK741; have NB742_741 := gm hg BK741; replace BK741 := kb BK741 hb; clear hb hbox hg; have hnb97 := NB740_741.out; have hnc97 := NB741_740.out; have hnb98 := NB740_742.out; have hnc98 := NB742_740.out; have ⟨z99_0, z99_1, z99_2, z99_3, z99_4, z99_5, z99_6, z99_7, z99_8, v99_0, v99_1, v99_2, v99_3, v99_4, v99_5, v99_6, v99_7, v99_8⟩ := rz9 BK740; have hnb100 := NB741_742.out; have hnc100 := NB742_741.out; have ⟨z101_0, z101_1, z101_2, v101_0, v101_1, v101_2⟩ := rz3 BK741; have ⟨z102_0, z102_1, z102_2, v102_0, v102_1, v102_2⟩ := rz3 BK742) | ((with_reducible refine gate_dst (N := 15) rfl ?_); (try (refine gate_guard (by rfl) ?_; dsimp only)); refine Kd.R_lit k50 _ 50 ?hg (N := 15) ?hd (xs := ([(⟨a1_0, a1_1, a1_2⟩ : S50), (⟨a2_0, a2_1, a2_2⟩ : S50)] : List (S50))) (inner := [.int .i64 a1_0, .int .i64 a1_1, .bool a1_2, .int .i64 a2_0, .int .i64 a2_1, .bool a2_2]) (ok := fun _ => True) (okp := fun _ => True) ?hr ?hp (fun _ hk => hk) trivial (Below.refl _ _) (Nat.le_refl _) (by simp) ?_; (case hd => rfl); (case hg => rfl); (case hr => first | (go_simp; done) | (go_simp; rfl)); (case hp => exact (Reps.c3 (show Kd.M k50 _ _ _ (⟨a1_0, a1_1, a1_2⟩ : S50) [.int .i64 a1_0, .int .i64 a1_1, .bool a1_2] from (k50_mkM _ _ _ (⟨a1_0, a1_1, a1_2⟩ : S50) )) (Reps.c3 (show Kd.M k50 _ _ _ (⟨a2_0, a2_1, a2_2⟩ : S50) [.int .i64 a2_0, .int .i64 a2_1, .bool a2_2] from (k50_mkM _ _ _ (⟨a2_0, a2_1, a2_2⟩ : S50) )) (Reps.none _ _)))); intro v744 w103 ho104 hb hg_ hnew_; clear hg_ hnew_; (first | rw [← Ny743.out] at ho104 | (simp only [Int.reduceToNat] at ho104; rw [← Ny743.out] at ho104)); have HO745 := Aside0.mk (Kd.R_lower (Kd.R_newB (Kd.R_newB ho104 (g := gb741) (o := .cells #[.int .i64 a1_0, .int .i64 a1_1, .bool a1_2] 50 (0, 0)) (bk BK741)) (g := gb742) (o := .cells #[.int .i64 a2_0, .int .i64 a2_1, .bool a2_2] 50 (0, 0)) (bk BK742)) (below_size (bb HB))); replace BK740 := kb BK740 hb; replace BK741 := kb BK741 hb; replace BK742 := kb BK742 hb; replace HB := hs_ HB hb; clear hb ho104; obtain ⟨Ao105, co105, eo105⟩ := Kd.R_slice HO745.out; subst eo105) | ((with_reducible refine gate_callee (f := 15) rfl ?_); refine gl (some 16) Try.func15 #[.agg #[.slice A0_0 l0_0.length c0_0, .int .i64 a0_1, .int .i64 a0_2, .int .i64 a0_3, .slice A0_4 l0_4.length c0_4, .bool a0_5, .slice A0_6 l0_6.length c0_6, .slice A0_7 l0_7.length c0_7, .slice A0_8 l0_8.length c0_8], .slice Ao105 y743.length co105] ?_; (with_reducible refine (impl_Decide.calls k _ _ l0_0 a0_1 a0_2 a0_3 _ _ l0_4 a0_5 _ _ l0_6 _ _ l0_7 _ _ l0_8 _ _ y743 t746 t749 t750 t751 t752 t755 t756 t759 t762 false _ ?side1 ?side2 ?side3 ?side4 ?side5 ?side6 ?side7 ?side8 ?side9 ?side10 ?side11 ?side12 A4.out).mono ?_); (case side1 => exact cc HR0_0 HB); (case side2 => exact HC0_0.out); (case side3 => exact cc HR0_4 HB); (case side4 => exact HC0_4.out); (case side5 => exact cc HR0_6 HB); (case side6 => exact HC0_6.out); (case side7 => exact cc HR0_7 HB); (case side8 => exact HC0_7.out); (case side9 => exact cc HR0_8 HB); (case side10 => exact HC0_8.out); (case side11 => exact cr HO745); (case side12 => exact cl HO745); rintro e w106 ⟨v747, v753, v757, v760, v763, rfl, ho0, ho1, ho2, ho3, ho4, hb⟩; refine ⟨_, rfl, ?_⟩; replace HO745 := kr HO745 hb; have HO748 := kl ho0 HB; have HO754 := kl ho1 HB; have HO758 := kl ho2 HB; have HO761 := kl ho3 HB; have HO764 := kl ho4 HB; replace BK740 := kb BK740 hb; replace BK741 := kb BK741 hb; replace BK742 := kb BK742 hb; replace HB := hs_ HB hb; (try clear hb hb2 hk hi ho0 ho1 ho2 ho3 ho4)) | ((with_reducible refine gate_dst (N := 7) rfl ?_); (try (refine gate_guard (by rfl) ?_; dsimp only)); refine bx (N := 7) (cs := #[.slice none 0 0, .int .i64 0, .int .i64 0, .int .i64 0, .slice none 0 0, .bool false, .slice none 0 0, .slice none 0 0, .slice none 0 0]) (t := 36) ?_; intro gb766 hg w107 hbox hb; replace HO745 := kr HO745 hb; replace HO748 := kr HO748 hb; replace HO754 := kr HO754 hb; replace HO758 := kr HO758 hb; replace HO761 := kr HO761 hb; replace HO764 := kr HO764 hb; have BK766 := Aside0.mk (hbox); have GW766 := gs hg HB; have GE766 := gs hg HB; replace HB := hs_ HB hb; have NB740_766 := gn hg BK740; have NB766_740 := gm hg BK740; replace BK740 := kb BK740 hb; have NB741_766 := gn hg BK741; have NB766_741 := gm hg BK741; replace BK741 := kb BK741 hb; have NB742_766 := gn hg BK742; have NB766_742 := gm hg BK742; replace BK742 := kb BK742 hb; clear hb hbox hg; obtain ⟨Ao108, co108, eo108⟩ := Kd.R_slice HO748.out; subst eo108; have hnb109 := NB766_740.out; have hnc109 := NB740_766.out; have hnb110 := NB766_741.out; have hnc110 := NB741_766.out; have hnb111 := NB766_742.out; have hnc111 := NB742_766.out; have ⟨z112_0, z112_1, z112_2, z112_3, z112_4, z112_5, z112_6, z112_7, z112_8, v112_0, v112_1, v112_2, v112_3, v112_4, v112_5, v112_6, v112_7, v112_8⟩ := rz9 BK766; obtain ⟨Ao113, co113, eo113⟩ := Kd.R_slice HO754.out; subst eo113; obtain ⟨Ao114, co114, eo114⟩ := Kd.R_slice HO758.out; subst eo114; obtain ⟨Ao115, co115, eo115⟩ := Kd.R_slice HO761.out; subst eo115; obtain ⟨Ao116, co116, eo116⟩ := Kd.R_slice HO764.out; subst eo116; have ⟨z117_0, z117_1, z117_2, z117_3, z117_4, z117_5, z117_6, z117_7, z117_8, v117_0, v117_1, v117_2, v117_3, v117_4, v117_5, v117_6, v117_7, v117_8⟩ := rz9 BK740; have ⟨z118_0, z118_1, z118_2, v118_0, v118_1, v118_2⟩ := rz3 BK742; have ⟨z119_0, z119_1, z119_2, v119_0, v119_1, v119_2⟩ := rz3 BK741) | ((with_reducible refine gate_dst (N := 23) rfl ?_); (try (refine gate_guard (by rfl) ?_; dsimp only)); refine Kd.R_lit k50 _ 50 ?hg (N := 23) ?hd (xs := ([(⟨a2_0, a2_1, a2_2⟩ : S50), (⟨a1_0, a1_1, a1_2⟩ : S50)] : List (S50))) (inner := [.int .i64 a2_0, .int .i64 a2_1, .bool a2_2, .int .i64 a1_0, .int .i64 a1_1, .bool a1_2]) (ok := fun _ => True) (okp := fun _ => True) ?hr ?hp (fun _ hk => hk) trivial (Below.refl _ _) (Nat.le_refl _) (by simp) ?_; (case hd => rfl); (case hg => rfl); (case hr => first | (go_simp; done) | (go_simp; rfl)); (case hp => exact (Reps.c3 (show Kd.M k50 _ _ _ (⟨a2_0, a2_1, a2_2⟩ : S50) [.int .i64 a2_0, .int .i64 a2_1, .bool a2_2] from (k50_mkM _ _ _ (⟨a2_0, a2_1, a2_2⟩ : S50) )) (Reps.c3 (show Kd.M k50 _ _ _ (⟨a1_0, a1_1, a1_2⟩ : S50) [.int .i64 a1_0, .int .i64 a1_1, .bool a1_2] from (k50_mkM _ _ _ (⟨a1_0, a1_1, a1_2⟩ : S50) )) (Reps.none _ _)))); intro v768 w120 ho121 hb hg_ hnew_; clear hg_ hnew_; (first | rw [← Ny767.out] at ho121 | (simp only [Int.reduceToNat] at ho121; rw [← Ny767.out] at ho121)); replace HO748 := kf HO748 BK766 hb; replace HO754 := kf HO754 BK766 hb; replace HO758 := kf HO758 BK766 hb; replace HO761 := kf HO761 BK766 hb; replace HO764 := kf HO764 BK766 hb; have HO769 := Aside0.mk (Kd.R_lower (Kd.R_newB (Kd.R_newB (Kd.R_new' ho121 (Kd.R_lt (rf HO745 BK766 (fun _ h_ => h_.1)))) (g := gb741) (o := .cells #[.int .i64 a1_0, .int .i64 a1_1, .bool a1_2] 50 (0, 0)) (bf NB741_766.out BK741)) (g := gb742) (o := .cells #[.int .i64 a2_0, .int .i64 a2_1, .bool a2_2] 50 (0, 0)) (bf NB742_766.out BK742)) (below_size (bb HB))); replace HO745 := Aside0.mk (Kd.R_elder' (rf HO745 BK766 (fun _ h_ => h_.1)) (Kd.R_base ho121) hb); replace BK740 := Aside0.mk (blk_below (bf NB740_766.out BK740) hb); replace BK741 := Aside0.mk (blk_below (bf NB741_766.out BK741) hb); replace BK742 := Aside0.mk (blk_below (bf NB742_766.out BK742) hb); replace BK766 := Aside0.mk (blk_below (g := gb766) (o := .cells #[.slice Ao108 t746.length co108, .int .i64 t749, .int .i64 t750, .int .i64 t751, .slice Ao113 t752.length co113, .bool t755, .slice Ao114 t756.length co114, .slice Ao115 t759.length co115, .slice Ao116 t762.length co116] 36 (0, 0)) (bp BK766) hb); replace HB := hs_ HB hb; clear hb ho121; obtain ⟨Ao122, co122, eo122⟩ := Kd.R_slice HO769.out; subst eo122) | ((with_reducible refine gate_callee (f := 15) rfl ?_); refine gl (some 24) Try.func15 #[.agg #[.slice A0_0 l0_0.length c0_0, .int .i64 a0_1, .int .i64 a0_2, .int .i64 a0_3, .slice A0_4 l0_4.length c0_4, .bool a0_5, .slice A0_6 l0_6.length c0_6, .slice A0_7 l0_7.length c0_7, .slice A0_8 l0_8.length c0_8], .slice Ao122 y767.length co122] ?_; (with_reducible refine (impl_Decide.calls k _ _ l0_0 a0_1 a0_2 a0_3 _ _ l0_4 a0_5 _ _ l0_6 _ _ l0_7 _ _ l0_8 _ _ y767 t770 t773 t774 t775 t776 t779 t780 t783 t786 t789 _ ?side1 ?side2 ?side3 ?side4 ?side5 ?side6 ?side7 ?side8 ?side9 ?side10 ?side11 ?side12 A5.out).mono ?_); (case side1 => exact cc HR0_0 HB); (case side2 => exact HC0_0.out); (case side3 => exact cc HR0_4 HB); (case side4 => exact HC0_4.out); (case side5 => exact cc HR0_6 HB); (case side6 => exact HC0_6.out); (case side7 => exact cc HR0_7 HB); (case side8 => exact HC0_7.out); (case side9 => exact cc HR0_8 HB); (case side10 => exact HC0_8.out); (case side11 => exact cr HO769); (case side12 => exact cl HO769); rintro e w123 ⟨v771, v777, v781, v784, v787, rfl, ho0, ho1, ho2, ho3, ho4, hb⟩; refine ⟨_, rfl, ?_⟩; replace HO745 := kr HO745 hb; replace HO769 := kr HO769 hb; have HO772 := Aside0.mk (Kd.R_lower (Kd.R_new' ho0 (rt HO748)) (below_size (bb HB))); replace HO748 := ke HO748 ho0 hb; have HO778 := Aside0.mk (Kd.R_lower (Kd.R_new' (Kd.R_new' (Kd.R_new' ho1 (rt HO754)) (rt HO761)) (rt HO764)) (below_size (bb HB))); have HO782 := Aside0.mk (Kd.R_lower (Kd.R_new' ho2 (rt HO758)) (below_size (bb HB))); replace HO758 := ke HO758 ho2 hb; have HO785 := Aside0.mk (Kd.R_lower (Kd.R_new' (Kd.R_new' (Kd.R_new' ho3 (rt HO754)) (rt HO761)) (rt HO764)) (below_size (bb HB))); have HO788 := Aside0.mk (Kd.R_lower (Kd.R_new' (Kd.R_new' (Kd.R_new' ho4 (rt HO754)) (rt HO761)) (rt HO764)) (below_size (bb HB))); replace HO754 := Aside0.mk (Kd.R_mono (Kd.R_told (Kd.R_told (Kd.R_told (Kd.R_old (rr HO754) hb) (Kd.R_base ho1)) (Kd.R_base ho3)) (Kd.R_base ho4)) (fun _ h_ => h_.1)); replace HO761 := Aside0.mk (Kd.R_mono (Kd.R_told (Kd.R_told (Kd.R_told (Kd.R_old (rr HO761) hb) (Kd.R_base ho1)) (Kd.R_base ho3)) (Kd.R_base ho4)) (fun _ h_ => h_.1)); replace HO764 := Aside0.mk (Kd.R_mono (Kd.R_told (Kd.R_told (Kd.R_told (Kd.R_old (rr HO764) hb) (Kd.R_base ho1)) (Kd.R_base ho3)) (Kd.R_base ho4)) (fun _ h_ => h_.1)); replace BK740 := kb BK740 hb; replace BK741 := kb BK741 hb; replace BK742 := kb BK742 hb; replace BK766 := kb BK766 hb; replace HB := hs_ HB hb; (try clear hb hb2 hk hi ho0 ho1 ho2 ho3 ho4)) | ((with_reducible refine gate_dst (N := 9) rfl ?_); (try (refine gate_guard (by rfl) ?_; dsimp only)); refine bx (N := 9) (cs := #[.slice none 0 0, .int .i64 0, .int .i64 0, .int .i64 0, .slice none 0 0, .bool false, .slice none 0 0, .slice none 0 0, .slice none 0 0]) (t := 36) ?_; intro gb790 hg w124 hbox hb; replace HO745 := kr HO745 hb; replace HO748 := kr HO748 hb; replace HO754 := kr HO754 hb; replace HO758 := kr HO758 hb; replace HO761 := kr HO761 hb; replace HO764 := kr HO764 hb; replace HO769 := kr HO769 hb; replace HO772 := kr HO772 hb; replace HO778 := kr HO778 hb; replace HO782 := kr HO782 hb; replace HO785 := kr HO785 hb; replace HO788 := kr HO788 hb; have BK790 := Aside0.mk (hbox); have GW790 := gs hg HB; have GE790 := gs hg HB; replace HB := hs_ HB hb; have NB740_790 := gn hg BK740; have NB790_740 := gm hg BK740; replace BK740 := kb BK740 hb; have NB741_790 := gn hg BK741; have NB790_741 := gm hg BK741; replace BK741 := kb BK741 hb; have NB742_790 := gn hg BK742; have NB790_742 := gm hg BK742; replace BK742 := kb BK742 hb; have NB766_790 := gn hg BK766; have NB790_766 := gm hg BK766; replace BK766 := kb BK766 hb; clear hb hbox hg; obtain ⟨Ao125, co125, eo125⟩ := Kd.R_slice HO772.out; subst eo125; have hnb126 := NB790_740.out; have hnc126 := NB740_790.out; have hnb127 := NB790_741.out; have hnc127 := NB741_790.out; have hnb128 := NB790_742.out; have hnc128 := NB742_790.out; have hnb129 := NB790_766.out; have hnc129 := NB766_790.out; have ⟨z130_0, z130_1, z130_2, z130_3, z130_4, z130_5, z130_6, z130_7, z130_8, v130_0, v130_1, v130_2, v130_3, v130_4, v130_5, v130_6, v130_7, v130_8⟩ := rz9 BK790; obtain ⟨Ao131, co131, eo131⟩ := Kd.R_slice HO778.out; subst eo131; obtain ⟨Ao132, co132, eo132⟩ := Kd.R_slice HO782.out; subst eo132; obtain ⟨Ao133, co133, eo133⟩ := Kd.R_slice HO785.out; subst eo133; obtain ⟨Ao134, co134, eo134⟩ := Kd.R_slice HO788.out; subst eo134))
  go_ret
  exact ⟨ee, bb HB⟩
def laws_FnExactOrderMatters.f (k : Nat) (l0_0 : List (S133)) (a0_1 : Int) (a0_2 : Int) (a0_3 : Int) (l0_4 : List Int) (a0_5 : Bool) (l0_6 : List (S147)) (l0_7 : List Int) (l0_8 : List Int) (a1_0 : Int) (a1_1 : Int) (a1_2 : Bool) (a2_0 : Int) (a2_1 : Int) (a2_2 : Bool) : Option (Bool) := (laws_szBook.f k l0_0 a0_1 a0_2 a0_3 l0_4 a0_5 l0_6 l0_7 l0_8 1048576).bind fun t797 => (if t797 < 0 then (some true) else ((laws_toBook.f k l0_0 a0_1 a0_2 a0_3 l0_4 a0_5 l0_6 l0_7 l0_8).bind fun bt798 => ((laws_toProtest.f a1_0 a1_1 a1_2).bind fun bt817 => ((laws_toProtest.f a2_0 a2_1 a2_2).bind fun bt820 => ((spec_OrderMatters.f k bt798.1 bt798.2.1 bt798.2.2.1 bt798.2.2.2.1 bt798.2.2.2.2.1 bt798.2.2.2.2.2.1 bt798.2.2.2.2.2.2.1 bt798.2.2.2.2.2.2.2.1 bt798.2.2.2.2.2.2.2.2 bt817.1 bt817.2.1 bt817.2.2 bt820.1 bt820.2.1 bt820.2.2).bind fun t823 => ((laws_toBook.f k l0_0 a0_1 a0_2 a0_3 l0_4 a0_5 l0_6 l0_7 l0_8).bind fun bt824 => ((laws_toProtest.f a1_0 a1_1 a1_2).bind fun bt844 => ((laws_toProtest.f a2_0 a2_1 a2_2).bind fun bt847 => ((impl_OrderMatters.f k bt824.1 bt824.2.1 bt824.2.2.1 bt824.2.2.2.1 bt824.2.2.2.2.1 bt824.2.2.2.2.2.1 bt824.2.2.2.2.2.2.1 bt824.2.2.2.2.2.2.2.1 bt824.2.2.2.2.2.2.2.2 bt844.1 bt844.2.1 bt844.2.2 bt847.1 bt847.2.1 bt847.2.2).bind fun t850 => (if (t850 != t823) = true then (some false) else ((laws_toBook.f k l0_0 a0_1 a0_2 a0_3 l0_4 a0_5 l0_6 l0_7 l0_8).bind fun bt851 => ((laws_eqBook.f k bt824.1 bt824.2.1 bt824.2.2.1 bt824.2.2.2.1 bt824.2.2.2.2.1 bt824.2.2.2.2.2.1 bt824.2.2.2.2.2.2.1 bt824.2.2.2.2.2.2.2.1 bt824.2.2.2.2.2.2.2.2 bt851.1 bt851.2.1 bt851.2.2.1 bt851.2.2.2.1 bt851.2.2.2.2.1 bt851.2.2.2.2.2.1 bt851.2.2.2.2.2.2.1 bt851.2.2.2.2.2.2.2.1 bt851.2.2.2.2.2.2.2.2).bind fun t870 => (if t870 = true then (some true) else (some false))))))))))))))
def laws_FnExactOrderMatters.T5 : Bool × List (List Nat × List Nat) := (true, [([], []), ([0], [0]), ([], []), ([2, 1], [2]), ([], []), ([4, 3], [4]), ([1, 3, 5, 5], [1, 3, 5]), ([6, 6, 0, 1, 2, 3, 4, 5, 6], [6])])
def laws_FnExactOrderMatters.B5 : List Nat := [0, 1, 0, 7, 0, 31, 63, 127]
theorem laws_FnExactOrderMatters.tab5 : rtab .any (opsOf Try.f4 5) = laws_FnExactOrderMatters.T5 := by kernel_rfl
theorem laws_FnExactOrderMatters.bits5 : waitsOk laws_FnExactOrderMatters.T5.2 laws_FnExactOrderMatters.B5 = true := by kernel_rfl
theorem laws_FnExactOrderMatters.calls (k : Nat) (A0_0 : Option Addr) (c0_0 : Nat) (l0_0 : List (S133)) (a0_1 : Int) (a0_2 : Int) (a0_3 : Int) (A0_4 : Option Addr) (c0_4 : Nat) (l0_4 : List Int) (a0_5 : Bool) (A0_6 : Option Addr) (c0_6 : Nat) (l0_6 : List (S147)) (A0_7 : Option Addr) (c0_7 : Nat) (l0_7 : List Int) (A0_8 : Option Addr) (c0_8 : Nat) (l0_8 : List Int) (a1_0 : Int) (a1_1 : Int) (a1_2 : Bool) (a2_0 : Int) (a2_1 : Int) (a2_2 : Bool) (r : Bool) (w : World) (hr0_0 : Kd.C k133 w A0_0 l0_0.length l0_0) (hc0_0 : l0_0.length ≤ c0_0) (hr0_4 : Kd.C (Kd.int .i64) w A0_4 l0_4.length l0_4) (hc0_4 : l0_4.length ≤ c0_4) (hr0_6 : Kd.C k147 w A0_6 l0_6.length l0_6) (hc0_6 : l0_6.length ≤ c0_6) (hr0_7 : Kd.C (Kd.int .i64) w A0_7 l0_7.length l0_7) (hc0_7 : l0_7.length ≤ c0_7) (hr0_8 : Kd.C (Kd.int .i64) w A0_8 l0_8.length l0_8) (hc0_8 : l0_8.length ≤ c0_8) (h : laws_FnExactOrderMatters.f k l0_0 a0_1 a0_2 a0_3 l0_4 a0_5 l0_6 l0_7 l0_8 a1_0 a1_1 a1_2 a2_0 a2_1 a2_2 = some r) :
  Calls Try.prog 4 #[.agg #[.slice A0_0 l0_0.length c0_0, .int .i64 a0_1, .int .i64 a0_2, .int .i64 a0_3, .slice A0_4 l0_4.length c0_4, .bool a0_5, .slice A0_6 l0_6.length c0_6, .slice A0_7 l0_7.length c0_7, .slice A0_8 l0_8.length c0_8], .agg #[.int .i64 a1_0, .int .i64 a1_1, .bool a1_2], .agg #[.int .i64 a2_0, .int .i64 a2_1, .bool a2_2]] w fun e w' => e = .returned (.bool r) ∧ Below w.heap.size w w' := by
 have hu28 := Try.underlying28
 have hu48 := Try.underlying48
 have hu36 := Try.underlying36
 have HR0_0 := Aside0.mk hr0_0
 have HC0_0 := Aside0.mk hc0_0
 clear hr0_0 hc0_0
 have HR0_4 := Aside0.mk hr0_4
 have HC0_4 := Aside0.mk hc0_4
 clear hr0_4 hc0_4
 have HR0_6 := Aside0.mk hr0_6
 have HC0_6 := Aside0.mk hc0_6
 clear hr0_6 hc0_6
 have HR0_7 := Aside0.mk hr0_7
 have HC0_7 := Aside0.mk hc0_7
 clear hr0_7 hc0_7
 have HR0_8 := Aside0.mk hr0_8
 have HC0_8 := Aside0.mk hc0_8
 clear hr0_8 hc0_8
 have HB := Aside0.mk (Below.refl w.heap.size w)
 have H : ((laws_szBook.f k l0_0 a0_1 a0_2 a0_3 l0_4 a0_5 l0_6 l0_7 l0_8 1048576).bind fun t797 => (if t797 < 0 then (some true) else ((laws_toBook.f k l0_0 a0_1 a0_2 a0_3 l0_4 a0_5 l0_6 l0_7 l0_8).bind fun bt798 => ((laws_toProtest.f a1_0 a1_1 a1_2).bind fun bt817 => ((laws_toProtest.f a2_0 a2_1 a2_2).bind fun bt820 => ((spec_OrderMatters.f k bt798.1 bt798.2.1 bt798.2.2.1 bt798.2.2.2.1 bt798.2.2.2.2.1 bt798.2.2.2.2.2.1 bt798.2.2.2.2.2.2.1 bt798.2.2.2.2.2.2.2.1 bt798.2.2.2.2.2.2.2.2 bt817.1 bt817.2.1 bt817.2.2 bt820.1 bt820.2.1 bt820.2.2).bind fun t823 => ((laws_toBook.f k l0_0 a0_1 a0_2 a0_3 l0_4 a0_5 l0_6 l0_7 l0_8).bind fun bt824 => ((laws_toProtest.f a1_0 a1_1 a1_2).bind fun bt844 => ((laws_toProtest.f a2_0 a2_1 a2_2).bind fun bt847 => ((impl_OrderMatters.f k bt824.1 bt824.2.1 bt824.2.2.1 bt824.2.2.2.1 bt824.2.2.2.2.1 bt824.2.2.2.2.2.1 bt824.2.2.2.2.2.2.1 bt824.2.2.2.2.2.2.2.1 bt824.2.2.2.2.2.2.2.2 bt844.1 bt844.2.1 bt844.2.2 bt847.1 bt847.2.1 bt847.2.2).bind fun t850 => (if (t850 != t823) = true then (some false) else ((laws_toBook.f k l0_0 a0_1 a0_2 a0_3 l0_4 a0_5 l0_6 l0_7 l0_8).bind fun bt851 => ((laws_eqBook.f k bt824.1 bt824.2.1 bt824.2.2.1 bt824.2.2.2.1 bt824.2.2.2.2.1 bt824.2.2.2.2.2.1 bt824.2.2.2.2.2.2.1 bt824.2.2.2.2.2.2.2.1 bt824.2.2.2.2.2.2.2.2 bt851.1 bt851.2.1 bt851.2.2.1 bt851.2.2.2.1 bt851.2.2.2.2.1 bt851.2.2.2.2.2.1 bt851.2.2.2.2.2.2.1 bt851.2.2.2.2.2.2.2.1 bt851.2.2.2.2.2.2.2.2).bind fun t870 => (if t870 = true then (some true) else (some false))))))))))))))) = some r := h
 clear h
 replace H := Option.bind_eq_some_iff.mp H
 obtain ⟨t797, A40, H⟩ := H
 try dsimp only at H
 have A4 := Aside0.mk A40
 clear A40
 have HC5 := Aside0.mk H
 clear H
 go_enter Try.func4, Try.ntmps4
 go_upto_if 15 with (first | ((with_reducible refine gate_dst (N := 3) rfl ?_); refine bx (N := 3) (cs := #[.slice A0_0 l0_0.length c0_0, .int .i64 a0_1, .int .i64 a0_2, .int .i64 a0_3, .slice A0_4 l0_4.length c0_4, .bool a0_5, .slice A0_6 l0_6.length c0_6, .slice A0_7 l0_7.length c0_7, .slice A0_8 l0_8.length c0_8]) (t := 28) ?_; intro gb794 hg w6 hbox hb; have BK794 := Aside0.mk (hbox); have GW794 := gs hg HB; have GE794 := gs hg HB; replace HB := hs_ HB hb; clear hb hbox hg) | ((with_reducible refine gate_dst (N := 4) rfl ?_); refine bx (N := 4) (cs := #[.int .i64 a1_0, .int .i64 a1_1, .bool a1_2]) (t := 48) ?_; intro gb795 hg w7 hbox hb; have BK795 := Aside0.mk (hbox); have GW795 := gs hg HB; have GE795 := gs hg HB; replace HB := hs_ HB hb; have NB794_795 := gn hg BK794; have NB795_794 := gm hg BK794; replace BK794 := kb BK794 hb; clear hb hbox hg) | ((with_reducible refine gate_dst (N := 5) rfl ?_); refine bx (N := 5) (cs := #[.int .i64 a2_0, .int .i64 a2_1, .bool a2_2]) (t := 48) ?_; intro gb796 hg w8 hbox hb; have BK796 := Aside0.mk (hbox); have GW796 := gs hg HB; have GE796 := gs hg HB; replace HB := hs_ HB hb; have NB794_796 := gn hg BK794; have NB796_794 := gm hg BK794; replace BK794 := kb BK794 hb; have NB795_796 := gn hg BK795; have NB796_795 := gm hg BK795; replace BK795 := kb BK795 hb; clear hb hbox hg; have hnb9 := NB794_795.out; have hnc9 := NB795_794.out; have hnb10 := NB794_796.out; have hnc10 := NB796_794.out; have ⟨z11_0, z11_1, z11_2, z11_3, z11_4, z11_5, z11_6, z11_7, z11_8, v11_0, v11_1, v11_2, v11_3, v11_4, v11_5, v11_6, v11_7, v11_8⟩ := rz9 BK794) | ((with_reducible refine gate_callee (f := 10) rfl ?_); refine gl (some 13) Try.func10 #[.agg #[.slice A0_0 l0_0.length c0_0, .int .i64 a0_1, .int .i64 a0_2, .int .i64 a0_3, .slice A0_4 l0_4.length c0_4, .bool a0_5, .slice A0_6 l0_6.length c0_6, .slice A0_7 l0_7.length c0_7, .slice A0_8 l0_8.length c0_8], .int .i64 1048576] ?_; (with_reducible refine (laws_szBook.calls k _ _ l0_0 a0_1 a0_2 a0_3 _ _ l0_4 a0_5 _ _ l0_6 _ _ l0_7 _ _ l0_8 1048576 t797 _ ?side1 ?side2 ?side3 ?side4 ?side5 ?side6 ?side7 ?side8 ?side9 ?side10 A4.out).mono ?_); (case side1 => exact cc HR0_0 HB); (case side2 => exact HC0_0.out); (case side3 => exact cc HR0_4 HB); (case side4 => exact HC0_4.out); (case side5 => exact cc HR0_6 HB); (case side6 => exact HC0_6.out); (case side7 => exact cc HR0_7 HB); (case side8 => exact HC0_7.out); (case side9 => exact cc HR0_8 HB); (case side10 => exact HC0_8.out); rintro e w12 ⟨rfl, hb⟩; refine ⟨_, rfl, ?_⟩; replace BK794 := kb BK794 hb; replace BK795 := kb BK795 hb; replace BK796 := kb BK796 hb; replace HB := hs_ HB hb; (try clear hb hb2 hk hi)))
 (try simp only [Act.put, List.setIfInBounds_toArray, List.set_cons_zero, List.set_cons_succ])
 have H := HC5.out
 clear HC5
 by_cases c13 : t797 < 0
 ·rw [if_pos c13] at H
  have c13b0 : decide (t797 < 0) = true := decide_eq_true c13
  clear c13
  (first | rw [c13b0] | rw [c13b1] | (simp only [i64_w, i32_w]; rw [c13b0]) | skip)
  obtain rfl := Option.some.inj H
  go_wp2
  go_ret
  exact ⟨ee, bb HB⟩
 ·rw [if_neg c13] at H
  have c13b0 : decide (t797 < 0) = false := decide_eq_false c13
  clear c13
  (first | rw [c13b0] | rw [c13b1] | (simp only [i64_w, i32_w]; rw [c13b0]) | skip)
  replace H := Option.bind_eq_some_iff.mp H
  obtain ⟨⟨t798, t801, t802, t803, t804, t807, t808, t811, t814⟩, A140, H⟩ := H
  try dsimp only at H
  have A14 := Aside0.mk A140
  clear A140
  replace H := Option.bind_eq_some_iff.mp H
  obtain ⟨⟨t817, t818, t819⟩, A150, H⟩ := H
  try dsimp only at H
  have A15 := Aside0.mk A150
  clear A150
  replace H := Option.bind_eq_some_iff.mp H
  obtain ⟨⟨t820, t821, t822⟩, A160, H⟩ := H
  try dsimp only at H
  have A16 := Aside0.mk A160
  clear A160
  replace H := Option.bind_eq_some_iff.mp H
  obtain ⟨t823, A170, H⟩ := H
  try dsimp only at H
  have A17 := Aside0.mk A170
  clear A170
  replace H := Option.bind_eq_some_iff.mp H
  obtain ⟨⟨t824, t827, t828, t829, t830, t833, t834, t837, t840⟩, A180, H⟩ := H
  try dsimp only at H
  have A18 := Aside0.mk A180
  clear A180
  replace H := Option.bind_eq_some_iff.mp H
  obtain ⟨⟨t844, t845, t846⟩, A190, H⟩ := H
  try dsimp only at H
  have A19 := Aside0.mk A190
  clear A190
  replace H := Option.bind_eq_some_iff.mp H
  obtain ⟨⟨t847, t848, t849⟩, A200, H⟩ := H
  try dsimp only at H
  have A20 := Aside0.mk A200
  clear A200
  replace H := Option.bind_eq_some_iff.mp H
  obtain ⟨t850, A210, H⟩ := H
  try dsimp only at H
  have A21 := Aside0.mk A210
  clear A210
  have HC22 := Aside0.mk H
  clear H
  try go_wp2
  replace BK794 := Aside0.mk (blk_drew BK794.out)
  replace BK795 := Aside0.mk (blk_drew BK795.out)
  replace BK796 := Aside0.mk (blk_drew BK796.out)
  replace HB := Aside0.mk (below_drew1 HB.out)
  refine start_ (n := 8) (S := fun w' => w'.cell? ⟨gb794, 0, none⟩ = some (.slice A0_0 l0_0.length c0_0) ∧ w'.cell? ⟨gb794, 1, none⟩ = some (.int .i64 a0_1) ∧ w'.cell? ⟨gb794, 2, none⟩ = some (.int .i64 a0_2) ∧ w'.cell? ⟨gb794, 3, none⟩ = some (.int .i64 a0_3) ∧ w'.cell? ⟨gb794, 4, none⟩ = some (.slice A0_4 l0_4.length c0_4) ∧ w'.cell? ⟨gb794, 5, none⟩ = some (.bool a0_5) ∧ w'.cell? ⟨gb794, 6, none⟩ = some (.slice A0_6 l0_6.length c0_6) ∧ w'.cell? ⟨gb794, 7, none⟩ = some (.slice A0_7 l0_7.length c0_7) ∧ w'.cell? ⟨gb794, 8, none⟩ = some (.slice A0_8 l0_8.length c0_8) ∧ w'.cell? ⟨gb795, 0, none⟩ = some (.int .i64 a1_0) ∧ w'.cell? ⟨gb795, 1, none⟩ = some (.int .i64 a1_1) ∧ w'.cell? ⟨gb795, 2, none⟩ = some (.bool a1_2) ∧ w'.cell? ⟨gb796, 0, none⟩ = some (.int .i64 a2_0) ∧ w'.cell? ⟨gb796, 1, none⟩ = some (.int .i64 a2_1) ∧ w'.cell? ⟨gb796, 2, none⟩ = some (.bool a2_2)) (ds := []) #[false, false, false, false, false, false, false, false] (by kernel_rfl) rfl rfl ⟨bc BK794 0, bc BK794 1, bc BK794 2, bc BK794 3, bc BK794 4, bc BK794 5, bc BK794 6, bc BK794 7, bc BK794 8, bc BK795 0, bc BK795 1, bc BK795 2, bc BK796 0, bc BK796 1, bc BK796 2⟩ (fun hHeld => ?_); refine with_tabW laws_FnExactOrderMatters.tab5 laws_FnExactOrderMatters.bits5 (fun HT_ HW_ => ?_)
  generalize w12.drew = w23 at BK794 BK795 BK796 HB hHeld ⊢
  refine take_ (i := 0) (N := some 16) (v := ?_) (a' := ?_) #[true, false, false, false, false, false, false, false] rfl rfl (take_ofW HT_.out HW_.out (by kernel_rfl)) (fun _ _ _ h => h) (Or.inl ⟨by rfl, ?_⟩) hHeld ?_ ?_
  rotate_left
  ·rintro w' ⟨s0, s1, s2, s3, s4, s5, s6, s7, s8, s9, s10, s11, s12, s13, s14⟩
   go_simp
   with_reducible rfl
  rotate_left
  ·simp only [Act.put, List.setIfInBounds_toArray, List.set_cons_zero, List.set_cons_succ, i64_w, i32_w]
   rfl
  refine take_ (i := 2) (N := some 18) (v := ?_) (a' := ?_) #[true, false, true, false, false, false, false, false] rfl rfl (take_ofW HT_.out HW_.out (by kernel_rfl)) (fun _ _ _ h => h) (Or.inl ⟨by rfl, ?_⟩) hHeld ?_ ?_
  rotate_left
  ·rintro w' ⟨s0, s1, s2, s3, s4, s5, s6, s7, s8, s9, s10, s11, s12, s13, s14⟩
   go_simp
   with_reducible rfl
  rotate_left
  ·simp only [Act.put, List.setIfInBounds_toArray, List.set_cons_zero, List.set_cons_succ, i64_w, i32_w]
   rfl
  refine take_ (i := 4) (N := some 20) (v := ?_) (a' := ?_) #[true, false, true, false, true, false, false, false] rfl rfl (take_ofW HT_.out HW_.out (by kernel_rfl)) (fun _ _ _ h => h) (Or.inl ⟨by rfl, ?_⟩) hHeld ?_ ?_
  rotate_left
  ·rintro w' ⟨s0, s1, s2, s3, s4, s5, s6, s7, s8, s9, s10, s11, s12, s13, s14⟩
   go_simp
   with_reducible rfl
  rotate_left
  ·simp only [Act.put, List.setIfInBounds_toArray, List.set_cons_zero, List.set_cons_succ, i64_w, i32_w]
   rfl
  refine one_ (i := 1) (N := some 17) #[true, true, true, false, true, false, false, false] rfl rfl (one_of HT_.out (by kernel_rfl)) (by decide) (fun K hK => ?_)
  refine goes_ Try.func13 (by kernel_rfl) rfl #[.agg #[.slice A0_0 l0_0.length c0_0, .int .i64 a0_1, .int .i64 a0_2, .int .i64 a0_3, .slice A0_4 l0_4.length c0_4, .bool a0_5, .slice A0_6 l0_6.length c0_6, .slice A0_7 l0_7.length c0_7, .slice A0_8 l0_8.length c0_8]] (by rfl) rfl rfl (by (try simp only [List.map_toArray, List.map_cons, List.map_nil]); first | done | rfl | (simp only [List.length_drop, List.length_take]; rfl)) ?_
  with_reducible refine (laws_toBook.calls k _ _ l0_0 a0_1 a0_2 a0_3 _ _ l0_4 a0_5 _ _ l0_6 _ _ l0_7 _ _ l0_8 t798 t801 t802 t803 t804 t807 t808 t811 t814 _ ?side1 ?side2 ?side3 ?side4 ?side5 ?side6 ?side7 ?side8 ?side9 ?side10 A14.out).mono ?_
  (case side1 => exact cc HR0_0 HB)
  (case side2 => exact HC0_0.out)
  (case side3 => exact cc HR0_4 HB)
  (case side4 => exact HC0_4.out)
  (case side5 => exact cc HR0_6 HB)
  (case side6 => exact HC0_6.out)
  (case side7 => exact cc HR0_7 HB)
  (case side8 => exact HC0_7.out)
  (case side9 => exact cc HR0_8 HB)
  (case side10 => exact HC0_8.out)
  rintro e w24 ⟨v799, v805, v809, v812, v815, rfl, ho0, ho1, ho2, ho3, ho4, hb⟩
  refine ⟨_, rfl, ?_⟩
  have HO800 := kl ho0 HB
  have HO806 := kl ho1 HB
  have HO810 := kl ho2 HB
  have HO813 := kl ho3 HB
  have HO816 := kl ho4 HB
  replace BK794 := kb BK794 hb
  replace BK795 := kb BK795 hb
  replace BK796 := kb BK796 hb
  replace HB := hs_ HB hb
  (try clear hb hb2 hk hi ho0 ho1 ho2 ho3 ho4)
  refine hK.out _ _ ⟨bc BK794 0, bc BK794 1, bc BK794 2, bc BK794 3, bc BK794 4, bc BK794 5, bc BK794 6, bc BK794 7, bc BK794 8, bc BK795 0, bc BK795 1, bc BK795 2, bc BK796 0, bc BK796 1, bc BK796 2⟩ (fun hHeld => ?_)
  clear hK K
  refine norm_ (a' := ?_) ?_ ?_
  rotate_left
  ·show Act.put _ (some 17) _ = _
   simp only [Act.put, List.setIfInBounds_toArray, List.set_cons_zero, List.set_cons_succ, i64_w, i32_w]
   rfl
  refine one_ (i := 3) (N := some 19) #[true, true, true, true, true, false, false, false] rfl rfl (one_of HT_.out (by kernel_rfl)) (by decide) (fun K hK => ?_)
  refine goes_ Try.func22 (by kernel_rfl) rfl #[.agg #[.int .i64 a1_0, .int .i64 a1_1, .bool a1_2]] (by rfl) rfl rfl (by (try simp only [List.map_toArray, List.map_cons, List.map_nil]); first | done | rfl | (simp only [List.length_drop, List.length_take]; rfl)) ?_
  with_reducible refine (laws_toProtest.calls a1_0 a1_1 a1_2 t817 t818 t819 _ A15.out).mono ?_
  rintro e w25 ⟨rfl, hb⟩
  refine ⟨_, rfl, ?_⟩
  replace HO800 := kr HO800 hb
  replace HO806 := kr HO806 hb
  replace HO810 := kr HO810 hb
  replace HO813 := kr HO813 hb
  replace HO816 := kr HO816 hb
  replace BK794 := kb BK794 hb
  replace BK795 := kb BK795 hb
  replace BK796 := kb BK796 hb
  replace HB := hs_ HB hb
  (try clear hb hb2 hk hi)
  refine hK.out _ _ ⟨bc BK794 0, bc BK794 1, bc BK794 2, bc BK794 3, bc BK794 4, bc BK794 5, bc BK794 6, bc BK794 7, bc BK794 8, bc BK795 0, bc BK795 1, bc BK795 2, bc BK796 0, bc BK796 1, bc BK796 2⟩ (fun hHeld => ?_)
  clear hK K
  refine norm_ (a' := ?_) ?_ ?_
  rotate_left
  ·show Act.put _ (some 19) _ = _
   simp only [Act.put, List.setIfInBounds_toArray, List.set_cons_zero, List.set_cons_succ, i64_w, i32_w]
   rfl
  refine one_ (i := 5) (N := some 21) #[true, true, true, true, true, true, false, false] rfl rfl (one_of HT_.out (by kernel_rfl)) (by decide) (fun K hK => ?_)
  refine goes_ Try.func22 (by kernel_rfl) rfl #[.agg #[.int .i64 a2_0, .int .i64 a2_1, .bool a2_2]] (by rfl) rfl rfl (by (try simp only [List.map_toArray, List.map_cons, List.map_nil]); first | done | rfl | (simp only [List.length_drop, List.length_take]; rfl)) ?_
  with_reducible refine (laws_toProtest.calls a2_0 a2_1 a2_2 t820 t821 t822 _ A16.out).mono ?_
  rintro e w26 ⟨rfl, hb⟩
  refine ⟨_, rfl, ?_⟩
  replace HO800 := kr HO800 hb
  replace HO806 := kr HO806 hb
  replace HO810 := kr HO810 hb
  replace HO813 := kr HO813 hb
  replace HO816 := kr HO816 hb
  replace BK794 := kb BK794 hb
  replace BK795 := kb BK795 hb
  replace BK796 := kb BK796 hb
  replace HB := hs_ HB hb
  (try clear hb hb2 hk hi)
  obtain ⟨Ao27, co27, eo27⟩ := Kd.R_slice HO800.out
  (first | subst eo27 | (injection eo27 with f1_ f2_ f3_; have f4_ := f1_.symm; have f5_ := f3_.symm; clear f1_ f2_ f3_; subst f4_; subst f5_))
  obtain ⟨Ao28, co28, eo28⟩ := Kd.R_slice HO806.out
  (first | subst eo28 | (injection eo28 with f1_ f2_ f3_; have f4_ := f1_.symm; have f5_ := f3_.symm; clear f1_ f2_ f3_; subst f4_; subst f5_))
  obtain ⟨Ao29, co29, eo29⟩ := Kd.R_slice HO810.out
  (first | subst eo29 | (injection eo29 with f1_ f2_ f3_; have f4_ := f1_.symm; have f5_ := f3_.symm; clear f1_ f2_ f3_; subst f4_; subst f5_))
  obtain ⟨Ao30, co30, eo30⟩ := Kd.R_slice HO813.out
  (first | subst eo30 | (injection eo30 with f1_ f2_ f3_; have f4_ := f1_.symm; have f5_ := f3_.symm; clear f1_ f2_ f3_; subst f4_; subst f5_))
  obtain ⟨Ao31, co31, eo31⟩ := Kd.R_slice HO816.out
  (first | subst eo31 | (injection eo31 with f1_ f2_ f3_; have f4_ := f1_.symm; have f5_ := f3_.symm; clear f1_ f2_ f3_; subst f4_; subst f5_))
  refine hK.out _ _ ⟨bc BK794 0, bc BK794 1, bc BK794 2, bc BK794 3, bc BK794 4, bc BK794 5, bc BK794 6, bc BK794 7, bc BK794 8, bc BK795 0, bc BK795 1, bc BK795 2, bc BK796 0, bc BK796 1, bc BK796 2⟩ (fun hHeld => ?_)
  clear hK K
  refine norm_ (a' := ?_) ?_ ?_
  rotate_left
  ·show Act.put _ (some 21) _ = _
   simp only [Act.put, List.setIfInBounds_toArray, List.set_cons_zero, List.set_cons_succ, i64_w, i32_w]
   rfl
  refine one_ (i := 6) (N := some 22) #[true, true, true, true, true, true, true, false] rfl rfl (one_of HT_.out (by kernel_rfl)) (by decide) (fun K hK => ?_)
  refine goes_ Try.func21 (by kernel_rfl) rfl #[.agg #[.slice Ao27 t798.length co27, .int .i64 t801, .int .i64 t802, .int .i64 t803, .slice Ao28 t804.length co28, .bool t807, .slice Ao29 t808.length co29, .slice Ao30 t811.length co30, .slice Ao31 t814.length co31], .agg #[.int .i64 t817, .int .i64 t818, .bool t819], .agg #[.int .i64 t820, .int .i64 t821, .bool t822]] (by rfl) rfl rfl (by (try simp only [List.map_toArray, List.map_cons, List.map_nil]); first | done | rfl | (simp only [List.length_drop, List.length_take]; rfl)) ?_
  with_reducible refine (spec_OrderMatters.calls k _ _ t798 t801 t802 t803 _ _ t804 t807 _ _ t808 _ _ t811 _ _ t814 t817 t818 t819 t820 t821 t822 t823 _ ?side1 ?side2 ?side3 ?side4 ?side5 ?side6 ?side7 ?side8 ?side9 ?side10 A17.out).mono ?_
  (case side1 => exact cr HO800)
  (case side2 => exact (Kd.R_reads' HO800.out).2.1)
  (case side3 => exact cr HO806)
  (case side4 => exact (Kd.R_reads' HO806.out).2.1)
  (case side5 => exact cr HO810)
  (case side6 => exact (Kd.R_reads' HO810.out).2.1)
  (case side7 => exact cr HO813)
  (case side8 => exact (Kd.R_reads' HO813.out).2.1)
  (case side9 => exact cr HO816)
  (case side10 => exact (Kd.R_reads' HO816.out).2.1)
  rintro e w32 ⟨rfl, hb⟩
  refine ⟨_, rfl, ?_⟩
  replace HO800 := kr HO800 hb
  replace HO806 := kr HO806 hb
  replace HO810 := kr HO810 hb
  replace HO813 := kr HO813 hb
  replace HO816 := kr HO816 hb
  replace BK794 := kb BK794 hb
  replace BK795 := kb BK795 hb
  replace BK796 := kb BK796 hb
  replace HB := hs_ HB hb
  (try clear hb hb2 hk hi)
  refine hK.out _ _ ⟨bc BK794 0, bc BK794 1, bc BK794 2, bc BK794 3, bc BK794 4, bc BK794 5, bc BK794 6, bc BK794 7, bc BK794 8, bc BK795 0, bc BK795 1, bc BK795 2, bc BK796 0, bc BK796 1, bc BK796 2⟩ (fun hHeld => ?_)
  clear hK K
  refine norm_ (a' := ?_) ?_ ?_
  rotate_left
  ·show Act.put _ (some 22) _ = _
   simp only [Act.put, List.setIfInBounds_toArray, List.set_cons_zero, List.set_cons_succ, i64_w, i32_w]
   rfl
  refine pz_ 7 8 ?_
  refine done_ (done_of HT_.out (by kernel_rfl)) ?_
  have hnb33 := NB794_795.out
  have hnc33 := NB795_794.out
  have hnb34 := NB794_796.out
  have hnc34 := NB796_794.out
  have ⟨z35_0, z35_1, z35_2, z35_3, z35_4, z35_5, z35_6, z35_7, z35_8, v35_0, v35_1, v35_2, v35_3, v35_4, v35_5, v35_6, v35_7, v35_8⟩ := rz9 BK794
  try go_wp2_with (first | ((with_reducible refine gate_callee (f := 13) rfl ?_); refine gl (some 24) Try.func13 #[.agg #[.slice A0_0 l0_0.length c0_0, .int .i64 a0_1, .int .i64 a0_2, .int .i64 a0_3, .slice A0_4 l0_4.length c0_4, .bool a0_5, .slice A0_6 l0_6.length c0_6, .slice A0_7 l0_7.length c0_7, .slice A0_8 l0_8.length c0_8]] ?_; (with_reducible refine (laws_toBook.calls k _ _ l0_0 a0_1 a0_2 a0_3 _ _ l0_4 a0_5 _ _ l0_6 _ _ l0_7 _ _ l0_8 t824 t827 t828 t829 t830 t833 t834 t837 t840 _ ?side1 ?side2 ?side3 ?side4 ?side5 ?side6 ?side7 ?side8 ?side9 ?side10 A18.out).mono ?_); (case side1 => exact cc HR0_0 HB); (case side2 => exact HC0_0.out); (case side3 => exact cc HR0_4 HB); (case side4 => exact HC0_4.out); (case side5 => exact cc HR0_6 HB); (case side6 => exact HC0_6.out); (case side7 => exact cc HR0_7 HB); (case side8 => exact HC0_7.out); (case side9 => exact cc HR0_8 HB); (case side10 => exact HC0_8.out); rintro e w36 ⟨v825, v831, v835, v838, v841, rfl, ho0, ho1, ho2, ho3, ho4, hb⟩; refine ⟨_, rfl, ?_⟩; have HO826 := Aside0.mk (Kd.R_lower (Kd.R_new' ho0 (rt HO800)) (below_size (bb HB))); replace HO800 := ke HO800 ho0 hb; have HO832 := Aside0.mk (Kd.R_lower (Kd.R_new' (Kd.R_new' (Kd.R_new' ho1 (rt HO806)) (rt HO813)) (rt HO816)) (below_size (bb HB))); have HO836 := Aside0.mk (Kd.R_lower (Kd.R_new' ho2 (rt HO810)) (below_size (bb HB))); replace HO810 := ke HO810 ho2 hb; have HO839 := Aside0.mk (Kd.R_lower (Kd.R_new' (Kd.R_new' (Kd.R_new' ho3 (rt HO806)) (rt HO813)) (rt HO816)) (below_size (bb HB))); have HO842 := Aside0.mk (Kd.R_lower (Kd.R_new' (Kd.R_new' (Kd.R_new' ho4 (rt HO806)) (rt HO813)) (rt HO816)) (below_size (bb HB))); replace HO806 := Aside0.mk (Kd.R_mono (Kd.R_told (Kd.R_told (Kd.R_told (Kd.R_old (rr HO806) hb) (Kd.R_base ho1)) (Kd.R_base ho3)) (Kd.R_base ho4)) (fun _ h_ => h_.1)); replace HO813 := Aside0.mk (Kd.R_mono (Kd.R_told (Kd.R_told (Kd.R_told (Kd.R_old (rr HO813) hb) (Kd.R_base ho1)) (Kd.R_base ho3)) (Kd.R_base ho4)) (fun _ h_ => h_.1)); replace HO816 := Aside0.mk (Kd.R_mono (Kd.R_told (Kd.R_told (Kd.R_told (Kd.R_old (rr HO816) hb) (Kd.R_base ho1)) (Kd.R_base ho3)) (Kd.R_base ho4)) (fun _ h_ => h_.1)); replace BK794 := kb BK794 hb; replace BK795 := kb BK795 hb; replace BK796 := kb BK796 hb; replace HB := hs_ HB hb; (try clear hb hb2 hk hi ho0 ho1 ho2 ho3 ho4)) | ((with_reducible refine gate_dst (N := 9) rfl ?_); refine bx (N := 9) (cs := #[.slice none 0 0, .int .i64 0, .int .i64 0, .int .i64 0, .slice none 0 0, .bool false, .slice none 0 0, .slice none 0 0, .slice none 0 0]) (t := 36) ?_; intro gb843 hg w37 hbox hb; replace HO800 := kr HO800 hb; replace HO806 := kr HO806 hb; replace HO810 := kr HO810 hb; replace HO813 := kr HO813 hb; replace HO816 := kr HO816 hb; replace HO826 := kr HO826 hb; replace HO832 := kr HO832 hb; replace HO836 := kr HO836 hb; replace HO839 := kr HO839 hb; replace HO842 := kr HO842 hb; have BK843 := Aside0.mk (hbox); have GW843 := gs hg HB; have GE843 := gs hg HB; replace HB := hs_ HB hb; have NB794_843 := gn hg BK794; have NB843_794 := gm hg BK794; replace BK794 := kb BK794 hb; have NB795_843 := gn hg BK795; have NB843_795 := gm hg BK795; replace BK795 := kb BK795 hb; have NB796_843 := gn hg BK796; have NB843_796 := gm hg BK796; replace BK796 := kb BK796 hb; clear hb hbox hg; obtain ⟨Ao38, co38, eo38⟩ := Kd.R_slice HO826.out; subst eo38; have hnb39 := NB843_794.out; have hnc39 := NB794_843.out; have hnb40 := NB843_795.out; have hnc40 := NB795_843.out; have hnb41 := NB843_796.out; have hnc41 := NB796_843.out; have ⟨z42_0, z42_1, z42_2, z42_3, z42_4, z42_5, z42_6, z42_7, z42_8, v42_0, v42_1, v42_2, v42_3, v42_4, v42_5, v42_6, v42_7, v42_8⟩ := rz9 BK843; obtain ⟨Ao43, co43, eo43⟩ := Kd.R_slice HO832.out; subst eo43; obtain ⟨Ao44, co44, eo44⟩ := Kd.R_slice HO836.out; subst eo44; obtain ⟨Ao45, co45, eo45⟩ := Kd.R_slice HO839.out; subst eo45; obtain ⟨Ao46, co46, eo46⟩ := Kd.R_slice HO842.out; subst eo46))
  have n0_ : Aside0 (Kd.R k139 139 (((((((((w37.setCell ⟨gb843, 0, none⟩ (.slice Ao38 t824.length co38)).setCell ⟨gb843, 1, none⟩ (.int .i64 t827)).setCell ⟨gb843, 2, none⟩ (.int .i64 t828)).setCell ⟨gb843, 3, none⟩ (.int .i64 t829)).setCell ⟨gb843, 4, none⟩ (.slice Ao43 t830.length co43)).setCell ⟨gb843, 5, none⟩ (.bool t833)).setCell ⟨gb843, 6, none⟩ (.slice Ao44 t834.length co44)).setCell ⟨gb843, 7, none⟩ (.slice Ao45 t837.length co45)).setCell ⟨gb843, 8, none⟩ (.slice Ao46 t840.length co46)) w.heap.size (fun k_ => nb k_ Ao38 t824.length co38) (.slice Ao27 t798.length co27) t798) := ⟨rf HO800 BK843 (fun _ hk => hk.1.2)⟩
  have n1_ : Aside0 (Kd.R (Kd.int .i64) 3 (((((((((w37.setCell ⟨gb843, 0, none⟩ (.slice Ao38 t824.length co38)).setCell ⟨gb843, 1, none⟩ (.int .i64 t827)).setCell ⟨gb843, 2, none⟩ (.int .i64 t828)).setCell ⟨gb843, 3, none⟩ (.int .i64 t829)).setCell ⟨gb843, 4, none⟩ (.slice Ao43 t830.length co43)).setCell ⟨gb843, 5, none⟩ (.bool t833)).setCell ⟨gb843, 6, none⟩ (.slice Ao44 t834.length co44)).setCell ⟨gb843, 7, none⟩ (.slice Ao45 t837.length co45)).setCell ⟨gb843, 8, none⟩ (.slice Ao46 t840.length co46)) w.heap.size (fun k_ => nb k_ Ao30 t811.length co30 ∧ nb k_ Ao31 t814.length co31 ∧ nb k_ Ao43 t830.length co43 ∧ nb k_ Ao45 t837.length co45 ∧ nb k_ Ao46 t840.length co46) (.slice Ao28 t804.length co28) t804) := ⟨rf HO806 BK843 (fun _ hk => ⟨hk.1.1.1.1.1, ⟨hk.1.1.1.1.2, ⟨hk.1.1.1.2, ⟨hk.1.1.2, hk.1.2⟩⟩⟩⟩)⟩
  have n2_ : Aside0 (Kd.R k95 95 (((((((((w37.setCell ⟨gb843, 0, none⟩ (.slice Ao38 t824.length co38)).setCell ⟨gb843, 1, none⟩ (.int .i64 t827)).setCell ⟨gb843, 2, none⟩ (.int .i64 t828)).setCell ⟨gb843, 3, none⟩ (.int .i64 t829)).setCell ⟨gb843, 4, none⟩ (.slice Ao43 t830.length co43)).setCell ⟨gb843, 5, none⟩ (.bool t833)).setCell ⟨gb843, 6, none⟩ (.slice Ao44 t834.length co44)).setCell ⟨gb843, 7, none⟩ (.slice Ao45 t837.length co45)).setCell ⟨gb843, 8, none⟩ (.slice Ao46 t840.length co46)) w.heap.size (fun k_ => nb k_ Ao44 t834.length co44) (.slice Ao29 t808.length co29) t808) := ⟨rf HO810 BK843 (fun _ hk => hk.1.2)⟩
  have n3_ : Aside0 (Kd.R (Kd.int .i64) 3 (((((((((w37.setCell ⟨gb843, 0, none⟩ (.slice Ao38 t824.length co38)).setCell ⟨gb843, 1, none⟩ (.int .i64 t827)).setCell ⟨gb843, 2, none⟩ (.int .i64 t828)).setCell ⟨gb843, 3, none⟩ (.int .i64 t829)).setCell ⟨gb843, 4, none⟩ (.slice Ao43 t830.length co43)).setCell ⟨gb843, 5, none⟩ (.bool t833)).setCell ⟨gb843, 6, none⟩ (.slice Ao44 t834.length co44)).setCell ⟨gb843, 7, none⟩ (.slice Ao45 t837.length co45)).setCell ⟨gb843, 8, none⟩ (.slice Ao46 t840.length co46)) w.heap.size (fun k_ => nb k_ Ao28 t804.length co28 ∧ nb k_ Ao31 t814.length co31 ∧ nb k_ Ao43 t830.length co43 ∧ nb k_ Ao45 t837.length co45 ∧ nb k_ Ao46 t840.length co46) (.slice Ao30 t811.length co30) t811) := ⟨rf HO813 BK843 (fun _ hk => ⟨hk.1.1.1.1.1, ⟨hk.1.1.1.1.2, ⟨hk.1.1.1.2, ⟨hk.1.1.2, hk.1.2⟩⟩⟩⟩)⟩
  have n4_ : Aside0 (Kd.R (Kd.int .i64) 3 (((((((((w37.setCell ⟨gb843, 0, none⟩ (.slice Ao38 t824.length co38)).setCell ⟨gb843, 1, none⟩ (.int .i64 t827)).setCell ⟨gb843, 2, none⟩ (.int .i64 t828)).setCell ⟨gb843, 3, none⟩ (.int .i64 t829)).setCell ⟨gb843, 4, none⟩ (.slice Ao43 t830.length co43)).setCell ⟨gb843, 5, none⟩ (.bool t833)).setCell ⟨gb843, 6, none⟩ (.slice Ao44 t834.length co44)).setCell ⟨gb843, 7, none⟩ (.slice Ao45 t837.length co45)).setCell ⟨gb843, 8, none⟩ (.slice Ao46 t840.length co46)) w.heap.size (fun k_ => nb k_ Ao28 t804.length co28 ∧ nb k_ Ao30 t811.length co30 ∧ nb k_ Ao43 t830.length co43 ∧ nb k_ Ao45 t837.length co45 ∧ nb k_ Ao46 t840.length co46) (.slice Ao31 t814.length co31) t814) := ⟨rf HO816 BK843 (fun _ hk => ⟨hk.1.1.1.1.1, ⟨hk.1.1.1.1.2, ⟨hk.1.1.1.2, ⟨hk.1.1.2, hk.1.2⟩⟩⟩⟩)⟩
  have n5_ : Aside0 (Kd.R k139 139 (((((((((w37.setCell ⟨gb843, 0, none⟩ (.slice Ao38 t824.length co38)).setCell ⟨gb843, 1, none⟩ (.int .i64 t827)).setCell ⟨gb843, 2, none⟩ (.int .i64 t828)).setCell ⟨gb843, 3, none⟩ (.int .i64 t829)).setCell ⟨gb843, 4, none⟩ (.slice Ao43 t830.length co43)).setCell ⟨gb843, 5, none⟩ (.bool t833)).setCell ⟨gb843, 6, none⟩ (.slice Ao44 t834.length co44)).setCell ⟨gb843, 7, none⟩ (.slice Ao45 t837.length co45)).setCell ⟨gb843, 8, none⟩ (.slice Ao46 t840.length co46)) w.heap.size (fun k_ => nb k_ Ao27 t798.length co27) (.slice Ao38 t824.length co38) t824) := ⟨rf HO826 BK843 (fun _ hk => hk.1.2)⟩
  have n6_ : Aside0 (Kd.R (Kd.int .i64) 3 (((((((((w37.setCell ⟨gb843, 0, none⟩ (.slice Ao38 t824.length co38)).setCell ⟨gb843, 1, none⟩ (.int .i64 t827)).setCell ⟨gb843, 2, none⟩ (.int .i64 t828)).setCell ⟨gb843, 3, none⟩ (.int .i64 t829)).setCell ⟨gb843, 4, none⟩ (.slice Ao43 t830.length co43)).setCell ⟨gb843, 5, none⟩ (.bool t833)).setCell ⟨gb843, 6, none⟩ (.slice Ao44 t834.length co44)).setCell ⟨gb843, 7, none⟩ (.slice Ao45 t837.length co45)).setCell ⟨gb843, 8, none⟩ (.slice Ao46 t840.length co46)) w.heap.size (fun k_ => nb k_ Ao28 t804.length co28 ∧ nb k_ Ao30 t811.length co30 ∧ nb k_ Ao31 t814.length co31 ∧ nb k_ Ao45 t837.length co45 ∧ nb k_ Ao46 t840.length co46) (.slice Ao43 t830.length co43) t830) := ⟨rf HO832 BK843 (fun _ hk => ⟨hk.1.1.1.2, ⟨hk.1.1.2, ⟨hk.1.2, ⟨hk.1.1.1.1.1, hk.1.1.1.1.2⟩⟩⟩⟩)⟩
  have n7_ : Aside0 (Kd.R k95 95 (((((((((w37.setCell ⟨gb843, 0, none⟩ (.slice Ao38 t824.length co38)).setCell ⟨gb843, 1, none⟩ (.int .i64 t827)).setCell ⟨gb843, 2, none⟩ (.int .i64 t828)).setCell ⟨gb843, 3, none⟩ (.int .i64 t829)).setCell ⟨gb843, 4, none⟩ (.slice Ao43 t830.length co43)).setCell ⟨gb843, 5, none⟩ (.bool t833)).setCell ⟨gb843, 6, none⟩ (.slice Ao44 t834.length co44)).setCell ⟨gb843, 7, none⟩ (.slice Ao45 t837.length co45)).setCell ⟨gb843, 8, none⟩ (.slice Ao46 t840.length co46)) w.heap.size (fun k_ => nb k_ Ao29 t808.length co29) (.slice Ao44 t834.length co44) t834) := ⟨rf HO836 BK843 (fun _ hk => hk.1.2)⟩
  have n8_ : Aside0 (Kd.R (Kd.int .i64) 3 (((((((((w37.setCell ⟨gb843, 0, none⟩ (.slice Ao38 t824.length co38)).setCell ⟨gb843, 1, none⟩ (.int .i64 t827)).setCell ⟨gb843, 2, none⟩ (.int .i64 t828)).setCell ⟨gb843, 3, none⟩ (.int .i64 t829)).setCell ⟨gb843, 4, none⟩ (.slice Ao43 t830.length co43)).setCell ⟨gb843, 5, none⟩ (.bool t833)).setCell ⟨gb843, 6, none⟩ (.slice Ao44 t834.length co44)).setCell ⟨gb843, 7, none⟩ (.slice Ao45 t837.length co45)).setCell ⟨gb843, 8, none⟩ (.slice Ao46 t840.length co46)) w.heap.size (fun k_ => nb k_ Ao28 t804.length co28 ∧ nb k_ Ao30 t811.length co30 ∧ nb k_ Ao31 t814.length co31 ∧ nb k_ Ao43 t830.length co43 ∧ nb k_ Ao46 t840.length co46) (.slice Ao45 t837.length co45) t837) := ⟨rf HO839 BK843 (fun _ hk => ⟨hk.1.1.1.2, ⟨hk.1.1.2, ⟨hk.1.2, ⟨hk.1.1.1.1.1, hk.1.1.1.1.2⟩⟩⟩⟩)⟩
  have n9_ : Aside0 (Kd.R (Kd.int .i64) 3 (((((((((w37.setCell ⟨gb843, 0, none⟩ (.slice Ao38 t824.length co38)).setCell ⟨gb843, 1, none⟩ (.int .i64 t827)).setCell ⟨gb843, 2, none⟩ (.int .i64 t828)).setCell ⟨gb843, 3, none⟩ (.int .i64 t829)).setCell ⟨gb843, 4, none⟩ (.slice Ao43 t830.length co43)).setCell ⟨gb843, 5, none⟩ (.bool t833)).setCell ⟨gb843, 6, none⟩ (.slice Ao44 t834.length co44)).setCell ⟨gb843, 7, none⟩ (.slice Ao45 t837.length co45)).setCell ⟨gb843, 8, none⟩ (.slice Ao46 t840.length co46)) w.heap.size (fun k_ => nb k_ Ao28 t804.length co28 ∧ nb k_ Ao30 t811.length co30 ∧ nb k_ Ao31 t814.length co31 ∧ nb k_ Ao43 t830.length co43 ∧ nb k_ Ao45 t837.length co45) (.slice Ao46 t840.length co46) t840) := ⟨rf HO842 BK843 (fun _ hk => ⟨hk.1.1.1.2, ⟨hk.1.1.2, ⟨hk.1.2, ⟨hk.1.1.1.1.1, hk.1.1.1.1.2⟩⟩⟩⟩)⟩
  have n10_ : Aside0 ((((((((((w37.setCell ⟨gb843, 0, none⟩ (.slice Ao38 t824.length co38)).setCell ⟨gb843, 1, none⟩ (.int .i64 t827)).setCell ⟨gb843, 2, none⟩ (.int .i64 t828)).setCell ⟨gb843, 3, none⟩ (.int .i64 t829)).setCell ⟨gb843, 4, none⟩ (.slice Ao43 t830.length co43)).setCell ⟨gb843, 5, none⟩ (.bool t833)).setCell ⟨gb843, 6, none⟩ (.slice Ao44 t834.length co44)).setCell ⟨gb843, 7, none⟩ (.slice Ao45 t837.length co45)).setCell ⟨gb843, 8, none⟩ (.slice Ao46 t840.length co46)).heap[gb794]? = some (.cells #[.slice A0_0 l0_0.length c0_0, .int .i64 a0_1, .int .i64 a0_2, .int .i64 a0_3, .slice A0_4 l0_4.length c0_4, .bool a0_5, .slice A0_6 l0_6.length c0_6, .slice A0_7 l0_7.length c0_7, .slice A0_8 l0_8.length c0_8] 28 (0, 0))) := ⟨bf NB794_843.out BK794⟩
  have n11_ : Aside0 ((((((((((w37.setCell ⟨gb843, 0, none⟩ (.slice Ao38 t824.length co38)).setCell ⟨gb843, 1, none⟩ (.int .i64 t827)).setCell ⟨gb843, 2, none⟩ (.int .i64 t828)).setCell ⟨gb843, 3, none⟩ (.int .i64 t829)).setCell ⟨gb843, 4, none⟩ (.slice Ao43 t830.length co43)).setCell ⟨gb843, 5, none⟩ (.bool t833)).setCell ⟨gb843, 6, none⟩ (.slice Ao44 t834.length co44)).setCell ⟨gb843, 7, none⟩ (.slice Ao45 t837.length co45)).setCell ⟨gb843, 8, none⟩ (.slice Ao46 t840.length co46)).heap[gb795]? = some (.cells #[.int .i64 a1_0, .int .i64 a1_1, .bool a1_2] 48 (0, 0))) := ⟨bf NB795_843.out BK795⟩
  have n12_ : Aside0 ((((((((((w37.setCell ⟨gb843, 0, none⟩ (.slice Ao38 t824.length co38)).setCell ⟨gb843, 1, none⟩ (.int .i64 t827)).setCell ⟨gb843, 2, none⟩ (.int .i64 t828)).setCell ⟨gb843, 3, none⟩ (.int .i64 t829)).setCell ⟨gb843, 4, none⟩ (.slice Ao43 t830.length co43)).setCell ⟨gb843, 5, none⟩ (.bool t833)).setCell ⟨gb843, 6, none⟩ (.slice Ao44 t834.length co44)).setCell ⟨gb843, 7, none⟩ (.slice Ao45 t837.length co45)).setCell ⟨gb843, 8, none⟩ (.slice Ao46 t840.length co46)).heap[gb796]? = some (.cells #[.int .i64 a2_0, .int .i64 a2_1, .bool a2_2] 48 (0, 0))) := ⟨bf NB796_843.out BK796⟩
  have n13_ : Aside0 ((((((((((w37.setCell ⟨gb843, 0, none⟩ (.slice Ao38 t824.length co38)).setCell ⟨gb843, 1, none⟩ (.int .i64 t827)).setCell ⟨gb843, 2, none⟩ (.int .i64 t828)).setCell ⟨gb843, 3, none⟩ (.int .i64 t829)).setCell ⟨gb843, 4, none⟩ (.slice Ao43 t830.length co43)).setCell ⟨gb843, 5, none⟩ (.bool t833)).setCell ⟨gb843, 6, none⟩ (.slice Ao44 t834.length co44)).setCell ⟨gb843, 7, none⟩ (.slice Ao45 t837.length co45)).setCell ⟨gb843, 8, none⟩ (.slice Ao46 t840.length co46)).heap[gb843]? = some (.cells #[.slice Ao38 t824.length co38, .int .i64 t827, .int .i64 t828, .int .i64 t829, .slice Ao43 t830.length co43, .bool t833, .slice Ao44 t834.length co44, .slice Ao45 t837.length co45, .slice Ao46 t840.length co46] 36 (0, 0))) := ⟨by (with_reducible repeat (first | refine blk_drewN ?_ _ | refine blk_drew ?_ | refine blk_alloc ?_ _)); refine blk_put (cs := #[.slice Ao38 t824.length co38, .int .i64 t827, .int .i64 t828, .int .i64 t829, .slice Ao43 t830.length co43, .bool t833, .slice Ao44 t834.length co44, .slice Ao45 t837.length co45, .slice none 0 0]) ?_ 8 _ rfl; (with_reducible repeat (first | refine blk_drewN ?_ _ | refine blk_drew ?_ | refine blk_alloc ?_ _)); refine blk_put (cs := #[.slice Ao38 t824.length co38, .int .i64 t827, .int .i64 t828, .int .i64 t829, .slice Ao43 t830.length co43, .bool t833, .slice Ao44 t834.length co44, .slice none 0 0, .slice none 0 0]) ?_ 7 _ rfl; (with_reducible repeat (first | refine blk_drewN ?_ _ | refine blk_drew ?_ | refine blk_alloc ?_ _)); refine blk_put (cs := #[.slice Ao38 t824.length co38, .int .i64 t827, .int .i64 t828, .int .i64 t829, .slice Ao43 t830.length co43, .bool t833, .slice none 0 0, .slice none 0 0, .slice none 0 0]) ?_ 6 _ rfl; (with_reducible repeat (first | refine blk_drewN ?_ _ | refine blk_drew ?_ | refine blk_alloc ?_ _)); refine blk_put (cs := #[.slice Ao38 t824.length co38, .int .i64 t827, .int .i64 t828, .int .i64 t829, .slice Ao43 t830.length co43, .bool false, .slice none 0 0, .slice none 0 0, .slice none 0 0]) ?_ 5 _ rfl; (with_reducible repeat (first | refine blk_drewN ?_ _ | refine blk_drew ?_ | refine blk_alloc ?_ _)); refine blk_put (cs := #[.slice Ao38 t824.length co38, .int .i64 t827, .int .i64 t828, .int .i64 t829, .slice none 0 0, .bool false, .slice none 0 0, .slice none 0 0, .slice none 0 0]) ?_ 4 _ rfl; (with_reducible repeat (first | refine blk_drewN ?_ _ | refine blk_drew ?_ | refine blk_alloc ?_ _)); refine blk_put (cs := #[.slice Ao38 t824.length co38, .int .i64 t827, .int .i64 t828, .int .i64 0, .slice none 0 0, .bool false, .slice none 0 0, .slice none 0 0, .slice none 0 0]) ?_ 3 _ rfl; (with_reducible repeat (first | refine blk_drewN ?_ _ | refine blk_drew ?_ | refine blk_alloc ?_ _)); refine blk_put (cs := #[.slice Ao38 t824.length co38, .int .i64 t827, .int .i64 0, .int .i64 0, .slice none 0 0, .bool false, .slice none 0 0, .slice none 0 0, .slice none 0 0]) ?_ 2 _ rfl; (with_reducible repeat (first | refine blk_drewN ?_ _ | refine blk_drew ?_ | refine blk_alloc ?_ _)); refine blk_put (cs := #[.slice Ao38 t824.length co38, .int .i64 0, .int .i64 0, .int .i64 0, .slice none 0 0, .bool false, .slice none 0 0, .slice none 0 0, .slice none 0 0]) ?_ 1 _ rfl; (with_reducible repeat (first | refine blk_drewN ?_ _ | refine blk_drew ?_ | refine blk_alloc ?_ _)); refine blk_put (cs := #[.slice none 0 0, .int .i64 0, .int .i64 0, .int .i64 0, .slice none 0 0, .bool false, .slice none 0 0, .slice none 0 0, .slice none 0 0]) ?_ 0 _ rfl; (with_reducible repeat (first | refine blk_drewN ?_ _ | refine blk_drew ?_ | refine blk_alloc ?_ _)); exact BK843.out⟩
  have n14_ : Aside0 (Below w.heap.size w (((((((((w37.setCell ⟨gb843, 0, none⟩ (.slice Ao38 t824.length co38)).setCell ⟨gb843, 1, none⟩ (.int .i64 t827)).setCell ⟨gb843, 2, none⟩ (.int .i64 t828)).setCell ⟨gb843, 3, none⟩ (.int .i64 t829)).setCell ⟨gb843, 4, none⟩ (.slice Ao43 t830.length co43)).setCell ⟨gb843, 5, none⟩ (.bool t833)).setCell ⟨gb843, 6, none⟩ (.slice Ao44 t834.length co44)).setCell ⟨gb843, 7, none⟩ (.slice Ao45 t837.length co45)).setCell ⟨gb843, 8, none⟩ (.slice Ao46 t840.length co46))) := ⟨bb HB⟩
  (try clear HO800)
  (try clear HO806)
  (try clear HO810)
  (try clear HO813)
  (try clear HO816)
  (try clear HO826)
  (try clear HO832)
  (try clear HO836)
  (try clear HO839)
  (try clear HO842)
  (try clear BK794)
  (try clear BK795)
  (try clear BK796)
  (try clear BK843)
  (try clear HB)
  generalize (((((((((w37.setCell ⟨gb843, 0, none⟩ (.slice Ao38 t824.length co38)).setCell ⟨gb843, 1, none⟩ (.int .i64 t827)).setCell ⟨gb843, 2, none⟩ (.int .i64 t828)).setCell ⟨gb843, 3, none⟩ (.int .i64 t829)).setCell ⟨gb843, 4, none⟩ (.slice Ao43 t830.length co43)).setCell ⟨gb843, 5, none⟩ (.bool t833)).setCell ⟨gb843, 6, none⟩ (.slice Ao44 t834.length co44)).setCell ⟨gb843, 7, none⟩ (.slice Ao45 t837.length co45)).setCell ⟨gb843, 8, none⟩ (.slice Ao46 t840.length co46)) = w47 at n0_ n1_ n2_ n3_ n4_ n5_ n6_ n7_ n8_ n9_ n10_ n11_ n12_ n13_ n14_ ⊢
  have HO800 := n0_
  have HO806 := n1_
  have HO810 := n2_
  have HO813 := n3_
  have HO816 := n4_
  have HO826 := n5_
  have HO832 := n6_
  have HO836 := n7_
  have HO839 := n8_
  have HO842 := n9_
  have BK794 := n10_
  have BK795 := n11_
  have BK796 := n12_
  have BK843 := n13_
  have HB := n14_
  clear n0_ n1_ n2_ n3_ n4_ n5_ n6_ n7_ n8_ n9_ n10_ n11_ n12_ n13_ n14_
  replace HO800 := Aside0.mk (Kd.R_drew HO800.out)
  replace HO806 := Aside0.mk (Kd.R_drew HO806.out)
  replace HO810 := Aside0.mk (Kd.R_drew HO810.out)
  replace HO813 := Aside0.mk (Kd.R_drew HO813.out)
  replace HO816 := Aside0.mk (Kd.R_drew HO816.out)
  replace HO826 := Aside0.mk (Kd.R_drew HO826.out)
  replace HO832 := Aside0.mk (Kd.R_drew HO832.out)
  replace HO836 := Aside0.mk (Kd.R_drew HO836.out)
  replace HO839 := Aside0.mk (Kd.R_drew HO839.out)
  replace HO842 := Aside0.mk (Kd.R_drew HO842.out)
  replace BK794 := Aside0.mk (blk_drew BK794.out)
  replace BK795 := Aside0.mk (blk_drew BK795.out)
  replace BK796 := Aside0.mk (blk_drew BK796.out)
  replace BK843 := Aside0.mk (blk_drew BK843.out)
  replace HB := Aside0.mk (below_drew1 HB.out)
  refine start_ (n := 7) (S := fun w' => w'.cell? ⟨gb843, 0, none⟩ = some (.slice Ao38 t824.length co38) ∧ w'.cell? ⟨gb843, 1, none⟩ = some (.int .i64 t827) ∧ w'.cell? ⟨gb843, 2, none⟩ = some (.int .i64 t828) ∧ w'.cell? ⟨gb843, 3, none⟩ = some (.int .i64 t829) ∧ w'.cell? ⟨gb843, 4, none⟩ = some (.slice Ao43 t830.length co43) ∧ w'.cell? ⟨gb843, 5, none⟩ = some (.bool t833) ∧ w'.cell? ⟨gb843, 6, none⟩ = some (.slice Ao44 t834.length co44) ∧ w'.cell? ⟨gb843, 7, none⟩ = some (.slice Ao45 t837.length co45) ∧ w'.cell? ⟨gb843, 8, none⟩ = some (.slice Ao46 t840.length co46) ∧ w'.cell? ⟨gb795, 0, none⟩ = some (.int .i64 a1_0) ∧ w'.cell? ⟨gb795, 1, none⟩ = some (.int .i64 a1_1) ∧ w'.cell? ⟨gb795, 2, none⟩ = some (.bool a1_2) ∧ w'.cell? ⟨gb796, 0, none⟩ = some (.int .i64 a2_0) ∧ w'.cell? ⟨gb796, 1, none⟩ = some (.int .i64 a2_1) ∧ w'.cell? ⟨gb796, 2, none⟩ = some (.bool a2_2)) (ds := []) #[false, false, false, false, false, false, false] (by kernel_rfl) rfl rfl ⟨bc BK843 0, bc BK843 1, bc BK843 2, bc BK843 3, bc BK843 4, bc BK843 5, bc BK843 6, bc BK843 7, bc BK843 8, bc BK795 0, bc BK795 1, bc BK795 2, bc BK796 0, bc BK796 1, bc BK796 2⟩ (fun hHeld => ?_)
  generalize w47.drew = w48 at HO800 HO806 HO810 HO813 HO816 HO826 HO832 HO836 HO839 HO842 BK794 BK795 BK796 BK843 HB hHeld ⊢
  refine take_ (i := 0) (N := some 25) (v := ?_) (a' := ?_) #[true, false, false, false, false, false, false] rfl rfl (by kernel_rfl) (fun _ _ _ h => h) (Or.inl ⟨by rfl, ?_⟩) hHeld ?_ ?_
  rotate_left
  ·rintro w' ⟨s0, s1, s2, s3, s4, s5, s6, s7, s8, s9, s10, s11, s12, s13, s14⟩
   go_simp
   with_reducible rfl
  rotate_left
  ·simp only [Act.put, List.setIfInBounds_toArray, List.set_cons_zero, List.set_cons_succ, i64_w, i32_w]
   rfl
  refine take_ (i := 1) (N := some 26) (v := ?_) (a' := ?_) #[true, true, false, false, false, false, false] rfl rfl (by kernel_rfl) (fun _ _ _ h => h) (Or.inl ⟨by rfl, ?_⟩) hHeld ?_ ?_
  rotate_left
  ·rintro w' ⟨s0, s1, s2, s3, s4, s5, s6, s7, s8, s9, s10, s11, s12, s13, s14⟩
   go_simp
   with_reducible rfl
  rotate_left
  ·simp only [Act.put, List.setIfInBounds_toArray, List.set_cons_zero, List.set_cons_succ, i64_w, i32_w]
   rfl
  refine take_ (i := 3) (N := some 28) (v := ?_) (a' := ?_) #[true, true, false, true, false, false, false] rfl rfl (by kernel_rfl) (fun _ _ _ h => h) (Or.inl ⟨by rfl, ?_⟩) hHeld ?_ ?_
  rotate_left
  ·rintro w' ⟨s0, s1, s2, s3, s4, s5, s6, s7, s8, s9, s10, s11, s12, s13, s14⟩
   go_simp
   with_reducible rfl
  rotate_left
  ·simp only [Act.put, List.setIfInBounds_toArray, List.set_cons_zero, List.set_cons_succ, i64_w, i32_w]
   rfl
  refine one_ (i := 2) (N := some 27) #[true, true, true, true, false, false, false] rfl rfl (by kernel_rfl) (by decide) (fun K hK => ?_)
  refine goes_ Try.func22 (by kernel_rfl) rfl #[.agg #[.int .i64 a1_0, .int .i64 a1_1, .bool a1_2]] (by rfl) rfl rfl (by (try simp only [List.map_toArray, List.map_cons, List.map_nil]); first | done | rfl | (simp only [List.length_drop, List.length_take]; rfl)) ?_
  with_reducible refine (laws_toProtest.calls a1_0 a1_1 a1_2 t844 t845 t846 _ A19.out).mono ?_
  rintro e w49 ⟨rfl, hb⟩
  refine ⟨_, rfl, ?_⟩
  replace HO800 := kr HO800 hb
  replace HO806 := kr HO806 hb
  replace HO810 := kr HO810 hb
  replace HO813 := kr HO813 hb
  replace HO816 := kr HO816 hb
  replace HO826 := kr HO826 hb
  replace HO832 := kr HO832 hb
  replace HO836 := kr HO836 hb
  replace HO839 := kr HO839 hb
  replace HO842 := kr HO842 hb
  replace BK794 := kb BK794 hb
  replace BK795 := kb BK795 hb
  replace BK796 := kb BK796 hb
  replace BK843 := kb BK843 hb
  replace HB := hs_ HB hb
  (try clear hb hb2 hk hi)
  refine hK.out _ _ ⟨bc BK843 0, bc BK843 1, bc BK843 2, bc BK843 3, bc BK843 4, bc BK843 5, bc BK843 6, bc BK843 7, bc BK843 8, bc BK795 0, bc BK795 1, bc BK795 2, bc BK796 0, bc BK796 1, bc BK796 2⟩ (fun hHeld => ?_)
  clear hK K
  refine norm_ (a' := ?_) ?_ ?_
  rotate_left
  ·show Act.put _ (some 27) _ = _
   simp only [Act.put, List.setIfInBounds_toArray, List.set_cons_zero, List.set_cons_succ, i64_w, i32_w]
   rfl
  refine one_ (i := 4) (N := some 29) #[true, true, true, true, true, false, false] rfl rfl (by kernel_rfl) (by decide) (fun K hK => ?_)
  refine goes_ Try.func22 (by kernel_rfl) rfl #[.agg #[.int .i64 a2_0, .int .i64 a2_1, .bool a2_2]] (by rfl) rfl rfl (by (try simp only [List.map_toArray, List.map_cons, List.map_nil]); first | done | rfl | (simp only [List.length_drop, List.length_take]; rfl)) ?_
  with_reducible refine (laws_toProtest.calls a2_0 a2_1 a2_2 t847 t848 t849 _ A20.out).mono ?_
  rintro e w50 ⟨rfl, hb⟩
  refine ⟨_, rfl, ?_⟩
  replace HO800 := kr HO800 hb
  replace HO806 := kr HO806 hb
  replace HO810 := kr HO810 hb
  replace HO813 := kr HO813 hb
  replace HO816 := kr HO816 hb
  replace HO826 := kr HO826 hb
  replace HO832 := kr HO832 hb
  replace HO836 := kr HO836 hb
  replace HO839 := kr HO839 hb
  replace HO842 := kr HO842 hb
  replace BK794 := kb BK794 hb
  replace BK795 := kb BK795 hb
  replace BK796 := kb BK796 hb
  replace BK843 := kb BK843 hb
  replace HB := hs_ HB hb
  (try clear hb hb2 hk hi)
  refine hK.out _ _ ⟨bc BK843 0, bc BK843 1, bc BK843 2, bc BK843 3, bc BK843 4, bc BK843 5, bc BK843 6, bc BK843 7, bc BK843 8, bc BK795 0, bc BK795 1, bc BK795 2, bc BK796 0, bc BK796 1, bc BK796 2⟩ (fun hHeld => ?_)
  clear hK K
  refine norm_ (a' := ?_) ?_ ?_
  rotate_left
  ·show Act.put _ (some 29) _ = _
   simp only [Act.put, List.setIfInBounds_toArray, List.set_cons_zero, List.set_cons_succ, i64_w, i32_w]
   rfl
  refine one_ (i := 5) (N := some 30) #[true, true, true, true, true, true, false] rfl rfl (by kernel_rfl) (by decide) (fun K hK => ?_)
  refine goes_ Try.func23 (by kernel_rfl) rfl #[.agg #[.slice Ao38 t824.length co38, .int .i64 t827, .int .i64 t828, .int .i64 t829, .slice Ao43 t830.length co43, .bool t833, .slice Ao44 t834.length co44, .slice Ao45 t837.length co45, .slice Ao46 t840.length co46], .agg #[.int .i64 t844, .int .i64 t845, .bool t846], .agg #[.int .i64 t847, .int .i64 t848, .bool t849]] (by rfl) rfl rfl (by (try simp only [List.map_toArray, List.map_cons, List.map_nil]); first | done | rfl | (simp only [List.length_drop, List.length_take]; rfl)) ?_
  with_reducible refine (impl_OrderMatters.calls k _ _ t824 t827 t828 t829 _ _ t830 t833 _ _ t834 _ _ t837 _ _ t840 t844 t845 t846 t847 t848 t849 t850 _ ?side1 ?side2 ?side3 ?side4 ?side5 ?side6 ?side7 ?side8 ?side9 ?side10 A21.out).mono ?_
  (case side1 => exact cr HO826)
  (case side2 => exact (Kd.R_reads' HO826.out).2.1)
  (case side3 => exact cr HO832)
  (case side4 => exact (Kd.R_reads' HO832.out).2.1)
  (case side5 => exact cr HO836)
  (case side6 => exact (Kd.R_reads' HO836.out).2.1)
  (case side7 => exact cr HO839)
  (case side8 => exact (Kd.R_reads' HO839.out).2.1)
  (case side9 => exact cr HO842)
  (case side10 => exact (Kd.R_reads' HO842.out).2.1)
  rintro e w51 ⟨rfl, hb⟩
  refine ⟨_, rfl, ?_⟩
  replace HO800 := kr HO800 hb
  replace HO806 := kr HO806 hb
  replace HO810 := kr HO810 hb
  replace HO813 := kr HO813 hb
  replace HO816 := kr HO816 hb
  replace HO826 := kr HO826 hb
  replace HO832 := kr HO832 hb
  replace HO836 := kr HO836 hb
  replace HO839 := kr HO839 hb
  replace HO842 := kr HO842 hb
  replace BK794 := kb BK794 hb
  replace BK795 := kb BK795 hb
  replace BK796 := kb BK796 hb
  replace BK843 := kb BK843 hb
  replace HB := hs_ HB hb
  (try clear hb hb2 hk hi)
  refine hK.out _ _ ⟨bc BK843 0, bc BK843 1, bc BK843 2, bc BK843 3, bc BK843 4, bc BK843 5, bc BK843 6, bc BK843 7, bc BK843 8, bc BK795 0, bc BK795 1, bc BK795 2, bc BK796 0, bc BK796 1, bc BK796 2⟩ (fun hHeld => ?_)
  clear hK K
  refine norm_ (a' := ?_) ?_ ?_
  rotate_left
  ·show Act.put _ (some 30) _ = _
   simp only [Act.put, List.setIfInBounds_toArray, List.set_cons_zero, List.set_cons_succ, i64_w, i32_w]
   rfl
  refine pure_ (i := 6) (N := some 10) (v := ?_) (a' := ?_) #[true, true, true, true, true, true, true] rfl rfl (by kernel_rfl) (fun _ _ _ h => h) (Or.inl ⟨by rfl, ?_⟩) ?_ ?_
  rotate_left
  ·intro w'
   go_simp
   with_reducible rfl
  rotate_left
  ·simp only [Act.put, List.setIfInBounds_toArray, List.set_cons_zero, List.set_cons_succ, i64_w, i32_w]
   rfl
  refine done_ (by kernel_rfl) ?_
  go_upto_if 33 with (fail)
  have H := HC22.out
  clear HC22
  by_cases c52 : (t850 != t823) = true
  ·rw [if_pos c52] at H
   have c52b0 : (t850 != t823) = true := c52
   (try (have c52b1 : decide (t850 = t823) = false := by simpa using c52))
   (try (have c52b2 : (t850 == t823) = false := by simpa using c52))
   (try (have c52b3 : ¬ (t850 = t823) := by simpa using c52))
   clear c52
   (first | rw [c52b0] | rw [c52b1] | (simp only [i64_w, i32_w]; rw [c52b0]) | rw [c52b2] | skip)
   obtain rfl := Option.some.inj H
   go_wp2
   go_ret
   exact ⟨ee, bb HB⟩
  ·rw [if_neg c52] at H
   have c52b0 : (t850 != t823) = false := by simpa using c52
   (try (have c52b1 : decide (t850 = t823) = true := by simpa using c52))
   (try (have c52b2 : (t850 == t823) = true := by simpa using c52))
   clear c52
   (first | rw [c52b0] | rw [c52b1] | (simp only [i64_w, i32_w]; rw [c52b0]) | rw [c52b2] | skip)
   replace H := Option.bind_eq_some_iff.mp H
   obtain ⟨⟨t851, t854, t855, t856, t857, t860, t861, t864, t867⟩, A530, H⟩ := H
   try dsimp only at H
   have A53 := Aside0.mk A530
   clear A530
   replace H := Option.bind_eq_some_iff.mp H
   obtain ⟨t870, A540, H⟩ := H
   try dsimp only at H
   have A54 := Aside0.mk A540
   clear A540
   have HC55 := Aside0.mk H
   clear H
   try go_wp2
   replace HO800 := Aside0.mk (Kd.R_drew HO800.out)
   replace HO806 := Aside0.mk (Kd.R_drew HO806.out)
   replace HO810 := Aside0.mk (Kd.R_drew HO810.out)
   replace HO813 := Aside0.mk (Kd.R_drew HO813.out)
   replace HO816 := Aside0.mk (Kd.R_drew HO816.out)
   replace HO826 := Aside0.mk (Kd.R_drew HO826.out)
   replace HO832 := Aside0.mk (Kd.R_drew HO832.out)
   replace HO836 := Aside0.mk (Kd.R_drew HO836.out)
   replace HO839 := Aside0.mk (Kd.R_drew HO839.out)
   replace HO842 := Aside0.mk (Kd.R_drew HO842.out)
   replace BK794 := Aside0.mk (blk_drew BK794.out)
   replace BK795 := Aside0.mk (blk_drew BK795.out)
   replace BK796 := Aside0.mk (blk_drew BK796.out)
   replace BK843 := Aside0.mk (blk_drew BK843.out)
   replace HB := Aside0.mk (below_drew1 HB.out)
   refine start_ (n := 5) (S := fun w' => w'.cell? ⟨gb843, 0, none⟩ = some (.slice Ao38 t824.length co38) ∧ w'.cell? ⟨gb843, 1, none⟩ = some (.int .i64 t827) ∧ w'.cell? ⟨gb843, 2, none⟩ = some (.int .i64 t828) ∧ w'.cell? ⟨gb843, 3, none⟩ = some (.int .i64 t829) ∧ w'.cell? ⟨gb843, 4, none⟩ = some (.slice Ao43 t830.length co43) ∧ w'.cell? ⟨gb843, 5, none⟩ = some (.bool t833) ∧ w'.cell? ⟨gb843, 6, none⟩ = some (.slice Ao44 t834.length co44) ∧ w'.cell? ⟨gb843, 7, none⟩ = some (.slice Ao45 t837.length co45) ∧ w'.cell? ⟨gb843, 8, none⟩ = some (.slice Ao46 t840.length co46) ∧ w'.cell? ⟨gb794, 0, none⟩ = some (.slice A0_0 l0_0.length c0_0) ∧ w'.cell? ⟨gb794, 1, none⟩ = some (.int .i64 a0_1) ∧ w'.cell? ⟨gb794, 2, none⟩ = some (.int .i64 a0_2) ∧ w'.cell? ⟨gb794, 3, none⟩ = some (.int .i64 a0_3) ∧ w'.cell? ⟨gb794, 4, none⟩ = some (.slice A0_4 l0_4.length c0_4) ∧ w'.cell? ⟨gb794, 5, none⟩ = some (.bool a0_5) ∧ w'.cell? ⟨gb794, 6, none⟩ = some (.slice A0_6 l0_6.length c0_6) ∧ w'.cell? ⟨gb794, 7, none⟩ = some (.slice A0_7 l0_7.length c0_7) ∧ w'.cell? ⟨gb794, 8, none⟩ = some (.slice A0_8 l0_8.length c0_8)) (ds := []) #[false, false, false, false, false] (by kernel_rfl) rfl rfl ⟨bc BK843 0, bc BK843 1, bc BK843 2, bc BK843 3, bc BK843 4, bc BK843 5, bc BK843 6, bc BK843 7, bc BK843 8, bc BK794 0, bc BK794 1, bc BK794 2, bc BK794 3, bc BK794 4, bc BK794 5, bc BK794 6, bc BK794 7, bc BK794 8⟩ (fun hHeld => ?_)
   generalize w51.drew = w56 at HO800 HO806 HO810 HO813 HO816 HO826 HO832 HO836 HO839 HO842 BK794 BK795 BK796 BK843 HB hHeld ⊢
   refine take_ (i := 0) (N := some 34) (v := ?_) (a' := ?_) #[true, false, false, false, false] rfl rfl (by kernel_rfl) (fun _ _ _ h => h) (Or.inl ⟨by rfl, ?_⟩) hHeld ?_ ?_
   rotate_left
   ·rintro w' ⟨s0, s1, s2, s3, s4, s5, s6, s7, s8, s9, s10, s11, s12, s13, s14, s15, s16, s17⟩
    go_simp
    with_reducible rfl
   rotate_left
   ·simp only [Act.put, List.setIfInBounds_toArray, List.set_cons_zero, List.set_cons_succ, i64_w, i32_w]
    rfl
   refine take_ (i := 1) (N := some 35) (v := ?_) (a' := ?_) #[true, true, false, false, false] rfl rfl (by kernel_rfl) (fun _ _ _ h => h) (Or.inl ⟨by rfl, ?_⟩) hHeld ?_ ?_
   rotate_left
   ·rintro w' ⟨s0, s1, s2, s3, s4, s5, s6, s7, s8, s9, s10, s11, s12, s13, s14, s15, s16, s17⟩
    go_simp
    with_reducible rfl
   rotate_left
   ·simp only [Act.put, List.setIfInBounds_toArray, List.set_cons_zero, List.set_cons_succ, i64_w, i32_w]
    rfl
   refine one_ (i := 2) (N := some 36) #[true, true, true, false, false] rfl rfl (by kernel_rfl) (by decide) (fun K hK => ?_)
   refine goes_ Try.func13 (by kernel_rfl) rfl #[.agg #[.slice A0_0 l0_0.length c0_0, .int .i64 a0_1, .int .i64 a0_2, .int .i64 a0_3, .slice A0_4 l0_4.length c0_4, .bool a0_5, .slice A0_6 l0_6.length c0_6, .slice A0_7 l0_7.length c0_7, .slice A0_8 l0_8.length c0_8]] (by rfl) rfl rfl (by (try simp only [List.map_toArray, List.map_cons, List.map_nil]); first | done | rfl | (simp only [List.length_drop, List.length_take]; rfl)) ?_
   with_reducible refine (laws_toBook.calls k _ _ l0_0 a0_1 a0_2 a0_3 _ _ l0_4 a0_5 _ _ l0_6 _ _ l0_7 _ _ l0_8 t851 t854 t855 t856 t857 t860 t861 t864 t867 _ ?side1 ?side2 ?side3 ?side4 ?side5 ?side6 ?side7 ?side8 ?side9 ?side10 A53.out).mono ?_
   (case side1 => exact cc HR0_0 HB)
   (case side2 => exact HC0_0.out)
   (case side3 => exact cc HR0_4 HB)
   (case side4 => exact HC0_4.out)
   (case side5 => exact cc HR0_6 HB)
   (case side6 => exact HC0_6.out)
   (case side7 => exact cc HR0_7 HB)
   (case side8 => exact HC0_7.out)
   (case side9 => exact cc HR0_8 HB)
   (case side10 => exact HC0_8.out)
   rintro e w57 ⟨v852, v858, v862, v865, v868, rfl, ho0, ho1, ho2, ho3, ho4, hb⟩
   refine ⟨_, rfl, ?_⟩
   have HO853 := Aside0.mk (Kd.R_lower (Kd.R_new' (Kd.R_new' ho0 (rt HO800)) (rt HO826)) (below_size (bb HB)))
   replace HO800 := ke HO800 ho0 hb
   replace HO826 := ke HO826 ho0 hb
   have HO859 := Aside0.mk (Kd.R_lower (Kd.R_new' (Kd.R_new' (Kd.R_new' (Kd.R_new' (Kd.R_new' (Kd.R_new' ho1 (rt HO806)) (rt HO813)) (rt HO816)) (rt HO832)) (rt HO839)) (rt HO842)) (below_size (bb HB)))
   have HO863 := Aside0.mk (Kd.R_lower (Kd.R_new' (Kd.R_new' ho2 (rt HO810)) (rt HO836)) (below_size (bb HB)))
   replace HO810 := ke HO810 ho2 hb
   replace HO836 := ke HO836 ho2 hb
   have HO866 := Aside0.mk (Kd.R_lower (Kd.R_new' (Kd.R_new' (Kd.R_new' (Kd.R_new' (Kd.R_new' (Kd.R_new' ho3 (rt HO806)) (rt HO813)) (rt HO816)) (rt HO832)) (rt HO839)) (rt HO842)) (below_size (bb HB)))
   have HO869 := Aside0.mk (Kd.R_lower (Kd.R_new' (Kd.R_new' (Kd.R_new' (Kd.R_new' (Kd.R_new' (Kd.R_new' ho4 (rt HO806)) (rt HO813)) (rt HO816)) (rt HO832)) (rt HO839)) (rt HO842)) (below_size (bb HB)))
   replace HO806 := Aside0.mk (Kd.R_mono (Kd.R_told (Kd.R_told (Kd.R_told (Kd.R_old (rr HO806) hb) (Kd.R_base ho1)) (Kd.R_base ho3)) (Kd.R_base ho4)) (fun _ h_ => h_.1))
   replace HO813 := Aside0.mk (Kd.R_mono (Kd.R_told (Kd.R_told (Kd.R_told (Kd.R_old (rr HO813) hb) (Kd.R_base ho1)) (Kd.R_base ho3)) (Kd.R_base ho4)) (fun _ h_ => h_.1))
   replace HO816 := Aside0.mk (Kd.R_mono (Kd.R_told (Kd.R_told (Kd.R_told (Kd.R_old (rr HO816) hb) (Kd.R_base ho1)) (Kd.R_base ho3)) (Kd.R_base ho4)) (fun _ h_ => h_.1))
   replace HO832 := Aside0.mk (Kd.R_mono (Kd.R_told (Kd.R_told (Kd.R_told (Kd.R_old (rr HO832) hb) (Kd.R_base ho1)) (Kd.R_base ho3)) (Kd.R_base ho4)) (fun _ h_ => h_.1))
   replace HO839 := Aside0.mk (Kd.R_mono (Kd.R_told (Kd.R_told (Kd.R_told (Kd.R_old (rr HO839) hb) (Kd.R_base ho1)) (Kd.R_base ho3)) (Kd.R_base ho4)) (fun _ h_ => h_.1))
   replace HO842 := Aside0.mk (Kd.R_mono (Kd.R_told (Kd.R_told (Kd.R_told (Kd.R_old (rr HO842) hb) (Kd.R_base ho1)) (Kd.R_base ho3)) (Kd.R_base ho4)) (fun _ h_ => h_.1))
   replace BK794 := kb BK794 hb
   replace BK795 := kb BK795 hb
   replace BK796 := kb BK796 hb
   replace BK843 := kb BK843 hb
   replace HB := hs_ HB hb
   (try clear hb hb2 hk hi ho0 ho1 ho2 ho3 ho4)
   obtain ⟨Ao58, co58, eo58⟩ := Kd.R_slice HO853.out
   (first | subst eo58 | (injection eo58 with f1_ f2_ f3_; have f4_ := f1_.symm; have f5_ := f3_.symm; clear f1_ f2_ f3_; subst f4_; subst f5_))
   obtain ⟨Ao59, co59, eo59⟩ := Kd.R_slice HO859.out
   (first | subst eo59 | (injection eo59 with f1_ f2_ f3_; have f4_ := f1_.symm; have f5_ := f3_.symm; clear f1_ f2_ f3_; subst f4_; subst f5_))
   obtain ⟨Ao60, co60, eo60⟩ := Kd.R_slice HO863.out
   (first | subst eo60 | (injection eo60 with f1_ f2_ f3_; have f4_ := f1_.symm; have f5_ := f3_.symm; clear f1_ f2_ f3_; subst f4_; subst f5_))
   obtain ⟨Ao61, co61, eo61⟩ := Kd.R_slice HO866.out
   (first | subst eo61 | (injection eo61 with f1_ f2_ f3_; have f4_ := f1_.symm; have f5_ := f3_.symm; clear f1_ f2_ f3_; subst f4_; subst f5_))
   obtain ⟨Ao62, co62, eo62⟩ := Kd.R_slice HO869.out
   (first | subst eo62 | (injection eo62 with f1_ f2_ f3_; have f4_ := f1_.symm; have f5_ := f3_.symm; clear f1_ f2_ f3_; subst f4_; subst f5_))
   refine hK.out _ _ ⟨bc BK843 0, bc BK843 1, bc BK843 2, bc BK843 3, bc BK843 4, bc BK843 5, bc BK843 6, bc BK843 7, bc BK843 8, bc BK794 0, bc BK794 1, bc BK794 2, bc BK794 3, bc BK794 4, bc BK794 5, bc BK794 6, bc BK794 7, bc BK794 8⟩ (fun hHeld => ?_)
   clear hK K
   refine norm_ (a' := ?_) ?_ ?_
   rotate_left
   ·show Act.put _ (some 36) _ = _
    simp only [Act.put, List.setIfInBounds_toArray, List.set_cons_zero, List.set_cons_succ, i64_w, i32_w]
    rfl
   refine one_ (i := 3) (N := some 37) #[true, true, true, true, false] rfl rfl (by kernel_rfl) (by decide) (fun K hK => ?_)
   refine goes_ Try.func16 (by kernel_rfl) rfl #[.agg #[.slice Ao38 t824.length co38, .int .i64 t827, .int .i64 t828, .int .i64 t829, .slice Ao43 t830.length co43, .bool t833, .slice Ao44 t834.length co44, .slice Ao45 t837.length co45, .slice Ao46 t840.length co46], .agg #[.slice Ao58 t851.length co58, .int .i64 t854, .int .i64 t855, .int .i64 t856, .slice Ao59 t857.length co59, .bool t860, .slice Ao60 t861.length co60, .slice Ao61 t864.length co61, .slice Ao62 t867.length co62]] (by rfl) rfl rfl (by (try simp only [List.map_toArray, List.map_cons, List.map_nil]); first | done | rfl | (simp only [List.length_drop, List.length_take]; rfl)) ?_
   with_reducible refine (laws_eqBook.calls k _ _ t824 t827 t828 t829 _ _ t830 t833 _ _ t834 _ _ t837 _ _ t840 _ _ t851 t854 t855 t856 _ _ t857 t860 _ _ t861 _ _ t864 _ _ t867 t870 _ ?side1 ?side2 ?side3 ?side4 ?side5 ?side6 ?side7 ?side8 ?side9 ?side10 ?side11 ?side12 ?side13 ?side14 ?side15 ?side16 ?side17 ?side18 ?side19 ?side20 A54.out).mono ?_
   (case side1 => exact cr HO826)
   (case side2 => exact (Kd.R_reads' HO826.out).2.1)
   (case side3 => exact cr HO832)
   (case side4 => exact (Kd.R_reads' HO832.out).2.1)
   (case side5 => exact cr HO836)
   (case side6 => exact (Kd.R_reads' HO836.out).2.1)
   (case side7 => exact cr HO839)
   (case side8 => exact (Kd.R_reads' HO839.out).2.1)
   (case side9 => exact cr HO842)
   (case side10 => exact (Kd.R_reads' HO842.out).2.1)
   (case side11 => exact cr HO853)
   (case side12 => exact (Kd.R_reads' HO853.out).2.1)
   (case side13 => exact cr HO859)
   (case side14 => exact (Kd.R_reads' HO859.out).2.1)
   (case side15 => exact cr HO863)
   (case side16 => exact (Kd.R_reads' HO863.out).2.1)
   (case side17 => exact cr HO866)
   (case side18 => exact (Kd.R_reads' HO866.out).2.1)
   (case side19 => exact cr HO869)
   (case side20 => exact (Kd.R_reads' HO869.out).2.1)
   rintro e w63 ⟨rfl, hb⟩
   refine ⟨_, rfl, ?_⟩
   replace HO800 := kr HO800 hb
   replace HO806 := kr HO806 hb
   replace HO810 := kr HO810 hb
   replace HO813 := kr HO813 hb
   replace HO816 := kr HO816 hb
   replace HO826 := kr HO826 hb
   replace HO832 := kr HO832 hb
   replace HO836 := kr HO836 hb
   replace HO839 := kr HO839 hb
   replace HO842 := kr HO842 hb
   replace HO853 := kr HO853 hb
   replace HO859 := kr HO859 hb
   replace HO863 := kr HO863 hb
   replace HO866 := kr HO866 hb
   replace HO869 := kr HO869 hb
   replace BK794 := kb BK794 hb
   replace BK795 := kb BK795 hb
   replace BK796 := kb BK796 hb
   replace BK843 := kb BK843 hb
   replace HB := hs_ HB hb
   (try clear hb hb2 hk hi)
   refine hK.out _ _ ⟨bc BK843 0, bc BK843 1, bc BK843 2, bc BK843 3, bc BK843 4, bc BK843 5, bc BK843 6, bc BK843 7, bc BK843 8, bc BK794 0, bc BK794 1, bc BK794 2, bc BK794 3, bc BK794 4, bc BK794 5, bc BK794 6, bc BK794 7, bc BK794 8⟩ (fun hHeld => ?_)
   clear hK K
   refine norm_ (a' := ?_) ?_ ?_
   rotate_left
   ·show Act.put _ (some 37) _ = _
    simp only [Act.put, List.setIfInBounds_toArray, List.set_cons_zero, List.set_cons_succ, i64_w, i32_w]
    rfl
   refine pure_ (i := 4) (N := some 38) (v := ?_) (a' := ?_) #[true, true, true, true, true] rfl rfl (by kernel_rfl) (fun _ _ _ h => h) (Or.inl ⟨by rfl, ?_⟩) ?_ ?_
   rotate_left
   ·intro w'
    go_simp
    with_reducible rfl
   rotate_left
   ·simp only [Act.put, List.setIfInBounds_toArray, List.set_cons_zero, List.set_cons_succ, i64_w, i32_w]
    rfl
   refine done_ (by kernel_rfl) ?_
   go_upto_if 38 with (fail)
   have H := HC55.out
   clear HC55
   by_cases c64 : t870 = true
   ·subst c64
    rw [if_pos rfl] at H
    obtain rfl := Option.some.inj H
    go_wp2
    go_ret
    exact ⟨ee, bb HB⟩
   ·replace c64 := Bool.eq_false_iff.mpr c64
    subst c64
    rw [if_neg (show ¬ (false = true) by decide)] at H
    obtain rfl := Option.some.inj H
    go_wp2
    go_ret
    exact ⟨ee, bb HB⟩
end Go.Proofs.Ythfefanapneocaa.Q
namespace Go.Proofs.Ythfefanapneocaa.Opens
open Go.ChangeShapes Go.WideShapes Go.ChangeAt Go.RowKit Go.Proofs.Ythfefanapneocaa.Q Go.Proofs.YthfefanapneocaaW.PrintWords Go.Proofs.YthfefanapneocaaW.PrintLast
section
variable {H : Type} (enc : TypeId × Value → H) (P : Program) (W : World)
def Opens {α : Type} (t : TypeId) (d : Kd α) (ok : α → Prop) : Prop := ∀ (fuel : Nat) (cs : List Value) (x : DataW H × List MemPlace), DataW.trod enc P W 0 (fun _ => true) true fuel t cs = some x → ∃ a, d.K W a cs ∧ ok a
def OpensFs {α : Type} (off : Nat) (fs : List Field) (d : Kd α) (ok : α → Prop) : Prop :=
  ∀ (n : Nat) (cs : List Value) (xs : List (DataW H × List MemPlace)), (∀ (i : Nat) (f : Field), fs[i]? = some f → DataW.trod enc P W 0 (fun _ => true) true n f.type ((cs.drop f.offset).take (P.cellsOf f.type)) = xs[i]?) → xs.length = fs.length → cs.length = off + d.sz → ∃ a, d.K W a (cs.drop off) ∧ ok a
variable {enc P W}
variable {α β : Type} {t : TypeId} {d : Kd α} {d2 : Kd β} {ok : α → Prop} {ok2 : β → Prop}
theorem int {k : IntKind} (ht : P.underlying t = some (.int k)) : Opens enc P W t (Kd.int k) (fun n => (Lit.int k n).wf = true) := fun fuel cs x h => by
  obtain ⟨n, rfl, _, hw⟩ := DataW.trod_int ht h
  exact ⟨n, rfl, hw⟩
theorem bool (ht : P.underlying t = some .bool) : Opens enc P W t Kd.bool (fun _ => True) := fun fuel cs x h => by
  obtain ⟨b, rfl, _⟩ := DataW.trod_bool ht h
  exact ⟨b, rfl, trivial⟩
theorem string (ht : P.underlying t = some .string) : Opens enc P W t Kd.string (fun s => s.size ≤ maxLen) := fun fuel cs x h => by
  obtain ⟨s, rfl, _, hs⟩ := DataW.trod_string ht h
  exact ⟨s, rfl, hs⟩
theorem cells_get {w : World} {base : Nat} {a : Addr} {n : Nat} {cs : List Value} (h : w.cells? base a n = some cs) : cs.length = n ∧ ∀ i u, cs[i]? = some u → w.cell? (a.add i) = some u := by
  unfold World.cells? at h
  split at h
  · have hl := mapM_some_length h
    refine ⟨by simpa using hl, fun i u hi => ?_⟩
    have hlt : i < n := by have := (List.getElem?_eq_some_iff.mp hi).1; simp at hl; omega
    have := mapM_some_get h i i (by simp [hlt])
    rw [this, hi]
  · cases h
theorem add_add (a : Addr) (i j : Nat) : (a.add i).add j = a.add (i + j) := by
  unfold Addr.add
  by_cases hi : i = 0
  · subst hi; simp
  · by_cases hj : j = 0
    · subst hj; simp [hi]
    · simp [hi, hj]; omega
theorem slice {e : TypeId} (ht : P.underlying t = some (.slice e)) (he : Opens enc P W e d ok) (hc : P.cellsOf e = d.sz) (q : Nat) : Opens enc P W t (Kd.slice q d) (fun l => l.length ≤ maxLen ∧ ∀ x ∈ l, ok x) := fun fuel cs x h => by
  rcases DataW.trod_slice ht h with ⟨rfl, _⟩ | ⟨a, len, cap, elems, rest, n, _, rfl, _, _, hl, hm, hlen, hel, _⟩
  · exact ⟨[], ⟨none, 0, rfl, Nat.le_refl _, rfl, Nat.zero_le _, fun h => absurd h (Nat.not_lt_zero _)⟩, Nat.zero_le _, fun x hx => by cases hx⟩
  · have each : ∀ i : Fin len, ∃ p : α, ok p ∧ ∃ c, c.length = d.sz ∧ d.K W p c ∧ ∀ j u, c[j]? = some u → W.cell? (a.add (i.1 * d.sz + j)) = some u := by
      intro i
      have h1 := hel i.1 i.2
      obtain ⟨y, hy⟩ : ∃ y, elems[i.1]? = some y := ⟨elems[i.1]'(by have := i.2; omega), List.getElem?_eq_getElem (by have := i.2; omega)⟩
      rw [hy, Option.bind_eq_some_iff] at h1
      obtain ⟨c, hcs, htr⟩ := h1
      rw [hc] at hcs
      obtain ⟨p, hK, hok⟩ := he _ _ _ htr
      obtain ⟨h2, h3⟩ := cells_get hcs
      exact ⟨p, hok, c, h2, hK, fun j u hj => by rw [← add_add]; exact h3 j u hj⟩
    let f : Fin len → α := fun i => (each i).choose
    have hf : ∀ i : Fin len, ok (f i) ∧ ∃ c, c.length = d.sz ∧ d.K W (f i) c ∧ ∀ j u, c[j]? = some u → W.cell? (a.add (i.1 * d.sz + j)) = some u := fun i => (each i).choose_spec
    have hm' : len ≤ maxLen := Nat.le_trans hl hm
    refine ⟨List.ofFn f, ⟨some a, cap, by simp, by simpa using hl, by simp, by simpa [maxLen] using hm', fun _ => ⟨a, rfl, fun j p hj => ?_⟩⟩, by simpa using hm', fun x hx => ?_⟩
    · have hlt : j < len := by have := (List.getElem?_eq_some_iff.mp hj).1; simpa using this
      have : p = f ⟨j, hlt⟩ := by rw [List.getElem?_eq_getElem (by simpa using hlt)] at hj; simpa using hj.symm
      subst this
      obtain ⟨_, c, h1, h2, h3⟩ := hf ⟨j, hlt⟩
      exact ⟨c, h1, h2, h3⟩
    · obtain ⟨i, hi, rfl⟩ := List.mem_iff_getElem.mp hx
      simp only [List.getElem_ofFn]
      exact (hf _).1
theorem one {f : Field} (off : Nat) (ho : f.offset = off) (he : Opens enc P W f.type d ok) (hc : P.cellsOf f.type = d.sz) : OpensFs enc P W off [f] d ok := fun n cs xs h hx hl => by
  have h0 := h 0 f rfl
  have hz : xs.length = 1 := hx
  obtain ⟨y, rfl⟩ := List.length_eq_one_iff.mp hz
  rw [ho, hc, List.take_of_length_le (by simp; omega)] at h0
  exact he _ _ _ h0
theorem cons {f : Field} {fs : List Field} (off off2 : Nat) (ho : f.offset = off) (he : Opens enc P W f.type d ok) (hc : P.cellsOf f.type = d.sz) (h2 : off + d.sz = off2) (hr : OpensFs enc P W off2 fs d2 ok2) :
    OpensFs enc P W off (f :: fs) (Kd.pair d d2) (fun x => ok x.1 ∧ ok2 x.2) := fun n cs xs h hx hl => by
  cases xs with
  | nil => simp at hx
  | cons y ys =>
    have h0 := h 0 f rfl
    rw [ho, hc] at h0
    obtain ⟨p, hp, hok⟩ := he _ _ _ h0
    have hl' : cs.length = off + (d.sz + d2.sz) := hl
    obtain ⟨q, hq, hok2⟩ := hr n cs ys (fun i g hi => h (i + 1) g hi) (by simpa using hx) (by omega)
    refine ⟨(p, q), ⟨_, _, ?_, hp, hq⟩, hok, hok2⟩
    rw [← h2, ← List.drop_drop, List.take_append_drop]
theorem struct {fs : Array Field} (ht : P.underlying t = some (.struct fs)) (hc : P.cellsOf t = d.sz) (h : OpensFs enc P W 0 fs.toList d ok) : Opens enc P W t d ok := fun fuel cs x hx => by
  obtain ⟨xs, n, _, _, hl, hxs, hf⟩ := DataW.trod_struct ht hx
  have := h n cs xs (fun i f hi => hf i f (by simpa using hi)) (by simpa using hxs) (by omega)
  simpa using this
theorem iso {f : β → α} (g : α → β) (hg : ∀ x, f (g x) = x) (h : Opens enc P W t d ok) : Opens enc P W t (Kd.iso d f) (fun y => ok (f y)) := fun fuel cs x hx => by
  obtain ⟨p, hp, hok⟩ := h _ _ _ hx
  exact ⟨g p, by show d.K W (f (g p)) cs; rw [hg]; exact hp, by show ok (f (g p)); rw [hg]; exact hok⟩
end
theorem trod_struct_val {H : Type} {enc : TypeId × Value → H} {P : Program} {W : World} {r : Reach} {b0 : Nat} {t : TypeId} {v : Value} {fs : Array Field} {α : Type} {d : Kd α} {ok : α → Prop} {dd : DataW H} {ps : List MemPlace} (ht : P.underlying t = some (.struct fs)) (hval : Value.okWide P W r b0 t v) (hd : DataW.Trod enc P W 0 (fun _ => true) true t v dd ps) (h : Opens enc P W t d ok) :
    ∃ cs a, v = .agg cs ∧ d.K W a cs.toList ∧ ok a := by
  obtain ⟨cs, rfl, _⟩ := okWide_struct ht hval
  obtain ⟨fuel, hf⟩ := hd
  obtain ⟨a, hK, hok⟩ := h _ _ _ hf
  exact ⟨cs, a, rfl, by simpa [Value.cells] using hK, hok⟩
end Go.Proofs.Ythfefanapneocaa.Opens
namespace Go.Proofs.Ythfefanapneocaa.Q
open Go.RowKit Go.Proofs.YthfefanapneocaaW.PrintWords Go.Proofs.YthfefanapneocaaW.PrintLast Go.Proofs.YthfefanapneocaaW.PrintMore
attribute [local go_sem] max2_int min2_int max_two min_two max_three min_three max_four min_four
set_option linter.unusedVariables false
set_option linter.unusedSimpArgs false
def laws_markIntS.l0 : Nat → List Int → Int → Int → Option (Int × List Int)
 | 0, _, _, _ => none
 | k + 1, x0, x1, x5 => if x5 < (x0.length : Int) then (if 0 ≤ x5 then (laws_markIntS.l0 k (x0.set (x5 : Int).toNat x1) (wrap64 (x1 + 1)) (wrap64 (x5 + 1))) else (none)) else (some (x1, x0))
def laws_markIntS.f (k : Nat) (l0 : List Int) (a1 : Int) : Option (Int × List Int) := laws_markIntS.l0 k l0 a1 0
def laws_markRules.f (k : Nat) (a0_0 : Int) (a0_1 : Int) (a0_2 : Int) (l0_3 : List Int) (a0_4 : Bool) (a1 : Int) : Option (Int × List Int) := (laws_markIntS.f k l0_3 a1).bind fun bt455 => (some (bt455.1, bt455.2))
def laws_markText.l0 : Nat → Int → ByteArray → Option (ByteArray)
 | 0, _, _ => none
 | k + 1, x0, x3 => if x0 > 0 then ((some (([(wrap64 (48 + (Int.tmod x0 10))) % 256] : List Int) : List Int)).bind fun y447 => (if (strOfNums y447).size + x3.size ≤ 9223372036854775807 then (laws_markText.l0 k (wrap64 (Int.tdiv x0 10)) ((strOfNums y447) ++ x3)) else (none))) else (if 1 + x3.size ≤ 9223372036854775807 then (some ((⟨#[109]⟩ : ByteArray) ++ x3)) else (none))
def laws_markText.f (k : Nat) (a0 : Int) : Option (ByteArray) := if a0 ≤ 0 then (some (⟨#[109, 48]⟩ : ByteArray)) else (laws_markText.l0 k a0 (⟨#[]⟩ : ByteArray))
def laws_markTeamS.l0 : Nat → List (S139) → Int → Int → Option (Int × (List (S139)))
 | 0, _, _, _ => none
 | k + 1, x0, x1, x5 => if x5 < (x0.length : Int) then ((laws_markText.f k x1).bind fun t450 => (if 0 ≤ x5 then ((some (x0.set (x5 : Int).toNat (⟨t450, (rd_T139 x0 x5).f1, (rd_T139 x0 x5).f2⟩ : S139) : List (S139))).bind fun y451 => ((some (y451.set (x5 : Int).toNat (⟨(rd_T139 y451 x5).f0, wrap64 (x1 + 1), (rd_T139 y451 x5).f2⟩ : S139) : List (S139))).bind fun y452 => (laws_markTeamS.l0 k (y452.set (x5 : Int).toNat (⟨(rd_T139 y452 x5).f0, (rd_T139 y452 x5).f1, wrap64 ((wrap64 (x1 + 1)) + 1)⟩ : S139)) (wrap64 ((wrap64 ((wrap64 (x1 + 1)) + 1)) + 1)) (wrap64 (x5 + 1))))) else (none))) else (some (x1, x0))
def laws_markTeamS.f (k : Nat) (l0 : List (S139)) (a1 : Int) : Option (Int × (List (S139))) := laws_markTeamS.l0 k l0 a1 0
def laws_markGameS.l0 : Nat → List (S95) → Int → Int → Option (Int × (List (S95)))
 | 0, _, _, _ => none
 | k + 1, x0, x1, x5 => if x5 < (x0.length : Int) then (if 0 ≤ x5 then ((some (x0.set (x5 : Int).toNat (⟨x1, (rd_T95 x0 x5).f1, (rd_T95 x0 x5).f2, (rd_T95 x0 x5).f3, (rd_T95 x0 x5).f4⟩ : S95) : List (S95))).bind fun y457 => ((some (y457.set (x5 : Int).toNat (⟨(rd_T95 y457 x5).f0, wrap64 (x1 + 1), (rd_T95 y457 x5).f2, (rd_T95 y457 x5).f3, (rd_T95 y457 x5).f4⟩ : S95) : List (S95))).bind fun y458 => ((some (y458.set (x5 : Int).toNat (⟨(rd_T95 y458 x5).f0, (rd_T95 y458 x5).f1, wrap64 ((wrap64 (x1 + 1)) + 1), (rd_T95 y458 x5).f3, (rd_T95 y458 x5).f4⟩ : S95) : List (S95))).bind fun y459 => ((some (y459.set (x5 : Int).toNat (⟨(rd_T95 y459 x5).f0, (rd_T95 y459 x5).f1, (rd_T95 y459 x5).f2, wrap64 ((wrap64 ((wrap64 (x1 + 1)) + 1)) + 1), (rd_T95 y459 x5).f4⟩ : S95) : List (S95))).bind fun y460 => (laws_markGameS.l0 k (y460.set (x5 : Int).toNat (⟨(rd_T95 y460 x5).f0, (rd_T95 y460 x5).f1, (rd_T95 y460 x5).f2, (rd_T95 y460 x5).f3, wrap64 ((wrap64 ((wrap64 ((wrap64 (x1 + 1)) + 1)) + 1)) + 1)⟩ : S95)) (wrap64 ((wrap64 ((wrap64 ((wrap64 ((wrap64 (x1 + 1)) + 1)) + 1)) + 1)) + 1)) (wrap64 (x5 + 1))))))) else (none)) else (some (x1, x0))
def laws_markGameS.f (k : Nat) (l0 : List (S95)) (a1 : Int) : Option (Int × (List (S95))) := laws_markGameS.l0 k l0 a1 0
def laws_markBook.f (k : Nat) (l0_0 : List (S139)) (a0_1 : Int) (a0_2 : Int) (a0_3 : Int) (l0_4 : List Int) (a0_5 : Bool) (l0_6 : List (S95)) (l0_7 : List Int) (l0_8 : List Int) (a1 : Int) : Option (Int × (List (S139)) × List Int × (List (S95)) × List Int × List Int) := (laws_markTeamS.f k l0_0 a1).bind fun bt463 => ((laws_markRules.f k a0_1 a0_2 a0_3 l0_4 a0_5 bt463.1).bind fun bt465 => ((laws_markGameS.f k l0_6 bt465.1).bind fun bt467 => ((laws_markIntS.f k l0_7 bt467.1).bind fun bt469 => ((laws_markIntS.f k l0_8 bt469.1).bind fun bt471 => (some (bt471.1, bt463.2, bt465.2, bt467.2, bt469.2, bt471.2))))))
def laws_heldIntS.l0 : Nat → List Int → Int → Int → Option (Int)
 | 0, _, _, _ => none
 | k + 1, x0, x1, x5 => if x5 < (x0.length : Int) then (if 0 ≤ x5 then (if (rd x0 x5) = x1 then (laws_heldIntS.l0 k x0 (wrap64 (x1 + 1)) (wrap64 (x5 + 1))) else (some (-1))) else (none)) else (some x1)
def laws_heldIntS.f (k : Nat) (l0 : List Int) (a1 : Int) : Option (Int) := laws_heldIntS.l0 k l0 a1 0
def laws_heldRules.f (k : Nat) (a0_0 : Int) (a0_1 : Int) (a0_2 : Int) (l0_3 : List Int) (a0_4 : Bool) (a1 : Int) : Option (Int) := (laws_heldIntS.f k l0_3 a1).bind fun t482 => (if t482 < 0 then (some (-1)) else (some t482))
def laws_heldTeamS.l0 : Nat → List (S139) → Int → Int → Option (Int)
 | 0, _, _, _ => none
 | k + 1, x0, x1, x5 => if x5 < (x0.length : Int) then (if 0 ≤ x5 then ((laws_markText.f k x1).bind fun t478 => (if ((rd_T139 x0 x5).f0).toList = t478.toList then (if ((rd_T139 x0 x5).f1) = (wrap64 (x1 + 1)) then (if ((rd_T139 x0 x5).f2) = (wrap64 ((wrap64 (x1 + 1)) + 1)) then (laws_heldTeamS.l0 k x0 (wrap64 ((wrap64 ((wrap64 (x1 + 1)) + 1)) + 1)) (wrap64 (x5 + 1))) else (some (-1))) else (some (-1))) else (some (-1)))) else (none)) else (some x1)
def laws_heldTeamS.f (k : Nat) (l0 : List (S139)) (a1 : Int) : Option (Int) := laws_heldTeamS.l0 k l0 a1 0
def laws_heldTeamS.T4 : Bool × List (List Nat × List Nat) := (true, [([], []), ([], []), ([0, 1], [0, 1]), ([2], [2]), ([3], [3]), ([], []), ([5], [5]), ([4, 6], [4, 6])])
def laws_heldTeamS.B4 : List Nat := [0, 0, 3, 7, 15, 0, 32, 127]
def laws_heldGameS.l0 : Nat → List (S95) → Int → Int → Option (Int)
 | 0, _, _, _ => none
 | k + 1, x0, x1, x5 => if x5 < (x0.length : Int) then (if 0 ≤ x5 then (if ((rd_T95 x0 x5).f0) = x1 then (if ((rd_T95 x0 x5).f1) = (wrap64 (x1 + 1)) then (if ((rd_T95 x0 x5).f2) = (wrap64 ((wrap64 (x1 + 1)) + 1)) then (if ((rd_T95 x0 x5).f3) = (wrap64 ((wrap64 ((wrap64 (x1 + 1)) + 1)) + 1)) then (if ((rd_T95 x0 x5).f4) = (wrap64 ((wrap64 ((wrap64 ((wrap64 (x1 + 1)) + 1)) + 1)) + 1)) then (laws_heldGameS.l0 k x0 (wrap64 ((wrap64 ((wrap64 ((wrap64 ((wrap64 (x1 + 1)) + 1)) + 1)) + 1)) + 1)) (wrap64 (x5 + 1))) else (some (-1))) else (some (-1))) else (some (-1))) else (some (-1))) else (some (-1))) else (none)) else (some x1)
def laws_heldGameS.f (k : Nat) (l0 : List (S95)) (a1 : Int) : Option (Int) := laws_heldGameS.l0 k l0 a1 0
def laws_heldBook.f (k : Nat) (l0_0 : List (S139)) (a0_1 : Int) (a0_2 : Int) (a0_3 : Int) (l0_4 : List Int) (a0_5 : Bool) (l0_6 : List (S95)) (l0_7 : List Int) (l0_8 : List Int) (a1 : Int) : Option (Int) := (laws_heldTeamS.f k l0_0 a1).bind fun t489 => (if t489 < 0 then (some (-1)) else ((laws_heldRules.f k a0_1 a0_2 a0_3 l0_4 a0_5 t489).bind fun t490 => (if t490 < 0 then (some (-1)) else ((laws_heldGameS.f k l0_6 t490).bind fun t491 => (if t491 < 0 then (some (-1)) else ((laws_heldIntS.f k l0_7 t491).bind fun t492 => (if t492 < 0 then (some (-1)) else ((laws_heldIntS.f k l0_8 t492).bind fun t493 => (if t493 < 0 then (some (-1)) else (some t493))))))))))
end Go.Proofs.Ythfefanapneocaa.Q
