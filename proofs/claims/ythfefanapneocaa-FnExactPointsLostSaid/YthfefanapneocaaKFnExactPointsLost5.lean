/- A part of the proof of FnExactPointsLost: functions of the program, as plain functions, with the proof that the machine's call does what they say; plain lemmas; and those of the words that print.sh prints which this proof uses. No condition. -/
import Derived.Test.YthfefanapneocaaKFnExactPointsLost1
import Derived.Test.YthfefanapneocaaProg
import Derived.Below
import Derived.Deep.Draws
import Derived.Deep.AppendLies
import Derived.Maps.AppendAt
import Derived.OwnWalk
import Derived.Laws.BytesArg
import Derived.Laws.MakeOwn
import Derived.Laws.OwnMore
import Derived.Deep.OwnRows
import Derived.Tactics
import Derived.Lib.ConvBytes
import Derived.Laws.Slices
import Derived.WalkKit
import Derived.KernelRfl
import Derived.RowKit3
import Derived.Deep.LoopGhost
import Derived.Deep.QuietTactic
import Derived.BigQuiet
import Derived.WideLaws
import Derived.Deep.DeepCutAuto
import Derived.Deep.CutBlock
import Derived.Deep.RegionHeld3
import Derived.Laws.Rows
import Derived.Lib.AppendStr
import Derived.ArgAppend
import Derived.Laws.IdiomCopy
import Derived.OrdersHeld
import Derived.Laws.BitsLemmas
import Derived.RowKit
import Derived.WalkSpells
import Derived.Shelf.Strings.Builder1
import Derived.Shelf.Strings.Builder2
import Derived.Shelf.Small.Bits
import Derived.Shelf.Strconv.Itoa0
import Derived.Ground.Names2Prog
import Derived.Shelf.Slices.Clone
import Derived.Shelf.Slices.SearchI
import Derived.Ground.SlgnProg
import Derived.Shelf.SlicesE.Clone
import Derived.Lib.AppendIntMem
import Derived.Laws.StructEq
import Derived.Test.YthfefanapneocaaKFnExactPointsLost4
section
namespace Go.Proofs.Ythfefanapneocaa.Q
open Go.RowKit Go.Proofs.YthfefanapneocaaW.PrintWords Go.Proofs.YthfefanapneocaaW.PrintLast Go.Proofs.YthfefanapneocaaW.PrintMore
attribute [local go_sem] max2_int min2_int max_two min_two max_three min_three max_four min_four
set_option linter.unusedVariables false
set_option linter.unusedSimpArgs false
set_option maxRecDepth 100000
set_option maxHeartbeats 8000000
mutual
def impl_Withdraw.j0 : Nat → Int → Int → Bool → List (S139) → Int → Int → Int → List Int → Bool → List (S95) → List Int → List Int → Option ((List (S139)) × Int × Int × Int × List Int × Bool × (List (S95)) × List Int × List Int × Bool)
 | 0, _, _, _, _, _, _, _, _, _, _, _, _ => none
 | k + 1, x1, x2, x24, x911000, x911001, x911002, x911003, x911004, x911005, x911006, x911007, x911008 => if x24 = true then (some (([] : List (S139)), 0, 0, 0, ([] : List Int), false, ([] : List (S95)), ([] : List Int), ([] : List Int), false)) else ((impl_Book_copied.f x911000 x911001 x911002 x911003 x911004 x911005 x911006 x911007 x911008).bind fun bt915 => (impl_Withdraw.l0 k x1 x2 (bt915.2.2.2.2.2.2.1.length : Int) 0 bt915.1 bt915.2.1 bt915.2.2.1 bt915.2.2.2.1 bt915.2.2.2.2.1 bt915.2.2.2.2.2.1 bt915.2.2.2.2.2.2.1 bt915.2.2.2.2.2.2.2.1 bt915.2.2.2.2.2.2.2.2))
def impl_Withdraw.l0 : Nat → Int → Int → Int → Int → List (S139) → Int → Int → Int → List Int → Bool → List (S95) → List Int → List Int → Option ((List (S139)) × Int × Int × Int × List Int × Bool × (List (S95)) × List Int × List Int × Bool)
 | 0, _, _, _, _, _, _, _, _, _, _, _, _, _ => none
 | k + 1, x1, x2, x30, x31, x935000, x935001, x935002, x935003, x935004, x935005, x935006, x935007, x935008 => if x31 < x30 then (if 0 ≤ x31 then (if x31 < (x935006.length : Int) then ((impl_plays.f ((rd_T95 x935006 x31).f0) ((rd_T95 x935006 x31).f1) ((rd_T95 x935006 x31).f2) ((rd_T95 x935006 x31).f3) ((rd_T95 x935006 x31).f4) x1).bind fun t937 => (if t937 = true then (if x2 = 1 then (impl_Withdraw.l0 k x1 x2 x30 (wrap64 (x31 + 1)) x935000 x935001 x935002 x935003 x935004 x935005 (x935006.set (x31 : Int).toNat (⟨(rd_T95 x935006 x31).f0, (rd_T95 x935006 x31).f1, 0, 0, 4⟩ : S95)) x935007 x935008) else ((impl_IsOpen.f ((rd_T95 x935006 x31).f0) ((rd_T95 x935006 x31).f1) ((rd_T95 x935006 x31).f2) ((rd_T95 x935006 x31).f3) ((rd_T95 x935006 x31).f4)).bind fun t939 => (if t939 = true then ((impl_awarded.f ((rd_T95 x935006 x31).f0) ((rd_T95 x935006 x31).f1) ((rd_T95 x935006 x31).f2) ((rd_T95 x935006 x31).f3) ((rd_T95 x935006 x31).f4) (wrap64 ((wrap64 (((rd_T95 x935006 x31).f0) + ((rd_T95 x935006 x31).f1))) - x1))).bind fun bt940 => (impl_Withdraw.l0 k x1 x2 x30 (wrap64 (x31 + 1)) x935000 x935001 x935002 x935003 x935004 x935005 (x935006.set (x31 : Int).toNat (⟨bt940.1, bt940.2.1, bt940.2.2.1, bt940.2.2.2.1, bt940.2.2.2.2⟩ : S95)) x935007 x935008)) else (impl_Withdraw.l0 k x1 x2 x30 (wrap64 (x31 + 1)) x935000 x935001 x935002 x935003 x935004 x935005 x935006 x935007 x935008)))) else (impl_Withdraw.l0 k x1 x2 x30 (wrap64 (x31 + 1)) x935000 x935001 x935002 x935003 x935004 x935005 x935006 x935007 x935008))) else (none)) else (none)) else (some (x935000, x935001, x935002, x935003, x935004, x935005, x935006, x935007, x935008, true))
end
def impl_Withdraw.f (k : Nat) (l0_0 : List (S139)) (a0_1 : Int) (a0_2 : Int) (a0_3 : Int) (l0_4 : List Int) (a0_5 : Bool) (l0_6 : List (S95)) (l0_7 : List Int) (l0_8 : List Int) (a1 : Int) (a2 : Int) : Option ((List (S139)) × Int × Int × Int × List Int × Bool × (List (S95)) × List Int × List Int × Bool) := (impl_BookOk.f k l0_0 a0_1 a0_2 a0_3 l0_4 a0_5 l0_6 l0_7 l0_8).bind fun t912 => (if t912 = true then ((impl_isTeam.f l0_0 a0_1 a0_2 a0_3 l0_4 a0_5 l0_6 l0_7 l0_8 a1).bind fun t913 => (if t913 = true then ((impl_RuleName.f a2).bind fun t914 => (impl_Withdraw.j0 k a1 a2 (t914.toList == ([] : List UInt8)) l0_0 a0_1 a0_2 a0_3 l0_4 a0_5 l0_6 l0_7 l0_8)) else (impl_Withdraw.j0 k a1 a2 true l0_0 a0_1 a0_2 a0_3 l0_4 a0_5 l0_6 l0_7 l0_8))) else (impl_Withdraw.j0 k a1 a2 true l0_0 a0_1 a0_2 a0_3 l0_4 a0_5 l0_6 l0_7 l0_8))
def impl_Withdraw.T11 : Bool × List (List Nat × List Nat) := (true, [([], []), ([0], [0]), ([], []), ([], []), ([], []), ([4], [4]), ([], []), ([6], [6]), ([5, 7], [5, 7]), ([], []), ([8, 9], [8, 9]), ([3, 10], [3, 10]), ([1, 2, 0, 1, 2, 3, 4, 5, 6, 7, 8, 9, 10, 11], [1, 2]), ([12, 11, 11, 0, 1, 2, 3, 4, 5, 6, 7, 8, 9, 10, 11], [11, 12])])
def impl_Withdraw.B11 : List Nat := [0, 1, 0, 0, 0, 16, 0, 64, 240, 0, 1008, 2040, 4095, 8191]
theorem impl_Withdraw.tab11 : rtab .any (opsOf Try.f25 11) = impl_Withdraw.T11 := by kernel_rfl
theorem impl_Withdraw.bits11 : waitsOk impl_Withdraw.T11.2 impl_Withdraw.B11 = true := by kernel_rfl
theorem impl_Withdraw.calls (k : Nat) (A0_0 : Option Addr) (c0_0 : Nat) (l0_0 : List (S139)) (a0_1 : Int) (a0_2 : Int) (a0_3 : Int) (A0_4 : Option Addr) (c0_4 : Nat) (l0_4 : List Int) (a0_5 : Bool) (A0_6 : Option Addr) (c0_6 : Nat) (l0_6 : List (S95)) (A0_7 : Option Addr) (c0_7 : Nat) (l0_7 : List Int) (A0_8 : Option Addr) (c0_8 : Nat) (l0_8 : List Int) (a1 : Int) (a2 : Int) (r1 : List (S139)) (r2 : Int) (r3 : Int) (r4 : Int) (r5 : List Int) (r6 : Bool) (r7 : List (S95)) (r8 : List Int) (r9 : List Int) (r10 : Bool) (w : World) (hr0_0 : Kd.C k139 w A0_0 l0_0.length l0_0) (hc0_0 : l0_0.length ≤ c0_0) (hr0_4 : Kd.C (Kd.int .i64) w A0_4 l0_4.length l0_4) (hc0_4 : l0_4.length ≤ c0_4) (hr0_6 : Kd.C k95 w A0_6 l0_6.length l0_6) (hc0_6 : l0_6.length ≤ c0_6) (hr0_7 : Kd.C (Kd.int .i64) w A0_7 l0_7.length l0_7) (hc0_7 : l0_7.length ≤ c0_7) (hr0_8 : Kd.C (Kd.int .i64) w A0_8 l0_8.length l0_8) (hc0_8 : l0_8.length ≤ c0_8) (h : impl_Withdraw.f k l0_0 a0_1 a0_2 a0_3 l0_4 a0_5 l0_6 l0_7 l0_8 a1 a2 = some (r1, r2, r3, r4, r5, r6, r7, r8, r9, r10)) :
  Calls Try.prog 25 #[.agg #[.slice A0_0 l0_0.length c0_0, .int .i64 a0_1, .int .i64 a0_2, .int .i64 a0_3, .slice A0_4 l0_4.length c0_4, .bool a0_5, .slice A0_6 l0_6.length c0_6, .slice A0_7 l0_7.length c0_7, .slice A0_8 l0_8.length c0_8], .int .i64 a1, .int .i64 a2] w fun e w' => ∃ v0_ v4_ v6_ v7_ v8_ : Value, e = .returned (.tuple #[.agg #[v0_, .int .i64 r2, .int .i64 r3, .int .i64 r4, v4_, .bool r6, v6_, v7_, v8_], .bool r10]) ∧ Kd.R k139 139 w' w.heap.size (fun _ => True) v0_ r1 ∧ Kd.R (Kd.int .i64) 3 w' w.heap.size (fun k_ => some k_ ≠ (v7_ : Value).ownBlock ∧ some k_ ≠ (v8_ : Value).ownBlock) v4_ r5 ∧ Kd.R k95 95 w' w.heap.size (fun _ => True) v6_ r7 ∧ Kd.R (Kd.int .i64) 3 w' w.heap.size (fun k_ => some k_ ≠ (v4_ : Value).ownBlock ∧ some k_ ≠ (v8_ : Value).ownBlock) v7_ r8 ∧ Kd.R (Kd.int .i64) 3 w' w.heap.size (fun k_ => some k_ ≠ (v4_ : Value).ownBlock ∧ some k_ ≠ (v7_ : Value).ownBlock) v8_ r9 ∧ Below w.heap.size w w' := by
 have hu36 := Try.underlying36
 have hu95 := Try.underlying95
 have HR0_0 := dk hr0_0
 have HC0_0 := dk hc0_0
 clear hr0_0 hc0_0
 have HR0_4 := dk hr0_4
 have HC0_4 := dk hc0_4
 clear hr0_4 hc0_4
 have HR0_6 := dk hr0_6
 have HC0_6 := dk hc0_6
 clear hr0_6 hc0_6
 have HR0_7 := dk hr0_7
 have HC0_7 := dk hc0_7
 clear hr0_7 hc0_7
 have HR0_8 := dk hr0_8
 have HC0_8 := dk hc0_8
 clear hr0_8 hc0_8
 have HB := dk (Below.refl w.heap.size w)
 have H : ((impl_BookOk.f k l0_0 a0_1 a0_2 a0_3 l0_4 a0_5 l0_6 l0_7 l0_8).bind fun t912 => (if t912 = true then ((impl_isTeam.f l0_0 a0_1 a0_2 a0_3 l0_4 a0_5 l0_6 l0_7 l0_8 a1).bind fun t913 => (if t913 = true then ((impl_RuleName.f a2).bind fun t914 => (impl_Withdraw.j0 k a1 a2 (t914.toList == ([] : List UInt8)) l0_0 a0_1 a0_2 a0_3 l0_4 a0_5 l0_6 l0_7 l0_8)) else (impl_Withdraw.j0 k a1 a2 true l0_0 a0_1 a0_2 a0_3 l0_4 a0_5 l0_6 l0_7 l0_8))) else (impl_Withdraw.j0 k a1 a2 true l0_0 a0_1 a0_2 a0_3 l0_4 a0_5 l0_6 l0_7 l0_8))) = some (r1, r2, r3, r4, r5, r6, r7, r8, r9, r10) := h
 clear h
 have HC4 := dk H
 clear H
 go_enter Try.func25, Try.ntmps25
 go_upto_region 1 with (first | ((with_reducible refine gate_dst (N := 3) rfl ?_); refine bx (N := 3) (cs := #[.slice A0_0 l0_0.length c0_0, .int .i64 a0_1, .int .i64 a0_2, .int .i64 a0_3, .slice A0_4 l0_4.length c0_4, .bool a0_5, .slice A0_6 l0_6.length c0_6, .slice A0_7 l0_7.length c0_7, .slice A0_8 l0_8.length c0_8]) (t := 36) ?_; intro gb910 hg w5 hbox hb; have BK910 := dk (hbox); have GW910 := gs hg HB; have GE910 := gs hg HB; replace HB := hs_ HB hb; clear hb hbox hg) | ((with_reducible refine gate_dst (N := 6) rfl ?_); refine bx (N := 6) (cs := #[.slice none 0 0, .int .i64 0, .int .i64 0, .int .i64 0, .slice none 0 0, .bool false, .slice none 0 0, .slice none 0 0, .slice none 0 0]) (t := 36) ?_; intro gb911 hg w6 hbox hb; have BK911 := dk (hbox); have GW911 := gs hg HB; have GE911 := gs hg HB; replace HB := hs_ HB hb; have NB910_911 := gn hg BK910; have NB911_910 := gm hg BK910; replace BK910 := kb BK910 hb; clear hb hbox hg))
 (try simp only [Act.put, List.setIfInBounds_toArray, List.set_cons_zero, List.set_cons_succ])
 go_cut [24] (fun v24 wc => ∃ (kq : Nat) (x24_3 : Bool), v24 = .bool x24_3 ∧ Aside0 (impl_Withdraw.j0 kq a1 a2 x24_3 l0_0 a0_1 a0_2 a0_3 l0_4 a0_5 l0_6 l0_7 l0_8 = some (r1, r2, r3, r4, r5, r6, r7, r8, r9, r10)) ∧ Aside0 (kq ≤ k) ∧ Aside0 (wc.heap[gb910]? = some (.cells #[(.slice A0_0 l0_0.length c0_0), .int .i64 a0_1, .int .i64 a0_2, .int .i64 a0_3, (.slice A0_4 l0_4.length c0_4), .bool a0_5, (.slice A0_6 l0_6.length c0_6), (.slice A0_7 l0_7.length c0_7), (.slice A0_8 l0_8.length c0_8)] 36 (0, 0))) ∧ Aside0 (wc.heap[gb911]? = some (.cells #[(.slice none 0 0), .int .i64 0, .int .i64 0, .int .i64 0, (.slice none 0 0), .bool false, (.slice none 0 0), (.slice none 0 0), (.slice none 0 0)] 36 (0, 0))) ∧ Aside0 (Below w.heap.size w wc))
 case first =>
  have H := HC4.out
  clear HC4
  replace H := Option.bind_eq_some_iff.mp H
  obtain ⟨t912, A70, H⟩ := H
  replace H : (if t912 = true then ((impl_isTeam.f l0_0 a0_1 a0_2 a0_3 l0_4 a0_5 l0_6 l0_7 l0_8 a1).bind fun t913 => (if t913 = true then ((impl_RuleName.f a2).bind fun t914 => (impl_Withdraw.j0 k a1 a2 (t914.toList == ([] : List UInt8)) l0_0 a0_1 a0_2 a0_3 l0_4 a0_5 l0_6 l0_7 l0_8)) else (impl_Withdraw.j0 k a1 a2 true l0_0 a0_1 a0_2 a0_3 l0_4 a0_5 l0_6 l0_7 l0_8))) else (impl_Withdraw.j0 k a1 a2 true l0_0 a0_1 a0_2 a0_3 l0_4 a0_5 l0_6 l0_7 l0_8)) = some (r1, r2, r3, r4, r5, r6, r7, r8, r9, r10) := H
  have A7 := dk A70
  clear A70
  by_cases c8 : t912 = true
  ·subst c8
   have H1 : ((impl_isTeam.f l0_0 a0_1 a0_2 a0_3 l0_4 a0_5 l0_6 l0_7 l0_8 a1).bind fun t913 => (if t913 = true then ((impl_RuleName.f a2).bind fun t914 => (impl_Withdraw.j0 k a1 a2 (t914.toList == ([] : List UInt8)) l0_0 a0_1 a0_2 a0_3 l0_4 a0_5 l0_6 l0_7 l0_8)) else (impl_Withdraw.j0 k a1 a2 true l0_0 a0_1 a0_2 a0_3 l0_4 a0_5 l0_6 l0_7 l0_8))) = some (r1, r2, r3, r4, r5, r6, r7, r8, r9, r10) := by rw [if_pos rfl] at H; exact H
   clear H
   have H := H1
   clear H1
   replace H := Option.bind_eq_some_iff.mp H
   obtain ⟨t913, A90, H⟩ := H
   replace H : (if t913 = true then ((impl_RuleName.f a2).bind fun t914 => (impl_Withdraw.j0 k a1 a2 (t914.toList == ([] : List UInt8)) l0_0 a0_1 a0_2 a0_3 l0_4 a0_5 l0_6 l0_7 l0_8)) else (impl_Withdraw.j0 k a1 a2 true l0_0 a0_1 a0_2 a0_3 l0_4 a0_5 l0_6 l0_7 l0_8)) = some (r1, r2, r3, r4, r5, r6, r7, r8, r9, r10) := H
   have A9 := dk A90
   clear A90
   by_cases c10 : t913 = true
   ·subst c10
    have H1 : ((impl_RuleName.f a2).bind fun t914 => (impl_Withdraw.j0 k a1 a2 (t914.toList == ([] : List UInt8)) l0_0 a0_1 a0_2 a0_3 l0_4 a0_5 l0_6 l0_7 l0_8)) = some (r1, r2, r3, r4, r5, r6, r7, r8, r9, r10) := by rw [if_pos rfl] at H; exact H
    clear H
    have H := H1
    clear H1
    replace H := Option.bind_eq_some_iff.mp H
    obtain ⟨t914, A110, H⟩ := H
    replace H : (impl_Withdraw.j0 k a1 a2 (t914.toList == ([] : List UInt8)) l0_0 a0_1 a0_2 a0_3 l0_4 a0_5 l0_6 l0_7 l0_8) = some (r1, r2, r3, r4, r5, r6, r7, r8, r9, r10) := H
    have A11 := dk A110
    clear A110
    have H' := dk H
    clear H
    have hnb12 := NB910_911.out
    have hnc12 := NB911_910.out
    have ⟨z13_0, z13_1, z13_2, z13_3, z13_4, z13_5, z13_6, z13_7, z13_8, v13_0, v13_1, v13_2, v13_3, v13_4, v13_5, v13_6, v13_7, v13_8⟩ := rz9 BK910
    go_wp2_with (first | ((with_reducible refine gate_callee (f := 61) rfl ?_); refine gl (some 12) Try.func61 #[.agg #[.slice A0_0 l0_0.length c0_0, .int .i64 a0_1, .int .i64 a0_2, .int .i64 a0_3, .slice A0_4 l0_4.length c0_4, .bool a0_5, .slice A0_6 l0_6.length c0_6, .slice A0_7 l0_7.length c0_7, .slice A0_8 l0_8.length c0_8]] ?_; (with_reducible refine (impl_BookOk.calls k _ _ l0_0 a0_1 a0_2 a0_3 _ _ l0_4 a0_5 _ _ l0_6 _ _ l0_7 _ _ l0_8 true _ ?side1 ?side2 ?side3 ?side4 ?side5 ?side6 ?side7 ?side8 ?side9 ?side10 A7.out).mono ?_); (case side1 => exact cc HR0_0 HB); (case side2 => exact HC0_0.out); (case side3 => exact cc HR0_4 HB); (case side4 => exact HC0_4.out); (case side5 => exact cc HR0_6 HB); (case side6 => exact HC0_6.out); (case side7 => exact cc HR0_7 HB); (case side8 => exact HC0_7.out); (case side9 => exact cc HR0_8 HB); (case side10 => exact HC0_8.out); rintro e w14 ⟨rfl, hb⟩; refine ⟨_, rfl, ?_⟩; replace BK910 := kb BK910 hb; replace BK911 := kb BK911 hb; replace HB := hs_ HB hb; (try clear hb hb2 hk hi); have ⟨z15_0, z15_1, z15_2, z15_3, z15_4, z15_5, z15_6, z15_7, z15_8, v15_0, v15_1, v15_2, v15_3, v15_4, v15_5, v15_6, v15_7, v15_8⟩ := rz9 BK910) | (go_at_call 78; (with_reducible refine (impl_isTeam.calls _ _ l0_0 a0_1 a0_2 a0_3 _ _ l0_4 a0_5 _ _ l0_6 _ _ l0_7 _ _ l0_8 a1 true _ ?side1 ?side2 ?side3 ?side4 ?side5 ?side6 ?side7 ?side8 ?side9 ?side10 A9.out).mono ?_); (case side1 => exact cc HR0_0 HB); (case side2 => exact HC0_0.out); (case side3 => exact cc HR0_4 HB); (case side4 => exact HC0_4.out); (case side5 => exact cc HR0_6 HB); (case side6 => exact HC0_6.out); (case side7 => exact cc HR0_7 HB); (case side8 => exact HC0_7.out); (case side9 => exact cc HR0_8 HB); (case side10 => exact HC0_8.out); rintro e w16 ⟨rfl, hb⟩; replace BK910 := kb BK910 hb; replace BK911 := kb BK911 hb; replace HB := hs_ HB hb; (try clear hb hb2 hk hi)) | (go_at_call 79; (with_reducible refine (impl_RuleName.calls a2 t914 _ A11.out).mono ?_); rintro e w' ⟨rfl, ⟨nd, rfl⟩⟩))
    go_meet
    case rel => exact ⟨_, ((t914.toList == ([] : List UInt8))), e2_, H', ⟨by first | omega | exact Nat.le_refl _⟩, ⟨bk BK910⟩, ⟨bk BK911⟩, ⟨bb HB⟩⟩
   ·replace c10 := Bool.eq_false_iff.mpr c10
    subst c10
    have H1 : (impl_Withdraw.j0 k a1 a2 true l0_0 a0_1 a0_2 a0_3 l0_4 a0_5 l0_6 l0_7 l0_8) = some (r1, r2, r3, r4, r5, r6, r7, r8, r9, r10) := by rw [if_neg (show ¬ (false = true) by decide)] at H; exact H
    clear H
    have H := H1
    clear H1
    have H' := dk H
    clear H
    have hnb17 := NB910_911.out
    have hnc17 := NB911_910.out
    have ⟨z18_0, z18_1, z18_2, z18_3, z18_4, z18_5, z18_6, z18_7, z18_8, v18_0, v18_1, v18_2, v18_3, v18_4, v18_5, v18_6, v18_7, v18_8⟩ := rz9 BK910
    go_wp2_with (first | ((with_reducible refine gate_callee (f := 61) rfl ?_); refine gl (some 12) Try.func61 #[.agg #[.slice A0_0 l0_0.length c0_0, .int .i64 a0_1, .int .i64 a0_2, .int .i64 a0_3, .slice A0_4 l0_4.length c0_4, .bool a0_5, .slice A0_6 l0_6.length c0_6, .slice A0_7 l0_7.length c0_7, .slice A0_8 l0_8.length c0_8]] ?_; (with_reducible refine (impl_BookOk.calls k _ _ l0_0 a0_1 a0_2 a0_3 _ _ l0_4 a0_5 _ _ l0_6 _ _ l0_7 _ _ l0_8 true _ ?side1 ?side2 ?side3 ?side4 ?side5 ?side6 ?side7 ?side8 ?side9 ?side10 A7.out).mono ?_); (case side1 => exact cc HR0_0 HB); (case side2 => exact HC0_0.out); (case side3 => exact cc HR0_4 HB); (case side4 => exact HC0_4.out); (case side5 => exact cc HR0_6 HB); (case side6 => exact HC0_6.out); (case side7 => exact cc HR0_7 HB); (case side8 => exact HC0_7.out); (case side9 => exact cc HR0_8 HB); (case side10 => exact HC0_8.out); rintro e w19 ⟨rfl, hb⟩; refine ⟨_, rfl, ?_⟩; replace BK910 := kb BK910 hb; replace BK911 := kb BK911 hb; replace HB := hs_ HB hb; (try clear hb hb2 hk hi); have ⟨z20_0, z20_1, z20_2, z20_3, z20_4, z20_5, z20_6, z20_7, z20_8, v20_0, v20_1, v20_2, v20_3, v20_4, v20_5, v20_6, v20_7, v20_8⟩ := rz9 BK910) | (go_at_call 78; (with_reducible refine (impl_isTeam.calls _ _ l0_0 a0_1 a0_2 a0_3 _ _ l0_4 a0_5 _ _ l0_6 _ _ l0_7 _ _ l0_8 a1 false _ ?side1 ?side2 ?side3 ?side4 ?side5 ?side6 ?side7 ?side8 ?side9 ?side10 A9.out).mono ?_); (case side1 => exact cc HR0_0 HB); (case side2 => exact HC0_0.out); (case side3 => exact cc HR0_4 HB); (case side4 => exact HC0_4.out); (case side5 => exact cc HR0_6 HB); (case side6 => exact HC0_6.out); (case side7 => exact cc HR0_7 HB); (case side8 => exact HC0_7.out); (case side9 => exact cc HR0_8 HB); (case side10 => exact HC0_8.out); rintro e w21 ⟨rfl, hb⟩; replace BK910 := kb BK910 hb; replace BK911 := kb BK911 hb; replace HB := hs_ HB hb; (try clear hb hb2 hk hi)))
    go_meet
    case rel => exact ⟨_, (true), e2_, H', ⟨by first | omega | exact Nat.le_refl _⟩, ⟨bk BK910⟩, ⟨bk BK911⟩, ⟨bb HB⟩⟩
  ·replace c8 := Bool.eq_false_iff.mpr c8
   subst c8
   have H1 : (impl_Withdraw.j0 k a1 a2 true l0_0 a0_1 a0_2 a0_3 l0_4 a0_5 l0_6 l0_7 l0_8) = some (r1, r2, r3, r4, r5, r6, r7, r8, r9, r10) := by rw [if_neg (show ¬ (false = true) by decide)] at H; exact H
   clear H
   have H := H1
   clear H1
   have H' := dk H
   clear H
   have hnb22 := NB910_911.out
   have hnc22 := NB911_910.out
   have ⟨z23_0, z23_1, z23_2, z23_3, z23_4, z23_5, z23_6, z23_7, z23_8, v23_0, v23_1, v23_2, v23_3, v23_4, v23_5, v23_6, v23_7, v23_8⟩ := rz9 BK910
   go_wp2_with (first | ((with_reducible refine gate_callee (f := 61) rfl ?_); refine gl (some 12) Try.func61 #[.agg #[.slice A0_0 l0_0.length c0_0, .int .i64 a0_1, .int .i64 a0_2, .int .i64 a0_3, .slice A0_4 l0_4.length c0_4, .bool a0_5, .slice A0_6 l0_6.length c0_6, .slice A0_7 l0_7.length c0_7, .slice A0_8 l0_8.length c0_8]] ?_; (with_reducible refine (impl_BookOk.calls k _ _ l0_0 a0_1 a0_2 a0_3 _ _ l0_4 a0_5 _ _ l0_6 _ _ l0_7 _ _ l0_8 false _ ?side1 ?side2 ?side3 ?side4 ?side5 ?side6 ?side7 ?side8 ?side9 ?side10 A7.out).mono ?_); (case side1 => exact cc HR0_0 HB); (case side2 => exact HC0_0.out); (case side3 => exact cc HR0_4 HB); (case side4 => exact HC0_4.out); (case side5 => exact cc HR0_6 HB); (case side6 => exact HC0_6.out); (case side7 => exact cc HR0_7 HB); (case side8 => exact HC0_7.out); (case side9 => exact cc HR0_8 HB); (case side10 => exact HC0_8.out); rintro e w24 ⟨rfl, hb⟩; refine ⟨_, rfl, ?_⟩; replace BK910 := kb BK910 hb; replace BK911 := kb BK911 hb; replace HB := hs_ HB hb; (try clear hb hb2 hk hi)))
   go_meet
   case rel => exact ⟨_, (true), e2_, H', ⟨by first | omega | exact Nat.le_refl _⟩, ⟨bk BK910⟩, ⟨bk BK911⟩, ⟨bb HB⟩⟩
 case rest =>
  clear HC4
  (try clear c1)
  (try clear c2)
  (try clear p2)
  (try clear c6)
  (try clear c8)
  (try clear c10)
  (try clear c12)
  (try clear c17)
  (try clear c22)
  (try clear z13_0 z13_1 z13_2 z13_3 z13_4 z13_5 z13_6 z13_7 z13_8)
  (try clear z15_0 z15_1 z15_2 z15_3 z15_4 z15_5 z15_6 z15_7 z15_8)
  (try clear z18_0 z18_1 z18_2 z18_3 z18_4 z18_5 z18_6 z18_7 z18_8)
  (try clear z20_0 z20_1 z20_2 z20_3 z20_4 z20_5 z20_6 z20_7 z20_8)
  (try clear z23_0 z23_1 z23_2 z23_3 z23_4 z23_5 z23_6 z23_7 z23_8)
  (try clear v13_0 v13_1 v13_2 v13_3 v13_4 v13_5 v13_6 v13_7 v13_8)
  (try clear v15_0 v15_1 v15_2 v15_3 v15_4 v15_5 v15_6 v15_7 v15_8)
  (try clear v18_0 v18_1 v18_2 v18_3 v18_4 v18_5 v18_6 v18_7 v18_8)
  (try clear v20_0 v20_1 v20_2 v20_3 v20_4 v20_5 v20_6 v20_7 v20_8)
  (try clear v23_0 v23_1 v23_2 v23_3 v23_4 v23_5 v23_6 v23_7 v23_8)
  obtain ⟨kq, x24_3, rfl, HA, HJ3, BK910, BK911, HB⟩ := hcut
  cases kq with
  | zero => exact absurd HA.out (by simp [impl_Withdraw.j0])
  | succ kj3 =>
   have H := HA.out
   clear HA
   simp only [impl_Withdraw.j0] at H
   by_cases c25 : x24_3 = true
   ·subst c25
    have H1 : (some (([] : List (S139)), 0, 0, 0, ([] : List Int), false, ([] : List (S95)), ([] : List Int), ([] : List Int), false)) = some (r1, r2, r3, r4, r5, r6, r7, r8, r9, r10) := by rw [if_pos rfl] at H; exact H
    clear H
    have H := H1
    clear H1
    simp only [Option.some.injEq, Prod.mk.injEq] at H
    obtain ⟨rfl, rfl, rfl, rfl, rfl, rfl, rfl, rfl, rfl, rfl⟩ := H
    have hnb26 := NB911_910.out
    have hnc26 := NB910_911.out
    have ⟨z27_0, z27_1, z27_2, z27_3, z27_4, z27_5, z27_6, z27_7, z27_8, v27_0, v27_1, v27_2, v27_3, v27_4, v27_5, v27_6, v27_7, v27_8⟩ := rz9 BK911
    go_wp2
    refine bodyPost_ret (results_ct rfl _ _ gb911 36 #[.slice none 0 0, .int .i64 0, .int .i64 0, .int .i64 0, .slice none 0 0, .bool false, .slice none 0 0, .slice none 0 0, .slice none 0 0] (0, 0) _ rfl (bp BK911) Try.underlying36 rfl (by kernel_rfl)) rfl ?_
    exact ⟨_, _, _, _, _, ee, by first | exact Kd.R_nil _ _ _ _ _ | exact Kd.N_nil _ _ _ _ _ | exact Kd.V_nil _ _ _ _ _ | exact Kd.Q_nil _ _ _ _ _ | exact Kd.S_nil _ _ _ _ _, by first | exact Kd.R_nil _ _ _ _ _ | exact Kd.N_nil _ _ _ _ _ | exact Kd.V_nil _ _ _ _ _ | exact Kd.Q_nil _ _ _ _ _ | exact Kd.S_nil _ _ _ _ _, by first | exact Kd.R_nil _ _ _ _ _ | exact Kd.N_nil _ _ _ _ _ | exact Kd.V_nil _ _ _ _ _ | exact Kd.Q_nil _ _ _ _ _ | exact Kd.S_nil _ _ _ _ _, by first | exact Kd.R_nil _ _ _ _ _ | exact Kd.N_nil _ _ _ _ _ | exact Kd.V_nil _ _ _ _ _ | exact Kd.Q_nil _ _ _ _ _ | exact Kd.S_nil _ _ _ _ _, by first | exact Kd.R_nil _ _ _ _ _ | exact Kd.N_nil _ _ _ _ _ | exact Kd.V_nil _ _ _ _ _ | exact Kd.Q_nil _ _ _ _ _ | exact Kd.S_nil _ _ _ _ _, bb HB⟩
   ·replace c25 := Bool.eq_false_iff.mpr c25
    subst c25
    have H1 : ((impl_Book_copied.f l0_0 a0_1 a0_2 a0_3 l0_4 a0_5 l0_6 l0_7 l0_8).bind fun bt915 => (impl_Withdraw.l0 kj3 a1 a2 (bt915.2.2.2.2.2.2.1.length : Int) 0 bt915.1 bt915.2.1 bt915.2.2.1 bt915.2.2.2.1 bt915.2.2.2.2.1 bt915.2.2.2.2.2.1 bt915.2.2.2.2.2.2.1 bt915.2.2.2.2.2.2.2.1 bt915.2.2.2.2.2.2.2.2)) = some (r1, r2, r3, r4, r5, r6, r7, r8, r9, r10) := by rw [if_neg (show ¬ (false = true) by decide)] at H; exact H
    clear H
    have H := H1
    clear H1
    replace H := Option.bind_eq_some_iff.mp H
    obtain ⟨⟨t915, t918, t919, t920, t921, t924, t925, t928, t931⟩, A280, H⟩ := H
    replace H : (impl_Withdraw.l0 kj3 a1 a2 (t925.length : Int) 0 t915 t918 t919 t920 t921 t924 t925 t928 t931) = some (r1, r2, r3, r4, r5, r6, r7, r8, r9, r10) := H
    have A28 := dk A280
    clear A280
    have H' := dk H
    clear H
    have hnb29 := NB910_911.out
    have hnc29 := NB911_910.out
    have ⟨z30_0, z30_1, z30_2, z30_3, z30_4, z30_5, z30_6, z30_7, z30_8, v30_0, v30_1, v30_2, v30_3, v30_4, v30_5, v30_6, v30_7, v30_8⟩ := rz9 BK910
    go_wp2_with (first | ((with_reducible refine gate_callee (f := 62) rfl ?_); refine gl (some 27) Try.func62 #[.agg #[.slice A0_0 l0_0.length c0_0, .int .i64 a0_1, .int .i64 a0_2, .int .i64 a0_3, .slice A0_4 l0_4.length c0_4, .bool a0_5, .slice A0_6 l0_6.length c0_6, .slice A0_7 l0_7.length c0_7, .slice A0_8 l0_8.length c0_8]] ?_; (with_reducible refine (impl_Book_copied.calls _ _ l0_0 a0_1 a0_2 a0_3 _ _ l0_4 a0_5 _ _ l0_6 _ _ l0_7 _ _ l0_8 t915 t918 t919 t920 t921 t924 t925 t928 t931 _ ?side1 ?side2 ?side3 ?side4 ?side5 ?side6 ?side7 ?side8 ?side9 ?side10 A28.out).mono ?_); (case side1 => exact cc HR0_0 HB); (case side2 => exact HC0_0.out); (case side3 => exact cc HR0_4 HB); (case side4 => exact HC0_4.out); (case side5 => exact cc HR0_6 HB); (case side6 => exact HC0_6.out); (case side7 => exact cc HR0_7 HB); (case side8 => exact HC0_7.out); (case side9 => exact cc HR0_8 HB); (case side10 => exact HC0_8.out); rintro e w31 ⟨v916, v922, v926, v929, v932, rfl, ho0, ho1, ho2, ho3, ho4, hb⟩; refine ⟨_, rfl, ?_⟩; have HO917 := kl ho0 HB; have HO923 := kl ho1 HB; have HO927 := kl ho2 HB; have HO930 := kl ho3 HB; have HO933 := kl ho4 HB; replace BK910 := kb BK910 hb; replace BK911 := kb BK911 hb; replace HB := hs_ HB hb; (try clear hb hb2 hk hi ho0 ho1 ho2 ho3 ho4)) | ((with_reducible refine gate_dst (N := 8) rfl ?_); refine bx (N := 8) (cs := #[.slice none 0 0, .int .i64 0, .int .i64 0, .int .i64 0, .slice none 0 0, .bool false, .slice none 0 0, .slice none 0 0, .slice none 0 0]) (t := 36) ?_; intro gb934 hg w32 hbox hb; replace HO917 := kr HO917 hb; replace HO923 := kr HO923 hb; replace HO927 := kr HO927 hb; replace HO930 := kr HO930 hb; replace HO933 := kr HO933 hb; have BK934 := dk (hbox); have GW934 := gs hg HB; have GE934 := gs hg HB; replace HB := hs_ HB hb; have NB910_934 := gn hg BK910; have NB934_910 := gm hg BK910; replace BK910 := kb BK910 hb; have NB911_934 := gn hg BK911; have NB934_911 := gm hg BK911; replace BK911 := kb BK911 hb; clear hb hbox hg; obtain ⟨Ao33, co33, eo33⟩ := Kd.R_slice HO917.out; subst eo33; have hnb34 := NB934_910.out; have hnc34 := NB910_934.out; have hnb35 := NB934_911.out; have hnc35 := NB911_934.out; have ⟨z36_0, z36_1, z36_2, z36_3, z36_4, z36_5, z36_6, z36_7, z36_8, v36_0, v36_1, v36_2, v36_3, v36_4, v36_5, v36_6, v36_7, v36_8⟩ := rz9 BK934; obtain ⟨Ao37, co37, eo37⟩ := Kd.R_slice HO923.out; subst eo37; obtain ⟨Ao38, co38, eo38⟩ := Kd.R_slice HO927.out; subst eo38; obtain ⟨Ao39, co39, eo39⟩ := Kd.R_slice HO930.out; subst eo39; obtain ⟨Ao40, co40, eo40⟩ := Kd.R_slice HO933.out; subst eo40))
    go_loopg [31] kj3 (fun kq v31 w' => ∃ (x31_2 : Int) (x935006_2 : List (S95)), v31 = .int .i64 x31_2 ∧ Aside0 (impl_Withdraw.l0 kq a1 a2 (t925.length : Int) x31_2 t915 t918 t919 t920 t921 t924 x935006_2 t928 t931 = some (r1, r2, r3, r4, r5, r6, r7, r8, r9, r10)) ∧ Aside0 (kq ≤ kj3) ∧ Aside0 (Kd.R k139 139 w' w.heap.size (fun _ => True) (.slice Ao33 t915.length co33) t915) ∧ Aside0 (Kd.R (Kd.int .i64) 3 w' w.heap.size (fun k_ => nb k_ Ao39 t928.length co39 ∧ nb k_ Ao40 t931.length co40) (.slice Ao37 t921.length co37) t921) ∧ Aside0 (Kd.R k95 95 w' w.heap.size (fun _ => True) (.slice Ao38 t925.length co38) x935006_2) ∧ Aside0 (Kd.R (Kd.int .i64) 3 w' w.heap.size (fun k_ => nb k_ Ao37 t921.length co37 ∧ nb k_ Ao40 t931.length co40) (.slice Ao39 t928.length co39) t928) ∧ Aside0 (Kd.R (Kd.int .i64) 3 w' w.heap.size (fun k_ => nb k_ Ao37 t921.length co37 ∧ nb k_ Ao39 t928.length co39) (.slice Ao40 t931.length co40) t931) ∧ Aside0 (w'.heap[gb910]? = some (.cells #[(.slice A0_0 l0_0.length c0_0), .int .i64 a0_1, .int .i64 a0_2, .int .i64 a0_3, (.slice A0_4 l0_4.length c0_4), .bool a0_5, (.slice A0_6 l0_6.length c0_6), (.slice A0_7 l0_7.length c0_7), (.slice A0_8 l0_8.length c0_8)] 36 (0, 0))) ∧ Aside0 (w'.heap[gb911]? = some (.cells #[(.slice none 0 0), .int .i64 0, .int .i64 0, .int .i64 0, (.slice none 0 0), .bool false, (.slice none 0 0), (.slice none 0 0), (.slice none 0 0)] 36 (0, 0))) ∧ Aside0 (w'.heap[gb934]? = some (.cells #[(.slice Ao33 t915.length co33), .int .i64 t918, .int .i64 t919, .int .i64 t920, (.slice Ao37 t921.length co37), .bool t924, (.slice Ao38 t925.length co38), (.slice Ao39 t928.length co39), (.slice Ao40 t931.length co40)] 36 (0, 0))) ∧ Aside0 (Below w.heap.size w w'))
    case atStart => exact ⟨(0), (t925), e2_, H', ⟨Nat.le_refl _⟩, ⟨rf HO917 BK934 (fun _ hk => trivial)⟩, ⟨rf HO923 BK934 (fun _ hk => ⟨hk.1.1, hk.1.2⟩)⟩, ⟨rf HO927 BK934 (fun _ hk => trivial)⟩, ⟨rf HO930 BK934 (fun _ hk => ⟨hk.1.1, hk.1.2⟩)⟩, ⟨rf HO933 BK934 (fun _ hk => ⟨hk.1.1, hk.1.2⟩)⟩, ⟨bf NB910_934.out BK910⟩, ⟨bf NB911_934.out BK911⟩, ⟨by (with_reducible repeat (first | refine blk_drewN ?_ _ | refine blk_drew ?_ | refine blk_alloc ?_ _)); refine blk_put (cs := #[.slice Ao33 t915.length co33, .int .i64 t918, .int .i64 t919, .int .i64 t920, .slice Ao37 t921.length co37, .bool t924, .slice Ao38 t925.length co38, .slice Ao39 t928.length co39, .slice none 0 0]) ?_ 8 _ rfl; (with_reducible repeat (first | refine blk_drewN ?_ _ | refine blk_drew ?_ | refine blk_alloc ?_ _)); refine blk_put (cs := #[.slice Ao33 t915.length co33, .int .i64 t918, .int .i64 t919, .int .i64 t920, .slice Ao37 t921.length co37, .bool t924, .slice Ao38 t925.length co38, .slice none 0 0, .slice none 0 0]) ?_ 7 _ rfl; (with_reducible repeat (first | refine blk_drewN ?_ _ | refine blk_drew ?_ | refine blk_alloc ?_ _)); refine blk_put (cs := #[.slice Ao33 t915.length co33, .int .i64 t918, .int .i64 t919, .int .i64 t920, .slice Ao37 t921.length co37, .bool t924, .slice none 0 0, .slice none 0 0, .slice none 0 0]) ?_ 6 _ rfl; (with_reducible repeat (first | refine blk_drewN ?_ _ | refine blk_drew ?_ | refine blk_alloc ?_ _)); refine blk_put (cs := #[.slice Ao33 t915.length co33, .int .i64 t918, .int .i64 t919, .int .i64 t920, .slice Ao37 t921.length co37, .bool false, .slice none 0 0, .slice none 0 0, .slice none 0 0]) ?_ 5 _ rfl; (with_reducible repeat (first | refine blk_drewN ?_ _ | refine blk_drew ?_ | refine blk_alloc ?_ _)); refine blk_put (cs := #[.slice Ao33 t915.length co33, .int .i64 t918, .int .i64 t919, .int .i64 t920, .slice none 0 0, .bool false, .slice none 0 0, .slice none 0 0, .slice none 0 0]) ?_ 4 _ rfl; (with_reducible repeat (first | refine blk_drewN ?_ _ | refine blk_drew ?_ | refine blk_alloc ?_ _)); refine blk_put (cs := #[.slice Ao33 t915.length co33, .int .i64 t918, .int .i64 t919, .int .i64 0, .slice none 0 0, .bool false, .slice none 0 0, .slice none 0 0, .slice none 0 0]) ?_ 3 _ rfl; (with_reducible repeat (first | refine blk_drewN ?_ _ | refine blk_drew ?_ | refine blk_alloc ?_ _)); refine blk_put (cs := #[.slice Ao33 t915.length co33, .int .i64 t918, .int .i64 0, .int .i64 0, .slice none 0 0, .bool false, .slice none 0 0, .slice none 0 0, .slice none 0 0]) ?_ 2 _ rfl; (with_reducible repeat (first | refine blk_drewN ?_ _ | refine blk_drew ?_ | refine blk_alloc ?_ _)); refine blk_put (cs := #[.slice Ao33 t915.length co33, .int .i64 0, .int .i64 0, .int .i64 0, .slice none 0 0, .bool false, .slice none 0 0, .slice none 0 0, .slice none 0 0]) ?_ 1 _ rfl; (with_reducible repeat (first | refine blk_drewN ?_ _ | refine blk_drew ?_ | refine blk_alloc ?_ _)); refine blk_put (cs := #[.slice none 0 0, .int .i64 0, .int .i64 0, .int .i64 0, .slice none 0 0, .bool false, .slice none 0 0, .slice none 0 0, .slice none 0 0]) ?_ 0 _ rfl; (with_reducible repeat (first | refine blk_drewN ?_ _ | refine blk_drew ?_ | refine blk_alloc ?_ _)); exact BK934.out⟩, ⟨bb HB⟩⟩
    case round =>
     clear H'
     (try clear c1)
     (try clear c2)
     (try clear p2)
     (try clear c3)
     (try clear c6)
     (try clear c8)
     (try clear c10)
     (try clear c12)
     (try clear c17)
     (try clear c22)
     (try clear c25)
     (try clear c26)
     (try clear c29)
     (try clear c34)
     (try clear c35)
     (try clear z13_0 z13_1 z13_2 z13_3 z13_4 z13_5 z13_6 z13_7 z13_8)
     (try clear z15_0 z15_1 z15_2 z15_3 z15_4 z15_5 z15_6 z15_7 z15_8)
     (try clear z18_0 z18_1 z18_2 z18_3 z18_4 z18_5 z18_6 z18_7 z18_8)
     (try clear z20_0 z20_1 z20_2 z20_3 z20_4 z20_5 z20_6 z20_7 z20_8)
     (try clear z23_0 z23_1 z23_2 z23_3 z23_4 z23_5 z23_6 z23_7 z23_8)
     (try clear z27_0 z27_1 z27_2 z27_3 z27_4 z27_5 z27_6 z27_7 z27_8)
     (try clear z30_0 z30_1 z30_2 z30_3 z30_4 z30_5 z30_6 z30_7 z30_8)
     (try clear z36_0 z36_1 z36_2 z36_3 z36_4 z36_5 z36_6 z36_7 z36_8)
     (try clear v13_0 v13_1 v13_2 v13_3 v13_4 v13_5 v13_6 v13_7 v13_8)
     (try clear v15_0 v15_1 v15_2 v15_3 v15_4 v15_5 v15_6 v15_7 v15_8)
     (try clear v18_0 v18_1 v18_2 v18_3 v18_4 v18_5 v18_6 v18_7 v18_8)
     (try clear v20_0 v20_1 v20_2 v20_3 v20_4 v20_5 v20_6 v20_7 v20_8)
     (try clear v23_0 v23_1 v23_2 v23_3 v23_4 v23_5 v23_6 v23_7 v23_8)
     (try clear v27_0 v27_1 v27_2 v27_3 v27_4 v27_5 v27_6 v27_7 v27_8)
     (try clear v30_0 v30_1 v30_2 v30_3 v30_4 v30_5 v30_6 v30_7 v30_8)
     (try clear v36_0 v36_1 v36_2 v36_3 v36_4 v36_5 v36_6 v36_7 v36_8)
     (try clear p2)
     obtain ⟨x31_2, x935006_2, rfl, HA, HK2, HO_935000, HO_935004, HO_935006, HO_935007, HO_935008, BK910, BK911, BK934, HB⟩ := hrel
     have hl935006_2 := (Kd.R_reads' HO_935006.out).1
     rw [hl935006_2] at HO_935006
     (try simp only [hl935006_2] at BK910 BK911 BK934 HO_935000 HO_935004 HO_935007 HO_935008 ⊢)
     cases gk with
     | zero => exact absurd HA.out (by simp [impl_Withdraw.l0])
     | succ k2 =>
      have H := HA.out
      clear HA
      simp only [impl_Withdraw.l0] at H
      by_cases c41 : x31_2 < (t925.length : Int)
      ·rw [if_pos c41] at H
       have c41b0 : decide (x31_2 < (t925.length : Int)) = true := decide_eq_true c41
       clear c41
       by_cases c42 : 0 ≤ x31_2
       ·rw [if_pos c42] at H
        have c42b0 : decide (0 ≤ x31_2) = true := decide_eq_true c42
        clear c42
        by_cases c43 : x31_2 < (x935006_2.length : Int)
        ·rw [if_pos c43] at H
         have c43b0 : decide (x31_2 < (x935006_2.length : Int)) = true := decide_eq_true c43
         clear c43
         replace H := Option.bind_eq_some_iff.mp H
         obtain ⟨t937, A440, H⟩ := H
         replace H : (if t937 = true then (if a2 = 1 then (impl_Withdraw.l0 k2 a1 a2 (t925.length : Int) (wrap64 (x31_2 + 1)) t915 t918 t919 t920 t921 t924 (x935006_2.set (x31_2 : Int).toNat (⟨(rd_T95 x935006_2 x31_2).f0, (rd_T95 x935006_2 x31_2).f1, 0, 0, 4⟩ : S95)) t928 t931) else ((impl_IsOpen.f ((rd_T95 x935006_2 x31_2).f0) ((rd_T95 x935006_2 x31_2).f1) ((rd_T95 x935006_2 x31_2).f2) ((rd_T95 x935006_2 x31_2).f3) ((rd_T95 x935006_2 x31_2).f4)).bind fun t939 => (if t939 = true then ((impl_awarded.f ((rd_T95 x935006_2 x31_2).f0) ((rd_T95 x935006_2 x31_2).f1) ((rd_T95 x935006_2 x31_2).f2) ((rd_T95 x935006_2 x31_2).f3) ((rd_T95 x935006_2 x31_2).f4) (wrap64 ((wrap64 (((rd_T95 x935006_2 x31_2).f0) + ((rd_T95 x935006_2 x31_2).f1))) - a1))).bind fun bt940 => (impl_Withdraw.l0 k2 a1 a2 (t925.length : Int) (wrap64 (x31_2 + 1)) t915 t918 t919 t920 t921 t924 (x935006_2.set (x31_2 : Int).toNat (⟨bt940.1, bt940.2.1, bt940.2.2.1, bt940.2.2.2.1, bt940.2.2.2.2⟩ : S95)) t928 t931)) else (impl_Withdraw.l0 k2 a1 a2 (t925.length : Int) (wrap64 (x31_2 + 1)) t915 t918 t919 t920 t921 t924 x935006_2 t928 t931)))) else (impl_Withdraw.l0 k2 a1 a2 (t925.length : Int) (wrap64 (x31_2 + 1)) t915 t918 t919 t920 t921 t924 x935006_2 t928 t931)) = some (r1, r2, r3, r4, r5, r6, r7, r8, r9, r10) := H
         have A44 := dk A440
         clear A440
         by_cases c45 : t937 = true
         ·subst c45
          have H1 : (if a2 = 1 then (impl_Withdraw.l0 k2 a1 a2 (t925.length : Int) (wrap64 (x31_2 + 1)) t915 t918 t919 t920 t921 t924 (x935006_2.set (x31_2 : Int).toNat (⟨(rd_T95 x935006_2 x31_2).f0, (rd_T95 x935006_2 x31_2).f1, 0, 0, 4⟩ : S95)) t928 t931) else ((impl_IsOpen.f ((rd_T95 x935006_2 x31_2).f0) ((rd_T95 x935006_2 x31_2).f1) ((rd_T95 x935006_2 x31_2).f2) ((rd_T95 x935006_2 x31_2).f3) ((rd_T95 x935006_2 x31_2).f4)).bind fun t939 => (if t939 = true then ((impl_awarded.f ((rd_T95 x935006_2 x31_2).f0) ((rd_T95 x935006_2 x31_2).f1) ((rd_T95 x935006_2 x31_2).f2) ((rd_T95 x935006_2 x31_2).f3) ((rd_T95 x935006_2 x31_2).f4) (wrap64 ((wrap64 (((rd_T95 x935006_2 x31_2).f0) + ((rd_T95 x935006_2 x31_2).f1))) - a1))).bind fun bt940 => (impl_Withdraw.l0 k2 a1 a2 (t925.length : Int) (wrap64 (x31_2 + 1)) t915 t918 t919 t920 t921 t924 (x935006_2.set (x31_2 : Int).toNat (⟨bt940.1, bt940.2.1, bt940.2.2.1, bt940.2.2.2.1, bt940.2.2.2.2⟩ : S95)) t928 t931)) else (impl_Withdraw.l0 k2 a1 a2 (t925.length : Int) (wrap64 (x31_2 + 1)) t915 t918 t919 t920 t921 t924 x935006_2 t928 t931)))) = some (r1, r2, r3, r4, r5, r6, r7, r8, r9, r10) := by rw [if_pos rfl] at H; exact H
          clear H
          have H := H1
          clear H1
          by_cases c46 : a2 = 1
          ·rw [if_pos c46] at H
           have c46b0 : (a2 == 1) = true := beq_iff_eq.mpr c46
           have c46b1 : (a2 != 1) = false := bne_eq_false_iff_eq.mpr c46
           clear c46
           obtain ⟨y938, hy938⟩ : ∃ y_ : List (S95), y_ = (x935006_2.set (x31_2 : Int).toNat (⟨(rd_T95 x935006_2 x31_2).f0, (rd_T95 x935006_2 x31_2).f1, 0, 0, 4⟩ : S95)) := ⟨_, rfl⟩
           replace H : (impl_Withdraw.l0 k2 a1 a2 (t925.length : Int) (wrap64 (x31_2 + 1)) t915 t918 t919 t920 t921 t924 y938 t928 t931) = some (r1, r2, r3, r4, r5, r6, r7, r8, r9, r10) := by first | (rw [hy938]; with_reducible exact H) | (have H2_ := (Option.bind_some _ _).symm.trans H; rw [hy938]; with_reducible exact H2_) | (have H2_ := (Option.bind_some _ _).symm.trans H; with_reducible exact H2_) | with_reducible exact H | (rw [hy938]; exact H) | exact H
           have Ny938 := dk hy938
           clear hy938
           have H' := dk H
           clear H
           have p935 : 0 ≤ (x31_2 : Int) := oa
           have q935 : x31_2 < (x935006_2.length : Int) := oa
           obtain ⟨ad935, e935, hx935_0, hx935_1, hx935_2, hx935_3, hx935_4⟩ := at_T95 (Kd.R_reads' HO_935006.out).2.2 x31_2 p935 q935
           cases e935
           replace p935 := eq_true p935
           replace q935 := eq_true q935
           go_wp2_with (first | ((with_reducible refine gate_dst (N := 10) rfl ?_); refine bx (N := 10) (cs := #[.int .i64 0, .int .i64 0, .int .i64 0, .int .i64 0, .int .i64 0]) (t := 95) ?_; intro gb936 hg w48 hbox hb; replace HO_935000 := kr HO_935000 hb; replace HO_935004 := kr HO_935004 hb; replace HO_935006 := dk (Kd.R_below (Kd.R_elderB (rr HO_935006) gb936 (Nat.le_of_eq hg.symm)) hb); replace HO_935007 := kr HO_935007 hb; replace HO_935008 := kr HO_935008 hb; have BK936 := dk (hbox); have GW936 := gs hg HB; have GE936 := gs hg HB; replace HB := hs_ HB hb; have NB910_936 := gn hg BK910; have NB936_910 := gm hg BK910; replace BK910 := kb BK910 hb; have NB911_936 := gn hg BK911; have NB936_911 := gm hg BK911; replace BK911 := kb BK911 hb; have NB934_936 := gn hg BK934; have NB936_934 := gm hg BK934; replace BK934 := kb BK934 hb; clear hb hbox hg; have hnb49 := NB936_910.out; have hnc49 := NB910_936.out; have hnb50 := NB936_911.out; have hnc50 := NB911_936.out; have hnb51 := NB936_934.out; have hnc51 := NB934_936.out; have ⟨z52_0, z52_1, z52_2, z52_3, z52_4, v52_0, v52_1, v52_2, v52_3, v52_4⟩ := rz5 BK936) | ((with_reducible refine gate_callee (f := 80) rfl ?_); refine gl (some 39) Try.func80 #[.agg #[.int .i64 ((rd_T95 x935006_2 x31_2).f0), .int .i64 ((rd_T95 x935006_2 x31_2).f1), .int .i64 ((rd_T95 x935006_2 x31_2).f2), .int .i64 ((rd_T95 x935006_2 x31_2).f3), .int .i64 ((rd_T95 x935006_2 x31_2).f4)], .int .i64 a1] ?_; (with_reducible refine (impl_plays.calls ((rd_T95 x935006_2 x31_2).f0) ((rd_T95 x935006_2 x31_2).f1) ((rd_T95 x935006_2 x31_2).f2) ((rd_T95 x935006_2 x31_2).f3) ((rd_T95 x935006_2 x31_2).f4) a1 true _ A44.out).mono ?_); rintro e w53 ⟨rfl, hb⟩; refine ⟨_, rfl, ?_⟩; replace HO_935000 := kf HO_935000 BK936 hb; replace HO_935004 := kf HO_935004 BK936 hb; replace HO_935006 := dk (Kd.R_below (by (with_reducible repeat (first | apply Kd.R_alloc | apply Kd.R_drewN | apply Kd.R_drew)); exact (Kd.R_mono (Kd.R_far (p := ⟨gb936, 4, none⟩) (Kd.R_far (p := ⟨gb936, 3, none⟩) (Kd.R_far (p := ⟨gb936, 2, none⟩) (Kd.R_far (p := ⟨gb936, 1, none⟩) (Kd.R_far (p := ⟨gb936, 0, none⟩) (Kd.R_mono HO_935006.out (fun k_ hk => (⟨hk, hk.2⟩ : _ ∧ k_ ≠ gb936))) (fun _ hk => hk.2) (.int .i64 ((rd_T95 x935006_2 x31_2).f0))) (fun _ hk => hk.2) (.int .i64 ((rd_T95 x935006_2 x31_2).f1))) (fun _ hk => hk.2) (.int .i64 ((rd_T95 x935006_2 x31_2).f2))) (fun _ hk => hk.2) (.int .i64 ((rd_T95 x935006_2 x31_2).f3))) (fun _ hk => hk.2) (.int .i64 ((rd_T95 x935006_2 x31_2).f4))) (fun _ h_ => h_.1))) hb); replace HO_935007 := kf HO_935007 BK936 hb; replace HO_935008 := kf HO_935008 BK936 hb; replace BK910 := dk (blk_below (bf NB910_936.out BK910) hb); replace BK911 := dk (blk_below (bf NB911_936.out BK911) hb); replace BK934 := dk (blk_below (bf NB934_936.out BK934) hb); replace BK936 := dk (blk_below (g := gb936) (o := .cells #[.int .i64 ((rd_T95 x935006_2 x31_2).f0), .int .i64 ((rd_T95 x935006_2 x31_2).f1), .int .i64 ((rd_T95 x935006_2 x31_2).f2), .int .i64 ((rd_T95 x935006_2 x31_2).f3), .int .i64 ((rd_T95 x935006_2 x31_2).f4)] 95 (0, 0)) (bp BK936) hb); replace HB := hs_ HB hb; (try clear hb hb2 hk hi); have hnb54 := NB934_910.out; have hnc54 := NB910_934.out; have hnb55 := NB934_911.out; have hnc55 := NB911_934.out; have ⟨z56_0, z56_1, z56_2, z56_3, z56_4, z56_5, z56_6, z56_7, z56_8, v56_0, v56_1, v56_2, v56_3, v56_4, v56_5, v56_6, v56_7, v56_8⟩ := rz9 BK934; have ⟨z57_0, z57_1, z57_2, z57_3, z57_4, v57_0, v57_1, v57_2, v57_3, v57_4⟩ := rz5 BK936; have p47 : 0 ≤ (x31_2 : Int) := oa; have q47 : (x31_2 : Int) < ((x935006_2.length : Int) : Int) := oa; obtain ⟨go47, co47, eo47, gb47, gl47, cl47, HG47⟩ := Kd.R_form HO_935006.out (by omega); (first | cases eo47 | (injection eo47 with ea_ en_ ec_; (first | subst ea_ | (injection ea_ with ea_; subst ea_)); subst ec_; clear en_)); have GB47 := dk gb47; have GG47 := dk HG47; clear gb47 gl47 HG47; (first | simp only [add_plain] at hx935_0 | skip); (first | simp only [add_plain] at hx935_1 | skip); (first | simp only [add_plain] at hx935_2 | skip); (first | simp only [add_plain] at hx935_3 | skip); (first | simp only [add_plain] at hx935_4 | skip); obtain ⟨ce47, hcl47, hM47, hcc47, hfr47⟩ := Kd.R_elem HO_935006.out z95 (x31_2 : Int) p47 q47; obtain rfl := k95_openM hM47; have hx47_0 : w53.cell? ⟨go47, (x31_2 : Int).toNat * 5, none⟩ = some (.int .i64 ((rd_T95 x935006_2 x31_2).f0)) := hcc47 0 _ rfl; have hx47_1 : w53.cell? ⟨go47, (x31_2 : Int).toNat * 5 + 1, none⟩ = some (.int .i64 ((rd_T95 x935006_2 x31_2).f1)) := hcc47 1 _ rfl; have hx47_2 : w53.cell? ⟨go47, (x31_2 : Int).toNat * 5 + 2, none⟩ = some (.int .i64 ((rd_T95 x935006_2 x31_2).f2)) := hcc47 2 _ rfl; have hx47_3 : w53.cell? ⟨go47, (x31_2 : Int).toNat * 5 + 3, none⟩ = some (.int .i64 ((rd_T95 x935006_2 x31_2).f3)) := hcc47 3 _ rfl; have hx47_4 : w53.cell? ⟨go47, (x31_2 : Int).toNat * 5 + 4, none⟩ = some (.int .i64 ((rd_T95 x935006_2 x31_2).f4)) := hcc47 4 _ rfl; have hf47_0 : w53.frozen? ⟨go47, (x31_2 : Int).toNat * 5, none⟩ = false := hfr47 0; have hf47_1 : w53.frozen? ⟨go47, (x31_2 : Int).toNat * 5 + 1, none⟩ = false := hfr47 1; have hf47_2 : w53.frozen? ⟨go47, (x31_2 : Int).toNat * 5 + 2, none⟩ = false := hfr47 2; have hf47_3 : w53.frozen? ⟨go47, (x31_2 : Int).toNat * 5 + 3, none⟩ = false := hfr47 3; have hf47_4 : w53.frozen? ⟨go47, (x31_2 : Int).toNat * 5 + 4, none⟩ = false := hfr47 4; clear hcl47 hcc47 hfr47; (try clear hM47); replace p47 := eq_true p47; replace q47 := eq_true q47; have n_ := dk (Kd.R_mono (ok' := (fun k_ => k_ ≠ gb936)) HO_935006.out (fun k_ hk => hk.2)); clear HO_935006; have HO_935006 := n_; clear n_; have HX58 := dk (show Kd.R k95 95 w53 w.heap.size (fun k_ => k_ ≠ gb936) (.slice (some ⟨go47, 0, none⟩) x935006_2.length co38) x935006_2 from (rr HO_935006)); obtain ⟨ce58, hcl58, hM58, hcc58, hfr58⟩ := Kd.R_elem HX58.out z95 (x31_2 : Int) (oa) (by have h_ : (x31_2 : Int) < ((x935006_2.length : Int) : Int) := oa; first | exact h_ | (have e_ := (Kd.R_reads' HO_935006.out).1; omega) | simpa using h_); obtain rfl := k95_openM hM58; have HP58 := Kd.R_seg HX58.out (x31_2 : Int) (oa) (by have h_ : (x31_2 : Int) < ((x935006_2.length : Int) : Int) := oa; first | exact h_ | (have e_ := (Kd.R_reads' HO_935006.out).1; omega) | simpa using h_) (seg := [.int .i64 ((rd_T95 x935006_2 x31_2).f0), .int .i64 ((rd_T95 x935006_2 x31_2).f1), .int .i64 0, .int .i64 0, .int .i64 4]) (j := 0) hcl58 hcc58 (show 5 ≤ 5 from by decide) (x' := (⟨(rd_T95 x935006_2 x31_2).f0, (rd_T95 x935006_2 x31_2).f1, 0, 0, 4⟩ : S95)) (k95_mkM _ _ _ (⟨(rd_T95 x935006_2 x31_2).f0, (rd_T95 x935006_2 x31_2).f1, 0, 0, 4⟩ : S95) ) (fun _ hk => hk); have hx58_0 := hcc58 0 _ rfl; (try simp only [show (k95).sz = 5 from rfl, Nat.mul_one, Nat.add_zero] at hx58_0); have hf58_0 := hfr58 0; (try simp only [show (k95).sz = 5 from rfl, Nat.mul_one, Nat.add_zero] at hf58_0); have hx58_1 := hcc58 1 _ rfl; (try simp only [show (k95).sz = 5 from rfl, Nat.mul_one, Nat.add_zero] at hx58_1); have hf58_1 := hfr58 1; (try simp only [show (k95).sz = 5 from rfl, Nat.mul_one, Nat.add_zero] at hf58_1); have hx58_2 := hcc58 2 _ rfl; (try simp only [show (k95).sz = 5 from rfl, Nat.mul_one, Nat.add_zero] at hx58_2); have hf58_2 := hfr58 2; (try simp only [show (k95).sz = 5 from rfl, Nat.mul_one, Nat.add_zero] at hf58_2); have hx58_3 := hcc58 3 _ rfl; (try simp only [show (k95).sz = 5 from rfl, Nat.mul_one, Nat.add_zero] at hx58_3); have hf58_3 := hfr58 3; (try simp only [show (k95).sz = 5 from rfl, Nat.mul_one, Nat.add_zero] at hf58_3); have hx58_4 := hcc58 4 _ rfl; (try simp only [show (k95).sz = 5 from rfl, Nat.mul_one, Nat.add_zero] at hx58_4); have hf58_4 := hfr58 4; (try simp only [show (k95).sz = 5 from rfl, Nat.mul_one, Nat.add_zero] at hf58_4); clear hcl58 hcc58 hfr58; (try clear hM58)) | ((with_reducible refine gate_store (t := 95) (p := 52) rfl ?_); refine store_event (t := 95) (p := 52) (v := ?vo_w59) (w1 := (((((w53.setCell ⟨go47, (x31_2 : Int).toNat * 5, none⟩ (.int .i64 ((rd_T95 x935006_2 x31_2).f0))).setCell ⟨go47, (x31_2 : Int).toNat * 5 + 1, none⟩ (.int .i64 ((rd_T95 x935006_2 x31_2).f1))).setCell ⟨go47, (x31_2 : Int).toNat * 5 + 2, none⟩ (.int .i64 0)).setCell ⟨go47, (x31_2 : Int).toNat * 5 + 3, none⟩ (.int .i64 0)).setCell ⟨go47, (x31_2 : Int).toNat * 5 + 4, none⟩ (.int .i64 4))) ?hg ?ho ?hn ?hr ?_; (case ho => rfl); (case hg => rfl); (case hn => rfl); (case hr => first | (go_simp; done) | (go_simp; rfl)); intro w59 hw; have hg : w53.grownBy w59 (some go47) := (by rw [hw]; exact HP58.2); have hp_ : Kd.R k95 95 w59 w.heap.size (fun k_ => k_ ≠ gb936) (.slice (some ⟨go47, 0, none⟩) x935006_2.length co38) y938 := (by rw [hw, Ny938.out]; exact HP58.1); clear HP58; replace HO_935000 := dk (Kd.R_over' (v := (.slice (some ⟨go47, 0, none⟩) x935006_2.length co38)) (rr HO_935000) (Kd.R_typed HO_935006.out) (by decide) hg); replace HO_935004 := dk (Kd.R_over' (v := (.slice (some ⟨go47, 0, none⟩) x935006_2.length co38)) (rr HO_935004) (Kd.R_typed HO_935006.out) (by decide) hg); replace HO_935007 := dk (Kd.R_over' (v := (.slice (some ⟨go47, 0, none⟩) x935006_2.length co38)) (rr HO_935007) (Kd.R_typed HO_935006.out) (by decide) hg); replace HO_935008 := dk (Kd.R_over' (v := (.slice (some ⟨go47, 0, none⟩) x935006_2.length co38)) (rr HO_935008) (Kd.R_typed HO_935006.out) (by decide) hg); replace BK910 := dk (blk_grown (g := gb910) (o := .cells #[.slice A0_0 l0_0.length c0_0, .int .i64 a0_1, .int .i64 a0_2, .int .i64 a0_3, .slice A0_4 l0_4.length c0_4, .bool a0_5, .slice A0_6 l0_6.length c0_6, .slice A0_7 l0_7.length c0_7, .slice A0_8 l0_8.length c0_8] 36 (0, 0)) (bk BK910) hg (Kd.R_ne HO_935006.out BK910.out (by decide))); replace BK911 := dk (blk_grown (g := gb911) (o := .cells #[.slice none 0 0, .int .i64 0, .int .i64 0, .int .i64 0, .slice none 0 0, .bool false, .slice none 0 0, .slice none 0 0, .slice none 0 0] 36 (0, 0)) (bk BK911) hg (Kd.R_ne HO_935006.out BK911.out (by decide))); replace BK934 := dk (blk_grown (g := gb934) (o := .cells #[.slice Ao33 t915.length co33, .int .i64 t918, .int .i64 t919, .int .i64 t920, .slice Ao37 t921.length co37, .bool t924, .slice (some ⟨go47, 0, none⟩) x935006_2.length co38, .slice Ao39 t928.length co39, .slice Ao40 t931.length co40] 36 (0, 0)) (bk BK934) hg (Kd.R_ne HO_935006.out BK934.out (by decide))); replace BK936 := dk (blk_grown (g := gb936) (o := .cells #[.int .i64 ((rd_T95 x935006_2 x31_2).f0), .int .i64 ((rd_T95 x935006_2 x31_2).f1), .int .i64 ((rd_T95 x935006_2 x31_2).f2), .int .i64 ((rd_T95 x935006_2 x31_2).f3), .int .i64 ((rd_T95 x935006_2 x31_2).f4)] 95 (0, 0)) (bk BK936) hg (Kd.R_away HO_935006.out (fun _ hk => hk))); replace HO_935006 := dk (hp_); replace HB := dk (by rw [hw]; exact below_set (below_set (below_set (below_set (below_set (HB.out) GB47.out) GB47.out) GB47.out) GB47.out) GB47.out : Below w.heap.size w w59); clear hg hw hp_))
           (try simp only [← hl935006_2])
           go_roundg k2
           case measure => have := HJ3.out; have := HK2.out; omega
           case rel => exact ⟨(wrap64 (x31_2 + 1)), (y938), e2_, H', ⟨by have := HJ3.out; have := HK2.out; omega⟩, ⟨by (try simp only [hl935006_2]); (with_reducible repeat (first | apply Kd.R_alloc | apply Kd.R_drewN | apply Kd.R_drew)); exact HO_935000.out⟩, ⟨by (try simp only [hl935006_2]); (with_reducible repeat (first | apply Kd.R_alloc | apply Kd.R_drewN | apply Kd.R_drew)); exact HO_935004.out⟩, ⟨by (try simp only [hl935006_2]); (with_reducible repeat (first | apply Kd.R_alloc | apply Kd.R_drewN | apply Kd.R_drew)); exact Kd.R_mono HO_935006.out (fun _ hk => trivial)⟩, ⟨by (try simp only [hl935006_2]); (with_reducible repeat (first | apply Kd.R_alloc | apply Kd.R_drewN | apply Kd.R_drew)); exact HO_935007.out⟩, ⟨by (try simp only [hl935006_2]); (with_reducible repeat (first | apply Kd.R_alloc | apply Kd.R_drewN | apply Kd.R_drew)); exact HO_935008.out⟩, ⟨by (try simp only [hl935006_2]); (with_reducible repeat (first | refine blk_drewN ?_ _ | refine blk_drew ?_ | refine blk_alloc ?_ _)); exact BK910.out⟩, ⟨by (try simp only [hl935006_2]); (with_reducible repeat (first | refine blk_drewN ?_ _ | refine blk_drew ?_ | refine blk_alloc ?_ _)); exact BK911.out⟩, ⟨by (try simp only [hl935006_2]); (with_reducible repeat (first | refine blk_drewN ?_ _ | refine blk_drew ?_ | refine blk_alloc ?_ _)); exact BK934.out⟩, ⟨bb HB⟩⟩
          ·rw [if_neg c46] at H
           have c46b0 : (a2 == 1) = false := beq_eq_false_iff_ne.mpr c46
           have c46b1 : (a2 != 1) = true := bne_iff_ne.mpr c46
           replace H := Option.bind_eq_some_iff.mp H
           obtain ⟨t939, A600, H⟩ := H
           replace H : (if t939 = true then ((impl_awarded.f ((rd_T95 x935006_2 x31_2).f0) ((rd_T95 x935006_2 x31_2).f1) ((rd_T95 x935006_2 x31_2).f2) ((rd_T95 x935006_2 x31_2).f3) ((rd_T95 x935006_2 x31_2).f4) (wrap64 ((wrap64 (((rd_T95 x935006_2 x31_2).f0) + ((rd_T95 x935006_2 x31_2).f1))) - a1))).bind fun bt940 => (impl_Withdraw.l0 k2 a1 a2 (t925.length : Int) (wrap64 (x31_2 + 1)) t915 t918 t919 t920 t921 t924 (x935006_2.set (x31_2 : Int).toNat (⟨bt940.1, bt940.2.1, bt940.2.2.1, bt940.2.2.2.1, bt940.2.2.2.2⟩ : S95)) t928 t931)) else (impl_Withdraw.l0 k2 a1 a2 (t925.length : Int) (wrap64 (x31_2 + 1)) t915 t918 t919 t920 t921 t924 x935006_2 t928 t931)) = some (r1, r2, r3, r4, r5, r6, r7, r8, r9, r10) := H
           have A60 := dk A600
           clear A600
           by_cases c61 : t939 = true
           ·subst c61
            have H1 : ((impl_awarded.f ((rd_T95 x935006_2 x31_2).f0) ((rd_T95 x935006_2 x31_2).f1) ((rd_T95 x935006_2 x31_2).f2) ((rd_T95 x935006_2 x31_2).f3) ((rd_T95 x935006_2 x31_2).f4) (wrap64 ((wrap64 (((rd_T95 x935006_2 x31_2).f0) + ((rd_T95 x935006_2 x31_2).f1))) - a1))).bind fun bt940 => (impl_Withdraw.l0 k2 a1 a2 (t925.length : Int) (wrap64 (x31_2 + 1)) t915 t918 t919 t920 t921 t924 (x935006_2.set (x31_2 : Int).toNat (⟨bt940.1, bt940.2.1, bt940.2.2.1, bt940.2.2.2.1, bt940.2.2.2.2⟩ : S95)) t928 t931)) = some (r1, r2, r3, r4, r5, r6, r7, r8, r9, r10) := by rw [if_pos rfl] at H; exact H
            clear H
            have H := H1
            clear H1
            replace H := Option.bind_eq_some_iff.mp H
            obtain ⟨⟨t940, t941, t942, t943, t944⟩, A620, H⟩ := H
            replace H : (impl_Withdraw.l0 k2 a1 a2 (t925.length : Int) (wrap64 (x31_2 + 1)) t915 t918 t919 t920 t921 t924 (x935006_2.set (x31_2 : Int).toNat (⟨t940, t941, t942, t943, t944⟩ : S95)) t928 t931) = some (r1, r2, r3, r4, r5, r6, r7, r8, r9, r10) := H
            have A62 := dk A620
            clear A620
            obtain ⟨y945, hy945⟩ : ∃ y_ : List (S95), y_ = (x935006_2.set (x31_2 : Int).toNat (⟨t940, t941, t942, t943, t944⟩ : S95)) := ⟨_, rfl⟩
            replace H : (impl_Withdraw.l0 k2 a1 a2 (t925.length : Int) (wrap64 (x31_2 + 1)) t915 t918 t919 t920 t921 t924 y945 t928 t931) = some (r1, r2, r3, r4, r5, r6, r7, r8, r9, r10) := by first | (rw [hy945]; with_reducible exact H) | (have H2_ := (Option.bind_some _ _).symm.trans H; rw [hy945]; with_reducible exact H2_) | (have H2_ := (Option.bind_some _ _).symm.trans H; with_reducible exact H2_) | with_reducible exact H | (rw [hy945]; exact H) | exact H
            have Ny945 := dk hy945
            clear hy945
            have H' := dk H
            clear H
            have p935 : 0 ≤ (x31_2 : Int) := oa
            have q935 : x31_2 < (x935006_2.length : Int) := oa
            obtain ⟨ad935, e935, hx935_0, hx935_1, hx935_2, hx935_3, hx935_4⟩ := at_T95 (Kd.R_reads' HO_935006.out).2.2 x31_2 p935 q935
            cases e935
            replace p935 := eq_true p935
            replace q935 := eq_true q935
            try go_wp2_with (first | ((with_reducible refine gate_dst (N := 10) rfl ?_); refine bx (N := 10) (cs := #[.int .i64 0, .int .i64 0, .int .i64 0, .int .i64 0, .int .i64 0]) (t := 95) ?_; intro gb936 hg w64 hbox hb; replace HO_935000 := kr HO_935000 hb; replace HO_935004 := kr HO_935004 hb; replace HO_935006 := dk (Kd.R_below (Kd.R_elderB (rr HO_935006) gb936 (Nat.le_of_eq hg.symm)) hb); replace HO_935007 := kr HO_935007 hb; replace HO_935008 := kr HO_935008 hb; have BK936 := dk (hbox); have GW936 := gs hg HB; have GE936 := gs hg HB; replace HB := hs_ HB hb; have NB910_936 := gn hg BK910; have NB936_910 := gm hg BK910; replace BK910 := kb BK910 hb; have NB911_936 := gn hg BK911; have NB936_911 := gm hg BK911; replace BK911 := kb BK911 hb; have NB934_936 := gn hg BK934; have NB936_934 := gm hg BK934; replace BK934 := kb BK934 hb; clear hb hbox hg; have hnb65 := NB936_910.out; have hnc65 := NB910_936.out; have hnb66 := NB936_911.out; have hnc66 := NB911_936.out; have hnb67 := NB936_934.out; have hnc67 := NB934_936.out; have ⟨z68_0, z68_1, z68_2, z68_3, z68_4, v68_0, v68_1, v68_2, v68_3, v68_4⟩ := rz5 BK936) | ((with_reducible refine gate_callee (f := 80) rfl ?_); refine gl (some 39) Try.func80 #[.agg #[.int .i64 ((rd_T95 x935006_2 x31_2).f0), .int .i64 ((rd_T95 x935006_2 x31_2).f1), .int .i64 ((rd_T95 x935006_2 x31_2).f2), .int .i64 ((rd_T95 x935006_2 x31_2).f3), .int .i64 ((rd_T95 x935006_2 x31_2).f4)], .int .i64 a1] ?_; (with_reducible refine (impl_plays.calls ((rd_T95 x935006_2 x31_2).f0) ((rd_T95 x935006_2 x31_2).f1) ((rd_T95 x935006_2 x31_2).f2) ((rd_T95 x935006_2 x31_2).f3) ((rd_T95 x935006_2 x31_2).f4) a1 true _ A44.out).mono ?_); rintro e w69 ⟨rfl, hb⟩; refine ⟨_, rfl, ?_⟩; replace HO_935000 := kf HO_935000 BK936 hb; replace HO_935004 := kf HO_935004 BK936 hb; replace HO_935006 := dk (Kd.R_below (by (with_reducible repeat (first | apply Kd.R_alloc | apply Kd.R_drewN | apply Kd.R_drew)); exact (Kd.R_mono (Kd.R_far (p := ⟨gb936, 4, none⟩) (Kd.R_far (p := ⟨gb936, 3, none⟩) (Kd.R_far (p := ⟨gb936, 2, none⟩) (Kd.R_far (p := ⟨gb936, 1, none⟩) (Kd.R_far (p := ⟨gb936, 0, none⟩) (Kd.R_mono HO_935006.out (fun k_ hk => (⟨hk, hk.2⟩ : _ ∧ k_ ≠ gb936))) (fun _ hk => hk.2) (.int .i64 ((rd_T95 x935006_2 x31_2).f0))) (fun _ hk => hk.2) (.int .i64 ((rd_T95 x935006_2 x31_2).f1))) (fun _ hk => hk.2) (.int .i64 ((rd_T95 x935006_2 x31_2).f2))) (fun _ hk => hk.2) (.int .i64 ((rd_T95 x935006_2 x31_2).f3))) (fun _ hk => hk.2) (.int .i64 ((rd_T95 x935006_2 x31_2).f4))) (fun _ h_ => h_.1))) hb); replace HO_935007 := kf HO_935007 BK936 hb; replace HO_935008 := kf HO_935008 BK936 hb; replace BK910 := dk (blk_below (bf NB910_936.out BK910) hb); replace BK911 := dk (blk_below (bf NB911_936.out BK911) hb); replace BK934 := dk (blk_below (bf NB934_936.out BK934) hb); replace BK936 := dk (blk_below (g := gb936) (o := .cells #[.int .i64 ((rd_T95 x935006_2 x31_2).f0), .int .i64 ((rd_T95 x935006_2 x31_2).f1), .int .i64 ((rd_T95 x935006_2 x31_2).f2), .int .i64 ((rd_T95 x935006_2 x31_2).f3), .int .i64 ((rd_T95 x935006_2 x31_2).f4)] 95 (0, 0)) (bp BK936) hb); replace HB := hs_ HB hb; (try clear hb hb2 hk hi); have ⟨z70_0, z70_1, z70_2, z70_3, z70_4, v70_0, v70_1, v70_2, v70_3, v70_4⟩ := rz5 BK936) | ((with_reducible refine gate_callee (f := 81) rfl ?_); refine gl (some 55) Try.func81 #[.agg #[.int .i64 ((rd_T95 x935006_2 x31_2).f0), .int .i64 ((rd_T95 x935006_2 x31_2).f1), .int .i64 ((rd_T95 x935006_2 x31_2).f2), .int .i64 ((rd_T95 x935006_2 x31_2).f3), .int .i64 ((rd_T95 x935006_2 x31_2).f4)]] ?_; (with_reducible refine (impl_IsOpen.calls ((rd_T95 x935006_2 x31_2).f0) ((rd_T95 x935006_2 x31_2).f1) ((rd_T95 x935006_2 x31_2).f2) ((rd_T95 x935006_2 x31_2).f3) ((rd_T95 x935006_2 x31_2).f4) true _ A60.out).mono ?_); rintro e w71 ⟨rfl, hb⟩; refine ⟨_, rfl, ?_⟩; replace HO_935000 := kr HO_935000 hb; replace HO_935004 := kr HO_935004 hb; replace HO_935006 := kr HO_935006 hb; replace HO_935007 := kr HO_935007 hb; replace HO_935008 := kr HO_935008 hb; replace BK910 := kb BK910 hb; replace BK911 := kb BK911 hb; replace BK934 := kb BK934 hb; replace BK936 := kb BK936 hb; replace HB := hs_ HB hb; (try clear hb hb2 hk hi)))
            replace HO_935000 := dk (Kd.R_drew HO_935000.out)
            replace HO_935004 := dk (Kd.R_drew HO_935004.out)
            replace HO_935006 := dk (Kd.R_drew HO_935006.out)
            replace HO_935007 := dk (Kd.R_drew HO_935007.out)
            replace HO_935008 := dk (Kd.R_drew HO_935008.out)
            replace BK910 := dk (blk_drew BK910.out)
            replace BK911 := dk (blk_drew BK911.out)
            replace BK934 := dk (blk_drew BK934.out)
            replace BK936 := dk (blk_drew BK936.out)
            replace HB := dk (below_drew1 HB.out)
            refine start_ (n := 14) (S := fun w' => w'.cell? ⟨gb934, 0, none⟩ = some (.slice Ao33 t915.length co33) ∧ w'.cell? ⟨gb934, 1, none⟩ = some (.int .i64 t918) ∧ w'.cell? ⟨gb934, 2, none⟩ = some (.int .i64 t919) ∧ w'.cell? ⟨gb934, 3, none⟩ = some (.int .i64 t920) ∧ w'.cell? ⟨gb934, 4, none⟩ = some (.slice Ao37 t921.length co37) ∧ w'.cell? ⟨gb934, 5, none⟩ = some (.bool t924) ∧ w'.cell? ⟨gb934, 6, none⟩ = some (.slice (some ad935) x935006_2.length co38) ∧ w'.cell? ⟨gb934, 7, none⟩ = some (.slice Ao39 t928.length co39) ∧ w'.cell? ⟨gb934, 8, none⟩ = some (.slice Ao40 t931.length co40) ∧ w'.cell? ⟨gb936, 0, none⟩ = some (.int .i64 ((rd_T95 x935006_2 x31_2).f0)) ∧ w'.cell? ⟨gb936, 1, none⟩ = some (.int .i64 ((rd_T95 x935006_2 x31_2).f1)) ∧ w'.cell? ⟨gb936, 2, none⟩ = some (.int .i64 ((rd_T95 x935006_2 x31_2).f2)) ∧ w'.cell? ⟨gb936, 3, none⟩ = some (.int .i64 ((rd_T95 x935006_2 x31_2).f3)) ∧ w'.cell? ⟨gb936, 4, none⟩ = some (.int .i64 ((rd_T95 x935006_2 x31_2).f4))) (ds := [13]) #[false, false, false, false, false, false, false, false, false, false, false, false, false, false] (by kernel_rfl) rfl rfl ⟨bc BK934 0, bc BK934 1, bc BK934 2, bc BK934 3, bc BK934 4, bc BK934 5, bc BK934 6, bc BK934 7, bc BK934 8, bc BK936 0, bc BK936 1, bc BK936 2, bc BK936 3, bc BK936 4⟩ (fun hHeld => ?_); refine with_tabW impl_Withdraw.tab11 impl_Withdraw.bits11 (fun HT_ HW_ => ?_)
            generalize w71.drew = w72 at HO_935000 HO_935004 HO_935006 HO_935007 HO_935008 BK910 BK911 BK934 BK936 HB hHeld ⊢
            refine pz_ 0 56 ?_
            refine pz_ 2 58 ?_
            refine pz_ 4 60 ?_
            refine pz_ 6 62 ?_
            refine pz_ 9 65 ?_
            refine tk_ 1 57 ?_
            refine tk_ 3 59 ?_
            refine tk_ 5 61 ?_
            refine tk_ 7 63 ?_
            refine pz_ 8 64 ?_
            refine pz_ 10 66 ?_
            refine one_ (i := 11) (N := some 67) #[true, true, true, true, true, true, true, true, true, true, true, true, false, false] rfl rfl (one_of HT_.out (by kernel_rfl)) (by decide) (fun K hK => ?_)
            refine goes_ Try.func64 (by kernel_rfl) rfl #[.agg #[.int .i64 ((rd_T95 x935006_2 x31_2).f0), .int .i64 ((rd_T95 x935006_2 x31_2).f1), .int .i64 ((rd_T95 x935006_2 x31_2).f2), .int .i64 ((rd_T95 x935006_2 x31_2).f3), .int .i64 ((rd_T95 x935006_2 x31_2).f4)], .int .i64 (wrap64 ((wrap64 (((rd_T95 x935006_2 x31_2).f0) + ((rd_T95 x935006_2 x31_2).f1))) - a1))] (by rfl) rfl rfl (by (try simp only [List.map_toArray, List.map_cons, List.map_nil]); first | done | rfl | (simp only [List.length_drop, List.length_take]; rfl)) ?_
            with_reducible refine (impl_awarded.calls ((rd_T95 x935006_2 x31_2).f0) ((rd_T95 x935006_2 x31_2).f1) ((rd_T95 x935006_2 x31_2).f2) ((rd_T95 x935006_2 x31_2).f3) ((rd_T95 x935006_2 x31_2).f4) (wrap64 ((wrap64 (((rd_T95 x935006_2 x31_2).f0) + ((rd_T95 x935006_2 x31_2).f1))) - a1)) t940 t941 t942 t943 t944 _ A62.out).mono ?_
            rintro e w73 ⟨rfl, hb⟩
            refine ⟨_, rfl, ?_⟩
            replace HO_935000 := kr HO_935000 hb
            replace HO_935004 := kr HO_935004 hb
            replace HO_935006 := kr HO_935006 hb
            replace HO_935007 := kr HO_935007 hb
            replace HO_935008 := kr HO_935008 hb
            replace BK910 := kb BK910 hb
            replace BK911 := kb BK911 hb
            replace BK934 := kb BK934 hb
            replace BK936 := kb BK936 hb
            replace HB := hs_ HB hb
            (try clear hb hb2 hk hi)
            have p63 : 0 ≤ (x31_2 : Int) := oa
            have q63 : (x31_2 : Int) < ((x935006_2.length : Int) : Int) := oa
            obtain ⟨go63, co63, eo63, gb63, gl63, cl63, HG63⟩ := Kd.R_form HO_935006.out (by omega)
            (first | cases eo63 | (injection eo63 with ea_ en_ ec_; (first | subst ea_ | (injection ea_ with ea_; subst ea_)); subst ec_; clear en_))
            have GB63 := dk gb63
            have GG63 := dk HG63
            clear gb63 gl63 HG63
            (first | simp only [add_plain] at hx935_0 | skip)
            (first | simp only [add_plain] at hx935_1 | skip)
            (first | simp only [add_plain] at hx935_2 | skip)
            (first | simp only [add_plain] at hx935_3 | skip)
            (first | simp only [add_plain] at hx935_4 | skip)
            obtain ⟨ce63, hcl63, hM63, hcc63, hfr63⟩ := Kd.R_elem HO_935006.out z95 (x31_2 : Int) p63 q63
            obtain rfl := k95_openM hM63
            have hx63_0 : World.cell? _ ⟨go63, (x31_2 : Int).toNat * 5, none⟩ = some (.int .i64 ((rd_T95 x935006_2 x31_2).f0)) := hcc63 0 _ rfl
            have hx63_1 : World.cell? _ ⟨go63, (x31_2 : Int).toNat * 5 + 1, none⟩ = some (.int .i64 ((rd_T95 x935006_2 x31_2).f1)) := hcc63 1 _ rfl
            have hx63_2 : World.cell? _ ⟨go63, (x31_2 : Int).toNat * 5 + 2, none⟩ = some (.int .i64 ((rd_T95 x935006_2 x31_2).f2)) := hcc63 2 _ rfl
            have hx63_3 : World.cell? _ ⟨go63, (x31_2 : Int).toNat * 5 + 3, none⟩ = some (.int .i64 ((rd_T95 x935006_2 x31_2).f3)) := hcc63 3 _ rfl
            have hx63_4 : World.cell? _ ⟨go63, (x31_2 : Int).toNat * 5 + 4, none⟩ = some (.int .i64 ((rd_T95 x935006_2 x31_2).f4)) := hcc63 4 _ rfl
            have hf63_0 : World.frozen? _ ⟨go63, (x31_2 : Int).toNat * 5, none⟩ = false := hfr63 0
            have hf63_1 : World.frozen? _ ⟨go63, (x31_2 : Int).toNat * 5 + 1, none⟩ = false := hfr63 1
            have hf63_2 : World.frozen? _ ⟨go63, (x31_2 : Int).toNat * 5 + 2, none⟩ = false := hfr63 2
            have hf63_3 : World.frozen? _ ⟨go63, (x31_2 : Int).toNat * 5 + 3, none⟩ = false := hfr63 3
            have hf63_4 : World.frozen? _ ⟨go63, (x31_2 : Int).toNat * 5 + 4, none⟩ = false := hfr63 4
            clear hcl63 hcc63 hfr63; (try clear hM63)
            replace p63 := eq_true p63
            replace q63 := eq_true q63
            obtain ⟨ce74, hcl74, hM74, hcc74, hfr74⟩ := Kd.R_elem HO_935006.out z95 (x31_2 : Int) (oa) (by have h_ : (x31_2 : Int) < ((x935006_2.length : Int) : Int) := oa; first | exact h_ | (have e_ := (Kd.R_reads' HO_935006.out).1; omega) | simpa using h_)
            obtain rfl := k95_openM hM74
            have HP74 := (Kd.R_seg HO_935006.out (x31_2 : Int) (oa) (by have h_ : (x31_2 : Int) < ((x935006_2.length : Int) : Int) := oa; first | exact h_ | (have e_ := (Kd.R_reads' HO_935006.out).1; omega) | simpa using h_) (seg := [.int .i64 t940, .int .i64 t941, .int .i64 t942, .int .i64 t943, .int .i64 t944]) (j := 0) hcl74 hcc74 (show 5 ≤ 5 from by decide) (x' := (⟨t940, t941, t942, t943, t944⟩ : S95)) (k95_mkM _ _ _ (⟨t940, t941, t942, t943, t944⟩ : S95) ) (fun _ hk => hk)).1
            rw [← Ny945.out] at HP74
            have HQ74 := dk HP74
            clear hcl74 hcc74 hfr74 hM74 HP74
            refine hK.out _ _ ⟨bc BK934 0, bc BK934 1, bc BK934 2, bc BK934 3, bc BK934 4, bc BK934 5, bc BK934 6, bc BK934 7, bc BK934 8, bc BK936 0, bc BK936 1, bc BK936 2, bc BK936 3, bc BK936 4⟩ (fun hHeld => ?_)
            clear hK K
            refine norm_ (a' := ?_) ?_ ?_
            rotate_left
            ·show Act.put _ (some 67) _ = _
             simp only [Act.put, List.setIfInBounds_toArray, List.set_cons_zero, List.set_cons_succ, i64_w, i32_w]
             rfl
            refine pz_ 12 68 ?_
            refine last_ (i := 13) (N := none) #[true, true, true, true, true, true, true, true, true, true, true, true, true, true] rfl rfl (one_of HT_.out (by kernel_rfl)) (by decide) (fun K hK => ?_)
            refine skip_ (w1 := ?_) (by rfl) rfl ?_ ?_
            rotate_left
            ·go_simp
             rfl
            refine hK.out _ _ ?_
            clear hK K
            refine done_ (done_of HT_.out (by kernel_rfl)) ?_
            try go_wp2
            (try simp only [← hl935006_2])
            go_roundg k2
            case measure => have := HJ3.out; have := HK2.out; omega
            case rel => exact ⟨(wrap64 (x31_2 + 1)), (y945), e2_, H', ⟨by have := HJ3.out; have := HK2.out; omega⟩, ⟨by (try simp only [hl935006_2]); (with_reducible repeat (first | apply Kd.R_alloc | apply Kd.R_drewN | apply Kd.R_drew)); exact Kd.R_mono (Kd.R_far (p := ⟨go63, (x31_2 : Int).toNat * 5 + 4, none⟩) (Kd.R_far (p := ⟨go63, (x31_2 : Int).toNat * 5 + 3, none⟩) (Kd.R_far (p := ⟨go63, (x31_2 : Int).toNat * 5 + 2, none⟩) (Kd.R_far (p := ⟨go63, (x31_2 : Int).toNat * 5 + 1, none⟩) (Kd.R_far (p := ⟨go63, (x31_2 : Int).toNat * 5, none⟩) (Kd.R_types HO_935000.out GG63.out (by decide)) (fun _ hk => hk.2) (.int .i64 t940)) (fun _ hk => hk.2) (.int .i64 t941)) (fun _ hk => hk.2) (.int .i64 t942)) (fun _ hk => hk.2) (.int .i64 t943)) (fun _ hk => hk.2) (.int .i64 t944)) (fun _ hk => trivial)⟩, ⟨by (try simp only [hl935006_2]); (with_reducible repeat (first | apply Kd.R_alloc | apply Kd.R_drewN | apply Kd.R_drew)); exact Kd.R_mono (Kd.R_far (p := ⟨go63, (x31_2 : Int).toNat * 5 + 4, none⟩) (Kd.R_far (p := ⟨go63, (x31_2 : Int).toNat * 5 + 3, none⟩) (Kd.R_far (p := ⟨go63, (x31_2 : Int).toNat * 5 + 2, none⟩) (Kd.R_far (p := ⟨go63, (x31_2 : Int).toNat * 5 + 1, none⟩) (Kd.R_far (p := ⟨go63, (x31_2 : Int).toNat * 5, none⟩) (Kd.R_types HO_935004.out GG63.out (by decide)) (fun _ hk => hk.2) (.int .i64 t940)) (fun _ hk => hk.2) (.int .i64 t941)) (fun _ hk => hk.2) (.int .i64 t942)) (fun _ hk => hk.2) (.int .i64 t943)) (fun _ hk => hk.2) (.int .i64 t944)) (fun _ hk => ⟨hk.1.1, hk.1.2⟩)⟩, ⟨by (try simp only [hl935006_2]); (with_reducible repeat (first | apply Kd.R_alloc | apply Kd.R_drewN | apply Kd.R_drew)); exact Kd.R_mono HQ74.out (fun _ hk => trivial)⟩, ⟨by (try simp only [hl935006_2]); (with_reducible repeat (first | apply Kd.R_alloc | apply Kd.R_drewN | apply Kd.R_drew)); exact Kd.R_mono (Kd.R_far (p := ⟨go63, (x31_2 : Int).toNat * 5 + 4, none⟩) (Kd.R_far (p := ⟨go63, (x31_2 : Int).toNat * 5 + 3, none⟩) (Kd.R_far (p := ⟨go63, (x31_2 : Int).toNat * 5 + 2, none⟩) (Kd.R_far (p := ⟨go63, (x31_2 : Int).toNat * 5 + 1, none⟩) (Kd.R_far (p := ⟨go63, (x31_2 : Int).toNat * 5, none⟩) (Kd.R_types HO_935007.out GG63.out (by decide)) (fun _ hk => hk.2) (.int .i64 t940)) (fun _ hk => hk.2) (.int .i64 t941)) (fun _ hk => hk.2) (.int .i64 t942)) (fun _ hk => hk.2) (.int .i64 t943)) (fun _ hk => hk.2) (.int .i64 t944)) (fun _ hk => ⟨hk.1.1, hk.1.2⟩)⟩, ⟨by (try simp only [hl935006_2]); (with_reducible repeat (first | apply Kd.R_alloc | apply Kd.R_drewN | apply Kd.R_drew)); exact Kd.R_mono (Kd.R_far (p := ⟨go63, (x31_2 : Int).toNat * 5 + 4, none⟩) (Kd.R_far (p := ⟨go63, (x31_2 : Int).toNat * 5 + 3, none⟩) (Kd.R_far (p := ⟨go63, (x31_2 : Int).toNat * 5 + 2, none⟩) (Kd.R_far (p := ⟨go63, (x31_2 : Int).toNat * 5 + 1, none⟩) (Kd.R_far (p := ⟨go63, (x31_2 : Int).toNat * 5, none⟩) (Kd.R_types HO_935008.out GG63.out (by decide)) (fun _ hk => hk.2) (.int .i64 t940)) (fun _ hk => hk.2) (.int .i64 t941)) (fun _ hk => hk.2) (.int .i64 t942)) (fun _ hk => hk.2) (.int .i64 t943)) (fun _ hk => hk.2) (.int .i64 t944)) (fun _ hk => ⟨hk.1.1, hk.1.2⟩)⟩, ⟨by (try simp only [hl935006_2]); exact bg HO_935006 BK910⟩, ⟨by (try simp only [hl935006_2]); exact bg HO_935006 BK911⟩, ⟨by (try simp only [hl935006_2]); exact bg HO_935006 BK934⟩, ⟨bb HB⟩⟩
           ·replace c61 := Bool.eq_false_iff.mpr c61
            subst c61
            have H1 : (impl_Withdraw.l0 k2 a1 a2 (t925.length : Int) (wrap64 (x31_2 + 1)) t915 t918 t919 t920 t921 t924 x935006_2 t928 t931) = some (r1, r2, r3, r4, r5, r6, r7, r8, r9, r10) := by rw [if_neg (show ¬ (false = true) by decide)] at H; exact H
            clear H
            have H := H1
            clear H1
            have H' := dk H
            clear H
            have p935 : 0 ≤ (x31_2 : Int) := oa
            have q935 : x31_2 < (x935006_2.length : Int) := oa
            obtain ⟨ad935, e935, hx935_0, hx935_1, hx935_2, hx935_3, hx935_4⟩ := at_T95 (Kd.R_reads' HO_935006.out).2.2 x31_2 p935 q935
            cases e935
            replace p935 := eq_true p935
            replace q935 := eq_true q935
            go_wp2_with (first | ((with_reducible refine gate_dst (N := 10) rfl ?_); refine bx (N := 10) (cs := #[.int .i64 0, .int .i64 0, .int .i64 0, .int .i64 0, .int .i64 0]) (t := 95) ?_; intro gb936 hg w75 hbox hb; replace HO_935000 := kr HO_935000 hb; replace HO_935004 := kr HO_935004 hb; replace HO_935006 := dk (Kd.R_below (Kd.R_elderB (rr HO_935006) gb936 (Nat.le_of_eq hg.symm)) hb); replace HO_935007 := kr HO_935007 hb; replace HO_935008 := kr HO_935008 hb; have BK936 := dk (hbox); have GW936 := gs hg HB; have GE936 := gs hg HB; replace HB := hs_ HB hb; have NB910_936 := gn hg BK910; have NB936_910 := gm hg BK910; replace BK910 := kb BK910 hb; have NB911_936 := gn hg BK911; have NB936_911 := gm hg BK911; replace BK911 := kb BK911 hb; have NB934_936 := gn hg BK934; have NB936_934 := gm hg BK934; replace BK934 := kb BK934 hb; clear hb hbox hg; have hnb76 := NB936_910.out; have hnc76 := NB910_936.out; have hnb77 := NB936_911.out; have hnc77 := NB911_936.out; have hnb78 := NB936_934.out; have hnc78 := NB934_936.out; have ⟨z79_0, z79_1, z79_2, z79_3, z79_4, v79_0, v79_1, v79_2, v79_3, v79_4⟩ := rz5 BK936) | ((with_reducible refine gate_callee (f := 80) rfl ?_); refine gl (some 39) Try.func80 #[.agg #[.int .i64 ((rd_T95 x935006_2 x31_2).f0), .int .i64 ((rd_T95 x935006_2 x31_2).f1), .int .i64 ((rd_T95 x935006_2 x31_2).f2), .int .i64 ((rd_T95 x935006_2 x31_2).f3), .int .i64 ((rd_T95 x935006_2 x31_2).f4)], .int .i64 a1] ?_; (with_reducible refine (impl_plays.calls ((rd_T95 x935006_2 x31_2).f0) ((rd_T95 x935006_2 x31_2).f1) ((rd_T95 x935006_2 x31_2).f2) ((rd_T95 x935006_2 x31_2).f3) ((rd_T95 x935006_2 x31_2).f4) a1 true _ A44.out).mono ?_); rintro e w80 ⟨rfl, hb⟩; refine ⟨_, rfl, ?_⟩; replace HO_935000 := kf HO_935000 BK936 hb; replace HO_935004 := kf HO_935004 BK936 hb; replace HO_935006 := dk (Kd.R_below (by (with_reducible repeat (first | apply Kd.R_alloc | apply Kd.R_drewN | apply Kd.R_drew)); exact (Kd.R_mono (Kd.R_far (p := ⟨gb936, 4, none⟩) (Kd.R_far (p := ⟨gb936, 3, none⟩) (Kd.R_far (p := ⟨gb936, 2, none⟩) (Kd.R_far (p := ⟨gb936, 1, none⟩) (Kd.R_far (p := ⟨gb936, 0, none⟩) (Kd.R_mono HO_935006.out (fun k_ hk => (⟨hk, hk.2⟩ : _ ∧ k_ ≠ gb936))) (fun _ hk => hk.2) (.int .i64 ((rd_T95 x935006_2 x31_2).f0))) (fun _ hk => hk.2) (.int .i64 ((rd_T95 x935006_2 x31_2).f1))) (fun _ hk => hk.2) (.int .i64 ((rd_T95 x935006_2 x31_2).f2))) (fun _ hk => hk.2) (.int .i64 ((rd_T95 x935006_2 x31_2).f3))) (fun _ hk => hk.2) (.int .i64 ((rd_T95 x935006_2 x31_2).f4))) (fun _ h_ => h_.1))) hb); replace HO_935007 := kf HO_935007 BK936 hb; replace HO_935008 := kf HO_935008 BK936 hb; replace BK910 := dk (blk_below (bf NB910_936.out BK910) hb); replace BK911 := dk (blk_below (bf NB911_936.out BK911) hb); replace BK934 := dk (blk_below (bf NB934_936.out BK934) hb); replace BK936 := dk (blk_below (g := gb936) (o := .cells #[.int .i64 ((rd_T95 x935006_2 x31_2).f0), .int .i64 ((rd_T95 x935006_2 x31_2).f1), .int .i64 ((rd_T95 x935006_2 x31_2).f2), .int .i64 ((rd_T95 x935006_2 x31_2).f3), .int .i64 ((rd_T95 x935006_2 x31_2).f4)] 95 (0, 0)) (bp BK936) hb); replace HB := hs_ HB hb; (try clear hb hb2 hk hi); have ⟨z81_0, z81_1, z81_2, z81_3, z81_4, v81_0, v81_1, v81_2, v81_3, v81_4⟩ := rz5 BK936) | ((with_reducible refine gate_callee (f := 81) rfl ?_); refine gl (some 55) Try.func81 #[.agg #[.int .i64 ((rd_T95 x935006_2 x31_2).f0), .int .i64 ((rd_T95 x935006_2 x31_2).f1), .int .i64 ((rd_T95 x935006_2 x31_2).f2), .int .i64 ((rd_T95 x935006_2 x31_2).f3), .int .i64 ((rd_T95 x935006_2 x31_2).f4)]] ?_; (with_reducible refine (impl_IsOpen.calls ((rd_T95 x935006_2 x31_2).f0) ((rd_T95 x935006_2 x31_2).f1) ((rd_T95 x935006_2 x31_2).f2) ((rd_T95 x935006_2 x31_2).f3) ((rd_T95 x935006_2 x31_2).f4) false _ A60.out).mono ?_); rintro e w82 ⟨rfl, hb⟩; refine ⟨_, rfl, ?_⟩; replace HO_935000 := kr HO_935000 hb; replace HO_935004 := kr HO_935004 hb; replace HO_935006 := kr HO_935006 hb; replace HO_935007 := kr HO_935007 hb; replace HO_935008 := kr HO_935008 hb; replace BK910 := kb BK910 hb; replace BK911 := kb BK911 hb; replace BK934 := kb BK934 hb; replace BK936 := kb BK936 hb; replace HB := hs_ HB hb; (try clear hb hb2 hk hi)))
            (try simp only [← hl935006_2])
            go_roundg k2
            case measure => have := HJ3.out; have := HK2.out; omega
            case rel => exact ⟨(wrap64 (x31_2 + 1)), (x935006_2), e2_, H', ⟨by have := HJ3.out; have := HK2.out; omega⟩, ⟨by (try simp only [hl935006_2]); (with_reducible repeat (first | apply Kd.R_alloc | apply Kd.R_drewN | apply Kd.R_drew)); exact HO_935000.out⟩, ⟨by (try simp only [hl935006_2]); (with_reducible repeat (first | apply Kd.R_alloc | apply Kd.R_drewN | apply Kd.R_drew)); exact HO_935004.out⟩, ⟨by (try simp only [hl935006_2]); (with_reducible repeat (first | apply Kd.R_alloc | apply Kd.R_drewN | apply Kd.R_drew)); exact Kd.R_mono HO_935006.out (fun _ hk => trivial)⟩, ⟨by (try simp only [hl935006_2]); (with_reducible repeat (first | apply Kd.R_alloc | apply Kd.R_drewN | apply Kd.R_drew)); exact HO_935007.out⟩, ⟨by (try simp only [hl935006_2]); (with_reducible repeat (first | apply Kd.R_alloc | apply Kd.R_drewN | apply Kd.R_drew)); exact HO_935008.out⟩, ⟨by (try simp only [hl935006_2]); (with_reducible repeat (first | refine blk_drewN ?_ _ | refine blk_drew ?_ | refine blk_alloc ?_ _)); exact BK910.out⟩, ⟨by (try simp only [hl935006_2]); (with_reducible repeat (first | refine blk_drewN ?_ _ | refine blk_drew ?_ | refine blk_alloc ?_ _)); exact BK911.out⟩, ⟨by (try simp only [hl935006_2]); (with_reducible repeat (first | refine blk_drewN ?_ _ | refine blk_drew ?_ | refine blk_alloc ?_ _)); exact BK934.out⟩, ⟨bb HB⟩⟩
         ·replace c45 := Bool.eq_false_iff.mpr c45
          subst c45
          have H1 : (impl_Withdraw.l0 k2 a1 a2 (t925.length : Int) (wrap64 (x31_2 + 1)) t915 t918 t919 t920 t921 t924 x935006_2 t928 t931) = some (r1, r2, r3, r4, r5, r6, r7, r8, r9, r10) := by rw [if_neg (show ¬ (false = true) by decide)] at H; exact H
          clear H
          have H := H1
          clear H1
          have H' := dk H
          clear H
          have p935 : 0 ≤ (x31_2 : Int) := oa
          have q935 : x31_2 < (x935006_2.length : Int) := oa
          obtain ⟨ad935, e935, hx935_0, hx935_1, hx935_2, hx935_3, hx935_4⟩ := at_T95 (Kd.R_reads' HO_935006.out).2.2 x31_2 p935 q935
          cases e935
          replace p935 := eq_true p935
          replace q935 := eq_true q935
          go_wp2_with (first | ((with_reducible refine gate_dst (N := 10) rfl ?_); refine bx (N := 10) (cs := #[.int .i64 0, .int .i64 0, .int .i64 0, .int .i64 0, .int .i64 0]) (t := 95) ?_; intro gb936 hg w83 hbox hb; replace HO_935000 := kr HO_935000 hb; replace HO_935004 := kr HO_935004 hb; replace HO_935006 := dk (Kd.R_below (Kd.R_elderB (rr HO_935006) gb936 (Nat.le_of_eq hg.symm)) hb); replace HO_935007 := kr HO_935007 hb; replace HO_935008 := kr HO_935008 hb; have BK936 := dk (hbox); have GW936 := gs hg HB; have GE936 := gs hg HB; replace HB := hs_ HB hb; have NB910_936 := gn hg BK910; have NB936_910 := gm hg BK910; replace BK910 := kb BK910 hb; have NB911_936 := gn hg BK911; have NB936_911 := gm hg BK911; replace BK911 := kb BK911 hb; have NB934_936 := gn hg BK934; have NB936_934 := gm hg BK934; replace BK934 := kb BK934 hb; clear hb hbox hg; have hnb84 := NB936_910.out; have hnc84 := NB910_936.out; have hnb85 := NB936_911.out; have hnc85 := NB911_936.out; have hnb86 := NB936_934.out; have hnc86 := NB934_936.out; have ⟨z87_0, z87_1, z87_2, z87_3, z87_4, v87_0, v87_1, v87_2, v87_3, v87_4⟩ := rz5 BK936) | ((with_reducible refine gate_callee (f := 80) rfl ?_); refine gl (some 39) Try.func80 #[.agg #[.int .i64 ((rd_T95 x935006_2 x31_2).f0), .int .i64 ((rd_T95 x935006_2 x31_2).f1), .int .i64 ((rd_T95 x935006_2 x31_2).f2), .int .i64 ((rd_T95 x935006_2 x31_2).f3), .int .i64 ((rd_T95 x935006_2 x31_2).f4)], .int .i64 a1] ?_; (with_reducible refine (impl_plays.calls ((rd_T95 x935006_2 x31_2).f0) ((rd_T95 x935006_2 x31_2).f1) ((rd_T95 x935006_2 x31_2).f2) ((rd_T95 x935006_2 x31_2).f3) ((rd_T95 x935006_2 x31_2).f4) a1 false _ A44.out).mono ?_); rintro e w88 ⟨rfl, hb⟩; refine ⟨_, rfl, ?_⟩; replace HO_935000 := kf HO_935000 BK936 hb; replace HO_935004 := kf HO_935004 BK936 hb; replace HO_935006 := dk (Kd.R_below (by (with_reducible repeat (first | apply Kd.R_alloc | apply Kd.R_drewN | apply Kd.R_drew)); exact (Kd.R_mono (Kd.R_far (p := ⟨gb936, 4, none⟩) (Kd.R_far (p := ⟨gb936, 3, none⟩) (Kd.R_far (p := ⟨gb936, 2, none⟩) (Kd.R_far (p := ⟨gb936, 1, none⟩) (Kd.R_far (p := ⟨gb936, 0, none⟩) (Kd.R_mono HO_935006.out (fun k_ hk => (⟨hk, hk.2⟩ : _ ∧ k_ ≠ gb936))) (fun _ hk => hk.2) (.int .i64 ((rd_T95 x935006_2 x31_2).f0))) (fun _ hk => hk.2) (.int .i64 ((rd_T95 x935006_2 x31_2).f1))) (fun _ hk => hk.2) (.int .i64 ((rd_T95 x935006_2 x31_2).f2))) (fun _ hk => hk.2) (.int .i64 ((rd_T95 x935006_2 x31_2).f3))) (fun _ hk => hk.2) (.int .i64 ((rd_T95 x935006_2 x31_2).f4))) (fun _ h_ => h_.1))) hb); replace HO_935007 := kf HO_935007 BK936 hb; replace HO_935008 := kf HO_935008 BK936 hb; replace BK910 := dk (blk_below (bf NB910_936.out BK910) hb); replace BK911 := dk (blk_below (bf NB911_936.out BK911) hb); replace BK934 := dk (blk_below (bf NB934_936.out BK934) hb); replace BK936 := dk (blk_below (g := gb936) (o := .cells #[.int .i64 ((rd_T95 x935006_2 x31_2).f0), .int .i64 ((rd_T95 x935006_2 x31_2).f1), .int .i64 ((rd_T95 x935006_2 x31_2).f2), .int .i64 ((rd_T95 x935006_2 x31_2).f3), .int .i64 ((rd_T95 x935006_2 x31_2).f4)] 95 (0, 0)) (bp BK936) hb); replace HB := hs_ HB hb; (try clear hb hb2 hk hi)))
          (try simp only [← hl935006_2])
          go_roundg k2
          case measure => have := HJ3.out; have := HK2.out; omega
          case rel => exact ⟨(wrap64 (x31_2 + 1)), (x935006_2), e2_, H', ⟨by have := HJ3.out; have := HK2.out; omega⟩, ⟨by (try simp only [hl935006_2]); (with_reducible repeat (first | apply Kd.R_alloc | apply Kd.R_drewN | apply Kd.R_drew)); exact HO_935000.out⟩, ⟨by (try simp only [hl935006_2]); (with_reducible repeat (first | apply Kd.R_alloc | apply Kd.R_drewN | apply Kd.R_drew)); exact HO_935004.out⟩, ⟨by (try simp only [hl935006_2]); (with_reducible repeat (first | apply Kd.R_alloc | apply Kd.R_drewN | apply Kd.R_drew)); exact Kd.R_mono HO_935006.out (fun _ hk => trivial)⟩, ⟨by (try simp only [hl935006_2]); (with_reducible repeat (first | apply Kd.R_alloc | apply Kd.R_drewN | apply Kd.R_drew)); exact HO_935007.out⟩, ⟨by (try simp only [hl935006_2]); (with_reducible repeat (first | apply Kd.R_alloc | apply Kd.R_drewN | apply Kd.R_drew)); exact HO_935008.out⟩, ⟨by (try simp only [hl935006_2]); (with_reducible repeat (first | refine blk_drewN ?_ _ | refine blk_drew ?_ | refine blk_alloc ?_ _)); exact BK910.out⟩, ⟨by (try simp only [hl935006_2]); (with_reducible repeat (first | refine blk_drewN ?_ _ | refine blk_drew ?_ | refine blk_alloc ?_ _)); exact BK911.out⟩, ⟨by (try simp only [hl935006_2]); (with_reducible repeat (first | refine blk_drewN ?_ _ | refine blk_drew ?_ | refine blk_alloc ?_ _)); exact BK934.out⟩, ⟨bb HB⟩⟩
        ·rw [if_neg c43] at H
         exact absurd H (by simp)
       ·rw [if_neg c42] at H
        exact absurd H (by simp)
      ·rw [if_neg c41] at H
       have c41b0 : decide (x31_2 < (t925.length : Int)) = false := decide_eq_false c41
       have c41r0 := c41b0
       (try simp only [hl935006_2] at c41r0)
       clear c41
       simp only [Option.some.injEq, Prod.mk.injEq] at H
       obtain ⟨rfl, rfl, rfl, rfl, rfl, rfl, rfl, rfl, rfl, rfl⟩ := H
       have hnb89 := NB934_910.out
       have hnc89 := NB910_934.out
       have hnb90 := NB934_911.out
       have hnc90 := NB911_934.out
       have ⟨z91_0, z91_1, z91_2, z91_3, z91_4, z91_5, z91_6, z91_7, z91_8, v91_0, v91_1, v91_2, v91_3, v91_4, v91_5, v91_6, v91_7, v91_8⟩ := rz9 BK934
       have hnb92 := NB911_910.out
       have hnc92 := NB910_911.out
       have ⟨z93_0, z93_1, z93_2, z93_3, z93_4, z93_5, z93_6, z93_7, z93_8, v93_0, v93_1, v93_2, v93_3, v93_4, v93_5, v93_6, v93_7, v93_8⟩ := rz9 BK911
       go_wp2
       refine bodyPost_ret (results_ct rfl _ _ gb911 36 #[.slice Ao33 t915.length co33, .int .i64 t918, .int .i64 t919, .int .i64 t920, .slice Ao37 t921.length co37, .bool t924, .slice Ao38 x935006_2.length co38, .slice Ao39 t928.length co39, .slice Ao40 t931.length co40] (0, 0) _ rfl (bp BK911) Try.underlying36 rfl (by kernel_rfl)) rfl ?_
       exact ⟨_, _, _, _, _, ee, rf HO_935000 BK911 (fun _ hk => trivial), rf HO_935004 BK911 (fun _ hk => ⟨hk.1.1, hk.1.2⟩), rf HO_935006 BK911 (fun _ hk => trivial), rf HO_935007 BK911 (fun _ hk => ⟨hk.1.1, hk.1.2⟩), rf HO_935008 BK911 (fun _ hk => ⟨hk.1.1, hk.1.2⟩), bb HB⟩
end Go.Proofs.Ythfefanapneocaa.Q
end
namespace Go.Proofs.Ythfefanapneocaa.Q
open Go.RowKit Go.Proofs.YthfefanapneocaaW.PrintWords Go.Proofs.YthfefanapneocaaW.PrintLast Go.Proofs.YthfefanapneocaaW.PrintMore
attribute [local go_sem] max2_int min2_int max_two min_two max_three min_three max_four min_four
set_option linter.unusedVariables false
set_option linter.unusedSimpArgs false
set_option maxRecDepth 100000
set_option maxHeartbeats 8000000
def impl_GoalsOf.f (a0_0 : Int) (a0_1 : Int) (a0_2 : Int) (a0_3 : Int) (a0_4 : Int) : Option (Int × Int × Bool) := if a0_4 = 1 then (some (a0_2, a0_3, true)) else (if a0_4 = 2 then (some (3, 0, true)) else (if a0_4 = 3 then (some (0, 3, true)) else (some (0, 0, false))))
theorem impl_GoalsOf.calls (a0_0 : Int) (a0_1 : Int) (a0_2 : Int) (a0_3 : Int) (a0_4 : Int) (r1 : Int) (r2 : Int) (r3 : Bool) (w : World) (h : impl_GoalsOf.f a0_0 a0_1 a0_2 a0_3 a0_4 = some (r1, r2, r3)) :
  Calls Try.prog 171 #[.agg #[.int .i64 a0_0, .int .i64 a0_1, .int .i64 a0_2, .int .i64 a0_3, .int .i64 a0_4]] w fun e w' => e = .returned (.tuple #[.int .i64 r1, .int .i64 r2, .bool r3]) ∧ Below w.heap.size w w' := by
 have hu95 := Try.underlying95
 have HB := dk (Below.refl w.heap.size w)
 have H : (if a0_4 = 1 then (some (a0_2, a0_3, true)) else (if a0_4 = 2 then (some (3, 0, true)) else (if a0_4 = 3 then (some (0, 3, true)) else (some (0, 0, false))))) = some (r1, r2, r3) := h
 clear h
 by_cases c2 : a0_4 = 1
 ·rw [if_pos c2] at H
  have c2b0 : (a0_4 == 1) = true := beq_iff_eq.mpr c2
  have c2b1 : (a0_4 != 1) = false := bne_eq_false_iff_eq.mpr c2
  clear c2
  simp only [Option.some.injEq, Prod.mk.injEq] at H
  obtain ⟨rfl, rfl, rfl⟩ := H
  go_enter Try.func171, Try.ntmps171
  go_wp2_with (first | ((with_reducible refine gate_dst (N := 1) rfl ?_); refine bx (N := 1) (cs := #[.int .i64 a0_0, .int .i64 a0_1, .int .i64 a0_2, .int .i64 a0_3, .int .i64 a0_4]) (t := 95) ?_; intro gb1187 hg w3 hbox hb; have BK1187 := dk (hbox); have GW1187 := gs hg HB; have GE1187 := gs hg HB; replace HB := hs_ HB hb; clear hb hbox hg; have ⟨z4_0, z4_1, z4_2, z4_3, z4_4, v4_0, v4_1, v4_2, v4_3, v4_4⟩ := rz5 BK1187))
  repeat (go_quiet (first | ((with_reducible refine gate_dst (N := 1) rfl ?_); refine bx (N := 1) (cs := #[.int .i64 a0_0, .int .i64 a0_1, .int .i64 a0_2, .int .i64 a0_3, .int .i64 a0_4]) (t := 95) ?_; intro gb1187 hg w3 hbox hb; have BK1187 := dk (hbox); have GW1187 := gs hg HB; have GE1187 := gs hg HB; replace HB := hs_ HB hb; clear hb hbox hg; have ⟨z4_0, z4_1, z4_2, z4_3, z4_4, v4_0, v4_1, v4_2, v4_3, v4_4⟩ := rz5 BK1187)); try go_wp2_with (first | ((with_reducible refine gate_dst (N := 1) rfl ?_); refine bx (N := 1) (cs := #[.int .i64 a0_0, .int .i64 a0_1, .int .i64 a0_2, .int .i64 a0_3, .int .i64 a0_4]) (t := 95) ?_; intro gb1187 hg w3 hbox hb; have BK1187 := dk (hbox); have GW1187 := gs hg HB; have GE1187 := gs hg HB; replace HB := hs_ HB hb; clear hb hbox hg; have ⟨z4_0, z4_1, z4_2, z4_3, z4_4, v4_0, v4_1, v4_2, v4_3, v4_4⟩ := rz5 BK1187)))
  go_ret3
  exact ⟨ee, bb HB⟩
 ·rw [if_neg c2] at H
  have c2b0 : (a0_4 == 1) = false := beq_eq_false_iff_ne.mpr c2
  have c2b1 : (a0_4 != 1) = true := bne_iff_ne.mpr c2
  by_cases c5 : a0_4 = 2
  ·rw [if_pos c5] at H
   have c5b0 : (a0_4 == 2) = true := beq_iff_eq.mpr c5
   have c5b1 : (a0_4 != 2) = false := bne_eq_false_iff_eq.mpr c5
   clear c5
   simp only [Option.some.injEq, Prod.mk.injEq] at H
   obtain ⟨rfl, rfl, rfl⟩ := H
   go_enter Try.func171, Try.ntmps171
   go_wp2_with (first | ((with_reducible refine gate_dst (N := 1) rfl ?_); refine bx (N := 1) (cs := #[.int .i64 a0_0, .int .i64 a0_1, .int .i64 a0_2, .int .i64 a0_3, .int .i64 a0_4]) (t := 95) ?_; intro gb1187 hg w6 hbox hb; have BK1187 := dk (hbox); have GW1187 := gs hg HB; have GE1187 := gs hg HB; replace HB := hs_ HB hb; clear hb hbox hg; have ⟨z7_0, z7_1, z7_2, z7_3, z7_4, v7_0, v7_1, v7_2, v7_3, v7_4⟩ := rz5 BK1187))
   repeat (go_quiet (first | ((with_reducible refine gate_dst (N := 1) rfl ?_); refine bx (N := 1) (cs := #[.int .i64 a0_0, .int .i64 a0_1, .int .i64 a0_2, .int .i64 a0_3, .int .i64 a0_4]) (t := 95) ?_; intro gb1187 hg w6 hbox hb; have BK1187 := dk (hbox); have GW1187 := gs hg HB; have GE1187 := gs hg HB; replace HB := hs_ HB hb; clear hb hbox hg; have ⟨z7_0, z7_1, z7_2, z7_3, z7_4, v7_0, v7_1, v7_2, v7_3, v7_4⟩ := rz5 BK1187)); try go_wp2_with (first | ((with_reducible refine gate_dst (N := 1) rfl ?_); refine bx (N := 1) (cs := #[.int .i64 a0_0, .int .i64 a0_1, .int .i64 a0_2, .int .i64 a0_3, .int .i64 a0_4]) (t := 95) ?_; intro gb1187 hg w6 hbox hb; have BK1187 := dk (hbox); have GW1187 := gs hg HB; have GE1187 := gs hg HB; replace HB := hs_ HB hb; clear hb hbox hg; have ⟨z7_0, z7_1, z7_2, z7_3, z7_4, v7_0, v7_1, v7_2, v7_3, v7_4⟩ := rz5 BK1187)))
   go_ret3
   exact ⟨ee, bb HB⟩
  ·rw [if_neg c5] at H
   have c5b0 : (a0_4 == 2) = false := beq_eq_false_iff_ne.mpr c5
   have c5b1 : (a0_4 != 2) = true := bne_iff_ne.mpr c5
   by_cases c8 : a0_4 = 3
   ·rw [if_pos c8] at H
    have c8b0 : (a0_4 == 3) = true := beq_iff_eq.mpr c8
    have c8b1 : (a0_4 != 3) = false := bne_eq_false_iff_eq.mpr c8
    clear c8
    simp only [Option.some.injEq, Prod.mk.injEq] at H
    obtain ⟨rfl, rfl, rfl⟩ := H
    go_enter Try.func171, Try.ntmps171
    go_wp2_with (first | ((with_reducible refine gate_dst (N := 1) rfl ?_); refine bx (N := 1) (cs := #[.int .i64 a0_0, .int .i64 a0_1, .int .i64 a0_2, .int .i64 a0_3, .int .i64 a0_4]) (t := 95) ?_; intro gb1187 hg w9 hbox hb; have BK1187 := dk (hbox); have GW1187 := gs hg HB; have GE1187 := gs hg HB; replace HB := hs_ HB hb; clear hb hbox hg; have ⟨z10_0, z10_1, z10_2, z10_3, z10_4, v10_0, v10_1, v10_2, v10_3, v10_4⟩ := rz5 BK1187))
    repeat (go_quiet (first | ((with_reducible refine gate_dst (N := 1) rfl ?_); refine bx (N := 1) (cs := #[.int .i64 a0_0, .int .i64 a0_1, .int .i64 a0_2, .int .i64 a0_3, .int .i64 a0_4]) (t := 95) ?_; intro gb1187 hg w9 hbox hb; have BK1187 := dk (hbox); have GW1187 := gs hg HB; have GE1187 := gs hg HB; replace HB := hs_ HB hb; clear hb hbox hg; have ⟨z10_0, z10_1, z10_2, z10_3, z10_4, v10_0, v10_1, v10_2, v10_3, v10_4⟩ := rz5 BK1187)); try go_wp2_with (first | ((with_reducible refine gate_dst (N := 1) rfl ?_); refine bx (N := 1) (cs := #[.int .i64 a0_0, .int .i64 a0_1, .int .i64 a0_2, .int .i64 a0_3, .int .i64 a0_4]) (t := 95) ?_; intro gb1187 hg w9 hbox hb; have BK1187 := dk (hbox); have GW1187 := gs hg HB; have GE1187 := gs hg HB; replace HB := hs_ HB hb; clear hb hbox hg; have ⟨z10_0, z10_1, z10_2, z10_3, z10_4, v10_0, v10_1, v10_2, v10_3, v10_4⟩ := rz5 BK1187)))
    go_ret3
    exact ⟨ee, bb HB⟩
   ·rw [if_neg c8] at H
    have c8b0 : (a0_4 == 3) = false := beq_eq_false_iff_ne.mpr c8
    have c8b1 : (a0_4 != 3) = true := bne_iff_ne.mpr c8
    simp only [Option.some.injEq, Prod.mk.injEq] at H
    obtain ⟨rfl, rfl, rfl⟩ := H
    go_enter Try.func171, Try.ntmps171
    go_wp2_with (first | ((with_reducible refine gate_dst (N := 1) rfl ?_); refine bx (N := 1) (cs := #[.int .i64 a0_0, .int .i64 a0_1, .int .i64 a0_2, .int .i64 a0_3, .int .i64 a0_4]) (t := 95) ?_; intro gb1187 hg w11 hbox hb; have BK1187 := dk (hbox); have GW1187 := gs hg HB; have GE1187 := gs hg HB; replace HB := hs_ HB hb; clear hb hbox hg; have ⟨z12_0, z12_1, z12_2, z12_3, z12_4, v12_0, v12_1, v12_2, v12_3, v12_4⟩ := rz5 BK1187))
    repeat (go_quiet (first | ((with_reducible refine gate_dst (N := 1) rfl ?_); refine bx (N := 1) (cs := #[.int .i64 a0_0, .int .i64 a0_1, .int .i64 a0_2, .int .i64 a0_3, .int .i64 a0_4]) (t := 95) ?_; intro gb1187 hg w11 hbox hb; have BK1187 := dk (hbox); have GW1187 := gs hg HB; have GE1187 := gs hg HB; replace HB := hs_ HB hb; clear hb hbox hg; have ⟨z12_0, z12_1, z12_2, z12_3, z12_4, v12_0, v12_1, v12_2, v12_3, v12_4⟩ := rz5 BK1187)); try go_wp2_with (first | ((with_reducible refine gate_dst (N := 1) rfl ?_); refine bx (N := 1) (cs := #[.int .i64 a0_0, .int .i64 a0_1, .int .i64 a0_2, .int .i64 a0_3, .int .i64 a0_4]) (t := 95) ?_; intro gb1187 hg w11 hbox hb; have BK1187 := dk (hbox); have GW1187 := gs hg HB; have GE1187 := gs hg HB; replace HB := hs_ HB hb; clear hb hbox hg; have ⟨z12_0, z12_1, z12_2, z12_3, z12_4, v12_0, v12_1, v12_2, v12_3, v12_4⟩ := rz5 BK1187)))
    go_ret3
    exact ⟨ee, bb HB⟩
end Go.Proofs.Ythfefanapneocaa.Q
section
namespace Go.Proofs.Ythfefanapneocaa.Q
open Go.RowKit Go.Proofs.YthfefanapneocaaW.PrintWords Go.Proofs.YthfefanapneocaaW.PrintLast Go.Proofs.YthfefanapneocaaW.PrintMore
attribute [local go_sem] max2_int min2_int max_two min_two max_three min_three max_four min_four
set_option linter.unusedVariables false
set_option linter.unusedSimpArgs false
set_option maxRecDepth 100000
set_option maxHeartbeats 8000000
def hol_ (pp_ : S95 → Bool) (a b c d e : Int) : Option Bool := some (pp_ ⟨a, b, c, d, e⟩)
theorem hol_calls_ {pp_ : S95 → Bool} {g : Nat} {args lb : Array Value} {W : World} {a b c d e : Int} {t : Bool} (h : Calls Try.prog g (args ++ lb) W fun e' w' => e' = .returned (.bool (pp_ ⟨a, b, c, d, e⟩)) ∧ Below W.heap.size W w') (ht : hol_ pp_ a b c d e = some t) :
  Calls Try.prog g (args ++ lb) W fun e' w' => e' = .returned (.bool t) ∧ Below W.heap.size W w' := by
 obtain rfl := Option.some.inj ht
 exact h
mutual
def impl_tableOfG.l0 (pp_ : S95 → Bool) : Nat → List (S115) → List (S95) → Int → Int → Int → Int → Int → List Int → Bool → Option ((List (S115)))
 | 0, _, _, _, _, _, _, _, _, _ => none
 | k + 1, x9, x19, x20, x21, x1189000, x1189001, x1189002, x1189003, x1189004 => if x21 < x20 then (if 0 ≤ x21 then (if x21 < (x19.length : Int) then ((impl_GoalsOf.f ((rd_T95 x19 x21).f0) ((rd_T95 x19 x21).f1) ((rd_T95 x19 x21).f2) ((rd_T95 x19 x21).f3) ((rd_T95 x19 x21).f4)).bind fun bt1194 => (if bt1194.2.2 = true then ((hol_ pp_ ((rd_T95 x19 x21).f0) ((rd_T95 x19 x21).f1) ((rd_T95 x19 x21).f2) ((rd_T95 x19 x21).f3) ((rd_T95 x19 x21).f4)).bind fun t1197 => (impl_tableOfG.j1 pp_ k x9 bt1194.1 bt1194.2.1 x19 x20 x21 (!t1197) x1189000 x1189001 x1189002 x1189003 x1189004 ((rd_T95 x19 x21).f0) ((rd_T95 x19 x21).f1) ((rd_T95 x19 x21).f2) ((rd_T95 x19 x21).f3) ((rd_T95 x19 x21).f4))) else (impl_tableOfG.j1 pp_ k x9 bt1194.1 bt1194.2.1 x19 x20 x21 true x1189000 x1189001 x1189002 x1189003 x1189004 ((rd_T95 x19 x21).f0) ((rd_T95 x19 x21).f1) ((rd_T95 x19 x21).f2) ((rd_T95 x19 x21).f3) ((rd_T95 x19 x21).f4)))) else (none)) else (none)) else (some x9)
def impl_tableOfG.j1 (pp_ : S95 → Bool) : Nat → List (S115) → Int → Int → List (S95) → Int → Int → Bool → Int → Int → Int → List Int → Bool → Int → Int → Int → Int → Int → Option ((List (S115)))
 | 0, _, _, _, _, _, _, _, _, _, _, _, _, _, _, _, _, _ => none
 | k + 1, x9, x12, x13, x19, x20, x21, x38, x1189000, x1189001, x1189002, x1189003, x1189004, x1194000, x1194001, x1194002, x1194003, x1194004 => if x38 = true then (impl_tableOfG.l0 pp_ k x9 x19 x20 (wrap64 (x21 + 1)) x1189000 x1189001 x1189002 x1189003 x1189004) else (if 0 ≤ x1194000 then (if x1194000 < (x9.length : Int) then (if 0 ≤ x1194001 then (if x1194001 < (x9.length : Int) then ((some (x9.set (x1194000 : Int).toNat (⟨wrap64 (((rd_T115 x9 x1194000).f0) + 1), (rd_T115 x9 x1194000).f1, (rd_T115 x9 x1194000).f2, (rd_T115 x9 x1194000).f3, (rd_T115 x9 x1194000).f4, (rd_T115 x9 x1194000).f5, (rd_T115 x9 x1194000).f6⟩ : S115) : List (S115))).bind fun y1198 => ((some (y1198.set (x1194001 : Int).toNat (⟨wrap64 (((rd_T115 y1198 x1194001).f0) + 1), (rd_T115 y1198 x1194001).f1, (rd_T115 y1198 x1194001).f2, (rd_T115 y1198 x1194001).f3, (rd_T115 y1198 x1194001).f4, (rd_T115 y1198 x1194001).f5, (rd_T115 y1198 x1194001).f6⟩ : S115) : List (S115))).bind fun y1199 => ((some (y1199.set (x1194000 : Int).toNat (⟨(rd_T115 y1199 x1194000).f0, (rd_T115 y1199 x1194000).f1, (rd_T115 y1199 x1194000).f2, (rd_T115 y1199 x1194000).f3, wrap64 (((rd_T115 y1199 x1194000).f4) + x12), (rd_T115 y1199 x1194000).f5, (rd_T115 y1199 x1194000).f6⟩ : S115) : List (S115))).bind fun y1200 => ((some (y1200.set (x1194000 : Int).toNat (⟨(rd_T115 y1200 x1194000).f0, (rd_T115 y1200 x1194000).f1, (rd_T115 y1200 x1194000).f2, (rd_T115 y1200 x1194000).f3, (rd_T115 y1200 x1194000).f4, wrap64 (((rd_T115 y1200 x1194000).f5) + x13), (rd_T115 y1200 x1194000).f6⟩ : S115) : List (S115))).bind fun y1201 => ((some (y1201.set (x1194001 : Int).toNat (⟨(rd_T115 y1201 x1194001).f0, (rd_T115 y1201 x1194001).f1, (rd_T115 y1201 x1194001).f2, (rd_T115 y1201 x1194001).f3, wrap64 (((rd_T115 y1201 x1194001).f4) + x13), (rd_T115 y1201 x1194001).f5, (rd_T115 y1201 x1194001).f6⟩ : S115) : List (S115))).bind fun y1202 => ((some (y1202.set (x1194001 : Int).toNat (⟨(rd_T115 y1202 x1194001).f0, (rd_T115 y1202 x1194001).f1, (rd_T115 y1202 x1194001).f2, (rd_T115 y1202 x1194001).f3, (rd_T115 y1202 x1194001).f4, wrap64 (((rd_T115 y1202 x1194001).f5) + x12), (rd_T115 y1202 x1194001).f6⟩ : S115) : List (S115))).bind fun y1203 => (if x12 > x13 then ((some (y1203.set (x1194000 : Int).toNat (⟨(rd_T115 y1203 x1194000).f0, wrap64 (((rd_T115 y1203 x1194000).f1) + 1), (rd_T115 y1203 x1194000).f2, (rd_T115 y1203 x1194000).f3, (rd_T115 y1203 x1194000).f4, (rd_T115 y1203 x1194000).f5, (rd_T115 y1203 x1194000).f6⟩ : S115) : List (S115))).bind fun y1204 => ((some (y1204.set (x1194001 : Int).toNat (⟨(rd_T115 y1204 x1194001).f0, (rd_T115 y1204 x1194001).f1, (rd_T115 y1204 x1194001).f2, wrap64 (((rd_T115 y1204 x1194001).f3) + 1), (rd_T115 y1204 x1194001).f4, (rd_T115 y1204 x1194001).f5, (rd_T115 y1204 x1194001).f6⟩ : S115) : List (S115))).bind fun y1205 => ((some (y1205.set (x1194000 : Int).toNat (⟨(rd_T115 y1205 x1194000).f0, (rd_T115 y1205 x1194000).f1, (rd_T115 y1205 x1194000).f2, (rd_T115 y1205 x1194000).f3, (rd_T115 y1205 x1194000).f4, (rd_T115 y1205 x1194000).f5, wrap64 (((rd_T115 y1205 x1194000).f6) + x1189000)⟩ : S115) : List (S115))).bind fun y1206 => (impl_tableOfG.l0 pp_ k (y1206.set (x1194001 : Int).toNat (⟨(rd_T115 y1206 x1194001).f0, (rd_T115 y1206 x1194001).f1, (rd_T115 y1206 x1194001).f2, (rd_T115 y1206 x1194001).f3, (rd_T115 y1206 x1194001).f4, (rd_T115 y1206 x1194001).f5, wrap64 (((rd_T115 y1206 x1194001).f6) + x1189002)⟩ : S115)) x19 x20 (wrap64 (x21 + 1)) x1189000 x1189001 x1189002 x1189003 x1189004)))) else (if x12 < x13 then ((some (y1203.set (x1194001 : Int).toNat (⟨(rd_T115 y1203 x1194001).f0, wrap64 (((rd_T115 y1203 x1194001).f1) + 1), (rd_T115 y1203 x1194001).f2, (rd_T115 y1203 x1194001).f3, (rd_T115 y1203 x1194001).f4, (rd_T115 y1203 x1194001).f5, (rd_T115 y1203 x1194001).f6⟩ : S115) : List (S115))).bind fun y1208 => ((some (y1208.set (x1194000 : Int).toNat (⟨(rd_T115 y1208 x1194000).f0, (rd_T115 y1208 x1194000).f1, (rd_T115 y1208 x1194000).f2, wrap64 (((rd_T115 y1208 x1194000).f3) + 1), (rd_T115 y1208 x1194000).f4, (rd_T115 y1208 x1194000).f5, (rd_T115 y1208 x1194000).f6⟩ : S115) : List (S115))).bind fun y1209 => ((some (y1209.set (x1194001 : Int).toNat (⟨(rd_T115 y1209 x1194001).f0, (rd_T115 y1209 x1194001).f1, (rd_T115 y1209 x1194001).f2, (rd_T115 y1209 x1194001).f3, (rd_T115 y1209 x1194001).f4, (rd_T115 y1209 x1194001).f5, wrap64 (((rd_T115 y1209 x1194001).f6) + x1189000)⟩ : S115) : List (S115))).bind fun y1210 => (impl_tableOfG.l0 pp_ k (y1210.set (x1194000 : Int).toNat (⟨(rd_T115 y1210 x1194000).f0, (rd_T115 y1210 x1194000).f1, (rd_T115 y1210 x1194000).f2, (rd_T115 y1210 x1194000).f3, (rd_T115 y1210 x1194000).f4, (rd_T115 y1210 x1194000).f5, wrap64 (((rd_T115 y1210 x1194000).f6) + x1189002)⟩ : S115)) x19 x20 (wrap64 (x21 + 1)) x1189000 x1189001 x1189002 x1189003 x1189004)))) else ((some (y1203.set (x1194000 : Int).toNat (⟨(rd_T115 y1203 x1194000).f0, (rd_T115 y1203 x1194000).f1, wrap64 (((rd_T115 y1203 x1194000).f2) + 1), (rd_T115 y1203 x1194000).f3, (rd_T115 y1203 x1194000).f4, (rd_T115 y1203 x1194000).f5, (rd_T115 y1203 x1194000).f6⟩ : S115) : List (S115))).bind fun y1212 => ((some (y1212.set (x1194001 : Int).toNat (⟨(rd_T115 y1212 x1194001).f0, (rd_T115 y1212 x1194001).f1, wrap64 (((rd_T115 y1212 x1194001).f2) + 1), (rd_T115 y1212 x1194001).f3, (rd_T115 y1212 x1194001).f4, (rd_T115 y1212 x1194001).f5, (rd_T115 y1212 x1194001).f6⟩ : S115) : List (S115))).bind fun y1213 => ((some (y1213.set (x1194000 : Int).toNat (⟨(rd_T115 y1213 x1194000).f0, (rd_T115 y1213 x1194000).f1, (rd_T115 y1213 x1194000).f2, (rd_T115 y1213 x1194000).f3, (rd_T115 y1213 x1194000).f4, (rd_T115 y1213 x1194000).f5, wrap64 (((rd_T115 y1213 x1194000).f6) + x1189001)⟩ : S115) : List (S115))).bind fun y1214 => (impl_tableOfG.l0 pp_ k (y1214.set (x1194001 : Int).toNat (⟨(rd_T115 y1214 x1194001).f0, (rd_T115 y1214 x1194001).f1, (rd_T115 y1214 x1194001).f2, (rd_T115 y1214 x1194001).f3, (rd_T115 y1214 x1194001).f4, (rd_T115 y1214 x1194001).f5, wrap64 (((rd_T115 y1214 x1194001).f6) + x1189001)⟩ : S115)) x19 x20 (wrap64 (x21 + 1)) x1189000 x1189001 x1189002 x1189003 x1189004)))))))))))) else (none)) else (none)) else (none)) else (none))
end
def impl_tableOfG.f (pp_ : S95 → Bool) (k : Nat) (a0_0 : Int) (a0_1 : Int) (a0_2 : Int) (l0_3 : List Int) (a0_4 : Bool) (a1 : Int) (l2 : List (S95)) : Option ((List (S115))) := if 0 ≤ a1 then (if (a1 : Int).toNat ≤ 5026338869833 then (impl_tableOfG.l0 pp_ k (List.replicate (a1 : Int).toNat z115) l2 (l2.length : Int) 0 a0_0 a0_1 a0_2 l0_3 a0_4) else (none)) else (none)
def impl_tableOfG.T7 : Bool × List (List Nat × List Nat) := (true, [([], []), ([], []), ([1], [1]), ([0, 2], [0, 2]), ([], []), ([], []), ([5], [5]), ([4, 6], [4, 6]), ([3, 0, 1, 2, 3], [3]), ([7, 8, 0, 1, 2, 3, 4, 5, 6, 7, 8], [7])])
def impl_tableOfG.B7 : List Nat := [0, 0, 2, 7, 0, 0, 32, 112, 15, 511]
theorem impl_tableOfG.tab7 : rtab .any (opsOf Try.f135 7) = impl_tableOfG.T7 := by kernel_rfl
theorem impl_tableOfG.bits7 : waitsOk impl_tableOfG.T7.2 impl_tableOfG.B7 = true := by kernel_rfl
def impl_tableOfG.T16 : Bool × List (List Nat × List Nat) := (true, [([], []), ([0], [0]), ([1], [1]), ([2], [2]), ([], []), ([4], [4]), ([3, 5], [3, 5]), ([0, 0, 1, 2, 3, 4, 5, 6], [0]), ([7, 0, 1, 2, 3, 4, 5, 6], [7]), ([8, 6, 0, 1, 2, 3, 4, 5, 6], [6, 8])])
def impl_tableOfG.B16 : List Nat := [0, 1, 3, 7, 0, 16, 63, 127, 255, 511]
theorem impl_tableOfG.tab16 : rtab .any (opsOf Try.f135 16) = impl_tableOfG.T16 := by kernel_rfl
theorem impl_tableOfG.bits16 : waitsOk impl_tableOfG.T16.2 impl_tableOfG.B16 = true := by kernel_rfl
def impl_tableOfG.T17 : Bool × List (List Nat × List Nat) := (true, [([], []), ([0], [0]), ([1], [1]), ([2], [2]), ([], []), ([4], [4]), ([3, 5], [3, 5]), ([0, 0, 1, 2, 3, 4, 5, 6], [0]), ([7, 0, 1, 2, 3, 4, 5, 6], [7]), ([8, 6, 0, 1, 2, 3, 4, 5, 6], [6, 8])])
def impl_tableOfG.B17 : List Nat := [0, 1, 3, 7, 0, 16, 63, 127, 255, 511]
theorem impl_tableOfG.tab17 : rtab .any (opsOf Try.f135 17) = impl_tableOfG.T17 := by kernel_rfl
theorem impl_tableOfG.bits17 : waitsOk impl_tableOfG.T17.2 impl_tableOfG.B17 = true := by kernel_rfl
def impl_tableOfG.T21 : Bool × List (List Nat × List Nat) := (true, [([], []), ([0], [0]), ([1], [1]), ([2], [2]), ([], []), ([4], [4]), ([3, 5], [3, 5]), ([0, 0, 1, 2, 3, 4, 5, 6], [0]), ([7, 0, 1, 2, 3, 4, 5, 6], [7]), ([8, 6, 0, 1, 2, 3, 4, 5, 6], [6, 8])])
def impl_tableOfG.B21 : List Nat := [0, 1, 3, 7, 0, 16, 63, 127, 255, 511]
theorem impl_tableOfG.tab21 : rtab .any (opsOf Try.f135 21) = impl_tableOfG.T21 := by kernel_rfl
theorem impl_tableOfG.bits21 : waitsOk impl_tableOfG.T21.2 impl_tableOfG.B21 = true := by kernel_rfl
def impl_tableOfG.T22 : Bool × List (List Nat × List Nat) := (true, [([], []), ([0], [0]), ([1], [1]), ([2], [2]), ([], []), ([4], [4]), ([3, 5], [3, 5]), ([0, 0, 1, 2, 3, 4, 5, 6], [0]), ([7, 0, 1, 2, 3, 4, 5, 6], [7]), ([8, 6, 0, 1, 2, 3, 4, 5, 6], [6, 8])])
def impl_tableOfG.B22 : List Nat := [0, 1, 3, 7, 0, 16, 63, 127, 255, 511]
theorem impl_tableOfG.tab22 : rtab .any (opsOf Try.f135 22) = impl_tableOfG.T22 := by kernel_rfl
theorem impl_tableOfG.bits22 : waitsOk impl_tableOfG.T22.2 impl_tableOfG.B22 = true := by kernel_rfl
def impl_tableOfG.T26 : Bool × List (List Nat × List Nat) := (true, [([], []), ([0], [0]), ([1], [1]), ([2], [2]), ([], []), ([4], [4]), ([3, 5], [3, 5]), ([0, 0, 1, 2, 3, 4, 5, 6], [0]), ([7, 0, 1, 2, 3, 4, 5, 6], [7]), ([8, 6, 0, 1, 2, 3, 4, 5, 6], [6, 8])])
def impl_tableOfG.B26 : List Nat := [0, 1, 3, 7, 0, 16, 63, 127, 255, 511]
theorem impl_tableOfG.tab26 : rtab .any (opsOf Try.f135 26) = impl_tableOfG.T26 := by kernel_rfl
theorem impl_tableOfG.bits26 : waitsOk impl_tableOfG.T26.2 impl_tableOfG.B26 = true := by kernel_rfl
def impl_tableOfG.T27 : Bool × List (List Nat × List Nat) := (true, [([], []), ([0], [0]), ([1], [1]), ([2], [2]), ([], []), ([4], [4]), ([3, 5], [3, 5]), ([0, 0, 1, 2, 3, 4, 5, 6], [0]), ([7, 0, 1, 2, 3, 4, 5, 6], [7]), ([8, 6, 0, 1, 2, 3, 4, 5, 6], [6, 8])])
def impl_tableOfG.B27 : List Nat := [0, 1, 3, 7, 0, 16, 63, 127, 255, 511]
theorem impl_tableOfG.tab27 : rtab .any (opsOf Try.f135 27) = impl_tableOfG.T27 := by kernel_rfl
theorem impl_tableOfG.bits27 : waitsOk impl_tableOfG.T27.2 impl_tableOfG.B27 = true := by kernel_rfl
theorem impl_tableOfG.calls (pp_ : S95 → Bool) (g_ : Nat) (lb_ : Array Value) (eg_ : ∀ args w, (callFunc g_ args).run Try.prog w = .ok (.enter g_ args) w) (k : Nat) (a0_0 : Int) (a0_1 : Int) (a0_2 : Int) (A0_3 : Option Addr) (c0_3 : Nat) (l0_3 : List Int) (a0_4 : Bool) (a1 : Int) (A2 : Option Addr) (c2 : Nat) (l2 : List (S95)) (r : List (S115)) (w : World) (hr0_3 : Kd.C (Kd.int .i64) w A0_3 l0_3.length l0_3) (hc0_3 : l0_3.length ≤ c0_3) (hr2 : Kd.C k95 w A2 l2.length l2) (hc2 : l2.length ≤ c2) (hp_ : ∀ (W : World) (x : S95), Below w.heap.size w W → Calls Try.prog g_ (#[.agg #[.int .i64 x.f0, .int .i64 x.f1, .int .i64 x.f2, .int .i64 x.f3, .int .i64 x.f4]] ++ lb_) W fun e w' => e = .returned (.bool (pp_ x)) ∧ Below W.heap.size W w') (h : impl_tableOfG.f pp_ k a0_0 a0_1 a0_2 l0_3 a0_4 a1 l2 = some r) :
  Calls Try.prog 135 #[.agg #[.int .i64 a0_0, .int .i64 a0_1, .int .i64 a0_2, .slice A0_3 l0_3.length c0_3, .bool a0_4], .int .i64 a1, .slice A2 l2.length c2, .func (.func g_) #[] lb_] w fun e w' => ∃ v0_ : Value, e = .returned (v0_) ∧ Kd.R k115 115 w' w.heap.size (fun _ => True) v0_ r ∧ Below w.heap.size w w' := by
 have EG_ := dk eg_
 have HP_ := dk hp_
 clear eg_ hp_
 have hu33 := Try.underlying33
 have hu95 := Try.underlying95
 have HR0_3 := dk hr0_3
 have HC0_3 := dk hc0_3
 clear hr0_3 hc0_3
 have HR2 := dk hr2
 have HC2 := dk hc2
 clear hr2 hc2
 have HB := dk (Below.refl w.heap.size w)
 have H : (if 0 ≤ a1 then (if (a1 : Int).toNat ≤ 5026338869833 then (impl_tableOfG.l0 pp_ k (List.replicate (a1 : Int).toNat z115) l2 (l2.length : Int) 0 a0_0 a0_1 a0_2 l0_3 a0_4) else (none)) else (none)) = some r := h
 clear h
 by_cases c4 : 0 ≤ a1
 ·rw [if_pos c4] at H
  have c4b0 := eq_true c4
  have c4b1 : decide (0 ≤ a1) = true := decide_eq_true c4
  clear c4
  by_cases c5 : (a1 : Int).toNat ≤ 5026338869833
  ·rw [if_pos c5] at H
   have c5b0 := eq_true c5
   have c5b1 : decide ((a1 : Int).toNat ≤ 5026338869833) = true := decide_eq_true c5
   clear c5
   obtain ⟨y1189, hy1189⟩ : ∃ y_ : List (S115), y_ = (List.replicate (a1 : Int).toNat z115) := ⟨_, rfl⟩
   (first | (rw [Option.bind_some] at H; rw [← hy1189] at H) | rw [← hy1189] at H)
   have Ny1189 := dk hy1189
   clear hy1189
   have H' := dk H
   clear H
   go_enter Try.func135, Try.ntmps135
   go_wp2_with (first | ((with_reducible refine gate_dst (N := 4) rfl ?_); refine bx (N := 4) (cs := #[.int .i64 a0_0, .int .i64 a0_1, .int .i64 a0_2, .slice A0_3 l0_3.length c0_3, .bool a0_4]) (t := 33) ?_; intro gb1188 hg w6 hbox hb; have BK1188 := dk (hbox); have GW1188 := gs hg HB; have GE1188 := gs hg HB; replace HB := hs_ HB hb; clear hb hbox hg) | ((with_reducible refine gate_dst (N := 18) rfl ?_); refine Kd.R_make k115 _ 115 rfl (N := 18) rfl 112 _ _ rfl a1 rfl rfl Try.underlying112 (.agg #[(.int .i64 0), (.int .i64 0), (.int .i64 0), (.int .i64 0), (.int .i64 0), (.int .i64 0), (.int .i64 0)]) 56 info115 rfl (by decide) (by omega) z115 (ok := fun _ => True) (okp := fun _ => True) (k115_mkM _ _ _ z115 ) (fun _ hk => hk) trivial (oa) (Nat.le_trans (Nat.mul_le_mul_right _ (oa : a1.toNat ≤ 5026338869833)) (by omega)) (Below.refl _ _) (Nat.le_refl _) ?_; intro v1190 w7 ho8 hb hg_ hnew_; clear hg_ hnew_; (first | rw [← Ny1189.out] at ho8 | (simp only [Int.reduceToNat] at ho8; rw [← Ny1189.out] at ho8)); have HO1191 := kl ho8 HB; replace BK1188 := kb BK1188 hb; replace HB := hs_ HB hb; clear hb ho8))
   go_loopg [21] k (fun kq v21 w' => ∃ (x9_1 : List (S115)) (x21_1 : Int), v21 = .int .i64 x21_1 ∧ Aside0 (impl_tableOfG.l0 pp_ kq x9_1 l2 (l2.length : Int) x21_1 a0_0 a0_1 a0_2 l0_3 a0_4 = some r) ∧ Aside0 (kq ≤ k) ∧ Aside0 (Kd.R k115 115 w' w.heap.size (fun _ => True) v1190 x9_1) ∧ Aside0 (w'.heap[gb1188]? = some (.cells #[.int .i64 a0_0, .int .i64 a0_1, .int .i64 a0_2, (.slice A0_3 l0_3.length c0_3), .bool a0_4] 33 (0, 0))) ∧ Aside0 (Below w.heap.size w w'))
   case atStart => exact ⟨(y1189), (0), e2_, H', ⟨Nat.le_refl _⟩, ⟨rr HO1191⟩, ⟨bk BK1188⟩, ⟨bb HB⟩⟩
   case round =>
    clear H'
    (try clear c1)
    (try clear c2)
    (try clear p2)
    (try clear c4)
    (try clear c4b0)
    (try clear c4b1)
    (try clear c5)
    (try clear c5b0)
    (try clear c5b1)
    obtain ⟨x9_1, x21_1, rfl, HA, HK1, HO_9, BK1188, HB⟩ := hrel
    cases gk with
    | zero => exact absurd HA.out (by simp [impl_tableOfG.l0])
    | succ k1 =>
     have H := HA.out
     clear HA
     simp only [impl_tableOfG.l0] at H
     by_cases c9 : x21_1 < (l2.length : Int)
     ·rw [if_pos c9] at H
      have c9b0 : decide (x21_1 < (l2.length : Int)) = true := decide_eq_true c9
      clear c9
      by_cases c10 : 0 ≤ x21_1
      ·rw [if_pos c10] at H
       have c10b0 : decide (0 ≤ x21_1) = true := decide_eq_true c10
       clear c10
       by_cases c11 : x21_1 < (l2.length : Int)
       ·rw [if_pos c11] at H
        have c11b0 : decide (x21_1 < (l2.length : Int)) = true := decide_eq_true c11
        clear c11
        replace H := Option.bind_eq_some_iff.mp H
        obtain ⟨⟨t1194, t1195, t1196⟩, A120, H⟩ := H
        try dsimp only at H
        have A12 := dk A120
        clear A120
        have HC13 := dk H
        clear H
        have p1192 : 0 ≤ (x21_1 : Int) := oa
        have q1192 : x21_1 < (l2.length : Int) := oa
        obtain ⟨ad1192, e1192, hx1192_0, hx1192_1, hx1192_2, hx1192_3, hx1192_4⟩ := at_T95 HR2.out x21_1 p1192 q1192
        cases e1192
        replace hx1192_0 := hc HB hx1192_0
        replace hx1192_1 := hc HB hx1192_1
        replace hx1192_2 := hc HB hx1192_2
        replace hx1192_3 := hc HB hx1192_3
        replace hx1192_4 := hc HB hx1192_4
        replace p1192 := eq_true p1192
        replace q1192 := eq_true q1192
        go_upto_region 6 with (first | ((with_reducible refine gate_dst (N := 11) rfl ?_); refine bx (N := 11) (cs := #[.int .i64 0, .int .i64 0, .int .i64 0, .int .i64 0, .int .i64 0]) (t := 95) ?_; intro gb1193 hg w14 hbox hb; replace HO_9 := kr HO_9 hb; have BK1193 := dk (hbox); have GW1193 := gs hg HB; have GE1193 := gs hg HB; replace HB := hs_ HB hb; have NB1188_1193 := gn hg BK1188; have NB1193_1188 := gm hg BK1188; replace BK1188 := kb BK1188 hb; clear hb hbox hg; have hnb15 := NB1193_1188.out; have hnc15 := NB1188_1193.out; have ⟨z16_0, z16_1, z16_2, z16_3, z16_4, v16_0, v16_1, v16_2, v16_3, v16_4⟩ := rz5 BK1193) | ((with_reducible refine gate_callee (f := 171) rfl ?_); refine gl (some 27) Try.func171 #[.agg #[.int .i64 ((rd_T95 l2 x21_1).f0), .int .i64 ((rd_T95 l2 x21_1).f1), .int .i64 ((rd_T95 l2 x21_1).f2), .int .i64 ((rd_T95 l2 x21_1).f3), .int .i64 ((rd_T95 l2 x21_1).f4)]] ?_; (with_reducible refine (impl_GoalsOf.calls ((rd_T95 l2 x21_1).f0) ((rd_T95 l2 x21_1).f1) ((rd_T95 l2 x21_1).f2) ((rd_T95 l2 x21_1).f3) ((rd_T95 l2 x21_1).f4) t1194 t1195 t1196 _ A12.out).mono ?_); rintro e w17 ⟨rfl, hb⟩; refine ⟨_, rfl, ?_⟩; replace HO_9 := kf HO_9 BK1193 hb; replace BK1188 := dk (blk_below (bf NB1188_1193.out BK1188) hb); replace BK1193 := dk (blk_below (g := gb1193) (o := .cells #[.int .i64 ((rd_T95 l2 x21_1).f0), .int .i64 ((rd_T95 l2 x21_1).f1), .int .i64 ((rd_T95 l2 x21_1).f2), .int .i64 ((rd_T95 l2 x21_1).f3), .int .i64 ((rd_T95 l2 x21_1).f4)] 95 (0, 0)) (bp BK1193) hb); replace HB := hs_ HB hb; (try clear hb hb2 hk hi)))
        (try simp only [Act.put, List.setIfInBounds_toArray, List.set_cons_zero, List.set_cons_succ])
        go_cut [38] (fun v38 wc => ∃ (kq : Nat) (x38_12 : Bool), v38 = .bool x38_12 ∧ Aside0 (impl_tableOfG.j1 pp_ kq x9_1 t1194 t1195 l2 (l2.length : Int) x21_1 x38_12 a0_0 a0_1 a0_2 l0_3 a0_4 ((rd_T95 l2 x21_1).f0) ((rd_T95 l2 x21_1).f1) ((rd_T95 l2 x21_1).f2) ((rd_T95 l2 x21_1).f3) ((rd_T95 l2 x21_1).f4) = some r) ∧ Aside0 (kq ≤ k1) ∧ Aside0 (Kd.R k115 115 wc w.heap.size (fun _ => True) v1190 x9_1) ∧ Aside0 (wc.heap[gb1188]? = some (.cells #[.int .i64 a0_0, .int .i64 a0_1, .int .i64 a0_2, (.slice A0_3 l0_3.length c0_3), .bool a0_4] 33 (0, 0))) ∧ Aside0 (wc.heap[gb1193]? = some (.cells #[.int .i64 ((rd_T95 l2 x21_1).f0), .int .i64 ((rd_T95 l2 x21_1).f1), .int .i64 ((rd_T95 l2 x21_1).f2), .int .i64 ((rd_T95 l2 x21_1).f3), .int .i64 ((rd_T95 l2 x21_1).f4)] 95 (0, 0))) ∧ Aside0 (Below w.heap.size w wc))
        case first =>
         have H := HC13.out
         clear HC13
         by_cases c18 : t1196 = true
         ·subst c18
          rw [if_pos rfl] at H
          replace H := Option.bind_eq_some_iff.mp H
          obtain ⟨t1197, A190, H⟩ := H
          try dsimp only at H
          have A19 := dk A190
          clear A190
          have H' := dk H
          clear H
          have hnb20 := NB1193_1188.out
          have hnc20 := NB1188_1193.out
          have ⟨z21_0, z21_1, z21_2, z21_3, z21_4, v21_0, v21_1, v21_2, v21_3, v21_4⟩ := rz5 BK1193
          have eg_ := EG_.out
          go_wp2_with fail
          clear eg_
          refine (hol_calls_ (HP_.out _ ⟨(rd_T95 l2 x21_1).f0, (rd_T95 l2 x21_1).f1, (rd_T95 l2 x21_1).f2, (rd_T95 l2 x21_1).f3, (rd_T95 l2 x21_1).f4⟩ (bb HB)) A19.out).mono ?_
          rintro e w22 ⟨rfl, hb⟩
          replace HO_9 := kr HO_9 hb
          replace BK1188 := kb BK1188 hb
          replace BK1193 := kb BK1193 hb
          replace HB := hs_ HB hb
          (try clear hb hb2 hk hi)
          try go_wp2_with fail
          go_meet
          case rel => exact ⟨_, (!t1197), e2_, H', ⟨by have := HK1.out; first | omega | exact Nat.le_refl _⟩, ⟨rr HO_9⟩, ⟨bk BK1188⟩, ⟨bk BK1193⟩, ⟨bb HB⟩⟩
         ·replace c18 := Bool.eq_false_iff.mpr c18
          subst c18
          rw [if_neg (show ¬ (false = true) by decide)] at H
          have H' := dk H
          clear H
          go_wp2
          go_meet
          case rel => exact ⟨_, (true), e2_, H', ⟨by have := HK1.out; first | omega | exact Nat.le_refl _⟩, ⟨rr HO_9⟩, ⟨bk BK1188⟩, ⟨bk BK1193⟩, ⟨bb HB⟩⟩
        case rest =>
         clear HC13
         (try clear c1)
         (try clear p1)
         (try clear q1)
         (try clear hx1)
         (try clear c2)
         (try clear p2)
         (try clear c4)
         (try clear c4b0)
         (try clear c4b1)
         (try clear c5)
         (try clear c5b0)
         (try clear c5b1)
         (try clear c9)
         (try clear c9b0)
         (try clear c10)
         (try clear c10b0)
         (try clear c11)
         (try clear c11b0)
         (try clear p11)
         (try clear q11)
         (try clear hx11)
         (try clear c13)
         (try clear c15)
         (try clear c17)
         (try clear c18)
         (try clear c20)
         (try clear z16_0 z16_1 z16_2 z16_3 z16_4)
         (try clear z21_0 z21_1 z21_2 z21_3 z21_4)
         (try clear v16_0 v16_1 v16_2 v16_3 v16_4)
         (try clear v21_0 v21_1 v21_2 v21_3 v21_4)
         (try clear hx1192_0)
         (try clear hx1192_1)
         (try clear hx1192_2)
         (try clear hx1192_3)
         (try clear hx1192_4)
         (try clear p1192)
         (try clear p2)
         (try clear q1192)
         obtain ⟨kq, x38_12, rfl, HA, HJ12, HO_9, BK1188, BK1193, HB⟩ := hcut
         cases kq with
         | zero => exact absurd HA.out (by simp [impl_tableOfG.j1])
         | succ kj12 =>
          have H := HA.out
          clear HA
          simp only [impl_tableOfG.j1] at H
          by_cases c23 : x38_12 = true
          ·subst c23
           rw [if_pos rfl] at H
           have H' := dk H
           clear H
           go_wp2
           go_roundg kj12
           case measure => have := HK1.out; have := HJ12.out; omega
           case rel => exact ⟨(x9_1), (wrap64 (x21_1 + 1)), e2_, H', ⟨by have := HK1.out; have := HJ12.out; omega⟩, ⟨rr HO_9⟩, ⟨bk BK1188⟩, ⟨bb HB⟩⟩
          ·replace c23 := Bool.eq_false_iff.mpr c23
           subst c23
           rw [if_neg (show ¬ (false = true) by decide)] at H
           by_cases c24 : 0 ≤ ((rd_T95 l2 x21_1).f0)
           ·rw [if_pos c24] at H
            have c24b0 : decide (0 ≤ ((rd_T95 l2 x21_1).f0)) = true := decide_eq_true c24
            clear c24
            by_cases c25 : ((rd_T95 l2 x21_1).f0) < (x9_1.length : Int)
            ·rw [if_pos c25] at H
             have c25b0 : decide (((rd_T95 l2 x21_1).f0) < (x9_1.length : Int)) = true := decide_eq_true c25
             clear c25
             by_cases c27 : 0 ≤ ((rd_T95 l2 x21_1).f1)
             ·rw [if_pos c27] at H
              have c27b0 : decide (0 ≤ ((rd_T95 l2 x21_1).f1)) = true := decide_eq_true c27
              clear c27
              by_cases c28 : ((rd_T95 l2 x21_1).f1) < (x9_1.length : Int)
              ·rw [if_pos c28] at H
               have c28b0 : decide (((rd_T95 l2 x21_1).f1) < (x9_1.length : Int)) = true := decide_eq_true c28
               clear c28
               obtain ⟨y1198, hy1198⟩ : ∃ y_ : List (S115), y_ = (x9_1.set (((rd_T95 l2 x21_1).f0) : Int).toNat (⟨wrap64 (((rd_T115 x9_1 ((rd_T95 l2 x21_1).f0)).f0) + 1), (rd_T115 x9_1 ((rd_T95 l2 x21_1).f0)).f1, (rd_T115 x9_1 ((rd_T95 l2 x21_1).f0)).f2, (rd_T115 x9_1 ((rd_T95 l2 x21_1).f0)).f3, (rd_T115 x9_1 ((rd_T95 l2 x21_1).f0)).f4, (rd_T115 x9_1 ((rd_T95 l2 x21_1).f0)).f5, (rd_T115 x9_1 ((rd_T95 l2 x21_1).f0)).f6⟩ : S115)) := ⟨_, rfl⟩
               (first | (rw [Option.bind_some] at H; rw [← hy1198] at H) | rw [← hy1198] at H)
               have Ny1198 := dk hy1198
               clear hy1198
               obtain ⟨y1199, hy1199⟩ : ∃ y_ : List (S115), y_ = (y1198.set (((rd_T95 l2 x21_1).f1) : Int).toNat (⟨wrap64 (((rd_T115 y1198 ((rd_T95 l2 x21_1).f1)).f0) + 1), (rd_T115 y1198 ((rd_T95 l2 x21_1).f1)).f1, (rd_T115 y1198 ((rd_T95 l2 x21_1).f1)).f2, (rd_T115 y1198 ((rd_T95 l2 x21_1).f1)).f3, (rd_T115 y1198 ((rd_T95 l2 x21_1).f1)).f4, (rd_T115 y1198 ((rd_T95 l2 x21_1).f1)).f5, (rd_T115 y1198 ((rd_T95 l2 x21_1).f1)).f6⟩ : S115)) := ⟨_, rfl⟩
               (first | (rw [Option.bind_some] at H; rw [← hy1199] at H) | rw [← hy1199] at H)
               have Ny1199 := dk hy1199
               clear hy1199
               obtain ⟨y1200, hy1200⟩ : ∃ y_ : List (S115), y_ = (y1199.set (((rd_T95 l2 x21_1).f0) : Int).toNat (⟨(rd_T115 y1199 ((rd_T95 l2 x21_1).f0)).f0, (rd_T115 y1199 ((rd_T95 l2 x21_1).f0)).f1, (rd_T115 y1199 ((rd_T95 l2 x21_1).f0)).f2, (rd_T115 y1199 ((rd_T95 l2 x21_1).f0)).f3, wrap64 (((rd_T115 y1199 ((rd_T95 l2 x21_1).f0)).f4) + t1194), (rd_T115 y1199 ((rd_T95 l2 x21_1).f0)).f5, (rd_T115 y1199 ((rd_T95 l2 x21_1).f0)).f6⟩ : S115)) := ⟨_, rfl⟩
               (first | (rw [Option.bind_some] at H; rw [← hy1200] at H) | rw [← hy1200] at H)
               have Ny1200 := dk hy1200
               clear hy1200
               obtain ⟨y1201, hy1201⟩ : ∃ y_ : List (S115), y_ = (y1200.set (((rd_T95 l2 x21_1).f0) : Int).toNat (⟨(rd_T115 y1200 ((rd_T95 l2 x21_1).f0)).f0, (rd_T115 y1200 ((rd_T95 l2 x21_1).f0)).f1, (rd_T115 y1200 ((rd_T95 l2 x21_1).f0)).f2, (rd_T115 y1200 ((rd_T95 l2 x21_1).f0)).f3, (rd_T115 y1200 ((rd_T95 l2 x21_1).f0)).f4, wrap64 (((rd_T115 y1200 ((rd_T95 l2 x21_1).f0)).f5) + t1195), (rd_T115 y1200 ((rd_T95 l2 x21_1).f0)).f6⟩ : S115)) := ⟨_, rfl⟩
               (first | (rw [Option.bind_some] at H; rw [← hy1201] at H) | rw [← hy1201] at H)
               have Ny1201 := dk hy1201
               clear hy1201
               obtain ⟨y1202, hy1202⟩ : ∃ y_ : List (S115), y_ = (y1201.set (((rd_T95 l2 x21_1).f1) : Int).toNat (⟨(rd_T115 y1201 ((rd_T95 l2 x21_1).f1)).f0, (rd_T115 y1201 ((rd_T95 l2 x21_1).f1)).f1, (rd_T115 y1201 ((rd_T95 l2 x21_1).f1)).f2, (rd_T115 y1201 ((rd_T95 l2 x21_1).f1)).f3, wrap64 (((rd_T115 y1201 ((rd_T95 l2 x21_1).f1)).f4) + t1195), (rd_T115 y1201 ((rd_T95 l2 x21_1).f1)).f5, (rd_T115 y1201 ((rd_T95 l2 x21_1).f1)).f6⟩ : S115)) := ⟨_, rfl⟩
               (first | (rw [Option.bind_some] at H; rw [← hy1202] at H) | rw [← hy1202] at H)
               have Ny1202 := dk hy1202
               clear hy1202
               obtain ⟨y1203, hy1203⟩ : ∃ y_ : List (S115), y_ = (y1202.set (((rd_T95 l2 x21_1).f1) : Int).toNat (⟨(rd_T115 y1202 ((rd_T95 l2 x21_1).f1)).f0, (rd_T115 y1202 ((rd_T95 l2 x21_1).f1)).f1, (rd_T115 y1202 ((rd_T95 l2 x21_1).f1)).f2, (rd_T115 y1202 ((rd_T95 l2 x21_1).f1)).f3, (rd_T115 y1202 ((rd_T95 l2 x21_1).f1)).f4, wrap64 (((rd_T115 y1202 ((rd_T95 l2 x21_1).f1)).f5) + t1194), (rd_T115 y1202 ((rd_T95 l2 x21_1).f1)).f6⟩ : S115)) := ⟨_, rfl⟩
               (first | (rw [Option.bind_some] at H; rw [← hy1203] at H) | rw [← hy1203] at H)
               have Ny1203 := dk hy1203
               clear hy1203
               have HC30 := dk H
               clear H
               try go_wp2
               replace HO_9 := dk (Kd.R_drew HO_9.out)
               replace BK1188 := dk (blk_drew BK1188.out)
               replace BK1193 := dk (blk_drew BK1193.out)
               replace HB := dk (below_drew1 HB.out)
               have p26 : 0 ≤ (((rd_T95 l2 x21_1).f0) : Int) := oa
               have q26 : (((rd_T95 l2 x21_1).f0) : Int) < ((x9_1.length : Int) : Int) := oa
               obtain ⟨go26, co26, eo26, gb26, gl26, cl26, HG26⟩ := Kd.R_form HO_9.out (by omega)
               (first | cases eo26 | (injection eo26 with ea_ en_ ec_; (first | subst ea_ | (injection ea_ with ea_; subst ea_)); subst ec_; clear en_))
               have GB26 := dk gb26
               have GG26 := dk HG26
               clear gb26 gl26 HG26
               obtain ⟨ce26, hcl26, hM26, hcc26, hfr26⟩ := Kd.R_elem HO_9.out z115 (((rd_T95 l2 x21_1).f0) : Int) p26 q26
               obtain rfl := k115_openM hM26
               have hx26_0 : World.cell? _ ⟨go26, (((rd_T95 l2 x21_1).f0) : Int).toNat * 7, none⟩ = some (.int .i64 ((rd_T115 x9_1 ((rd_T95 l2 x21_1).f0)).f0)) := hcc26 0 _ rfl
               have hx26_1 : World.cell? _ ⟨go26, (((rd_T95 l2 x21_1).f0) : Int).toNat * 7 + 1, none⟩ = some (.int .i64 ((rd_T115 x9_1 ((rd_T95 l2 x21_1).f0)).f1)) := hcc26 1 _ rfl
               have hx26_2 : World.cell? _ ⟨go26, (((rd_T95 l2 x21_1).f0) : Int).toNat * 7 + 2, none⟩ = some (.int .i64 ((rd_T115 x9_1 ((rd_T95 l2 x21_1).f0)).f2)) := hcc26 2 _ rfl
               have hx26_3 : World.cell? _ ⟨go26, (((rd_T95 l2 x21_1).f0) : Int).toNat * 7 + 3, none⟩ = some (.int .i64 ((rd_T115 x9_1 ((rd_T95 l2 x21_1).f0)).f3)) := hcc26 3 _ rfl
               have hx26_4 : World.cell? _ ⟨go26, (((rd_T95 l2 x21_1).f0) : Int).toNat * 7 + 4, none⟩ = some (.int .i64 ((rd_T115 x9_1 ((rd_T95 l2 x21_1).f0)).f4)) := hcc26 4 _ rfl
               have hx26_5 : World.cell? _ ⟨go26, (((rd_T95 l2 x21_1).f0) : Int).toNat * 7 + 5, none⟩ = some (.int .i64 ((rd_T115 x9_1 ((rd_T95 l2 x21_1).f0)).f5)) := hcc26 5 _ rfl
               have hx26_6 : World.cell? _ ⟨go26, (((rd_T95 l2 x21_1).f0) : Int).toNat * 7 + 6, none⟩ = some (.int .i64 ((rd_T115 x9_1 ((rd_T95 l2 x21_1).f0)).f6)) := hcc26 6 _ rfl
               have hf26_0 : World.frozen? _ ⟨go26, (((rd_T95 l2 x21_1).f0) : Int).toNat * 7, none⟩ = false := hfr26 0
               have hf26_1 : World.frozen? _ ⟨go26, (((rd_T95 l2 x21_1).f0) : Int).toNat * 7 + 1, none⟩ = false := hfr26 1
               have hf26_2 : World.frozen? _ ⟨go26, (((rd_T95 l2 x21_1).f0) : Int).toNat * 7 + 2, none⟩ = false := hfr26 2
               have hf26_3 : World.frozen? _ ⟨go26, (((rd_T95 l2 x21_1).f0) : Int).toNat * 7 + 3, none⟩ = false := hfr26 3
               have hf26_4 : World.frozen? _ ⟨go26, (((rd_T95 l2 x21_1).f0) : Int).toNat * 7 + 4, none⟩ = false := hfr26 4
               have hf26_5 : World.frozen? _ ⟨go26, (((rd_T95 l2 x21_1).f0) : Int).toNat * 7 + 5, none⟩ = false := hfr26 5
               have hf26_6 : World.frozen? _ ⟨go26, (((rd_T95 l2 x21_1).f0) : Int).toNat * 7 + 6, none⟩ = false := hfr26 6
               clear hcl26 hcc26 hfr26; (try clear hM26)
               replace p26 := eq_true p26
               replace q26 := eq_true q26
               have p29 : 0 ≤ (((rd_T95 l2 x21_1).f1) : Int) := oa
               have q29 : (((rd_T95 l2 x21_1).f1) : Int) < ((x9_1.length : Int) : Int) := oa
               obtain ⟨cl26_, HG26_⟩ := Kd.R_typed HO_9.out go26 rfl
               have GG26 := dk HG26_
               clear HG26_
               obtain ⟨ce29, hcl29, hM29, hcc29, hfr29⟩ := Kd.R_elem HO_9.out z115 (((rd_T95 l2 x21_1).f1) : Int) p29 q29
               obtain rfl := k115_openM hM29
               have hx29_0 : World.cell? _ ⟨go26, (((rd_T95 l2 x21_1).f1) : Int).toNat * 7, none⟩ = some (.int .i64 ((rd_T115 x9_1 ((rd_T95 l2 x21_1).f1)).f0)) := hcc29 0 _ rfl
               have hx29_1 : World.cell? _ ⟨go26, (((rd_T95 l2 x21_1).f1) : Int).toNat * 7 + 1, none⟩ = some (.int .i64 ((rd_T115 x9_1 ((rd_T95 l2 x21_1).f1)).f1)) := hcc29 1 _ rfl
               have hx29_2 : World.cell? _ ⟨go26, (((rd_T95 l2 x21_1).f1) : Int).toNat * 7 + 2, none⟩ = some (.int .i64 ((rd_T115 x9_1 ((rd_T95 l2 x21_1).f1)).f2)) := hcc29 2 _ rfl
               have hx29_3 : World.cell? _ ⟨go26, (((rd_T95 l2 x21_1).f1) : Int).toNat * 7 + 3, none⟩ = some (.int .i64 ((rd_T115 x9_1 ((rd_T95 l2 x21_1).f1)).f3)) := hcc29 3 _ rfl
               have hx29_4 : World.cell? _ ⟨go26, (((rd_T95 l2 x21_1).f1) : Int).toNat * 7 + 4, none⟩ = some (.int .i64 ((rd_T115 x9_1 ((rd_T95 l2 x21_1).f1)).f4)) := hcc29 4 _ rfl
               have hx29_5 : World.cell? _ ⟨go26, (((rd_T95 l2 x21_1).f1) : Int).toNat * 7 + 5, none⟩ = some (.int .i64 ((rd_T115 x9_1 ((rd_T95 l2 x21_1).f1)).f5)) := hcc29 5 _ rfl
               have hx29_6 : World.cell? _ ⟨go26, (((rd_T95 l2 x21_1).f1) : Int).toNat * 7 + 6, none⟩ = some (.int .i64 ((rd_T115 x9_1 ((rd_T95 l2 x21_1).f1)).f6)) := hcc29 6 _ rfl
               have hf29_0 : World.frozen? _ ⟨go26, (((rd_T95 l2 x21_1).f1) : Int).toNat * 7, none⟩ = false := hfr29 0
               have hf29_1 : World.frozen? _ ⟨go26, (((rd_T95 l2 x21_1).f1) : Int).toNat * 7 + 1, none⟩ = false := hfr29 1
               have hf29_2 : World.frozen? _ ⟨go26, (((rd_T95 l2 x21_1).f1) : Int).toNat * 7 + 2, none⟩ = false := hfr29 2
               have hf29_3 : World.frozen? _ ⟨go26, (((rd_T95 l2 x21_1).f1) : Int).toNat * 7 + 3, none⟩ = false := hfr29 3
               have hf29_4 : World.frozen? _ ⟨go26, (((rd_T95 l2 x21_1).f1) : Int).toNat * 7 + 4, none⟩ = false := hfr29 4
               have hf29_5 : World.frozen? _ ⟨go26, (((rd_T95 l2 x21_1).f1) : Int).toNat * 7 + 5, none⟩ = false := hfr29 5
               have hf29_6 : World.frozen? _ ⟨go26, (((rd_T95 l2 x21_1).f1) : Int).toNat * 7 + 6, none⟩ = false := hfr29 6
               clear hcl29 hcc29 hfr29; (try clear hM29)
               replace p29 := eq_true p29
               replace q29 := eq_true q29
               refine start_ (n := 10) (S := fun w' => w'.cell? ⟨gb1193, 0, none⟩ = some (.int .i64 ((rd_T95 l2 x21_1).f0)) ∧ w'.cell? ⟨gb1193, 1, none⟩ = some (.int .i64 ((rd_T95 l2 x21_1).f1)) ∧ w'.cell? ⟨gb1193, 2, none⟩ = some (.int .i64 ((rd_T95 l2 x21_1).f2)) ∧ w'.cell? ⟨gb1193, 3, none⟩ = some (.int .i64 ((rd_T95 l2 x21_1).f3)) ∧ w'.cell? ⟨gb1193, 4, none⟩ = some (.int .i64 ((rd_T95 l2 x21_1).f4))) (ds := []) #[false, false, false, false, false, false, false, false, false, false] (by kernel_rfl) rfl rfl ⟨bc BK1193 0, bc BK1193 1, bc BK1193 2, bc BK1193 3, bc BK1193 4⟩ (fun hHeld => ?_); refine with_tabW impl_tableOfG.tab7 impl_tableOfG.bits7 (fun HT_ HW_ => ?_)
               generalize wc.drew = w31 at HO_9 BK1188 BK1193 HB GG26 hf26_0 hf26_1 hf26_2 hf26_3 hf26_4 hf26_5 hf26_6 hf29_0 hf29_1 hf29_2 hf29_3 hf29_4 hf29_5 hf29_6 hx26_0 hx26_1 hx26_2 hx26_3 hx26_4 hx26_5 hx26_6 hx29_0 hx29_1 hx29_2 hx29_3 hx29_4 hx29_5 hx29_6 hHeld ⊢
               refine pz_ 0 39 ?_
               refine pz_ 1 40 ?_
               refine pz_ 4 43 ?_
               refine pz_ 5 44 ?_
               refine tk_ 2 41 ?_
               refine pz_ 3 42 ?_
               refine pz_ 8 15 ?_
               refine tk_ 6 45 ?_
               refine pz_ 7 46 ?_
               refine pz_ 9 16 ?_
               refine done_ (done_of HT_.out (by kernel_rfl)) ?_
               have HX32 := dk (show Kd.R k115 115 w31 w.heap.size (fun _ => True) (.slice (some ⟨go26, 0, none⟩) x9_1.length co26) x9_1 from (rr HO_9))
               obtain ⟨ce32, hcl32, hM32, hcc32, hfr32⟩ := Kd.R_elem HX32.out z115 (((rd_T95 l2 x21_1).f0) : Int) (oa) (by have h_ : (((rd_T95 l2 x21_1).f0) : Int) < ((x9_1.length : Int) : Int) := oa; first | exact h_ | (have e_ := (Kd.R_reads' HO_9.out).1; omega) | simpa using h_)
               obtain rfl := k115_openM hM32
               have HP32 := Kd.R_seg HX32.out (((rd_T95 l2 x21_1).f0) : Int) (oa) (by have h_ : (((rd_T95 l2 x21_1).f0) : Int) < ((x9_1.length : Int) : Int) := oa; first | exact h_ | (have e_ := (Kd.R_reads' HO_9.out).1; omega) | simpa using h_) (seg := [.int .i64 (wrap64 (((rd_T115 x9_1 ((rd_T95 l2 x21_1).f0)).f0) + 1))]) (j := 0) hcl32 hcc32 (show 1 ≤ 7 from by decide) (x' := (⟨wrap64 (((rd_T115 x9_1 ((rd_T95 l2 x21_1).f0)).f0) + 1), (rd_T115 x9_1 ((rd_T95 l2 x21_1).f0)).f1, (rd_T115 x9_1 ((rd_T95 l2 x21_1).f0)).f2, (rd_T115 x9_1 ((rd_T95 l2 x21_1).f0)).f3, (rd_T115 x9_1 ((rd_T95 l2 x21_1).f0)).f4, (rd_T115 x9_1 ((rd_T95 l2 x21_1).f0)).f5, (rd_T115 x9_1 ((rd_T95 l2 x21_1).f0)).f6⟩ : S115)) (k115_mkM _ _ _ (⟨wrap64 (((rd_T115 x9_1 ((rd_T95 l2 x21_1).f0)).f0) + 1), (rd_T115 x9_1 ((rd_T95 l2 x21_1).f0)).f1, (rd_T115 x9_1 ((rd_T95 l2 x21_1).f0)).f2, (rd_T115 x9_1 ((rd_T95 l2 x21_1).f0)).f3, (rd_T115 x9_1 ((rd_T95 l2 x21_1).f0)).f4, (rd_T115 x9_1 ((rd_T95 l2 x21_1).f0)).f5, (rd_T115 x9_1 ((rd_T95 l2 x21_1).f0)).f6⟩ : S115) ) (fun _ hk => hk)
               have hx32_0 := hcc32 0 _ rfl
               (try simp only [show (k115).sz = 7 from rfl, Nat.mul_one, Nat.add_zero] at hx32_0)
               have hf32_0 := hfr32 0
               (try simp only [show (k115).sz = 7 from rfl, Nat.mul_one, Nat.add_zero] at hf32_0)
               clear hcl32 hcc32 hfr32; (try clear hM32)
               go_upto_if 125 with (first | ((with_reducible refine gate_store (t := 3) (p := 53) rfl ?_); refine store_event (t := 3) (p := 53) (v := ?vo_w33) (w1 := (w31.setCell ⟨go26, (((rd_T95 l2 x21_1).f0) : Int).toNat * 7, none⟩ (.int .i64 (wrap64 (((rd_T115 x9_1 ((rd_T95 l2 x21_1).f0)).f0) + 1))))) ?hg ?ho ?hn ?hr ?_; (case ho => rfl); (case hg => rfl); (case hn => rfl); (case hr => first | (go_simp; done) | (go_simp; rfl)); intro w33 hw; have hg : w31.grownBy w33 (some go26) := (by rw [hw]; exact HP32.2); have hp_ : Kd.R k115 115 w33 w.heap.size (fun _ => True) (.slice (some ⟨go26, 0, none⟩) x9_1.length co26) y1198 := (by rw [hw, Ny1198.out]; exact HP32.1); clear HP32; replace BK1188 := dk (blk_grown (g := gb1188) (o := .cells #[.int .i64 a0_0, .int .i64 a0_1, .int .i64 a0_2, .slice A0_3 l0_3.length c0_3, .bool a0_4] 33 (0, 0)) (bk BK1188) hg (Kd.R_ne HO_9.out BK1188.out (by decide))); replace BK1193 := dk (blk_grown (g := gb1193) (o := .cells #[.int .i64 ((rd_T95 l2 x21_1).f0), .int .i64 ((rd_T95 l2 x21_1).f1), .int .i64 ((rd_T95 l2 x21_1).f2), .int .i64 ((rd_T95 l2 x21_1).f3), .int .i64 ((rd_T95 l2 x21_1).f4)] 95 (0, 0)) (bk BK1193) hg (Kd.R_ne HO_9.out BK1193.out (by decide))); replace HO_9 := dk (hp_); replace HB := dk (by rw [hw]; exact below_set (HB.out) GB26.out : Below w.heap.size w w33); clear hg hw hp_; have HX34 := dk (show Kd.R k115 115 w33 w.heap.size (fun _ => True) (.slice (some ⟨go26, 0, none⟩) x9_1.length co26) y1198 from (rr HO_9)); obtain ⟨ce34, hcl34, hM34, hcc34, hfr34⟩ := Kd.R_elem HX34.out z115 (((rd_T95 l2 x21_1).f1) : Int) (oa) (by have h_ : (((rd_T95 l2 x21_1).f1) : Int) < ((x9_1.length : Int) : Int) := oa; first | exact h_ | (have e_ := (Kd.R_reads' HO_9.out).1; omega) | simpa using h_); obtain rfl := k115_openM hM34; have HP34 := Kd.R_seg HX34.out (((rd_T95 l2 x21_1).f1) : Int) (oa) (by have h_ : (((rd_T95 l2 x21_1).f1) : Int) < ((x9_1.length : Int) : Int) := oa; first | exact h_ | (have e_ := (Kd.R_reads' HO_9.out).1; omega) | simpa using h_) (seg := [.int .i64 (wrap64 (((rd_T115 y1198 ((rd_T95 l2 x21_1).f1)).f0) + 1))]) (j := 0) hcl34 hcc34 (show 1 ≤ 7 from by decide) (x' := (⟨wrap64 (((rd_T115 y1198 ((rd_T95 l2 x21_1).f1)).f0) + 1), (rd_T115 y1198 ((rd_T95 l2 x21_1).f1)).f1, (rd_T115 y1198 ((rd_T95 l2 x21_1).f1)).f2, (rd_T115 y1198 ((rd_T95 l2 x21_1).f1)).f3, (rd_T115 y1198 ((rd_T95 l2 x21_1).f1)).f4, (rd_T115 y1198 ((rd_T95 l2 x21_1).f1)).f5, (rd_T115 y1198 ((rd_T95 l2 x21_1).f1)).f6⟩ : S115)) (k115_mkM _ _ _ (⟨wrap64 (((rd_T115 y1198 ((rd_T95 l2 x21_1).f1)).f0) + 1), (rd_T115 y1198 ((rd_T95 l2 x21_1).f1)).f1, (rd_T115 y1198 ((rd_T95 l2 x21_1).f1)).f2, (rd_T115 y1198 ((rd_T95 l2 x21_1).f1)).f3, (rd_T115 y1198 ((rd_T95 l2 x21_1).f1)).f4, (rd_T115 y1198 ((rd_T95 l2 x21_1).f1)).f5, (rd_T115 y1198 ((rd_T95 l2 x21_1).f1)).f6⟩ : S115) ) (fun _ hk => hk); have hx34_0 := hcc34 0 _ rfl; (try simp only [show (k115).sz = 7 from rfl, Nat.mul_one, Nat.add_zero] at hx34_0); have hf34_0 := hfr34 0; (try simp only [show (k115).sz = 7 from rfl, Nat.mul_one, Nat.add_zero] at hf34_0); clear hcl34 hcc34 hfr34; (try clear hM34)) | ((with_reducible refine gate_store (t := 3) (p := 60) rfl ?_); refine store_event (t := 3) (p := 60) (v := ?vo_w35) (w1 := (w33.setCell ⟨go26, (((rd_T95 l2 x21_1).f1) : Int).toNat * 7, none⟩ (.int .i64 (wrap64 (((rd_T115 y1198 ((rd_T95 l2 x21_1).f1)).f0) + 1))))) ?hg ?ho ?hn ?hr ?_; (case ho => rfl); (case hg => rfl); (case hn => rfl); (case hr => first | (go_simp; done) | (go_simp; rfl)); intro w35 hw; have hg : w33.grownBy w35 (some go26) := (by rw [hw]; exact HP34.2); have hp_ : Kd.R k115 115 w35 w.heap.size (fun _ => True) (.slice (some ⟨go26, 0, none⟩) x9_1.length co26) y1199 := (by rw [hw, Ny1199.out]; exact HP34.1); clear HP34; replace BK1188 := dk (blk_grown (g := gb1188) (o := .cells #[.int .i64 a0_0, .int .i64 a0_1, .int .i64 a0_2, .slice A0_3 l0_3.length c0_3, .bool a0_4] 33 (0, 0)) (bk BK1188) hg (Kd.R_ne HO_9.out BK1188.out (by decide))); replace BK1193 := dk (blk_grown (g := gb1193) (o := .cells #[.int .i64 ((rd_T95 l2 x21_1).f0), .int .i64 ((rd_T95 l2 x21_1).f1), .int .i64 ((rd_T95 l2 x21_1).f2), .int .i64 ((rd_T95 l2 x21_1).f3), .int .i64 ((rd_T95 l2 x21_1).f4)] 95 (0, 0)) (bk BK1193) hg (Kd.R_ne HO_9.out BK1193.out (by decide))); replace HO_9 := dk (hp_); replace HB := dk (by rw [hw]; exact below_set (HB.out) GB26.out : Below w.heap.size w w35); clear hg hw hp_; have HX36 := dk (show Kd.R k115 115 w35 w.heap.size (fun _ => True) (.slice (some ⟨go26, 0, none⟩) x9_1.length co26) y1199 from (rr HO_9)); obtain ⟨ce36, hcl36, hM36, hcc36, hfr36⟩ := Kd.R_elem HX36.out z115 (((rd_T95 l2 x21_1).f0) : Int) (oa) (by have h_ : (((rd_T95 l2 x21_1).f0) : Int) < ((x9_1.length : Int) : Int) := oa; first | exact h_ | (have e_ := (Kd.R_reads' HO_9.out).1; omega) | simpa using h_); obtain rfl := k115_openM hM36; have HP36 := Kd.R_seg HX36.out (((rd_T95 l2 x21_1).f0) : Int) (oa) (by have h_ : (((rd_T95 l2 x21_1).f0) : Int) < ((x9_1.length : Int) : Int) := oa; first | exact h_ | (have e_ := (Kd.R_reads' HO_9.out).1; omega) | simpa using h_) (seg := [.int .i64 (wrap64 (((rd_T115 y1199 ((rd_T95 l2 x21_1).f0)).f4) + t1194))]) (j := 4) hcl36 hcc36 (show 5 ≤ 7 from by decide) (x' := (⟨(rd_T115 y1199 ((rd_T95 l2 x21_1).f0)).f0, (rd_T115 y1199 ((rd_T95 l2 x21_1).f0)).f1, (rd_T115 y1199 ((rd_T95 l2 x21_1).f0)).f2, (rd_T115 y1199 ((rd_T95 l2 x21_1).f0)).f3, wrap64 (((rd_T115 y1199 ((rd_T95 l2 x21_1).f0)).f4) + t1194), (rd_T115 y1199 ((rd_T95 l2 x21_1).f0)).f5, (rd_T115 y1199 ((rd_T95 l2 x21_1).f0)).f6⟩ : S115)) (k115_mkM _ _ _ (⟨(rd_T115 y1199 ((rd_T95 l2 x21_1).f0)).f0, (rd_T115 y1199 ((rd_T95 l2 x21_1).f0)).f1, (rd_T115 y1199 ((rd_T95 l2 x21_1).f0)).f2, (rd_T115 y1199 ((rd_T95 l2 x21_1).f0)).f3, wrap64 (((rd_T115 y1199 ((rd_T95 l2 x21_1).f0)).f4) + t1194), (rd_T115 y1199 ((rd_T95 l2 x21_1).f0)).f5, (rd_T115 y1199 ((rd_T95 l2 x21_1).f0)).f6⟩ : S115) ) (fun _ hk => hk); have hx36_4 := hcc36 4 _ rfl; (try simp only [show (k115).sz = 7 from rfl, Nat.mul_one, Nat.add_zero] at hx36_4); have hf36_4 := hfr36 4; (try simp only [show (k115).sz = 7 from rfl, Nat.mul_one, Nat.add_zero] at hf36_4); clear hcl36 hcc36 hfr36; (try clear hM36)) | ((with_reducible refine gate_store (t := 3) (p := 68) rfl ?_); refine store_event (t := 3) (p := 68) (v := ?vo_w37) (w1 := (w35.setCell ⟨go26, (((rd_T95 l2 x21_1).f0) : Int).toNat * 7 + 4, none⟩ (.int .i64 (wrap64 (((rd_T115 y1199 ((rd_T95 l2 x21_1).f0)).f4) + t1194))))) ?hg ?ho ?hn ?hr ?_; (case ho => rfl); (case hg => rfl); (case hn => rfl); (case hr => first | (go_simp; done) | (go_simp; rfl)); intro w37 hw; have hg : w35.grownBy w37 (some go26) := (by rw [hw]; exact HP36.2); have hp_ : Kd.R k115 115 w37 w.heap.size (fun _ => True) (.slice (some ⟨go26, 0, none⟩) x9_1.length co26) y1200 := (by rw [hw, Ny1200.out]; exact HP36.1); clear HP36; replace BK1188 := dk (blk_grown (g := gb1188) (o := .cells #[.int .i64 a0_0, .int .i64 a0_1, .int .i64 a0_2, .slice A0_3 l0_3.length c0_3, .bool a0_4] 33 (0, 0)) (bk BK1188) hg (Kd.R_ne HO_9.out BK1188.out (by decide))); replace BK1193 := dk (blk_grown (g := gb1193) (o := .cells #[.int .i64 ((rd_T95 l2 x21_1).f0), .int .i64 ((rd_T95 l2 x21_1).f1), .int .i64 ((rd_T95 l2 x21_1).f2), .int .i64 ((rd_T95 l2 x21_1).f3), .int .i64 ((rd_T95 l2 x21_1).f4)] 95 (0, 0)) (bk BK1193) hg (Kd.R_ne HO_9.out BK1193.out (by decide))); replace HO_9 := dk (hp_); replace HB := dk (by rw [hw]; exact below_set (HB.out) GB26.out : Below w.heap.size w w37); clear hg hw hp_; have HX38 := dk (show Kd.R k115 115 w37 w.heap.size (fun _ => True) (.slice (some ⟨go26, 0, none⟩) x9_1.length co26) y1200 from (rr HO_9)); obtain ⟨ce38, hcl38, hM38, hcc38, hfr38⟩ := Kd.R_elem HX38.out z115 (((rd_T95 l2 x21_1).f0) : Int) (oa) (by have h_ : (((rd_T95 l2 x21_1).f0) : Int) < ((x9_1.length : Int) : Int) := oa; first | exact h_ | (have e_ := (Kd.R_reads' HO_9.out).1; omega) | simpa using h_); obtain rfl := k115_openM hM38; have HP38 := Kd.R_seg HX38.out (((rd_T95 l2 x21_1).f0) : Int) (oa) (by have h_ : (((rd_T95 l2 x21_1).f0) : Int) < ((x9_1.length : Int) : Int) := oa; first | exact h_ | (have e_ := (Kd.R_reads' HO_9.out).1; omega) | simpa using h_) (seg := [.int .i64 (wrap64 (((rd_T115 y1200 ((rd_T95 l2 x21_1).f0)).f5) + t1195))]) (j := 5) hcl38 hcc38 (show 6 ≤ 7 from by decide) (x' := (⟨(rd_T115 y1200 ((rd_T95 l2 x21_1).f0)).f0, (rd_T115 y1200 ((rd_T95 l2 x21_1).f0)).f1, (rd_T115 y1200 ((rd_T95 l2 x21_1).f0)).f2, (rd_T115 y1200 ((rd_T95 l2 x21_1).f0)).f3, (rd_T115 y1200 ((rd_T95 l2 x21_1).f0)).f4, wrap64 (((rd_T115 y1200 ((rd_T95 l2 x21_1).f0)).f5) + t1195), (rd_T115 y1200 ((rd_T95 l2 x21_1).f0)).f6⟩ : S115)) (k115_mkM _ _ _ (⟨(rd_T115 y1200 ((rd_T95 l2 x21_1).f0)).f0, (rd_T115 y1200 ((rd_T95 l2 x21_1).f0)).f1, (rd_T115 y1200 ((rd_T95 l2 x21_1).f0)).f2, (rd_T115 y1200 ((rd_T95 l2 x21_1).f0)).f3, (rd_T115 y1200 ((rd_T95 l2 x21_1).f0)).f4, wrap64 (((rd_T115 y1200 ((rd_T95 l2 x21_1).f0)).f5) + t1195), (rd_T115 y1200 ((rd_T95 l2 x21_1).f0)).f6⟩ : S115) ) (fun _ hk => hk); have hx38_5 := hcc38 5 _ rfl; (try simp only [show (k115).sz = 7 from rfl, Nat.mul_one, Nat.add_zero] at hx38_5); have hf38_5 := hfr38 5; (try simp only [show (k115).sz = 7 from rfl, Nat.mul_one, Nat.add_zero] at hf38_5); clear hcl38 hcc38 hfr38; (try clear hM38)) | ((with_reducible refine gate_store (t := 3) (p := 76) rfl ?_); refine store_event (t := 3) (p := 76) (v := ?vo_w39) (w1 := (w37.setCell ⟨go26, (((rd_T95 l2 x21_1).f0) : Int).toNat * 7 + 5, none⟩ (.int .i64 (wrap64 (((rd_T115 y1200 ((rd_T95 l2 x21_1).f0)).f5) + t1195))))) ?hg ?ho ?hn ?hr ?_; (case ho => rfl); (case hg => rfl); (case hn => rfl); (case hr => first | (go_simp; done) | (go_simp; rfl)); intro w39 hw; have hg : w37.grownBy w39 (some go26) := (by rw [hw]; exact HP38.2); have hp_ : Kd.R k115 115 w39 w.heap.size (fun _ => True) (.slice (some ⟨go26, 0, none⟩) x9_1.length co26) y1201 := (by rw [hw, Ny1201.out]; exact HP38.1); clear HP38; replace BK1188 := dk (blk_grown (g := gb1188) (o := .cells #[.int .i64 a0_0, .int .i64 a0_1, .int .i64 a0_2, .slice A0_3 l0_3.length c0_3, .bool a0_4] 33 (0, 0)) (bk BK1188) hg (Kd.R_ne HO_9.out BK1188.out (by decide))); replace BK1193 := dk (blk_grown (g := gb1193) (o := .cells #[.int .i64 ((rd_T95 l2 x21_1).f0), .int .i64 ((rd_T95 l2 x21_1).f1), .int .i64 ((rd_T95 l2 x21_1).f2), .int .i64 ((rd_T95 l2 x21_1).f3), .int .i64 ((rd_T95 l2 x21_1).f4)] 95 (0, 0)) (bk BK1193) hg (Kd.R_ne HO_9.out BK1193.out (by decide))); replace HO_9 := dk (hp_); replace HB := dk (by rw [hw]; exact below_set (HB.out) GB26.out : Below w.heap.size w w39); clear hg hw hp_; have HX40 := dk (show Kd.R k115 115 w39 w.heap.size (fun _ => True) (.slice (some ⟨go26, 0, none⟩) x9_1.length co26) y1201 from (rr HO_9)); obtain ⟨ce40, hcl40, hM40, hcc40, hfr40⟩ := Kd.R_elem HX40.out z115 (((rd_T95 l2 x21_1).f1) : Int) (oa) (by have h_ : (((rd_T95 l2 x21_1).f1) : Int) < ((x9_1.length : Int) : Int) := oa; first | exact h_ | (have e_ := (Kd.R_reads' HO_9.out).1; omega) | simpa using h_); obtain rfl := k115_openM hM40; have HP40 := Kd.R_seg HX40.out (((rd_T95 l2 x21_1).f1) : Int) (oa) (by have h_ : (((rd_T95 l2 x21_1).f1) : Int) < ((x9_1.length : Int) : Int) := oa; first | exact h_ | (have e_ := (Kd.R_reads' HO_9.out).1; omega) | simpa using h_) (seg := [.int .i64 (wrap64 (((rd_T115 y1201 ((rd_T95 l2 x21_1).f1)).f4) + t1195))]) (j := 4) hcl40 hcc40 (show 5 ≤ 7 from by decide) (x' := (⟨(rd_T115 y1201 ((rd_T95 l2 x21_1).f1)).f0, (rd_T115 y1201 ((rd_T95 l2 x21_1).f1)).f1, (rd_T115 y1201 ((rd_T95 l2 x21_1).f1)).f2, (rd_T115 y1201 ((rd_T95 l2 x21_1).f1)).f3, wrap64 (((rd_T115 y1201 ((rd_T95 l2 x21_1).f1)).f4) + t1195), (rd_T115 y1201 ((rd_T95 l2 x21_1).f1)).f5, (rd_T115 y1201 ((rd_T95 l2 x21_1).f1)).f6⟩ : S115)) (k115_mkM _ _ _ (⟨(rd_T115 y1201 ((rd_T95 l2 x21_1).f1)).f0, (rd_T115 y1201 ((rd_T95 l2 x21_1).f1)).f1, (rd_T115 y1201 ((rd_T95 l2 x21_1).f1)).f2, (rd_T115 y1201 ((rd_T95 l2 x21_1).f1)).f3, wrap64 (((rd_T115 y1201 ((rd_T95 l2 x21_1).f1)).f4) + t1195), (rd_T115 y1201 ((rd_T95 l2 x21_1).f1)).f5, (rd_T115 y1201 ((rd_T95 l2 x21_1).f1)).f6⟩ : S115) ) (fun _ hk => hk); have hx40_4 := hcc40 4 _ rfl; (try simp only [show (k115).sz = 7 from rfl, Nat.mul_one, Nat.add_zero] at hx40_4); have hf40_4 := hfr40 4; (try simp only [show (k115).sz = 7 from rfl, Nat.mul_one, Nat.add_zero] at hf40_4); clear hcl40 hcc40 hfr40; (try clear hM40)) | ((with_reducible refine gate_store (t := 3) (p := 84) rfl ?_); refine store_event (t := 3) (p := 84) (v := ?vo_w41) (w1 := (w39.setCell ⟨go26, (((rd_T95 l2 x21_1).f1) : Int).toNat * 7 + 4, none⟩ (.int .i64 (wrap64 (((rd_T115 y1201 ((rd_T95 l2 x21_1).f1)).f4) + t1195))))) ?hg ?ho ?hn ?hr ?_; (case ho => rfl); (case hg => rfl); (case hn => rfl); (case hr => first | (go_simp; done) | (go_simp; rfl)); intro w41 hw; have hg : w39.grownBy w41 (some go26) := (by rw [hw]; exact HP40.2); have hp_ : Kd.R k115 115 w41 w.heap.size (fun _ => True) (.slice (some ⟨go26, 0, none⟩) x9_1.length co26) y1202 := (by rw [hw, Ny1202.out]; exact HP40.1); clear HP40; replace BK1188 := dk (blk_grown (g := gb1188) (o := .cells #[.int .i64 a0_0, .int .i64 a0_1, .int .i64 a0_2, .slice A0_3 l0_3.length c0_3, .bool a0_4] 33 (0, 0)) (bk BK1188) hg (Kd.R_ne HO_9.out BK1188.out (by decide))); replace BK1193 := dk (blk_grown (g := gb1193) (o := .cells #[.int .i64 ((rd_T95 l2 x21_1).f0), .int .i64 ((rd_T95 l2 x21_1).f1), .int .i64 ((rd_T95 l2 x21_1).f2), .int .i64 ((rd_T95 l2 x21_1).f3), .int .i64 ((rd_T95 l2 x21_1).f4)] 95 (0, 0)) (bk BK1193) hg (Kd.R_ne HO_9.out BK1193.out (by decide))); replace HO_9 := dk (hp_); replace HB := dk (by rw [hw]; exact below_set (HB.out) GB26.out : Below w.heap.size w w41); clear hg hw hp_; have HX42 := dk (show Kd.R k115 115 w41 w.heap.size (fun _ => True) (.slice (some ⟨go26, 0, none⟩) x9_1.length co26) y1202 from (rr HO_9)); obtain ⟨ce42, hcl42, hM42, hcc42, hfr42⟩ := Kd.R_elem HX42.out z115 (((rd_T95 l2 x21_1).f1) : Int) (oa) (by have h_ : (((rd_T95 l2 x21_1).f1) : Int) < ((x9_1.length : Int) : Int) := oa; first | exact h_ | (have e_ := (Kd.R_reads' HO_9.out).1; omega) | simpa using h_); obtain rfl := k115_openM hM42; have HP42 := Kd.R_seg HX42.out (((rd_T95 l2 x21_1).f1) : Int) (oa) (by have h_ : (((rd_T95 l2 x21_1).f1) : Int) < ((x9_1.length : Int) : Int) := oa; first | exact h_ | (have e_ := (Kd.R_reads' HO_9.out).1; omega) | simpa using h_) (seg := [.int .i64 (wrap64 (((rd_T115 y1202 ((rd_T95 l2 x21_1).f1)).f5) + t1194))]) (j := 5) hcl42 hcc42 (show 6 ≤ 7 from by decide) (x' := (⟨(rd_T115 y1202 ((rd_T95 l2 x21_1).f1)).f0, (rd_T115 y1202 ((rd_T95 l2 x21_1).f1)).f1, (rd_T115 y1202 ((rd_T95 l2 x21_1).f1)).f2, (rd_T115 y1202 ((rd_T95 l2 x21_1).f1)).f3, (rd_T115 y1202 ((rd_T95 l2 x21_1).f1)).f4, wrap64 (((rd_T115 y1202 ((rd_T95 l2 x21_1).f1)).f5) + t1194), (rd_T115 y1202 ((rd_T95 l2 x21_1).f1)).f6⟩ : S115)) (k115_mkM _ _ _ (⟨(rd_T115 y1202 ((rd_T95 l2 x21_1).f1)).f0, (rd_T115 y1202 ((rd_T95 l2 x21_1).f1)).f1, (rd_T115 y1202 ((rd_T95 l2 x21_1).f1)).f2, (rd_T115 y1202 ((rd_T95 l2 x21_1).f1)).f3, (rd_T115 y1202 ((rd_T95 l2 x21_1).f1)).f4, wrap64 (((rd_T115 y1202 ((rd_T95 l2 x21_1).f1)).f5) + t1194), (rd_T115 y1202 ((rd_T95 l2 x21_1).f1)).f6⟩ : S115) ) (fun _ hk => hk); have hx42_5 := hcc42 5 _ rfl; (try simp only [show (k115).sz = 7 from rfl, Nat.mul_one, Nat.add_zero] at hx42_5); have hf42_5 := hfr42 5; (try simp only [show (k115).sz = 7 from rfl, Nat.mul_one, Nat.add_zero] at hf42_5); clear hcl42 hcc42 hfr42; (try clear hM42)) | ((with_reducible refine gate_store (t := 3) (p := 92) rfl ?_); refine store_event (t := 3) (p := 92) (v := ?vo_w43) (w1 := (w41.setCell ⟨go26, (((rd_T95 l2 x21_1).f1) : Int).toNat * 7 + 5, none⟩ (.int .i64 (wrap64 (((rd_T115 y1202 ((rd_T95 l2 x21_1).f1)).f5) + t1194))))) ?hg ?ho ?hn ?hr ?_; (case ho => rfl); (case hg => rfl); (case hn => rfl); (case hr => first | (go_simp; done) | (go_simp; rfl)); intro w43 hw; have hg : w41.grownBy w43 (some go26) := (by rw [hw]; exact HP42.2); have hp_ : Kd.R k115 115 w43 w.heap.size (fun _ => True) (.slice (some ⟨go26, 0, none⟩) x9_1.length co26) y1203 := (by rw [hw, Ny1203.out]; exact HP42.1); clear HP42; replace BK1188 := dk (blk_grown (g := gb1188) (o := .cells #[.int .i64 a0_0, .int .i64 a0_1, .int .i64 a0_2, .slice A0_3 l0_3.length c0_3, .bool a0_4] 33 (0, 0)) (bk BK1188) hg (Kd.R_ne HO_9.out BK1188.out (by decide))); replace BK1193 := dk (blk_grown (g := gb1193) (o := .cells #[.int .i64 ((rd_T95 l2 x21_1).f0), .int .i64 ((rd_T95 l2 x21_1).f1), .int .i64 ((rd_T95 l2 x21_1).f2), .int .i64 ((rd_T95 l2 x21_1).f3), .int .i64 ((rd_T95 l2 x21_1).f4)] 95 (0, 0)) (bk BK1193) hg (Kd.R_ne HO_9.out BK1193.out (by decide))); replace HO_9 := dk (hp_); replace HB := dk (by rw [hw]; exact below_set (HB.out) GB26.out : Below w.heap.size w w43); clear hg hw hp_))
               (try simp only [Act.put, List.setIfInBounds_toArray, List.set_cons_zero, List.set_cons_succ])
               have H := HC30.out
               clear HC30
               by_cases c44 : t1194 > t1195
               ·rw [if_pos c44] at H
                have c44b0 : decide (t1195 < t1194) = true := decide_eq_true c44
                clear c44
                (first | rw [c44b0] | rw [c44b1] | (simp only [i64_w, i32_w]; rw [c44b0]) | skip)
                obtain ⟨y1204, hy1204⟩ : ∃ y_ : List (S115), y_ = (y1203.set (((rd_T95 l2 x21_1).f0) : Int).toNat (⟨(rd_T115 y1203 ((rd_T95 l2 x21_1).f0)).f0, wrap64 (((rd_T115 y1203 ((rd_T95 l2 x21_1).f0)).f1) + 1), (rd_T115 y1203 ((rd_T95 l2 x21_1).f0)).f2, (rd_T115 y1203 ((rd_T95 l2 x21_1).f0)).f3, (rd_T115 y1203 ((rd_T95 l2 x21_1).f0)).f4, (rd_T115 y1203 ((rd_T95 l2 x21_1).f0)).f5, (rd_T115 y1203 ((rd_T95 l2 x21_1).f0)).f6⟩ : S115)) := ⟨_, rfl⟩
                (first | (rw [Option.bind_some] at H; rw [← hy1204] at H) | rw [← hy1204] at H)
                have Ny1204 := dk hy1204
                clear hy1204
                obtain ⟨y1205, hy1205⟩ : ∃ y_ : List (S115), y_ = (y1204.set (((rd_T95 l2 x21_1).f1) : Int).toNat (⟨(rd_T115 y1204 ((rd_T95 l2 x21_1).f1)).f0, (rd_T115 y1204 ((rd_T95 l2 x21_1).f1)).f1, (rd_T115 y1204 ((rd_T95 l2 x21_1).f1)).f2, wrap64 (((rd_T115 y1204 ((rd_T95 l2 x21_1).f1)).f3) + 1), (rd_T115 y1204 ((rd_T95 l2 x21_1).f1)).f4, (rd_T115 y1204 ((rd_T95 l2 x21_1).f1)).f5, (rd_T115 y1204 ((rd_T95 l2 x21_1).f1)).f6⟩ : S115)) := ⟨_, rfl⟩
                (first | (rw [Option.bind_some] at H; rw [← hy1205] at H) | rw [← hy1205] at H)
                have Ny1205 := dk hy1205
                clear hy1205
                obtain ⟨y1206, hy1206⟩ : ∃ y_ : List (S115), y_ = (y1205.set (((rd_T95 l2 x21_1).f0) : Int).toNat (⟨(rd_T115 y1205 ((rd_T95 l2 x21_1).f0)).f0, (rd_T115 y1205 ((rd_T95 l2 x21_1).f0)).f1, (rd_T115 y1205 ((rd_T95 l2 x21_1).f0)).f2, (rd_T115 y1205 ((rd_T95 l2 x21_1).f0)).f3, (rd_T115 y1205 ((rd_T95 l2 x21_1).f0)).f4, (rd_T115 y1205 ((rd_T95 l2 x21_1).f0)).f5, wrap64 (((rd_T115 y1205 ((rd_T95 l2 x21_1).f0)).f6) + a0_0)⟩ : S115)) := ⟨_, rfl⟩
                (first | (rw [Option.bind_some] at H; rw [← hy1206] at H) | rw [← hy1206] at H)
                have Ny1206 := dk hy1206
                clear hy1206
                obtain ⟨y1207, hy1207⟩ : ∃ y_ : List (S115), y_ = (y1206.set (((rd_T95 l2 x21_1).f1) : Int).toNat (⟨(rd_T115 y1206 ((rd_T95 l2 x21_1).f1)).f0, (rd_T115 y1206 ((rd_T95 l2 x21_1).f1)).f1, (rd_T115 y1206 ((rd_T95 l2 x21_1).f1)).f2, (rd_T115 y1206 ((rd_T95 l2 x21_1).f1)).f3, (rd_T115 y1206 ((rd_T95 l2 x21_1).f1)).f4, (rd_T115 y1206 ((rd_T95 l2 x21_1).f1)).f5, wrap64 (((rd_T115 y1206 ((rd_T95 l2 x21_1).f1)).f6) + a0_2)⟩ : S115)) := ⟨_, rfl⟩
                (first | (rw [Option.bind_some] at H; rw [← hy1207] at H) | rw [← hy1207] at H)
                have Ny1207 := dk hy1207
                clear hy1207
                have H' := dk H
                clear H
                have HX45 := dk (show Kd.R k115 115 w43 w.heap.size (fun _ => True) (.slice (some ⟨go26, 0, none⟩) x9_1.length co26) y1203 from (rr HO_9))
                obtain ⟨ce45, hcl45, hM45, hcc45, hfr45⟩ := Kd.R_elem HX45.out z115 (((rd_T95 l2 x21_1).f0) : Int) (oa) (by have h_ : (((rd_T95 l2 x21_1).f0) : Int) < ((x9_1.length : Int) : Int) := oa; first | exact h_ | (have e_ := (Kd.R_reads' HO_9.out).1; omega) | simpa using h_)
                obtain rfl := k115_openM hM45
                have HP45 := Kd.R_seg HX45.out (((rd_T95 l2 x21_1).f0) : Int) (oa) (by have h_ : (((rd_T95 l2 x21_1).f0) : Int) < ((x9_1.length : Int) : Int) := oa; first | exact h_ | (have e_ := (Kd.R_reads' HO_9.out).1; omega) | simpa using h_) (seg := [.int .i64 (wrap64 (((rd_T115 y1203 ((rd_T95 l2 x21_1).f0)).f1) + 1))]) (j := 1) hcl45 hcc45 (show 2 ≤ 7 from by decide) (x' := (⟨(rd_T115 y1203 ((rd_T95 l2 x21_1).f0)).f0, wrap64 (((rd_T115 y1203 ((rd_T95 l2 x21_1).f0)).f1) + 1), (rd_T115 y1203 ((rd_T95 l2 x21_1).f0)).f2, (rd_T115 y1203 ((rd_T95 l2 x21_1).f0)).f3, (rd_T115 y1203 ((rd_T95 l2 x21_1).f0)).f4, (rd_T115 y1203 ((rd_T95 l2 x21_1).f0)).f5, (rd_T115 y1203 ((rd_T95 l2 x21_1).f0)).f6⟩ : S115)) (k115_mkM _ _ _ (⟨(rd_T115 y1203 ((rd_T95 l2 x21_1).f0)).f0, wrap64 (((rd_T115 y1203 ((rd_T95 l2 x21_1).f0)).f1) + 1), (rd_T115 y1203 ((rd_T95 l2 x21_1).f0)).f2, (rd_T115 y1203 ((rd_T95 l2 x21_1).f0)).f3, (rd_T115 y1203 ((rd_T95 l2 x21_1).f0)).f4, (rd_T115 y1203 ((rd_T95 l2 x21_1).f0)).f5, (rd_T115 y1203 ((rd_T95 l2 x21_1).f0)).f6⟩ : S115) ) (fun _ hk => hk)
                have hx45_1 := hcc45 1 _ rfl
                (try simp only [show (k115).sz = 7 from rfl, Nat.mul_one, Nat.add_zero] at hx45_1)
                have hf45_1 := hfr45 1
                (try simp only [show (k115).sz = 7 from rfl, Nat.mul_one, Nat.add_zero] at hf45_1)
                clear hcl45 hcc45 hfr45; (try clear hM45)
                try go_wp2_with (first | ((with_reducible refine gate_store (t := 3) (p := 135) rfl ?_); refine store_event (t := 3) (p := 135) (v := ?vo_w46) (w1 := (w43.setCell ⟨go26, (((rd_T95 l2 x21_1).f0) : Int).toNat * 7 + 1, none⟩ (.int .i64 (wrap64 (((rd_T115 y1203 ((rd_T95 l2 x21_1).f0)).f1) + 1))))) ?hg ?ho ?hn ?hr ?_; (case ho => rfl); (case hg => rfl); (case hn => rfl); (case hr => first | (go_simp; done) | (go_simp; rfl)); intro w46 hw; have hg : w43.grownBy w46 (some go26) := (by rw [hw]; exact HP45.2); have hp_ : Kd.R k115 115 w46 w.heap.size (fun _ => True) (.slice (some ⟨go26, 0, none⟩) x9_1.length co26) y1204 := (by rw [hw, Ny1204.out]; exact HP45.1); clear HP45; replace BK1188 := dk (blk_grown (g := gb1188) (o := .cells #[.int .i64 a0_0, .int .i64 a0_1, .int .i64 a0_2, .slice A0_3 l0_3.length c0_3, .bool a0_4] 33 (0, 0)) (bk BK1188) hg (Kd.R_ne HO_9.out BK1188.out (by decide))); replace BK1193 := dk (blk_grown (g := gb1193) (o := .cells #[.int .i64 ((rd_T95 l2 x21_1).f0), .int .i64 ((rd_T95 l2 x21_1).f1), .int .i64 ((rd_T95 l2 x21_1).f2), .int .i64 ((rd_T95 l2 x21_1).f3), .int .i64 ((rd_T95 l2 x21_1).f4)] 95 (0, 0)) (bk BK1193) hg (Kd.R_ne HO_9.out BK1193.out (by decide))); replace HO_9 := dk (hp_); replace HB := dk (by rw [hw]; exact below_set (HB.out) GB26.out : Below w.heap.size w w46); clear hg hw hp_; have HX47 := dk (show Kd.R k115 115 w46 w.heap.size (fun _ => True) (.slice (some ⟨go26, 0, none⟩) x9_1.length co26) y1204 from (rr HO_9)); obtain ⟨ce47, hcl47, hM47, hcc47, hfr47⟩ := Kd.R_elem HX47.out z115 (((rd_T95 l2 x21_1).f1) : Int) (oa) (by have h_ : (((rd_T95 l2 x21_1).f1) : Int) < ((x9_1.length : Int) : Int) := oa; first | exact h_ | (have e_ := (Kd.R_reads' HO_9.out).1; omega) | simpa using h_); obtain rfl := k115_openM hM47; have HP47 := Kd.R_seg HX47.out (((rd_T95 l2 x21_1).f1) : Int) (oa) (by have h_ : (((rd_T95 l2 x21_1).f1) : Int) < ((x9_1.length : Int) : Int) := oa; first | exact h_ | (have e_ := (Kd.R_reads' HO_9.out).1; omega) | simpa using h_) (seg := [.int .i64 (wrap64 (((rd_T115 y1204 ((rd_T95 l2 x21_1).f1)).f3) + 1))]) (j := 3) hcl47 hcc47 (show 4 ≤ 7 from by decide) (x' := (⟨(rd_T115 y1204 ((rd_T95 l2 x21_1).f1)).f0, (rd_T115 y1204 ((rd_T95 l2 x21_1).f1)).f1, (rd_T115 y1204 ((rd_T95 l2 x21_1).f1)).f2, wrap64 (((rd_T115 y1204 ((rd_T95 l2 x21_1).f1)).f3) + 1), (rd_T115 y1204 ((rd_T95 l2 x21_1).f1)).f4, (rd_T115 y1204 ((rd_T95 l2 x21_1).f1)).f5, (rd_T115 y1204 ((rd_T95 l2 x21_1).f1)).f6⟩ : S115)) (k115_mkM _ _ _ (⟨(rd_T115 y1204 ((rd_T95 l2 x21_1).f1)).f0, (rd_T115 y1204 ((rd_T95 l2 x21_1).f1)).f1, (rd_T115 y1204 ((rd_T95 l2 x21_1).f1)).f2, wrap64 (((rd_T115 y1204 ((rd_T95 l2 x21_1).f1)).f3) + 1), (rd_T115 y1204 ((rd_T95 l2 x21_1).f1)).f4, (rd_T115 y1204 ((rd_T95 l2 x21_1).f1)).f5, (rd_T115 y1204 ((rd_T95 l2 x21_1).f1)).f6⟩ : S115) ) (fun _ hk => hk); have hx47_3 := hcc47 3 _ rfl; (try simp only [show (k115).sz = 7 from rfl, Nat.mul_one, Nat.add_zero] at hx47_3); have hf47_3 := hfr47 3; (try simp only [show (k115).sz = 7 from rfl, Nat.mul_one, Nat.add_zero] at hf47_3); clear hcl47 hcc47 hfr47; (try clear hM47)) | ((with_reducible refine gate_store (t := 3) (p := 142) rfl ?_); refine store_event (t := 3) (p := 142) (v := ?vo_w48) (w1 := (w46.setCell ⟨go26, (((rd_T95 l2 x21_1).f1) : Int).toNat * 7 + 3, none⟩ (.int .i64 (wrap64 (((rd_T115 y1204 ((rd_T95 l2 x21_1).f1)).f3) + 1))))) ?hg ?ho ?hn ?hr ?_; (case ho => rfl); (case hg => rfl); (case hn => rfl); (case hr => first | (go_simp; done) | (go_simp; rfl)); intro w48 hw; have hg : w46.grownBy w48 (some go26) := (by rw [hw]; exact HP47.2); have hp_ : Kd.R k115 115 w48 w.heap.size (fun _ => True) (.slice (some ⟨go26, 0, none⟩) x9_1.length co26) y1205 := (by rw [hw, Ny1205.out]; exact HP47.1); clear HP47; replace BK1188 := dk (blk_grown (g := gb1188) (o := .cells #[.int .i64 a0_0, .int .i64 a0_1, .int .i64 a0_2, .slice A0_3 l0_3.length c0_3, .bool a0_4] 33 (0, 0)) (bk BK1188) hg (Kd.R_ne HO_9.out BK1188.out (by decide))); replace BK1193 := dk (blk_grown (g := gb1193) (o := .cells #[.int .i64 ((rd_T95 l2 x21_1).f0), .int .i64 ((rd_T95 l2 x21_1).f1), .int .i64 ((rd_T95 l2 x21_1).f2), .int .i64 ((rd_T95 l2 x21_1).f3), .int .i64 ((rd_T95 l2 x21_1).f4)] 95 (0, 0)) (bk BK1193) hg (Kd.R_ne HO_9.out BK1193.out (by decide))); replace HO_9 := dk (hp_); replace HB := dk (by rw [hw]; exact below_set (HB.out) GB26.out : Below w.heap.size w w48); clear hg hw hp_))
                replace HO_9 := dk (Kd.R_drew HO_9.out)
                replace BK1188 := dk (blk_drew BK1188.out)
                replace BK1193 := dk (blk_drew BK1193.out)
                replace HB := dk (below_drew1 HB.out)
                obtain ⟨ce50, hcl50, hM50, hcc50, hfr50⟩ := Kd.R_elem HO_9.out z115 (((rd_T95 l2 x21_1).f0) : Int) (oa) (by have h_ : (((rd_T95 l2 x21_1).f0) : Int) < ((x9_1.length : Int) : Int) := oa; first | exact h_ | (have e_ := (Kd.R_reads' HO_9.out).1; omega) | simpa using h_)
                obtain rfl := k115_openM hM50
                have HP50 := (Kd.R_seg HO_9.out (((rd_T95 l2 x21_1).f0) : Int) (oa) (by have h_ : (((rd_T95 l2 x21_1).f0) : Int) < ((x9_1.length : Int) : Int) := oa; first | exact h_ | (have e_ := (Kd.R_reads' HO_9.out).1; omega) | simpa using h_) (seg := [.int .i64 (wrap64 (((rd_T115 y1205 ((rd_T95 l2 x21_1).f0)).f6) + a0_0))]) (j := 6) hcl50 hcc50 (show 7 ≤ 7 from by decide) (x' := (⟨(rd_T115 y1205 ((rd_T95 l2 x21_1).f0)).f0, (rd_T115 y1205 ((rd_T95 l2 x21_1).f0)).f1, (rd_T115 y1205 ((rd_T95 l2 x21_1).f0)).f2, (rd_T115 y1205 ((rd_T95 l2 x21_1).f0)).f3, (rd_T115 y1205 ((rd_T95 l2 x21_1).f0)).f4, (rd_T115 y1205 ((rd_T95 l2 x21_1).f0)).f5, wrap64 (((rd_T115 y1205 ((rd_T95 l2 x21_1).f0)).f6) + a0_0)⟩ : S115)) (k115_mkM _ _ _ (⟨(rd_T115 y1205 ((rd_T95 l2 x21_1).f0)).f0, (rd_T115 y1205 ((rd_T95 l2 x21_1).f0)).f1, (rd_T115 y1205 ((rd_T95 l2 x21_1).f0)).f2, (rd_T115 y1205 ((rd_T95 l2 x21_1).f0)).f3, (rd_T115 y1205 ((rd_T95 l2 x21_1).f0)).f4, (rd_T115 y1205 ((rd_T95 l2 x21_1).f0)).f5, wrap64 (((rd_T115 y1205 ((rd_T95 l2 x21_1).f0)).f6) + a0_0)⟩ : S115) ) (fun _ hk => hk)).1
                rw [← Ny1206.out] at HP50
                have HQ50 := dk HP50
                have hxE := hcc50 6 _ rfl
                (try simp only [show (k115).sz = 7 from rfl, Nat.mul_one, Nat.add_zero] at hxE)
                have hfE := hfr50 6
                (try simp only [show (k115).sz = 7 from rfl, Nat.mul_one, Nat.add_zero] at hfE)
                clear hcl50 hcc50 hfr50 hM50 HP50
                refine start_ (n := 10) (S := fun w' => w'.cell? ⟨gb1188, 0, none⟩ = some (.int .i64 a0_0) ∧ w'.cell? ⟨gb1188, 1, none⟩ = some (.int .i64 a0_1) ∧ w'.cell? ⟨gb1188, 2, none⟩ = some (.int .i64 a0_2) ∧ w'.cell? ⟨gb1188, 3, none⟩ = some (.slice A0_3 l0_3.length c0_3) ∧ w'.cell? ⟨gb1188, 4, none⟩ = some (.bool a0_4) ∧ w'.cell? ⟨go26, (((rd_T95 l2 x21_1).f0) : Int).toNat * 7 + 6, none⟩ = some (.int .i64 ((rd_T115 y1205 ((rd_T95 l2 x21_1).f0))).f6) ∧ w'.frozen? ⟨go26, (((rd_T95 l2 x21_1).f0) : Int).toNat * 7 + 6, none⟩ = false) (ds := [9]) #[false, false, false, false, false, false, false, false, false, false] (by kernel_rfl) rfl rfl ⟨bc BK1188 0, bc BK1188 1, bc BK1188 2, bc BK1188 3, bc BK1188 4, hxE, hfE⟩ (fun hHeld => ?_); refine with_tabW impl_tableOfG.tab21 impl_tableOfG.bits21 (fun HT_ HW_ => ?_)
                clear hxE hfE
                generalize w48.drew = w49 at HO_9 BK1188 BK1193 HB HQ50 hHeld ⊢
                refine pz_ 0 143 ?_
                refine pz_ 1 144 ?_
                refine pz_ 2 145 ?_
                refine pz_ 4 147 ?_
                refine tk_ 3 146 ?_
                refine tk_ 5 148 ?_
                refine pz_ 6 149 ?_
                refine pz_ 7 150 ?_
                refine pz_ 8 151 ?_
                have hfE := hHeld.2.2.2.2.2.2
                refine last_ (i := 9) (N := none) #[true, true, true, true, true, true, true, true, true, true] rfl rfl (one_of HT_.out (by kernel_rfl)) (by decide) (fun K hK => ?_)
                refine skip_ (w1 := ?_) (by rfl) rfl ?_ ?_
                rotate_left
                ·go_simp
                 rfl
                refine hK.out _ _ ?_
                clear hK K
                refine done_ (done_of HT_.out (by kernel_rfl)) ?_
                try go_wp2
                have n0_ : Aside0 (Kd.R k115 115 (w49.setCell ⟨go26, (((rd_T95 l2 x21_1).f0) : Int).toNat * 7 + 6, none⟩ (.int .i64 (wrap64 (((rd_T115 y1205 ((rd_T95 l2 x21_1).f0)).f6) + a0_0)))) w.heap.size (fun _ => True) (.slice (some ⟨go26, 0, none⟩) x9_1.length co26) y1206) := ⟨rr HQ50⟩
                have n1_ : Aside0 ((w49.setCell ⟨go26, (((rd_T95 l2 x21_1).f0) : Int).toNat * 7 + 6, none⟩ (.int .i64 (wrap64 (((rd_T115 y1205 ((rd_T95 l2 x21_1).f0)).f6) + a0_0)))).heap[gb1188]? = some (.cells #[.int .i64 a0_0, .int .i64 a0_1, .int .i64 a0_2, .slice A0_3 l0_3.length c0_3, .bool a0_4] 33 (0, 0))) := ⟨bg HO_9 BK1188⟩
                have n2_ : Aside0 ((w49.setCell ⟨go26, (((rd_T95 l2 x21_1).f0) : Int).toNat * 7 + 6, none⟩ (.int .i64 (wrap64 (((rd_T115 y1205 ((rd_T95 l2 x21_1).f0)).f6) + a0_0)))).heap[gb1193]? = some (.cells #[.int .i64 ((rd_T95 l2 x21_1).f0), .int .i64 ((rd_T95 l2 x21_1).f1), .int .i64 ((rd_T95 l2 x21_1).f2), .int .i64 ((rd_T95 l2 x21_1).f3), .int .i64 ((rd_T95 l2 x21_1).f4)] 95 (0, 0))) := ⟨bg HO_9 BK1193⟩
                have n3_ : Aside0 (Below w.heap.size w (w49.setCell ⟨go26, (((rd_T95 l2 x21_1).f0) : Int).toNat * 7 + 6, none⟩ (.int .i64 (wrap64 (((rd_T115 y1205 ((rd_T95 l2 x21_1).f0)).f6) + a0_0))))) := ⟨bb HB⟩
                (try clear HO_9)
                (try clear BK1188)
                (try clear BK1193)
                (try clear HB)
                generalize (w49.setCell ⟨go26, (((rd_T95 l2 x21_1).f0) : Int).toNat * 7 + 6, none⟩ (.int .i64 (wrap64 (((rd_T115 y1205 ((rd_T95 l2 x21_1).f0)).f6) + a0_0)))) = w51 at n0_ n1_ n2_ n3_ ⊢
                have HO_9 := n0_
                have BK1188 := n1_
                have BK1193 := n2_
                have HB := n3_
                clear n0_ n1_ n2_ n3_
                replace HO_9 := dk (Kd.R_drew HO_9.out)
                replace BK1188 := dk (blk_drew BK1188.out)
                replace BK1193 := dk (blk_drew BK1193.out)
                replace HB := dk (below_drew1 HB.out)
                obtain ⟨ce53, hcl53, hM53, hcc53, hfr53⟩ := Kd.R_elem HO_9.out z115 (((rd_T95 l2 x21_1).f1) : Int) (oa) (by have h_ : (((rd_T95 l2 x21_1).f1) : Int) < ((x9_1.length : Int) : Int) := oa; first | exact h_ | (have e_ := (Kd.R_reads' HO_9.out).1; omega) | simpa using h_)
                obtain rfl := k115_openM hM53
                have HP53 := (Kd.R_seg HO_9.out (((rd_T95 l2 x21_1).f1) : Int) (oa) (by have h_ : (((rd_T95 l2 x21_1).f1) : Int) < ((x9_1.length : Int) : Int) := oa; first | exact h_ | (have e_ := (Kd.R_reads' HO_9.out).1; omega) | simpa using h_) (seg := [.int .i64 (wrap64 (((rd_T115 y1206 ((rd_T95 l2 x21_1).f1)).f6) + a0_2))]) (j := 6) hcl53 hcc53 (show 7 ≤ 7 from by decide) (x' := (⟨(rd_T115 y1206 ((rd_T95 l2 x21_1).f1)).f0, (rd_T115 y1206 ((rd_T95 l2 x21_1).f1)).f1, (rd_T115 y1206 ((rd_T95 l2 x21_1).f1)).f2, (rd_T115 y1206 ((rd_T95 l2 x21_1).f1)).f3, (rd_T115 y1206 ((rd_T95 l2 x21_1).f1)).f4, (rd_T115 y1206 ((rd_T95 l2 x21_1).f1)).f5, wrap64 (((rd_T115 y1206 ((rd_T95 l2 x21_1).f1)).f6) + a0_2)⟩ : S115)) (k115_mkM _ _ _ (⟨(rd_T115 y1206 ((rd_T95 l2 x21_1).f1)).f0, (rd_T115 y1206 ((rd_T95 l2 x21_1).f1)).f1, (rd_T115 y1206 ((rd_T95 l2 x21_1).f1)).f2, (rd_T115 y1206 ((rd_T95 l2 x21_1).f1)).f3, (rd_T115 y1206 ((rd_T95 l2 x21_1).f1)).f4, (rd_T115 y1206 ((rd_T95 l2 x21_1).f1)).f5, wrap64 (((rd_T115 y1206 ((rd_T95 l2 x21_1).f1)).f6) + a0_2)⟩ : S115) ) (fun _ hk => hk)).1
                rw [← Ny1207.out] at HP53
                have HQ53 := dk HP53
                have hxE := hcc53 6 _ rfl
                (try simp only [show (k115).sz = 7 from rfl, Nat.mul_one, Nat.add_zero] at hxE)
                have hfE := hfr53 6
                (try simp only [show (k115).sz = 7 from rfl, Nat.mul_one, Nat.add_zero] at hfE)
                clear hcl53 hcc53 hfr53 hM53 HP53
                refine start_ (n := 10) (S := fun w' => w'.cell? ⟨gb1188, 0, none⟩ = some (.int .i64 a0_0) ∧ w'.cell? ⟨gb1188, 1, none⟩ = some (.int .i64 a0_1) ∧ w'.cell? ⟨gb1188, 2, none⟩ = some (.int .i64 a0_2) ∧ w'.cell? ⟨gb1188, 3, none⟩ = some (.slice A0_3 l0_3.length c0_3) ∧ w'.cell? ⟨gb1188, 4, none⟩ = some (.bool a0_4) ∧ w'.cell? ⟨go26, (((rd_T95 l2 x21_1).f1) : Int).toNat * 7 + 6, none⟩ = some (.int .i64 ((rd_T115 y1206 ((rd_T95 l2 x21_1).f1))).f6) ∧ w'.frozen? ⟨go26, (((rd_T95 l2 x21_1).f1) : Int).toNat * 7 + 6, none⟩ = false) (ds := [9]) #[false, false, false, false, false, false, false, false, false, false] (by kernel_rfl) rfl rfl ⟨bc BK1188 0, bc BK1188 1, bc BK1188 2, bc BK1188 3, bc BK1188 4, hxE, hfE⟩ (fun hHeld => ?_); refine with_tabW impl_tableOfG.tab22 impl_tableOfG.bits22 (fun HT_ HW_ => ?_)
                clear hxE hfE
                generalize w51.drew = w52 at HO_9 BK1188 BK1193 HB HQ50 HQ53 hHeld ⊢
                refine pz_ 0 152 ?_
                refine pz_ 1 153 ?_
                refine pz_ 2 154 ?_
                refine pz_ 4 156 ?_
                refine tk_ 3 155 ?_
                refine tk_ 5 157 ?_
                refine pz_ 6 158 ?_
                refine pz_ 7 159 ?_
                refine pz_ 8 160 ?_
                have hfE := hHeld.2.2.2.2.2.2
                refine last_ (i := 9) (N := none) #[true, true, true, true, true, true, true, true, true, true] rfl rfl (one_of HT_.out (by kernel_rfl)) (by decide) (fun K hK => ?_)
                refine skip_ (w1 := ?_) (by rfl) rfl ?_ ?_
                rotate_left
                ·go_simp
                 rfl
                refine hK.out _ _ ?_
                clear hK K
                refine done_ (done_of HT_.out (by kernel_rfl)) ?_
                try go_wp2
                go_roundg kj12
                case measure => have := HK1.out; have := HJ12.out; omega
                case rel => exact ⟨(y1207), (wrap64 (x21_1 + 1)), e2_, H', ⟨by have := HK1.out; have := HJ12.out; omega⟩, ⟨rr HQ53⟩, ⟨bg HO_9 BK1188⟩, ⟨bb HB⟩⟩
               ·rw [if_neg c44] at H
                have c44b0 : decide (t1195 < t1194) = false := decide_eq_false c44
                clear c44
                (first | rw [c44b0] | rw [c44b1] | (simp only [i64_w, i32_w]; rw [c44b0]) | skip)
                by_cases c54 : t1194 < t1195
                ·rw [if_pos c54] at H
                 have c54b0 : decide (t1194 < t1195) = true := decide_eq_true c54
                 clear c54
                 obtain ⟨y1208, hy1208⟩ : ∃ y_ : List (S115), y_ = (y1203.set (((rd_T95 l2 x21_1).f1) : Int).toNat (⟨(rd_T115 y1203 ((rd_T95 l2 x21_1).f1)).f0, wrap64 (((rd_T115 y1203 ((rd_T95 l2 x21_1).f1)).f1) + 1), (rd_T115 y1203 ((rd_T95 l2 x21_1).f1)).f2, (rd_T115 y1203 ((rd_T95 l2 x21_1).f1)).f3, (rd_T115 y1203 ((rd_T95 l2 x21_1).f1)).f4, (rd_T115 y1203 ((rd_T95 l2 x21_1).f1)).f5, (rd_T115 y1203 ((rd_T95 l2 x21_1).f1)).f6⟩ : S115)) := ⟨_, rfl⟩
                 (first | (rw [Option.bind_some] at H; rw [← hy1208] at H) | rw [← hy1208] at H)
                 have Ny1208 := dk hy1208
                 clear hy1208
                 obtain ⟨y1209, hy1209⟩ : ∃ y_ : List (S115), y_ = (y1208.set (((rd_T95 l2 x21_1).f0) : Int).toNat (⟨(rd_T115 y1208 ((rd_T95 l2 x21_1).f0)).f0, (rd_T115 y1208 ((rd_T95 l2 x21_1).f0)).f1, (rd_T115 y1208 ((rd_T95 l2 x21_1).f0)).f2, wrap64 (((rd_T115 y1208 ((rd_T95 l2 x21_1).f0)).f3) + 1), (rd_T115 y1208 ((rd_T95 l2 x21_1).f0)).f4, (rd_T115 y1208 ((rd_T95 l2 x21_1).f0)).f5, (rd_T115 y1208 ((rd_T95 l2 x21_1).f0)).f6⟩ : S115)) := ⟨_, rfl⟩
                 (first | (rw [Option.bind_some] at H; rw [← hy1209] at H) | rw [← hy1209] at H)
                 have Ny1209 := dk hy1209
                 clear hy1209
                 obtain ⟨y1210, hy1210⟩ : ∃ y_ : List (S115), y_ = (y1209.set (((rd_T95 l2 x21_1).f1) : Int).toNat (⟨(rd_T115 y1209 ((rd_T95 l2 x21_1).f1)).f0, (rd_T115 y1209 ((rd_T95 l2 x21_1).f1)).f1, (rd_T115 y1209 ((rd_T95 l2 x21_1).f1)).f2, (rd_T115 y1209 ((rd_T95 l2 x21_1).f1)).f3, (rd_T115 y1209 ((rd_T95 l2 x21_1).f1)).f4, (rd_T115 y1209 ((rd_T95 l2 x21_1).f1)).f5, wrap64 (((rd_T115 y1209 ((rd_T95 l2 x21_1).f1)).f6) + a0_0)⟩ : S115)) := ⟨_, rfl⟩
                 (first | (rw [Option.bind_some] at H; rw [← hy1210] at H) | rw [← hy1210] at H)
                 have Ny1210 := dk hy1210
                 clear hy1210
                 obtain ⟨y1211, hy1211⟩ : ∃ y_ : List (S115), y_ = (y1210.set (((rd_T95 l2 x21_1).f0) : Int).toNat (⟨(rd_T115 y1210 ((rd_T95 l2 x21_1).f0)).f0, (rd_T115 y1210 ((rd_T95 l2 x21_1).f0)).f1, (rd_T115 y1210 ((rd_T95 l2 x21_1).f0)).f2, (rd_T115 y1210 ((rd_T95 l2 x21_1).f0)).f3, (rd_T115 y1210 ((rd_T95 l2 x21_1).f0)).f4, (rd_T115 y1210 ((rd_T95 l2 x21_1).f0)).f5, wrap64 (((rd_T115 y1210 ((rd_T95 l2 x21_1).f0)).f6) + a0_2)⟩ : S115)) := ⟨_, rfl⟩
                 (first | (rw [Option.bind_some] at H; rw [← hy1211] at H) | rw [← hy1211] at H)
                 have Ny1211 := dk hy1211
                 clear hy1211
                 have H' := dk H
                 clear H
                 have HX55 := dk (show Kd.R k115 115 w43 w.heap.size (fun _ => True) (.slice (some ⟨go26, 0, none⟩) x9_1.length co26) y1203 from (rr HO_9))
                 obtain ⟨ce55, hcl55, hM55, hcc55, hfr55⟩ := Kd.R_elem HX55.out z115 (((rd_T95 l2 x21_1).f1) : Int) (oa) (by have h_ : (((rd_T95 l2 x21_1).f1) : Int) < ((x9_1.length : Int) : Int) := oa; first | exact h_ | (have e_ := (Kd.R_reads' HO_9.out).1; omega) | simpa using h_)
                 obtain rfl := k115_openM hM55
                 have HP55 := Kd.R_seg HX55.out (((rd_T95 l2 x21_1).f1) : Int) (oa) (by have h_ : (((rd_T95 l2 x21_1).f1) : Int) < ((x9_1.length : Int) : Int) := oa; first | exact h_ | (have e_ := (Kd.R_reads' HO_9.out).1; omega) | simpa using h_) (seg := [.int .i64 (wrap64 (((rd_T115 y1203 ((rd_T95 l2 x21_1).f1)).f1) + 1))]) (j := 1) hcl55 hcc55 (show 2 ≤ 7 from by decide) (x' := (⟨(rd_T115 y1203 ((rd_T95 l2 x21_1).f1)).f0, wrap64 (((rd_T115 y1203 ((rd_T95 l2 x21_1).f1)).f1) + 1), (rd_T115 y1203 ((rd_T95 l2 x21_1).f1)).f2, (rd_T115 y1203 ((rd_T95 l2 x21_1).f1)).f3, (rd_T115 y1203 ((rd_T95 l2 x21_1).f1)).f4, (rd_T115 y1203 ((rd_T95 l2 x21_1).f1)).f5, (rd_T115 y1203 ((rd_T95 l2 x21_1).f1)).f6⟩ : S115)) (k115_mkM _ _ _ (⟨(rd_T115 y1203 ((rd_T95 l2 x21_1).f1)).f0, wrap64 (((rd_T115 y1203 ((rd_T95 l2 x21_1).f1)).f1) + 1), (rd_T115 y1203 ((rd_T95 l2 x21_1).f1)).f2, (rd_T115 y1203 ((rd_T95 l2 x21_1).f1)).f3, (rd_T115 y1203 ((rd_T95 l2 x21_1).f1)).f4, (rd_T115 y1203 ((rd_T95 l2 x21_1).f1)).f5, (rd_T115 y1203 ((rd_T95 l2 x21_1).f1)).f6⟩ : S115) ) (fun _ hk => hk)
                 have hx55_1 := hcc55 1 _ rfl
                 (try simp only [show (k115).sz = 7 from rfl, Nat.mul_one, Nat.add_zero] at hx55_1)
                 have hf55_1 := hfr55 1
                 (try simp only [show (k115).sz = 7 from rfl, Nat.mul_one, Nat.add_zero] at hf55_1)
                 clear hcl55 hcc55 hfr55; (try clear hM55)
                 try go_wp2_with (first | ((with_reducible refine gate_store (t := 3) (p := 171) rfl ?_); refine store_event (t := 3) (p := 171) (v := ?vo_w56) (w1 := (w43.setCell ⟨go26, (((rd_T95 l2 x21_1).f1) : Int).toNat * 7 + 1, none⟩ (.int .i64 (wrap64 (((rd_T115 y1203 ((rd_T95 l2 x21_1).f1)).f1) + 1))))) ?hg ?ho ?hn ?hr ?_; (case ho => rfl); (case hg => rfl); (case hn => rfl); (case hr => first | (go_simp; done) | (go_simp; rfl)); intro w56 hw; have hg : w43.grownBy w56 (some go26) := (by rw [hw]; exact HP55.2); have hp_ : Kd.R k115 115 w56 w.heap.size (fun _ => True) (.slice (some ⟨go26, 0, none⟩) x9_1.length co26) y1208 := (by rw [hw, Ny1208.out]; exact HP55.1); clear HP55; replace BK1188 := dk (blk_grown (g := gb1188) (o := .cells #[.int .i64 a0_0, .int .i64 a0_1, .int .i64 a0_2, .slice A0_3 l0_3.length c0_3, .bool a0_4] 33 (0, 0)) (bk BK1188) hg (Kd.R_ne HO_9.out BK1188.out (by decide))); replace BK1193 := dk (blk_grown (g := gb1193) (o := .cells #[.int .i64 ((rd_T95 l2 x21_1).f0), .int .i64 ((rd_T95 l2 x21_1).f1), .int .i64 ((rd_T95 l2 x21_1).f2), .int .i64 ((rd_T95 l2 x21_1).f3), .int .i64 ((rd_T95 l2 x21_1).f4)] 95 (0, 0)) (bk BK1193) hg (Kd.R_ne HO_9.out BK1193.out (by decide))); replace HO_9 := dk (hp_); replace HB := dk (by rw [hw]; exact below_set (HB.out) GB26.out : Below w.heap.size w w56); clear hg hw hp_; have HX57 := dk (show Kd.R k115 115 w56 w.heap.size (fun _ => True) (.slice (some ⟨go26, 0, none⟩) x9_1.length co26) y1208 from (rr HO_9)); obtain ⟨ce57, hcl57, hM57, hcc57, hfr57⟩ := Kd.R_elem HX57.out z115 (((rd_T95 l2 x21_1).f0) : Int) (oa) (by have h_ : (((rd_T95 l2 x21_1).f0) : Int) < ((x9_1.length : Int) : Int) := oa; first | exact h_ | (have e_ := (Kd.R_reads' HO_9.out).1; omega) | simpa using h_); obtain rfl := k115_openM hM57; have HP57 := Kd.R_seg HX57.out (((rd_T95 l2 x21_1).f0) : Int) (oa) (by have h_ : (((rd_T95 l2 x21_1).f0) : Int) < ((x9_1.length : Int) : Int) := oa; first | exact h_ | (have e_ := (Kd.R_reads' HO_9.out).1; omega) | simpa using h_) (seg := [.int .i64 (wrap64 (((rd_T115 y1208 ((rd_T95 l2 x21_1).f0)).f3) + 1))]) (j := 3) hcl57 hcc57 (show 4 ≤ 7 from by decide) (x' := (⟨(rd_T115 y1208 ((rd_T95 l2 x21_1).f0)).f0, (rd_T115 y1208 ((rd_T95 l2 x21_1).f0)).f1, (rd_T115 y1208 ((rd_T95 l2 x21_1).f0)).f2, wrap64 (((rd_T115 y1208 ((rd_T95 l2 x21_1).f0)).f3) + 1), (rd_T115 y1208 ((rd_T95 l2 x21_1).f0)).f4, (rd_T115 y1208 ((rd_T95 l2 x21_1).f0)).f5, (rd_T115 y1208 ((rd_T95 l2 x21_1).f0)).f6⟩ : S115)) (k115_mkM _ _ _ (⟨(rd_T115 y1208 ((rd_T95 l2 x21_1).f0)).f0, (rd_T115 y1208 ((rd_T95 l2 x21_1).f0)).f1, (rd_T115 y1208 ((rd_T95 l2 x21_1).f0)).f2, wrap64 (((rd_T115 y1208 ((rd_T95 l2 x21_1).f0)).f3) + 1), (rd_T115 y1208 ((rd_T95 l2 x21_1).f0)).f4, (rd_T115 y1208 ((rd_T95 l2 x21_1).f0)).f5, (rd_T115 y1208 ((rd_T95 l2 x21_1).f0)).f6⟩ : S115) ) (fun _ hk => hk); have hx57_3 := hcc57 3 _ rfl; (try simp only [show (k115).sz = 7 from rfl, Nat.mul_one, Nat.add_zero] at hx57_3); have hf57_3 := hfr57 3; (try simp only [show (k115).sz = 7 from rfl, Nat.mul_one, Nat.add_zero] at hf57_3); clear hcl57 hcc57 hfr57; (try clear hM57)) | ((with_reducible refine gate_store (t := 3) (p := 178) rfl ?_); refine store_event (t := 3) (p := 178) (v := ?vo_w58) (w1 := (w56.setCell ⟨go26, (((rd_T95 l2 x21_1).f0) : Int).toNat * 7 + 3, none⟩ (.int .i64 (wrap64 (((rd_T115 y1208 ((rd_T95 l2 x21_1).f0)).f3) + 1))))) ?hg ?ho ?hn ?hr ?_; (case ho => rfl); (case hg => rfl); (case hn => rfl); (case hr => first | (go_simp; done) | (go_simp; rfl)); intro w58 hw; have hg : w56.grownBy w58 (some go26) := (by rw [hw]; exact HP57.2); have hp_ : Kd.R k115 115 w58 w.heap.size (fun _ => True) (.slice (some ⟨go26, 0, none⟩) x9_1.length co26) y1209 := (by rw [hw, Ny1209.out]; exact HP57.1); clear HP57; replace BK1188 := dk (blk_grown (g := gb1188) (o := .cells #[.int .i64 a0_0, .int .i64 a0_1, .int .i64 a0_2, .slice A0_3 l0_3.length c0_3, .bool a0_4] 33 (0, 0)) (bk BK1188) hg (Kd.R_ne HO_9.out BK1188.out (by decide))); replace BK1193 := dk (blk_grown (g := gb1193) (o := .cells #[.int .i64 ((rd_T95 l2 x21_1).f0), .int .i64 ((rd_T95 l2 x21_1).f1), .int .i64 ((rd_T95 l2 x21_1).f2), .int .i64 ((rd_T95 l2 x21_1).f3), .int .i64 ((rd_T95 l2 x21_1).f4)] 95 (0, 0)) (bk BK1193) hg (Kd.R_ne HO_9.out BK1193.out (by decide))); replace HO_9 := dk (hp_); replace HB := dk (by rw [hw]; exact below_set (HB.out) GB26.out : Below w.heap.size w w58); clear hg hw hp_))
                 replace HO_9 := dk (Kd.R_drew HO_9.out)
                 replace BK1188 := dk (blk_drew BK1188.out)
                 replace BK1193 := dk (blk_drew BK1193.out)
                 replace HB := dk (below_drew1 HB.out)
                 obtain ⟨ce60, hcl60, hM60, hcc60, hfr60⟩ := Kd.R_elem HO_9.out z115 (((rd_T95 l2 x21_1).f1) : Int) (oa) (by have h_ : (((rd_T95 l2 x21_1).f1) : Int) < ((x9_1.length : Int) : Int) := oa; first | exact h_ | (have e_ := (Kd.R_reads' HO_9.out).1; omega) | simpa using h_)
                 obtain rfl := k115_openM hM60
                 have HP60 := (Kd.R_seg HO_9.out (((rd_T95 l2 x21_1).f1) : Int) (oa) (by have h_ : (((rd_T95 l2 x21_1).f1) : Int) < ((x9_1.length : Int) : Int) := oa; first | exact h_ | (have e_ := (Kd.R_reads' HO_9.out).1; omega) | simpa using h_) (seg := [.int .i64 (wrap64 (((rd_T115 y1209 ((rd_T95 l2 x21_1).f1)).f6) + a0_0))]) (j := 6) hcl60 hcc60 (show 7 ≤ 7 from by decide) (x' := (⟨(rd_T115 y1209 ((rd_T95 l2 x21_1).f1)).f0, (rd_T115 y1209 ((rd_T95 l2 x21_1).f1)).f1, (rd_T115 y1209 ((rd_T95 l2 x21_1).f1)).f2, (rd_T115 y1209 ((rd_T95 l2 x21_1).f1)).f3, (rd_T115 y1209 ((rd_T95 l2 x21_1).f1)).f4, (rd_T115 y1209 ((rd_T95 l2 x21_1).f1)).f5, wrap64 (((rd_T115 y1209 ((rd_T95 l2 x21_1).f1)).f6) + a0_0)⟩ : S115)) (k115_mkM _ _ _ (⟨(rd_T115 y1209 ((rd_T95 l2 x21_1).f1)).f0, (rd_T115 y1209 ((rd_T95 l2 x21_1).f1)).f1, (rd_T115 y1209 ((rd_T95 l2 x21_1).f1)).f2, (rd_T115 y1209 ((rd_T95 l2 x21_1).f1)).f3, (rd_T115 y1209 ((rd_T95 l2 x21_1).f1)).f4, (rd_T115 y1209 ((rd_T95 l2 x21_1).f1)).f5, wrap64 (((rd_T115 y1209 ((rd_T95 l2 x21_1).f1)).f6) + a0_0)⟩ : S115) ) (fun _ hk => hk)).1
                 rw [← Ny1210.out] at HP60
                 have HQ60 := dk HP60
                 have hxE := hcc60 6 _ rfl
                 (try simp only [show (k115).sz = 7 from rfl, Nat.mul_one, Nat.add_zero] at hxE)
                 have hfE := hfr60 6
                 (try simp only [show (k115).sz = 7 from rfl, Nat.mul_one, Nat.add_zero] at hfE)
                 clear hcl60 hcc60 hfr60 hM60 HP60
                 refine start_ (n := 10) (S := fun w' => w'.cell? ⟨gb1188, 0, none⟩ = some (.int .i64 a0_0) ∧ w'.cell? ⟨gb1188, 1, none⟩ = some (.int .i64 a0_1) ∧ w'.cell? ⟨gb1188, 2, none⟩ = some (.int .i64 a0_2) ∧ w'.cell? ⟨gb1188, 3, none⟩ = some (.slice A0_3 l0_3.length c0_3) ∧ w'.cell? ⟨gb1188, 4, none⟩ = some (.bool a0_4) ∧ w'.cell? ⟨go26, (((rd_T95 l2 x21_1).f1) : Int).toNat * 7 + 6, none⟩ = some (.int .i64 ((rd_T115 y1209 ((rd_T95 l2 x21_1).f1))).f6) ∧ w'.frozen? ⟨go26, (((rd_T95 l2 x21_1).f1) : Int).toNat * 7 + 6, none⟩ = false) (ds := [9]) #[false, false, false, false, false, false, false, false, false, false] (by kernel_rfl) rfl rfl ⟨bc BK1188 0, bc BK1188 1, bc BK1188 2, bc BK1188 3, bc BK1188 4, hxE, hfE⟩ (fun hHeld => ?_); refine with_tabW impl_tableOfG.tab26 impl_tableOfG.bits26 (fun HT_ HW_ => ?_)
                 clear hxE hfE
                 generalize w58.drew = w59 at HO_9 BK1188 BK1193 HB HQ60 hHeld ⊢
                 refine pz_ 0 179 ?_
                 refine pz_ 1 180 ?_
                 refine pz_ 2 181 ?_
                 refine pz_ 4 183 ?_
                 refine tk_ 3 182 ?_
                 refine tk_ 5 184 ?_
                 refine pz_ 6 185 ?_
                 refine pz_ 7 186 ?_
                 refine pz_ 8 187 ?_
                 have hfE := hHeld.2.2.2.2.2.2
                 refine last_ (i := 9) (N := none) #[true, true, true, true, true, true, true, true, true, true] rfl rfl (one_of HT_.out (by kernel_rfl)) (by decide) (fun K hK => ?_)
                 refine skip_ (w1 := ?_) (by rfl) rfl ?_ ?_
                 rotate_left
                 ·go_simp
                  rfl
                 refine hK.out _ _ ?_
                 clear hK K
                 refine done_ (done_of HT_.out (by kernel_rfl)) ?_
                 try go_wp2
                 have n0_ : Aside0 (Kd.R k115 115 (w59.setCell ⟨go26, (((rd_T95 l2 x21_1).f1) : Int).toNat * 7 + 6, none⟩ (.int .i64 (wrap64 (((rd_T115 y1209 ((rd_T95 l2 x21_1).f1)).f6) + a0_0)))) w.heap.size (fun _ => True) (.slice (some ⟨go26, 0, none⟩) x9_1.length co26) y1210) := ⟨rr HQ60⟩
                 have n1_ : Aside0 ((w59.setCell ⟨go26, (((rd_T95 l2 x21_1).f1) : Int).toNat * 7 + 6, none⟩ (.int .i64 (wrap64 (((rd_T115 y1209 ((rd_T95 l2 x21_1).f1)).f6) + a0_0)))).heap[gb1188]? = some (.cells #[.int .i64 a0_0, .int .i64 a0_1, .int .i64 a0_2, .slice A0_3 l0_3.length c0_3, .bool a0_4] 33 (0, 0))) := ⟨bg HO_9 BK1188⟩
                 have n2_ : Aside0 ((w59.setCell ⟨go26, (((rd_T95 l2 x21_1).f1) : Int).toNat * 7 + 6, none⟩ (.int .i64 (wrap64 (((rd_T115 y1209 ((rd_T95 l2 x21_1).f1)).f6) + a0_0)))).heap[gb1193]? = some (.cells #[.int .i64 ((rd_T95 l2 x21_1).f0), .int .i64 ((rd_T95 l2 x21_1).f1), .int .i64 ((rd_T95 l2 x21_1).f2), .int .i64 ((rd_T95 l2 x21_1).f3), .int .i64 ((rd_T95 l2 x21_1).f4)] 95 (0, 0))) := ⟨bg HO_9 BK1193⟩
                 have n3_ : Aside0 (Below w.heap.size w (w59.setCell ⟨go26, (((rd_T95 l2 x21_1).f1) : Int).toNat * 7 + 6, none⟩ (.int .i64 (wrap64 (((rd_T115 y1209 ((rd_T95 l2 x21_1).f1)).f6) + a0_0))))) := ⟨bb HB⟩
                 (try clear HO_9)
                 (try clear BK1188)
                 (try clear BK1193)
                 (try clear HB)
                 generalize (w59.setCell ⟨go26, (((rd_T95 l2 x21_1).f1) : Int).toNat * 7 + 6, none⟩ (.int .i64 (wrap64 (((rd_T115 y1209 ((rd_T95 l2 x21_1).f1)).f6) + a0_0)))) = w61 at n0_ n1_ n2_ n3_ ⊢
                 have HO_9 := n0_
                 have BK1188 := n1_
                 have BK1193 := n2_
                 have HB := n3_
                 clear n0_ n1_ n2_ n3_
                 replace HO_9 := dk (Kd.R_drew HO_9.out)
                 replace BK1188 := dk (blk_drew BK1188.out)
                 replace BK1193 := dk (blk_drew BK1193.out)
                 replace HB := dk (below_drew1 HB.out)
                 obtain ⟨ce63, hcl63, hM63, hcc63, hfr63⟩ := Kd.R_elem HO_9.out z115 (((rd_T95 l2 x21_1).f0) : Int) (oa) (by have h_ : (((rd_T95 l2 x21_1).f0) : Int) < ((x9_1.length : Int) : Int) := oa; first | exact h_ | (have e_ := (Kd.R_reads' HO_9.out).1; omega) | simpa using h_)
                 obtain rfl := k115_openM hM63
                 have HP63 := (Kd.R_seg HO_9.out (((rd_T95 l2 x21_1).f0) : Int) (oa) (by have h_ : (((rd_T95 l2 x21_1).f0) : Int) < ((x9_1.length : Int) : Int) := oa; first | exact h_ | (have e_ := (Kd.R_reads' HO_9.out).1; omega) | simpa using h_) (seg := [.int .i64 (wrap64 (((rd_T115 y1210 ((rd_T95 l2 x21_1).f0)).f6) + a0_2))]) (j := 6) hcl63 hcc63 (show 7 ≤ 7 from by decide) (x' := (⟨(rd_T115 y1210 ((rd_T95 l2 x21_1).f0)).f0, (rd_T115 y1210 ((rd_T95 l2 x21_1).f0)).f1, (rd_T115 y1210 ((rd_T95 l2 x21_1).f0)).f2, (rd_T115 y1210 ((rd_T95 l2 x21_1).f0)).f3, (rd_T115 y1210 ((rd_T95 l2 x21_1).f0)).f4, (rd_T115 y1210 ((rd_T95 l2 x21_1).f0)).f5, wrap64 (((rd_T115 y1210 ((rd_T95 l2 x21_1).f0)).f6) + a0_2)⟩ : S115)) (k115_mkM _ _ _ (⟨(rd_T115 y1210 ((rd_T95 l2 x21_1).f0)).f0, (rd_T115 y1210 ((rd_T95 l2 x21_1).f0)).f1, (rd_T115 y1210 ((rd_T95 l2 x21_1).f0)).f2, (rd_T115 y1210 ((rd_T95 l2 x21_1).f0)).f3, (rd_T115 y1210 ((rd_T95 l2 x21_1).f0)).f4, (rd_T115 y1210 ((rd_T95 l2 x21_1).f0)).f5, wrap64 (((rd_T115 y1210 ((rd_T95 l2 x21_1).f0)).f6) + a0_2)⟩ : S115) ) (fun _ hk => hk)).1
                 rw [← Ny1211.out] at HP63
                 have HQ63 := dk HP63
                 have hxE := hcc63 6 _ rfl
                 (try simp only [show (k115).sz = 7 from rfl, Nat.mul_one, Nat.add_zero] at hxE)
                 have hfE := hfr63 6
                 (try simp only [show (k115).sz = 7 from rfl, Nat.mul_one, Nat.add_zero] at hfE)
                 clear hcl63 hcc63 hfr63 hM63 HP63
                 refine start_ (n := 10) (S := fun w' => w'.cell? ⟨gb1188, 0, none⟩ = some (.int .i64 a0_0) ∧ w'.cell? ⟨gb1188, 1, none⟩ = some (.int .i64 a0_1) ∧ w'.cell? ⟨gb1188, 2, none⟩ = some (.int .i64 a0_2) ∧ w'.cell? ⟨gb1188, 3, none⟩ = some (.slice A0_3 l0_3.length c0_3) ∧ w'.cell? ⟨gb1188, 4, none⟩ = some (.bool a0_4) ∧ w'.cell? ⟨go26, (((rd_T95 l2 x21_1).f0) : Int).toNat * 7 + 6, none⟩ = some (.int .i64 ((rd_T115 y1210 ((rd_T95 l2 x21_1).f0))).f6) ∧ w'.frozen? ⟨go26, (((rd_T95 l2 x21_1).f0) : Int).toNat * 7 + 6, none⟩ = false) (ds := [9]) #[false, false, false, false, false, false, false, false, false, false] (by kernel_rfl) rfl rfl ⟨bc BK1188 0, bc BK1188 1, bc BK1188 2, bc BK1188 3, bc BK1188 4, hxE, hfE⟩ (fun hHeld => ?_); refine with_tabW impl_tableOfG.tab27 impl_tableOfG.bits27 (fun HT_ HW_ => ?_)
                 clear hxE hfE
                 generalize w61.drew = w62 at HO_9 BK1188 BK1193 HB HQ60 HQ63 hHeld ⊢
                 refine pz_ 0 188 ?_
                 refine pz_ 1 189 ?_
                 refine pz_ 2 190 ?_
                 refine pz_ 4 192 ?_
                 refine tk_ 3 191 ?_
                 refine tk_ 5 193 ?_
                 refine pz_ 6 194 ?_
                 refine pz_ 7 195 ?_
                 refine pz_ 8 196 ?_
                 have hfE := hHeld.2.2.2.2.2.2
                 refine last_ (i := 9) (N := none) #[true, true, true, true, true, true, true, true, true, true] rfl rfl (one_of HT_.out (by kernel_rfl)) (by decide) (fun K hK => ?_)
                 refine skip_ (w1 := ?_) (by rfl) rfl ?_ ?_
                 rotate_left
                 ·go_simp
                  rfl
                 refine hK.out _ _ ?_
                 clear hK K
                 refine done_ (done_of HT_.out (by kernel_rfl)) ?_
                 try go_wp2
                 go_roundg kj12
                 case measure => have := HK1.out; have := HJ12.out; omega
                 case rel => exact ⟨(y1211), (wrap64 (x21_1 + 1)), e2_, H', ⟨by have := HK1.out; have := HJ12.out; omega⟩, ⟨rr HQ63⟩, ⟨bg HO_9 BK1188⟩, ⟨bb HB⟩⟩
                ·rw [if_neg c54] at H
                 have c54b0 : decide (t1194 < t1195) = false := decide_eq_false c54
                 clear c54
                 obtain ⟨y1212, hy1212⟩ : ∃ y_ : List (S115), y_ = (y1203.set (((rd_T95 l2 x21_1).f0) : Int).toNat (⟨(rd_T115 y1203 ((rd_T95 l2 x21_1).f0)).f0, (rd_T115 y1203 ((rd_T95 l2 x21_1).f0)).f1, wrap64 (((rd_T115 y1203 ((rd_T95 l2 x21_1).f0)).f2) + 1), (rd_T115 y1203 ((rd_T95 l2 x21_1).f0)).f3, (rd_T115 y1203 ((rd_T95 l2 x21_1).f0)).f4, (rd_T115 y1203 ((rd_T95 l2 x21_1).f0)).f5, (rd_T115 y1203 ((rd_T95 l2 x21_1).f0)).f6⟩ : S115)) := ⟨_, rfl⟩
                 (first | (rw [Option.bind_some] at H; rw [← hy1212] at H) | rw [← hy1212] at H)
                 have Ny1212 := dk hy1212
                 clear hy1212
                 obtain ⟨y1213, hy1213⟩ : ∃ y_ : List (S115), y_ = (y1212.set (((rd_T95 l2 x21_1).f1) : Int).toNat (⟨(rd_T115 y1212 ((rd_T95 l2 x21_1).f1)).f0, (rd_T115 y1212 ((rd_T95 l2 x21_1).f1)).f1, wrap64 (((rd_T115 y1212 ((rd_T95 l2 x21_1).f1)).f2) + 1), (rd_T115 y1212 ((rd_T95 l2 x21_1).f1)).f3, (rd_T115 y1212 ((rd_T95 l2 x21_1).f1)).f4, (rd_T115 y1212 ((rd_T95 l2 x21_1).f1)).f5, (rd_T115 y1212 ((rd_T95 l2 x21_1).f1)).f6⟩ : S115)) := ⟨_, rfl⟩
                 (first | (rw [Option.bind_some] at H; rw [← hy1213] at H) | rw [← hy1213] at H)
                 have Ny1213 := dk hy1213
                 clear hy1213
                 obtain ⟨y1214, hy1214⟩ : ∃ y_ : List (S115), y_ = (y1213.set (((rd_T95 l2 x21_1).f0) : Int).toNat (⟨(rd_T115 y1213 ((rd_T95 l2 x21_1).f0)).f0, (rd_T115 y1213 ((rd_T95 l2 x21_1).f0)).f1, (rd_T115 y1213 ((rd_T95 l2 x21_1).f0)).f2, (rd_T115 y1213 ((rd_T95 l2 x21_1).f0)).f3, (rd_T115 y1213 ((rd_T95 l2 x21_1).f0)).f4, (rd_T115 y1213 ((rd_T95 l2 x21_1).f0)).f5, wrap64 (((rd_T115 y1213 ((rd_T95 l2 x21_1).f0)).f6) + a0_1)⟩ : S115)) := ⟨_, rfl⟩
                 (first | (rw [Option.bind_some] at H; rw [← hy1214] at H) | rw [← hy1214] at H)
                 have Ny1214 := dk hy1214
                 clear hy1214
                 obtain ⟨y1215, hy1215⟩ : ∃ y_ : List (S115), y_ = (y1214.set (((rd_T95 l2 x21_1).f1) : Int).toNat (⟨(rd_T115 y1214 ((rd_T95 l2 x21_1).f1)).f0, (rd_T115 y1214 ((rd_T95 l2 x21_1).f1)).f1, (rd_T115 y1214 ((rd_T95 l2 x21_1).f1)).f2, (rd_T115 y1214 ((rd_T95 l2 x21_1).f1)).f3, (rd_T115 y1214 ((rd_T95 l2 x21_1).f1)).f4, (rd_T115 y1214 ((rd_T95 l2 x21_1).f1)).f5, wrap64 (((rd_T115 y1214 ((rd_T95 l2 x21_1).f1)).f6) + a0_1)⟩ : S115)) := ⟨_, rfl⟩
                 (first | (rw [Option.bind_some] at H; rw [← hy1215] at H) | rw [← hy1215] at H)
                 have Ny1215 := dk hy1215
                 clear hy1215
                 have H' := dk H
                 clear H
                 have HX64 := dk (show Kd.R k115 115 w43 w.heap.size (fun _ => True) (.slice (some ⟨go26, 0, none⟩) x9_1.length co26) y1203 from (rr HO_9))
                 obtain ⟨ce64, hcl64, hM64, hcc64, hfr64⟩ := Kd.R_elem HX64.out z115 (((rd_T95 l2 x21_1).f0) : Int) (oa) (by have h_ : (((rd_T95 l2 x21_1).f0) : Int) < ((x9_1.length : Int) : Int) := oa; first | exact h_ | (have e_ := (Kd.R_reads' HO_9.out).1; omega) | simpa using h_)
                 obtain rfl := k115_openM hM64
                 have HP64 := Kd.R_seg HX64.out (((rd_T95 l2 x21_1).f0) : Int) (oa) (by have h_ : (((rd_T95 l2 x21_1).f0) : Int) < ((x9_1.length : Int) : Int) := oa; first | exact h_ | (have e_ := (Kd.R_reads' HO_9.out).1; omega) | simpa using h_) (seg := [.int .i64 (wrap64 (((rd_T115 y1203 ((rd_T95 l2 x21_1).f0)).f2) + 1))]) (j := 2) hcl64 hcc64 (show 3 ≤ 7 from by decide) (x' := (⟨(rd_T115 y1203 ((rd_T95 l2 x21_1).f0)).f0, (rd_T115 y1203 ((rd_T95 l2 x21_1).f0)).f1, wrap64 (((rd_T115 y1203 ((rd_T95 l2 x21_1).f0)).f2) + 1), (rd_T115 y1203 ((rd_T95 l2 x21_1).f0)).f3, (rd_T115 y1203 ((rd_T95 l2 x21_1).f0)).f4, (rd_T115 y1203 ((rd_T95 l2 x21_1).f0)).f5, (rd_T115 y1203 ((rd_T95 l2 x21_1).f0)).f6⟩ : S115)) (k115_mkM _ _ _ (⟨(rd_T115 y1203 ((rd_T95 l2 x21_1).f0)).f0, (rd_T115 y1203 ((rd_T95 l2 x21_1).f0)).f1, wrap64 (((rd_T115 y1203 ((rd_T95 l2 x21_1).f0)).f2) + 1), (rd_T115 y1203 ((rd_T95 l2 x21_1).f0)).f3, (rd_T115 y1203 ((rd_T95 l2 x21_1).f0)).f4, (rd_T115 y1203 ((rd_T95 l2 x21_1).f0)).f5, (rd_T115 y1203 ((rd_T95 l2 x21_1).f0)).f6⟩ : S115) ) (fun _ hk => hk)
                 have hx64_2 := hcc64 2 _ rfl
                 (try simp only [show (k115).sz = 7 from rfl, Nat.mul_one, Nat.add_zero] at hx64_2)
                 have hf64_2 := hfr64 2
                 (try simp only [show (k115).sz = 7 from rfl, Nat.mul_one, Nat.add_zero] at hf64_2)
                 clear hcl64 hcc64 hfr64; (try clear hM64)
                 try go_wp2_with (first | ((with_reducible refine gate_store (t := 3) (p := 99) rfl ?_); refine store_event (t := 3) (p := 99) (v := ?vo_w65) (w1 := (w43.setCell ⟨go26, (((rd_T95 l2 x21_1).f0) : Int).toNat * 7 + 2, none⟩ (.int .i64 (wrap64 (((rd_T115 y1203 ((rd_T95 l2 x21_1).f0)).f2) + 1))))) ?hg ?ho ?hn ?hr ?_; (case ho => rfl); (case hg => rfl); (case hn => rfl); (case hr => first | (go_simp; done) | (go_simp; rfl)); intro w65 hw; have hg : w43.grownBy w65 (some go26) := (by rw [hw]; exact HP64.2); have hp_ : Kd.R k115 115 w65 w.heap.size (fun _ => True) (.slice (some ⟨go26, 0, none⟩) x9_1.length co26) y1212 := (by rw [hw, Ny1212.out]; exact HP64.1); clear HP64; replace BK1188 := dk (blk_grown (g := gb1188) (o := .cells #[.int .i64 a0_0, .int .i64 a0_1, .int .i64 a0_2, .slice A0_3 l0_3.length c0_3, .bool a0_4] 33 (0, 0)) (bk BK1188) hg (Kd.R_ne HO_9.out BK1188.out (by decide))); replace BK1193 := dk (blk_grown (g := gb1193) (o := .cells #[.int .i64 ((rd_T95 l2 x21_1).f0), .int .i64 ((rd_T95 l2 x21_1).f1), .int .i64 ((rd_T95 l2 x21_1).f2), .int .i64 ((rd_T95 l2 x21_1).f3), .int .i64 ((rd_T95 l2 x21_1).f4)] 95 (0, 0)) (bk BK1193) hg (Kd.R_ne HO_9.out BK1193.out (by decide))); replace HO_9 := dk (hp_); replace HB := dk (by rw [hw]; exact below_set (HB.out) GB26.out : Below w.heap.size w w65); clear hg hw hp_; have HX66 := dk (show Kd.R k115 115 w65 w.heap.size (fun _ => True) (.slice (some ⟨go26, 0, none⟩) x9_1.length co26) y1212 from (rr HO_9)); obtain ⟨ce66, hcl66, hM66, hcc66, hfr66⟩ := Kd.R_elem HX66.out z115 (((rd_T95 l2 x21_1).f1) : Int) (oa) (by have h_ : (((rd_T95 l2 x21_1).f1) : Int) < ((x9_1.length : Int) : Int) := oa; first | exact h_ | (have e_ := (Kd.R_reads' HO_9.out).1; omega) | simpa using h_); obtain rfl := k115_openM hM66; have HP66 := Kd.R_seg HX66.out (((rd_T95 l2 x21_1).f1) : Int) (oa) (by have h_ : (((rd_T95 l2 x21_1).f1) : Int) < ((x9_1.length : Int) : Int) := oa; first | exact h_ | (have e_ := (Kd.R_reads' HO_9.out).1; omega) | simpa using h_) (seg := [.int .i64 (wrap64 (((rd_T115 y1212 ((rd_T95 l2 x21_1).f1)).f2) + 1))]) (j := 2) hcl66 hcc66 (show 3 ≤ 7 from by decide) (x' := (⟨(rd_T115 y1212 ((rd_T95 l2 x21_1).f1)).f0, (rd_T115 y1212 ((rd_T95 l2 x21_1).f1)).f1, wrap64 (((rd_T115 y1212 ((rd_T95 l2 x21_1).f1)).f2) + 1), (rd_T115 y1212 ((rd_T95 l2 x21_1).f1)).f3, (rd_T115 y1212 ((rd_T95 l2 x21_1).f1)).f4, (rd_T115 y1212 ((rd_T95 l2 x21_1).f1)).f5, (rd_T115 y1212 ((rd_T95 l2 x21_1).f1)).f6⟩ : S115)) (k115_mkM _ _ _ (⟨(rd_T115 y1212 ((rd_T95 l2 x21_1).f1)).f0, (rd_T115 y1212 ((rd_T95 l2 x21_1).f1)).f1, wrap64 (((rd_T115 y1212 ((rd_T95 l2 x21_1).f1)).f2) + 1), (rd_T115 y1212 ((rd_T95 l2 x21_1).f1)).f3, (rd_T115 y1212 ((rd_T95 l2 x21_1).f1)).f4, (rd_T115 y1212 ((rd_T95 l2 x21_1).f1)).f5, (rd_T115 y1212 ((rd_T95 l2 x21_1).f1)).f6⟩ : S115) ) (fun _ hk => hk); have hx66_2 := hcc66 2 _ rfl; (try simp only [show (k115).sz = 7 from rfl, Nat.mul_one, Nat.add_zero] at hx66_2); have hf66_2 := hfr66 2; (try simp only [show (k115).sz = 7 from rfl, Nat.mul_one, Nat.add_zero] at hf66_2); clear hcl66 hcc66 hfr66; (try clear hM66)) | ((with_reducible refine gate_store (t := 3) (p := 106) rfl ?_); refine store_event (t := 3) (p := 106) (v := ?vo_w67) (w1 := (w65.setCell ⟨go26, (((rd_T95 l2 x21_1).f1) : Int).toNat * 7 + 2, none⟩ (.int .i64 (wrap64 (((rd_T115 y1212 ((rd_T95 l2 x21_1).f1)).f2) + 1))))) ?hg ?ho ?hn ?hr ?_; (case ho => rfl); (case hg => rfl); (case hn => rfl); (case hr => first | (go_simp; done) | (go_simp; rfl)); intro w67 hw; have hg : w65.grownBy w67 (some go26) := (by rw [hw]; exact HP66.2); have hp_ : Kd.R k115 115 w67 w.heap.size (fun _ => True) (.slice (some ⟨go26, 0, none⟩) x9_1.length co26) y1213 := (by rw [hw, Ny1213.out]; exact HP66.1); clear HP66; replace BK1188 := dk (blk_grown (g := gb1188) (o := .cells #[.int .i64 a0_0, .int .i64 a0_1, .int .i64 a0_2, .slice A0_3 l0_3.length c0_3, .bool a0_4] 33 (0, 0)) (bk BK1188) hg (Kd.R_ne HO_9.out BK1188.out (by decide))); replace BK1193 := dk (blk_grown (g := gb1193) (o := .cells #[.int .i64 ((rd_T95 l2 x21_1).f0), .int .i64 ((rd_T95 l2 x21_1).f1), .int .i64 ((rd_T95 l2 x21_1).f2), .int .i64 ((rd_T95 l2 x21_1).f3), .int .i64 ((rd_T95 l2 x21_1).f4)] 95 (0, 0)) (bk BK1193) hg (Kd.R_ne HO_9.out BK1193.out (by decide))); replace HO_9 := dk (hp_); replace HB := dk (by rw [hw]; exact below_set (HB.out) GB26.out : Below w.heap.size w w67); clear hg hw hp_))
                 replace HO_9 := dk (Kd.R_drew HO_9.out)
                 replace BK1188 := dk (blk_drew BK1188.out)
                 replace BK1193 := dk (blk_drew BK1193.out)
                 replace HB := dk (below_drew1 HB.out)
                 obtain ⟨ce69, hcl69, hM69, hcc69, hfr69⟩ := Kd.R_elem HO_9.out z115 (((rd_T95 l2 x21_1).f0) : Int) (oa) (by have h_ : (((rd_T95 l2 x21_1).f0) : Int) < ((x9_1.length : Int) : Int) := oa; first | exact h_ | (have e_ := (Kd.R_reads' HO_9.out).1; omega) | simpa using h_)
                 obtain rfl := k115_openM hM69
                 have HP69 := (Kd.R_seg HO_9.out (((rd_T95 l2 x21_1).f0) : Int) (oa) (by have h_ : (((rd_T95 l2 x21_1).f0) : Int) < ((x9_1.length : Int) : Int) := oa; first | exact h_ | (have e_ := (Kd.R_reads' HO_9.out).1; omega) | simpa using h_) (seg := [.int .i64 (wrap64 (((rd_T115 y1213 ((rd_T95 l2 x21_1).f0)).f6) + a0_1))]) (j := 6) hcl69 hcc69 (show 7 ≤ 7 from by decide) (x' := (⟨(rd_T115 y1213 ((rd_T95 l2 x21_1).f0)).f0, (rd_T115 y1213 ((rd_T95 l2 x21_1).f0)).f1, (rd_T115 y1213 ((rd_T95 l2 x21_1).f0)).f2, (rd_T115 y1213 ((rd_T95 l2 x21_1).f0)).f3, (rd_T115 y1213 ((rd_T95 l2 x21_1).f0)).f4, (rd_T115 y1213 ((rd_T95 l2 x21_1).f0)).f5, wrap64 (((rd_T115 y1213 ((rd_T95 l2 x21_1).f0)).f6) + a0_1)⟩ : S115)) (k115_mkM _ _ _ (⟨(rd_T115 y1213 ((rd_T95 l2 x21_1).f0)).f0, (rd_T115 y1213 ((rd_T95 l2 x21_1).f0)).f1, (rd_T115 y1213 ((rd_T95 l2 x21_1).f0)).f2, (rd_T115 y1213 ((rd_T95 l2 x21_1).f0)).f3, (rd_T115 y1213 ((rd_T95 l2 x21_1).f0)).f4, (rd_T115 y1213 ((rd_T95 l2 x21_1).f0)).f5, wrap64 (((rd_T115 y1213 ((rd_T95 l2 x21_1).f0)).f6) + a0_1)⟩ : S115) ) (fun _ hk => hk)).1
                 rw [← Ny1214.out] at HP69
                 have HQ69 := dk HP69
                 have hxE := hcc69 6 _ rfl
                 (try simp only [show (k115).sz = 7 from rfl, Nat.mul_one, Nat.add_zero] at hxE)
                 have hfE := hfr69 6
                 (try simp only [show (k115).sz = 7 from rfl, Nat.mul_one, Nat.add_zero] at hfE)
                 clear hcl69 hcc69 hfr69 hM69 HP69
                 refine start_ (n := 10) (S := fun w' => w'.cell? ⟨gb1188, 0, none⟩ = some (.int .i64 a0_0) ∧ w'.cell? ⟨gb1188, 1, none⟩ = some (.int .i64 a0_1) ∧ w'.cell? ⟨gb1188, 2, none⟩ = some (.int .i64 a0_2) ∧ w'.cell? ⟨gb1188, 3, none⟩ = some (.slice A0_3 l0_3.length c0_3) ∧ w'.cell? ⟨gb1188, 4, none⟩ = some (.bool a0_4) ∧ w'.cell? ⟨go26, (((rd_T95 l2 x21_1).f0) : Int).toNat * 7 + 6, none⟩ = some (.int .i64 ((rd_T115 y1213 ((rd_T95 l2 x21_1).f0))).f6) ∧ w'.frozen? ⟨go26, (((rd_T95 l2 x21_1).f0) : Int).toNat * 7 + 6, none⟩ = false) (ds := [9]) #[false, false, false, false, false, false, false, false, false, false] (by kernel_rfl) rfl rfl ⟨bc BK1188 0, bc BK1188 1, bc BK1188 2, bc BK1188 3, bc BK1188 4, hxE, hfE⟩ (fun hHeld => ?_); refine with_tabW impl_tableOfG.tab16 impl_tableOfG.bits16 (fun HT_ HW_ => ?_)
                 clear hxE hfE
                 generalize w67.drew = w68 at HO_9 BK1188 BK1193 HB HQ69 hHeld ⊢
                 refine pz_ 0 107 ?_
                 refine pz_ 1 108 ?_
                 refine pz_ 2 109 ?_
                 refine pz_ 4 111 ?_
                 refine tk_ 3 110 ?_
                 refine tk_ 5 112 ?_
                 refine pz_ 6 113 ?_
                 refine pz_ 7 114 ?_
                 refine pz_ 8 115 ?_
                 have hfE := hHeld.2.2.2.2.2.2
                 refine last_ (i := 9) (N := none) #[true, true, true, true, true, true, true, true, true, true] rfl rfl (one_of HT_.out (by kernel_rfl)) (by decide) (fun K hK => ?_)
                 refine skip_ (w1 := ?_) (by rfl) rfl ?_ ?_
                 rotate_left
                 ·go_simp
                  rfl
                 refine hK.out _ _ ?_
                 clear hK K
                 refine done_ (done_of HT_.out (by kernel_rfl)) ?_
                 try go_wp2
                 have n0_ : Aside0 (Kd.R k115 115 (w68.setCell ⟨go26, (((rd_T95 l2 x21_1).f0) : Int).toNat * 7 + 6, none⟩ (.int .i64 (wrap64 (((rd_T115 y1213 ((rd_T95 l2 x21_1).f0)).f6) + a0_1)))) w.heap.size (fun _ => True) (.slice (some ⟨go26, 0, none⟩) x9_1.length co26) y1214) := ⟨rr HQ69⟩
                 have n1_ : Aside0 ((w68.setCell ⟨go26, (((rd_T95 l2 x21_1).f0) : Int).toNat * 7 + 6, none⟩ (.int .i64 (wrap64 (((rd_T115 y1213 ((rd_T95 l2 x21_1).f0)).f6) + a0_1)))).heap[gb1188]? = some (.cells #[.int .i64 a0_0, .int .i64 a0_1, .int .i64 a0_2, .slice A0_3 l0_3.length c0_3, .bool a0_4] 33 (0, 0))) := ⟨bg HO_9 BK1188⟩
                 have n2_ : Aside0 ((w68.setCell ⟨go26, (((rd_T95 l2 x21_1).f0) : Int).toNat * 7 + 6, none⟩ (.int .i64 (wrap64 (((rd_T115 y1213 ((rd_T95 l2 x21_1).f0)).f6) + a0_1)))).heap[gb1193]? = some (.cells #[.int .i64 ((rd_T95 l2 x21_1).f0), .int .i64 ((rd_T95 l2 x21_1).f1), .int .i64 ((rd_T95 l2 x21_1).f2), .int .i64 ((rd_T95 l2 x21_1).f3), .int .i64 ((rd_T95 l2 x21_1).f4)] 95 (0, 0))) := ⟨bg HO_9 BK1193⟩
                 have n3_ : Aside0 (Below w.heap.size w (w68.setCell ⟨go26, (((rd_T95 l2 x21_1).f0) : Int).toNat * 7 + 6, none⟩ (.int .i64 (wrap64 (((rd_T115 y1213 ((rd_T95 l2 x21_1).f0)).f6) + a0_1))))) := ⟨bb HB⟩
                 (try clear HO_9)
                 (try clear BK1188)
                 (try clear BK1193)
                 (try clear HB)
                 generalize (w68.setCell ⟨go26, (((rd_T95 l2 x21_1).f0) : Int).toNat * 7 + 6, none⟩ (.int .i64 (wrap64 (((rd_T115 y1213 ((rd_T95 l2 x21_1).f0)).f6) + a0_1)))) = w70 at n0_ n1_ n2_ n3_ ⊢
                 have HO_9 := n0_
                 have BK1188 := n1_
                 have BK1193 := n2_
                 have HB := n3_
                 clear n0_ n1_ n2_ n3_
                 replace HO_9 := dk (Kd.R_drew HO_9.out)
                 replace BK1188 := dk (blk_drew BK1188.out)
                 replace BK1193 := dk (blk_drew BK1193.out)
                 replace HB := dk (below_drew1 HB.out)
                 obtain ⟨ce72, hcl72, hM72, hcc72, hfr72⟩ := Kd.R_elem HO_9.out z115 (((rd_T95 l2 x21_1).f1) : Int) (oa) (by have h_ : (((rd_T95 l2 x21_1).f1) : Int) < ((x9_1.length : Int) : Int) := oa; first | exact h_ | (have e_ := (Kd.R_reads' HO_9.out).1; omega) | simpa using h_)
                 obtain rfl := k115_openM hM72
                 have HP72 := (Kd.R_seg HO_9.out (((rd_T95 l2 x21_1).f1) : Int) (oa) (by have h_ : (((rd_T95 l2 x21_1).f1) : Int) < ((x9_1.length : Int) : Int) := oa; first | exact h_ | (have e_ := (Kd.R_reads' HO_9.out).1; omega) | simpa using h_) (seg := [.int .i64 (wrap64 (((rd_T115 y1214 ((rd_T95 l2 x21_1).f1)).f6) + a0_1))]) (j := 6) hcl72 hcc72 (show 7 ≤ 7 from by decide) (x' := (⟨(rd_T115 y1214 ((rd_T95 l2 x21_1).f1)).f0, (rd_T115 y1214 ((rd_T95 l2 x21_1).f1)).f1, (rd_T115 y1214 ((rd_T95 l2 x21_1).f1)).f2, (rd_T115 y1214 ((rd_T95 l2 x21_1).f1)).f3, (rd_T115 y1214 ((rd_T95 l2 x21_1).f1)).f4, (rd_T115 y1214 ((rd_T95 l2 x21_1).f1)).f5, wrap64 (((rd_T115 y1214 ((rd_T95 l2 x21_1).f1)).f6) + a0_1)⟩ : S115)) (k115_mkM _ _ _ (⟨(rd_T115 y1214 ((rd_T95 l2 x21_1).f1)).f0, (rd_T115 y1214 ((rd_T95 l2 x21_1).f1)).f1, (rd_T115 y1214 ((rd_T95 l2 x21_1).f1)).f2, (rd_T115 y1214 ((rd_T95 l2 x21_1).f1)).f3, (rd_T115 y1214 ((rd_T95 l2 x21_1).f1)).f4, (rd_T115 y1214 ((rd_T95 l2 x21_1).f1)).f5, wrap64 (((rd_T115 y1214 ((rd_T95 l2 x21_1).f1)).f6) + a0_1)⟩ : S115) ) (fun _ hk => hk)).1
                 rw [← Ny1215.out] at HP72
                 have HQ72 := dk HP72
                 have hxE := hcc72 6 _ rfl
                 (try simp only [show (k115).sz = 7 from rfl, Nat.mul_one, Nat.add_zero] at hxE)
                 have hfE := hfr72 6
                 (try simp only [show (k115).sz = 7 from rfl, Nat.mul_one, Nat.add_zero] at hfE)
                 clear hcl72 hcc72 hfr72 hM72 HP72
                 refine start_ (n := 10) (S := fun w' => w'.cell? ⟨gb1188, 0, none⟩ = some (.int .i64 a0_0) ∧ w'.cell? ⟨gb1188, 1, none⟩ = some (.int .i64 a0_1) ∧ w'.cell? ⟨gb1188, 2, none⟩ = some (.int .i64 a0_2) ∧ w'.cell? ⟨gb1188, 3, none⟩ = some (.slice A0_3 l0_3.length c0_3) ∧ w'.cell? ⟨gb1188, 4, none⟩ = some (.bool a0_4) ∧ w'.cell? ⟨go26, (((rd_T95 l2 x21_1).f1) : Int).toNat * 7 + 6, none⟩ = some (.int .i64 ((rd_T115 y1214 ((rd_T95 l2 x21_1).f1))).f6) ∧ w'.frozen? ⟨go26, (((rd_T95 l2 x21_1).f1) : Int).toNat * 7 + 6, none⟩ = false) (ds := [9]) #[false, false, false, false, false, false, false, false, false, false] (by kernel_rfl) rfl rfl ⟨bc BK1188 0, bc BK1188 1, bc BK1188 2, bc BK1188 3, bc BK1188 4, hxE, hfE⟩ (fun hHeld => ?_); refine with_tabW impl_tableOfG.tab17 impl_tableOfG.bits17 (fun HT_ HW_ => ?_)
                 clear hxE hfE
                 generalize w70.drew = w71 at HO_9 BK1188 BK1193 HB HQ69 HQ72 hHeld ⊢
                 refine pz_ 0 116 ?_
                 refine pz_ 1 117 ?_
                 refine pz_ 2 118 ?_
                 refine pz_ 4 120 ?_
                 refine tk_ 3 119 ?_
                 refine tk_ 5 121 ?_
                 refine pz_ 6 122 ?_
                 refine pz_ 7 123 ?_
                 refine pz_ 8 124 ?_
                 have hfE := hHeld.2.2.2.2.2.2
                 refine last_ (i := 9) (N := none) #[true, true, true, true, true, true, true, true, true, true] rfl rfl (one_of HT_.out (by kernel_rfl)) (by decide) (fun K hK => ?_)
                 refine skip_ (w1 := ?_) (by rfl) rfl ?_ ?_
                 rotate_left
                 ·go_simp
                  rfl
                 refine hK.out _ _ ?_
                 clear hK K
                 refine done_ (done_of HT_.out (by kernel_rfl)) ?_
                 try go_wp2
                 go_roundg kj12
                 case measure => have := HK1.out; have := HJ12.out; omega
                 case rel => exact ⟨(y1215), (wrap64 (x21_1 + 1)), e2_, H', ⟨by have := HK1.out; have := HJ12.out; omega⟩, ⟨rr HQ72⟩, ⟨bg HO_9 BK1188⟩, ⟨bb HB⟩⟩
              ·rw [if_neg c28] at H
               exact absurd H (by simp)
             ·rw [if_neg c27] at H
              exact absurd H (by simp)
            ·rw [if_neg c25] at H
             exact absurd H (by simp)
           ·rw [if_neg c24] at H
            exact absurd H (by simp)
       ·rw [if_neg c11] at H
        exact absurd H (by simp)
      ·rw [if_neg c10] at H
       exact absurd H (by simp)
     ·rw [if_neg c9] at H
      have c9b0 : decide (x21_1 < (l2.length : Int)) = false := decide_eq_false c9
      clear c9
      obtain rfl := Option.some.inj H
      go_wp2
      go_ret
      exact ⟨_, ee, rr HO_9, bb HB⟩
  ·rw [if_neg c5] at H
   exact absurd H (by simp)
 ·rw [if_neg c4] at H
  exact absurd H (by simp)
def impl_tableOf.f (k : Nat) (a0_0 : Int) (a0_1 : Int) (a0_2 : Int) (l0_3 : List Int) (a0_4 : Bool) (a1 : Int) (l2 : List (S95)) : Option ((List (S115))) := impl_tableOfG.f (fun _ => true) k a0_0 a0_1 a0_2 l0_3 a0_4 a1 l2
set_option maxHeartbeats 4000000 in
theorem impl_rankerOf_1.calls (x : S95) (W : World) : Calls Try.prog 136 #[.agg #[.int .i64 x.f0, .int .i64 x.f1, .int .i64 x.f2, .int .i64 x.f3, .int .i64 x.f4]] W fun e w' => e = .returned (.bool true) ∧ Below W.heap.size W w' := by
 go_enter Try.func136, Try.ntmps136
 go_wp2_with fail
 go_ret
 exact ⟨rfl, below_alloc (Below.refl _ _) _⟩
theorem impl_tableOf.calls (k : Nat) (a0_0 : Int) (a0_1 : Int) (a0_2 : Int) (A0_3 : Option Addr) (c0_3 : Nat) (l0_3 : List Int) (a0_4 : Bool) (a1 : Int) (A2 : Option Addr) (c2 : Nat) (l2 : List (S95)) (r : List (S115)) (w : World) (hr0_3 : Kd.C (Kd.int .i64) w A0_3 l0_3.length l0_3) (hc0_3 : l0_3.length ≤ c0_3) (hr2 : Kd.C k95 w A2 l2.length l2) (hc2 : l2.length ≤ c2) (h : impl_tableOf.f k a0_0 a0_1 a0_2 l0_3 a0_4 a1 l2 = some r) :
  Calls Try.prog 135 #[.agg #[.int .i64 a0_0, .int .i64 a0_1, .int .i64 a0_2, .slice A0_3 l0_3.length c0_3, .bool a0_4], .int .i64 a1, .slice A2 l2.length c2, .func (.func 136) #[] #[]] w fun e w' => ∃ v0_ : Value, e = .returned (v0_) ∧ Kd.R k115 115 w' w.heap.size (fun _ => True) v0_ r ∧ Below w.heap.size w w' :=
 impl_tableOfG.calls (fun _ => true) 136 #[] (my_enters Try.func136 (by kernel_rfl) rfl) k a0_0 a0_1 a0_2 A0_3 c0_3 l0_3 a0_4 a1 A2 c2 l2 r w hr0_3 hc0_3 hr2 hc2 (fun W x _ => impl_rankerOf_1.calls x W) h
end Go.Proofs.Ythfefanapneocaa.Q
end
namespace Go.Proofs.Ythfefanapneocaa.Q
open Go.RowKit Go.Proofs.YthfefanapneocaaW.PrintWords Go.Proofs.YthfefanapneocaaW.PrintLast Go.Proofs.YthfefanapneocaaW.PrintMore
attribute [local go_sem] max2_int min2_int max_two min_two max_three min_three max_four min_four
set_option linter.unusedVariables false
set_option linter.unusedSimpArgs false
set_option maxRecDepth 100000
set_option maxHeartbeats 8000000
def impl_rankerOf.f (k : Nat) (l0_0 : List (S139)) (a0_1 : Int) (a0_2 : Int) (a0_3 : Int) (l0_4 : List Int) (a0_5 : Bool) (l0_6 : List (S95)) (l0_7 : List Int) (l0_8 : List Int) : Option (List (S115)) := impl_tableOf.f k a0_1 a0_2 a0_3 l0_4 a0_5 (l0_0.length : Int) l0_6
def impl_rankerOf.T1 : Bool × List (List Nat × List Nat) := (true, [([], []), ([], []), ([1], [1]), ([], []), ([3], [3]), ([4], [4]), ([], []), ([6], [6]), ([2, 5, 7], [2, 5, 7]), ([0, 8], [0, 8]), ([9, 8, 0, 1, 2, 3, 4, 5, 6, 7, 8, 9], [9])])
def impl_rankerOf.B1 : List Nat := [0, 0, 2, 0, 8, 24, 0, 64, 254, 511, 1023]
theorem impl_rankerOf.tab1 : rtab .any (opsOf Try.f83 1) = impl_rankerOf.T1 := by kernel_rfl
theorem impl_rankerOf.bits1 : waitsOk impl_rankerOf.T1.2 impl_rankerOf.B1 = true := by kernel_rfl
set_option maxHeartbeats 4000000 in
theorem impl_rankerOf.calls (k : Nat) (A0_0 : Option Addr) (c0_0 : Nat) (l0_0 : List (S139)) (a0_1 : Int) (a0_2 : Int) (a0_3 : Int) (A0_4 : Option Addr) (c0_4 : Nat) (l0_4 : List Int) (a0_5 : Bool) (A0_6 : Option Addr) (c0_6 : Nat) (l0_6 : List (S95)) (A0_7 : Option Addr) (c0_7 : Nat) (l0_7 : List Int) (A0_8 : Option Addr) (c0_8 : Nat) (l0_8 : List Int) (r : List (S115)) (w : World) (hr0_0 : Kd.C k139 w A0_0 l0_0.length l0_0) (hc0_0 : l0_0.length ≤ c0_0) (hr0_4 : Kd.C (Kd.int .i64) w A0_4 l0_4.length l0_4) (hc0_4 : l0_4.length ≤ c0_4) (hr0_6 : Kd.C k95 w A0_6 l0_6.length l0_6) (hc0_6 : l0_6.length ≤ c0_6) (hr0_7 : Kd.C (Kd.int .i64) w A0_7 l0_7.length l0_7) (hc0_7 : l0_7.length ≤ c0_7) (hr0_8 : Kd.C (Kd.int .i64) w A0_8 l0_8.length l0_8) (hc0_8 : l0_8.length ≤ c0_8) (h : impl_rankerOf.f k l0_0 a0_1 a0_2 a0_3 l0_4 a0_5 l0_6 l0_7 l0_8 = some r) :
    Calls Try.prog 83 #[.agg #[.slice A0_0 l0_0.length c0_0, .int .i64 a0_1, .int .i64 a0_2, .int .i64 a0_3, .slice A0_4 l0_4.length c0_4, .bool a0_5, .slice A0_6 l0_6.length c0_6, .slice A0_7 l0_7.length c0_7, .slice A0_8 l0_8.length c0_8]] w fun e w' => ∃ v0_ : Value, e = .returned (.agg #[.slice A0_0 l0_0.length c0_0, .int .i64 a0_1, .int .i64 a0_2, .int .i64 a0_3, .slice A0_4 l0_4.length c0_4, .bool a0_5, .slice A0_6 l0_6.length c0_6, .slice A0_7 l0_7.length c0_7, .slice A0_8 l0_8.length c0_8, v0_]) ∧ Kd.R k115 115 w' w.heap.size (fun _ => True) v0_ r ∧ Below w.heap.size w w' := by
 have hu36 := Try.underlying36
 have hu117 := Try.underlying117
 have hu33 := Try.underlying33
 unfold impl_rankerOf.f at h
 have HT := dk h
 have R4 := dk hr0_4
 have C4 := dk hc0_4
 have R6 := dk hr0_6
 have C6 := dk hc0_6
 clear h hr0_0 hc0_0 hr0_4 hc0_4 hr0_6 hc0_6 hr0_7 hc0_7 hr0_8 hc0_8
 have HB := dk (Below.refl w.heap.size w)
 go_enter Try.func83, Try.ntmps83
 try go_wp2_with (first
   | ((with_reducible refine gate_dst (N := 1) rfl ?_); refine bx (N := 1) (cs := #[.slice A0_0 l0_0.length c0_0, .int .i64 a0_1, .int .i64 a0_2, .int .i64 a0_3, .slice A0_4 l0_4.length c0_4, .bool a0_5, .slice A0_6 l0_6.length c0_6, .slice A0_7 l0_7.length c0_7, .slice A0_8 l0_8.length c0_8]) (t := 36) ?_; intro ga hg w8 hbox hb; have BK612 := dk (hbox); have GE612 := gs hg HB; replace HB := hs_ HB hb; clear hb hbox hg)
   | ((with_reducible refine gate_dst (N := 2) rfl ?_); refine bx (N := 2) (cs := #[.slice none 0 0, .int .i64 0, .int .i64 0, .int .i64 0, .slice none 0 0, .bool false, .slice none 0 0, .slice none 0 0, .slice none 0 0, .slice none 0 0]) (t := 117) ?_; intro gb hg w9 hbox hb; have NB612_613 := gn hg BK612; have NB613_612 := gm hg BK612; replace BK612 := kb BK612 hb; have BK613 := dk (hbox); have GE613 := gs hg HB; replace HB := hs_ HB hb; clear hb hbox hg))
 replace BK612 := dk (blk_drew BK612.out)
 replace BK613 := dk (blk_drew BK613.out)
 replace HB := dk (below_drew1 HB.out)
 refine start_ (n := 11) (S := fun w' => w'.cell? ⟨ga, 0, none⟩ = some (.slice A0_0 l0_0.length c0_0) ∧ w'.cell? ⟨ga, 1, none⟩ = some (.int .i64 a0_1) ∧ w'.cell? ⟨ga, 2, none⟩ = some (.int .i64 a0_2) ∧ w'.cell? ⟨ga, 3, none⟩ = some (.int .i64 a0_3) ∧ w'.cell? ⟨ga, 4, none⟩ = some (.slice A0_4 l0_4.length c0_4) ∧ w'.cell? ⟨ga, 5, none⟩ = some (.bool a0_5) ∧ w'.cell? ⟨ga, 6, none⟩ = some (.slice A0_6 l0_6.length c0_6) ∧ w'.cell? ⟨ga, 7, none⟩ = some (.slice A0_7 l0_7.length c0_7) ∧ w'.cell? ⟨ga, 8, none⟩ = some (.slice A0_8 l0_8.length c0_8)) (ds := []) #[false, false, false, false, false, false, false, false, false, false, false] (by kernel_rfl) rfl rfl ⟨bc BK612 0, bc BK612 1, bc BK612 2, bc BK612 3, bc BK612 4, bc BK612 5, bc BK612 6, bc BK612 7, bc BK612 8⟩ (fun hHeld => ?_); refine with_tabW impl_rankerOf.tab1 impl_rankerOf.bits1 (fun HT_ HW_ => ?_)
 generalize w9.drew = w10 at BK612 BK613 HB hHeld ⊢
 refine pz_ 1 4 ?_
 refine pz_ 3 6 ?_
 refine pz_ 6 9 ?_
 refine tk_ 0 3 ?_
 refine tk_ 2 5 ?_
 refine tk_ 4 7 ?_
 refine pz_ 5 8 ?_
 refine tk_ 7 10 ?_
 refine one_ (i := 8) (N := some 11) #[true, true, true, true, true, true, true, true, true, false, false] rfl rfl (one_of HT_.out (by kernel_rfl)) (by decide) (fun K hK => ?_)
 refine goes_ Try.func135 (by kernel_rfl) rfl #[.agg #[.int .i64 a0_1, .int .i64 a0_2, .int .i64 a0_3, .slice A0_4 l0_4.length c0_4, .bool a0_5], .int .i64 (l0_0.length : Int), .slice A0_6 l0_6.length c0_6, .func (.func 136) #[] #[]] (by rfl) rfl rfl (by (try simp only [List.map_toArray, List.map_cons, List.map_nil]); first | done | rfl | (simp only [List.length_drop, List.length_take]; rfl)) ?_
 with_reducible refine (impl_tableOf.calls k a0_1 a0_2 a0_3 _ _ l0_4 a0_5 (l0_0.length : Int) _ _ l0_6 r _ ?side1 ?side2 ?side3 ?side4 HT.out).mono ?_
 (case side1 => exact cc R4 HB)
 (case side2 => exact C4.out)
 (case side3 => exact cc R6 HB)
 (case side4 => exact C6.out)
 rintro e w11 ⟨v615, rfl, ho0, hb⟩
 refine ⟨_, rfl, ?_⟩
 have HO616 := kl ho0 HB
 replace BK612 := kb BK612 hb
 replace BK613 := kb BK613 hb
 replace HB := hs_ HB hb
 (try clear hb hb2 hk hi ho0)
 obtain ⟨Ao12, co12, eo12⟩ := Kd.R_slice HO616.out
 (first | subst eo12 | (injection eo12 with f1_ f2_ f3_; have f4_ := f1_.symm; have f5_ := f3_.symm; clear f1_ f2_ f3_; subst f4_; subst f5_))
 refine hK.out _ _ ⟨bc BK612 0, bc BK612 1, bc BK612 2, bc BK612 3, bc BK612 4, bc BK612 5, bc BK612 6, bc BK612 7, bc BK612 8⟩ (fun hHeld => ?_)
 clear hK K
 refine norm_ (a' := ?_) ?_ ?_
 rotate_left
 ·show Act.put _ (some 11) _ = _
  simp only [Act.put, List.setIfInBounds_toArray, List.set_cons_zero, List.set_cons_succ, i64_w, i32_w]
  rfl
 refine pz_ 9 12 ?_
 refine one_ (i := 10) (N := none) #[true, true, true, true, true, true, true, true, true, true, true] rfl rfl (one_of HT_.out (by kernel_rfl)) (by decide) (fun K hK => ?_)
 have hs13 : w11.cell? ⟨gb, 0, none⟩ = some (.slice none 0 0) := bc BK613 0
 have hfs13 := blk_frozen BK613.out 0
 have hns13_0 := NB612_613.out
 have hms13_0 := NB613_612.out
 have hs14 : w11.cell? ⟨gb, 1, none⟩ = some (.int .i64 0) := bc BK613 1
 have hfs14 := blk_frozen BK613.out 1
 have hns14_0 := NB612_613.out
 have hms14_0 := NB613_612.out
 have hs15 : w11.cell? ⟨gb, 2, none⟩ = some (.int .i64 0) := bc BK613 2
 have hfs15 := blk_frozen BK613.out 2
 have hns15_0 := NB612_613.out
 have hms15_0 := NB613_612.out
 have hs16 : w11.cell? ⟨gb, 3, none⟩ = some (.int .i64 0) := bc BK613 3
 have hfs16 := blk_frozen BK613.out 3
 have hns16_0 := NB612_613.out
 have hms16_0 := NB613_612.out
 have hs17 : w11.cell? ⟨gb, 4, none⟩ = some (.slice none 0 0) := bc BK613 4
 have hfs17 := blk_frozen BK613.out 4
 have hns17_0 := NB612_613.out
 have hms17_0 := NB613_612.out
 have hs18 : w11.cell? ⟨gb, 5, none⟩ = some (.bool false) := bc BK613 5
 have hfs18 := blk_frozen BK613.out 5
 have hns18_0 := NB612_613.out
 have hms18_0 := NB613_612.out
 have hs19 : w11.cell? ⟨gb, 6, none⟩ = some (.slice none 0 0) := bc BK613 6
 have hfs19 := blk_frozen BK613.out 6
 have hns19_0 := NB612_613.out
 have hms19_0 := NB613_612.out
 have hs20 : w11.cell? ⟨gb, 7, none⟩ = some (.slice none 0 0) := bc BK613 7
 have hfs20 := blk_frozen BK613.out 7
 have hns20_0 := NB612_613.out
 have hms20_0 := NB613_612.out
 have hs21 : w11.cell? ⟨gb, 8, none⟩ = some (.slice none 0 0) := bc BK613 8
 have hfs21 := blk_frozen BK613.out 8
 have hns21_0 := NB612_613.out
 have hms21_0 := NB613_612.out
 have hs22 : w11.cell? ⟨gb, 9, none⟩ = some (.slice none 0 0) := bc BK613 9
 have hfs22 := blk_frozen BK613.out 9
 have hns22_0 := NB612_613.out
 have hms22_0 := NB613_612.out
 refine skip_ (w1 := ?_) (by rfl) rfl ?_ ?_
 rotate_left
 ·go_simp
  rfl
 refine hK.out _ _ ?_ (fun hHeld => ?_)
 ·exact rb9 ⟨bf NB612_613.out BK612⟩
 clear hK K
 refine done_ (done_of HT_.out (by kernel_rfl)) ?_
 try go_wp2
 refine bodyPost_ret (results_cell_row rfl _ _ gb 117 #[.slice A0_0 l0_0.length c0_0, .int .i64 a0_1, .int .i64 a0_2, .int .i64 a0_3, .slice A0_4 l0_4.length c0_4, .bool a0_5, .slice A0_6 l0_6.length c0_6, .slice A0_7 l0_7.length c0_7, .slice A0_8 l0_8.length c0_8, .slice Ao12 r.length co12] (0, 0) _ rfl (bp BK613) Try.underlying117 rfl (by kernel_rfl)) rfl ?_
 exact ⟨_, rfl, rf HO616 BK613 (fun _ hk => hk.1), bb HB⟩
theorem fieldTable_ (a0 a1 a2 a3 a4 a5 a6 a7 a8 v : Value) (w : World) : (Instr.field 117 (.agg #[a0, a1, a2, a3, a4, a5, a6, a7, a8, v]) 1).run Try.prog w = .ok v w := by
 have hu := Try.underlying117
 unfold Instr.field
 go_simp
 simp [asAgg]
attribute [local go_sem] fieldTable_
def impl_PointsLost.l0 : Nat → List Int → List (S115) → List (S115) → Int → Int → Option (List Int)
 | 0, _, _, _, _, _ => none
 | k + 1, x9, x10, x28, x29, x30 => if x30 < x29 then (if 0 ≤ x30 then (if x30 < (x28.length : Int) then (if x30 < (x10.length : Int) then (if x9.length < 17592186044416 then (impl_PointsLost.l0 k (x9 ++ [wrap64 (((rd_T115 x28 x30).f6) - ((rd_T115 x10 x30).f6))]) x10 x28 x29 (wrap64 (x30 + 1))) else (none)) else (none)) else (none)) else (none)) else (some x9)
def impl_PointsLost.f (k : Nat) (l0_0 : List (S139)) (a0_1 : Int) (a0_2 : Int) (a0_3 : Int) (l0_4 : List Int) (a0_5 : Bool) (l0_6 : List (S95)) (l0_7 : List Int) (l0_8 : List Int) (a1 : Int) (a2 : Int) : Option (List Int) := (impl_Withdraw.f k l0_0 a0_1 a0_2 a0_3 l0_4 a0_5 l0_6 l0_7 l0_8 a1 a2).bind fun bt1217 => (if bt1217.2.2.2.2.2.2.2.2.2 = true then ((impl_rankerOf.f k bt1217.1 bt1217.2.1 bt1217.2.2.1 bt1217.2.2.2.1 bt1217.2.2.2.2.1 bt1217.2.2.2.2.2.1 bt1217.2.2.2.2.2.2.1 bt1217.2.2.2.2.2.2.2.1 bt1217.2.2.2.2.2.2.2.2.1).bind fun t1241 => ((impl_rankerOf.f k l0_0 a0_1 a0_2 a0_3 l0_4 a0_5 l0_6 l0_7 l0_8).bind fun t1244 => (impl_PointsLost.l0 k (([] : List Int)) t1241 t1244 (t1244.length : Int) 0))) else (some ([] : List Int)))
def impl_PointsLost.T8 : Bool × List (List Nat × List Nat) := (true, [([], []), ([], []), ([1], [1]), ([], []), ([], []), ([3, 4], [3, 4]), ([5], [5]), ([6], [6]), ([2, 7], [2, 7]), ([8], [8]), ([0, 9], [0, 9]), ([10, 10, 0, 1, 2, 3, 4, 5, 6, 7, 8, 9, 10], [0, 10])])
def impl_PointsLost.B8 : List Nat := [0, 0, 2, 0, 0, 24, 56, 120, 254, 510, 1023, 2047]
theorem impl_PointsLost.tab8 : rtab .any (opsOf Try.f27 8) = impl_PointsLost.T8 := by kernel_rfl
theorem impl_PointsLost.bits8 : waitsOk impl_PointsLost.T8.2 impl_PointsLost.B8 = true := by kernel_rfl
theorem impl_PointsLost.calls (k : Nat) (A0_0 : Option Addr) (c0_0 : Nat) (l0_0 : List (S139)) (a0_1 : Int) (a0_2 : Int) (a0_3 : Int) (A0_4 : Option Addr) (c0_4 : Nat) (l0_4 : List Int) (a0_5 : Bool) (A0_6 : Option Addr) (c0_6 : Nat) (l0_6 : List (S95)) (A0_7 : Option Addr) (c0_7 : Nat) (l0_7 : List Int) (A0_8 : Option Addr) (c0_8 : Nat) (l0_8 : List Int) (a1 : Int) (a2 : Int) (r : List Int) (w : World) (hr0_0 : Kd.C k139 w A0_0 l0_0.length l0_0) (hc0_0 : l0_0.length ≤ c0_0) (hr0_4 : Kd.C (Kd.int .i64) w A0_4 l0_4.length l0_4) (hc0_4 : l0_4.length ≤ c0_4) (hr0_6 : Kd.C k95 w A0_6 l0_6.length l0_6) (hc0_6 : l0_6.length ≤ c0_6) (hr0_7 : Kd.C (Kd.int .i64) w A0_7 l0_7.length l0_7) (hc0_7 : l0_7.length ≤ c0_7) (hr0_8 : Kd.C (Kd.int .i64) w A0_8 l0_8.length l0_8) (hc0_8 : l0_8.length ≤ c0_8) (h : impl_PointsLost.f k l0_0 a0_1 a0_2 a0_3 l0_4 a0_5 l0_6 l0_7 l0_8 a1 a2 = some r) :
  Calls Try.prog 27 #[.agg #[.slice A0_0 l0_0.length c0_0, .int .i64 a0_1, .int .i64 a0_2, .int .i64 a0_3, .slice A0_4 l0_4.length c0_4, .bool a0_5, .slice A0_6 l0_6.length c0_6, .slice A0_7 l0_7.length c0_7, .slice A0_8 l0_8.length c0_8], .int .i64 a1, .int .i64 a2] w fun e w' => ∃ v0_ : Value, e = .returned (v0_) ∧ Kd.R (Kd.int .i64) 3 w' w.heap.size (fun _ => True) v0_ r ∧ Below w.heap.size w w' := by
 have hu117 := Try.underlying117
 have hu36 := Try.underlying36
 have hu115 := Try.underlying115
 have HR0_0 := dk hr0_0
 have HC0_0 := dk hc0_0
 clear hr0_0 hc0_0
 have HR0_4 := dk hr0_4
 have HC0_4 := dk hc0_4
 clear hr0_4 hc0_4
 have HR0_6 := dk hr0_6
 have HC0_6 := dk hc0_6
 clear hr0_6 hc0_6
 have HR0_7 := dk hr0_7
 have HC0_7 := dk hc0_7
 clear hr0_7 hc0_7
 have HR0_8 := dk hr0_8
 have HC0_8 := dk hc0_8
 clear hr0_8 hc0_8
 have HB := dk (Below.refl w.heap.size w)
 have H : ((impl_Withdraw.f k l0_0 a0_1 a0_2 a0_3 l0_4 a0_5 l0_6 l0_7 l0_8 a1 a2).bind fun bt1217 => (if bt1217.2.2.2.2.2.2.2.2.2 = true then ((impl_rankerOf.f k bt1217.1 bt1217.2.1 bt1217.2.2.1 bt1217.2.2.2.1 bt1217.2.2.2.2.1 bt1217.2.2.2.2.2.1 bt1217.2.2.2.2.2.2.1 bt1217.2.2.2.2.2.2.2.1 bt1217.2.2.2.2.2.2.2.2.1).bind fun t1241 => ((impl_rankerOf.f k l0_0 a0_1 a0_2 a0_3 l0_4 a0_5 l0_6 l0_7 l0_8).bind fun t1244 => (impl_PointsLost.l0 k (([] : List Int)) t1241 t1244 (t1244.length : Int) 0))) else (some ([] : List Int)))) = some r := h
 clear h
 replace H := Option.bind_eq_some_iff.mp H
 obtain ⟨⟨t1217, t1220, t1221, t1222, t1223, t1226, t1227, t1230, t1233, t1236⟩, A40, H⟩ := H
 try dsimp only at H
 have A4 := dk A40
 clear A40
 by_cases c5 : t1236 = true
 ·subst c5
  rw [if_pos rfl] at H
  obtain ⟨y1238, hy1238⟩ : ∃ y_ : List Int, y_ = (([] : List Int)) := ⟨_, rfl⟩
  replace H : ((impl_rankerOf.f k t1217 t1220 t1221 t1222 t1223 t1226 t1227 t1230 t1233).bind fun t1241 => ((impl_rankerOf.f k l0_0 a0_1 a0_2 a0_3 l0_4 a0_5 l0_6 l0_7 l0_8).bind fun t1244 => (impl_PointsLost.l0 k y1238 t1241 t1244 (t1244.length : Int) 0))) = some r := by first | (rw [hy1238]; with_reducible exact H) | (have H2_ := (Option.bind_some _ _).symm.trans H; rw [hy1238]; with_reducible exact H2_) | (have H2_ := (Option.bind_some _ _).symm.trans H; with_reducible exact H2_) | with_reducible exact H | (rw [hy1238]; exact H) | exact H
  have Ny1238 := dk hy1238
  clear hy1238
  replace H := Option.bind_eq_some_iff.mp H
  obtain ⟨t1241, A60, H⟩ := H
  try dsimp only at H
  have A6 := dk A60
  clear A60
  replace H := Option.bind_eq_some_iff.mp H
  obtain ⟨t1244, A70, H⟩ := H
  try dsimp only at H
  have A7 := dk A70
  clear A70
  have H' := dk H
  clear H
  go_enter Try.func27, Try.ntmps27
  go_wp2_with (first | ((with_reducible refine gate_dst (N := 3) rfl ?_); refine bx (N := 3) (cs := #[.slice A0_0 l0_0.length c0_0, .int .i64 a0_1, .int .i64 a0_2, .int .i64 a0_3, .slice A0_4 l0_4.length c0_4, .bool a0_5, .slice A0_6 l0_6.length c0_6, .slice A0_7 l0_7.length c0_7, .slice A0_8 l0_8.length c0_8]) (t := 36) ?_; intro gb1216 hg w8 hbox hb; have BK1216 := dk (hbox); have GW1216 := gs hg HB; have GE1216 := gs hg HB; replace HB := hs_ HB hb; clear hb hbox hg; have ⟨z9_0, z9_1, z9_2, z9_3, z9_4, z9_5, z9_6, z9_7, z9_8, v9_0, v9_1, v9_2, v9_3, v9_4, v9_5, v9_6, v9_7, v9_8⟩ := rz9 BK1216) | ((with_reducible refine gate_callee (f := 25) rfl ?_); refine gl (some 17) Try.func25 #[.agg #[.slice A0_0 l0_0.length c0_0, .int .i64 a0_1, .int .i64 a0_2, .int .i64 a0_3, .slice A0_4 l0_4.length c0_4, .bool a0_5, .slice A0_6 l0_6.length c0_6, .slice A0_7 l0_7.length c0_7, .slice A0_8 l0_8.length c0_8], .int .i64 a1, .int .i64 a2] ?_; (with_reducible refine (impl_Withdraw.calls k _ _ l0_0 a0_1 a0_2 a0_3 _ _ l0_4 a0_5 _ _ l0_6 _ _ l0_7 _ _ l0_8 a1 a2 t1217 t1220 t1221 t1222 t1223 t1226 t1227 t1230 t1233 true _ ?side1 ?side2 ?side3 ?side4 ?side5 ?side6 ?side7 ?side8 ?side9 ?side10 A4.out).mono ?_); (case side1 => exact cc HR0_0 HB); (case side2 => exact HC0_0.out); (case side3 => exact cc HR0_4 HB); (case side4 => exact HC0_4.out); (case side5 => exact cc HR0_6 HB); (case side6 => exact HC0_6.out); (case side7 => exact cc HR0_7 HB); (case side8 => exact HC0_7.out); (case side9 => exact cc HR0_8 HB); (case side10 => exact HC0_8.out); rintro e w10 ⟨v1218, v1224, v1228, v1231, v1234, rfl, ho0, ho1, ho2, ho3, ho4, hb⟩; refine ⟨_, rfl, ?_⟩; have HO1219 := kl ho0 HB; have HO1225 := kl ho1 HB; have HO1229 := kl ho2 HB; have HO1232 := kl ho3 HB; have HO1235 := kl ho4 HB; replace BK1216 := kb BK1216 hb; replace HB := hs_ HB hb; (try clear hb hb2 hk hi ho0 ho1 ho2 ho3 ho4)) | ((with_reducible refine gate_dst (N := 7) rfl ?_); refine bx (N := 7) (cs := #[.slice none 0 0, .int .i64 0, .int .i64 0, .int .i64 0, .slice none 0 0, .bool false, .slice none 0 0, .slice none 0 0, .slice none 0 0]) (t := 36) ?_; intro gb1237 hg w11 hbox hb; replace HO1219 := kr HO1219 hb; replace HO1225 := kr HO1225 hb; replace HO1229 := kr HO1229 hb; replace HO1232 := kr HO1232 hb; replace HO1235 := kr HO1235 hb; have BK1237 := dk (hbox); have GW1237 := gs hg HB; have GE1237 := gs hg HB; replace HB := hs_ HB hb; have NB1216_1237 := gn hg BK1216; have NB1237_1216 := gm hg BK1216; replace BK1216 := kb BK1216 hb; clear hb hbox hg; obtain ⟨Ao12, co12, eo12⟩ := Kd.R_slice HO1219.out; subst eo12; have hnb13 := NB1237_1216.out; have hnc13 := NB1216_1237.out; have ⟨z14_0, z14_1, z14_2, z14_3, z14_4, z14_5, z14_6, z14_7, z14_8, v14_0, v14_1, v14_2, v14_3, v14_4, v14_5, v14_6, v14_7, v14_8⟩ := rz9 BK1237; obtain ⟨Ao15, co15, eo15⟩ := Kd.R_slice HO1225.out; subst eo15; obtain ⟨Ao16, co16, eo16⟩ := Kd.R_slice HO1229.out; subst eo16; obtain ⟨Ao17, co17, eo17⟩ := Kd.R_slice HO1232.out; subst eo17; obtain ⟨Ao18, co18, eo18⟩ := Kd.R_slice HO1235.out; subst eo18) | ((with_reducible refine gate_dst (N := 22) rfl ?_); refine Kd.R_lit (Kd.int .i64) _ 3 ?hg (N := 22) ?hd (xs := ([] : List Int)) (inner := []) (ok := fun _ => True) (okp := fun _ => True) ?hr ?hp (fun _ hk => hk) trivial (Below.refl _ _) (Nat.le_refl _) (by simp) ?_; (case hd => rfl); (case hg => rfl); (case hr => first | (go_simp; done) | (go_simp; rfl)); (case hp => exact (Reps.none _ _)); intro v1239 w19 ho20 hb hg_ hnew_; clear hg_ hnew_; (first | rw [← Ny1238.out] at ho20 | (simp only [Int.reduceToNat] at ho20; rw [← Ny1238.out] at ho20)); replace HO1219 := kf HO1219 BK1237 hb; replace HO1229 := kf HO1229 BK1237 hb; have HO1240 := dk (Kd.R_lower (Kd.R_new' (Kd.R_new' (Kd.R_new' ho20 (Kd.R_lt (rf HO1225 BK1237 (fun _ h_ => h_.1)))) (Kd.R_lt (rf HO1232 BK1237 (fun _ h_ => h_.1)))) (Kd.R_lt (rf HO1235 BK1237 (fun _ h_ => h_.1)))) (below_size (bb HB))); replace HO1225 := dk (Kd.R_elder' (rf HO1225 BK1237 (fun _ h_ => h_.1)) (Kd.R_base ho20) hb); replace HO1232 := dk (Kd.R_elder' (rf HO1232 BK1237 (fun _ h_ => h_.1)) (Kd.R_base ho20) hb); replace HO1235 := dk (Kd.R_elder' (rf HO1235 BK1237 (fun _ h_ => h_.1)) (Kd.R_base ho20) hb); replace BK1216 := dk (blk_below (bf NB1216_1237.out BK1216) hb); replace BK1237 := dk (blk_below (g := gb1237) (o := .cells #[.slice Ao12 t1217.length co12, .int .i64 t1220, .int .i64 t1221, .int .i64 t1222, .slice Ao15 t1223.length co15, .bool t1226, .slice Ao16 t1227.length co16, .slice Ao17 t1230.length co17, .slice Ao18 t1233.length co18] 36 (0, 0)) (bp BK1237) hb); replace HB := hs_ HB hb; clear hb ho20; have ⟨z21_0, z21_1, z21_2, z21_3, z21_4, z21_5, z21_6, z21_7, z21_8, v21_0, v21_1, v21_2, v21_3, v21_4, v21_5, v21_6, v21_7, v21_8⟩ := rz9 BK1237) | ((with_reducible refine gate_callee (f := 83) rfl ?_); refine gl (some 24) Try.func83 #[.agg #[.slice Ao12 t1217.length co12, .int .i64 t1220, .int .i64 t1221, .int .i64 t1222, .slice Ao15 t1223.length co15, .bool t1226, .slice Ao16 t1227.length co16, .slice Ao17 t1230.length co17, .slice Ao18 t1233.length co18]] ?_; (with_reducible refine (impl_rankerOf.calls k _ _ t1217 t1220 t1221 t1222 _ _ t1223 t1226 _ _ t1227 _ _ t1230 _ _ t1233 t1241 _ ?side1 ?side2 ?side3 ?side4 ?side5 ?side6 ?side7 ?side8 ?side9 ?side10 A6.out).mono ?_); (case side1 => exact cr HO1219); (case side2 => exact cl HO1219); (case side3 => exact cr HO1225); (case side4 => exact cl HO1225); (case side5 => exact cr HO1229); (case side6 => exact cl HO1229); (case side7 => exact cr HO1232); (case side8 => exact cl HO1232); (case side9 => exact cr HO1235); (case side10 => exact cl HO1235); rintro e w22 ⟨v1242, rfl, ho0, hb⟩; refine ⟨_, rfl, ?_⟩; replace HO1219 := kr HO1219 hb; replace HO1225 := kr HO1225 hb; replace HO1229 := kr HO1229 hb; replace HO1232 := kr HO1232 hb; replace HO1235 := kr HO1235 hb; replace HO1240 := kr HO1240 hb; have HO1243 := kl ho0 HB; replace BK1216 := kb BK1216 hb; replace BK1237 := kb BK1237 hb; replace HB := hs_ HB hb; (try clear hb hb2 hk hi ho0); have ⟨z23_0, z23_1, z23_2, z23_3, z23_4, z23_5, z23_6, z23_7, z23_8, v23_0, v23_1, v23_2, v23_3, v23_4, v23_5, v23_6, v23_7, v23_8⟩ := rz9 BK1216) | ((with_reducible refine gate_callee (f := 83) rfl ?_); refine gl (some 27) Try.func83 #[.agg #[.slice A0_0 l0_0.length c0_0, .int .i64 a0_1, .int .i64 a0_2, .int .i64 a0_3, .slice A0_4 l0_4.length c0_4, .bool a0_5, .slice A0_6 l0_6.length c0_6, .slice A0_7 l0_7.length c0_7, .slice A0_8 l0_8.length c0_8]] ?_; (with_reducible refine (impl_rankerOf.calls k _ _ l0_0 a0_1 a0_2 a0_3 _ _ l0_4 a0_5 _ _ l0_6 _ _ l0_7 _ _ l0_8 t1244 _ ?side1 ?side2 ?side3 ?side4 ?side5 ?side6 ?side7 ?side8 ?side9 ?side10 A7.out).mono ?_); (case side1 => exact cc HR0_0 HB); (case side2 => exact HC0_0.out); (case side3 => exact cc HR0_4 HB); (case side4 => exact HC0_4.out); (case side5 => exact cc HR0_6 HB); (case side6 => exact HC0_6.out); (case side7 => exact cc HR0_7 HB); (case side8 => exact HC0_7.out); (case side9 => exact cc HR0_8 HB); (case side10 => exact HC0_8.out); rintro e w24 ⟨v1245, rfl, ho0, hb⟩; refine ⟨_, rfl, ?_⟩; replace HO1219 := kr HO1219 hb; replace HO1225 := kr HO1225 hb; replace HO1229 := kr HO1229 hb; replace HO1232 := kr HO1232 hb; replace HO1235 := kr HO1235 hb; replace HO1240 := kr HO1240 hb; have HO1246 := dk (Kd.R_lower (Kd.R_new' ho0 (rt HO1243)) (below_size (bb HB))); replace HO1243 := ke HO1243 ho0 hb; replace BK1216 := kb BK1216 hb; replace BK1237 := kb BK1237 hb; replace HB := hs_ HB hb; (try clear hb hb2 hk hi ho0); obtain ⟨Ao25, co25, eo25⟩ := Kd.R_slice HO1246.out; subst eo25))
  go_loopg [9, 30] k (fun kq v9 v30 w' => ∃ (x9_1 : List Int) (x30_1 : Int), v30 = .int .i64 x30_1 ∧ Aside0 (impl_PointsLost.l0 kq x9_1 t1241 t1244 (t1244.length : Int) x30_1 = some r) ∧ Aside0 (kq ≤ k) ∧ Aside0 (Kd.R (Kd.int .i64) 3 w' w.heap.size (fun k_ => nb k_ Ao15 t1223.length co15 ∧ nb k_ Ao17 t1230.length co17 ∧ nb k_ Ao18 t1233.length co18) v9 x9_1) ∧ Aside0 (Kd.R k115 115 w' w.heap.size (fun k_ => nb k_ Ao25 t1244.length co25) v1242 t1241) ∧ Aside0 (Kd.R k115 115 w' w.heap.size (fun k_ => some k_ ≠ (v1242 : Value).ownBlock) (.slice Ao25 t1244.length co25) t1244) ∧ Aside0 (Kd.R k139 139 w' w.heap.size (fun _ => True) (.slice Ao12 t1217.length co12) t1217) ∧ Aside0 (Kd.R (Kd.int .i64) 3 w' w.heap.size (fun k_ => some k_ ≠ (v9 : Value).ownBlock ∧ nb k_ Ao17 t1230.length co17 ∧ nb k_ Ao18 t1233.length co18) (.slice Ao15 t1223.length co15) t1223) ∧ Aside0 (Kd.R k95 95 w' w.heap.size (fun _ => True) (.slice Ao16 t1227.length co16) t1227) ∧ Aside0 (Kd.R (Kd.int .i64) 3 w' w.heap.size (fun k_ => some k_ ≠ (v9 : Value).ownBlock ∧ nb k_ Ao15 t1223.length co15 ∧ nb k_ Ao18 t1233.length co18) (.slice Ao17 t1230.length co17) t1230) ∧ Aside0 (Kd.R (Kd.int .i64) 3 w' w.heap.size (fun k_ => some k_ ≠ (v9 : Value).ownBlock ∧ nb k_ Ao15 t1223.length co15 ∧ nb k_ Ao17 t1230.length co17) (.slice Ao18 t1233.length co18) t1233) ∧ Aside0 (w'.heap[gb1216]? = some (.cells #[(.slice A0_0 l0_0.length c0_0), .int .i64 a0_1, .int .i64 a0_2, .int .i64 a0_3, (.slice A0_4 l0_4.length c0_4), .bool a0_5, (.slice A0_6 l0_6.length c0_6), (.slice A0_7 l0_7.length c0_7), (.slice A0_8 l0_8.length c0_8)] 36 (0, 0))) ∧ Aside0 (w'.heap[gb1237]? = some (.cells #[(.slice Ao12 t1217.length co12), .int .i64 t1220, .int .i64 t1221, .int .i64 t1222, (.slice Ao15 t1223.length co15), .bool t1226, (.slice Ao16 t1227.length co16), (.slice Ao17 t1230.length co17), (.slice Ao18 t1233.length co18)] 36 (0, 0))) ∧ Aside0 (Below w.heap.size w w'))
  case atStart => exact ⟨(y1238), (0), e2_, H', ⟨Nat.le_refl _⟩, ⟨rp HO1240⟩, ⟨ro HO1243 (fun _ hk => hk.2)⟩, ⟨ro HO1246 (fun _ hk => hk.2)⟩, ⟨rr HO1219⟩, ⟨rp HO1225⟩, ⟨rr HO1229⟩, ⟨rp HO1232⟩, ⟨rp HO1235⟩, ⟨bk BK1216⟩, ⟨bk BK1237⟩, ⟨bb HB⟩⟩
  case round =>
   clear H'
   (try clear c1)
   (try clear c2)
   (try clear p2)
   (try clear c5)
   (try clear c8)
   (try clear c13)
   (try clear c25)
   (try clear z14_0 z14_1 z14_2 z14_3 z14_4 z14_5 z14_6 z14_7 z14_8)
   (try clear z21_0 z21_1 z21_2 z21_3 z21_4 z21_5 z21_6 z21_7 z21_8)
   (try clear z23_0 z23_1 z23_2 z23_3 z23_4 z23_5 z23_6 z23_7 z23_8)
   (try clear z9_0 z9_1 z9_2 z9_3 z9_4 z9_5 z9_6 z9_7 z9_8)
   (try clear v14_0 v14_1 v14_2 v14_3 v14_4 v14_5 v14_6 v14_7 v14_8)
   (try clear v21_0 v21_1 v21_2 v21_3 v21_4 v21_5 v21_6 v21_7 v21_8)
   (try clear v23_0 v23_1 v23_2 v23_3 v23_4 v23_5 v23_6 v23_7 v23_8)
   (try clear v9_0 v9_1 v9_2 v9_3 v9_4 v9_5 v9_6 v9_7 v9_8)
   obtain ⟨x9_1, x30_1, rfl, HA, HK1, HO_9, HO_10, HO_28, HO_1238000, HO_1238004, HO_1238006, HO_1238007, HO_1238008, BK1216, BK1237, HB⟩ := hrel
   cases gk with
   | zero => exact absurd HA.out (by simp [impl_PointsLost.l0])
   | succ k1 =>
    have H := HA.out
    clear HA
    simp only [impl_PointsLost.l0] at H
    by_cases c26 : x30_1 < (t1244.length : Int)
    ·rw [if_pos c26] at H
     have c26b0 : decide (x30_1 < (t1244.length : Int)) = true := decide_eq_true c26
     clear c26
     by_cases c27 : 0 ≤ x30_1
     ·rw [if_pos c27] at H
      have c27b0 : decide (0 ≤ x30_1) = true := decide_eq_true c27
      clear c27
      by_cases c28 : x30_1 < (t1244.length : Int)
      ·rw [if_pos c28] at H
       have c28b0 : decide (x30_1 < (t1244.length : Int)) = true := decide_eq_true c28
       clear c28
       by_cases c29 : x30_1 < (t1241.length : Int)
       ·rw [if_pos c29] at H
        have c29b0 : decide (x30_1 < (t1241.length : Int)) = true := decide_eq_true c29
        clear c29
        by_cases c30 : x9_1.length < 17592186044416
        ·rw [if_pos c30] at H
         have LMc30 := dk c30
         clear c30
         obtain ⟨y1250, hy1250⟩ : ∃ y_ : List Int, y_ = (x9_1 ++ [wrap64 (((rd_T115 t1244 x30_1).f6) - ((rd_T115 t1241 x30_1).f6))]) := ⟨_, rfl⟩
         replace H : (impl_PointsLost.l0 k1 y1250 t1241 t1244 (t1244.length : Int) (wrap64 (x30_1 + 1))) = some r := by first | (rw [hy1250]; with_reducible exact H) | (have H2_ := (Option.bind_some _ _).symm.trans H; rw [hy1250]; with_reducible exact H2_) | (have H2_ := (Option.bind_some _ _).symm.trans H; with_reducible exact H2_) | with_reducible exact H | (rw [hy1250]; exact H) | exact H
         have Ny1250 := dk hy1250
         clear hy1250
         have H' := dk H
         clear H
         have p1247 : 0 ≤ (x30_1 : Int) := oa
         have q1247 : x30_1 < (t1244.length : Int) := oa
         obtain ⟨ad1247, e1247, hx1247_0, hx1247_1, hx1247_2, hx1247_3, hx1247_4, hx1247_5, hx1247_6⟩ := at_T115 (Kd.R_reads' HO_28.out).2.2 x30_1 p1247 q1247
         cases e1247
         replace p1247 := eq_true p1247
         replace q1247 := eq_true q1247
         try go_wp2_with (first | ((with_reducible refine gate_dst (N := 12) rfl ?_); refine bx (N := 12) (cs := #[.int .i64 0, .int .i64 0, .int .i64 0, .int .i64 0, .int .i64 0, .int .i64 0, .int .i64 0]) (t := 115) ?_; intro gb1248 hg w31 hbox hb; replace HO_9 := kr HO_9 hb; replace HO_10 := dk (Kd.R_below (Kd.R_elderB (rr HO_10) gb1248 (Nat.le_of_eq hg.symm)) hb); replace HO_28 := dk (Kd.R_below (Kd.R_elderB (rr HO_28) gb1248 (Nat.le_of_eq hg.symm)) hb); replace HO_1238000 := kr HO_1238000 hb; replace HO_1238004 := kr HO_1238004 hb; replace HO_1238006 := kr HO_1238006 hb; replace HO_1238007 := kr HO_1238007 hb; replace HO_1238008 := kr HO_1238008 hb; have BK1248 := dk (hbox); have GW1248 := gs hg HB; have GE1248 := gs hg HB; replace HB := hs_ HB hb; have NB1216_1248 := gn hg BK1216; have NB1248_1216 := gm hg BK1216; replace BK1216 := kb BK1216 hb; have NB1237_1248 := gn hg BK1237; have NB1248_1237 := gm hg BK1237; replace BK1237 := kb BK1237 hb; clear hb hbox hg; have hnb32 := NB1248_1216.out; have hnc32 := NB1216_1248.out; have hnb33 := NB1248_1237.out; have hnc33 := NB1237_1248.out; have ⟨z34_0, z34_1, z34_2, z34_3, z34_4, z34_5, z34_6, v34_0, v34_1, v34_2, v34_3, v34_4, v34_5, v34_6⟩ := rz7 BK1248))
         have n0_ : Aside0 (Kd.R (Kd.int .i64) 3 (((((((w31.setCell ⟨gb1248, 0, none⟩ (.int .i64 ((rd_T115 t1244 x30_1).f0))).setCell ⟨gb1248, 1, none⟩ (.int .i64 ((rd_T115 t1244 x30_1).f1))).setCell ⟨gb1248, 2, none⟩ (.int .i64 ((rd_T115 t1244 x30_1).f2))).setCell ⟨gb1248, 3, none⟩ (.int .i64 ((rd_T115 t1244 x30_1).f3))).setCell ⟨gb1248, 4, none⟩ (.int .i64 ((rd_T115 t1244 x30_1).f4))).setCell ⟨gb1248, 5, none⟩ (.int .i64 ((rd_T115 t1244 x30_1).f5))).setCell ⟨gb1248, 6, none⟩ (.int .i64 ((rd_T115 t1244 x30_1).f6))) w.heap.size (fun k_ => nb k_ Ao15 t1223.length co15 ∧ nb k_ Ao17 t1230.length co17 ∧ nb k_ Ao18 t1233.length co18) u9 x9_1) := ⟨rf HO_9 BK1248 (fun _ hk => ⟨hk.1.1, ⟨hk.1.2.1, hk.1.2.2⟩⟩)⟩
         have n1_ : Aside0 (Kd.R k115 115 (((((((w31.setCell ⟨gb1248, 0, none⟩ (.int .i64 ((rd_T115 t1244 x30_1).f0))).setCell ⟨gb1248, 1, none⟩ (.int .i64 ((rd_T115 t1244 x30_1).f1))).setCell ⟨gb1248, 2, none⟩ (.int .i64 ((rd_T115 t1244 x30_1).f2))).setCell ⟨gb1248, 3, none⟩ (.int .i64 ((rd_T115 t1244 x30_1).f3))).setCell ⟨gb1248, 4, none⟩ (.int .i64 ((rd_T115 t1244 x30_1).f4))).setCell ⟨gb1248, 5, none⟩ (.int .i64 ((rd_T115 t1244 x30_1).f5))).setCell ⟨gb1248, 6, none⟩ (.int .i64 ((rd_T115 t1244 x30_1).f6))) w.heap.size (fun k_ => some k_ ≠ (.slice (some ad1247) t1244.length co25 : Value).ownBlock ∧ k_ ≠ gb1248) v1242 t1241) := ⟨by (with_reducible repeat (first | apply Kd.R_alloc | apply Kd.R_drewN | apply Kd.R_drew)); exact Kd.R_mono (Kd.R_far (p := ⟨gb1248, 6, none⟩) (Kd.R_far (p := ⟨gb1248, 5, none⟩) (Kd.R_far (p := ⟨gb1248, 4, none⟩) (Kd.R_far (p := ⟨gb1248, 3, none⟩) (Kd.R_far (p := ⟨gb1248, 2, none⟩) (Kd.R_far (p := ⟨gb1248, 1, none⟩) (Kd.R_far (p := ⟨gb1248, 0, none⟩) (Kd.R_mono HO_10.out (fun k_ hk => (⟨hk, hk.2⟩ : _ ∧ k_ ≠ gb1248))) (fun _ hk => hk.2) (.int .i64 ((rd_T115 t1244 x30_1).f0))) (fun _ hk => hk.2) (.int .i64 ((rd_T115 t1244 x30_1).f1))) (fun _ hk => hk.2) (.int .i64 ((rd_T115 t1244 x30_1).f2))) (fun _ hk => hk.2) (.int .i64 ((rd_T115 t1244 x30_1).f3))) (fun _ hk => hk.2) (.int .i64 ((rd_T115 t1244 x30_1).f4))) (fun _ hk => hk.2) (.int .i64 ((rd_T115 t1244 x30_1).f5))) (fun _ hk => hk.2) (.int .i64 ((rd_T115 t1244 x30_1).f6))) (fun _ hk => ⟨hk.1.1, hk.1.2⟩)⟩
         have n2_ : Aside0 (Kd.R k115 115 (((((((w31.setCell ⟨gb1248, 0, none⟩ (.int .i64 ((rd_T115 t1244 x30_1).f0))).setCell ⟨gb1248, 1, none⟩ (.int .i64 ((rd_T115 t1244 x30_1).f1))).setCell ⟨gb1248, 2, none⟩ (.int .i64 ((rd_T115 t1244 x30_1).f2))).setCell ⟨gb1248, 3, none⟩ (.int .i64 ((rd_T115 t1244 x30_1).f3))).setCell ⟨gb1248, 4, none⟩ (.int .i64 ((rd_T115 t1244 x30_1).f4))).setCell ⟨gb1248, 5, none⟩ (.int .i64 ((rd_T115 t1244 x30_1).f5))).setCell ⟨gb1248, 6, none⟩ (.int .i64 ((rd_T115 t1244 x30_1).f6))) w.heap.size (fun k_ => some k_ ≠ (v1242 : Value).ownBlock ∧ k_ ≠ gb1248) (.slice (some ad1247) t1244.length co25) t1244) := ⟨by (with_reducible repeat (first | apply Kd.R_alloc | apply Kd.R_drewN | apply Kd.R_drew)); exact Kd.R_mono (Kd.R_far (p := ⟨gb1248, 6, none⟩) (Kd.R_far (p := ⟨gb1248, 5, none⟩) (Kd.R_far (p := ⟨gb1248, 4, none⟩) (Kd.R_far (p := ⟨gb1248, 3, none⟩) (Kd.R_far (p := ⟨gb1248, 2, none⟩) (Kd.R_far (p := ⟨gb1248, 1, none⟩) (Kd.R_far (p := ⟨gb1248, 0, none⟩) (Kd.R_mono HO_28.out (fun k_ hk => (⟨hk, hk.2⟩ : _ ∧ k_ ≠ gb1248))) (fun _ hk => hk.2) (.int .i64 ((rd_T115 t1244 x30_1).f0))) (fun _ hk => hk.2) (.int .i64 ((rd_T115 t1244 x30_1).f1))) (fun _ hk => hk.2) (.int .i64 ((rd_T115 t1244 x30_1).f2))) (fun _ hk => hk.2) (.int .i64 ((rd_T115 t1244 x30_1).f3))) (fun _ hk => hk.2) (.int .i64 ((rd_T115 t1244 x30_1).f4))) (fun _ hk => hk.2) (.int .i64 ((rd_T115 t1244 x30_1).f5))) (fun _ hk => hk.2) (.int .i64 ((rd_T115 t1244 x30_1).f6))) (fun _ hk => ⟨hk.1.1, hk.1.2⟩)⟩
         have n3_ : Aside0 (Kd.R k139 139 (((((((w31.setCell ⟨gb1248, 0, none⟩ (.int .i64 ((rd_T115 t1244 x30_1).f0))).setCell ⟨gb1248, 1, none⟩ (.int .i64 ((rd_T115 t1244 x30_1).f1))).setCell ⟨gb1248, 2, none⟩ (.int .i64 ((rd_T115 t1244 x30_1).f2))).setCell ⟨gb1248, 3, none⟩ (.int .i64 ((rd_T115 t1244 x30_1).f3))).setCell ⟨gb1248, 4, none⟩ (.int .i64 ((rd_T115 t1244 x30_1).f4))).setCell ⟨gb1248, 5, none⟩ (.int .i64 ((rd_T115 t1244 x30_1).f5))).setCell ⟨gb1248, 6, none⟩ (.int .i64 ((rd_T115 t1244 x30_1).f6))) w.heap.size (fun _ => True) (.slice Ao12 t1217.length co12) t1217) := ⟨rf HO_1238000 BK1248 (fun _ hk => trivial)⟩
         have n4_ : Aside0 (Kd.R (Kd.int .i64) 3 (((((((w31.setCell ⟨gb1248, 0, none⟩ (.int .i64 ((rd_T115 t1244 x30_1).f0))).setCell ⟨gb1248, 1, none⟩ (.int .i64 ((rd_T115 t1244 x30_1).f1))).setCell ⟨gb1248, 2, none⟩ (.int .i64 ((rd_T115 t1244 x30_1).f2))).setCell ⟨gb1248, 3, none⟩ (.int .i64 ((rd_T115 t1244 x30_1).f3))).setCell ⟨gb1248, 4, none⟩ (.int .i64 ((rd_T115 t1244 x30_1).f4))).setCell ⟨gb1248, 5, none⟩ (.int .i64 ((rd_T115 t1244 x30_1).f5))).setCell ⟨gb1248, 6, none⟩ (.int .i64 ((rd_T115 t1244 x30_1).f6))) w.heap.size (fun k_ => some k_ ≠ (u9 : Value).ownBlock ∧ nb k_ Ao17 t1230.length co17 ∧ nb k_ Ao18 t1233.length co18) (.slice Ao15 t1223.length co15) t1223) := ⟨rf HO_1238004 BK1248 (fun _ hk => ⟨hk.1.1, ⟨hk.1.2.1, hk.1.2.2⟩⟩)⟩
         have n5_ : Aside0 (Kd.R k95 95 (((((((w31.setCell ⟨gb1248, 0, none⟩ (.int .i64 ((rd_T115 t1244 x30_1).f0))).setCell ⟨gb1248, 1, none⟩ (.int .i64 ((rd_T115 t1244 x30_1).f1))).setCell ⟨gb1248, 2, none⟩ (.int .i64 ((rd_T115 t1244 x30_1).f2))).setCell ⟨gb1248, 3, none⟩ (.int .i64 ((rd_T115 t1244 x30_1).f3))).setCell ⟨gb1248, 4, none⟩ (.int .i64 ((rd_T115 t1244 x30_1).f4))).setCell ⟨gb1248, 5, none⟩ (.int .i64 ((rd_T115 t1244 x30_1).f5))).setCell ⟨gb1248, 6, none⟩ (.int .i64 ((rd_T115 t1244 x30_1).f6))) w.heap.size (fun _ => True) (.slice Ao16 t1227.length co16) t1227) := ⟨rf HO_1238006 BK1248 (fun _ hk => trivial)⟩
         have n6_ : Aside0 (Kd.R (Kd.int .i64) 3 (((((((w31.setCell ⟨gb1248, 0, none⟩ (.int .i64 ((rd_T115 t1244 x30_1).f0))).setCell ⟨gb1248, 1, none⟩ (.int .i64 ((rd_T115 t1244 x30_1).f1))).setCell ⟨gb1248, 2, none⟩ (.int .i64 ((rd_T115 t1244 x30_1).f2))).setCell ⟨gb1248, 3, none⟩ (.int .i64 ((rd_T115 t1244 x30_1).f3))).setCell ⟨gb1248, 4, none⟩ (.int .i64 ((rd_T115 t1244 x30_1).f4))).setCell ⟨gb1248, 5, none⟩ (.int .i64 ((rd_T115 t1244 x30_1).f5))).setCell ⟨gb1248, 6, none⟩ (.int .i64 ((rd_T115 t1244 x30_1).f6))) w.heap.size (fun k_ => some k_ ≠ (u9 : Value).ownBlock ∧ nb k_ Ao15 t1223.length co15 ∧ nb k_ Ao18 t1233.length co18) (.slice Ao17 t1230.length co17) t1230) := ⟨rf HO_1238007 BK1248 (fun _ hk => ⟨hk.1.1, ⟨hk.1.2.1, hk.1.2.2⟩⟩)⟩
         have n7_ : Aside0 (Kd.R (Kd.int .i64) 3 (((((((w31.setCell ⟨gb1248, 0, none⟩ (.int .i64 ((rd_T115 t1244 x30_1).f0))).setCell ⟨gb1248, 1, none⟩ (.int .i64 ((rd_T115 t1244 x30_1).f1))).setCell ⟨gb1248, 2, none⟩ (.int .i64 ((rd_T115 t1244 x30_1).f2))).setCell ⟨gb1248, 3, none⟩ (.int .i64 ((rd_T115 t1244 x30_1).f3))).setCell ⟨gb1248, 4, none⟩ (.int .i64 ((rd_T115 t1244 x30_1).f4))).setCell ⟨gb1248, 5, none⟩ (.int .i64 ((rd_T115 t1244 x30_1).f5))).setCell ⟨gb1248, 6, none⟩ (.int .i64 ((rd_T115 t1244 x30_1).f6))) w.heap.size (fun k_ => some k_ ≠ (u9 : Value).ownBlock ∧ nb k_ Ao15 t1223.length co15 ∧ nb k_ Ao17 t1230.length co17) (.slice Ao18 t1233.length co18) t1233) := ⟨rf HO_1238008 BK1248 (fun _ hk => ⟨hk.1.1, ⟨hk.1.2.1, hk.1.2.2⟩⟩)⟩
         have n8_ : Aside0 ((((((((w31.setCell ⟨gb1248, 0, none⟩ (.int .i64 ((rd_T115 t1244 x30_1).f0))).setCell ⟨gb1248, 1, none⟩ (.int .i64 ((rd_T115 t1244 x30_1).f1))).setCell ⟨gb1248, 2, none⟩ (.int .i64 ((rd_T115 t1244 x30_1).f2))).setCell ⟨gb1248, 3, none⟩ (.int .i64 ((rd_T115 t1244 x30_1).f3))).setCell ⟨gb1248, 4, none⟩ (.int .i64 ((rd_T115 t1244 x30_1).f4))).setCell ⟨gb1248, 5, none⟩ (.int .i64 ((rd_T115 t1244 x30_1).f5))).setCell ⟨gb1248, 6, none⟩ (.int .i64 ((rd_T115 t1244 x30_1).f6))).heap[gb1216]? = some (.cells #[.slice A0_0 l0_0.length c0_0, .int .i64 a0_1, .int .i64 a0_2, .int .i64 a0_3, .slice A0_4 l0_4.length c0_4, .bool a0_5, .slice A0_6 l0_6.length c0_6, .slice A0_7 l0_7.length c0_7, .slice A0_8 l0_8.length c0_8] 36 (0, 0))) := ⟨bf NB1216_1248.out BK1216⟩
         have n9_ : Aside0 ((((((((w31.setCell ⟨gb1248, 0, none⟩ (.int .i64 ((rd_T115 t1244 x30_1).f0))).setCell ⟨gb1248, 1, none⟩ (.int .i64 ((rd_T115 t1244 x30_1).f1))).setCell ⟨gb1248, 2, none⟩ (.int .i64 ((rd_T115 t1244 x30_1).f2))).setCell ⟨gb1248, 3, none⟩ (.int .i64 ((rd_T115 t1244 x30_1).f3))).setCell ⟨gb1248, 4, none⟩ (.int .i64 ((rd_T115 t1244 x30_1).f4))).setCell ⟨gb1248, 5, none⟩ (.int .i64 ((rd_T115 t1244 x30_1).f5))).setCell ⟨gb1248, 6, none⟩ (.int .i64 ((rd_T115 t1244 x30_1).f6))).heap[gb1237]? = some (.cells #[.slice Ao12 t1217.length co12, .int .i64 t1220, .int .i64 t1221, .int .i64 t1222, .slice Ao15 t1223.length co15, .bool t1226, .slice Ao16 t1227.length co16, .slice Ao17 t1230.length co17, .slice Ao18 t1233.length co18] 36 (0, 0))) := ⟨bf NB1237_1248.out BK1237⟩
         have n10_ : Aside0 ((((((((w31.setCell ⟨gb1248, 0, none⟩ (.int .i64 ((rd_T115 t1244 x30_1).f0))).setCell ⟨gb1248, 1, none⟩ (.int .i64 ((rd_T115 t1244 x30_1).f1))).setCell ⟨gb1248, 2, none⟩ (.int .i64 ((rd_T115 t1244 x30_1).f2))).setCell ⟨gb1248, 3, none⟩ (.int .i64 ((rd_T115 t1244 x30_1).f3))).setCell ⟨gb1248, 4, none⟩ (.int .i64 ((rd_T115 t1244 x30_1).f4))).setCell ⟨gb1248, 5, none⟩ (.int .i64 ((rd_T115 t1244 x30_1).f5))).setCell ⟨gb1248, 6, none⟩ (.int .i64 ((rd_T115 t1244 x30_1).f6))).heap[gb1248]? = some (.cells #[.int .i64 ((rd_T115 t1244 x30_1).f0), .int .i64 ((rd_T115 t1244 x30_1).f1), .int .i64 ((rd_T115 t1244 x30_1).f2), .int .i64 ((rd_T115 t1244 x30_1).f3), .int .i64 ((rd_T115 t1244 x30_1).f4), .int .i64 ((rd_T115 t1244 x30_1).f5), .int .i64 ((rd_T115 t1244 x30_1).f6)] 115 (0, 0))) := ⟨by (with_reducible repeat (first | refine blk_drewN ?_ _ | refine blk_drew ?_ | refine blk_alloc ?_ _)); refine blk_put (cs := #[.int .i64 ((rd_T115 t1244 x30_1).f0), .int .i64 ((rd_T115 t1244 x30_1).f1), .int .i64 ((rd_T115 t1244 x30_1).f2), .int .i64 ((rd_T115 t1244 x30_1).f3), .int .i64 ((rd_T115 t1244 x30_1).f4), .int .i64 ((rd_T115 t1244 x30_1).f5), .int .i64 0]) ?_ 6 _ rfl; (with_reducible repeat (first | refine blk_drewN ?_ _ | refine blk_drew ?_ | refine blk_alloc ?_ _)); refine blk_put (cs := #[.int .i64 ((rd_T115 t1244 x30_1).f0), .int .i64 ((rd_T115 t1244 x30_1).f1), .int .i64 ((rd_T115 t1244 x30_1).f2), .int .i64 ((rd_T115 t1244 x30_1).f3), .int .i64 ((rd_T115 t1244 x30_1).f4), .int .i64 0, .int .i64 0]) ?_ 5 _ rfl; (with_reducible repeat (first | refine blk_drewN ?_ _ | refine blk_drew ?_ | refine blk_alloc ?_ _)); refine blk_put (cs := #[.int .i64 ((rd_T115 t1244 x30_1).f0), .int .i64 ((rd_T115 t1244 x30_1).f1), .int .i64 ((rd_T115 t1244 x30_1).f2), .int .i64 ((rd_T115 t1244 x30_1).f3), .int .i64 0, .int .i64 0, .int .i64 0]) ?_ 4 _ rfl; (with_reducible repeat (first | refine blk_drewN ?_ _ | refine blk_drew ?_ | refine blk_alloc ?_ _)); refine blk_put (cs := #[.int .i64 ((rd_T115 t1244 x30_1).f0), .int .i64 ((rd_T115 t1244 x30_1).f1), .int .i64 ((rd_T115 t1244 x30_1).f2), .int .i64 0, .int .i64 0, .int .i64 0, .int .i64 0]) ?_ 3 _ rfl; (with_reducible repeat (first | refine blk_drewN ?_ _ | refine blk_drew ?_ | refine blk_alloc ?_ _)); refine blk_put (cs := #[.int .i64 ((rd_T115 t1244 x30_1).f0), .int .i64 ((rd_T115 t1244 x30_1).f1), .int .i64 0, .int .i64 0, .int .i64 0, .int .i64 0, .int .i64 0]) ?_ 2 _ rfl; (with_reducible repeat (first | refine blk_drewN ?_ _ | refine blk_drew ?_ | refine blk_alloc ?_ _)); refine blk_put (cs := #[.int .i64 ((rd_T115 t1244 x30_1).f0), .int .i64 0, .int .i64 0, .int .i64 0, .int .i64 0, .int .i64 0, .int .i64 0]) ?_ 1 _ rfl; (with_reducible repeat (first | refine blk_drewN ?_ _ | refine blk_drew ?_ | refine blk_alloc ?_ _)); refine blk_put (cs := #[.int .i64 0, .int .i64 0, .int .i64 0, .int .i64 0, .int .i64 0, .int .i64 0, .int .i64 0]) ?_ 0 _ rfl; (with_reducible repeat (first | refine blk_drewN ?_ _ | refine blk_drew ?_ | refine blk_alloc ?_ _)); exact BK1248.out⟩
         have n11_ : Aside0 (Below w.heap.size w (((((((w31.setCell ⟨gb1248, 0, none⟩ (.int .i64 ((rd_T115 t1244 x30_1).f0))).setCell ⟨gb1248, 1, none⟩ (.int .i64 ((rd_T115 t1244 x30_1).f1))).setCell ⟨gb1248, 2, none⟩ (.int .i64 ((rd_T115 t1244 x30_1).f2))).setCell ⟨gb1248, 3, none⟩ (.int .i64 ((rd_T115 t1244 x30_1).f3))).setCell ⟨gb1248, 4, none⟩ (.int .i64 ((rd_T115 t1244 x30_1).f4))).setCell ⟨gb1248, 5, none⟩ (.int .i64 ((rd_T115 t1244 x30_1).f5))).setCell ⟨gb1248, 6, none⟩ (.int .i64 ((rd_T115 t1244 x30_1).f6)))) := ⟨bb HB⟩
         (try clear HO_9)
         (try clear HO_10)
         (try clear HO_28)
         (try clear HO_1238000)
         (try clear HO_1238004)
         (try clear HO_1238006)
         (try clear HO_1238007)
         (try clear HO_1238008)
         (try clear BK1216)
         (try clear BK1237)
         (try clear BK1248)
         (try clear HB)
         generalize (((((((w31.setCell ⟨gb1248, 0, none⟩ (.int .i64 ((rd_T115 t1244 x30_1).f0))).setCell ⟨gb1248, 1, none⟩ (.int .i64 ((rd_T115 t1244 x30_1).f1))).setCell ⟨gb1248, 2, none⟩ (.int .i64 ((rd_T115 t1244 x30_1).f2))).setCell ⟨gb1248, 3, none⟩ (.int .i64 ((rd_T115 t1244 x30_1).f3))).setCell ⟨gb1248, 4, none⟩ (.int .i64 ((rd_T115 t1244 x30_1).f4))).setCell ⟨gb1248, 5, none⟩ (.int .i64 ((rd_T115 t1244 x30_1).f5))).setCell ⟨gb1248, 6, none⟩ (.int .i64 ((rd_T115 t1244 x30_1).f6))) = w35 at n0_ n1_ n2_ n3_ n4_ n5_ n6_ n7_ n8_ n9_ n10_ n11_ ⊢
         have HO_9 := n0_
         have HO_10 := n1_
         have HO_28 := n2_
         have HO_1238000 := n3_
         have HO_1238004 := n4_
         have HO_1238006 := n5_
         have HO_1238007 := n6_
         have HO_1238008 := n7_
         have BK1216 := n8_
         have BK1237 := n9_
         have BK1248 := n10_
         have HB := n11_
         clear n0_ n1_ n2_ n3_ n4_ n5_ n6_ n7_ n8_ n9_ n10_ n11_
         replace HO_9 := dk (Kd.R_drew HO_9.out)
         replace HO_10 := dk (Kd.R_drew HO_10.out)
         replace HO_28 := dk (Kd.R_drew HO_28.out)
         replace HO_1238000 := dk (Kd.R_drew HO_1238000.out)
         replace HO_1238004 := dk (Kd.R_drew HO_1238004.out)
         replace HO_1238006 := dk (Kd.R_drew HO_1238006.out)
         replace HO_1238007 := dk (Kd.R_drew HO_1238007.out)
         replace HO_1238008 := dk (Kd.R_drew HO_1238008.out)
         replace BK1216 := dk (blk_drew BK1216.out)
         replace BK1237 := dk (blk_drew BK1237.out)
         replace BK1248 := dk (blk_drew BK1248.out)
         replace HB := dk (below_drew1 HB.out)
         obtain ⟨Ao37, co37, eo37⟩ := Kd.R_slice HO_10.out
         (first | subst eo37 | (injection eo37 with f1_ f2_ f3_; have f4_ := f1_.symm; have f5_ := f3_.symm; clear f1_ f2_ f3_; subst f4_; subst f5_))
         have p1249 : 0 ≤ (x30_1 : Int) := oa
         have q1249 : x30_1 < (t1241.length : Int) := oa
         obtain ⟨ad1249, e1249, hx1249_0, hx1249_1, hx1249_2, hx1249_3, hx1249_4, hx1249_5, hx1249_6⟩ := at_T115 (Kd.R_reads' HO_10.out).2.2 x30_1 p1249 q1249
         cases e1249
         replace p1249 := eq_true p1249
         replace q1249 := eq_true q1249
         refine start_ (n := 12) (S := fun w' => w'.cell? ⟨gb1248, 0, none⟩ = some (.int .i64 ((rd_T115 t1244 x30_1).f0)) ∧ w'.cell? ⟨gb1248, 1, none⟩ = some (.int .i64 ((rd_T115 t1244 x30_1).f1)) ∧ w'.cell? ⟨gb1248, 2, none⟩ = some (.int .i64 ((rd_T115 t1244 x30_1).f2)) ∧ w'.cell? ⟨gb1248, 3, none⟩ = some (.int .i64 ((rd_T115 t1244 x30_1).f3)) ∧ w'.cell? ⟨gb1248, 4, none⟩ = some (.int .i64 ((rd_T115 t1244 x30_1).f4)) ∧ w'.cell? ⟨gb1248, 5, none⟩ = some (.int .i64 ((rd_T115 t1244 x30_1).f5)) ∧ w'.cell? ⟨gb1248, 6, none⟩ = some (.int .i64 ((rd_T115 t1244 x30_1).f6)) ∧ w'.cell? (ad1249.add ((x30_1).toNat * 7)) = some (.int .i64 ((rd_T115 t1241 x30_1).f0)) ∧ w'.cell? ⟨(ad1249.add ((x30_1).toNat * 7)).block, (ad1249.add ((x30_1).toNat * 7)).off + 1, none⟩ = some (.int .i64 ((rd_T115 t1241 x30_1).f1)) ∧ w'.cell? ⟨(ad1249.add ((x30_1).toNat * 7)).block, (ad1249.add ((x30_1).toNat * 7)).off + 2, none⟩ = some (.int .i64 ((rd_T115 t1241 x30_1).f2)) ∧ w'.cell? ⟨(ad1249.add ((x30_1).toNat * 7)).block, (ad1249.add ((x30_1).toNat * 7)).off + 3, none⟩ = some (.int .i64 ((rd_T115 t1241 x30_1).f3)) ∧ w'.cell? ⟨(ad1249.add ((x30_1).toNat * 7)).block, (ad1249.add ((x30_1).toNat * 7)).off + 4, none⟩ = some (.int .i64 ((rd_T115 t1241 x30_1).f4)) ∧ w'.cell? ⟨(ad1249.add ((x30_1).toNat * 7)).block, (ad1249.add ((x30_1).toNat * 7)).off + 5, none⟩ = some (.int .i64 ((rd_T115 t1241 x30_1).f5)) ∧ w'.cell? ⟨(ad1249.add ((x30_1).toNat * 7)).block, (ad1249.add ((x30_1).toNat * 7)).off + 6, none⟩ = some (.int .i64 ((rd_T115 t1241 x30_1).f6))) (ds := [9, 10]) #[false, false, false, false, false, false, false, false, false, false, false, false] (by kernel_rfl) rfl rfl ⟨bc BK1248 0, bc BK1248 1, bc BK1248 2, bc BK1248 3, bc BK1248 4, bc BK1248 5, bc BK1248 6, hx1249_0, hx1249_1, hx1249_2, hx1249_3, hx1249_4, hx1249_5, hx1249_6⟩ (fun hHeld => ?_); refine with_tabW impl_PointsLost.tab8 impl_PointsLost.bits8 (fun HT_ HW_ => ?_)
         generalize w35.drew = w36 at HO_9 HO_10 HO_28 HO_1238000 HO_1238004 HO_1238006 HO_1238007 HO_1238008 BK1216 BK1237 BK1248 HB hx1249_0 hx1249_1 hx1249_2 hx1249_3 hx1249_4 hx1249_5 hx1249_6 hHeld ⊢
         refine pz_ 0 35 ?_
         refine pz_ 1 36 ?_
         refine pz_ 3 38 ?_
         refine pz_ 4 39 ?_
         refine pz_ 5 40 ?_
         refine pz_ 6 41 ?_
         refine tk_ 2 37 ?_
         refine tk_ 7 42 ?_
         refine pz_ 8 43 ?_
         refine last_ (i := 9) (N := some 44) #[true, true, true, true, true, true, true, true, true, true, false, false] rfl rfl (one_of HT_.out (by kernel_rfl)) (by decide) (fun K hK => ?_)
         refine value_ (w1 := ?_) (v := ?_) (by rfl) rfl ?_ ?_
         rotate_left 2
         ·go_simp
          constructor
          ·rfl
          ·rfl
         refine hK.out _ _ ?_
         clear hK K
         refine norm_ (a' := ?_) ?_ ?_
         rotate_left
         ·show Act.put _ (some 44) _ = _
          simp only [Act.put, List.setIfInBounds_toArray, List.set_cons_zero, List.set_cons_succ, i64_w, i32_w]
          rfl
         refine last_ (i := 10) (N := some 45) #[true, true, true, true, true, true, true, true, true, true, true, false] rfl rfl (one_of HT_.out (by kernel_rfl)) (by decide) (fun K hK => ?_)
         refine Kd.R_append_step (Kd.int .i64) (w0 := w) w.heap.size (by rfl) (.tmp 35) (.tmp 44) 23 3 (.int .i64 0) 8 rfl Try.underlying23 info3 rfl (by decide) (by omega) u9 x9_1 (wrap64 (((rd_T115 t1244 x30_1).f6) - ((rd_T115 t1241 x30_1).f6))) [.int .i64 (wrap64 (((rd_T115 t1244 x30_1).f6) - ((rd_T115 t1241 x30_1).f6)))] (fun k_ => nb k_ Ao15 t1223.length co15 ∧ nb k_ Ao17 t1230.length co17 ∧ nb k_ Ao18 t1233.length co18) (fun _ => False) rfl rfl ?aP (fun _ hk => hk.elim) ?aF ?aO ?aB ?aS ?aL ?_
         (case aP => exact rfl)
         (case aB => exact (bb HB))
         (case aF => exact (fun k_ hk => ⟨Kd.fresh' (Kd.R_lt (rr HO_1238004)) k_ hk, Kd.fresh' (Kd.R_lt (rr HO_1238007)) k_ hk, Kd.fresh' (Kd.R_lt (rr HO_1238008)) k_ hk⟩))
         (case aO => exact (rr HO_9))
         (case aS => exact (below_size (bb HB)))
         (case aL => have := LMc30.out; omega)
         intro v1251 w38 ho hb hg hat
         rw [← Ny1250.out] at ho
         replace HO_10 := dk (Kd.R_over' (rr HO_10) (Kd.R_typed (rr HO_9)) (by decide) hg)
         replace HO_28 := dk (Kd.R_over' (rr HO_28) (Kd.R_typed (rr HO_9)) (by decide) hg)
         replace HO_1238000 := dk (Kd.R_over' (rr HO_1238000) (Kd.R_typed (rr HO_9)) (by decide) hg)
         replace HO_1238004 := dk (Kd.R_after (ok := (fun k_ => nb k_ Ao17 t1230.length co17 ∧ nb k_ Ao18 t1233.length co18)) (rp HO_1238004) hg hat)
         replace HO_1238006 := dk (Kd.R_over' (rr HO_1238006) (Kd.R_typed (rr HO_9)) (by decide) hg)
         replace HO_1238007 := dk (Kd.R_after (ok := (fun k_ => nb k_ Ao15 t1223.length co15 ∧ nb k_ Ao18 t1233.length co18)) (rp HO_1238007) hg hat)
         replace HO_1238008 := dk (Kd.R_after (ok := (fun k_ => nb k_ Ao15 t1223.length co15 ∧ nb k_ Ao17 t1230.length co17)) (rp HO_1238008) hg hat)
         replace BK1216 := dk (blk_grown (g := gb1216) (o := .cells #[.slice A0_0 l0_0.length c0_0, .int .i64 a0_1, .int .i64 a0_2, .int .i64 a0_3, .slice A0_4 l0_4.length c0_4, .bool a0_5, .slice A0_6 l0_6.length c0_6, .slice A0_7 l0_7.length c0_7, .slice A0_8 l0_8.length c0_8] 36 (0, 0)) (bk BK1216) hg (Kd.R_ne HO_9.out BK1216.out (by decide)))
         replace BK1237 := dk (blk_grown (g := gb1237) (o := .cells #[.slice Ao12 t1217.length co12, .int .i64 t1220, .int .i64 t1221, .int .i64 t1222, .slice Ao15 t1223.length co15, .bool t1226, .slice Ao16 t1227.length co16, .slice Ao17 t1230.length co17, .slice Ao18 t1233.length co18] 36 (0, 0)) (bk BK1237) hg (Kd.R_ne HO_9.out BK1237.out (by decide)))
         replace BK1248 := dk (blk_grown (g := gb1248) (o := .cells #[.int .i64 ((rd_T115 t1244 x30_1).f0), .int .i64 ((rd_T115 t1244 x30_1).f1), .int .i64 ((rd_T115 t1244 x30_1).f2), .int .i64 ((rd_T115 t1244 x30_1).f3), .int .i64 ((rd_T115 t1244 x30_1).f4), .int .i64 ((rd_T115 t1244 x30_1).f5), .int .i64 ((rd_T115 t1244 x30_1).f6)] 115 (0, 0)) (bk BK1248) hg (Kd.R_ne HO_9.out BK1248.out (by decide)))
         replace HB := dk (hb)
         have HO1252 := dk (ho)
         clear HO_9 ho hb hg hat
         refine hK.out _ _ ?_
         clear hK K
         refine norm_ (a' := ?_) ?_ ?_
         rotate_left
         ·show Act.put _ (some 45) _ = _
          simp only [Act.put, List.setIfInBounds_toArray, List.set_cons_zero, List.set_cons_succ, i64_w, i32_w]
          rfl
         refine pz_ 11 9 ?_
         refine done_ (done_of HT_.out (by kernel_rfl)) ?_
         try go_wp2
         go_roundg k1
         case measure => have := HK1.out; omega
         case rel => exact ⟨(y1250), (wrap64 (x30_1 + 1)), e2_, H', ⟨by have := HK1.out; omega⟩, ⟨rr HO1252⟩, ⟨ro HO_10 (fun _ hk => hk.1)⟩, ⟨ro HO_28 (fun _ hk => hk.1)⟩, ⟨rr HO_1238000⟩, ⟨rp HO_1238004⟩, ⟨rr HO_1238006⟩, ⟨rp HO_1238007⟩, ⟨rp HO_1238008⟩, ⟨bk BK1216⟩, ⟨bk BK1237⟩, ⟨bb HB⟩⟩
        ·rw [if_neg c30] at H
         exact absurd H (by simp)
       ·rw [if_neg c29] at H
        exact absurd H (by simp)
      ·rw [if_neg c28] at H
       exact absurd H (by simp)
     ·rw [if_neg c27] at H
      exact absurd H (by simp)
    ·rw [if_neg c26] at H
     have c26b0 : decide (x30_1 < (t1244.length : Int)) = false := decide_eq_false c26
     clear c26
     obtain rfl := Option.some.inj H
     go_wp2
     go_ret
     exact ⟨_, ee, ro HO_9 (fun _ hk => trivial), bb HB⟩
 ·replace c5 := Bool.eq_false_iff.mpr c5
  subst c5
  rw [if_neg (show ¬ (false = true) by decide)] at H
  obtain rfl := Option.some.inj H
  go_enter Try.func27, Try.ntmps27
  go_wp2_with (first | ((with_reducible refine gate_dst (N := 3) rfl ?_); refine bx (N := 3) (cs := #[.slice A0_0 l0_0.length c0_0, .int .i64 a0_1, .int .i64 a0_2, .int .i64 a0_3, .slice A0_4 l0_4.length c0_4, .bool a0_5, .slice A0_6 l0_6.length c0_6, .slice A0_7 l0_7.length c0_7, .slice A0_8 l0_8.length c0_8]) (t := 36) ?_; intro gb1216 hg w39 hbox hb; have BK1216 := dk (hbox); have GW1216 := gs hg HB; have GE1216 := gs hg HB; replace HB := hs_ HB hb; clear hb hbox hg; have ⟨z40_0, z40_1, z40_2, z40_3, z40_4, z40_5, z40_6, z40_7, z40_8, v40_0, v40_1, v40_2, v40_3, v40_4, v40_5, v40_6, v40_7, v40_8⟩ := rz9 BK1216) | ((with_reducible refine gate_callee (f := 25) rfl ?_); refine gl (some 17) Try.func25 #[.agg #[.slice A0_0 l0_0.length c0_0, .int .i64 a0_1, .int .i64 a0_2, .int .i64 a0_3, .slice A0_4 l0_4.length c0_4, .bool a0_5, .slice A0_6 l0_6.length c0_6, .slice A0_7 l0_7.length c0_7, .slice A0_8 l0_8.length c0_8], .int .i64 a1, .int .i64 a2] ?_; (with_reducible refine (impl_Withdraw.calls k _ _ l0_0 a0_1 a0_2 a0_3 _ _ l0_4 a0_5 _ _ l0_6 _ _ l0_7 _ _ l0_8 a1 a2 t1217 t1220 t1221 t1222 t1223 t1226 t1227 t1230 t1233 false _ ?side1 ?side2 ?side3 ?side4 ?side5 ?side6 ?side7 ?side8 ?side9 ?side10 A4.out).mono ?_); (case side1 => exact cc HR0_0 HB); (case side2 => exact HC0_0.out); (case side3 => exact cc HR0_4 HB); (case side4 => exact HC0_4.out); (case side5 => exact cc HR0_6 HB); (case side6 => exact HC0_6.out); (case side7 => exact cc HR0_7 HB); (case side8 => exact HC0_7.out); (case side9 => exact cc HR0_8 HB); (case side10 => exact HC0_8.out); rintro e w41 ⟨v1218, v1224, v1228, v1231, v1234, rfl, ho0, ho1, ho2, ho3, ho4, hb⟩; refine ⟨_, rfl, ?_⟩; have HO1219 := kl ho0 HB; have HO1225 := kl ho1 HB; have HO1229 := kl ho2 HB; have HO1232 := kl ho3 HB; have HO1235 := kl ho4 HB; replace BK1216 := kb BK1216 hb; replace HB := hs_ HB hb; (try clear hb hb2 hk hi ho0 ho1 ho2 ho3 ho4)) | ((with_reducible refine gate_dst (N := 7) rfl ?_); refine bx (N := 7) (cs := #[.slice none 0 0, .int .i64 0, .int .i64 0, .int .i64 0, .slice none 0 0, .bool false, .slice none 0 0, .slice none 0 0, .slice none 0 0]) (t := 36) ?_; intro gb1237 hg w42 hbox hb; replace HO1219 := kr HO1219 hb; replace HO1225 := kr HO1225 hb; replace HO1229 := kr HO1229 hb; replace HO1232 := kr HO1232 hb; replace HO1235 := kr HO1235 hb; have BK1237 := dk (hbox); have GW1237 := gs hg HB; have GE1237 := gs hg HB; replace HB := hs_ HB hb; have NB1216_1237 := gn hg BK1216; have NB1237_1216 := gm hg BK1216; replace BK1216 := kb BK1216 hb; clear hb hbox hg; obtain ⟨Ao43, co43, eo43⟩ := Kd.R_slice HO1219.out; subst eo43; have hnb44 := NB1237_1216.out; have hnc44 := NB1216_1237.out; have ⟨z45_0, z45_1, z45_2, z45_3, z45_4, z45_5, z45_6, z45_7, z45_8, v45_0, v45_1, v45_2, v45_3, v45_4, v45_5, v45_6, v45_7, v45_8⟩ := rz9 BK1237; obtain ⟨Ao46, co46, eo46⟩ := Kd.R_slice HO1225.out; subst eo46; obtain ⟨Ao47, co47, eo47⟩ := Kd.R_slice HO1229.out; subst eo47; obtain ⟨Ao48, co48, eo48⟩ := Kd.R_slice HO1232.out; subst eo48; obtain ⟨Ao49, co49, eo49⟩ := Kd.R_slice HO1235.out; subst eo49))
  go_ret
  exact ⟨_, ee, by first | exact Kd.R_nil _ _ _ _ _ | exact Kd.N_nil _ _ _ _ _ | exact Kd.V_nil _ _ _ _ _ | exact Kd.Q_nil _ _ _ _ _ | exact Kd.S_nil _ _ _ _ _, bb HB⟩
end Go.Proofs.Ythfefanapneocaa.Q
