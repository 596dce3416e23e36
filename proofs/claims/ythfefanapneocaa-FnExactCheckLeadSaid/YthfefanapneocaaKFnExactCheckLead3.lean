/- A part of the proof of FnExactCheckLead. No condition. -/
import Derived.Test.YthfefanapneocaaKFnExactCheckLead1
import Derived.Test.YthfefanapneocaaProg
import Derived.Below
import Derived.Deep.Draws
import Derived.Deep.AppendLies
import Derived.Maps.AppendAt
import Derived.OwnWalk
import Derived.Laws.BytesArg
import Derived.Laws.MakeOwn
import Derived.Laws.OwnMore
import Derived.Deep.OwnRows
import Derived.Tactics
import Derived.Lib.ConvBytes
import Derived.Laws.Slices
import Derived.WalkKit
import Derived.KernelRfl
import Derived.RowKit3
import Derived.Deep.LoopGhost
import Derived.Deep.QuietTactic
import Derived.BigQuiet
import Derived.WideLaws
import Derived.Deep.DeepCutAuto
import Derived.Deep.CutBlock
import Derived.Deep.RegionHeld3
import Derived.Laws.Rows
import Derived.Lib.AppendStr
import Derived.ArgAppend
import Derived.Laws.IdiomCopy
import Derived.OrdersHeld
import Derived.Laws.BitsLemmas
import Derived.RowKit
import Derived.WalkSpells
import Derived.Shelf.Strings.Builder1
import Derived.Shelf.Strings.Builder2
import Derived.Shelf.Small.Bits
import Derived.Shelf.Strconv.Itoa0
import Derived.Ground.Names2Prog
import Derived.Shelf.Slices.Clone
import Derived.Shelf.Slices.SearchI
import Derived.Ground.SlgnProg
import Derived.Shelf.SlicesE.Clone
import Derived.Lib.AppendIntMem
import Derived.Laws.StructEq
import Derived.Test.YthfefanapneocaaKFnExactCheckLead2
namespace Go.Proofs.Ythfefanapneocaa.Q
open Go.RowKit Go.Proofs.YthfefanapneocaaW.PrintWords Go.Proofs.YthfefanapneocaaW.PrintLast Go.Proofs.YthfefanapneocaaW.PrintMore
attribute [local go_sem] max2_int min2_int max_two min_two max_three min_three max_four min_four
set_option linter.unusedVariables false
set_option linter.unusedSimpArgs false
set_option maxRecDepth 100000
set_option maxHeartbeats 8000000
def spec_l06Add.j0 : Nat → List (S115) → Int → Int → Int → Int → Int → Int → Int → Int → Int → Int → Int → Int → Int → Int → Int → Int → Int → Int → Int → Option ((List (S115)))
 | 0, _, _, _, _, _, _, _, _, _, _, _, _, _, _, _, _, _, _, _, _ => none
 | k + 1, x1, x1116000, x1116001, x1116002, x1116003, x1116004, x1120000, x1120001, x1120002, x1120003, x1120004, x1120005, x1120006, x1121000, x1121001, x1121002, x1121003, x1121004, x1121005, x1121006 => if 0 ≤ x1116000 then (if x1116000 < (x1.length : Int) then ((spec_AddRows.f ((rd_T115 x1 x1116000).f0) ((rd_T115 x1 x1116000).f1) ((rd_T115 x1 x1116000).f2) ((rd_T115 x1 x1116000).f3) ((rd_T115 x1 x1116000).f4) ((rd_T115 x1 x1116000).f5) ((rd_T115 x1 x1116000).f6) x1120000 x1120001 x1120002 x1120003 x1120004 x1120005 x1120006).bind fun bt1123 => ((some (x1.set (x1116000 : Int).toNat (⟨bt1123.1, bt1123.2.1, bt1123.2.2.1, bt1123.2.2.2.1, bt1123.2.2.2.2.1, bt1123.2.2.2.2.2.1, bt1123.2.2.2.2.2.2⟩ : S115) : List (S115))).bind fun y1130 => (if 0 ≤ x1116001 then (if x1116001 < (x1.length : Int) then ((spec_AddRows.f ((rd_T115 y1130 x1116001).f0) ((rd_T115 y1130 x1116001).f1) ((rd_T115 y1130 x1116001).f2) ((rd_T115 y1130 x1116001).f3) ((rd_T115 y1130 x1116001).f4) ((rd_T115 y1130 x1116001).f5) ((rd_T115 y1130 x1116001).f6) x1121000 x1121001 x1121002 x1121003 x1121004 x1121005 x1121006).bind fun bt1132 => (some (y1130.set (x1116001 : Int).toNat (⟨bt1132.1, bt1132.2.1, bt1132.2.2.1, bt1132.2.2.2.1, bt1132.2.2.2.2.1, bt1132.2.2.2.2.2.1, bt1132.2.2.2.2.2.2⟩ : S115)))) else (none)) else (none)))) else (none)) else (none)
def spec_l06Add.f (k : Nat) (a0_0 : Int) (a0_1 : Int) (a0_2 : Int) (l0_3 : List Int) (a0_4 : Bool) (l1 : List (S115)) (a2_0 : Int) (a2_1 : Int) (a2_2 : Int) (a2_3 : Int) (a2_4 : Int) : Option ((List (S115))) := (spec_GoalsOf.f a2_0 a2_1 a2_2 a2_3 a2_4).bind fun bt1116 => (if bt1116.2.2 = true then ((spec_OutcomeOf.f a2_0 a2_1 a2_2 a2_3 a2_4).bind fun t1121 => (if t1121 = 1 then (spec_l06Add.j0 k l1 a2_0 a2_1 a2_2 a2_3 a2_4 1 1 0 0 bt1116.1 bt1116.2.1 a0_0 1 0 0 1 bt1116.2.1 bt1116.1 a0_2) else (if t1121 = 2 then (spec_l06Add.j0 k l1 a2_0 a2_1 a2_2 a2_3 a2_4 1 0 1 0 bt1116.1 bt1116.2.1 a0_1 1 0 1 0 bt1116.2.1 bt1116.1 a0_1) else (if t1121 = 3 then (spec_l06Add.j0 k l1 a2_0 a2_1 a2_2 a2_3 a2_4 1 0 0 1 bt1116.1 bt1116.2.1 a0_2 1 1 0 0 bt1116.2.1 bt1116.1 a0_0) else (spec_l06Add.j0 k l1 a2_0 a2_1 a2_2 a2_3 a2_4 1 0 0 0 bt1116.1 bt1116.2.1 0 1 0 0 0 bt1116.2.1 bt1116.1 0))))) else (some l1))
def spec_l06Add.T21 : Bool × List (List Nat × List Nat) := (true, [([], []), ([], []), ([1], [1]), ([], []), ([], []), ([4], [4]), ([3, 5], [3, 5]), ([6], [6]), ([], []), ([7, 8], [7, 8]), ([0, 2, 0, 1, 2, 3, 4, 5, 6, 7, 8, 9], [0, 2]), ([10, 9, 9, 0, 1, 2, 3, 4, 5, 6, 7, 8, 9], [9, 10])])
def spec_l06Add.B21 : List Nat := [0, 0, 2, 0, 0, 16, 56, 120, 0, 504, 1023, 2047]
theorem spec_l06Add.tab21 : rtab .any (opsOf Try.f134 21) = spec_l06Add.T21 := by kernel_rfl
theorem spec_l06Add.bits21 : waitsOk spec_l06Add.T21.2 spec_l06Add.B21 = true := by kernel_rfl
def spec_l06Add.T22 : Bool × List (List Nat × List Nat) := (true, [([], []), ([], []), ([1], [1]), ([], []), ([], []), ([4], [4]), ([3, 5], [3, 5]), ([6], [6]), ([], []), ([7, 8], [7, 8]), ([0, 2, 0, 1, 2, 3, 4, 5, 6, 7, 8, 9], [0, 2]), ([10, 9, 9, 0, 1, 2, 3, 4, 5, 6, 7, 8, 9], [9, 10])])
def spec_l06Add.B22 : List Nat := [0, 0, 2, 0, 0, 16, 56, 120, 0, 504, 1023, 2047]
theorem spec_l06Add.tab22 : rtab .any (opsOf Try.f134 22) = spec_l06Add.T22 := by kernel_rfl
theorem spec_l06Add.bits22 : waitsOk spec_l06Add.T22.2 spec_l06Add.B22 = true := by kernel_rfl
theorem spec_l06Add.calls (k : Nat) (a0_0 : Int) (a0_1 : Int) (a0_2 : Int) (A0_3 : Option Addr) (c0_3 : Nat) (l0_3 : List Int) (a0_4 : Bool) (P1_ : Nat → Prop) (u9000_ : Value) (l1 : List (S115)) (a2_0 : Int) (a2_1 : Int) (a2_2 : Int) (a2_3 : Int) (a2_4 : Int) (r : List (S115)) (w0 w : World) (hB : Below w0.heap.size w0 w) (hr0_3 : ∀ W_, Kept w W_ (fun k_ => P1_ k_) → Kd.C (Kd.int .i64) W_ A0_3 l0_3.length l0_3) (hc0_3 : l0_3.length ≤ c0_3) (ho1 : Kd.R k115 115 w w0.heap.size P1_ u9000_ l1) (h : spec_l06Add.f k a0_0 a0_1 a0_2 l0_3 a0_4 l1 a2_0 a2_1 a2_2 a2_3 a2_4 = some r) :
  Calls Try.prog 134 #[.agg #[.int .i64 a0_0, .int .i64 a0_1, .int .i64 a0_2, .slice A0_3 l0_3.length c0_3, .bool a0_4], u9000_, .agg #[.int .i64 a2_0, .int .i64 a2_1, .int .i64 a2_2, .int .i64 a2_3, .int .i64 a2_4]] w fun e w' => e = .returned (.tuple #[]) ∧ Kd.R k115 115 w' w0.heap.size (fun k_ => (P1_ k_ ∨ w.heap.size ≤ k_)) u9000_ r ∧ Below w0.heap.size w0 w' ∧ Kept w w' (fun k_ => P1_ k_) := by
 have hu33 := Try.underlying33
 have hu95 := Try.underlying95
 have hu115 := Try.underlying115
 have HR0_3 := dk hr0_3
 have HC0_3 := dk hc0_3
 clear hr0_3 hc0_3
 have HO1 := dk (show Kd.R k115 115 w w0.heap.size (fun k_ => (P1_ k_ ∨ w.heap.size ≤ k_)) u9000_ l1 from Kd.R_mono ho1 (fun k_ hk => (.inl hk)))
 have HK := dk (Kept.refl w (fun k_ => P1_ k_))
 have HW0 := dk hB.size
 have HB := dk hB
 clear hB
 have H : ((spec_GoalsOf.f a2_0 a2_1 a2_2 a2_3 a2_4).bind fun bt1116 => (if bt1116.2.2 = true then ((spec_OutcomeOf.f a2_0 a2_1 a2_2 a2_3 a2_4).bind fun t1121 => (if t1121 = 1 then (spec_l06Add.j0 k l1 a2_0 a2_1 a2_2 a2_3 a2_4 1 1 0 0 bt1116.1 bt1116.2.1 a0_0 1 0 0 1 bt1116.2.1 bt1116.1 a0_2) else (if t1121 = 2 then (spec_l06Add.j0 k l1 a2_0 a2_1 a2_2 a2_3 a2_4 1 0 1 0 bt1116.1 bt1116.2.1 a0_1 1 0 1 0 bt1116.2.1 bt1116.1 a0_1) else (if t1121 = 3 then (spec_l06Add.j0 k l1 a2_0 a2_1 a2_2 a2_3 a2_4 1 0 0 1 bt1116.1 bt1116.2.1 a0_2 1 1 0 0 bt1116.2.1 bt1116.1 a0_0) else (spec_l06Add.j0 k l1 a2_0 a2_1 a2_2 a2_3 a2_4 1 0 0 0 bt1116.1 bt1116.2.1 0 1 0 0 0 bt1116.2.1 bt1116.1 0))))) else (some l1))) = some r := h
 clear h
 replace H := Option.bind_eq_some_iff.mp H
 obtain ⟨⟨t1116, t1117, t1118⟩, A40, H⟩ := H
 try dsimp only at H
 have A4 := dk A40
 clear A40
 have HC5 := dk H
 clear H
 go_enter Try.func134, Try.ntmps134
 go_upto_if 18 with (first | ((with_reducible refine gdst_ 3 rfl ?_); refine bx (N := 3) (cs := #[.int .i64 a0_0, .int .i64 a0_1, .int .i64 a0_2, .slice A0_3 l0_3.length c0_3, .bool a0_4]) (t := 33) ?_; intro gb1114 hg w6 hbox hb; replace HO1 := kr HO1 hb; have BK1114 := dk (hbox); have GW1114 := dk (by rw [hg]; exact (by first | exact HK.out.1 | exact (show Kept w _ (fun k_ => P1_ k_) from by repeat (first | (with_reducible first | exact HK.out | apply Kept.alloc | apply Kept.drewN | apply Kept.drew) | exact HK.out)).1) : w.heap.size ≤ gb1114); replace HK := dk (Kept.below (S := (fun k_ => P1_ k_)) (by repeat (first | (with_reducible first | exact HK.out | apply Kept.alloc | apply Kept.drewN | apply Kept.drew) | exact HK.out)) hb); have GE1114 := gs hg HB; replace HB := hs_ HB hb; clear hb hbox hg) | ((with_reducible refine gdst_ 5 rfl ?_); refine bx (N := 5) (cs := #[.int .i64 a2_0, .int .i64 a2_1, .int .i64 a2_2, .int .i64 a2_3, .int .i64 a2_4]) (t := 95) ?_; intro gb1115 hg w7 hbox hb; replace HO1 := kr HO1 hb; have BK1115 := dk (hbox); have GW1115 := dk (by rw [hg]; exact (by first | exact HK.out.1 | exact (show Kept w _ (fun k_ => P1_ k_) from by repeat (first | (with_reducible first | exact HK.out | apply Kept.alloc | apply Kept.drewN | apply Kept.drew | refine Kept.setCell ?_ (.inr GW1114.out) _) | exact HK.out)).1) : w.heap.size ≤ gb1115); replace HK := dk (Kept.below (S := (fun k_ => P1_ k_)) (by repeat (first | (with_reducible first | exact HK.out | apply Kept.alloc | apply Kept.drewN | apply Kept.drew | refine Kept.setCell ?_ (.inr GW1114.out) _) | exact HK.out)) hb); have GE1115 := gs hg HB; replace HB := hs_ HB hb; have NB1114_1115 := gn hg BK1114; have NB1115_1114 := gm hg BK1114; replace BK1114 := kb BK1114 hb; clear hb hbox hg; have hnb8 := NB1115_1114.out; have hnc8 := NB1114_1115.out; have ⟨z9_0, z9_1, z9_2, z9_3, z9_4, v9_0, v9_1, v9_2, v9_3, v9_4⟩ := rz5 BK1115) | ((with_reducible refine gcallee_ 168 rfl ?_); refine gl (some 13) Try.func168 #[.agg #[.int .i64 a2_0, .int .i64 a2_1, .int .i64 a2_2, .int .i64 a2_3, .int .i64 a2_4]] ?_; (with_reducible refine (spec_GoalsOf.calls a2_0 a2_1 a2_2 a2_3 a2_4 t1116 t1117 t1118 _ A4.out).mono ?_); rintro e w10 ⟨rfl, hb⟩; refine ⟨_, rfl, ?_⟩; replace HO1 := kr HO1 hb; replace BK1114 := kb BK1114 hb; replace BK1115 := kb BK1115 hb; replace HK := dk (Kept.below (S := (fun k_ => P1_ k_)) (by repeat (first | (with_reducible first | exact HK.out | apply Kept.alloc | apply Kept.drewN | apply Kept.drew | refine Kept.setCell ?_ (.inr GW1114.out) _ | refine Kept.setCell ?_ (.inr GW1115.out) _) | exact HK.out)) hb); replace HB := hs_ HB hb))
 (try simp only [Act.put, List.setIfInBounds_toArray, List.set_cons_zero, List.set_cons_succ])
 have H := HC5.out
 clear HC5
 by_cases c11 : t1118 = true
 ·subst c11
  rw [if_pos rfl] at H
  replace H := Option.bind_eq_some_iff.mp H
  obtain ⟨t1121, A120, H⟩ := H
  try dsimp only at H
  have A12 := dk A120
  clear A120
  have HC13 := dk H
  clear H
  go_upto_block 0 with (first | ((with_reducible refine gdst_ 9 rfl ?_); refine bx (N := 9) (cs := #[.int .i64 0, .int .i64 0, .int .i64 0, .int .i64 0, .int .i64 0, .int .i64 0, .int .i64 0]) (t := 115) ?_; intro gb1119 hg w14 hbox hb; replace HO1 := dk (Kd.R_below (Kd.R_elderB (rr HO1) gb1119 (Nat.le_of_eq hg.symm)) hb); have BK1119 := dk (hbox); have GW1119 := dk (by rw [hg]; exact (by first | exact HK.out.1 | exact (show Kept w _ (fun k_ => P1_ k_) from by repeat (first | (with_reducible first | exact HK.out | apply Kept.alloc | apply Kept.drewN | apply Kept.drew | refine Kept.setCell ?_ (.inr GW1114.out) _ | refine Kept.setCell ?_ (.inr GW1115.out) _) | exact HK.out)).1) : w.heap.size ≤ gb1119); replace HK := dk (Kept.below (S := (fun k_ => P1_ k_)) (by repeat (first | (with_reducible first | exact HK.out | apply Kept.alloc | apply Kept.drewN | apply Kept.drew | refine Kept.setCell ?_ (.inr GW1114.out) _ | refine Kept.setCell ?_ (.inr GW1115.out) _) | exact HK.out)) hb); have GE1119 := gs hg HB; replace HB := hs_ HB hb; have NB1114_1119 := gn hg BK1114; have NB1119_1114 := gm hg BK1114; replace BK1114 := kb BK1114 hb; have NB1115_1119 := gn hg BK1115; have NB1119_1115 := gm hg BK1115; replace BK1115 := kb BK1115 hb; clear hb hbox hg; have hnb15 := NB1119_1114.out; have hnc15 := NB1114_1119.out; have hnb16 := NB1119_1115.out; have hnc16 := NB1115_1119.out; have ⟨z17_0, z17_1, z17_2, z17_3, z17_4, z17_5, z17_6, v17_0, v17_1, v17_2, v17_3, v17_4, v17_5, v17_6⟩ := rz7 BK1119) | ((with_reducible refine gdst_ 10 rfl ?_); refine bx (N := 10) (cs := #[.int .i64 0, .int .i64 0, .int .i64 0, .int .i64 0, .int .i64 0, .int .i64 0, .int .i64 0]) (t := 115) ?_; intro gb1120 hg w18 hbox hb; replace HO1 := dk (Kd.R_below (Kd.R_elderB (by (with_reducible repeat (first | apply Kd.R_alloc | apply Kd.R_drewN | apply Kd.R_drew)); exact (Kd.R_mono (Kd.R_far (p := ⟨gb1119, 6, none⟩) (Kd.R_far (p := ⟨gb1119, 5, none⟩) (Kd.R_far (p := ⟨gb1119, 4, none⟩) (Kd.R_far (p := ⟨gb1119, 3, none⟩) (Kd.R_far (p := ⟨gb1119, 2, none⟩) (Kd.R_far (p := ⟨gb1119, 1, none⟩) (Kd.R_far (p := ⟨gb1119, 0, none⟩) (Kd.R_mono HO1.out (fun k_ hk => (⟨hk, hk.2⟩ : _ ∧ k_ ≠ gb1119))) (fun _ hk => hk.2) (.int .i64 1)) (fun _ hk => hk.2) (.int .i64 0)) (fun _ hk => hk.2) (.int .i64 0)) (fun _ hk => hk.2) (.int .i64 0)) (fun _ hk => hk.2) (.int .i64 t1116)) (fun _ hk => hk.2) (.int .i64 t1117)) (fun _ hk => hk.2) (.int .i64 0)) (fun _ h_ => h_.1))) gb1120 (Nat.le_of_eq hg.symm)) hb); have BK1120 := dk (hbox); have GW1120 := dk (by rw [hg]; exact (show Kept w _ (fun k_ => P1_ k_) from by repeat (first | (with_reducible first | exact HK.out | apply Kept.alloc | apply Kept.drewN | apply Kept.drew | refine Kept.setCell ?_ (.inr GW1114.out) _ | refine Kept.setCell ?_ (.inr GW1115.out) _ | refine Kept.setCell ?_ (.inr GW1119.out) _) | exact HK.out)).1 : w.heap.size ≤ gb1120); replace HK := dk (Kept.below (S := (fun k_ => P1_ k_)) (by repeat (first | (with_reducible first | exact HK.out | apply Kept.alloc | apply Kept.drewN | apply Kept.drew | refine Kept.setCell ?_ (.inr GW1114.out) _ | refine Kept.setCell ?_ (.inr GW1115.out) _ | refine Kept.setCell ?_ (.inr GW1119.out) _) | exact HK.out)) hb); have GE1120 := gs hg HB; replace HB := hs_ HB hb; have NB1114_1120 := dk (by rw [hg]; exact Nat.ne_of_lt (blk_lt (g := gb1114) (o := .cells #[.int .i64 a0_0, .int .i64 a0_1, .int .i64 a0_2, .slice A0_3 l0_3.length c0_3, .bool a0_4] 33 (0, 0)) (bf NB1114_1119.out BK1114)) : gb1114 ≠ gb1120); have NB1120_1114 := dk (by rw [hg]; exact Nat.ne_of_gt (blk_lt (g := gb1114) (o := .cells #[.int .i64 a0_0, .int .i64 a0_1, .int .i64 a0_2, .slice A0_3 l0_3.length c0_3, .bool a0_4] 33 (0, 0)) (bf NB1114_1119.out BK1114)) : gb1120 ≠ gb1114); replace BK1114 := dk (blk_below (bf NB1114_1119.out BK1114) hb); have NB1115_1120 := dk (by rw [hg]; exact Nat.ne_of_lt (blk_lt (g := gb1115) (o := .cells #[.int .i64 a2_0, .int .i64 a2_1, .int .i64 a2_2, .int .i64 a2_3, .int .i64 a2_4] 95 (0, 0)) (bf NB1115_1119.out BK1115)) : gb1115 ≠ gb1120); have NB1120_1115 := dk (by rw [hg]; exact Nat.ne_of_gt (blk_lt (g := gb1115) (o := .cells #[.int .i64 a2_0, .int .i64 a2_1, .int .i64 a2_2, .int .i64 a2_3, .int .i64 a2_4] 95 (0, 0)) (bf NB1115_1119.out BK1115)) : gb1120 ≠ gb1115); replace BK1115 := dk (blk_below (bf NB1115_1119.out BK1115) hb); have NB1119_1120 := dk (by rw [hg]; exact Nat.ne_of_lt (blk_lt (g := gb1119) (o := .cells #[.int .i64 1, .int .i64 0, .int .i64 0, .int .i64 0, .int .i64 t1116, .int .i64 t1117, .int .i64 0] 115 (0, 0)) (bp BK1119)) : gb1119 ≠ gb1120); have NB1120_1119 := dk (by rw [hg]; exact Nat.ne_of_gt (blk_lt (g := gb1119) (o := .cells #[.int .i64 1, .int .i64 0, .int .i64 0, .int .i64 0, .int .i64 t1116, .int .i64 t1117, .int .i64 0] 115 (0, 0)) (bp BK1119)) : gb1120 ≠ gb1119); replace BK1119 := dk (blk_below (g := gb1119) (o := .cells #[.int .i64 1, .int .i64 0, .int .i64 0, .int .i64 0, .int .i64 t1116, .int .i64 t1117, .int .i64 0] 115 (0, 0)) (bp BK1119) hb); clear hb hbox hg; have hnb19 := NB1120_1114.out; have hnc19 := NB1114_1120.out; have hnb20 := NB1120_1115.out; have hnc20 := NB1115_1120.out; have hnb21 := NB1120_1119.out; have hnc21 := NB1119_1120.out; have ⟨z22_0, z22_1, z22_2, z22_3, z22_4, z22_5, z22_6, v22_0, v22_1, v22_2, v22_3, v22_4, v22_5, v22_6⟩ := rz7 BK1120; have hnb23 := NB1115_1114.out; have hnc23 := NB1114_1115.out; have ⟨z24_0, z24_1, z24_2, z24_3, z24_4, v24_0, v24_1, v24_2, v24_3, v24_4⟩ := rz5 BK1115) | ((with_reducible refine gcallee_ 169 rfl ?_); refine gl (some 26) Try.func169 #[.agg #[.int .i64 a2_0, .int .i64 a2_1, .int .i64 a2_2, .int .i64 a2_3, .int .i64 a2_4]] ?_; (with_reducible refine (spec_OutcomeOf.calls a2_0 a2_1 a2_2 a2_3 a2_4 t1121 _ A12.out).mono ?_); rintro e w25 ⟨rfl, hb⟩; refine ⟨_, rfl, ?_⟩; replace HO1 := dk (Kd.R_below (by (with_reducible repeat (first | apply Kd.R_alloc | apply Kd.R_drewN | apply Kd.R_drew)); exact (Kd.R_mono (Kd.R_far (p := ⟨gb1120, 6, none⟩) (Kd.R_far (p := ⟨gb1120, 5, none⟩) (Kd.R_far (p := ⟨gb1120, 4, none⟩) (Kd.R_far (p := ⟨gb1120, 3, none⟩) (Kd.R_far (p := ⟨gb1120, 2, none⟩) (Kd.R_far (p := ⟨gb1120, 1, none⟩) (Kd.R_far (p := ⟨gb1120, 0, none⟩) (Kd.R_mono HO1.out (fun k_ hk => (⟨hk, hk.2⟩ : _ ∧ k_ ≠ gb1120))) (fun _ hk => hk.2) (.int .i64 1)) (fun _ hk => hk.2) (.int .i64 0)) (fun _ hk => hk.2) (.int .i64 0)) (fun _ hk => hk.2) (.int .i64 0)) (fun _ hk => hk.2) (.int .i64 t1117)) (fun _ hk => hk.2) (.int .i64 t1116)) (fun _ hk => hk.2) (.int .i64 0)) (fun _ h_ => h_.1))) hb); replace BK1114 := dk (blk_below (bf NB1114_1120.out BK1114) hb); replace BK1115 := dk (blk_below (bf NB1115_1120.out BK1115) hb); replace BK1119 := dk (blk_below (bf NB1119_1120.out BK1119) hb); replace BK1120 := dk (blk_below (g := gb1120) (o := .cells #[.int .i64 1, .int .i64 0, .int .i64 0, .int .i64 0, .int .i64 t1117, .int .i64 t1116, .int .i64 0] 115 (0, 0)) (bp BK1120) hb); replace HK := dk (Kept.below (S := (fun k_ => P1_ k_)) (by repeat (first | (with_reducible first | exact HK.out | apply Kept.alloc | apply Kept.drewN | apply Kept.drew | refine Kept.setCell ?_ (.inr GW1114.out) _ | refine Kept.setCell ?_ (.inr GW1115.out) _ | refine Kept.setCell ?_ (.inr GW1119.out) _ | refine Kept.setCell ?_ (.inr GW1120.out) _) | exact HK.out)) hb); replace HB := hs_ HB hb))
  (try simp only [Act.put, List.setIfInBounds_toArray, List.set_cons_zero, List.set_cons_succ])
  go_cut [] (fun wc => ∃ (kq : Nat) (x1120001_12 : Int) (x1120002_12 : Int) (x1120003_12 : Int) (x1120006_12 : Int) (x1121001_12 : Int) (x1121002_12 : Int) (x1121003_12 : Int) (x1121006_12 : Int), Aside0 (spec_l06Add.j0 kq l1 a2_0 a2_1 a2_2 a2_3 a2_4 1 x1120001_12 x1120002_12 x1120003_12 t1116 t1117 x1120006_12 1 x1121001_12 x1121002_12 x1121003_12 t1117 t1116 x1121006_12 = some r) ∧ Aside0 (kq ≤ k) ∧ Aside0 (Kd.R k115 115 wc w0.heap.size (fun k_ => (P1_ k_ ∨ w.heap.size ≤ k_) ∧ k_ ≠ gb1119 ∧ k_ ≠ gb1120) u9000_ l1) ∧ Aside0 (wc.heap[gb1114]? = some (.cells #[.int .i64 a0_0, .int .i64 a0_1, .int .i64 a0_2, (.slice A0_3 l0_3.length c0_3), .bool a0_4] 33 (0, 0))) ∧ Aside0 (wc.heap[gb1115]? = some (.cells #[.int .i64 a2_0, .int .i64 a2_1, .int .i64 a2_2, .int .i64 a2_3, .int .i64 a2_4] 95 (0, 0))) ∧ Aside0 (wc.heap[gb1119]? = some (.cells #[.int .i64 1, .int .i64 x1120001_12, .int .i64 x1120002_12, .int .i64 x1120003_12, .int .i64 t1116, .int .i64 t1117, .int .i64 x1120006_12] 115 (0, 0))) ∧ Aside0 (wc.heap[gb1120]? = some (.cells #[.int .i64 1, .int .i64 x1121001_12, .int .i64 x1121002_12, .int .i64 x1121003_12, .int .i64 t1117, .int .i64 t1116, .int .i64 x1121006_12] 115 (0, 0))) ∧ Aside0 (Kept w wc (fun k_ => P1_ k_)) ∧ Aside0 (Below w0.heap.size w0 wc))
  case first =>
   have H := HC13.out
   clear HC13
   by_cases c26 : t1121 = 1
   ·rw [if_pos c26] at H
    have c26b0 := beq_iff_eq.mpr c26
    have c26b1 := bne_eq_false_iff_eq.mpr c26
    clear c26
    (first | rw [c26b0] | rw [c26b1] | (simp only [i64_w, i32_w]; rw [c26b0]) | skip)
    have H' := dk H
    clear H
    have hnb27 := NB1119_1114.out
    have hnc27 := NB1114_1119.out
    have hnb28 := NB1119_1115.out
    have hnc28 := NB1115_1119.out
    have hnb29 := NB1119_1120.out
    have hnc29 := NB1120_1119.out
    have ⟨z30_0, z30_1, z30_2, z30_3, z30_4, z30_5, z30_6, v30_0, v30_1, v30_2, v30_3, v30_4, v30_5, v30_6⟩ := rz7 BK1119
    have hnb31 := NB1120_1114.out
    have hnc31 := NB1114_1120.out
    have hnb32 := NB1120_1115.out
    have hnc32 := NB1115_1120.out
    have ⟨z33_0, z33_1, z33_2, z33_3, z33_4, z33_5, z33_6, v33_0, v33_1, v33_2, v33_3, v33_4, v33_5, v33_6⟩ := rz7 BK1120
    have hnb34 := NB1114_1115.out
    have hnc34 := NB1115_1114.out
    have ⟨z35_0, z35_1, z35_2, z35_3, z35_4, v35_0, v35_1, v35_2, v35_3, v35_4⟩ := rz5 BK1114
    go_wp2
    go_meet
    case rel => exact ⟨_, (1), (0), (0), (a0_0), (0), (0), (1), (a0_2), H', ⟨by first | omega | exact Nat.le_refl _⟩, ⟨by (with_reducible repeat (first | apply Kd.R_alloc | apply Kd.R_drewN | apply Kd.R_drew)); exact Kd.R_mono (Kd.R_far (p := ⟨gb1120, 6, none⟩) (Kd.R_far (p := ⟨gb1119, 6, none⟩) (Kd.R_far (p := ⟨gb1120, 3, none⟩) (Kd.R_far (p := ⟨gb1119, 1, none⟩) (Kd.R_mono (Kd.R_mono HO1.out (fun k_ hk => (⟨hk, hk.1.2⟩ : _ ∧ k_ ≠ gb1119))) (fun k_ hk => (⟨hk, hk.1.2⟩ : _ ∧ k_ ≠ gb1120))) (fun _ hk => hk.1.2) (.int .i64 1)) (fun _ hk => hk.2) (.int .i64 1)) (fun _ hk => hk.1.2) (.int .i64 a0_0)) (fun _ hk => hk.2) (.int .i64 a0_2)) (fun _ hk => ⟨hk.1.1.1.1, ⟨hk.1.1.1.2, hk.1.1.2⟩⟩)⟩, ⟨by (with_reducible repeat (first | refine blk_drewN ?_ _ | refine blk_drew ?_ | refine blk_alloc ?_ _)); refine blk_far ?_ NB1114_1120.out _; (with_reducible repeat (first | refine blk_drewN ?_ _ | refine blk_drew ?_ | refine blk_alloc ?_ _)); refine blk_far ?_ NB1114_1119.out _; (with_reducible repeat (first | refine blk_drewN ?_ _ | refine blk_drew ?_ | refine blk_alloc ?_ _)); refine blk_far ?_ NB1114_1120.out _; exact bf NB1114_1119.out BK1114⟩, ⟨by (with_reducible repeat (first | refine blk_drewN ?_ _ | refine blk_drew ?_ | refine blk_alloc ?_ _)); refine blk_far ?_ NB1115_1120.out _; (with_reducible repeat (first | refine blk_drewN ?_ _ | refine blk_drew ?_ | refine blk_alloc ?_ _)); refine blk_far ?_ NB1115_1119.out _; (with_reducible repeat (first | refine blk_drewN ?_ _ | refine blk_drew ?_ | refine blk_alloc ?_ _)); refine blk_far ?_ NB1115_1120.out _; exact bf NB1115_1119.out BK1115⟩, ⟨by (with_reducible repeat (first | refine blk_drewN ?_ _ | refine blk_drew ?_ | refine blk_alloc ?_ _)); refine blk_far ?_ NB1119_1120.out _; (with_reducible repeat (first | refine blk_drewN ?_ _ | refine blk_drew ?_ | refine blk_alloc ?_ _)); refine blk_put (cs := #[.int .i64 1, .int .i64 1, .int .i64 0, .int .i64 0, .int .i64 t1116, .int .i64 t1117, .int .i64 0]) ?_ 6 _ rfl; (with_reducible repeat (first | refine blk_drewN ?_ _ | refine blk_drew ?_ | refine blk_alloc ?_ _)); refine blk_far ?_ NB1119_1120.out _; (with_reducible repeat (first | refine blk_drewN ?_ _ | refine blk_drew ?_ | refine blk_alloc ?_ _)); refine blk_put (cs := #[.int .i64 1, .int .i64 0, .int .i64 0, .int .i64 0, .int .i64 t1116, .int .i64 t1117, .int .i64 0]) ?_ 1 _ rfl; (with_reducible repeat (first | refine blk_drewN ?_ _ | refine blk_drew ?_ | refine blk_alloc ?_ _)); exact BK1119.out⟩, ⟨by (with_reducible repeat (first | refine blk_drewN ?_ _ | refine blk_drew ?_ | refine blk_alloc ?_ _)); refine blk_put (cs := #[.int .i64 1, .int .i64 0, .int .i64 0, .int .i64 1, .int .i64 t1117, .int .i64 t1116, .int .i64 0]) ?_ 6 _ rfl; (with_reducible repeat (first | refine blk_drewN ?_ _ | refine blk_drew ?_ | refine blk_alloc ?_ _)); refine blk_far ?_ NB1120_1119.out _; (with_reducible repeat (first | refine blk_drewN ?_ _ | refine blk_drew ?_ | refine blk_alloc ?_ _)); refine blk_put (cs := #[.int .i64 1, .int .i64 0, .int .i64 0, .int .i64 0, .int .i64 t1117, .int .i64 t1116, .int .i64 0]) ?_ 3 _ rfl; exact bf NB1120_1119.out BK1120⟩, ⟨by repeat (first | (with_reducible first | exact HK.out | apply Kept.alloc | apply Kept.drewN | apply Kept.drew | refine Kept.setCell ?_ (.inr GW1114.out) _ | refine Kept.setCell ?_ (.inr GW1115.out) _ | refine Kept.setCell ?_ (.inr GW1119.out) _ | refine Kept.setCell ?_ (.inr GW1120.out) _) | exact HK.out)⟩, ⟨bb HB⟩⟩
   ·rw [if_neg c26] at H
    have c26b0 := beq_eq_false_iff_ne.mpr c26
    have c26b1 := bne_iff_ne.mpr c26
    (first | rw [c26b0] | rw [c26b1] | (simp only [i64_w, i32_w]; rw [c26b0]) | skip)
    by_cases c36 : t1121 = 2
    ·rw [if_pos c36] at H
     have c36b0 := beq_iff_eq.mpr c36
     have c36b1 := bne_eq_false_iff_eq.mpr c36
     clear c36
     have H' := dk H
     clear H
     have hnb37 := NB1119_1114.out
     have hnc37 := NB1114_1119.out
     have hnb38 := NB1119_1115.out
     have hnc38 := NB1115_1119.out
     have hnb39 := NB1119_1120.out
     have hnc39 := NB1120_1119.out
     have ⟨z40_0, z40_1, z40_2, z40_3, z40_4, z40_5, z40_6, v40_0, v40_1, v40_2, v40_3, v40_4, v40_5, v40_6⟩ := rz7 BK1119
     have hnb41 := NB1120_1114.out
     have hnc41 := NB1114_1120.out
     have hnb42 := NB1120_1115.out
     have hnc42 := NB1115_1120.out
     have ⟨z43_0, z43_1, z43_2, z43_3, z43_4, z43_5, z43_6, v43_0, v43_1, v43_2, v43_3, v43_4, v43_5, v43_6⟩ := rz7 BK1120
     have hnb44 := NB1114_1115.out
     have hnc44 := NB1115_1114.out
     have ⟨z45_0, z45_1, z45_2, z45_3, z45_4, v45_0, v45_1, v45_2, v45_3, v45_4⟩ := rz5 BK1114
     go_wp2
     go_meet
     case rel => exact ⟨_, (0), (1), (0), (a0_1), (0), (1), (0), (a0_1), H', ⟨by first | omega | exact Nat.le_refl _⟩, ⟨by (with_reducible repeat (first | apply Kd.R_alloc | apply Kd.R_drewN | apply Kd.R_drew)); exact Kd.R_mono (Kd.R_far (p := ⟨gb1120, 6, none⟩) (Kd.R_far (p := ⟨gb1119, 6, none⟩) (Kd.R_far (p := ⟨gb1120, 2, none⟩) (Kd.R_far (p := ⟨gb1119, 2, none⟩) (Kd.R_mono (Kd.R_mono HO1.out (fun k_ hk => (⟨hk, hk.1.2⟩ : _ ∧ k_ ≠ gb1119))) (fun k_ hk => (⟨hk, hk.1.2⟩ : _ ∧ k_ ≠ gb1120))) (fun _ hk => hk.1.2) (.int .i64 1)) (fun _ hk => hk.2) (.int .i64 1)) (fun _ hk => hk.1.2) (.int .i64 a0_1)) (fun _ hk => hk.2) (.int .i64 a0_1)) (fun _ hk => ⟨hk.1.1.1.1, ⟨hk.1.1.1.2, hk.1.1.2⟩⟩)⟩, ⟨by (with_reducible repeat (first | refine blk_drewN ?_ _ | refine blk_drew ?_ | refine blk_alloc ?_ _)); refine blk_far ?_ NB1114_1120.out _; (with_reducible repeat (first | refine blk_drewN ?_ _ | refine blk_drew ?_ | refine blk_alloc ?_ _)); refine blk_far ?_ NB1114_1119.out _; (with_reducible repeat (first | refine blk_drewN ?_ _ | refine blk_drew ?_ | refine blk_alloc ?_ _)); refine blk_far ?_ NB1114_1120.out _; exact bf NB1114_1119.out BK1114⟩, ⟨by (with_reducible repeat (first | refine blk_drewN ?_ _ | refine blk_drew ?_ | refine blk_alloc ?_ _)); refine blk_far ?_ NB1115_1120.out _; (with_reducible repeat (first | refine blk_drewN ?_ _ | refine blk_drew ?_ | refine blk_alloc ?_ _)); refine blk_far ?_ NB1115_1119.out _; (with_reducible repeat (first | refine blk_drewN ?_ _ | refine blk_drew ?_ | refine blk_alloc ?_ _)); refine blk_far ?_ NB1115_1120.out _; exact bf NB1115_1119.out BK1115⟩, ⟨by (with_reducible repeat (first | refine blk_drewN ?_ _ | refine blk_drew ?_ | refine blk_alloc ?_ _)); refine blk_far ?_ NB1119_1120.out _; (with_reducible repeat (first | refine blk_drewN ?_ _ | refine blk_drew ?_ | refine blk_alloc ?_ _)); refine blk_put (cs := #[.int .i64 1, .int .i64 0, .int .i64 1, .int .i64 0, .int .i64 t1116, .int .i64 t1117, .int .i64 0]) ?_ 6 _ rfl; (with_reducible repeat (first | refine blk_drewN ?_ _ | refine blk_drew ?_ | refine blk_alloc ?_ _)); refine blk_far ?_ NB1119_1120.out _; (with_reducible repeat (first | refine blk_drewN ?_ _ | refine blk_drew ?_ | refine blk_alloc ?_ _)); refine blk_put (cs := #[.int .i64 1, .int .i64 0, .int .i64 0, .int .i64 0, .int .i64 t1116, .int .i64 t1117, .int .i64 0]) ?_ 2 _ rfl; (with_reducible repeat (first | refine blk_drewN ?_ _ | refine blk_drew ?_ | refine blk_alloc ?_ _)); exact BK1119.out⟩, ⟨by (with_reducible repeat (first | refine blk_drewN ?_ _ | refine blk_drew ?_ | refine blk_alloc ?_ _)); refine blk_put (cs := #[.int .i64 1, .int .i64 0, .int .i64 1, .int .i64 0, .int .i64 t1117, .int .i64 t1116, .int .i64 0]) ?_ 6 _ rfl; (with_reducible repeat (first | refine blk_drewN ?_ _ | refine blk_drew ?_ | refine blk_alloc ?_ _)); refine blk_far ?_ NB1120_1119.out _; (with_reducible repeat (first | refine blk_drewN ?_ _ | refine blk_drew ?_ | refine blk_alloc ?_ _)); refine blk_put (cs := #[.int .i64 1, .int .i64 0, .int .i64 0, .int .i64 0, .int .i64 t1117, .int .i64 t1116, .int .i64 0]) ?_ 2 _ rfl; exact bf NB1120_1119.out BK1120⟩, ⟨by repeat (first | (with_reducible first | exact HK.out | apply Kept.alloc | apply Kept.drewN | apply Kept.drew | refine Kept.setCell ?_ (.inr GW1114.out) _ | refine Kept.setCell ?_ (.inr GW1115.out) _ | refine Kept.setCell ?_ (.inr GW1119.out) _ | refine Kept.setCell ?_ (.inr GW1120.out) _) | exact HK.out)⟩, ⟨bb HB⟩⟩
    ·rw [if_neg c36] at H
     have c36b0 := beq_eq_false_iff_ne.mpr c36
     have c36b1 := bne_iff_ne.mpr c36
     by_cases c46 : t1121 = 3
     ·rw [if_pos c46] at H
      have c46b0 := beq_iff_eq.mpr c46
      have c46b1 := bne_eq_false_iff_eq.mpr c46
      clear c46
      have H' := dk H
      clear H
      have hnb47 := NB1119_1114.out
      have hnc47 := NB1114_1119.out
      have hnb48 := NB1119_1115.out
      have hnc48 := NB1115_1119.out
      have hnb49 := NB1119_1120.out
      have hnc49 := NB1120_1119.out
      have ⟨z50_0, z50_1, z50_2, z50_3, z50_4, z50_5, z50_6, v50_0, v50_1, v50_2, v50_3, v50_4, v50_5, v50_6⟩ := rz7 BK1119
      have hnb51 := NB1120_1114.out
      have hnc51 := NB1114_1120.out
      have hnb52 := NB1120_1115.out
      have hnc52 := NB1115_1120.out
      have ⟨z53_0, z53_1, z53_2, z53_3, z53_4, z53_5, z53_6, v53_0, v53_1, v53_2, v53_3, v53_4, v53_5, v53_6⟩ := rz7 BK1120
      have hnb54 := NB1114_1115.out
      have hnc54 := NB1115_1114.out
      have ⟨z55_0, z55_1, z55_2, z55_3, z55_4, v55_0, v55_1, v55_2, v55_3, v55_4⟩ := rz5 BK1114
      go_wp2
      go_meet
      case rel => exact ⟨_, (0), (0), (1), (a0_2), (1), (0), (0), (a0_0), H', ⟨by first | omega | exact Nat.le_refl _⟩, ⟨by (with_reducible repeat (first | apply Kd.R_alloc | apply Kd.R_drewN | apply Kd.R_drew)); exact Kd.R_mono (Kd.R_far (p := ⟨gb1120, 6, none⟩) (Kd.R_far (p := ⟨gb1119, 6, none⟩) (Kd.R_far (p := ⟨gb1120, 1, none⟩) (Kd.R_far (p := ⟨gb1119, 3, none⟩) (Kd.R_mono (Kd.R_mono HO1.out (fun k_ hk => (⟨hk, hk.1.2⟩ : _ ∧ k_ ≠ gb1119))) (fun k_ hk => (⟨hk, hk.1.2⟩ : _ ∧ k_ ≠ gb1120))) (fun _ hk => hk.1.2) (.int .i64 1)) (fun _ hk => hk.2) (.int .i64 1)) (fun _ hk => hk.1.2) (.int .i64 a0_2)) (fun _ hk => hk.2) (.int .i64 a0_0)) (fun _ hk => ⟨hk.1.1.1.1, ⟨hk.1.1.1.2, hk.1.1.2⟩⟩)⟩, ⟨by (with_reducible repeat (first | refine blk_drewN ?_ _ | refine blk_drew ?_ | refine blk_alloc ?_ _)); refine blk_far ?_ NB1114_1120.out _; (with_reducible repeat (first | refine blk_drewN ?_ _ | refine blk_drew ?_ | refine blk_alloc ?_ _)); refine blk_far ?_ NB1114_1119.out _; (with_reducible repeat (first | refine blk_drewN ?_ _ | refine blk_drew ?_ | refine blk_alloc ?_ _)); refine blk_far ?_ NB1114_1120.out _; exact bf NB1114_1119.out BK1114⟩, ⟨by (with_reducible repeat (first | refine blk_drewN ?_ _ | refine blk_drew ?_ | refine blk_alloc ?_ _)); refine blk_far ?_ NB1115_1120.out _; (with_reducible repeat (first | refine blk_drewN ?_ _ | refine blk_drew ?_ | refine blk_alloc ?_ _)); refine blk_far ?_ NB1115_1119.out _; (with_reducible repeat (first | refine blk_drewN ?_ _ | refine blk_drew ?_ | refine blk_alloc ?_ _)); refine blk_far ?_ NB1115_1120.out _; exact bf NB1115_1119.out BK1115⟩, ⟨by (with_reducible repeat (first | refine blk_drewN ?_ _ | refine blk_drew ?_ | refine blk_alloc ?_ _)); refine blk_far ?_ NB1119_1120.out _; (with_reducible repeat (first | refine blk_drewN ?_ _ | refine blk_drew ?_ | refine blk_alloc ?_ _)); refine blk_put (cs := #[.int .i64 1, .int .i64 0, .int .i64 0, .int .i64 1, .int .i64 t1116, .int .i64 t1117, .int .i64 0]) ?_ 6 _ rfl; (with_reducible repeat (first | refine blk_drewN ?_ _ | refine blk_drew ?_ | refine blk_alloc ?_ _)); refine blk_far ?_ NB1119_1120.out _; (with_reducible repeat (first | refine blk_drewN ?_ _ | refine blk_drew ?_ | refine blk_alloc ?_ _)); refine blk_put (cs := #[.int .i64 1, .int .i64 0, .int .i64 0, .int .i64 0, .int .i64 t1116, .int .i64 t1117, .int .i64 0]) ?_ 3 _ rfl; (with_reducible repeat (first | refine blk_drewN ?_ _ | refine blk_drew ?_ | refine blk_alloc ?_ _)); exact BK1119.out⟩, ⟨by (with_reducible repeat (first | refine blk_drewN ?_ _ | refine blk_drew ?_ | refine blk_alloc ?_ _)); refine blk_put (cs := #[.int .i64 1, .int .i64 1, .int .i64 0, .int .i64 0, .int .i64 t1117, .int .i64 t1116, .int .i64 0]) ?_ 6 _ rfl; (with_reducible repeat (first | refine blk_drewN ?_ _ | refine blk_drew ?_ | refine blk_alloc ?_ _)); refine blk_far ?_ NB1120_1119.out _; (with_reducible repeat (first | refine blk_drewN ?_ _ | refine blk_drew ?_ | refine blk_alloc ?_ _)); refine blk_put (cs := #[.int .i64 1, .int .i64 0, .int .i64 0, .int .i64 0, .int .i64 t1117, .int .i64 t1116, .int .i64 0]) ?_ 1 _ rfl; exact bf NB1120_1119.out BK1120⟩, ⟨by repeat (first | (with_reducible first | exact HK.out | apply Kept.alloc | apply Kept.drewN | apply Kept.drew | refine Kept.setCell ?_ (.inr GW1114.out) _ | refine Kept.setCell ?_ (.inr GW1115.out) _ | refine Kept.setCell ?_ (.inr GW1119.out) _ | refine Kept.setCell ?_ (.inr GW1120.out) _) | exact HK.out)⟩, ⟨bb HB⟩⟩
     ·rw [if_neg c46] at H
      have c46b0 := beq_eq_false_iff_ne.mpr c46
      have c46b1 := bne_iff_ne.mpr c46
      have H' := dk H
      clear H
      go_wp2
      go_meet
      case rel => exact ⟨_, (0), (0), (0), (0), (0), (0), (0), (0), H', ⟨by first | omega | exact Nat.le_refl _⟩, ⟨rp HO1⟩, ⟨bk BK1114⟩, ⟨bk BK1115⟩, ⟨bk BK1119⟩, ⟨bk BK1120⟩, ⟨by repeat (first | (with_reducible first | exact HK.out | apply Kept.alloc | apply Kept.drewN | apply Kept.drew | refine Kept.setCell ?_ (.inr GW1114.out) _ | refine Kept.setCell ?_ (.inr GW1115.out) _ | refine Kept.setCell ?_ (.inr GW1119.out) _ | refine Kept.setCell ?_ (.inr GW1120.out) _) | exact HK.out)⟩, ⟨bb HB⟩⟩
  case rest =>
   clear HC13
   obtain ⟨kq, x1120001_12, x1120002_12, x1120003_12, x1120006_12, x1121001_12, x1121002_12, x1121003_12, x1121006_12, HA, HJ12, HO_1, BK1114, BK1115, BK1119, BK1120, HK, HB⟩ := hcut
   cases kq with
   | zero => exact absurd HA.out (by simp [spec_l06Add.j0])
   | succ kj12 =>
    have H := HA.out
    clear HA
    simp only [spec_l06Add.j0] at H
    by_cases c56 : 0 ≤ a2_0
    ·rw [if_pos c56] at H
     have c56b0 := decide_eq_true c56
     clear c56
     by_cases c57 : a2_0 < (l1.length : Int)
     ·rw [if_pos c57] at H
      have c57b0 := decide_eq_true c57
      clear c57
      replace H := Option.bind_eq_some_iff.mp H
      obtain ⟨⟨t1123, t1124, t1125, t1126, t1127, t1128, t1129⟩, A580, H⟩ := H
      try dsimp only at H
      have A58 := dk A580
      clear A580
      obtain ⟨y1130, hy1130⟩ : ∃ y_ : List (S115), y_ = (l1.set (a2_0 : Int).toNat (⟨t1123, t1124, t1125, t1126, t1127, t1128, t1129⟩ : S115)) := ⟨_, rfl⟩
      replace H : (if 0 ≤ a2_1 then (if a2_1 < (l1.length : Int) then ((spec_AddRows.f ((rd_T115 y1130 a2_1).f0) ((rd_T115 y1130 a2_1).f1) ((rd_T115 y1130 a2_1).f2) ((rd_T115 y1130 a2_1).f3) ((rd_T115 y1130 a2_1).f4) ((rd_T115 y1130 a2_1).f5) ((rd_T115 y1130 a2_1).f6) 1 x1121001_12 x1121002_12 x1121003_12 t1117 t1116 x1121006_12).bind fun bt1132 => (some (y1130.set (a2_1 : Int).toNat (⟨bt1132.1, bt1132.2.1, bt1132.2.2.1, bt1132.2.2.2.1, bt1132.2.2.2.2.1, bt1132.2.2.2.2.2.1, bt1132.2.2.2.2.2.2⟩ : S115)))) else (none)) else (none)) = some r := by first | (rw [hy1130]; with_reducible exact H) | (have H2_ := (Option.bind_some _ _).symm.trans H; rw [hy1130]; with_reducible exact H2_) | (have H2_ := (Option.bind_some _ _).symm.trans H; with_reducible exact H2_) | with_reducible exact H | (rw [hy1130]; exact H) | exact H
      have Ny1130 := dk hy1130
      clear hy1130
      by_cases c60 : 0 ≤ a2_1
      ·rw [if_pos c60] at H
       have c60b0 := decide_eq_true c60
       clear c60
       by_cases c61 : a2_1 < (l1.length : Int)
       ·rw [if_pos c61] at H
        have c61b0 := decide_eq_true c61
        clear c61
        replace H := Option.bind_eq_some_iff.mp H
        obtain ⟨⟨t1132, t1133, t1134, t1135, t1136, t1137, t1138⟩, A620, H⟩ := H
        try dsimp only at H
        have A62 := dk A620
        clear A620
        obtain ⟨y1139, hy1139⟩ : ∃ y_ : List (S115), y_ = (y1130.set (a2_1 : Int).toNat (⟨t1132, t1133, t1134, t1135, t1136, t1137, t1138⟩ : S115)) := ⟨_, rfl⟩
        replace H : (some y1139) = some r := by first | (rw [hy1139]; with_reducible exact H) | (have H2_ := (Option.bind_some _ _).symm.trans H; rw [hy1139]; with_reducible exact H2_) | (have H2_ := (Option.bind_some _ _).symm.trans H; with_reducible exact H2_) | with_reducible exact H | (rw [hy1139]; exact H) | exact H
        have Ny1139 := dk hy1139
        clear hy1139
        obtain rfl := Option.some.inj H
        try go_wp2
        replace HO_1 := dk (Kd.R_drew HO_1.out)
        replace BK1114 := dk (blk_drew BK1114.out)
        replace BK1115 := dk (blk_drew BK1115.out)
        replace BK1119 := dk (blk_drew BK1119.out)
        replace BK1120 := dk (blk_drew BK1120.out)
        replace HK := dk (Kept.drew HK.out)
        replace HB := dk (below_drew1 HB.out)
        obtain ⟨Ao65, co65, eo65⟩ := Kd.R_slice HO_1.out
        (first | subst eo65 | (injection eo65 with f1_ f2_ f3_; have f4_ := f1_.symm; have f5_ := f3_.symm; clear f1_ f2_ f3_; subst f4_; subst f5_))
        have p1122 : 0 ≤ (a2_0 : Int) := oa
        have q1122 : a2_0 < (l1.length : Int) := oa
        obtain ⟨ad1122, e1122, hx1122_0, hx1122_1, hx1122_2, hx1122_3, hx1122_4, hx1122_5, hx1122_6⟩ := at_T115 (Kd.R_reads' HO_1.out).2.2 a2_0 p1122 q1122
        cases e1122
        replace p1122 := eq_true p1122
        replace q1122 := eq_true q1122
        refine start_ (n := 12) (S := fun w' => w'.cell? ⟨gb1115, 0, none⟩ = some (.int .i64 a2_0) ∧ w'.cell? ⟨gb1115, 1, none⟩ = some (.int .i64 a2_1) ∧ w'.cell? ⟨gb1115, 2, none⟩ = some (.int .i64 a2_2) ∧ w'.cell? ⟨gb1115, 3, none⟩ = some (.int .i64 a2_3) ∧ w'.cell? ⟨gb1115, 4, none⟩ = some (.int .i64 a2_4) ∧ w'.cell? ⟨gb1119, 0, none⟩ = some (.int .i64 1) ∧ w'.cell? ⟨gb1119, 1, none⟩ = some (.int .i64 x1120001_12) ∧ w'.cell? ⟨gb1119, 2, none⟩ = some (.int .i64 x1120002_12) ∧ w'.cell? ⟨gb1119, 3, none⟩ = some (.int .i64 x1120003_12) ∧ w'.cell? ⟨gb1119, 4, none⟩ = some (.int .i64 t1116) ∧ w'.cell? ⟨gb1119, 5, none⟩ = some (.int .i64 t1117) ∧ w'.cell? ⟨gb1119, 6, none⟩ = some (.int .i64 x1120006_12) ∧ w'.cell? (ad1122.add ((a2_0).toNat * 7)) = some (.int .i64 ((rd_T115 l1 a2_0).f0)) ∧ w'.cell? ⟨(ad1122.add ((a2_0).toNat * 7)).block, (ad1122.add ((a2_0).toNat * 7)).off + 1, none⟩ = some (.int .i64 ((rd_T115 l1 a2_0).f1)) ∧ w'.cell? ⟨(ad1122.add ((a2_0).toNat * 7)).block, (ad1122.add ((a2_0).toNat * 7)).off + 2, none⟩ = some (.int .i64 ((rd_T115 l1 a2_0).f2)) ∧ w'.cell? ⟨(ad1122.add ((a2_0).toNat * 7)).block, (ad1122.add ((a2_0).toNat * 7)).off + 3, none⟩ = some (.int .i64 ((rd_T115 l1 a2_0).f3)) ∧ w'.cell? ⟨(ad1122.add ((a2_0).toNat * 7)).block, (ad1122.add ((a2_0).toNat * 7)).off + 4, none⟩ = some (.int .i64 ((rd_T115 l1 a2_0).f4)) ∧ w'.cell? ⟨(ad1122.add ((a2_0).toNat * 7)).block, (ad1122.add ((a2_0).toNat * 7)).off + 5, none⟩ = some (.int .i64 ((rd_T115 l1 a2_0).f5)) ∧ w'.cell? ⟨(ad1122.add ((a2_0).toNat * 7)).block, (ad1122.add ((a2_0).toNat * 7)).off + 6, none⟩ = some (.int .i64 ((rd_T115 l1 a2_0).f6))) (ds := [11]) #[false, false, false, false, false, false, false, false, false, false, false, false] (by kernel_rfl) rfl rfl ⟨bc BK1115 0, bc BK1115 1, bc BK1115 2, bc BK1115 3, bc BK1115 4, bc BK1119 0, bc BK1119 1, bc BK1119 2, bc BK1119 3, bc BK1119 4, bc BK1119 5, bc BK1119 6, hx1122_0, hx1122_1, hx1122_2, hx1122_3, hx1122_4, hx1122_5, hx1122_6⟩ (fun hHeld => ?_); refine with_tabW spec_l06Add.tab21 spec_l06Add.bits21 (fun HT_ HW_ => ?_)
        generalize wc.drew = w64 at HO_1 BK1114 BK1115 BK1119 BK1120 HK HB hx1122_0 hx1122_1 hx1122_2 hx1122_3 hx1122_4 hx1122_5 hx1122_6 hHeld ⊢
        refine pz_ 0 57 ?_
        refine pz_ 1 58 ?_
        refine pz_ 3 60 ?_
        refine pz_ 4 61 ?_
        refine tk_ 2 59 ?_
        refine tk_ 5 62 ?_
        refine pz_ 6 63 ?_
        refine tk_ 7 64 ?_
        refine tk_ 8 65 ?_
        refine on_ 9 (some 66) (fun K hK => ?_)
        refine ga_ Try.func170 #[.agg #[.int .i64 ((rd_T115 l1 a2_0).f0), .int .i64 ((rd_T115 l1 a2_0).f1), .int .i64 ((rd_T115 l1 a2_0).f2), .int .i64 ((rd_T115 l1 a2_0).f3), .int .i64 ((rd_T115 l1 a2_0).f4), .int .i64 ((rd_T115 l1 a2_0).f5), .int .i64 ((rd_T115 l1 a2_0).f6)], .agg #[.int .i64 1, .int .i64 x1120001_12, .int .i64 x1120002_12, .int .i64 x1120003_12, .int .i64 t1116, .int .i64 t1117, .int .i64 x1120006_12]] ?_
        with_reducible refine (spec_AddRows.calls ((rd_T115 l1 a2_0).f0) ((rd_T115 l1 a2_0).f1) ((rd_T115 l1 a2_0).f2) ((rd_T115 l1 a2_0).f3) ((rd_T115 l1 a2_0).f4) ((rd_T115 l1 a2_0).f5) ((rd_T115 l1 a2_0).f6) 1 x1120001_12 x1120002_12 x1120003_12 t1116 t1117 x1120006_12 t1123 t1124 t1125 t1126 t1127 t1128 t1129 _ A58.out).mono ?_
        rintro e w66 ⟨rfl, hb⟩
        have HS12_ := hx_ hb hHeld.2.2.2.2.2.2.2.2.2.2.2.2.1
        have HS13_ := hx_ hb hHeld.2.2.2.2.2.2.2.2.2.2.2.2.2.1
        have HS14_ := hx_ hb hHeld.2.2.2.2.2.2.2.2.2.2.2.2.2.2.1
        have HS15_ := hx_ hb hHeld.2.2.2.2.2.2.2.2.2.2.2.2.2.2.2.1
        have HS16_ := hx_ hb hHeld.2.2.2.2.2.2.2.2.2.2.2.2.2.2.2.2.1
        have HS17_ := hx_ hb hHeld.2.2.2.2.2.2.2.2.2.2.2.2.2.2.2.2.2.1
        have HS18_ := hx_ hb hHeld.2.2.2.2.2.2.2.2.2.2.2.2.2.2.2.2.2.2
        refine ⟨_, rfl, ?_⟩
        replace HO_1 := kr HO_1 hb
        replace BK1114 := kb BK1114 hb
        replace BK1115 := kb BK1115 hb
        replace BK1119 := kb BK1119 hb
        replace BK1120 := kb BK1120 hb
        replace HK := dk (Kept.below (S := (fun k_ => P1_ k_)) (by repeat (first | (with_reducible first | exact HK.out | apply Kept.alloc | apply Kept.drewN | apply Kept.drew | refine Kept.setCell ?_ (.inr GW1114.out) _ | refine Kept.setCell ?_ (.inr GW1115.out) _ | refine Kept.setCell ?_ (.inr GW1119.out) _ | refine Kept.setCell ?_ (.inr GW1120.out) _) | exact HK.out)) hb)
        replace HB := hs_ HB hb
        have p59 : 0 ≤ (a2_0 : Int) := oa
        have q59 : (a2_0 : Int) < ((l1.length : Int) : Int) := oa
        obtain ⟨go59, co59, eo59, gb59, gl59, cl59, HG59⟩ := Kd.R_form HO_1.out (by omega)
        (first | cases eo59 | (injection eo59 with ea_ en_ ec_; (first | subst ea_ | (injection ea_ with ea_; subst ea_)); subst ec_; clear en_))
        have GB59 := dk gb59
        have GG59 := dk HG59
        clear gb59 gl59 HG59
        have HMgo59 := dk (show (P1_ go59 ∨ w.heap.size ≤ go59) from (HO_1.out.1 _ rfl).1)
        (first | simp only [add_plain] at hx1122_0 | skip)
        (first | simp only [add_plain] at hx1122_1 | skip)
        (first | simp only [add_plain] at hx1122_2 | skip)
        (first | simp only [add_plain] at hx1122_3 | skip)
        (first | simp only [add_plain] at hx1122_4 | skip)
        (first | simp only [add_plain] at hx1122_5 | skip)
        (first | simp only [add_plain] at hx1122_6 | skip)
        obtain ⟨ce59, hcl59, hM59, hcc59, hfr59⟩ := Kd.R_elem HO_1.out z115 (a2_0 : Int) p59 q59
        obtain rfl := k115_openM hM59
        have hx59_0 : World.cell? _ ⟨go59, (a2_0 : Int).toNat * 7, none⟩ = some (.int .i64 ((rd_T115 l1 a2_0).f0)) := hcc59 0 _ rfl
        have hx59_1 : World.cell? _ ⟨go59, (a2_0 : Int).toNat * 7 + 1, none⟩ = some (.int .i64 ((rd_T115 l1 a2_0).f1)) := hcc59 1 _ rfl
        have hx59_2 : World.cell? _ ⟨go59, (a2_0 : Int).toNat * 7 + 2, none⟩ = some (.int .i64 ((rd_T115 l1 a2_0).f2)) := hcc59 2 _ rfl
        have hx59_3 : World.cell? _ ⟨go59, (a2_0 : Int).toNat * 7 + 3, none⟩ = some (.int .i64 ((rd_T115 l1 a2_0).f3)) := hcc59 3 _ rfl
        have hx59_4 : World.cell? _ ⟨go59, (a2_0 : Int).toNat * 7 + 4, none⟩ = some (.int .i64 ((rd_T115 l1 a2_0).f4)) := hcc59 4 _ rfl
        have hx59_5 : World.cell? _ ⟨go59, (a2_0 : Int).toNat * 7 + 5, none⟩ = some (.int .i64 ((rd_T115 l1 a2_0).f5)) := hcc59 5 _ rfl
        have hx59_6 : World.cell? _ ⟨go59, (a2_0 : Int).toNat * 7 + 6, none⟩ = some (.int .i64 ((rd_T115 l1 a2_0).f6)) := hcc59 6 _ rfl
        have hf59_0 : World.frozen? _ ⟨go59, (a2_0 : Int).toNat * 7, none⟩ = false := hfr59 0
        have hf59_1 : World.frozen? _ ⟨go59, (a2_0 : Int).toNat * 7 + 1, none⟩ = false := hfr59 1
        have hf59_2 : World.frozen? _ ⟨go59, (a2_0 : Int).toNat * 7 + 2, none⟩ = false := hfr59 2
        have hf59_3 : World.frozen? _ ⟨go59, (a2_0 : Int).toNat * 7 + 3, none⟩ = false := hfr59 3
        have hf59_4 : World.frozen? _ ⟨go59, (a2_0 : Int).toNat * 7 + 4, none⟩ = false := hfr59 4
        have hf59_5 : World.frozen? _ ⟨go59, (a2_0 : Int).toNat * 7 + 5, none⟩ = false := hfr59 5
        have hf59_6 : World.frozen? _ ⟨go59, (a2_0 : Int).toNat * 7 + 6, none⟩ = false := hfr59 6
        clear hcl59 hcc59 hfr59
        replace p59 := eq_true p59
        replace q59 := eq_true q59
        obtain ⟨ce67, hcl67, hM67, hcc67, hfr67⟩ := Kd.R_elem HO_1.out z115 (a2_0 : Int) (oa) (by have h_ : (a2_0 : Int) < ((l1.length : Int) : Int) := oa; first | exact h_ | (have e_ := (Kd.R_reads' HO_1.out).1; omega) | simpa using h_)
        obtain rfl := k115_openM hM67
        have HP67 := (Kd.R_seg HO_1.out (a2_0 : Int) (oa) (by have h_ : (a2_0 : Int) < ((l1.length : Int) : Int) := oa; first | exact h_ | (have e_ := (Kd.R_reads' HO_1.out).1; omega) | simpa using h_) (seg := [.int .i64 t1123, .int .i64 t1124, .int .i64 t1125, .int .i64 t1126, .int .i64 t1127, .int .i64 t1128, .int .i64 t1129]) (j := 0) hcl67 hcc67 (show 7 ≤ 7 from by decide) (x' := (⟨t1123, t1124, t1125, t1126, t1127, t1128, t1129⟩ : S115)) (k115_mkM _ _ _ (⟨t1123, t1124, t1125, t1126, t1127, t1128, t1129⟩ : S115) ) (fun _ hk => hk)).1
        rw [← Ny1130.out] at HP67
        have HQ67 := dk HP67
        clear hcl67 hcc67 hfr67 hM67 HP67
        refine hK.out _ _ ⟨bc BK1115 0, bc BK1115 1, bc BK1115 2, bc BK1115 3, bc BK1115 4, bc BK1119 0, bc BK1119 1, bc BK1119 2, bc BK1119 3, bc BK1119 4, bc BK1119 5, bc BK1119 6, HS12_, HS13_, HS14_, HS15_, HS16_, HS17_, HS18_⟩ (fun hHeld => ?_)
        clear hK K
        refine no_ ?_
        refine pz_ 10 67 ?_
        refine last_ (i := 11) (N := none) #[true, true, true, true, true, true, true, true, true, true, true, true] rfl rfl (one_of HT_.out (by kernel_rfl)) (by decide) (fun K hK => ?_)
        refine skip_ (w1 := ?_) (by rfl) rfl ?_ ?_
        rotate_left
        ·go_simp
         rfl
        refine hK.out _ _ ?_
        clear hK K
        refine done_ (done_of HT_.out (by kernel_rfl)) ?_
        try go_wp2
        have n0_ : Aside0 (Kd.R k115 115 (((((((w66.setCell ⟨go59, (a2_0 : Int).toNat * 7, none⟩ (.int .i64 t1123)).setCell ⟨go59, (a2_0 : Int).toNat * 7 + 1, none⟩ (.int .i64 t1124)).setCell ⟨go59, (a2_0 : Int).toNat * 7 + 2, none⟩ (.int .i64 t1125)).setCell ⟨go59, (a2_0 : Int).toNat * 7 + 3, none⟩ (.int .i64 t1126)).setCell ⟨go59, (a2_0 : Int).toNat * 7 + 4, none⟩ (.int .i64 t1127)).setCell ⟨go59, (a2_0 : Int).toNat * 7 + 5, none⟩ (.int .i64 t1128)).setCell ⟨go59, (a2_0 : Int).toNat * 7 + 6, none⟩ (.int .i64 t1129)) w0.heap.size (fun k_ => (P1_ k_ ∨ w.heap.size ≤ k_) ∧ k_ ≠ gb1119 ∧ k_ ≠ gb1120) (.slice (some ⟨go59, 0, none⟩) l1.length co65) y1130) := ⟨rr HQ67⟩
        have n1_ : Aside0 ((((((((w66.setCell ⟨go59, (a2_0 : Int).toNat * 7, none⟩ (.int .i64 t1123)).setCell ⟨go59, (a2_0 : Int).toNat * 7 + 1, none⟩ (.int .i64 t1124)).setCell ⟨go59, (a2_0 : Int).toNat * 7 + 2, none⟩ (.int .i64 t1125)).setCell ⟨go59, (a2_0 : Int).toNat * 7 + 3, none⟩ (.int .i64 t1126)).setCell ⟨go59, (a2_0 : Int).toNat * 7 + 4, none⟩ (.int .i64 t1127)).setCell ⟨go59, (a2_0 : Int).toNat * 7 + 5, none⟩ (.int .i64 t1128)).setCell ⟨go59, (a2_0 : Int).toNat * 7 + 6, none⟩ (.int .i64 t1129)).heap[gb1114]? = some (.cells #[.int .i64 a0_0, .int .i64 a0_1, .int .i64 a0_2, .slice A0_3 l0_3.length c0_3, .bool a0_4] 33 (0, 0))) := ⟨bg HO_1 BK1114⟩
        have n2_ : Aside0 ((((((((w66.setCell ⟨go59, (a2_0 : Int).toNat * 7, none⟩ (.int .i64 t1123)).setCell ⟨go59, (a2_0 : Int).toNat * 7 + 1, none⟩ (.int .i64 t1124)).setCell ⟨go59, (a2_0 : Int).toNat * 7 + 2, none⟩ (.int .i64 t1125)).setCell ⟨go59, (a2_0 : Int).toNat * 7 + 3, none⟩ (.int .i64 t1126)).setCell ⟨go59, (a2_0 : Int).toNat * 7 + 4, none⟩ (.int .i64 t1127)).setCell ⟨go59, (a2_0 : Int).toNat * 7 + 5, none⟩ (.int .i64 t1128)).setCell ⟨go59, (a2_0 : Int).toNat * 7 + 6, none⟩ (.int .i64 t1129)).heap[gb1115]? = some (.cells #[.int .i64 a2_0, .int .i64 a2_1, .int .i64 a2_2, .int .i64 a2_3, .int .i64 a2_4] 95 (0, 0))) := ⟨bg HO_1 BK1115⟩
        have n3_ : Aside0 ((((((((w66.setCell ⟨go59, (a2_0 : Int).toNat * 7, none⟩ (.int .i64 t1123)).setCell ⟨go59, (a2_0 : Int).toNat * 7 + 1, none⟩ (.int .i64 t1124)).setCell ⟨go59, (a2_0 : Int).toNat * 7 + 2, none⟩ (.int .i64 t1125)).setCell ⟨go59, (a2_0 : Int).toNat * 7 + 3, none⟩ (.int .i64 t1126)).setCell ⟨go59, (a2_0 : Int).toNat * 7 + 4, none⟩ (.int .i64 t1127)).setCell ⟨go59, (a2_0 : Int).toNat * 7 + 5, none⟩ (.int .i64 t1128)).setCell ⟨go59, (a2_0 : Int).toNat * 7 + 6, none⟩ (.int .i64 t1129)).heap[gb1119]? = some (.cells #[.int .i64 1, .int .i64 x1120001_12, .int .i64 x1120002_12, .int .i64 x1120003_12, .int .i64 t1116, .int .i64 t1117, .int .i64 x1120006_12] 115 (0, 0))) := ⟨by (with_reducible repeat (first | refine blk_drewN ?_ _ | refine blk_drew ?_ | refine blk_alloc ?_ _)); refine blk_far ?_ (by have h_ := Kd.R_away HO_1.out (fun _ hk => hk.2.1); intro e_; exact h_ (by rw [e_]; rfl)) _; (with_reducible repeat (first | refine blk_drewN ?_ _ | refine blk_drew ?_ | refine blk_alloc ?_ _)); refine blk_far ?_ (by have h_ := Kd.R_away HO_1.out (fun _ hk => hk.2.1); intro e_; exact h_ (by rw [e_]; rfl)) _; (with_reducible repeat (first | refine blk_drewN ?_ _ | refine blk_drew ?_ | refine blk_alloc ?_ _)); refine blk_far ?_ (by have h_ := Kd.R_away HO_1.out (fun _ hk => hk.2.1); intro e_; exact h_ (by rw [e_]; rfl)) _; (with_reducible repeat (first | refine blk_drewN ?_ _ | refine blk_drew ?_ | refine blk_alloc ?_ _)); refine blk_far ?_ (by have h_ := Kd.R_away HO_1.out (fun _ hk => hk.2.1); intro e_; exact h_ (by rw [e_]; rfl)) _; (with_reducible repeat (first | refine blk_drewN ?_ _ | refine blk_drew ?_ | refine blk_alloc ?_ _)); refine blk_far ?_ (by have h_ := Kd.R_away HO_1.out (fun _ hk => hk.2.1); intro e_; exact h_ (by rw [e_]; rfl)) _; (with_reducible repeat (first | refine blk_drewN ?_ _ | refine blk_drew ?_ | refine blk_alloc ?_ _)); refine blk_far ?_ (by have h_ := Kd.R_away HO_1.out (fun _ hk => hk.2.1); intro e_; exact h_ (by rw [e_]; rfl)) _; (with_reducible repeat (first | refine blk_drewN ?_ _ | refine blk_drew ?_ | refine blk_alloc ?_ _)); refine blk_far ?_ (by have h_ := Kd.R_away HO_1.out (fun _ hk => hk.2.1); intro e_; exact h_ (by rw [e_]; rfl)) _; (with_reducible repeat (first | refine blk_drewN ?_ _ | refine blk_drew ?_ | refine blk_alloc ?_ _)); exact BK1119.out⟩
        have n4_ : Aside0 ((((((((w66.setCell ⟨go59, (a2_0 : Int).toNat * 7, none⟩ (.int .i64 t1123)).setCell ⟨go59, (a2_0 : Int).toNat * 7 + 1, none⟩ (.int .i64 t1124)).setCell ⟨go59, (a2_0 : Int).toNat * 7 + 2, none⟩ (.int .i64 t1125)).setCell ⟨go59, (a2_0 : Int).toNat * 7 + 3, none⟩ (.int .i64 t1126)).setCell ⟨go59, (a2_0 : Int).toNat * 7 + 4, none⟩ (.int .i64 t1127)).setCell ⟨go59, (a2_0 : Int).toNat * 7 + 5, none⟩ (.int .i64 t1128)).setCell ⟨go59, (a2_0 : Int).toNat * 7 + 6, none⟩ (.int .i64 t1129)).heap[gb1120]? = some (.cells #[.int .i64 1, .int .i64 x1121001_12, .int .i64 x1121002_12, .int .i64 x1121003_12, .int .i64 t1117, .int .i64 t1116, .int .i64 x1121006_12] 115 (0, 0))) := ⟨by (with_reducible repeat (first | refine blk_drewN ?_ _ | refine blk_drew ?_ | refine blk_alloc ?_ _)); refine blk_far ?_ (by have h_ := Kd.R_away HO_1.out (fun _ hk => hk.2.2); intro e_; exact h_ (by rw [e_]; rfl)) _; (with_reducible repeat (first | refine blk_drewN ?_ _ | refine blk_drew ?_ | refine blk_alloc ?_ _)); refine blk_far ?_ (by have h_ := Kd.R_away HO_1.out (fun _ hk => hk.2.2); intro e_; exact h_ (by rw [e_]; rfl)) _; (with_reducible repeat (first | refine blk_drewN ?_ _ | refine blk_drew ?_ | refine blk_alloc ?_ _)); refine blk_far ?_ (by have h_ := Kd.R_away HO_1.out (fun _ hk => hk.2.2); intro e_; exact h_ (by rw [e_]; rfl)) _; (with_reducible repeat (first | refine blk_drewN ?_ _ | refine blk_drew ?_ | refine blk_alloc ?_ _)); refine blk_far ?_ (by have h_ := Kd.R_away HO_1.out (fun _ hk => hk.2.2); intro e_; exact h_ (by rw [e_]; rfl)) _; (with_reducible repeat (first | refine blk_drewN ?_ _ | refine blk_drew ?_ | refine blk_alloc ?_ _)); refine blk_far ?_ (by have h_ := Kd.R_away HO_1.out (fun _ hk => hk.2.2); intro e_; exact h_ (by rw [e_]; rfl)) _; (with_reducible repeat (first | refine blk_drewN ?_ _ | refine blk_drew ?_ | refine blk_alloc ?_ _)); refine blk_far ?_ (by have h_ := Kd.R_away HO_1.out (fun _ hk => hk.2.2); intro e_; exact h_ (by rw [e_]; rfl)) _; (with_reducible repeat (first | refine blk_drewN ?_ _ | refine blk_drew ?_ | refine blk_alloc ?_ _)); refine blk_far ?_ (by have h_ := Kd.R_away HO_1.out (fun _ hk => hk.2.2); intro e_; exact h_ (by rw [e_]; rfl)) _; (with_reducible repeat (first | refine blk_drewN ?_ _ | refine blk_drew ?_ | refine blk_alloc ?_ _)); exact BK1120.out⟩
        have n5_ : Aside0 (Kept w (((((((w66.setCell ⟨go59, (a2_0 : Int).toNat * 7, none⟩ (.int .i64 t1123)).setCell ⟨go59, (a2_0 : Int).toNat * 7 + 1, none⟩ (.int .i64 t1124)).setCell ⟨go59, (a2_0 : Int).toNat * 7 + 2, none⟩ (.int .i64 t1125)).setCell ⟨go59, (a2_0 : Int).toNat * 7 + 3, none⟩ (.int .i64 t1126)).setCell ⟨go59, (a2_0 : Int).toNat * 7 + 4, none⟩ (.int .i64 t1127)).setCell ⟨go59, (a2_0 : Int).toNat * 7 + 5, none⟩ (.int .i64 t1128)).setCell ⟨go59, (a2_0 : Int).toNat * 7 + 6, none⟩ (.int .i64 t1129)) (fun k_ => P1_ k_)) := ⟨by repeat (first | (with_reducible first | exact HK.out | apply Kept.alloc | apply Kept.drewN | apply Kept.drew | refine Kept.setCell ?_ HMgo59.out _ | refine Kept.setCell ?_ HMgo59.out _ | refine Kept.setCell ?_ HMgo59.out _ | refine Kept.setCell ?_ HMgo59.out _ | refine Kept.setCell ?_ HMgo59.out _ | refine Kept.setCell ?_ HMgo59.out _ | refine Kept.setCell ?_ HMgo59.out _ | refine Kept.setCell ?_ (.inr GW1114.out) _ | refine Kept.setCell ?_ (.inr GW1115.out) _ | refine Kept.setCell ?_ (.inr GW1119.out) _ | refine Kept.setCell ?_ (.inr GW1120.out) _) | exact HK.out)⟩
        have n6_ : Aside0 (Below w0.heap.size w0 (((((((w66.setCell ⟨go59, (a2_0 : Int).toNat * 7, none⟩ (.int .i64 t1123)).setCell ⟨go59, (a2_0 : Int).toNat * 7 + 1, none⟩ (.int .i64 t1124)).setCell ⟨go59, (a2_0 : Int).toNat * 7 + 2, none⟩ (.int .i64 t1125)).setCell ⟨go59, (a2_0 : Int).toNat * 7 + 3, none⟩ (.int .i64 t1126)).setCell ⟨go59, (a2_0 : Int).toNat * 7 + 4, none⟩ (.int .i64 t1127)).setCell ⟨go59, (a2_0 : Int).toNat * 7 + 5, none⟩ (.int .i64 t1128)).setCell ⟨go59, (a2_0 : Int).toNat * 7 + 6, none⟩ (.int .i64 t1129))) := ⟨bb HB⟩
        generalize (((((((w66.setCell ⟨go59, (a2_0 : Int).toNat * 7, none⟩ (.int .i64 t1123)).setCell ⟨go59, (a2_0 : Int).toNat * 7 + 1, none⟩ (.int .i64 t1124)).setCell ⟨go59, (a2_0 : Int).toNat * 7 + 2, none⟩ (.int .i64 t1125)).setCell ⟨go59, (a2_0 : Int).toNat * 7 + 3, none⟩ (.int .i64 t1126)).setCell ⟨go59, (a2_0 : Int).toNat * 7 + 4, none⟩ (.int .i64 t1127)).setCell ⟨go59, (a2_0 : Int).toNat * 7 + 5, none⟩ (.int .i64 t1128)).setCell ⟨go59, (a2_0 : Int).toNat * 7 + 6, none⟩ (.int .i64 t1129)) = w68 at n0_ n1_ n2_ n3_ n4_ n5_ n6_ ⊢
        have HO_1 := n0_
        have BK1114 := n1_
        have BK1115 := n2_
        have BK1119 := n3_
        have BK1120 := n4_
        have HK := n5_
        have HB := n6_
        clear n0_ n1_ n2_ n3_ n4_ n5_ n6_
        replace HO_1 := dk (Kd.R_drew HO_1.out)
        replace BK1114 := dk (blk_drew BK1114.out)
        replace BK1115 := dk (blk_drew BK1115.out)
        replace BK1119 := dk (blk_drew BK1119.out)
        replace BK1120 := dk (blk_drew BK1120.out)
        replace HK := dk (Kept.drew HK.out)
        replace HB := dk (below_drew1 HB.out)
        have p1131 : 0 ≤ (a2_1 : Int) := oa
        have q1131 : a2_1 < (y1130.length : Int) := (by have h_ : (a2_1 : Int) < ((l1.length : Int) : Int) := oa; first | (have e_ := (Kd.R_reads' HO_1.out).1; omega) | simpa only [Ny1130.out, List.length_set] using h_)
        have ql1131 : ((a2_1 : Int) < ((l1.length : Int) : Int)) = True := eq_true (oa)
        obtain ⟨ad1131, e1131, hx1131_0, hx1131_1, hx1131_2, hx1131_3, hx1131_4, hx1131_5, hx1131_6⟩ := at_T115 (Kd.R_reads' HO_1.out).2.2 a2_1 p1131 q1131
        obtain rfl : (⟨go59, 0, none⟩ : Addr) = ad1131 := (by injection e1131)
        (first | simp only [add_plain] at hx1131_0 | simp only [add_at] at hx1131_0 | simp only [Addr.add, Nat.zero_add] at hx1131_0 | skip)
        (first | simp only [add_plain] at hx1131_1 | simp only [add_at] at hx1131_1 | simp only [Addr.add, Nat.zero_add] at hx1131_1 | skip)
        (first | simp only [add_plain] at hx1131_2 | simp only [add_at] at hx1131_2 | simp only [Addr.add, Nat.zero_add] at hx1131_2 | skip)
        (first | simp only [add_plain] at hx1131_3 | simp only [add_at] at hx1131_3 | simp only [Addr.add, Nat.zero_add] at hx1131_3 | skip)
        (first | simp only [add_plain] at hx1131_4 | simp only [add_at] at hx1131_4 | simp only [Addr.add, Nat.zero_add] at hx1131_4 | skip)
        (first | simp only [add_plain] at hx1131_5 | simp only [add_at] at hx1131_5 | simp only [Addr.add, Nat.zero_add] at hx1131_5 | skip)
        (first | simp only [add_plain] at hx1131_6 | simp only [add_at] at hx1131_6 | simp only [Addr.add, Nat.zero_add] at hx1131_6 | skip)
        replace p1131 := eq_true p1131
        replace q1131 := eq_true q1131
        refine start_ (n := 12) (S := fun w' => w'.cell? ⟨gb1115, 0, none⟩ = some (.int .i64 a2_0) ∧ w'.cell? ⟨gb1115, 1, none⟩ = some (.int .i64 a2_1) ∧ w'.cell? ⟨gb1115, 2, none⟩ = some (.int .i64 a2_2) ∧ w'.cell? ⟨gb1115, 3, none⟩ = some (.int .i64 a2_3) ∧ w'.cell? ⟨gb1115, 4, none⟩ = some (.int .i64 a2_4) ∧ w'.cell? ⟨gb1120, 0, none⟩ = some (.int .i64 1) ∧ w'.cell? ⟨gb1120, 1, none⟩ = some (.int .i64 x1121001_12) ∧ w'.cell? ⟨gb1120, 2, none⟩ = some (.int .i64 x1121002_12) ∧ w'.cell? ⟨gb1120, 3, none⟩ = some (.int .i64 x1121003_12) ∧ w'.cell? ⟨gb1120, 4, none⟩ = some (.int .i64 t1117) ∧ w'.cell? ⟨gb1120, 5, none⟩ = some (.int .i64 t1116) ∧ w'.cell? ⟨gb1120, 6, none⟩ = some (.int .i64 x1121006_12) ∧ w'.cell? ⟨go59, (a2_1).toNat * 7, none⟩ = some (.int .i64 ((rd_T115 y1130 a2_1).f0)) ∧ w'.cell? ⟨go59, (a2_1).toNat * 7 + 1, none⟩ = some (.int .i64 ((rd_T115 y1130 a2_1).f1)) ∧ w'.cell? ⟨go59, (a2_1).toNat * 7 + 2, none⟩ = some (.int .i64 ((rd_T115 y1130 a2_1).f2)) ∧ w'.cell? ⟨go59, (a2_1).toNat * 7 + 3, none⟩ = some (.int .i64 ((rd_T115 y1130 a2_1).f3)) ∧ w'.cell? ⟨go59, (a2_1).toNat * 7 + 4, none⟩ = some (.int .i64 ((rd_T115 y1130 a2_1).f4)) ∧ w'.cell? ⟨go59, (a2_1).toNat * 7 + 5, none⟩ = some (.int .i64 ((rd_T115 y1130 a2_1).f5)) ∧ w'.cell? ⟨go59, (a2_1).toNat * 7 + 6, none⟩ = some (.int .i64 ((rd_T115 y1130 a2_1).f6))) (ds := [11]) #[false, false, false, false, false, false, false, false, false, false, false, false] (by kernel_rfl) rfl rfl ⟨bc BK1115 0, bc BK1115 1, bc BK1115 2, bc BK1115 3, bc BK1115 4, bc BK1120 0, bc BK1120 1, bc BK1120 2, bc BK1120 3, bc BK1120 4, bc BK1120 5, bc BK1120 6, hx1131_0, hx1131_1, hx1131_2, hx1131_3, hx1131_4, hx1131_5, hx1131_6⟩ (fun hHeld => ?_); refine with_tabW spec_l06Add.tab22 spec_l06Add.bits22 (fun HT_ HW_ => ?_)
        generalize w68.drew = w69 at HO_1 BK1114 BK1115 BK1119 BK1120 HK HB HQ67 hx1131_0 hx1131_1 hx1131_2 hx1131_3 hx1131_4 hx1131_5 hx1131_6 hHeld ⊢
        refine pz_ 0 68 ?_
        refine pz_ 1 69 ?_
        refine pz_ 3 71 ?_
        refine pz_ 4 72 ?_
        refine tk_ 2 70 ?_
        refine tk_ 5 73 ?_
        refine pz_ 6 74 ?_
        refine tk_ 7 75 ?_
        refine tk_ 8 76 ?_
        refine on_ 9 (some 77) (fun K hK => ?_)
        refine ga_ Try.func170 #[.agg #[.int .i64 ((rd_T115 y1130 a2_1).f0), .int .i64 ((rd_T115 y1130 a2_1).f1), .int .i64 ((rd_T115 y1130 a2_1).f2), .int .i64 ((rd_T115 y1130 a2_1).f3), .int .i64 ((rd_T115 y1130 a2_1).f4), .int .i64 ((rd_T115 y1130 a2_1).f5), .int .i64 ((rd_T115 y1130 a2_1).f6)], .agg #[.int .i64 1, .int .i64 x1121001_12, .int .i64 x1121002_12, .int .i64 x1121003_12, .int .i64 t1117, .int .i64 t1116, .int .i64 x1121006_12]] ?_
        with_reducible refine (spec_AddRows.calls ((rd_T115 y1130 a2_1).f0) ((rd_T115 y1130 a2_1).f1) ((rd_T115 y1130 a2_1).f2) ((rd_T115 y1130 a2_1).f3) ((rd_T115 y1130 a2_1).f4) ((rd_T115 y1130 a2_1).f5) ((rd_T115 y1130 a2_1).f6) 1 x1121001_12 x1121002_12 x1121003_12 t1117 t1116 x1121006_12 t1132 t1133 t1134 t1135 t1136 t1137 t1138 _ A62.out).mono ?_
        rintro e w70 ⟨rfl, hb⟩
        have HS12_ := hx_ hb hHeld.2.2.2.2.2.2.2.2.2.2.2.2.1
        have HS13_ := hx_ hb hHeld.2.2.2.2.2.2.2.2.2.2.2.2.2.1
        have HS14_ := hx_ hb hHeld.2.2.2.2.2.2.2.2.2.2.2.2.2.2.1
        have HS15_ := hx_ hb hHeld.2.2.2.2.2.2.2.2.2.2.2.2.2.2.2.1
        have HS16_ := hx_ hb hHeld.2.2.2.2.2.2.2.2.2.2.2.2.2.2.2.2.1
        have HS17_ := hx_ hb hHeld.2.2.2.2.2.2.2.2.2.2.2.2.2.2.2.2.2.1
        have HS18_ := hx_ hb hHeld.2.2.2.2.2.2.2.2.2.2.2.2.2.2.2.2.2.2
        refine ⟨_, rfl, ?_⟩
        replace HO_1 := kr HO_1 hb
        replace BK1114 := kb BK1114 hb
        replace BK1115 := kb BK1115 hb
        replace BK1119 := kb BK1119 hb
        replace BK1120 := kb BK1120 hb
        replace HK := dk (Kept.below (S := (fun k_ => P1_ k_)) (by repeat (first | (with_reducible first | exact HK.out | apply Kept.alloc | apply Kept.drewN | apply Kept.drew | refine Kept.setCell ?_ (.inr GW1114.out) _ | refine Kept.setCell ?_ (.inr GW1115.out) _ | refine Kept.setCell ?_ (.inr GW1119.out) _ | refine Kept.setCell ?_ (.inr GW1120.out) _) | exact HK.out)) hb)
        replace HB := hs_ HB hb
        have p63 : 0 ≤ (a2_1 : Int) := oa
        have q63 : (a2_1 : Int) < ((l1.length : Int) : Int) := oa
        obtain ⟨cl59_, HG59_⟩ := Kd.R_typed HO_1.out go59 rfl
        have GG59 := dk HG59_
        clear HG59_
        obtain ⟨ce63, hcl63, hM63, hcc63, hfr63⟩ := Kd.R_elem HO_1.out z115 (a2_1 : Int) p63 q63
        obtain rfl := k115_openM hM63
        have hx63_0 : World.cell? _ ⟨go59, (a2_1 : Int).toNat * 7, none⟩ = some (.int .i64 ((rd_T115 y1130 a2_1).f0)) := hcc63 0 _ rfl
        have hx63_1 : World.cell? _ ⟨go59, (a2_1 : Int).toNat * 7 + 1, none⟩ = some (.int .i64 ((rd_T115 y1130 a2_1).f1)) := hcc63 1 _ rfl
        have hx63_2 : World.cell? _ ⟨go59, (a2_1 : Int).toNat * 7 + 2, none⟩ = some (.int .i64 ((rd_T115 y1130 a2_1).f2)) := hcc63 2 _ rfl
        have hx63_3 : World.cell? _ ⟨go59, (a2_1 : Int).toNat * 7 + 3, none⟩ = some (.int .i64 ((rd_T115 y1130 a2_1).f3)) := hcc63 3 _ rfl
        have hx63_4 : World.cell? _ ⟨go59, (a2_1 : Int).toNat * 7 + 4, none⟩ = some (.int .i64 ((rd_T115 y1130 a2_1).f4)) := hcc63 4 _ rfl
        have hx63_5 : World.cell? _ ⟨go59, (a2_1 : Int).toNat * 7 + 5, none⟩ = some (.int .i64 ((rd_T115 y1130 a2_1).f5)) := hcc63 5 _ rfl
        have hx63_6 : World.cell? _ ⟨go59, (a2_1 : Int).toNat * 7 + 6, none⟩ = some (.int .i64 ((rd_T115 y1130 a2_1).f6)) := hcc63 6 _ rfl
        have hf63_0 : World.frozen? _ ⟨go59, (a2_1 : Int).toNat * 7, none⟩ = false := hfr63 0
        have hf63_1 : World.frozen? _ ⟨go59, (a2_1 : Int).toNat * 7 + 1, none⟩ = false := hfr63 1
        have hf63_2 : World.frozen? _ ⟨go59, (a2_1 : Int).toNat * 7 + 2, none⟩ = false := hfr63 2
        have hf63_3 : World.frozen? _ ⟨go59, (a2_1 : Int).toNat * 7 + 3, none⟩ = false := hfr63 3
        have hf63_4 : World.frozen? _ ⟨go59, (a2_1 : Int).toNat * 7 + 4, none⟩ = false := hfr63 4
        have hf63_5 : World.frozen? _ ⟨go59, (a2_1 : Int).toNat * 7 + 5, none⟩ = false := hfr63 5
        have hf63_6 : World.frozen? _ ⟨go59, (a2_1 : Int).toNat * 7 + 6, none⟩ = false := hfr63 6
        clear hcl63 hcc63 hfr63
        replace p63 := eq_true p63
        replace q63 := eq_true q63
        obtain ⟨ce71, hcl71, hM71, hcc71, hfr71⟩ := Kd.R_elem HO_1.out z115 (a2_1 : Int) (oa) (by have h_ : (a2_1 : Int) < ((l1.length : Int) : Int) := oa; first | exact h_ | (have e_ := (Kd.R_reads' HO_1.out).1; omega) | simpa using h_)
        obtain rfl := k115_openM hM71
        have HP71 := (Kd.R_seg HO_1.out (a2_1 : Int) (oa) (by have h_ : (a2_1 : Int) < ((l1.length : Int) : Int) := oa; first | exact h_ | (have e_ := (Kd.R_reads' HO_1.out).1; omega) | simpa using h_) (seg := [.int .i64 t1132, .int .i64 t1133, .int .i64 t1134, .int .i64 t1135, .int .i64 t1136, .int .i64 t1137, .int .i64 t1138]) (j := 0) hcl71 hcc71 (show 7 ≤ 7 from by decide) (x' := (⟨t1132, t1133, t1134, t1135, t1136, t1137, t1138⟩ : S115)) (k115_mkM _ _ _ (⟨t1132, t1133, t1134, t1135, t1136, t1137, t1138⟩ : S115) ) (fun _ hk => hk)).1
        rw [← Ny1139.out] at HP71
        have HQ71 := dk HP71
        clear hcl71 hcc71 hfr71 hM71 HP71
        refine hK.out _ _ ⟨bc BK1115 0, bc BK1115 1, bc BK1115 2, bc BK1115 3, bc BK1115 4, bc BK1120 0, bc BK1120 1, bc BK1120 2, bc BK1120 3, bc BK1120 4, bc BK1120 5, bc BK1120 6, HS12_, HS13_, HS14_, HS15_, HS16_, HS17_, HS18_⟩ (fun hHeld => ?_)
        clear hK K
        refine no_ ?_
        refine pz_ 10 78 ?_
        refine last_ (i := 11) (N := none) #[true, true, true, true, true, true, true, true, true, true, true, true] rfl rfl (one_of HT_.out (by kernel_rfl)) (by decide) (fun K hK => ?_)
        refine skip_ (w1 := ?_) (by rfl) rfl ?_ ?_
        rotate_left
        ·go_simp
         rfl
        refine hK.out _ _ ?_
        clear hK K
        refine done_ (done_of HT_.out (by kernel_rfl)) ?_
        try go_wp2
        first | go_end0 | ((try simp only [Exit.inBlock, Exit.then]); refine bodyPost_ret (results_none rfl _ _ _) rfl ?_)
        exact ⟨ee, ro HQ71 (fun _ hk => hk.1), bb HB, by repeat (first | (with_reducible first | exact HK.out | apply Kept.alloc | apply Kept.drewN | apply Kept.drew | refine Kept.setCell ?_ HMgo59.out _ | refine Kept.setCell ?_ HMgo59.out _ | refine Kept.setCell ?_ HMgo59.out _ | refine Kept.setCell ?_ HMgo59.out _ | refine Kept.setCell ?_ HMgo59.out _ | refine Kept.setCell ?_ HMgo59.out _ | refine Kept.setCell ?_ HMgo59.out _ | refine Kept.setCell ?_ (.inr GW1114.out) _ | refine Kept.setCell ?_ (.inr GW1115.out) _ | refine Kept.setCell ?_ (.inr GW1119.out) _ | refine Kept.setCell ?_ (.inr GW1120.out) _) | exact HK.out)⟩
       ·rw [if_neg c61] at H
        exact absurd H (by simp)
      ·rw [if_neg c60] at H
       exact absurd H (by simp)
     ·rw [if_neg c57] at H
      exact absurd H (by simp)
    ·rw [if_neg c56] at H
     exact absurd H (by simp)
 ·replace c11 := Bool.eq_false_iff.mpr c11
  subst c11
  rw [if_neg (show ¬ (false = true) by decide)] at H
  obtain rfl := Option.some.inj H
  go_wp2
  first | go_end0 | ((try simp only [Exit.inBlock, Exit.then]); refine bodyPost_ret (results_none rfl _ _ _) rfl ?_)
  exact ⟨ee, rr HO1, bb HB, by repeat (first | (with_reducible first | exact HK.out | apply Kept.alloc | apply Kept.drewN | apply Kept.drew | refine Kept.setCell ?_ (.inr GW1114.out) _ | refine Kept.setCell ?_ (.inr GW1115.out) _) | exact HK.out)⟩
def spec_l06Among.l0 : Nat → List Int → Bool → List (S115) → List (S95) → Int → Int → Int → Int → Int → List Int → Bool → Option ((List (S115)))
 | 0, _, _, _, _, _, _, _, _, _, _, _ => none
 | k + 1, x3, x4, x11, x16, x17, x18, x1141000, x1141001, x1141002, x1141003, x1141004 => if x18 < x17 then (if 0 ≤ x18 then (if x18 < (x16.length : Int) then (if x4 = true then ((spec_l06Add.f k x1141000 x1141001 x1141002 x1141003 x1141004 x11 ((rd_T95 x16 x18).f0) ((rd_T95 x16 x18).f1) ((rd_T95 x16 x18).f2) ((rd_T95 x16 x18).f3) ((rd_T95 x16 x18).f4)).bind fun t1146 => (spec_l06Among.l0 k x3 x4 t1146 x16 x17 (wrap64 (x18 + 1)) x1141000 x1141001 x1141002 x1141003 x1141004)) else ((spec_l02Has.f k x3 ((rd_T95 x16 x18).f0)).bind fun t1147 => (if t1147 = true then ((spec_l02Has.f k x3 ((rd_T95 x16 x18).f1)).bind fun t1148 => (if t1148 = true then ((spec_l06Add.f k x1141000 x1141001 x1141002 x1141003 x1141004 x11 ((rd_T95 x16 x18).f0) ((rd_T95 x16 x18).f1) ((rd_T95 x16 x18).f2) ((rd_T95 x16 x18).f3) ((rd_T95 x16 x18).f4)).bind fun t1149 => (spec_l06Among.l0 k x3 x4 t1149 x16 x17 (wrap64 (x18 + 1)) x1141000 x1141001 x1141002 x1141003 x1141004)) else (spec_l06Among.l0 k x3 x4 x11 x16 x17 (wrap64 (x18 + 1)) x1141000 x1141001 x1141002 x1141003 x1141004))) else (spec_l06Among.l0 k x3 x4 x11 x16 x17 (wrap64 (x18 + 1)) x1141000 x1141001 x1141002 x1141003 x1141004)))) else (none)) else (none)) else (some x11)
def spec_l06Among.f (k : Nat) (a0_0 : Int) (a0_1 : Int) (a0_2 : Int) (l0_3 : List Int) (a0_4 : Bool) (a1 : Int) (l2 : List (S95)) (l3 : List Int) (a4 : Bool) : Option ((List (S115))) := if 0 ≤ a1 then (if (a1 : Int).toNat ≤ 5026338869833 then (spec_l06Among.l0 k l3 a4 (List.replicate (a1 : Int).toNat z115) l2 (l2.length : Int) 0 a0_0 a0_1 a0_2 l0_3 a0_4) else (none)) else (none)
theorem spec_l06Among.calls (k : Nat) (a0_0 : Int) (a0_1 : Int) (a0_2 : Int) (A0_3 : Option Addr) (c0_3 : Nat) (l0_3 : List Int) (a0_4 : Bool) (a1 : Int) (A2 : Option Addr) (c2 : Nat) (l2 : List (S95)) (A3 : Option Addr) (c3 : Nat) (l3 : List Int) (a4 : Bool) (r : List (S115)) (w : World) (hr0_3 : Kd.C (Kd.int .i64) w A0_3 l0_3.length l0_3) (hc0_3 : l0_3.length ≤ c0_3) (hr2 : Kd.C k95 w A2 l2.length l2) (hc2 : l2.length ≤ c2) (hr3 : Kd.C (Kd.int .i64) w A3 l3.length l3) (hc3 : l3.length ≤ c3) (h : spec_l06Among.f k a0_0 a0_1 a0_2 l0_3 a0_4 a1 l2 l3 a4 = some r) :
  Calls Try.prog 82 #[.agg #[.int .i64 a0_0, .int .i64 a0_1, .int .i64 a0_2, .slice A0_3 l0_3.length c0_3, .bool a0_4], .int .i64 a1, .slice A2 l2.length c2, .slice A3 l3.length c3, .bool a4] w fun e w' => ∃ v0_ : Value, e = .returned (v0_) ∧ Kd.R k115 115 w' w.heap.size (fun _ => True) v0_ r ∧ Below w.heap.size w w' := by
 have hu33 := Try.underlying33
 have hu95 := Try.underlying95
 have HR0_3 := dk hr0_3
 have HC0_3 := dk hc0_3
 clear hr0_3 hc0_3
 have HR2 := dk hr2
 have HC2 := dk hc2
 clear hr2 hc2
 have HR3 := dk hr3
 have HC3 := dk hc3
 clear hr3 hc3
 have HB := hb0 w
 have H : (if 0 ≤ a1 then (if (a1 : Int).toNat ≤ 5026338869833 then (spec_l06Among.l0 k l3 a4 (List.replicate (a1 : Int).toNat z115) l2 (l2.length : Int) 0 a0_0 a0_1 a0_2 l0_3 a0_4) else (none)) else (none)) = some r := h
 clear h
 by_cases c6 : 0 ≤ a1
 ·rw [if_pos c6] at H
  have c6b0 := eq_true c6
  have c6b1 := decide_eq_true c6
  clear c6
  by_cases c7 : (a1 : Int).toNat ≤ 5026338869833
  ·rw [if_pos c7] at H
   have c7b0 := eq_true c7
   have c7b1 := decide_eq_true c7
   clear c7
   obtain ⟨y1141, hy1141⟩ : ∃ y_ : List (S115), y_ = (List.replicate (a1 : Int).toNat z115) := ⟨_, rfl⟩
   replace H : (spec_l06Among.l0 k l3 a4 y1141 l2 (l2.length : Int) 0 a0_0 a0_1 a0_2 l0_3 a0_4) = some r := by first | (rw [hy1141]; with_reducible exact H) | (have H2_ := (Option.bind_some _ _).symm.trans H; rw [hy1141]; with_reducible exact H2_) | (have H2_ := (Option.bind_some _ _).symm.trans H; with_reducible exact H2_) | with_reducible exact H | (rw [hy1141]; exact H) | exact H
   have Ny1141 := dk hy1141
   clear hy1141
   have H' := dk H
   clear H
   go_enter Try.func82, Try.ntmps82
   go_wp2_with (first | ((with_reducible refine gdst_ 5 rfl ?_); refine bx (N := 5) (cs := #[.int .i64 a0_0, .int .i64 a0_1, .int .i64 a0_2, .slice A0_3 l0_3.length c0_3, .bool a0_4]) (t := 33) ?_; intro gb1140 hg w8 hbox hb; have BK1140 := dk (hbox); have GW1140 := gs hg HB; have GE1140 := gs hg HB; replace HB := hs_ HB hb; clear hb hbox hg) | ((with_reducible refine gdst_ 15 rfl ?_); refine Kd.R_make k115 _ 115 rfl (N := 15) rfl 112 _ _ rfl a1 rfl rfl Try.underlying112 (.agg #[(.int .i64 0), (.int .i64 0), (.int .i64 0), (.int .i64 0), (.int .i64 0), (.int .i64 0), (.int .i64 0)]) 56 info115 rfl (by decide) (by omega) z115 (ok := fun _ => True) (okp := fun _ => True) (k115_mkM _ _ _ z115 ) (fun _ hk => hk) trivial (oa) (Nat.le_trans (Nat.mul_le_mul_right _ (oa : a1.toNat ≤ 5026338869833)) (by omega)) (Below.refl _ _) (Nat.le_refl _) ?_; intro v1142 w9 ho10 hb hg_ hnew_; clear hg_ hnew_; (first | rw [← Ny1141.out] at ho10 | (simp only [Int.reduceToNat] at ho10; rw [← Ny1141.out] at ho10)); have HO1143 := kl ho10 HB; replace BK1140 := kb BK1140 hb; replace HB := hs_ HB hb; clear hb ho10))
   go_loopg [18] k (fun kq v18 w' => ∃ (x11_1 : List (S115)) (x18_1 : Int), v18 = .int .i64 x18_1 ∧ Aside0 (spec_l06Among.l0 kq l3 a4 x11_1 l2 (l2.length : Int) x18_1 a0_0 a0_1 a0_2 l0_3 a0_4 = some r) ∧ Aside0 (kq ≤ k) ∧ Aside0 (Kd.R k115 115 w' w.heap.size (fun _ => True) v1142 x11_1) ∧ Aside0 (w'.heap[gb1140]? = some (.cells #[.int .i64 a0_0, .int .i64 a0_1, .int .i64 a0_2, (.slice A0_3 l0_3.length c0_3), .bool a0_4] 33 (0, 0))) ∧ Aside0 (Below w.heap.size w w'))
   case atStart => exact ⟨(y1141), (0), e2_, H', ⟨Nat.le_refl _⟩, ⟨rr HO1143⟩, ⟨bk BK1140⟩, ⟨bb HB⟩⟩
   case round =>
    clear H'
    obtain ⟨x11_1, x18_1, rfl, HA, HK1, HO_11, BK1140, HB⟩ := hrel
    cases gk with
    | zero => exact absurd HA.out (by simp [spec_l06Among.l0])
    | succ k1 =>
     have H := HA.out
     clear HA
     simp only [spec_l06Among.l0] at H
     by_cases c11 : x18_1 < (l2.length : Int)
     ·rw [if_pos c11] at H
      have c11b0 := decide_eq_true c11
      clear c11
      by_cases c12 : 0 ≤ x18_1
      ·rw [if_pos c12] at H
       have c12b0 := decide_eq_true c12
       clear c12
       by_cases c13 : x18_1 < (l2.length : Int)
       ·rw [if_pos c13] at H
        have c13b0 := decide_eq_true c13
        clear c13
        by_cases c14 : a4 = true
        ·subst c14
         rw [if_pos rfl] at H
         replace H := Option.bind_eq_some_iff.mp H
         obtain ⟨t1146, A150, H⟩ := H
         try dsimp only at H
         have A15 := dk A150
         clear A150
         have H' := dk H
         clear H
         have p1144 : 0 ≤ (x18_1 : Int) := oa
         have q1144 : x18_1 < (l2.length : Int) := oa
         obtain ⟨ad1144, e1144, hx1144_0, hx1144_1, hx1144_2, hx1144_3, hx1144_4⟩ := at_T95 HR2.out x18_1 p1144 q1144
         cases e1144
         replace hx1144_0 := hc HB hx1144_0
         replace hx1144_1 := hc HB hx1144_1
         replace hx1144_2 := hc HB hx1144_2
         replace hx1144_3 := hc HB hx1144_3
         replace hx1144_4 := hc HB hx1144_4
         replace p1144 := eq_true p1144
         replace q1144 := eq_true q1144
         go_wp2_with (first | ((with_reducible refine gdst_ 13 rfl ?_); refine bx (N := 13) (cs := #[.int .i64 0, .int .i64 0, .int .i64 0, .int .i64 0, .int .i64 0]) (t := 95) ?_; intro gb1145 hg w16 hbox hb; replace HO_11 := kr HO_11 hb; have BK1145 := dk (hbox); have GW1145 := gs hg HB; have GE1145 := gs hg HB; replace HB := hs_ HB hb; have NB1140_1145 := gn hg BK1140; have NB1145_1140 := gm hg BK1140; replace BK1140 := kb BK1140 hb; clear hb hbox hg; have hnb17 := NB1145_1140.out; have hnc17 := NB1140_1145.out; have ⟨z18_0, z18_1, z18_2, z18_3, z18_4, v18_0, v18_1, v18_2, v18_3, v18_4⟩ := rz5 BK1145) | ((with_reducible refine gate_store (t := 95) (p := 13) rfl ?_); refine store_event (t := 95) (p := 13) (v := ?vo_w19) (w1 := (((((w16.setCell ⟨gb1145, 0, none⟩ (.int .i64 ((rd_T95 l2 x18_1).f0))).setCell ⟨gb1145, 1, none⟩ (.int .i64 ((rd_T95 l2 x18_1).f1))).setCell ⟨gb1145, 2, none⟩ (.int .i64 ((rd_T95 l2 x18_1).f2))).setCell ⟨gb1145, 3, none⟩ (.int .i64 ((rd_T95 l2 x18_1).f3))).setCell ⟨gb1145, 4, none⟩ (.int .i64 ((rd_T95 l2 x18_1).f4)))) ?hg ?ho ?hn ?hr ?_; (case ho => rfl); (case hg => rfl); (case hn => rfl); (case hr => first | (go_simp; done) | (go_simp; rfl)); intro w19 hw; replace HO_11 : Aside0 (Kd.R k115 115 w19 w.heap.size (fun _ => True) v1142 x11_1) := ⟨(by rw [hw]; exact (rf HO_11 BK1145 (fun _ hk => trivial)))⟩; replace BK1140 : Aside0 (w19.heap[gb1140]? = some (.cells #[.int .i64 a0_0, .int .i64 a0_1, .int .i64 a0_2, .slice A0_3 l0_3.length c0_3, .bool a0_4] 33 (0, 0))) := ⟨(by rw [hw]; exact (bf NB1140_1145.out BK1140))⟩; replace BK1145 : Aside0 (w19.heap[gb1145]? = some (.cells #[.int .i64 ((rd_T95 l2 x18_1).f0), .int .i64 ((rd_T95 l2 x18_1).f1), .int .i64 ((rd_T95 l2 x18_1).f2), .int .i64 ((rd_T95 l2 x18_1).f3), .int .i64 ((rd_T95 l2 x18_1).f4)] 95 (0, 0))) := ⟨(by rw [hw]; exact (bp BK1145))⟩; replace HB : Aside0 (Below w.heap.size w w19) := ⟨(by rw [hw]; exact (bb HB))⟩; clear hw; have ⟨z20_0, z20_1, z20_2, z20_3, z20_4, v20_0, v20_1, v20_2, v20_3, v20_4⟩ := rz5 BK1140; have ⟨z21_0, z21_1, z21_2, z21_3, z21_4, v21_0, v21_1, v21_2, v21_3, v21_4⟩ := rz5 BK1145; obtain ⟨Ao22, co22, eo22⟩ := Kd.R_slice HO_11.out; subst eo22) | ((with_reducible refine gcallee_ 134 rfl ?_); refine gl (some 38) Try.func134 #[.agg #[.int .i64 a0_0, .int .i64 a0_1, .int .i64 a0_2, .slice A0_3 l0_3.length c0_3, .bool a0_4], .slice Ao22 x11_1.length co22, .agg #[.int .i64 ((rd_T95 l2 x18_1).f0), .int .i64 ((rd_T95 l2 x18_1).f1), .int .i64 ((rd_T95 l2 x18_1).f2), .int .i64 ((rd_T95 l2 x18_1).f3), .int .i64 ((rd_T95 l2 x18_1).f4)]] ?_; (with_reducible refine (spec_l06Add.calls k1 a0_0 a0_1 a0_2 _ _ l0_3 a0_4 (fun k_ => some k_ = (.slice Ao22 x11_1.length co22 : Value).ownBlock) (.slice Ao22 x11_1.length co22) x11_1 ((rd_T95 l2 x18_1).f0) ((rd_T95 l2 x18_1).f1) ((rd_T95 l2 x18_1).f2) ((rd_T95 l2 x18_1).f3) ((rd_T95 l2 x18_1).f4) t1146 w _ ?side1 ?side2 ?side3 ?side4 A15.out).mono ?_); (case side1 => exact bb HB); (case side2 => exact Kd.C_kept_came (Kd.heap_int .i64) HR0_3.out (bb HB) (fun k_ hs_ => (fun e_ => Kd.R_base HO_11.out k_ e_.symm) hs_)); (case side3 => exact HC0_3.out); (case side4 => exact Kd.R_tight rfl HO_11.out); rintro e w23 ⟨rfl, hy0, hb, hkp⟩; refine ⟨_, rfl, ?_⟩; replace BK1140 := dk (blk_kept (bk BK1140) hkp (fun hs_ => (fun e_ => (Kd.R_ne HO_11.out BK1140.out (by decide)) e_) hs_)); replace BK1145 := dk (blk_kept (bk BK1145) hkp (fun hs_ => (fun e_ => (Kd.R_ne HO_11.out BK1145.out (by decide)) e_) hs_)); replace HO_11 := dk (Kd.R_reok rfl hy0 (fun k_ e_ => HO_11.out.1 k_ e_)); replace HB := dk (hb)))
         go_roundg k1
         case measure => have := HK1.out; omega
         case rel => exact ⟨(t1146), (wrap64 (x18_1 + 1)), e2_, H', ⟨by have := HK1.out; omega⟩, ⟨rr HO_11⟩, ⟨bk BK1140⟩, ⟨bb HB⟩⟩
        ·replace c14 := Bool.eq_false_iff.mpr c14
         subst c14
         rw [if_neg (show ¬ (false = true) by decide)] at H
         replace H := Option.bind_eq_some_iff.mp H
         obtain ⟨t1147, A240, H⟩ := H
         try dsimp only at H
         have A24 := dk A240
         clear A240
         by_cases c25 : t1147 = true
         ·subst c25
          rw [if_pos rfl] at H
          replace H := Option.bind_eq_some_iff.mp H
          obtain ⟨t1148, A260, H⟩ := H
          try dsimp only at H
          have A26 := dk A260
          clear A260
          by_cases c27 : t1148 = true
          ·subst c27
           rw [if_pos rfl] at H
           replace H := Option.bind_eq_some_iff.mp H
           obtain ⟨t1149, A280, H⟩ := H
           try dsimp only at H
           have A28 := dk A280
           clear A280
           have H' := dk H
           clear H
           have p1144 : 0 ≤ (x18_1 : Int) := oa
           have q1144 : x18_1 < (l2.length : Int) := oa
           obtain ⟨ad1144, e1144, hx1144_0, hx1144_1, hx1144_2, hx1144_3, hx1144_4⟩ := at_T95 HR2.out x18_1 p1144 q1144
           cases e1144
           replace hx1144_0 := hc HB hx1144_0
           replace hx1144_1 := hc HB hx1144_1
           replace hx1144_2 := hc HB hx1144_2
           replace hx1144_3 := hc HB hx1144_3
           replace hx1144_4 := hc HB hx1144_4
           replace p1144 := eq_true p1144
           replace q1144 := eq_true q1144
           go_wp2_with (first | ((with_reducible refine gdst_ 13 rfl ?_); refine bx (N := 13) (cs := #[.int .i64 0, .int .i64 0, .int .i64 0, .int .i64 0, .int .i64 0]) (t := 95) ?_; intro gb1145 hg w29 hbox hb; replace HO_11 := kr HO_11 hb; have BK1145 := dk (hbox); have GW1145 := gs hg HB; have GE1145 := gs hg HB; replace HB := hs_ HB hb; have NB1140_1145 := gn hg BK1140; have NB1145_1140 := gm hg BK1140; replace BK1140 := kb BK1140 hb; clear hb hbox hg; have hnb30 := NB1145_1140.out; have hnc30 := NB1140_1145.out; have ⟨z31_0, z31_1, z31_2, z31_3, z31_4, v31_0, v31_1, v31_2, v31_3, v31_4⟩ := rz5 BK1145) | ((with_reducible refine gate_store (t := 95) (p := 13) rfl ?_); refine store_event (t := 95) (p := 13) (v := ?vo_w32) (w1 := (((((w29.setCell ⟨gb1145, 0, none⟩ (.int .i64 ((rd_T95 l2 x18_1).f0))).setCell ⟨gb1145, 1, none⟩ (.int .i64 ((rd_T95 l2 x18_1).f1))).setCell ⟨gb1145, 2, none⟩ (.int .i64 ((rd_T95 l2 x18_1).f2))).setCell ⟨gb1145, 3, none⟩ (.int .i64 ((rd_T95 l2 x18_1).f3))).setCell ⟨gb1145, 4, none⟩ (.int .i64 ((rd_T95 l2 x18_1).f4)))) ?hg ?ho ?hn ?hr ?_; (case ho => rfl); (case hg => rfl); (case hn => rfl); (case hr => first | (go_simp; done) | (go_simp; rfl)); intro w32 hw; replace HO_11 : Aside0 (Kd.R k115 115 w32 w.heap.size (fun _ => True) v1142 x11_1) := ⟨(by rw [hw]; exact (rf HO_11 BK1145 (fun _ hk => trivial)))⟩; replace BK1140 : Aside0 (w32.heap[gb1140]? = some (.cells #[.int .i64 a0_0, .int .i64 a0_1, .int .i64 a0_2, .slice A0_3 l0_3.length c0_3, .bool a0_4] 33 (0, 0))) := ⟨(by rw [hw]; exact (bf NB1140_1145.out BK1140))⟩; replace BK1145 : Aside0 (w32.heap[gb1145]? = some (.cells #[.int .i64 ((rd_T95 l2 x18_1).f0), .int .i64 ((rd_T95 l2 x18_1).f1), .int .i64 ((rd_T95 l2 x18_1).f2), .int .i64 ((rd_T95 l2 x18_1).f3), .int .i64 ((rd_T95 l2 x18_1).f4)] 95 (0, 0))) := ⟨(by rw [hw]; exact (bp BK1145))⟩; replace HB : Aside0 (Below w.heap.size w w32) := ⟨(by rw [hw]; exact (bb HB))⟩; clear hw; have ⟨z33_0, z33_1, z33_2, z33_3, z33_4, v33_0, v33_1, v33_2, v33_3, v33_4⟩ := rz5 BK1145) | (go_at_call 87; (with_reducible refine (spec_l02Has.calls k1 _ _ l3 ((rd_T95 l2 x18_1).f0) true _ ?side1 ?side2 A24.out).mono ?_); (case side1 => exact cc HR3 HB); (case side2 => exact HC3.out); rintro e w' ⟨rfl, ⟨nd, rfl⟩⟩) | (go_at_call 87; (with_reducible refine (spec_l02Has.calls k1 _ _ l3 ((rd_T95 l2 x18_1).f1) true _ ?side1 ?side2 A26.out).mono ?_); (case side1 => repeat (first | exact (Kd.C_below HR3.out (bb HB)) | (with_reducible refine Kd.C_alloc ?_ _) | (with_reducible refine Kd.C_drewN ?_ _) | (with_reducible refine Kd.C_drew ?_))); (case side2 => exact HC3.out); rintro e w' ⟨rfl, ⟨nd, rfl⟩⟩; have ⟨z34_0, z34_1, z34_2, z34_3, z34_4, v34_0, v34_1, v34_2, v34_3, v34_4⟩ := rz5 BK1140; obtain ⟨Ao35, co35, eo35⟩ := Kd.R_slice HO_11.out; subst eo35) | ((with_reducible refine gcallee_ 134 rfl ?_); refine gl (some 38) Try.func134 #[.agg #[.int .i64 a0_0, .int .i64 a0_1, .int .i64 a0_2, .slice A0_3 l0_3.length c0_3, .bool a0_4], .slice Ao35 x11_1.length co35, .agg #[.int .i64 ((rd_T95 l2 x18_1).f0), .int .i64 ((rd_T95 l2 x18_1).f1), .int .i64 ((rd_T95 l2 x18_1).f2), .int .i64 ((rd_T95 l2 x18_1).f3), .int .i64 ((rd_T95 l2 x18_1).f4)]] ?_; (with_reducible refine (spec_l06Add.calls k1 a0_0 a0_1 a0_2 _ _ l0_3 a0_4 (fun k_ => some k_ = (.slice Ao35 x11_1.length co35 : Value).ownBlock) (.slice Ao35 x11_1.length co35) x11_1 ((rd_T95 l2 x18_1).f0) ((rd_T95 l2 x18_1).f1) ((rd_T95 l2 x18_1).f2) ((rd_T95 l2 x18_1).f3) ((rd_T95 l2 x18_1).f4) t1149 w _ ?side1 ?side2 ?side3 ?side4 A28.out).mono ?_); (case side1 => exact bb HB); (case side2 => exact Kd.C_kept_came (Kd.heap_int .i64) HR0_3.out (bb HB) (fun k_ hs_ => (fun e_ => Kd.R_base HO_11.out k_ e_.symm) hs_)); (case side3 => exact HC0_3.out); (case side4 => exact Kd.R_tight rfl HO_11.out); rintro e w36 ⟨rfl, hy0, hb, hkp⟩; refine ⟨_, rfl, ?_⟩; replace BK1140 := dk (blk_kept (bk BK1140) hkp (fun hs_ => (fun e_ => (Kd.R_ne HO_11.out BK1140.out (by decide)) e_) hs_)); replace BK1145 := dk (blk_kept (bk BK1145) hkp (fun hs_ => (fun e_ => (Kd.R_ne HO_11.out BK1145.out (by decide)) e_) hs_)); replace HO_11 := dk (Kd.R_reok rfl hy0 (fun k_ e_ => HO_11.out.1 k_ e_)); replace HB := dk (hb)))
           go_roundg k1
           case measure => have := HK1.out; omega
           case rel => exact ⟨(t1149), (wrap64 (x18_1 + 1)), e2_, H', ⟨by have := HK1.out; omega⟩, ⟨rr HO_11⟩, ⟨bk BK1140⟩, ⟨bb HB⟩⟩
          ·replace c27 := Bool.eq_false_iff.mpr c27
           subst c27
           rw [if_neg (show ¬ (false = true) by decide)] at H
           have H' := dk H
           clear H
           have p1144 : 0 ≤ (x18_1 : Int) := oa
           have q1144 : x18_1 < (l2.length : Int) := oa
           obtain ⟨ad1144, e1144, hx1144_0, hx1144_1, hx1144_2, hx1144_3, hx1144_4⟩ := at_T95 HR2.out x18_1 p1144 q1144
           cases e1144
           replace hx1144_0 := hc HB hx1144_0
           replace hx1144_1 := hc HB hx1144_1
           replace hx1144_2 := hc HB hx1144_2
           replace hx1144_3 := hc HB hx1144_3
           replace hx1144_4 := hc HB hx1144_4
           replace p1144 := eq_true p1144
           replace q1144 := eq_true q1144
           go_wp2_with (first | ((with_reducible refine gdst_ 13 rfl ?_); refine bx (N := 13) (cs := #[.int .i64 0, .int .i64 0, .int .i64 0, .int .i64 0, .int .i64 0]) (t := 95) ?_; intro gb1145 hg w37 hbox hb; replace HO_11 := kr HO_11 hb; have BK1145 := dk (hbox); have GW1145 := gs hg HB; have GE1145 := gs hg HB; replace HB := hs_ HB hb; have NB1140_1145 := gn hg BK1140; have NB1145_1140 := gm hg BK1140; replace BK1140 := kb BK1140 hb; clear hb hbox hg; have hnb38 := NB1145_1140.out; have hnc38 := NB1140_1145.out; have ⟨z39_0, z39_1, z39_2, z39_3, z39_4, v39_0, v39_1, v39_2, v39_3, v39_4⟩ := rz5 BK1145) | (go_at_call 87; (with_reducible refine (spec_l02Has.calls k1 _ _ l3 ((rd_T95 l2 x18_1).f0) true _ ?side1 ?side2 A24.out).mono ?_); (case side1 => exact Kd.C_below HR3.out (bb HB)); (case side2 => exact HC3.out); rintro e w' ⟨rfl, ⟨nd, rfl⟩⟩) | (go_at_call 87; (with_reducible refine (spec_l02Has.calls k1 _ _ l3 ((rd_T95 l2 x18_1).f1) false _ ?side1 ?side2 A26.out).mono ?_); (case side1 => exact Kd.C_below HR3.out (bb HB)); (case side2 => exact HC3.out); rintro e w' ⟨rfl, ⟨nd, rfl⟩⟩))
           go_roundg k1
           case measure => have := HK1.out; omega
           case rel => exact ⟨(x11_1), (wrap64 (x18_1 + 1)), e2_, H', ⟨by have := HK1.out; omega⟩, ⟨rf HO_11 BK1145 (fun _ hk => trivial)⟩, ⟨bf NB1140_1145.out BK1140⟩, ⟨bb HB⟩⟩
         ·replace c25 := Bool.eq_false_iff.mpr c25
          subst c25
          rw [if_neg (show ¬ (false = true) by decide)] at H
          have H' := dk H
          clear H
          have p1144 : 0 ≤ (x18_1 : Int) := oa
          have q1144 : x18_1 < (l2.length : Int) := oa
          obtain ⟨ad1144, e1144, hx1144_0, hx1144_1, hx1144_2, hx1144_3, hx1144_4⟩ := at_T95 HR2.out x18_1 p1144 q1144
          cases e1144
          replace hx1144_0 := hc HB hx1144_0
          replace hx1144_1 := hc HB hx1144_1
          replace hx1144_2 := hc HB hx1144_2
          replace hx1144_3 := hc HB hx1144_3
          replace hx1144_4 := hc HB hx1144_4
          replace p1144 := eq_true p1144
          replace q1144 := eq_true q1144
          go_wp2_with (first | ((with_reducible refine gdst_ 13 rfl ?_); refine bx (N := 13) (cs := #[.int .i64 0, .int .i64 0, .int .i64 0, .int .i64 0, .int .i64 0]) (t := 95) ?_; intro gb1145 hg w40 hbox hb; replace HO_11 := kr HO_11 hb; have BK1145 := dk (hbox); have GW1145 := gs hg HB; have GE1145 := gs hg HB; replace HB := hs_ HB hb; have NB1140_1145 := gn hg BK1140; have NB1145_1140 := gm hg BK1140; replace BK1140 := kb BK1140 hb; clear hb hbox hg; have hnb41 := NB1145_1140.out; have hnc41 := NB1140_1145.out; have ⟨z42_0, z42_1, z42_2, z42_3, z42_4, v42_0, v42_1, v42_2, v42_3, v42_4⟩ := rz5 BK1145) | (go_at_call 87; (with_reducible refine (spec_l02Has.calls k1 _ _ l3 ((rd_T95 l2 x18_1).f0) false _ ?side1 ?side2 A24.out).mono ?_); (case side1 => exact Kd.C_below HR3.out (bb HB)); (case side2 => exact HC3.out); rintro e w' ⟨rfl, ⟨nd, rfl⟩⟩))
          go_roundg k1
          case measure => have := HK1.out; omega
          case rel => exact ⟨(x11_1), (wrap64 (x18_1 + 1)), e2_, H', ⟨by have := HK1.out; omega⟩, ⟨rf HO_11 BK1145 (fun _ hk => trivial)⟩, ⟨bf NB1140_1145.out BK1140⟩, ⟨bb HB⟩⟩
       ·rw [if_neg c13] at H
        exact absurd H (by simp)
      ·rw [if_neg c12] at H
       exact absurd H (by simp)
     ·rw [if_neg c11] at H
      have c11b0 := decide_eq_false c11
      clear c11
      obtain rfl := Option.some.inj H
      go_wp2
      go_ret
      exact ⟨_, ee, rr HO_11, bb HB⟩
  ·rw [if_neg c7] at H
   exact absurd H (by simp)
 ·rw [if_neg c6] at H
  exact absurd H (by simp)
def spec_l18Points.l0 : Nat → List Int → List (S115) → Int → Int → List (S139) → Int → Int → Int → List Int → Bool → List (S95) → List Int → List Int → Option (List Int)
 | 0, _, _, _, _, _, _, _, _, _, _, _, _, _ => none
 | k + 1, x3, x14, x15, x16, x1365000, x1365001, x1365002, x1365003, x1365004, x1365005, x1365006, x1365007, x1365008 => if x16 < x15 then (if 0 ≤ x16 then (if x16 < (x14.length : Int) then (if x16 < (x1365008.length : Int) then (if x3.length < 17592186044416 then (spec_l18Points.l0 k (x3 ++ [wrap64 (((rd_T115 x14 x16).f6) - (rd x1365008 x16))]) x14 x15 (wrap64 (x16 + 1)) x1365000 x1365001 x1365002 x1365003 x1365004 x1365005 x1365006 x1365007 x1365008) else (none)) else (none)) else (none)) else (none)) else (some x3)
def spec_l18Points.f (k : Nat) (l0_0 : List (S139)) (a0_1 : Int) (a0_2 : Int) (a0_3 : Int) (l0_4 : List Int) (a0_5 : Bool) (l0_6 : List (S95)) (l0_7 : List Int) (l0_8 : List Int) : Option (List Int) := (spec_l06Among.f k a0_1 a0_2 a0_3 l0_4 a0_5 (l0_0.length : Int) l0_6 ([] : List Int) true).bind fun t1368 => (spec_l18Points.l0 k (([] : List Int)) t1368 (t1368.length : Int) 0 l0_0 a0_1 a0_2 a0_3 l0_4 a0_5 l0_6 l0_7 l0_8)
def spec_l18Points.T5 : Bool × List (List Nat × List Nat) := (true, [([], []), ([], []), ([1], [1]), ([], []), ([3], [3]), ([], []), ([4, 5], [4, 5]), ([6], [6]), ([2, 7], [2, 7]), ([8], [8]), ([0, 9], [0, 9]), ([10, 10, 0, 1, 2, 3, 4, 5, 6, 7, 8, 9, 10], [0, 10])])
def spec_l18Points.B5 : List Nat := [0, 0, 2, 0, 8, 0, 56, 120, 254, 510, 1023, 2047]
theorem spec_l18Points.tab5 : rtab .any (opsOf Try.f86 5) = spec_l18Points.T5 := by kernel_rfl
theorem spec_l18Points.bits5 : waitsOk spec_l18Points.T5.2 spec_l18Points.B5 = true := by kernel_rfl
theorem spec_l18Points.calls (k : Nat) (A0_0 : Option Addr) (c0_0 : Nat) (l0_0 : List (S139)) (a0_1 : Int) (a0_2 : Int) (a0_3 : Int) (A0_4 : Option Addr) (c0_4 : Nat) (l0_4 : List Int) (a0_5 : Bool) (A0_6 : Option Addr) (c0_6 : Nat) (l0_6 : List (S95)) (A0_7 : Option Addr) (c0_7 : Nat) (l0_7 : List Int) (A0_8 : Option Addr) (c0_8 : Nat) (l0_8 : List Int) (r : List Int) (w : World) (hr0_0 : Kd.C k139 w A0_0 l0_0.length l0_0) (hc0_0 : l0_0.length ≤ c0_0) (hr0_4 : Kd.C (Kd.int .i64) w A0_4 l0_4.length l0_4) (hc0_4 : l0_4.length ≤ c0_4) (hr0_6 : Kd.C k95 w A0_6 l0_6.length l0_6) (hc0_6 : l0_6.length ≤ c0_6) (hr0_7 : Kd.C (Kd.int .i64) w A0_7 l0_7.length l0_7) (hc0_7 : l0_7.length ≤ c0_7) (hr0_8 : Kd.C (Kd.int .i64) w A0_8 l0_8.length l0_8) (hc0_8 : l0_8.length ≤ c0_8) (h : spec_l18Points.f k l0_0 a0_1 a0_2 a0_3 l0_4 a0_5 l0_6 l0_7 l0_8 = some r) :
  Calls Try.prog 86 #[.agg #[.slice A0_0 l0_0.length c0_0, .int .i64 a0_1, .int .i64 a0_2, .int .i64 a0_3, .slice A0_4 l0_4.length c0_4, .bool a0_5, .slice A0_6 l0_6.length c0_6, .slice A0_7 l0_7.length c0_7, .slice A0_8 l0_8.length c0_8]] w fun e w' => ∃ v0_ : Value, e = .returned (v0_) ∧ Kd.R (Kd.int .i64) 3 w' w.heap.size (fun _ => True) v0_ r ∧ Below w.heap.size w w' := by
 have hu36 := Try.underlying36
 have hu33 := Try.underlying33
 have hu115 := Try.underlying115
 have HR0_0 := dk hr0_0
 have HC0_0 := dk hc0_0
 clear hr0_0 hc0_0
 have HR0_4 := dk hr0_4
 have HC0_4 := dk hc0_4
 clear hr0_4 hc0_4
 have HR0_6 := dk hr0_6
 have HC0_6 := dk hc0_6
 clear hr0_6 hc0_6
 have HR0_7 := dk hr0_7
 have HC0_7 := dk hc0_7
 clear hr0_7 hc0_7
 have HR0_8 := dk hr0_8
 have HC0_8 := dk hc0_8
 clear hr0_8 hc0_8
 have HB := hb0 w
 have H : ((spec_l06Among.f k a0_1 a0_2 a0_3 l0_4 a0_5 (l0_0.length : Int) l0_6 ([] : List Int) true).bind fun t1368 => (spec_l18Points.l0 k (([] : List Int)) t1368 (t1368.length : Int) 0 l0_0 a0_1 a0_2 a0_3 l0_4 a0_5 l0_6 l0_7 l0_8)) = some r := h
 clear h
 obtain ⟨y1365, hy1365⟩ : ∃ y_ : List Int, y_ = (([] : List Int)) := ⟨_, rfl⟩
 replace H : ((spec_l06Among.f k a0_1 a0_2 a0_3 l0_4 a0_5 (l0_0.length : Int) l0_6 ([] : List Int) true).bind fun t1368 => (spec_l18Points.l0 k y1365 t1368 (t1368.length : Int) 0 l0_0 a0_1 a0_2 a0_3 l0_4 a0_5 l0_6 l0_7 l0_8)) = some r := by first | (rw [hy1365]; with_reducible exact H) | (have H2_ := (Option.bind_some _ _).symm.trans H; rw [hy1365]; with_reducible exact H2_) | (have H2_ := (Option.bind_some _ _).symm.trans H; with_reducible exact H2_) | with_reducible exact H | (rw [hy1365]; exact H) | exact H
 have Ny1365 := dk hy1365
 clear hy1365
 replace H := Option.bind_eq_some_iff.mp H
 obtain ⟨t1368, A20, H⟩ := H
 try dsimp only at H
 have A2 := dk A20
 clear A20
 have H' := dk H
 clear H
 go_enter Try.func86, Try.ntmps86
 go_wp2_with (first | ((with_reducible refine gdst_ 1 rfl ?_); refine bx (N := 1) (cs := #[.slice A0_0 l0_0.length c0_0, .int .i64 a0_1, .int .i64 a0_2, .int .i64 a0_3, .slice A0_4 l0_4.length c0_4, .bool a0_5, .slice A0_6 l0_6.length c0_6, .slice A0_7 l0_7.length c0_7, .slice A0_8 l0_8.length c0_8]) (t := 36) ?_; intro gb1364 hg w3 hbox hb; have BK1364 := dk (hbox); have GW1364 := gs hg HB; have GE1364 := gs hg HB; replace HB := hs_ HB hb; clear hb hbox hg) | ((with_reducible refine gdst_ 6 rfl ?_); refine Kd.R_lit (Kd.int .i64) _ 3 ?hg (N := 6) ?hd (xs := ([] : List Int)) (inner := []) (ok := fun _ => True) (okp := fun _ => True) ?hr ?hp (fun _ hk => hk) trivial (Below.refl _ _) (Nat.le_refl _) (by simp) ?_; (case hd => rfl); (case hg => rfl); (case hr => first | (go_simp; done) | (go_simp; rfl)); (case hp => exact (Reps.none _ _)); intro v1366 w4 ho5 hb hg_ hnew_; clear hg_ hnew_; (first | rw [← Ny1365.out] at ho5 | (simp only [Int.reduceToNat] at ho5; rw [← Ny1365.out] at ho5)); have HO1367 := kl ho5 HB; replace BK1364 := kb BK1364 hb; replace HB := hs_ HB hb; clear hb ho5; have ⟨z6_0, z6_1, z6_2, z6_3, z6_4, z6_5, z6_6, z6_7, z6_8, v6_0, v6_1, v6_2, v6_3, v6_4, v6_5, v6_6, v6_7, v6_8⟩ := rz9 BK1364) | ((with_reducible refine gcallee_ 82 rfl ?_); refine gl (some 14) Try.func82 #[.agg #[.int .i64 a0_1, .int .i64 a0_2, .int .i64 a0_3, .slice A0_4 l0_4.length c0_4, .bool a0_5], .int .i64 (l0_0.length : Int), .slice A0_6 l0_6.length c0_6, .slice none 0 0, .bool true] ?_; (refine (spec_l06Among.calls k a0_1 a0_2 a0_3 _ _ l0_4 a0_5 (l0_0.length : Int) _ _ l0_6 _ _ ([] : List Int) true t1368 _ ?side1 ?side2 ?side3 ?side4 ?side5 ?side6 A2.out).mono ?_); (case side1 => exact cc HR0_4 HB); (case side2 => exact HC0_4.out); (case side3 => exact cc HR0_6 HB); (case side4 => exact HC0_6.out); (case side5 => exact Kd.C_nil _ _); (case side6 => exact Nat.le_refl _); rintro e w7 ⟨v1369, rfl, ho0, hb⟩; refine ⟨_, rfl, ?_⟩; replace HO1367 := kr HO1367 hb; have HO1370 := kl ho0 HB; replace BK1364 := kb BK1364 hb; replace HB := hs_ HB hb; obtain ⟨Ao8, co8, eo8⟩ := Kd.R_slice HO1370.out; subst eo8))
 go_loopg [3, 16] k (fun kq v3 v16 w' => ∃ (x3_1 : List Int) (x16_1 : Int), v16 = .int .i64 x16_1 ∧ Aside0 (spec_l18Points.l0 kq x3_1 t1368 (t1368.length : Int) x16_1 l0_0 a0_1 a0_2 a0_3 l0_4 a0_5 l0_6 l0_7 l0_8 = some r) ∧ Aside0 (kq ≤ k) ∧ Aside0 (Kd.R (Kd.int .i64) 3 w' w.heap.size (fun _ => True) v3 x3_1) ∧ Aside0 (Kd.R k115 115 w' w.heap.size (fun _ => True) (.slice Ao8 t1368.length co8) t1368) ∧ Aside0 (w'.heap[gb1364]? = some (.cells #[(.slice A0_0 l0_0.length c0_0), .int .i64 a0_1, .int .i64 a0_2, .int .i64 a0_3, (.slice A0_4 l0_4.length c0_4), .bool a0_5, (.slice A0_6 l0_6.length c0_6), (.slice A0_7 l0_7.length c0_7), (.slice A0_8 l0_8.length c0_8)] 36 (0, 0))) ∧ Aside0 (Below w.heap.size w w'))
 case atStart => exact ⟨(y1365), (0), e2_, H', ⟨Nat.le_refl _⟩, ⟨rr HO1367⟩, ⟨rr HO1370⟩, ⟨bk BK1364⟩, ⟨bb HB⟩⟩
 case round =>
  clear H'
  obtain ⟨x3_1, x16_1, rfl, HA, HK1, HO_3, HO_14, BK1364, HB⟩ := hrel
  cases gk with
  | zero => exact absurd HA.out (by simp [spec_l18Points.l0])
  | succ k1 =>
   have H := HA.out
   clear HA
   simp only [spec_l18Points.l0] at H
   by_cases c9 : x16_1 < (t1368.length : Int)
   ·rw [if_pos c9] at H
    have c9b0 := decide_eq_true c9
    clear c9
    by_cases c10 : 0 ≤ x16_1
    ·rw [if_pos c10] at H
     have c10b0 := decide_eq_true c10
     clear c10
     by_cases c11 : x16_1 < (t1368.length : Int)
     ·rw [if_pos c11] at H
      have c11b0 := decide_eq_true c11
      clear c11
      by_cases c12 : x16_1 < (l0_8.length : Int)
      ·rw [if_pos c12] at H
       have c12b0 := decide_eq_true c12
       clear c12
       by_cases c13 : x3_1.length < 17592186044416
       ·rw [if_pos c13] at H
        have LMc13 := dk c13
        clear c13
        obtain ⟨y1374, hy1374⟩ : ∃ y_ : List Int, y_ = (x3_1 ++ [wrap64 (((rd_T115 t1368 x16_1).f6) - (rd l0_8 x16_1))]) := ⟨_, rfl⟩
        replace H : (spec_l18Points.l0 k1 y1374 t1368 (t1368.length : Int) (wrap64 (x16_1 + 1)) l0_0 a0_1 a0_2 a0_3 l0_4 a0_5 l0_6 l0_7 l0_8) = some r := by first | (rw [hy1374]; with_reducible exact H) | (have H2_ := (Option.bind_some _ _).symm.trans H; rw [hy1374]; with_reducible exact H2_) | (have H2_ := (Option.bind_some _ _).symm.trans H; with_reducible exact H2_) | with_reducible exact H | (rw [hy1374]; exact H) | exact H
        have Ny1374 := dk hy1374
        clear hy1374
        have H' := dk H
        clear H
        have p1371 : 0 ≤ (x16_1 : Int) := oa
        have q1371 : x16_1 < (t1368.length : Int) := oa
        obtain ⟨ad1371, e1371, hx1371_0, hx1371_1, hx1371_2, hx1371_3, hx1371_4, hx1371_5, hx1371_6⟩ := at_T115 (Kd.R_reads' HO_14.out).2.2 x16_1 p1371 q1371
        cases e1371
        replace p1371 := eq_true p1371
        replace q1371 := eq_true q1371
        try go_wp2_with (first | ((with_reducible refine gdst_ 5 rfl ?_); refine bx (N := 5) (cs := #[.int .i64 0, .int .i64 0, .int .i64 0, .int .i64 0, .int .i64 0, .int .i64 0, .int .i64 0]) (t := 115) ?_; intro gb1372 hg w14 hbox hb; replace HO_3 := kr HO_3 hb; replace HO_14 := dk (Kd.R_below (Kd.R_elderB (rr HO_14) gb1372 (Nat.le_of_eq hg.symm)) hb); have BK1372 := dk (hbox); have GW1372 := gs hg HB; have GE1372 := gs hg HB; replace HB := hs_ HB hb; have NB1364_1372 := gn hg BK1364; have NB1372_1364 := gm hg BK1364; replace BK1364 := kb BK1364 hb; clear hb hbox hg; have hnb15 := NB1372_1364.out; have hnc15 := NB1364_1372.out; have ⟨z16_0, z16_1, z16_2, z16_3, z16_4, z16_5, z16_6, v16_0, v16_1, v16_2, v16_3, v16_4, v16_5, v16_6⟩ := rz7 BK1372))
        have n0_ : Aside0 (Kd.R (Kd.int .i64) 3 (((((((w14.setCell ⟨gb1372, 0, none⟩ (.int .i64 ((rd_T115 t1368 x16_1).f0))).setCell ⟨gb1372, 1, none⟩ (.int .i64 ((rd_T115 t1368 x16_1).f1))).setCell ⟨gb1372, 2, none⟩ (.int .i64 ((rd_T115 t1368 x16_1).f2))).setCell ⟨gb1372, 3, none⟩ (.int .i64 ((rd_T115 t1368 x16_1).f3))).setCell ⟨gb1372, 4, none⟩ (.int .i64 ((rd_T115 t1368 x16_1).f4))).setCell ⟨gb1372, 5, none⟩ (.int .i64 ((rd_T115 t1368 x16_1).f5))).setCell ⟨gb1372, 6, none⟩ (.int .i64 ((rd_T115 t1368 x16_1).f6))) w.heap.size (fun _ => True) u3 x3_1) := ⟨rf HO_3 BK1372 (fun _ hk => trivial)⟩
        have n1_ : Aside0 (Kd.R k115 115 (((((((w14.setCell ⟨gb1372, 0, none⟩ (.int .i64 ((rd_T115 t1368 x16_1).f0))).setCell ⟨gb1372, 1, none⟩ (.int .i64 ((rd_T115 t1368 x16_1).f1))).setCell ⟨gb1372, 2, none⟩ (.int .i64 ((rd_T115 t1368 x16_1).f2))).setCell ⟨gb1372, 3, none⟩ (.int .i64 ((rd_T115 t1368 x16_1).f3))).setCell ⟨gb1372, 4, none⟩ (.int .i64 ((rd_T115 t1368 x16_1).f4))).setCell ⟨gb1372, 5, none⟩ (.int .i64 ((rd_T115 t1368 x16_1).f5))).setCell ⟨gb1372, 6, none⟩ (.int .i64 ((rd_T115 t1368 x16_1).f6))) w.heap.size (fun k_ => k_ ≠ gb1372) (.slice (some ad1371) t1368.length co8) t1368) := ⟨by (with_reducible repeat (first | apply Kd.R_alloc | apply Kd.R_drewN | apply Kd.R_drew)); exact Kd.R_mono (Kd.R_far (p := ⟨gb1372, 6, none⟩) (Kd.R_far (p := ⟨gb1372, 5, none⟩) (Kd.R_far (p := ⟨gb1372, 4, none⟩) (Kd.R_far (p := ⟨gb1372, 3, none⟩) (Kd.R_far (p := ⟨gb1372, 2, none⟩) (Kd.R_far (p := ⟨gb1372, 1, none⟩) (Kd.R_far (p := ⟨gb1372, 0, none⟩) (Kd.R_mono HO_14.out (fun k_ hk => (⟨hk, hk.2⟩ : _ ∧ k_ ≠ gb1372))) (fun _ hk => hk.2) (.int .i64 ((rd_T115 t1368 x16_1).f0))) (fun _ hk => hk.2) (.int .i64 ((rd_T115 t1368 x16_1).f1))) (fun _ hk => hk.2) (.int .i64 ((rd_T115 t1368 x16_1).f2))) (fun _ hk => hk.2) (.int .i64 ((rd_T115 t1368 x16_1).f3))) (fun _ hk => hk.2) (.int .i64 ((rd_T115 t1368 x16_1).f4))) (fun _ hk => hk.2) (.int .i64 ((rd_T115 t1368 x16_1).f5))) (fun _ hk => hk.2) (.int .i64 ((rd_T115 t1368 x16_1).f6))) (fun _ hk => hk.1.2)⟩
        have n2_ : Aside0 ((((((((w14.setCell ⟨gb1372, 0, none⟩ (.int .i64 ((rd_T115 t1368 x16_1).f0))).setCell ⟨gb1372, 1, none⟩ (.int .i64 ((rd_T115 t1368 x16_1).f1))).setCell ⟨gb1372, 2, none⟩ (.int .i64 ((rd_T115 t1368 x16_1).f2))).setCell ⟨gb1372, 3, none⟩ (.int .i64 ((rd_T115 t1368 x16_1).f3))).setCell ⟨gb1372, 4, none⟩ (.int .i64 ((rd_T115 t1368 x16_1).f4))).setCell ⟨gb1372, 5, none⟩ (.int .i64 ((rd_T115 t1368 x16_1).f5))).setCell ⟨gb1372, 6, none⟩ (.int .i64 ((rd_T115 t1368 x16_1).f6))).heap[gb1364]? = some (.cells #[.slice A0_0 l0_0.length c0_0, .int .i64 a0_1, .int .i64 a0_2, .int .i64 a0_3, .slice A0_4 l0_4.length c0_4, .bool a0_5, .slice A0_6 l0_6.length c0_6, .slice A0_7 l0_7.length c0_7, .slice A0_8 l0_8.length c0_8] 36 (0, 0))) := ⟨bf NB1364_1372.out BK1364⟩
        have n3_ : Aside0 ((((((((w14.setCell ⟨gb1372, 0, none⟩ (.int .i64 ((rd_T115 t1368 x16_1).f0))).setCell ⟨gb1372, 1, none⟩ (.int .i64 ((rd_T115 t1368 x16_1).f1))).setCell ⟨gb1372, 2, none⟩ (.int .i64 ((rd_T115 t1368 x16_1).f2))).setCell ⟨gb1372, 3, none⟩ (.int .i64 ((rd_T115 t1368 x16_1).f3))).setCell ⟨gb1372, 4, none⟩ (.int .i64 ((rd_T115 t1368 x16_1).f4))).setCell ⟨gb1372, 5, none⟩ (.int .i64 ((rd_T115 t1368 x16_1).f5))).setCell ⟨gb1372, 6, none⟩ (.int .i64 ((rd_T115 t1368 x16_1).f6))).heap[gb1372]? = some (.cells #[.int .i64 ((rd_T115 t1368 x16_1).f0), .int .i64 ((rd_T115 t1368 x16_1).f1), .int .i64 ((rd_T115 t1368 x16_1).f2), .int .i64 ((rd_T115 t1368 x16_1).f3), .int .i64 ((rd_T115 t1368 x16_1).f4), .int .i64 ((rd_T115 t1368 x16_1).f5), .int .i64 ((rd_T115 t1368 x16_1).f6)] 115 (0, 0))) := ⟨by (with_reducible repeat (first | refine blk_drewN ?_ _ | refine blk_drew ?_ | refine blk_alloc ?_ _)); refine blk_put (cs := #[.int .i64 ((rd_T115 t1368 x16_1).f0), .int .i64 ((rd_T115 t1368 x16_1).f1), .int .i64 ((rd_T115 t1368 x16_1).f2), .int .i64 ((rd_T115 t1368 x16_1).f3), .int .i64 ((rd_T115 t1368 x16_1).f4), .int .i64 ((rd_T115 t1368 x16_1).f5), .int .i64 0]) ?_ 6 _ rfl; (with_reducible repeat (first | refine blk_drewN ?_ _ | refine blk_drew ?_ | refine blk_alloc ?_ _)); refine blk_put (cs := #[.int .i64 ((rd_T115 t1368 x16_1).f0), .int .i64 ((rd_T115 t1368 x16_1).f1), .int .i64 ((rd_T115 t1368 x16_1).f2), .int .i64 ((rd_T115 t1368 x16_1).f3), .int .i64 ((rd_T115 t1368 x16_1).f4), .int .i64 0, .int .i64 0]) ?_ 5 _ rfl; (with_reducible repeat (first | refine blk_drewN ?_ _ | refine blk_drew ?_ | refine blk_alloc ?_ _)); refine blk_put (cs := #[.int .i64 ((rd_T115 t1368 x16_1).f0), .int .i64 ((rd_T115 t1368 x16_1).f1), .int .i64 ((rd_T115 t1368 x16_1).f2), .int .i64 ((rd_T115 t1368 x16_1).f3), .int .i64 0, .int .i64 0, .int .i64 0]) ?_ 4 _ rfl; (with_reducible repeat (first | refine blk_drewN ?_ _ | refine blk_drew ?_ | refine blk_alloc ?_ _)); refine blk_put (cs := #[.int .i64 ((rd_T115 t1368 x16_1).f0), .int .i64 ((rd_T115 t1368 x16_1).f1), .int .i64 ((rd_T115 t1368 x16_1).f2), .int .i64 0, .int .i64 0, .int .i64 0, .int .i64 0]) ?_ 3 _ rfl; (with_reducible repeat (first | refine blk_drewN ?_ _ | refine blk_drew ?_ | refine blk_alloc ?_ _)); refine blk_put (cs := #[.int .i64 ((rd_T115 t1368 x16_1).f0), .int .i64 ((rd_T115 t1368 x16_1).f1), .int .i64 0, .int .i64 0, .int .i64 0, .int .i64 0, .int .i64 0]) ?_ 2 _ rfl; (with_reducible repeat (first | refine blk_drewN ?_ _ | refine blk_drew ?_ | refine blk_alloc ?_ _)); refine blk_put (cs := #[.int .i64 ((rd_T115 t1368 x16_1).f0), .int .i64 0, .int .i64 0, .int .i64 0, .int .i64 0, .int .i64 0, .int .i64 0]) ?_ 1 _ rfl; (with_reducible repeat (first | refine blk_drewN ?_ _ | refine blk_drew ?_ | refine blk_alloc ?_ _)); refine blk_put (cs := #[.int .i64 0, .int .i64 0, .int .i64 0, .int .i64 0, .int .i64 0, .int .i64 0, .int .i64 0]) ?_ 0 _ rfl; (with_reducible repeat (first | refine blk_drewN ?_ _ | refine blk_drew ?_ | refine blk_alloc ?_ _)); exact BK1372.out⟩
        have n4_ : Aside0 (Below w.heap.size w (((((((w14.setCell ⟨gb1372, 0, none⟩ (.int .i64 ((rd_T115 t1368 x16_1).f0))).setCell ⟨gb1372, 1, none⟩ (.int .i64 ((rd_T115 t1368 x16_1).f1))).setCell ⟨gb1372, 2, none⟩ (.int .i64 ((rd_T115 t1368 x16_1).f2))).setCell ⟨gb1372, 3, none⟩ (.int .i64 ((rd_T115 t1368 x16_1).f3))).setCell ⟨gb1372, 4, none⟩ (.int .i64 ((rd_T115 t1368 x16_1).f4))).setCell ⟨gb1372, 5, none⟩ (.int .i64 ((rd_T115 t1368 x16_1).f5))).setCell ⟨gb1372, 6, none⟩ (.int .i64 ((rd_T115 t1368 x16_1).f6)))) := ⟨bb HB⟩
        generalize (((((((w14.setCell ⟨gb1372, 0, none⟩ (.int .i64 ((rd_T115 t1368 x16_1).f0))).setCell ⟨gb1372, 1, none⟩ (.int .i64 ((rd_T115 t1368 x16_1).f1))).setCell ⟨gb1372, 2, none⟩ (.int .i64 ((rd_T115 t1368 x16_1).f2))).setCell ⟨gb1372, 3, none⟩ (.int .i64 ((rd_T115 t1368 x16_1).f3))).setCell ⟨gb1372, 4, none⟩ (.int .i64 ((rd_T115 t1368 x16_1).f4))).setCell ⟨gb1372, 5, none⟩ (.int .i64 ((rd_T115 t1368 x16_1).f5))).setCell ⟨gb1372, 6, none⟩ (.int .i64 ((rd_T115 t1368 x16_1).f6))) = w17 at n0_ n1_ n2_ n3_ n4_ ⊢
        have HO_3 := n0_
        have HO_14 := n1_
        have BK1364 := n2_
        have BK1372 := n3_
        have HB := n4_
        clear n0_ n1_ n2_ n3_ n4_
        replace HO_3 := dk (Kd.R_drew HO_3.out)
        replace HO_14 := dk (Kd.R_drew HO_14.out)
        replace BK1364 := dk (blk_drew BK1364.out)
        replace BK1372 := dk (blk_drew BK1372.out)
        replace HB := dk (below_drew1 HB.out)
        have p1373 : 0 ≤ (x16_1 : Int) := oa
        have q1373 : x16_1 < (l0_8.length : Int) := oa
        obtain ⟨ad1373, e1373, hx1373_0⟩ := Kd.at_int HR0_8.out x16_1 p1373 q1373
        have hw1373_0 := hx1373_0
        cases e1373
        replace hx1373_0 := hc HB hx1373_0
        replace p1373 := eq_true p1373
        replace q1373 := eq_true q1373
        refine start_ (n := 12) (S := fun w' => w'.cell? ⟨gb1372, 0, none⟩ = some (.int .i64 ((rd_T115 t1368 x16_1).f0)) ∧ w'.cell? ⟨gb1372, 1, none⟩ = some (.int .i64 ((rd_T115 t1368 x16_1).f1)) ∧ w'.cell? ⟨gb1372, 2, none⟩ = some (.int .i64 ((rd_T115 t1368 x16_1).f2)) ∧ w'.cell? ⟨gb1372, 3, none⟩ = some (.int .i64 ((rd_T115 t1368 x16_1).f3)) ∧ w'.cell? ⟨gb1372, 4, none⟩ = some (.int .i64 ((rd_T115 t1368 x16_1).f4)) ∧ w'.cell? ⟨gb1372, 5, none⟩ = some (.int .i64 ((rd_T115 t1368 x16_1).f5)) ∧ w'.cell? ⟨gb1372, 6, none⟩ = some (.int .i64 ((rd_T115 t1368 x16_1).f6)) ∧ w'.cell? ⟨gb1364, 0, none⟩ = some (.slice A0_0 l0_0.length c0_0) ∧ w'.cell? ⟨gb1364, 1, none⟩ = some (.int .i64 a0_1) ∧ w'.cell? ⟨gb1364, 2, none⟩ = some (.int .i64 a0_2) ∧ w'.cell? ⟨gb1364, 3, none⟩ = some (.int .i64 a0_3) ∧ w'.cell? ⟨gb1364, 4, none⟩ = some (.slice A0_4 l0_4.length c0_4) ∧ w'.cell? ⟨gb1364, 5, none⟩ = some (.bool a0_5) ∧ w'.cell? ⟨gb1364, 6, none⟩ = some (.slice A0_6 l0_6.length c0_6) ∧ w'.cell? ⟨gb1364, 7, none⟩ = some (.slice A0_7 l0_7.length c0_7) ∧ w'.cell? ⟨gb1364, 8, none⟩ = some (.slice (some ad1373) l0_8.length c0_8) ∧ w'.cell? (ad1373.add (x16_1).toNat) = some (.int .i64 (rd l0_8 x16_1))) (ds := []) #[false, false, false, false, false, false, false, false, false, false, false, false] (by kernel_rfl) rfl rfl ⟨bc BK1372 0, bc BK1372 1, bc BK1372 2, bc BK1372 3, bc BK1372 4, bc BK1372 5, bc BK1372 6, bc BK1364 0, bc BK1364 1, bc BK1364 2, bc BK1364 3, bc BK1364 4, bc BK1364 5, bc BK1364 6, bc BK1364 7, bc BK1364 8, (hc HB hw1373_0)⟩ (fun hHeld => ?_); refine with_tabW spec_l18Points.tab5 spec_l18Points.bits5 (fun HT_ HW_ => ?_)
        generalize w17.drew = w18 at HO_3 HO_14 BK1364 BK1372 HB hx1373_0 hHeld ⊢
        refine pz_ 0 21 ?_
        refine pz_ 1 22 ?_
        refine pz_ 3 24 ?_
        refine pz_ 5 26 ?_
        refine tk_ 2 23 ?_
        refine tk_ 4 25 ?_
        refine pz_ 6 27 ?_
        refine tk_ 7 28 ?_
        refine pz_ 8 29 ?_
        refine on_ 9 (some 30) (fun K hK => ?_)
        refine value_ (w1 := ?_) (v := ?_) (by rfl) rfl ?_ ?_
        rotate_left 2
        ·go_simp
         constructor
         ·rfl
         ·rfl
        refine hK.out _ _ ⟨(blk_cell (blk_alloc BK1372.out _) 0).trans rfl, (blk_cell (blk_alloc BK1372.out _) 1).trans rfl, (blk_cell (blk_alloc BK1372.out _) 2).trans rfl, (blk_cell (blk_alloc BK1372.out _) 3).trans rfl, (blk_cell (blk_alloc BK1372.out _) 4).trans rfl, (blk_cell (blk_alloc BK1372.out _) 5).trans rfl, (blk_cell (blk_alloc BK1372.out _) 6).trans rfl, (blk_cell (blk_alloc BK1364.out _) 0).trans rfl, (blk_cell (blk_alloc BK1364.out _) 1).trans rfl, (blk_cell (blk_alloc BK1364.out _) 2).trans rfl, (blk_cell (blk_alloc BK1364.out _) 3).trans rfl, (blk_cell (blk_alloc BK1364.out _) 4).trans rfl, (blk_cell (blk_alloc BK1364.out _) 5).trans rfl, (blk_cell (blk_alloc BK1364.out _) 6).trans rfl, (blk_cell (blk_alloc BK1364.out _) 7).trans rfl, (blk_cell (blk_alloc BK1364.out _) 8).trans rfl, (World.cell?_alloc_lt _ _ _ (World.block_lt_of_cell? _ _ ((hc HB hw1373_0)))).trans ((hc HB hw1373_0))⟩ (fun hHeld => ?_)
        clear hK K
        refine no_ ?_
        refine on_ 10 (some 31) (fun K hK => ?_)
        refine Kd.R_append_step (Kd.int .i64) (w0 := w) w.heap.size (by rfl) (.tmp 21) (.tmp 30) 23 3 (.int .i64 0) 8 rfl Try.underlying23 info3 rfl (by decide) (by omega) u3 x3_1 (wrap64 (((rd_T115 t1368 x16_1).f6) - (rd l0_8 x16_1))) [.int .i64 (wrap64 (((rd_T115 t1368 x16_1).f6) - (rd l0_8 x16_1)))] (fun _ => True) (fun _ => False) rfl rfl ?aP (fun _ hk => hk.elim) ?aF ?aO ?aB ?aS ?aL ?_
        (case aP => exact rfl)
        (case aB => exact (bb HB))
        (case aF => exact (fun _ _ => trivial))
        (case aO => exact (rr HO_3))
        (case aS => exact (below_size (bb HB)))
        (case aL => have := LMc13.out; omega)
        intro v1375 w19 ho hb hg hat
        rw [← Ny1374.out] at ho
        replace HO_14 := dk (Kd.R_over' (rr HO_14) (Kd.R_typed (rr HO_3)) (by decide) hg)
        replace BK1364 := dk (blk_grown (g := gb1364) (o := .cells #[.slice A0_0 l0_0.length c0_0, .int .i64 a0_1, .int .i64 a0_2, .int .i64 a0_3, .slice A0_4 l0_4.length c0_4, .bool a0_5, .slice A0_6 l0_6.length c0_6, .slice A0_7 l0_7.length c0_7, .slice (some ad1373) l0_8.length c0_8] 36 (0, 0)) (bk BK1364) hg (Kd.R_ne HO_3.out BK1364.out (by decide)))
        replace BK1372 := dk (blk_grown (g := gb1372) (o := .cells #[.int .i64 ((rd_T115 t1368 x16_1).f0), .int .i64 ((rd_T115 t1368 x16_1).f1), .int .i64 ((rd_T115 t1368 x16_1).f2), .int .i64 ((rd_T115 t1368 x16_1).f3), .int .i64 ((rd_T115 t1368 x16_1).f4), .int .i64 ((rd_T115 t1368 x16_1).f5), .int .i64 ((rd_T115 t1368 x16_1).f6)] 115 (0, 0)) (bk BK1372) hg (Kd.R_ne HO_3.out BK1372.out (by decide)))
        replace HB := dk (hb)
        have HO1376 := dk (ho)
        clear HO_3 ho hb hg hat
        refine hK.out _ _ ⟨bc BK1372 0, bc BK1372 1, bc BK1372 2, bc BK1372 3, bc BK1372 4, bc BK1372 5, bc BK1372 6, bc BK1364 0, bc BK1364 1, bc BK1364 2, bc BK1364 3, bc BK1364 4, bc BK1364 5, bc BK1364 6, bc BK1364 7, bc BK1364 8, (hc HB hw1373_0)⟩ (fun hHeld => ?_)
        clear hK K
        refine no_ ?_
        refine pz_ 11 3 ?_
        refine done_ (done_of HT_.out (by kernel_rfl)) ?_
        try go_wp2
        go_roundg k1
        case measure => have := HK1.out; omega
        case rel => exact ⟨(y1374), (wrap64 (x16_1 + 1)), e2_, H', ⟨by have := HK1.out; omega⟩, ⟨rr HO1376⟩, ⟨ro HO_14 (fun _ hk => trivial)⟩, ⟨bk BK1364⟩, ⟨bb HB⟩⟩
       ·rw [if_neg c13] at H
        exact absurd H (by simp)
      ·rw [if_neg c12] at H
       exact absurd H (by simp)
     ·rw [if_neg c11] at H
      exact absurd H (by simp)
    ·rw [if_neg c10] at H
     exact absurd H (by simp)
   ·rw [if_neg c9] at H
    have c9b0 := decide_eq_false c9
    clear c9
    obtain rfl := Option.some.inj H
    go_wp2
    go_ret
    exact ⟨_, ee, rr HO_3, bb HB⟩
def spec_OpenGames.l0 : Nat → List Int → List (S95) → Int → Int → Option (List Int)
 | 0, _, _, _, _ => none
 | k + 1, x3, x7, x8, x9 => if x9 < x8 then (if 0 ≤ x9 then (if x9 < (x7.length : Int) then ((spec_IsOpen.f ((rd_T95 x7 x9).f0) ((rd_T95 x7 x9).f1) ((rd_T95 x7 x9).f2) ((rd_T95 x7 x9).f3) ((rd_T95 x7 x9).f4)).bind fun t1382 => (if t1382 = true then (if x3.length < 17592186044416 then (spec_OpenGames.l0 k (x3 ++ [x9]) x7 x8 (wrap64 (x9 + 1))) else (none)) else (spec_OpenGames.l0 k x3 x7 x8 (wrap64 (x9 + 1))))) else (none)) else (none)) else (some x3)
def spec_OpenGames.f (k : Nat) (l0 : List (S95)) : Option (List Int) := spec_OpenGames.l0 k (([] : List Int)) l0 (l0.length : Int) 0
theorem spec_OpenGames.calls (k : Nat) (A0 : Option Addr) (c0 : Nat) (l0 : List (S95)) (r : List Int) (w : World) (hr0 : Kd.C k95 w A0 l0.length l0) (hc0 : l0.length ≤ c0) (h : spec_OpenGames.f k l0 = some r) :
  Calls Try.prog 138 #[.slice A0 l0.length c0] w fun e w' => ∃ v0_ : Value, e = .returned (v0_) ∧ Kd.R (Kd.int .i64) 3 w' w.heap.size (fun _ => True) v0_ r ∧ Below w.heap.size w w' := by
 have hu95 := Try.underlying95
 have HR0 := dk hr0
 have HC0 := dk hc0
 clear hr0 hc0
 have HB := hb0 w
 have H : (spec_OpenGames.l0 k (([] : List Int)) l0 (l0.length : Int) 0) = some r := h
 clear h
 obtain ⟨y1377, hy1377⟩ : ∃ y_ : List Int, y_ = (([] : List Int)) := ⟨_, rfl⟩
 replace H : (spec_OpenGames.l0 k y1377 l0 (l0.length : Int) 0) = some r := by first | (rw [hy1377]; with_reducible exact H) | (have H2_ := (Option.bind_some _ _).symm.trans H; rw [hy1377]; with_reducible exact H2_) | (have H2_ := (Option.bind_some _ _).symm.trans H; with_reducible exact H2_) | with_reducible exact H | (rw [hy1377]; exact H) | exact H
 have Ny1377 := dk hy1377
 clear hy1377
 have H' := dk H
 clear H
 go_enter Try.func138, Try.ntmps138
 go_wp2_with (first | ((with_reducible refine gdst_ 6 rfl ?_); refine Kd.R_lit (Kd.int .i64) _ 3 ?hg (N := 6) ?hd (xs := ([] : List Int)) (inner := []) (ok := fun _ => True) (okp := fun _ => True) ?hr ?hp (fun _ hk => hk) trivial (Below.refl _ _) (Nat.le_refl _) (by simp) ?_; (case hd => rfl); (case hg => rfl); (case hr => first | (go_simp; done) | (go_simp; rfl)); (case hp => exact (Reps.none _ _)); intro v1378 w2 ho3 hb hg_ hnew_; clear hg_ hnew_; (first | rw [← Ny1377.out] at ho3 | (simp only [Int.reduceToNat] at ho3; rw [← Ny1377.out] at ho3)); have HO1379 := kl ho3 HB; replace HB := hs_ HB hb; clear hb ho3))
 go_loopg [3, 9] k (fun kq v3 v9 w' => ∃ (x3_1 : List Int) (x9_1 : Int), v9 = .int .i64 x9_1 ∧ Aside0 (spec_OpenGames.l0 kq x3_1 l0 (l0.length : Int) x9_1 = some r) ∧ Aside0 (kq ≤ k) ∧ Aside0 (Kd.R (Kd.int .i64) 3 w' w.heap.size (fun _ => True) v3 x3_1) ∧ Aside0 (Below w.heap.size w w'))
 case atStart => exact ⟨(y1377), (0), e2_, H', ⟨Nat.le_refl _⟩, ⟨rr HO1379⟩, ⟨bb HB⟩⟩
 case round =>
  clear H'
  obtain ⟨x3_1, x9_1, rfl, HA, HK1, HO_3, HB⟩ := hrel
  cases gk with
  | zero => exact absurd HA.out (by simp [spec_OpenGames.l0])
  | succ k1 =>
   have H := HA.out
   clear HA
   simp only [spec_OpenGames.l0] at H
   by_cases c4 : x9_1 < (l0.length : Int)
   ·rw [if_pos c4] at H
    have c4b0 := decide_eq_true c4
    clear c4
    by_cases c5 : 0 ≤ x9_1
    ·rw [if_pos c5] at H
     have c5b0 := decide_eq_true c5
     clear c5
     by_cases c6 : x9_1 < (l0.length : Int)
     ·rw [if_pos c6] at H
      have c6b0 := decide_eq_true c6
      clear c6
      replace H := Option.bind_eq_some_iff.mp H
      obtain ⟨t1382, A70, H⟩ := H
      try dsimp only at H
      have A7 := dk A70
      clear A70
      by_cases c8 : t1382 = true
      ·subst c8
       rw [if_pos rfl] at H
       by_cases c9 : x3_1.length < 17592186044416
       ·rw [if_pos c9] at H
        have LMc9 := dk c9
        clear c9
        obtain ⟨y1383, hy1383⟩ : ∃ y_ : List Int, y_ = (x3_1 ++ [x9_1]) := ⟨_, rfl⟩
        replace H : (spec_OpenGames.l0 k1 y1383 l0 (l0.length : Int) (wrap64 (x9_1 + 1))) = some r := by first | (rw [hy1383]; with_reducible exact H) | (have H2_ := (Option.bind_some _ _).symm.trans H; rw [hy1383]; with_reducible exact H2_) | (have H2_ := (Option.bind_some _ _).symm.trans H; with_reducible exact H2_) | with_reducible exact H | (rw [hy1383]; exact H) | exact H
        have Ny1383 := dk hy1383
        clear hy1383
        have H' := dk H
        clear H
        have p1380 : 0 ≤ (x9_1 : Int) := oa
        have q1380 : x9_1 < (l0.length : Int) := oa
        obtain ⟨ad1380, e1380, hx1380_0, hx1380_1, hx1380_2, hx1380_3, hx1380_4⟩ := at_T95 HR0.out x9_1 p1380 q1380
        cases e1380
        replace hx1380_0 := hc HB hx1380_0
        replace hx1380_1 := hc HB hx1380_1
        replace hx1380_2 := hc HB hx1380_2
        replace hx1380_3 := hc HB hx1380_3
        replace hx1380_4 := hc HB hx1380_4
        replace p1380 := eq_true p1380
        replace q1380 := eq_true q1380
        go_wp2_with (first | ((with_reducible refine gdst_ 5 rfl ?_); refine bx (N := 5) (cs := #[.int .i64 0, .int .i64 0, .int .i64 0, .int .i64 0, .int .i64 0]) (t := 95) ?_; intro gb1381 hg w10 hbox hb; replace HO_3 := kr HO_3 hb; have BK1381 := dk (hbox); have GW1381 := gs hg HB; have GE1381 := gs hg HB; replace HB := hs_ HB hb; clear hb hbox hg; have ⟨z11_0, z11_1, z11_2, z11_3, z11_4, v11_0, v11_1, v11_2, v11_3, v11_4⟩ := rz5 BK1381) | ((with_reducible refine gcallee_ 77 rfl ?_); refine gl (some 15) Try.func77 #[.agg #[.int .i64 ((rd_T95 l0 x9_1).f0), .int .i64 ((rd_T95 l0 x9_1).f1), .int .i64 ((rd_T95 l0 x9_1).f2), .int .i64 ((rd_T95 l0 x9_1).f3), .int .i64 ((rd_T95 l0 x9_1).f4)]] ?_; (with_reducible refine (spec_IsOpen.calls ((rd_T95 l0 x9_1).f0) ((rd_T95 l0 x9_1).f1) ((rd_T95 l0 x9_1).f2) ((rd_T95 l0 x9_1).f3) ((rd_T95 l0 x9_1).f4) true _ A7.out).mono ?_); rintro e w12 ⟨rfl, hb⟩; refine ⟨_, rfl, ?_⟩; replace HO_3 := kf HO_3 BK1381 hb; replace BK1381 := dk (blk_below (g := gb1381) (o := .cells #[.int .i64 ((rd_T95 l0 x9_1).f0), .int .i64 ((rd_T95 l0 x9_1).f1), .int .i64 ((rd_T95 l0 x9_1).f2), .int .i64 ((rd_T95 l0 x9_1).f3), .int .i64 ((rd_T95 l0 x9_1).f4)] 95 (0, 0)) (bp BK1381) hb); replace HB := hs_ HB hb) | ((with_reducible refine gate_builtin (b := .append) (xs := #[.tmp 16, .tmp 18]) rfl ?_); at_builtin; refine Kd.R_append (Kd.int .i64) (w0 := w) w.heap.size rfl (.tmp 16) (.tmp 18) 23 3 (.int .i64 0) 8 rfl Try.underlying23 info3 rfl (by decide) (by omega) u3 x3_1 x9_1 [.int .i64 x9_1] (fun _ => True) (fun _ => False) rfl rfl ?aP (fun _ hk => hk.elim) ?aF ?aO ?aB ?aS ?aL ?_; (case aP => exact rfl); (case aB => exact (bb HB)); (case aF => exact (fun _ _ => trivial)); (case aO => exact (rr HO_3)); (case aS => exact (below_size (bb HB))); (case aL => have := LMc9.out; omega); intro v1384 w13 ho hb hg hat; rw [← Ny1383.out] at ho; replace BK1381 := dk (blk_grown (g := gb1381) (o := .cells #[.int .i64 ((rd_T95 l0 x9_1).f0), .int .i64 ((rd_T95 l0 x9_1).f1), .int .i64 ((rd_T95 l0 x9_1).f2), .int .i64 ((rd_T95 l0 x9_1).f3), .int .i64 ((rd_T95 l0 x9_1).f4)] 95 (0, 0)) (bk BK1381) hg (Kd.R_ne HO_3.out BK1381.out (by decide))); replace HB := dk (hb); have HO1385 := dk (ho); clear HO_3 ho hb hg hat))
        go_roundg k1
        case measure => have := HK1.out; omega
        case rel => exact ⟨(y1383), (wrap64 (x9_1 + 1)), e2_, H', ⟨by have := HK1.out; omega⟩, ⟨rr HO1385⟩, ⟨bb HB⟩⟩
       ·rw [if_neg c9] at H
        exact absurd H (by simp)
      ·replace c8 := Bool.eq_false_iff.mpr c8
       subst c8
       rw [if_neg (show ¬ (false = true) by decide)] at H
       have H' := dk H
       clear H
       have p1380 : 0 ≤ (x9_1 : Int) := oa
       have q1380 : x9_1 < (l0.length : Int) := oa
       obtain ⟨ad1380, e1380, hx1380_0, hx1380_1, hx1380_2, hx1380_3, hx1380_4⟩ := at_T95 HR0.out x9_1 p1380 q1380
       cases e1380
       replace hx1380_0 := hc HB hx1380_0
       replace hx1380_1 := hc HB hx1380_1
       replace hx1380_2 := hc HB hx1380_2
       replace hx1380_3 := hc HB hx1380_3
       replace hx1380_4 := hc HB hx1380_4
       replace p1380 := eq_true p1380
       replace q1380 := eq_true q1380
       go_wp2_with (first | ((with_reducible refine gdst_ 5 rfl ?_); refine bx (N := 5) (cs := #[.int .i64 0, .int .i64 0, .int .i64 0, .int .i64 0, .int .i64 0]) (t := 95) ?_; intro gb1381 hg w14 hbox hb; replace HO_3 := kr HO_3 hb; have BK1381 := dk (hbox); have GW1381 := gs hg HB; have GE1381 := gs hg HB; replace HB := hs_ HB hb; clear hb hbox hg; have ⟨z15_0, z15_1, z15_2, z15_3, z15_4, v15_0, v15_1, v15_2, v15_3, v15_4⟩ := rz5 BK1381) | ((with_reducible refine gcallee_ 77 rfl ?_); refine gl (some 15) Try.func77 #[.agg #[.int .i64 ((rd_T95 l0 x9_1).f0), .int .i64 ((rd_T95 l0 x9_1).f1), .int .i64 ((rd_T95 l0 x9_1).f2), .int .i64 ((rd_T95 l0 x9_1).f3), .int .i64 ((rd_T95 l0 x9_1).f4)]] ?_; (with_reducible refine (spec_IsOpen.calls ((rd_T95 l0 x9_1).f0) ((rd_T95 l0 x9_1).f1) ((rd_T95 l0 x9_1).f2) ((rd_T95 l0 x9_1).f3) ((rd_T95 l0 x9_1).f4) false _ A7.out).mono ?_); rintro e w16 ⟨rfl, hb⟩; refine ⟨_, rfl, ?_⟩; replace HO_3 := kf HO_3 BK1381 hb; replace BK1381 := dk (blk_below (g := gb1381) (o := .cells #[.int .i64 ((rd_T95 l0 x9_1).f0), .int .i64 ((rd_T95 l0 x9_1).f1), .int .i64 ((rd_T95 l0 x9_1).f2), .int .i64 ((rd_T95 l0 x9_1).f3), .int .i64 ((rd_T95 l0 x9_1).f4)] 95 (0, 0)) (bp BK1381) hb); replace HB := hs_ HB hb))
       go_roundg k1
       case measure => have := HK1.out; omega
       case rel => exact ⟨(x3_1), (wrap64 (x9_1 + 1)), e2_, H', ⟨by have := HK1.out; omega⟩, ⟨rr HO_3⟩, ⟨bb HB⟩⟩
     ·rw [if_neg c6] at H
      exact absurd H (by simp)
    ·rw [if_neg c5] at H
     exact absurd H (by simp)
   ·rw [if_neg c4] at H
    have c4b0 := decide_eq_false c4
    clear c4
    obtain rfl := Option.some.inj H
    go_wp2
    go_ret
    exact ⟨_, ee, rr HO_3, bb HB⟩
def spec_l16Copy.f (l0_0 : List (S139)) (a0_1 : Int) (a0_2 : Int) (a0_3 : Int) (l0_4 : List Int) (a0_5 : Bool) (l0_6 : List (S95)) (l0_7 : List Int) (l0_8 : List Int) : Option ((List (S139)) × Int × Int × Int × List Int × Bool × (List (S95)) × List Int × List Int) := (some (([] : List (S139)) : List (S139))).bind fun y160 => (if y160.length + l0_0.length < 4398046511104 then ((some (([] : List Int) : List Int)).bind fun y166 => (if y166.length + l0_4.length < 17592186044416 then ((some (([] : List (S95)) : List (S95))).bind fun y172 => (if y172.length + l0_6.length < 3518437208883 then ((some (([] : List Int) : List Int)).bind fun y178 => (if y178.length + l0_7.length < 17592186044416 then ((some (([] : List Int) : List Int)).bind fun y184 => (if y184.length + l0_8.length < 17592186044416 then (some ((y160 ++ l0_0), a0_1, a0_2, a0_3, (y166 ++ l0_4), a0_5, (y172 ++ l0_6), (y178 ++ l0_7), (y184 ++ l0_8))) else (none))) else (none))) else (none))) else (none))) else (none))
theorem spec_l16Copy.calls (A0_0 : Option Addr) (c0_0 : Nat) (l0_0 : List (S139)) (a0_1 : Int) (a0_2 : Int) (a0_3 : Int) (A0_4 : Option Addr) (c0_4 : Nat) (l0_4 : List Int) (a0_5 : Bool) (A0_6 : Option Addr) (c0_6 : Nat) (l0_6 : List (S95)) (A0_7 : Option Addr) (c0_7 : Nat) (l0_7 : List Int) (A0_8 : Option Addr) (c0_8 : Nat) (l0_8 : List Int) (r1 : List (S139)) (r2 : Int) (r3 : Int) (r4 : Int) (r5 : List Int) (r6 : Bool) (r7 : List (S95)) (r8 : List Int) (r9 : List Int) (w : World) (hr0_0 : Kd.C k139 w A0_0 l0_0.length l0_0) (hc0_0 : l0_0.length ≤ c0_0) (hr0_4 : Kd.C (Kd.int .i64) w A0_4 l0_4.length l0_4) (hc0_4 : l0_4.length ≤ c0_4) (hr0_6 : Kd.C k95 w A0_6 l0_6.length l0_6) (hc0_6 : l0_6.length ≤ c0_6) (hr0_7 : Kd.C (Kd.int .i64) w A0_7 l0_7.length l0_7) (hc0_7 : l0_7.length ≤ c0_7) (hr0_8 : Kd.C (Kd.int .i64) w A0_8 l0_8.length l0_8) (hc0_8 : l0_8.length ≤ c0_8) (h : spec_l16Copy.f l0_0 a0_1 a0_2 a0_3 l0_4 a0_5 l0_6 l0_7 l0_8 = some (r1, r2, r3, r4, r5, r6, r7, r8, r9)) :
  Calls Try.prog 56 #[.agg #[.slice A0_0 l0_0.length c0_0, .int .i64 a0_1, .int .i64 a0_2, .int .i64 a0_3, .slice A0_4 l0_4.length c0_4, .bool a0_5, .slice A0_6 l0_6.length c0_6, .slice A0_7 l0_7.length c0_7, .slice A0_8 l0_8.length c0_8]] w fun e w' => ∃ v0_ v4_ v6_ v7_ v8_ : Value, e = .returned (.agg #[v0_, .int .i64 r2, .int .i64 r3, .int .i64 r4, v4_, .bool r6, v6_, v7_, v8_]) ∧ Kd.R k139 139 w' w.heap.size (fun _ => True) v0_ r1 ∧ Kd.R (Kd.int .i64) 3 w' w.heap.size (fun k_ => some k_ ≠ (v7_ : Value).ownBlock ∧ some k_ ≠ (v8_ : Value).ownBlock) v4_ r5 ∧ Kd.R k95 95 w' w.heap.size (fun _ => True) v6_ r7 ∧ Kd.R (Kd.int .i64) 3 w' w.heap.size (fun k_ => some k_ ≠ (v4_ : Value).ownBlock ∧ some k_ ≠ (v8_ : Value).ownBlock) v7_ r8 ∧ Kd.R (Kd.int .i64) 3 w' w.heap.size (fun k_ => some k_ ≠ (v4_ : Value).ownBlock ∧ some k_ ≠ (v7_ : Value).ownBlock) v8_ r9 ∧ Below w.heap.size w w' := by
 have hu36 := Try.underlying36
 have HR0_0 := dk hr0_0
 have HC0_0 := dk hc0_0
 clear hr0_0 hc0_0
 have HR0_4 := dk hr0_4
 have HC0_4 := dk hc0_4
 clear hr0_4 hc0_4
 have HR0_6 := dk hr0_6
 have HC0_6 := dk hc0_6
 clear hr0_6 hc0_6
 have HR0_7 := dk hr0_7
 have HC0_7 := dk hc0_7
 clear hr0_7 hc0_7
 have HR0_8 := dk hr0_8
 have HC0_8 := dk hc0_8
 clear hr0_8 hc0_8
 have HB := hb0 w
 have H : ((some (([] : List (S139)) : List (S139))).bind fun y160 => (if y160.length + l0_0.length < 4398046511104 then ((some (([] : List Int) : List Int)).bind fun y166 => (if y166.length + l0_4.length < 17592186044416 then ((some (([] : List (S95)) : List (S95))).bind fun y172 => (if y172.length + l0_6.length < 3518437208883 then ((some (([] : List Int) : List Int)).bind fun y178 => (if y178.length + l0_7.length < 17592186044416 then ((some (([] : List Int) : List Int)).bind fun y184 => (if y184.length + l0_8.length < 17592186044416 then (some ((y160 ++ l0_0), a0_1, a0_2, a0_3, (y166 ++ l0_4), a0_5, (y172 ++ l0_6), (y178 ++ l0_7), (y184 ++ l0_8))) else (none))) else (none))) else (none))) else (none))) else (none))) = some (r1, r2, r3, r4, r5, r6, r7, r8, r9) := h
 clear h
 obtain ⟨y160, hy160⟩ : ∃ y_ : List (S139), y_ = (([] : List (S139))) := ⟨_, rfl⟩
 replace H : (if y160.length + l0_0.length < 4398046511104 then ((some (([] : List Int) : List Int)).bind fun y166 => (if y166.length + l0_4.length < 17592186044416 then ((some (([] : List (S95)) : List (S95))).bind fun y172 => (if y172.length + l0_6.length < 3518437208883 then ((some (([] : List Int) : List Int)).bind fun y178 => (if y178.length + l0_7.length < 17592186044416 then ((some (([] : List Int) : List Int)).bind fun y184 => (if y184.length + l0_8.length < 17592186044416 then (some ((y160 ++ l0_0), a0_1, a0_2, a0_3, (y166 ++ l0_4), a0_5, (y172 ++ l0_6), (y178 ++ l0_7), (y184 ++ l0_8))) else (none))) else (none))) else (none))) else (none))) else (none)) = some (r1, r2, r3, r4, r5, r6, r7, r8, r9) := by first | (rw [hy160]; with_reducible exact H) | (have H2_ := (Option.bind_some _ _).symm.trans H; rw [hy160]; with_reducible exact H2_) | (have H2_ := (Option.bind_some _ _).symm.trans H; with_reducible exact H2_) | with_reducible exact H | (rw [hy160]; exact H) | exact H
 have Ny160 := dk hy160
 clear hy160
 by_cases c2 : y160.length + l0_0.length < 4398046511104
 ·rw [if_pos c2] at H
  have LMc2 := dk c2
  clear c2
  obtain ⟨y163, hy163⟩ : ∃ y_ : List (S139), y_ = (y160 ++ l0_0) := ⟨_, rfl⟩
  replace H : ((some (([] : List Int) : List Int)).bind fun y166 => (if y166.length + l0_4.length < 17592186044416 then ((some (([] : List (S95)) : List (S95))).bind fun y172 => (if y172.length + l0_6.length < 3518437208883 then ((some (([] : List Int) : List Int)).bind fun y178 => (if y178.length + l0_7.length < 17592186044416 then ((some (([] : List Int) : List Int)).bind fun y184 => (if y184.length + l0_8.length < 17592186044416 then (some (y163, a0_1, a0_2, a0_3, (y166 ++ l0_4), a0_5, (y172 ++ l0_6), (y178 ++ l0_7), (y184 ++ l0_8))) else (none))) else (none))) else (none))) else (none))) = some (r1, r2, r3, r4, r5, r6, r7, r8, r9) := by first | (rw [hy163]; with_reducible exact H) | (have H2_ := (Option.bind_some _ _).symm.trans H; rw [hy163]; with_reducible exact H2_) | (have H2_ := (Option.bind_some _ _).symm.trans H; with_reducible exact H2_) | with_reducible exact H | (rw [hy163]; exact H) | exact H
  have Ny163 := dk hy163
  clear hy163
  obtain ⟨y166, hy166⟩ : ∃ y_ : List Int, y_ = (([] : List Int)) := ⟨_, rfl⟩
  replace H : (if y166.length + l0_4.length < 17592186044416 then ((some (([] : List (S95)) : List (S95))).bind fun y172 => (if y172.length + l0_6.length < 3518437208883 then ((some (([] : List Int) : List Int)).bind fun y178 => (if y178.length + l0_7.length < 17592186044416 then ((some (([] : List Int) : List Int)).bind fun y184 => (if y184.length + l0_8.length < 17592186044416 then (some (y163, a0_1, a0_2, a0_3, (y166 ++ l0_4), a0_5, (y172 ++ l0_6), (y178 ++ l0_7), (y184 ++ l0_8))) else (none))) else (none))) else (none))) else (none)) = some (r1, r2, r3, r4, r5, r6, r7, r8, r9) := by first | (rw [hy166]; with_reducible exact H) | (have H2_ := (Option.bind_some _ _).symm.trans H; rw [hy166]; with_reducible exact H2_) | (have H2_ := (Option.bind_some _ _).symm.trans H; with_reducible exact H2_) | with_reducible exact H | (rw [hy166]; exact H) | exact H
  have Ny166 := dk hy166
  clear hy166
  by_cases c3 : y166.length + l0_4.length < 17592186044416
  ·rw [if_pos c3] at H
   have LMc3 := dk c3
   clear c3
   obtain ⟨y169, hy169⟩ : ∃ y_ : List Int, y_ = (y166 ++ l0_4) := ⟨_, rfl⟩
   replace H : ((some (([] : List (S95)) : List (S95))).bind fun y172 => (if y172.length + l0_6.length < 3518437208883 then ((some (([] : List Int) : List Int)).bind fun y178 => (if y178.length + l0_7.length < 17592186044416 then ((some (([] : List Int) : List Int)).bind fun y184 => (if y184.length + l0_8.length < 17592186044416 then (some (y163, a0_1, a0_2, a0_3, y169, a0_5, (y172 ++ l0_6), (y178 ++ l0_7), (y184 ++ l0_8))) else (none))) else (none))) else (none))) = some (r1, r2, r3, r4, r5, r6, r7, r8, r9) := by first | (rw [hy169]; with_reducible exact H) | (have H2_ := (Option.bind_some _ _).symm.trans H; rw [hy169]; with_reducible exact H2_) | (have H2_ := (Option.bind_some _ _).symm.trans H; with_reducible exact H2_) | with_reducible exact H | (rw [hy169]; exact H) | exact H
   have Ny169 := dk hy169
   clear hy169
   obtain ⟨y172, hy172⟩ : ∃ y_ : List (S95), y_ = (([] : List (S95))) := ⟨_, rfl⟩
   replace H : (if y172.length + l0_6.length < 3518437208883 then ((some (([] : List Int) : List Int)).bind fun y178 => (if y178.length + l0_7.length < 17592186044416 then ((some (([] : List Int) : List Int)).bind fun y184 => (if y184.length + l0_8.length < 17592186044416 then (some (y163, a0_1, a0_2, a0_3, y169, a0_5, (y172 ++ l0_6), (y178 ++ l0_7), (y184 ++ l0_8))) else (none))) else (none))) else (none)) = some (r1, r2, r3, r4, r5, r6, r7, r8, r9) := by first | (rw [hy172]; with_reducible exact H) | (have H2_ := (Option.bind_some _ _).symm.trans H; rw [hy172]; with_reducible exact H2_) | (have H2_ := (Option.bind_some _ _).symm.trans H; with_reducible exact H2_) | with_reducible exact H | (rw [hy172]; exact H) | exact H
   have Ny172 := dk hy172
   clear hy172
   by_cases c4 : y172.length + l0_6.length < 3518437208883
   ·rw [if_pos c4] at H
    have LMc4 := dk c4
    clear c4
    obtain ⟨y175, hy175⟩ : ∃ y_ : List (S95), y_ = (y172 ++ l0_6) := ⟨_, rfl⟩
    replace H : ((some (([] : List Int) : List Int)).bind fun y178 => (if y178.length + l0_7.length < 17592186044416 then ((some (([] : List Int) : List Int)).bind fun y184 => (if y184.length + l0_8.length < 17592186044416 then (some (y163, a0_1, a0_2, a0_3, y169, a0_5, y175, (y178 ++ l0_7), (y184 ++ l0_8))) else (none))) else (none))) = some (r1, r2, r3, r4, r5, r6, r7, r8, r9) := by first | (rw [hy175]; with_reducible exact H) | (have H2_ := (Option.bind_some _ _).symm.trans H; rw [hy175]; with_reducible exact H2_) | (have H2_ := (Option.bind_some _ _).symm.trans H; with_reducible exact H2_) | with_reducible exact H | (rw [hy175]; exact H) | exact H
    have Ny175 := dk hy175
    clear hy175
    obtain ⟨y178, hy178⟩ : ∃ y_ : List Int, y_ = (([] : List Int)) := ⟨_, rfl⟩
    replace H : (if y178.length + l0_7.length < 17592186044416 then ((some (([] : List Int) : List Int)).bind fun y184 => (if y184.length + l0_8.length < 17592186044416 then (some (y163, a0_1, a0_2, a0_3, y169, a0_5, y175, (y178 ++ l0_7), (y184 ++ l0_8))) else (none))) else (none)) = some (r1, r2, r3, r4, r5, r6, r7, r8, r9) := by first | (rw [hy178]; with_reducible exact H) | (have H2_ := (Option.bind_some _ _).symm.trans H; rw [hy178]; with_reducible exact H2_) | (have H2_ := (Option.bind_some _ _).symm.trans H; with_reducible exact H2_) | with_reducible exact H | (rw [hy178]; exact H) | exact H
    have Ny178 := dk hy178
    clear hy178
    by_cases c5 : y178.length + l0_7.length < 17592186044416
    ·rw [if_pos c5] at H
     have LMc5 := dk c5
     clear c5
     obtain ⟨y181, hy181⟩ : ∃ y_ : List Int, y_ = (y178 ++ l0_7) := ⟨_, rfl⟩
     replace H : ((some (([] : List Int) : List Int)).bind fun y184 => (if y184.length + l0_8.length < 17592186044416 then (some (y163, a0_1, a0_2, a0_3, y169, a0_5, y175, y181, (y184 ++ l0_8))) else (none))) = some (r1, r2, r3, r4, r5, r6, r7, r8, r9) := by first | (rw [hy181]; with_reducible exact H) | (have H2_ := (Option.bind_some _ _).symm.trans H; rw [hy181]; with_reducible exact H2_) | (have H2_ := (Option.bind_some _ _).symm.trans H; with_reducible exact H2_) | with_reducible exact H | (rw [hy181]; exact H) | exact H
     have Ny181 := dk hy181
     clear hy181
     obtain ⟨y184, hy184⟩ : ∃ y_ : List Int, y_ = (([] : List Int)) := ⟨_, rfl⟩
     replace H : (if y184.length + l0_8.length < 17592186044416 then (some (y163, a0_1, a0_2, a0_3, y169, a0_5, y175, y181, (y184 ++ l0_8))) else (none)) = some (r1, r2, r3, r4, r5, r6, r7, r8, r9) := by first | (rw [hy184]; with_reducible exact H) | (have H2_ := (Option.bind_some _ _).symm.trans H; rw [hy184]; with_reducible exact H2_) | (have H2_ := (Option.bind_some _ _).symm.trans H; with_reducible exact H2_) | with_reducible exact H | (rw [hy184]; exact H) | exact H
     have Ny184 := dk hy184
     clear hy184
     by_cases c6 : y184.length + l0_8.length < 17592186044416
     ·rw [if_pos c6] at H
      have LMc6 := dk c6
      clear c6
      obtain ⟨y187, hy187⟩ : ∃ y_ : List Int, y_ = (y184 ++ l0_8) := ⟨_, rfl⟩
      replace H : (some (y163, a0_1, a0_2, a0_3, y169, a0_5, y175, y181, y187)) = some (r1, r2, r3, r4, r5, r6, r7, r8, r9) := by first | (rw [hy187]; with_reducible exact H) | (have H2_ := (Option.bind_some _ _).symm.trans H; rw [hy187]; with_reducible exact H2_) | (have H2_ := (Option.bind_some _ _).symm.trans H; with_reducible exact H2_) | with_reducible exact H | (rw [hy187]; exact H) | exact H
      have Ny187 := dk hy187
      clear hy187
      simp only [Option.some.injEq, Prod.mk.injEq] at H
      obtain ⟨rfl, rfl, rfl, rfl, rfl, rfl, rfl, rfl, rfl⟩ := H
      go_enter Try.func56, Try.ntmps56
      go_wp2_with (first | ((with_reducible refine gdst_ 1 rfl ?_); refine bx (N := 1) (cs := #[.slice A0_0 l0_0.length c0_0, .int .i64 a0_1, .int .i64 a0_2, .int .i64 a0_3, .slice A0_4 l0_4.length c0_4, .bool a0_5, .slice A0_6 l0_6.length c0_6, .slice A0_7 l0_7.length c0_7, .slice A0_8 l0_8.length c0_8]) (t := 36) ?_; intro gb158 hg w7 hbox hb; have BK158 := dk (hbox); have GW158 := gs hg HB; have GE158 := gs hg HB; replace HB := hs_ HB hb; clear hb hbox hg) | ((with_reducible refine gdst_ 2 rfl ?_); refine bx (N := 2) (cs := #[.slice none 0 0, .int .i64 0, .int .i64 0, .int .i64 0, .slice none 0 0, .bool false, .slice none 0 0, .slice none 0 0, .slice none 0 0]) (t := 36) ?_; intro gb159 hg w8 hbox hb; have BK159 := dk (hbox); have GW159 := gs hg HB; have GE159 := gs hg HB; replace HB := hs_ HB hb; have NB158_159 := gn hg BK158; have NB159_158 := gm hg BK158; replace BK158 := kb BK158 hb; clear hb hbox hg) | ((with_reducible refine gdst_ 3 rfl ?_); refine Kd.R_lit k139 _ 139 ?hg (N := 3) ?hd (xs := ([] : List (S139))) (inner := []) (ok := fun _ => True) (okp := fun _ => True) ?hr ?hp (fun _ hk => hk) trivial (Below.refl _ _) (Nat.le_refl _) (by simp) ?_; (case hd => rfl); (case hg => rfl); (case hr => first | (go_simp; done) | (go_simp; rfl)); (case hp => exact (Reps.none _ _)); intro v161 w9 ho10 hb hg_ hnew_; clear hg_ hnew_; (first | rw [← Ny160.out] at ho10 | (simp only [Int.reduceToNat] at ho10; rw [← Ny160.out] at ho10)); have HO162 := kl ho10 HB; replace BK158 := kb BK158 hb; replace BK159 := kb BK159 hb; replace HB := hs_ HB hb; clear hb ho10; have hnb11 := NB158_159.out; have hnc11 := NB159_158.out; have ⟨z12_0, z12_1, z12_2, z12_3, z12_4, z12_5, z12_6, z12_7, z12_8, v12_0, v12_1, v12_2, v12_3, v12_4, v12_5, v12_6, v12_7, v12_8⟩ := rz9 BK158) | ((with_reducible refine gate_builtin (b := .append) (xs := #[.tmp 3, .tmp 5]) rfl ?_); at_builtin; refine Kd.R_append_rows k139 (w0 := w) w.heap.size rfl (.tmp 3) (.tmp 5) 32 139 (.agg #[(.string ⟨#[]⟩), (.int .i64 0), (.int .i64 0)]) 32 rfl Try.underlying32 info139 rfl (by decide) (by omega) v161 y160 l0_0 _ _ _ (fun _ => True) (fun _ => False) rfl rfl ?aO ?aR (fun _ _ h => h) (fun _ h => h.elim) ?aF ?aB ?aS ?aL ?_; (case aR => exact cc HR0_0 HB); (case aB => exact (bb HB)); (case aF => exact (fun _ _ => trivial)); (case aO => exact (rr HO162)); (case aS => exact (below_size (bb HB))); (case aL => have := LMc2.out; omega); intro v164 w13 ho hb hg hat; rw [← Ny163.out] at ho; replace BK158 := dk (blk_grown (g := gb158) (o := .cells #[.slice A0_0 l0_0.length c0_0, .int .i64 a0_1, .int .i64 a0_2, .int .i64 a0_3, .slice A0_4 l0_4.length c0_4, .bool a0_5, .slice A0_6 l0_6.length c0_6, .slice A0_7 l0_7.length c0_7, .slice A0_8 l0_8.length c0_8] 36 (0, 0)) (bk BK158) hg (Kd.R_ne HO162.out BK158.out (by decide))); replace BK159 := dk (blk_grown (g := gb159) (o := .cells #[.slice none 0 0, .int .i64 0, .int .i64 0, .int .i64 0, .slice none 0 0, .bool false, .slice none 0 0, .slice none 0 0, .slice none 0 0] 36 (0, 0)) (bk BK159) hg (Kd.R_ne HO162.out BK159.out (by decide))); replace HB := dk (hb); have HO165 := dk (ho); clear HO162 ho hb hg hat; obtain ⟨Ao14, co14, eo14⟩ := Kd.R_slice HO165.out; subst eo14; have ⟨z15_0, z15_1, z15_2, z15_3, z15_4, z15_5, z15_6, z15_7, z15_8, v15_0, v15_1, v15_2, v15_3, v15_4, v15_5, v15_6, v15_7, v15_8⟩ := rz9 BK158) | ((with_reducible refine gdst_ 8 rfl ?_); refine Kd.R_lit (Kd.int .i64) _ 3 ?hg (N := 8) ?hd (xs := ([] : List Int)) (inner := []) (ok := fun _ => True) (okp := fun _ => True) ?hr ?hp (fun _ hk => hk) trivial (Below.refl _ _) (Nat.le_refl _) (by simp) ?_; (case hd => rfl); (case hg => rfl); (case hr => first | (go_simp; done) | (go_simp; rfl)); (case hp => exact (Reps.none _ _)); intro v167 w16 ho17 hb hg_ hnew_; clear hg_ hnew_; (first | rw [← Ny166.out] at ho17 | (simp only [Int.reduceToNat] at ho17; rw [← Ny166.out] at ho17)); replace HO165 := kf HO165 BK158 hb; have HO168 := kl ho17 HB; replace BK158 := dk (blk_below (g := gb158) (o := .cells #[.slice Ao14 y163.length co14, .int .i64 a0_1, .int .i64 a0_2, .int .i64 a0_3, .slice A0_4 l0_4.length c0_4, .bool a0_5, .slice A0_6 l0_6.length c0_6, .slice A0_7 l0_7.length c0_7, .slice A0_8 l0_8.length c0_8] 36 (0, 0)) (bp BK158) hb); replace BK159 := dk (blk_below (bf NB159_158.out BK159) hb); replace HB := hs_ HB hb; clear hb ho17; have ⟨z18_0, z18_1, z18_2, z18_3, z18_4, z18_5, z18_6, z18_7, z18_8, v18_0, v18_1, v18_2, v18_3, v18_4, v18_5, v18_6, v18_7, v18_8⟩ := rz9 BK158) | ((with_reducible refine gate_builtin (b := .append) (xs := #[.tmp 8, .tmp 11]) rfl ?_); at_builtin; refine Kd.R_append_rows (Kd.int .i64) (w0 := w) w.heap.size rfl (.tmp 8) (.tmp 11) 23 3 (.int .i64 0) 8 rfl Try.underlying23 info3 rfl (by decide) (by omega) v167 y166 l0_4 _ _ _ (fun _ => True) (fun _ => False) rfl rfl ?aO ?aR (fun _ _ h => h) (fun _ h => h.elim) ?aF ?aB ?aS ?aL ?_; (case aR => exact cc HR0_4 HB); (case aB => exact (bb HB)); (case aF => exact (fun _ _ => trivial)); (case aO => exact (rr HO168)); (case aS => exact (below_size (bb HB))); (case aL => have := LMc3.out; omega); intro v170 w19 ho hb hg hat; rw [← Ny169.out] at ho; replace BK158 := dk (blk_grown (g := gb158) (o := .cells #[.slice Ao14 y163.length co14, .int .i64 a0_1, .int .i64 a0_2, .int .i64 a0_3, .slice A0_4 l0_4.length c0_4, .bool a0_5, .slice A0_6 l0_6.length c0_6, .slice A0_7 l0_7.length c0_7, .slice A0_8 l0_8.length c0_8] 36 (0, 0)) (bk BK158) hg (Kd.R_ne HO168.out BK158.out (by decide))); replace BK159 := dk (blk_grown (g := gb159) (o := .cells #[.slice none 0 0, .int .i64 0, .int .i64 0, .int .i64 0, .slice none 0 0, .bool false, .slice none 0 0, .slice none 0 0, .slice none 0 0] 36 (0, 0)) (bk BK159) hg (Kd.R_ne HO168.out BK159.out (by decide))); replace HO165 := dk (Kd.R_over' (rr HO165) (Kd.R_typed (rr HO168)) (by decide) hg); replace HB := dk (hb); have HO171 := dk (ho); clear HO168 ho hb hg hat; obtain ⟨Ao20, co20, eo20⟩ := Kd.R_slice HO171.out; subst eo20; have ⟨z21_0, z21_1, z21_2, z21_3, z21_4, z21_5, z21_6, z21_7, z21_8, v21_0, v21_1, v21_2, v21_3, v21_4, v21_5, v21_6, v21_7, v21_8⟩ := rz9 BK158) | ((with_reducible refine gdst_ 15 rfl ?_); refine Kd.R_lit k95 _ 95 ?hg (N := 15) ?hd (xs := ([] : List (S95))) (inner := []) (ok := fun _ => True) (okp := fun _ => True) ?hr ?hp (fun _ hk => hk) trivial (Below.refl _ _) (Nat.le_refl _) (by simp) ?_; (case hd => rfl); (case hg => rfl); (case hr => first | (go_simp; done) | (go_simp; rfl)); (case hp => exact (Reps.none _ _)); intro v173 w22 ho23 hb hg_ hnew_; clear hg_ hnew_; (first | rw [← Ny172.out] at ho23 | (simp only [Int.reduceToNat] at ho23; rw [← Ny172.out] at ho23)); replace HO165 := kf HO165 BK158 hb; replace HO171 := kf HO171 BK158 hb; have HO174 := kl ho23 HB; replace BK158 := dk (blk_below (g := gb158) (o := .cells #[.slice Ao14 y163.length co14, .int .i64 a0_1, .int .i64 a0_2, .int .i64 a0_3, .slice Ao20 y169.length co20, .bool a0_5, .slice A0_6 l0_6.length c0_6, .slice A0_7 l0_7.length c0_7, .slice A0_8 l0_8.length c0_8] 36 (0, 0)) (bp BK158) hb); replace BK159 := dk (blk_below (bf NB159_158.out BK159) hb); replace HB := hs_ HB hb; clear hb ho23; have ⟨z24_0, z24_1, z24_2, z24_3, z24_4, z24_5, z24_6, z24_7, z24_8, v24_0, v24_1, v24_2, v24_3, v24_4, v24_5, v24_6, v24_7, v24_8⟩ := rz9 BK158) | ((with_reducible refine gate_builtin (b := .append) (xs := #[.tmp 15, .tmp 17]) rfl ?_); at_builtin; refine Kd.R_append_rows k95 (w0 := w) w.heap.size rfl (.tmp 15) (.tmp 17) 34 95 (.agg #[(.int .i64 0), (.int .i64 0), (.int .i64 0), (.int .i64 0), (.int .i64 0)]) 40 rfl Try.underlying34 info95 rfl (by decide) (by omega) v173 y172 l0_6 _ _ _ (fun _ => True) (fun _ => False) rfl rfl ?aO ?aR (fun _ _ h => h) (fun _ h => h.elim) ?aF ?aB ?aS ?aL ?_; (case aR => exact cc HR0_6 HB); (case aB => exact (bb HB)); (case aF => exact (fun _ _ => trivial)); (case aO => exact (rr HO174)); (case aS => exact (below_size (bb HB))); (case aL => have := LMc4.out; omega); intro v176 w25 ho hb hg hat; rw [← Ny175.out] at ho; replace BK158 := dk (blk_grown (g := gb158) (o := .cells #[.slice Ao14 y163.length co14, .int .i64 a0_1, .int .i64 a0_2, .int .i64 a0_3, .slice Ao20 y169.length co20, .bool a0_5, .slice A0_6 l0_6.length c0_6, .slice A0_7 l0_7.length c0_7, .slice A0_8 l0_8.length c0_8] 36 (0, 0)) (bk BK158) hg (Kd.R_ne HO174.out BK158.out (by decide))); replace BK159 := dk (blk_grown (g := gb159) (o := .cells #[.slice none 0 0, .int .i64 0, .int .i64 0, .int .i64 0, .slice none 0 0, .bool false, .slice none 0 0, .slice none 0 0, .slice none 0 0] 36 (0, 0)) (bk BK159) hg (Kd.R_ne HO174.out BK159.out (by decide))); replace HO165 := dk (Kd.R_over' (rr HO165) (Kd.R_typed (rr HO174)) (by decide) hg); replace HO171 := dk (Kd.R_over' (rr HO171) (Kd.R_typed (rr HO174)) (by decide) hg); replace HB := dk (hb); have HO177 := dk (ho); clear HO174 ho hb hg hat; obtain ⟨Ao26, co26, eo26⟩ := Kd.R_slice HO177.out; subst eo26; have ⟨z27_0, z27_1, z27_2, z27_3, z27_4, z27_5, z27_6, z27_7, z27_8, v27_0, v27_1, v27_2, v27_3, v27_4, v27_5, v27_6, v27_7, v27_8⟩ := rz9 BK158) | ((with_reducible refine gdst_ 20 rfl ?_); refine Kd.R_lit (Kd.int .i64) _ 3 ?hg (N := 20) ?hd (xs := ([] : List Int)) (inner := []) (ok := fun _ => True) (okp := fun _ => True) ?hr ?hp (fun _ hk => hk) trivial (Below.refl _ _) (Nat.le_refl _) (by simp) ?_; (case hd => rfl); (case hg => rfl); (case hr => first | (go_simp; done) | (go_simp; rfl)); (case hp => exact (Reps.none _ _)); intro v179 w28 ho29 hb hg_ hnew_; clear hg_ hnew_; (first | rw [← Ny178.out] at ho29 | (simp only [Int.reduceToNat] at ho29; rw [← Ny178.out] at ho29)); replace HO165 := kf HO165 BK158 hb; replace HO177 := kf HO177 BK158 hb; have HO180 := dk (Kd.R_lower (Kd.R_new' ho29 (Kd.R_lt (rf HO171 BK158 (fun _ h_ => h_.1)))) (below_size (bb HB))); replace HO171 := dk (Kd.R_elder' (rf HO171 BK158 (fun _ h_ => h_.1)) (Kd.R_base ho29) hb); replace BK158 := dk (blk_below (g := gb158) (o := .cells #[.slice Ao14 y163.length co14, .int .i64 a0_1, .int .i64 a0_2, .int .i64 a0_3, .slice Ao20 y169.length co20, .bool a0_5, .slice Ao26 y175.length co26, .slice A0_7 l0_7.length c0_7, .slice A0_8 l0_8.length c0_8] 36 (0, 0)) (bp BK158) hb); replace BK159 := dk (blk_below (bf NB159_158.out BK159) hb); replace HB := hs_ HB hb; clear hb ho29; have ⟨z30_0, z30_1, z30_2, z30_3, z30_4, z30_5, z30_6, z30_7, z30_8, v30_0, v30_1, v30_2, v30_3, v30_4, v30_5, v30_6, v30_7, v30_8⟩ := rz9 BK158) | ((with_reducible refine gate_builtin (b := .append) (xs := #[.tmp 20, .tmp 22]) rfl ?_); at_builtin; refine Kd.R_append_rows (Kd.int .i64) (w0 := w) w.heap.size rfl (.tmp 20) (.tmp 22) 23 3 (.int .i64 0) 8 rfl Try.underlying23 info3 rfl (by decide) (by omega) v179 y178 l0_7 _ _ _ (fun k_ => nb k_ Ao20 y169.length co20) (fun _ => False) rfl rfl ?aO ?aR (fun _ _ h => h) (fun _ h => h.elim) ?aF ?aB ?aS ?aL ?_; (case aR => exact cc HR0_7 HB); (case aB => exact (bb HB)); (case aF => exact (fun k_ hk => Kd.fresh' (Kd.R_lt (rr HO171)) k_ hk)); (case aO => exact (ro HO180 (fun _ hk => hk.2))); (case aS => exact (below_size (bb HB))); (case aL => have := LMc5.out; omega); intro v182 w31 ho hb hg hat; rw [← Ny181.out] at ho; replace BK158 := dk (blk_grown (g := gb158) (o := .cells #[.slice Ao14 y163.length co14, .int .i64 a0_1, .int .i64 a0_2, .int .i64 a0_3, .slice Ao20 y169.length co20, .bool a0_5, .slice Ao26 y175.length co26, .slice A0_7 l0_7.length c0_7, .slice A0_8 l0_8.length c0_8] 36 (0, 0)) (bk BK158) hg (Kd.R_ne HO180.out BK158.out (by decide))); replace BK159 := dk (blk_grown (g := gb159) (o := .cells #[.slice none 0 0, .int .i64 0, .int .i64 0, .int .i64 0, .slice none 0 0, .bool false, .slice none 0 0, .slice none 0 0, .slice none 0 0] 36 (0, 0)) (bk BK159) hg (Kd.R_ne HO180.out BK159.out (by decide))); replace HO165 := dk (Kd.R_over' (rr HO165) (Kd.R_typed (rr HO180)) (by decide) hg); replace HO171 := dk (Kd.R_after (ok := (fun _ => True)) (rr HO171) hg hat); replace HO177 := dk (Kd.R_over' (rr HO177) (Kd.R_typed (rr HO180)) (by decide) hg); replace HB := dk (hb); have HO183 := dk (ho); clear HO180 ho hb hg hat; obtain ⟨Ao32, co32, eo32⟩ := Kd.R_slice HO183.out; subst eo32; have ⟨z33_0, z33_1, z33_2, z33_3, z33_4, z33_5, z33_6, z33_7, z33_8, v33_0, v33_1, v33_2, v33_3, v33_4, v33_5, v33_6, v33_7, v33_8⟩ := rz9 BK158) | ((with_reducible refine gdst_ 25 rfl ?_); refine Kd.R_lit (Kd.int .i64) _ 3 ?hg (N := 25) ?hd (xs := ([] : List Int)) (inner := []) (ok := fun _ => True) (okp := fun _ => True) ?hr ?hp (fun _ hk => hk) trivial (Below.refl _ _) (Nat.le_refl _) (by simp) ?_; (case hd => rfl); (case hg => rfl); (case hr => first | (go_simp; done) | (go_simp; rfl)); (case hp => exact (Reps.none _ _)); intro v185 w34 ho35 hb hg_ hnew_; clear hg_ hnew_; (first | rw [← Ny184.out] at ho35 | (simp only [Int.reduceToNat] at ho35; rw [← Ny184.out] at ho35)); replace HO165 := kf HO165 BK158 hb; replace HO177 := kf HO177 BK158 hb; have HO186 := dk (Kd.R_lower (Kd.R_new' (Kd.R_new' ho35 (Kd.R_lt (rf HO171 BK158 (fun _ h_ => h_.1)))) (Kd.R_lt (rf HO183 BK158 (fun _ h_ => h_.1)))) (below_size (bb HB))); replace HO171 := dk (Kd.R_elder' (rf HO171 BK158 (fun _ h_ => h_.1)) (Kd.R_base ho35) hb); replace HO183 := dk (Kd.R_elder' (rf HO183 BK158 (fun _ h_ => h_.1)) (Kd.R_base ho35) hb); replace BK158 := dk (blk_below (g := gb158) (o := .cells #[.slice Ao14 y163.length co14, .int .i64 a0_1, .int .i64 a0_2, .int .i64 a0_3, .slice Ao20 y169.length co20, .bool a0_5, .slice Ao26 y175.length co26, .slice Ao32 y181.length co32, .slice A0_8 l0_8.length c0_8] 36 (0, 0)) (bp BK158) hb); replace BK159 := dk (blk_below (bf NB159_158.out BK159) hb); replace HB := hs_ HB hb; clear hb ho35; have ⟨z36_0, z36_1, z36_2, z36_3, z36_4, z36_5, z36_6, z36_7, z36_8, v36_0, v36_1, v36_2, v36_3, v36_4, v36_5, v36_6, v36_7, v36_8⟩ := rz9 BK158) | ((with_reducible refine gate_builtin (b := .append) (xs := #[.tmp 25, .tmp 27]) rfl ?_); at_builtin; refine Kd.R_append_rows (Kd.int .i64) (w0 := w) w.heap.size rfl (.tmp 25) (.tmp 27) 23 3 (.int .i64 0) 8 rfl Try.underlying23 info3 rfl (by decide) (by omega) v185 y184 l0_8 _ _ _ (fun k_ => nb k_ Ao20 y169.length co20 ∧ nb k_ Ao32 y181.length co32) (fun _ => False) rfl rfl ?aO ?aR (fun _ _ h => h) (fun _ h => h.elim) ?aF ?aB ?aS ?aL ?_; (case aR => exact cc HR0_8 HB); (case aB => exact (bb HB)); (case aF => exact (fun k_ hk => ⟨Kd.fresh' (Kd.R_lt (rr HO171)) k_ hk, Kd.fresh' (Kd.R_lt (rr HO183)) k_ hk⟩)); (case aO => exact (ro HO186 (fun _ hk => ⟨hk.1.2, hk.2⟩))); (case aS => exact (below_size (bb HB))); (case aL => have := LMc6.out; omega); intro v188 w37 ho hb hg hat; rw [← Ny187.out] at ho; replace BK158 := dk (blk_grown (g := gb158) (o := .cells #[.slice Ao14 y163.length co14, .int .i64 a0_1, .int .i64 a0_2, .int .i64 a0_3, .slice Ao20 y169.length co20, .bool a0_5, .slice Ao26 y175.length co26, .slice Ao32 y181.length co32, .slice A0_8 l0_8.length c0_8] 36 (0, 0)) (bk BK158) hg (Kd.R_ne HO186.out BK158.out (by decide))); replace BK159 := dk (blk_grown (g := gb159) (o := .cells #[.slice none 0 0, .int .i64 0, .int .i64 0, .int .i64 0, .slice none 0 0, .bool false, .slice none 0 0, .slice none 0 0, .slice none 0 0] 36 (0, 0)) (bk BK159) hg (Kd.R_ne HO186.out BK159.out (by decide))); replace HO165 := dk (Kd.R_over' (rr HO165) (Kd.R_typed (rr HO186)) (by decide) hg); replace HO171 := dk (Kd.R_after (ok := (fun k_ => nb k_ Ao32 y181.length co32)) (ro HO171 (fun _ hk => ⟨hk.1.2, hk.2⟩)) hg hat); replace HO177 := dk (Kd.R_over' (rr HO177) (Kd.R_typed (rr HO186)) (by decide) hg); replace HO183 := dk (Kd.R_after (ok := (fun k_ => nb k_ Ao20 y169.length co20)) (rr HO183) hg hat); replace HB := dk (hb); have HO189 := dk (ho); clear HO186 ho hb hg hat; obtain ⟨Ao38, co38, eo38⟩ := Kd.R_slice HO189.out; subst eo38; have ⟨z39_0, z39_1, z39_2, z39_3, z39_4, z39_5, z39_6, z39_7, z39_8, v39_0, v39_1, v39_2, v39_3, v39_4, v39_5, v39_6, v39_7, v39_8⟩ := rz9 BK158; have ⟨z40_0, z40_1, z40_2, z40_3, z40_4, z40_5, z40_6, z40_7, z40_8, v40_0, v40_1, v40_2, v40_3, v40_4, v40_5, v40_6, v40_7, v40_8⟩ := rz9 BK159))
      refine bodyPost_ret (results_cell_row rfl _ _ gb159 36 #[.slice Ao14 y163.length co14, .int .i64 a0_1, .int .i64 a0_2, .int .i64 a0_3, .slice Ao20 y169.length co20, .bool a0_5, .slice Ao26 y175.length co26, .slice Ao32 y181.length co32, .slice Ao38 y187.length co38] (0, 0) _ rfl (by (with_reducible repeat (first | refine blk_drewN ?_ _ | refine blk_drew ?_ | refine blk_alloc ?_ _)); refine blk_put (cs := #[.slice Ao14 y163.length co14, .int .i64 a0_1, .int .i64 a0_2, .int .i64 a0_3, .slice Ao20 y169.length co20, .bool a0_5, .slice Ao26 y175.length co26, .slice Ao32 y181.length co32, .slice none 0 0]) ?_ 8 _ rfl; (with_reducible repeat (first | refine blk_drewN ?_ _ | refine blk_drew ?_ | refine blk_alloc ?_ _)); refine blk_put (cs := #[.slice Ao14 y163.length co14, .int .i64 a0_1, .int .i64 a0_2, .int .i64 a0_3, .slice Ao20 y169.length co20, .bool a0_5, .slice Ao26 y175.length co26, .slice none 0 0, .slice none 0 0]) ?_ 7 _ rfl; (with_reducible repeat (first | refine blk_drewN ?_ _ | refine blk_drew ?_ | refine blk_alloc ?_ _)); refine blk_put (cs := #[.slice Ao14 y163.length co14, .int .i64 a0_1, .int .i64 a0_2, .int .i64 a0_3, .slice Ao20 y169.length co20, .bool a0_5, .slice none 0 0, .slice none 0 0, .slice none 0 0]) ?_ 6 _ rfl; (with_reducible repeat (first | refine blk_drewN ?_ _ | refine blk_drew ?_ | refine blk_alloc ?_ _)); refine blk_put (cs := #[.slice Ao14 y163.length co14, .int .i64 a0_1, .int .i64 a0_2, .int .i64 a0_3, .slice Ao20 y169.length co20, .bool false, .slice none 0 0, .slice none 0 0, .slice none 0 0]) ?_ 5 _ rfl; (with_reducible repeat (first | refine blk_drewN ?_ _ | refine blk_drew ?_ | refine blk_alloc ?_ _)); refine blk_put (cs := #[.slice Ao14 y163.length co14, .int .i64 a0_1, .int .i64 a0_2, .int .i64 a0_3, .slice none 0 0, .bool false, .slice none 0 0, .slice none 0 0, .slice none 0 0]) ?_ 4 _ rfl; (with_reducible repeat (first | refine blk_drewN ?_ _ | refine blk_drew ?_ | refine blk_alloc ?_ _)); refine blk_put (cs := #[.slice Ao14 y163.length co14, .int .i64 a0_1, .int .i64 a0_2, .int .i64 0, .slice none 0 0, .bool false, .slice none 0 0, .slice none 0 0, .slice none 0 0]) ?_ 3 _ rfl; (with_reducible repeat (first | refine blk_drewN ?_ _ | refine blk_drew ?_ | refine blk_alloc ?_ _)); refine blk_put (cs := #[.slice Ao14 y163.length co14, .int .i64 a0_1, .int .i64 0, .int .i64 0, .slice none 0 0, .bool false, .slice none 0 0, .slice none 0 0, .slice none 0 0]) ?_ 2 _ rfl; (with_reducible repeat (first | refine blk_drewN ?_ _ | refine blk_drew ?_ | refine blk_alloc ?_ _)); refine blk_put (cs := #[.slice Ao14 y163.length co14, .int .i64 0, .int .i64 0, .int .i64 0, .slice none 0 0, .bool false, .slice none 0 0, .slice none 0 0, .slice none 0 0]) ?_ 1 _ rfl; (with_reducible repeat (first | refine blk_drewN ?_ _ | refine blk_drew ?_ | refine blk_alloc ?_ _)); refine blk_put (cs := #[.slice none 0 0, .int .i64 0, .int .i64 0, .int .i64 0, .slice none 0 0, .bool false, .slice none 0 0, .slice none 0 0, .slice none 0 0]) ?_ 0 _ rfl; exact bf NB159_158.out BK159) Try.underlying36 rfl (by kernel_rfl)) rfl ?_
      exact ⟨_, _, _, _, _, ee, by (with_reducible repeat (first | apply Kd.R_alloc | apply Kd.R_drewN | apply Kd.R_drew)); exact Kd.R_mono (Kd.R_far (p := ⟨gb159, 8, none⟩) (Kd.R_far (p := ⟨gb159, 7, none⟩) (Kd.R_far (p := ⟨gb159, 6, none⟩) (Kd.R_far (p := ⟨gb159, 5, none⟩) (Kd.R_far (p := ⟨gb159, 4, none⟩) (Kd.R_far (p := ⟨gb159, 3, none⟩) (Kd.R_far (p := ⟨gb159, 2, none⟩) (Kd.R_far (p := ⟨gb159, 1, none⟩) (Kd.R_far (p := ⟨gb159, 0, none⟩) (Kd.R_far (p := ⟨gb158, 8, none⟩) (Kd.R_types (Kd.R_types HO165.out BK158.out (by decide)) BK159.out (by decide)) (fun _ hk => hk.1.2) (.slice Ao38 y187.length co38)) (fun _ hk => hk.2) (.slice Ao14 y163.length co14)) (fun _ hk => hk.2) (.int .i64 a0_1)) (fun _ hk => hk.2) (.int .i64 a0_2)) (fun _ hk => hk.2) (.int .i64 a0_3)) (fun _ hk => hk.2) (.slice Ao20 y169.length co20)) (fun _ hk => hk.2) (.bool a0_5)) (fun _ hk => hk.2) (.slice Ao26 y175.length co26)) (fun _ hk => hk.2) (.slice Ao32 y181.length co32)) (fun _ hk => hk.2) (.slice Ao38 y187.length co38)) (fun _ hk => trivial), by (with_reducible repeat (first | apply Kd.R_alloc | apply Kd.R_drewN | apply Kd.R_drew)); exact Kd.R_mono (Kd.R_far (p := ⟨gb159, 8, none⟩) (Kd.R_far (p := ⟨gb159, 7, none⟩) (Kd.R_far (p := ⟨gb159, 6, none⟩) (Kd.R_far (p := ⟨gb159, 5, none⟩) (Kd.R_far (p := ⟨gb159, 4, none⟩) (Kd.R_far (p := ⟨gb159, 3, none⟩) (Kd.R_far (p := ⟨gb159, 2, none⟩) (Kd.R_far (p := ⟨gb159, 1, none⟩) (Kd.R_far (p := ⟨gb159, 0, none⟩) (Kd.R_far (p := ⟨gb158, 8, none⟩) (Kd.R_types (Kd.R_types HO171.out BK158.out (by decide)) BK159.out (by decide)) (fun _ hk => hk.1.2) (.slice Ao38 y187.length co38)) (fun _ hk => hk.2) (.slice Ao14 y163.length co14)) (fun _ hk => hk.2) (.int .i64 a0_1)) (fun _ hk => hk.2) (.int .i64 a0_2)) (fun _ hk => hk.2) (.int .i64 a0_3)) (fun _ hk => hk.2) (.slice Ao20 y169.length co20)) (fun _ hk => hk.2) (.bool a0_5)) (fun _ hk => hk.2) (.slice Ao26 y175.length co26)) (fun _ hk => hk.2) (.slice Ao32 y181.length co32)) (fun _ hk => hk.2) (.slice Ao38 y187.length co38)) (fun _ hk => ⟨hk.1.1.1, hk.1.1.2⟩), by (with_reducible repeat (first | apply Kd.R_alloc | apply Kd.R_drewN | apply Kd.R_drew)); exact Kd.R_mono (Kd.R_far (p := ⟨gb159, 8, none⟩) (Kd.R_far (p := ⟨gb159, 7, none⟩) (Kd.R_far (p := ⟨gb159, 6, none⟩) (Kd.R_far (p := ⟨gb159, 5, none⟩) (Kd.R_far (p := ⟨gb159, 4, none⟩) (Kd.R_far (p := ⟨gb159, 3, none⟩) (Kd.R_far (p := ⟨gb159, 2, none⟩) (Kd.R_far (p := ⟨gb159, 1, none⟩) (Kd.R_far (p := ⟨gb159, 0, none⟩) (Kd.R_far (p := ⟨gb158, 8, none⟩) (Kd.R_types (Kd.R_types HO177.out BK158.out (by decide)) BK159.out (by decide)) (fun _ hk => hk.1.2) (.slice Ao38 y187.length co38)) (fun _ hk => hk.2) (.slice Ao14 y163.length co14)) (fun _ hk => hk.2) (.int .i64 a0_1)) (fun _ hk => hk.2) (.int .i64 a0_2)) (fun _ hk => hk.2) (.int .i64 a0_3)) (fun _ hk => hk.2) (.slice Ao20 y169.length co20)) (fun _ hk => hk.2) (.bool a0_5)) (fun _ hk => hk.2) (.slice Ao26 y175.length co26)) (fun _ hk => hk.2) (.slice Ao32 y181.length co32)) (fun _ hk => hk.2) (.slice Ao38 y187.length co38)) (fun _ hk => trivial), by (with_reducible repeat (first | apply Kd.R_alloc | apply Kd.R_drewN | apply Kd.R_drew)); exact Kd.R_mono (Kd.R_far (p := ⟨gb159, 8, none⟩) (Kd.R_far (p := ⟨gb159, 7, none⟩) (Kd.R_far (p := ⟨gb159, 6, none⟩) (Kd.R_far (p := ⟨gb159, 5, none⟩) (Kd.R_far (p := ⟨gb159, 4, none⟩) (Kd.R_far (p := ⟨gb159, 3, none⟩) (Kd.R_far (p := ⟨gb159, 2, none⟩) (Kd.R_far (p := ⟨gb159, 1, none⟩) (Kd.R_far (p := ⟨gb159, 0, none⟩) (Kd.R_far (p := ⟨gb158, 8, none⟩) (Kd.R_types (Kd.R_types HO183.out BK158.out (by decide)) BK159.out (by decide)) (fun _ hk => hk.1.2) (.slice Ao38 y187.length co38)) (fun _ hk => hk.2) (.slice Ao14 y163.length co14)) (fun _ hk => hk.2) (.int .i64 a0_1)) (fun _ hk => hk.2) (.int .i64 a0_2)) (fun _ hk => hk.2) (.int .i64 a0_3)) (fun _ hk => hk.2) (.slice Ao20 y169.length co20)) (fun _ hk => hk.2) (.bool a0_5)) (fun _ hk => hk.2) (.slice Ao26 y175.length co26)) (fun _ hk => hk.2) (.slice Ao32 y181.length co32)) (fun _ hk => hk.2) (.slice Ao38 y187.length co38)) (fun _ hk => ⟨hk.1.1.1, hk.1.1.2⟩), by (with_reducible repeat (first | apply Kd.R_alloc | apply Kd.R_drewN | apply Kd.R_drew)); exact Kd.R_mono (Kd.R_far (p := ⟨gb159, 8, none⟩) (Kd.R_far (p := ⟨gb159, 7, none⟩) (Kd.R_far (p := ⟨gb159, 6, none⟩) (Kd.R_far (p := ⟨gb159, 5, none⟩) (Kd.R_far (p := ⟨gb159, 4, none⟩) (Kd.R_far (p := ⟨gb159, 3, none⟩) (Kd.R_far (p := ⟨gb159, 2, none⟩) (Kd.R_far (p := ⟨gb159, 1, none⟩) (Kd.R_far (p := ⟨gb159, 0, none⟩) (Kd.R_far (p := ⟨gb158, 8, none⟩) (Kd.R_types (Kd.R_types HO189.out BK158.out (by decide)) BK159.out (by decide)) (fun _ hk => hk.1.2) (.slice Ao38 y187.length co38)) (fun _ hk => hk.2) (.slice Ao14 y163.length co14)) (fun _ hk => hk.2) (.int .i64 a0_1)) (fun _ hk => hk.2) (.int .i64 a0_2)) (fun _ hk => hk.2) (.int .i64 a0_3)) (fun _ hk => hk.2) (.slice Ao20 y169.length co20)) (fun _ hk => hk.2) (.bool a0_5)) (fun _ hk => hk.2) (.slice Ao26 y175.length co26)) (fun _ hk => hk.2) (.slice Ao32 y181.length co32)) (fun _ hk => hk.2) (.slice Ao38 y187.length co38)) (fun _ hk => ⟨hk.1.1.1, hk.1.1.2⟩), bb HB⟩
     ·rw [if_neg c6] at H
      exact absurd H (by simp)
    ·rw [if_neg c5] at H
     exact absurd H (by simp)
   ·rw [if_neg c4] at H
    exact absurd H (by simp)
  ·rw [if_neg c3] at H
   exact absurd H (by simp)
 ·rw [if_neg c2] at H
  exact absurd H (by simp)
def spec_PlayGame.f (a0_0 : Int) (a0_1 : Int) (a0_2 : Int) (a0_3 : Int) (a0_4 : Int) (a1 : Int) : Option (Int × Int × Int × Int × Int) := (spec_l01In.f a1 1 3).bind fun t1388 => (if t1388 = true then (if a1 = 1 then (if a1 = 3 then (some (a0_0, a0_1, 1, 1, 1)) else (some (a0_0, a0_1, 1, 0, 1))) else (if a1 = 3 then (some (a0_0, a0_1, 0, 1, 1)) else (some (a0_0, a0_1, 0, 0, 1)))) else (some (a0_0, a0_1, a0_2, a0_3, a0_4)))
theorem spec_PlayGame.calls (a0_0 : Int) (a0_1 : Int) (a0_2 : Int) (a0_3 : Int) (a0_4 : Int) (a1 : Int) (r1 : Int) (r2 : Int) (r3 : Int) (r4 : Int) (r5 : Int) (w : World) (h : spec_PlayGame.f a0_0 a0_1 a0_2 a0_3 a0_4 a1 = some (r1, r2, r3, r4, r5)) :
    Calls Try.prog 172 #[.agg #[.int .i64 a0_0, .int .i64 a0_1, .int .i64 a0_2, .int .i64 a0_3, .int .i64 a0_4], .int .i64 a1] w fun e w' => e = .returned (.agg #[.int .i64 r1, .int .i64 r2, .int .i64 r3, .int .i64 r4, .int .i64 r5]) ∧ Below w.heap.size w w' := by
  unfold spec_PlayGame.f at h
  obtain ⟨b, hb, h⟩ := Option.bind_eq_some_iff.mp h
  have hb' := hb
  have HW := dk hb
  clear hb
  unfold spec_l01In.f at hb'
  by_cases hc0 : 1 ≤ a1 ∧ a1 ≤ 3
  · have hbt : b = true := by rw [if_pos (show a1 ≥ 1 from hc0.1)] at hb'; simpa [hc0.2] using hb'.symm
    subst hbt
    clear hb'
    rw [if_pos rfl] at h
    have hc : a1 = 1 ∨ a1 = 2 ∨ a1 = 3 := by omega
    rcases hc with rfl | rfl | rfl
    all_goals
      simp at h
      obtain ⟨rfl, rfl, rfl, rfl, rfl⟩ := h
      clear hc0
      go_enter Try.func172, Try.ntmps172
      have sd := my_setCell_drewN
      have ad := my_alloc_drewN
      go_wp2_with (go_at_call 76; refine (spec_l01In.calls _ _ _ _ _ HW.out).mono ?_; rintro e w' ⟨rfl, ⟨nd, rfl⟩⟩)
      refine bodyPost_ret (v := .agg #[.int .i64 _, .int .i64 _, .int .i64 _, .int .i64 _, .int .i64 _]) (by simp [results, Try.results172, go_sem]) rfl ⟨rfl, (by repeat (first | exact Below.refl _ _ | apply below_alloc | apply pw_below_drewN | apply below_drew1 | refine below_set ?_ (by simp; try omega)))⟩
  · have hbt : b = false := by
      by_cases h1 : 1 ≤ a1
      · rw [if_pos h1] at hb'; simp at hb'; rw [← hb']; simp; omega
      · rw [if_neg h1] at hb'; simpa using hb'.symm
    subst hbt
    clear hb'
    simp at h
    obtain ⟨rfl, rfl, rfl, rfl, rfl⟩ := h
    clear hc0
    go_enter Try.func172, Try.ntmps172
    have sd := my_setCell_drewN
    have ad := my_alloc_drewN
    go_wp2_with (go_at_call 76; refine (spec_l01In.calls _ _ _ _ _ HW.out).mono ?_; rintro e w' ⟨rfl, ⟨nd, rfl⟩⟩)
    refine bodyPost_ret (v := .agg #[.int .i64 _, .int .i64 _, .int .i64 _, .int .i64 _, .int .i64 _]) (by simp [results, Try.results172, go_sem]) rfl ⟨rfl, (by repeat (first | exact Below.refl _ _ | apply below_alloc | apply pw_below_drewN | apply below_drew1 | refine below_set ?_ (by simp; try omega)))⟩
def spec_l16With.l0 : Nat → List Int → List Int → Int → Int → List (S139) → Int → Int → Int → List Int → Bool → List (S95) → List Int → List Int → Option ((List (S139)) × Int × Int × Int × List Int × Bool × (List (S95)) × List Int × List Int)
 | 0, _, _, _, _, _, _, _, _, _, _, _, _, _ => none
 | k + 1, x2, x12, x13, x14, x1411000, x1411001, x1411002, x1411003, x1411004, x1411005, x1411006, x1411007, x1411008 => if x14 < x13 then (if 0 ≤ x14 then (if x14 < (x12.length : Int) then (if 0 ≤ (rd x12 x14) then (if (rd x12 x14) < (x1411006.length : Int) then (if x14 < (x2.length : Int) then ((spec_PlayGame.f ((rd_T95 x1411006 (rd x12 x14)).f0) ((rd_T95 x1411006 (rd x12 x14)).f1) ((rd_T95 x1411006 (rd x12 x14)).f2) ((rd_T95 x1411006 (rd x12 x14)).f3) ((rd_T95 x1411006 (rd x12 x14)).f4) (rd x2 x14)).bind fun bt1414 => (spec_l16With.l0 k x2 x12 x13 (wrap64 (x14 + 1)) x1411000 x1411001 x1411002 x1411003 x1411004 x1411005 (x1411006.set ((rd x12 x14) : Int).toNat (⟨bt1414.1, bt1414.2.1, bt1414.2.2.1, bt1414.2.2.2.1, bt1414.2.2.2.2⟩ : S95)) x1411007 x1411008)) else (none)) else (none)) else (none)) else (none)) else (none)) else (some (x1411000, x1411001, x1411002, x1411003, x1411004, x1411005, x1411006, x1411007, x1411008))
def spec_l16With.f (k : Nat) (l0_0 : List (S139)) (a0_1 : Int) (a0_2 : Int) (a0_3 : Int) (l0_4 : List Int) (a0_5 : Bool) (l0_6 : List (S95)) (l0_7 : List Int) (l0_8 : List Int) (l1 : List Int) (l2 : List Int) : Option ((List (S139)) × Int × Int × Int × List Int × Bool × (List (S95)) × List Int × List Int) := (spec_l16Copy.f l0_0 a0_1 a0_2 a0_3 l0_4 a0_5 l0_6 l0_7 l0_8).bind fun bt1391 => (spec_l16With.l0 k l2 l1 (l1.length : Int) 0 bt1391.1 bt1391.2.1 bt1391.2.2.1 bt1391.2.2.2.1 bt1391.2.2.2.2.1 bt1391.2.2.2.2.2.1 bt1391.2.2.2.2.2.2.1 bt1391.2.2.2.2.2.2.2.1 bt1391.2.2.2.2.2.2.2.2)
def spec_l16With.T5 : Bool × List (List Nat × List Nat) := (true, [([], []), ([0], [0]), ([], []), ([], []), ([3], [3]), ([], []), ([4, 5], [4, 5]), ([6], [6]), ([], []), ([], []), ([8, 9], [8, 9]), ([10], [10]), ([7, 11], [7, 11]), ([1, 2, 0, 1, 2, 3, 4, 5, 6, 7, 8, 9, 10, 11, 12], [1, 2]), ([13, 12, 12, 0, 1, 2, 3, 4, 5, 6, 7, 8, 9, 10, 11, 12], [12, 13])])
def spec_l16With.B5 : List Nat := [0, 1, 0, 0, 8, 0, 56, 120, 0, 0, 768, 1792, 4088, 8191, 16383]
theorem spec_l16With.tab5 : rtab .any (opsOf Try.f139 5) = spec_l16With.T5 := by kernel_rfl
theorem spec_l16With.bits5 : waitsOk spec_l16With.T5.2 spec_l16With.B5 = true := by kernel_rfl
theorem spec_l16With.calls (k : Nat) (A0_0 : Option Addr) (c0_0 : Nat) (l0_0 : List (S139)) (a0_1 : Int) (a0_2 : Int) (a0_3 : Int) (A0_4 : Option Addr) (c0_4 : Nat) (l0_4 : List Int) (a0_5 : Bool) (A0_6 : Option Addr) (c0_6 : Nat) (l0_6 : List (S95)) (A0_7 : Option Addr) (c0_7 : Nat) (l0_7 : List Int) (A0_8 : Option Addr) (c0_8 : Nat) (l0_8 : List Int) (A1 : Option Addr) (c1 : Nat) (l1 : List Int) (A2 : Option Addr) (c2 : Nat) (l2 : List Int) (r1 : List (S139)) (r2 : Int) (r3 : Int) (r4 : Int) (r5 : List Int) (r6 : Bool) (r7 : List (S95)) (r8 : List Int) (r9 : List Int) (w : World) (hr0_0 : Kd.C k139 w A0_0 l0_0.length l0_0) (hc0_0 : l0_0.length ≤ c0_0) (hr0_4 : Kd.C (Kd.int .i64) w A0_4 l0_4.length l0_4) (hc0_4 : l0_4.length ≤ c0_4) (hr0_6 : Kd.C k95 w A0_6 l0_6.length l0_6) (hc0_6 : l0_6.length ≤ c0_6) (hr0_7 : Kd.C (Kd.int .i64) w A0_7 l0_7.length l0_7) (hc0_7 : l0_7.length ≤ c0_7) (hr0_8 : Kd.C (Kd.int .i64) w A0_8 l0_8.length l0_8) (hc0_8 : l0_8.length ≤ c0_8) (hr1 : Kd.C (Kd.int .i64) w A1 l1.length l1) (hc1 : l1.length ≤ c1) (hr2 : Kd.C (Kd.int .i64) w A2 l2.length l2) (hc2 : l2.length ≤ c2) (h : spec_l16With.f k l0_0 a0_1 a0_2 a0_3 l0_4 a0_5 l0_6 l0_7 l0_8 l1 l2 = some (r1, r2, r3, r4, r5, r6, r7, r8, r9)) :
  Calls Try.prog 139 #[.agg #[.slice A0_0 l0_0.length c0_0, .int .i64 a0_1, .int .i64 a0_2, .int .i64 a0_3, .slice A0_4 l0_4.length c0_4, .bool a0_5, .slice A0_6 l0_6.length c0_6, .slice A0_7 l0_7.length c0_7, .slice A0_8 l0_8.length c0_8], .slice A1 l1.length c1, .slice A2 l2.length c2] w fun e w' => ∃ v0_ v4_ v6_ v7_ v8_ : Value, e = .returned (.agg #[v0_, .int .i64 r2, .int .i64 r3, .int .i64 r4, v4_, .bool r6, v6_, v7_, v8_]) ∧ Kd.R k139 139 w' w.heap.size (fun _ => True) v0_ r1 ∧ Kd.R (Kd.int .i64) 3 w' w.heap.size (fun k_ => some k_ ≠ (v7_ : Value).ownBlock ∧ some k_ ≠ (v8_ : Value).ownBlock) v4_ r5 ∧ Kd.R k95 95 w' w.heap.size (fun _ => True) v6_ r7 ∧ Kd.R (Kd.int .i64) 3 w' w.heap.size (fun k_ => some k_ ≠ (v4_ : Value).ownBlock ∧ some k_ ≠ (v8_ : Value).ownBlock) v7_ r8 ∧ Kd.R (Kd.int .i64) 3 w' w.heap.size (fun k_ => some k_ ≠ (v4_ : Value).ownBlock ∧ some k_ ≠ (v7_ : Value).ownBlock) v8_ r9 ∧ Below w.heap.size w w' := by
 have hu36 := Try.underlying36
 have hu95 := Try.underlying95
 have HR0_0 := dk hr0_0
 have HC0_0 := dk hc0_0
 clear hr0_0 hc0_0
 have HR0_4 := dk hr0_4
 have HC0_4 := dk hc0_4
 clear hr0_4 hc0_4
 have HR0_6 := dk hr0_6
 have HC0_6 := dk hc0_6
 clear hr0_6 hc0_6
 have HR0_7 := dk hr0_7
 have HC0_7 := dk hc0_7
 clear hr0_7 hc0_7
 have HR0_8 := dk hr0_8
 have HC0_8 := dk hc0_8
 clear hr0_8 hc0_8
 have HR1 := dk hr1
 have HC1 := dk hc1
 clear hr1 hc1
 have HR2 := dk hr2
 have HC2 := dk hc2
 clear hr2 hc2
 have HB := hb0 w
 have H : ((spec_l16Copy.f l0_0 a0_1 a0_2 a0_3 l0_4 a0_5 l0_6 l0_7 l0_8).bind fun bt1391 => (spec_l16With.l0 k l2 l1 (l1.length : Int) 0 bt1391.1 bt1391.2.1 bt1391.2.2.1 bt1391.2.2.2.1 bt1391.2.2.2.2.1 bt1391.2.2.2.2.2.1 bt1391.2.2.2.2.2.2.1 bt1391.2.2.2.2.2.2.2.1 bt1391.2.2.2.2.2.2.2.2)) = some (r1, r2, r3, r4, r5, r6, r7, r8, r9) := h
 clear h
 replace H := Option.bind_eq_some_iff.mp H
 obtain ⟨⟨t1391, t1394, t1395, t1396, t1397, t1400, t1401, t1404, t1407⟩, A40, H⟩ := H
 replace H : (spec_l16With.l0 k l2 l1 (l1.length : Int) 0 t1391 t1394 t1395 t1396 t1397 t1400 t1401 t1404 t1407) = some (r1, r2, r3, r4, r5, r6, r7, r8, r9) := H
 have A4 := dk A40
 clear A40
 have H' := dk H
 clear H
 go_enter Try.func139, Try.ntmps139
 go_wp2_with (first | ((with_reducible refine gdst_ 3 rfl ?_); refine bx (N := 3) (cs := #[.slice A0_0 l0_0.length c0_0, .int .i64 a0_1, .int .i64 a0_2, .int .i64 a0_3, .slice A0_4 l0_4.length c0_4, .bool a0_5, .slice A0_6 l0_6.length c0_6, .slice A0_7 l0_7.length c0_7, .slice A0_8 l0_8.length c0_8]) (t := 36) ?_; intro gb1389 hg w5 hbox hb; have BK1389 := dk (hbox); have GW1389 := gs hg HB; have GE1389 := gs hg HB; replace HB := hs_ HB hb; clear hb hbox hg) | ((with_reducible refine gdst_ 6 rfl ?_); refine bx (N := 6) (cs := #[.slice none 0 0, .int .i64 0, .int .i64 0, .int .i64 0, .slice none 0 0, .bool false, .slice none 0 0, .slice none 0 0, .slice none 0 0]) (t := 36) ?_; intro gb1390 hg w6 hbox hb; have BK1390 := dk (hbox); have GW1390 := gs hg HB; have GE1390 := gs hg HB; replace HB := hs_ HB hb; have NB1389_1390 := gn hg BK1389; have NB1390_1389 := gm hg BK1389; replace BK1389 := kb BK1389 hb; clear hb hbox hg; have hnb7 := NB1389_1390.out; have hnc7 := NB1390_1389.out; have ⟨z8_0, z8_1, z8_2, z8_3, z8_4, z8_5, z8_6, z8_7, z8_8, v8_0, v8_1, v8_2, v8_3, v8_4, v8_5, v8_6, v8_7, v8_8⟩ := rz9 BK1389) | ((with_reducible refine gcallee_ 56 rfl ?_); refine gl (some 11) Try.func56 #[.agg #[.slice A0_0 l0_0.length c0_0, .int .i64 a0_1, .int .i64 a0_2, .int .i64 a0_3, .slice A0_4 l0_4.length c0_4, .bool a0_5, .slice A0_6 l0_6.length c0_6, .slice A0_7 l0_7.length c0_7, .slice A0_8 l0_8.length c0_8]] ?_; (with_reducible refine (spec_l16Copy.calls _ _ l0_0 a0_1 a0_2 a0_3 _ _ l0_4 a0_5 _ _ l0_6 _ _ l0_7 _ _ l0_8 t1391 t1394 t1395 t1396 t1397 t1400 t1401 t1404 t1407 _ ?side1 ?side2 ?side3 ?side4 ?side5 ?side6 ?side7 ?side8 ?side9 ?side10 A4.out).mono ?_); (case side1 => exact cc HR0_0 HB); (case side2 => exact HC0_0.out); (case side3 => exact cc HR0_4 HB); (case side4 => exact HC0_4.out); (case side5 => exact cc HR0_6 HB); (case side6 => exact HC0_6.out); (case side7 => exact cc HR0_7 HB); (case side8 => exact HC0_7.out); (case side9 => exact cc HR0_8 HB); (case side10 => exact HC0_8.out); rintro e w9 ⟨v1392, v1398, v1402, v1405, v1408, rfl, ho0, ho1, ho2, ho3, ho4, hb⟩; refine ⟨_, rfl, ?_⟩; have HO1393 := kl ho0 HB; have HO1399 := kl ho1 HB; have HO1403 := kl ho2 HB; have HO1406 := kl ho3 HB; have HO1409 := kl ho4 HB; replace BK1389 := kb BK1389 hb; replace BK1390 := kb BK1390 hb; replace HB := hs_ HB hb) | ((with_reducible refine gdst_ 7 rfl ?_); refine bx (N := 7) (cs := #[.slice none 0 0, .int .i64 0, .int .i64 0, .int .i64 0, .slice none 0 0, .bool false, .slice none 0 0, .slice none 0 0, .slice none 0 0]) (t := 36) ?_; intro gb1410 hg w10 hbox hb; replace HO1393 := kr HO1393 hb; replace HO1399 := kr HO1399 hb; replace HO1403 := kr HO1403 hb; replace HO1406 := kr HO1406 hb; replace HO1409 := kr HO1409 hb; have BK1410 := dk (hbox); have GW1410 := gs hg HB; have GE1410 := gs hg HB; replace HB := hs_ HB hb; have NB1389_1410 := gn hg BK1389; have NB1410_1389 := gm hg BK1389; replace BK1389 := kb BK1389 hb; have NB1390_1410 := gn hg BK1390; have NB1410_1390 := gm hg BK1390; replace BK1390 := kb BK1390 hb; clear hb hbox hg; obtain ⟨Ao11, co11, eo11⟩ := Kd.R_slice HO1393.out; subst eo11; have hnb12 := NB1410_1389.out; have hnc12 := NB1389_1410.out; have hnb13 := NB1410_1390.out; have hnc13 := NB1390_1410.out; have ⟨z14_0, z14_1, z14_2, z14_3, z14_4, z14_5, z14_6, z14_7, z14_8, v14_0, v14_1, v14_2, v14_3, v14_4, v14_5, v14_6, v14_7, v14_8⟩ := rz9 BK1410; obtain ⟨Ao15, co15, eo15⟩ := Kd.R_slice HO1399.out; subst eo15; obtain ⟨Ao16, co16, eo16⟩ := Kd.R_slice HO1403.out; subst eo16; obtain ⟨Ao17, co17, eo17⟩ := Kd.R_slice HO1406.out; subst eo17; obtain ⟨Ao18, co18, eo18⟩ := Kd.R_slice HO1409.out; subst eo18))
 go_loopg [14] k (fun kq v14 w' => ∃ (x14_1 : Int) (x1411006_1 : List (S95)) (u1411006 : Value), v14 = .int .i64 x14_1 ∧ Aside0 (spec_l16With.l0 kq l2 l1 (l1.length : Int) x14_1 t1391 t1394 t1395 t1396 t1397 t1400 x1411006_1 t1404 t1407 = some (r1, r2, r3, r4, r5, r6, r7, r8, r9)) ∧ Aside0 (kq ≤ k) ∧ Aside0 (Kd.R k139 139 w' w.heap.size (fun _ => True) (.slice Ao11 t1391.length co11) t1391) ∧ Aside0 (Kd.R (Kd.int .i64) 3 w' w.heap.size (fun k_ => nb k_ Ao17 t1404.length co17 ∧ nb k_ Ao18 t1407.length co18) (.slice Ao15 t1397.length co15) t1397) ∧ Aside0 (Kd.R k95 95 w' w.heap.size (fun _ => True) u1411006 x1411006_1) ∧ Aside0 (Kd.R (Kd.int .i64) 3 w' w.heap.size (fun k_ => nb k_ Ao15 t1397.length co15 ∧ nb k_ Ao18 t1407.length co18) (.slice Ao17 t1404.length co17) t1404) ∧ Aside0 (Kd.R (Kd.int .i64) 3 w' w.heap.size (fun k_ => nb k_ Ao15 t1397.length co15 ∧ nb k_ Ao17 t1404.length co17) (.slice Ao18 t1407.length co18) t1407) ∧ Aside0 (w'.heap[gb1389]? = some (.cells #[(.slice A0_0 l0_0.length c0_0), .int .i64 a0_1, .int .i64 a0_2, .int .i64 a0_3, (.slice A0_4 l0_4.length c0_4), .bool a0_5, (.slice A0_6 l0_6.length c0_6), (.slice A0_7 l0_7.length c0_7), (.slice A0_8 l0_8.length c0_8)] 36 (0, 0))) ∧ Aside0 (w'.heap[gb1390]? = some (.cells #[(.slice none 0 0), .int .i64 0, .int .i64 0, .int .i64 0, (.slice none 0 0), .bool false, (.slice none 0 0), (.slice none 0 0), (.slice none 0 0)] 36 (0, 0))) ∧ Aside0 (w'.heap[gb1410]? = some (.cells #[(.slice Ao11 t1391.length co11), .int .i64 t1394, .int .i64 t1395, .int .i64 t1396, (.slice Ao15 t1397.length co15), .bool t1400, u1411006, (.slice Ao17 t1404.length co17), (.slice Ao18 t1407.length co18)] 36 (0, 0))) ∧ Aside0 (Below w.heap.size w w'))
 case atStart => exact ⟨(0), (t1401), (.slice Ao16 t1401.length co16), e2_, H', ⟨Nat.le_refl _⟩, ⟨rf HO1393 BK1410 (fun _ hk => trivial)⟩, ⟨rf HO1399 BK1410 (fun _ hk => ⟨hk.1.1, hk.1.2⟩)⟩, ⟨rf HO1403 BK1410 (fun _ hk => trivial)⟩, ⟨rf HO1406 BK1410 (fun _ hk => ⟨hk.1.1, hk.1.2⟩)⟩, ⟨rf HO1409 BK1410 (fun _ hk => ⟨hk.1.1, hk.1.2⟩)⟩, ⟨bf NB1389_1410.out BK1389⟩, ⟨bf NB1390_1410.out BK1390⟩, ⟨by (with_reducible repeat (first | refine blk_drewN ?_ _ | refine blk_drew ?_ | refine blk_alloc ?_ _)); refine blk_put (cs := #[.slice Ao11 t1391.length co11, .int .i64 t1394, .int .i64 t1395, .int .i64 t1396, .slice Ao15 t1397.length co15, .bool t1400, .slice Ao16 t1401.length co16, .slice Ao17 t1404.length co17, .slice none 0 0]) ?_ 8 _ rfl; (with_reducible repeat (first | refine blk_drewN ?_ _ | refine blk_drew ?_ | refine blk_alloc ?_ _)); refine blk_put (cs := #[.slice Ao11 t1391.length co11, .int .i64 t1394, .int .i64 t1395, .int .i64 t1396, .slice Ao15 t1397.length co15, .bool t1400, .slice Ao16 t1401.length co16, .slice none 0 0, .slice none 0 0]) ?_ 7 _ rfl; (with_reducible repeat (first | refine blk_drewN ?_ _ | refine blk_drew ?_ | refine blk_alloc ?_ _)); refine blk_put (cs := #[.slice Ao11 t1391.length co11, .int .i64 t1394, .int .i64 t1395, .int .i64 t1396, .slice Ao15 t1397.length co15, .bool t1400, .slice none 0 0, .slice none 0 0, .slice none 0 0]) ?_ 6 _ rfl; (with_reducible repeat (first | refine blk_drewN ?_ _ | refine blk_drew ?_ | refine blk_alloc ?_ _)); refine blk_put (cs := #[.slice Ao11 t1391.length co11, .int .i64 t1394, .int .i64 t1395, .int .i64 t1396, .slice Ao15 t1397.length co15, .bool false, .slice none 0 0, .slice none 0 0, .slice none 0 0]) ?_ 5 _ rfl; (with_reducible repeat (first | refine blk_drewN ?_ _ | refine blk_drew ?_ | refine blk_alloc ?_ _)); refine blk_put (cs := #[.slice Ao11 t1391.length co11, .int .i64 t1394, .int .i64 t1395, .int .i64 t1396, .slice none 0 0, .bool false, .slice none 0 0, .slice none 0 0, .slice none 0 0]) ?_ 4 _ rfl; (with_reducible repeat (first | refine blk_drewN ?_ _ | refine blk_drew ?_ | refine blk_alloc ?_ _)); refine blk_put (cs := #[.slice Ao11 t1391.length co11, .int .i64 t1394, .int .i64 t1395, .int .i64 0, .slice none 0 0, .bool false, .slice none 0 0, .slice none 0 0, .slice none 0 0]) ?_ 3 _ rfl; (with_reducible repeat (first | refine blk_drewN ?_ _ | refine blk_drew ?_ | refine blk_alloc ?_ _)); refine blk_put (cs := #[.slice Ao11 t1391.length co11, .int .i64 t1394, .int .i64 0, .int .i64 0, .slice none 0 0, .bool false, .slice none 0 0, .slice none 0 0, .slice none 0 0]) ?_ 2 _ rfl; (with_reducible repeat (first | refine blk_drewN ?_ _ | refine blk_drew ?_ | refine blk_alloc ?_ _)); refine blk_put (cs := #[.slice Ao11 t1391.length co11, .int .i64 0, .int .i64 0, .int .i64 0, .slice none 0 0, .bool false, .slice none 0 0, .slice none 0 0, .slice none 0 0]) ?_ 1 _ rfl; (with_reducible repeat (first | refine blk_drewN ?_ _ | refine blk_drew ?_ | refine blk_alloc ?_ _)); refine blk_put (cs := #[.slice none 0 0, .int .i64 0, .int .i64 0, .int .i64 0, .slice none 0 0, .bool false, .slice none 0 0, .slice none 0 0, .slice none 0 0]) ?_ 0 _ rfl; (with_reducible repeat (first | refine blk_drewN ?_ _ | refine blk_drew ?_ | refine blk_alloc ?_ _)); exact BK1410.out⟩, ⟨bb HB⟩⟩
 case round =>
  clear H'
  obtain ⟨x14_1, x1411006_1, u1411006, rfl, HA, HK1, HO_1411000, HO_1411004, HO_1411006, HO_1411007, HO_1411008, BK1389, BK1390, BK1410, HB⟩ := hrel
  cases gk with
  | zero => exact absurd HA.out (by simp [spec_l16With.l0])
  | succ k1 =>
   have H := HA.out
   clear HA
   simp only [spec_l16With.l0] at H
   by_cases c19 : x14_1 < (l1.length : Int)
   ·rw [if_pos c19] at H
    have c19b0 := decide_eq_true c19
    clear c19
    by_cases c20 : 0 ≤ x14_1
    ·rw [if_pos c20] at H
     have c20b0 := decide_eq_true c20
     clear c20
     by_cases c21 : x14_1 < (l1.length : Int)
     ·rw [if_pos c21] at H
      have c21b0 := decide_eq_true c21
      clear c21
      by_cases c22 : 0 ≤ (rd l1 x14_1)
      ·rw [if_pos c22] at H
       have c22b0 := decide_eq_true c22
       clear c22
       by_cases c23 : (rd l1 x14_1) < (x1411006_1.length : Int)
       ·rw [if_pos c23] at H
        have c23b0 := decide_eq_true c23
        clear c23
        by_cases c24 : x14_1 < (l2.length : Int)
        ·rw [if_pos c24] at H
         have c24b0 := decide_eq_true c24
         clear c24
         replace H := Option.bind_eq_some_iff.mp H
         obtain ⟨⟨t1414, t1415, t1416, t1417, t1418⟩, A250, H⟩ := H
         replace H : (spec_l16With.l0 k1 l2 l1 (l1.length : Int) (wrap64 (x14_1 + 1)) t1391 t1394 t1395 t1396 t1397 t1400 (x1411006_1.set ((rd l1 x14_1) : Int).toNat (⟨t1414, t1415, t1416, t1417, t1418⟩ : S95)) t1404 t1407) = some (r1, r2, r3, r4, r5, r6, r7, r8, r9) := H
         have A25 := dk A250
         clear A250
         obtain ⟨y1419, hy1419⟩ : ∃ y_ : List (S95), y_ = (x1411006_1.set ((rd l1 x14_1) : Int).toNat (⟨t1414, t1415, t1416, t1417, t1418⟩ : S95)) := ⟨_, rfl⟩
         replace H : (spec_l16With.l0 k1 l2 l1 (l1.length : Int) (wrap64 (x14_1 + 1)) t1391 t1394 t1395 t1396 t1397 t1400 y1419 t1404 t1407) = some (r1, r2, r3, r4, r5, r6, r7, r8, r9) := by first | (rw [hy1419]; with_reducible exact H) | (have H2_ := (Option.bind_some _ _).symm.trans H; rw [hy1419]; with_reducible exact H2_) | (have H2_ := (Option.bind_some _ _).symm.trans H; with_reducible exact H2_) | with_reducible exact H | (rw [hy1419]; exact H) | exact H
         have Ny1419 := dk hy1419
         clear hy1419
         have H' := dk H
         clear H
         have p1411 : 0 ≤ (x14_1 : Int) := oa
         have q1411 : x14_1 < (l1.length : Int) := oa
         obtain ⟨ad1411, e1411, hx1411_0⟩ := Kd.at_int HR1.out x14_1 p1411 q1411
         cases e1411
         replace hx1411_0 := hc HB hx1411_0
         replace p1411 := eq_true p1411
         replace q1411 := eq_true q1411
         try go_wp2
         replace HO_1411000 := dk (Kd.R_drew HO_1411000.out)
         replace HO_1411004 := dk (Kd.R_drew HO_1411004.out)
         replace HO_1411006 := dk (Kd.R_drew HO_1411006.out)
         replace HO_1411007 := dk (Kd.R_drew HO_1411007.out)
         replace HO_1411008 := dk (Kd.R_drew HO_1411008.out)
         replace BK1389 := dk (blk_drew BK1389.out)
         replace BK1390 := dk (blk_drew BK1390.out)
         replace BK1410 := dk (blk_drew BK1410.out)
         replace HB := dk (below_drew1 HB.out)
         obtain ⟨Ao28, co28, eo28⟩ := Kd.R_slice HO_1411006.out
         (first | subst eo28 | (injection eo28 with f1_ f2_ f3_; have f4_ := f1_.symm; have f5_ := f3_.symm; clear f1_ f2_ f3_; subst f4_; subst f5_))
         have p1412 : 0 ≤ ((rd l1 x14_1) : Int) := oa
         have q1412 : (rd l1 x14_1) < (x1411006_1.length : Int) := oa
         obtain ⟨ad1412, e1412, hx1412_0, hx1412_1, hx1412_2, hx1412_3, hx1412_4⟩ := at_T95 (Kd.R_reads' HO_1411006.out).2.2 (rd l1 x14_1) p1412 q1412
         cases e1412
         replace p1412 := eq_true p1412
         replace q1412 := eq_true q1412
         have p1413 : 0 ≤ (x14_1 : Int) := oa
         have q1413 : x14_1 < (l2.length : Int) := oa
         obtain ⟨ad1413, e1413, hx1413_0⟩ := Kd.at_int HR2.out x14_1 p1413 q1413
         have hw1413_0 := hx1413_0
         cases e1413
         replace hx1413_0 := hc HB hx1413_0
         replace p1413 := eq_true p1413
         replace q1413 := eq_true q1413
         refine start_ (n := 15) (S := fun w' => w'.cell? ⟨gb1410, 0, none⟩ = some (.slice Ao11 t1391.length co11) ∧ w'.cell? ⟨gb1410, 1, none⟩ = some (.int .i64 t1394) ∧ w'.cell? ⟨gb1410, 2, none⟩ = some (.int .i64 t1395) ∧ w'.cell? ⟨gb1410, 3, none⟩ = some (.int .i64 t1396) ∧ w'.cell? ⟨gb1410, 4, none⟩ = some (.slice Ao15 t1397.length co15) ∧ w'.cell? ⟨gb1410, 5, none⟩ = some (.bool t1400) ∧ w'.cell? ⟨gb1410, 6, none⟩ = some (.slice (some ad1412) x1411006_1.length co28) ∧ w'.cell? ⟨gb1410, 7, none⟩ = some (.slice Ao17 t1404.length co17) ∧ w'.cell? ⟨gb1410, 8, none⟩ = some (.slice Ao18 t1407.length co18) ∧ w'.cell? (ad1412.add (((rd l1 x14_1)).toNat * 5)) = some (.int .i64 ((rd_T95 x1411006_1 (rd l1 x14_1)).f0)) ∧ w'.cell? ⟨(ad1412.add (((rd l1 x14_1)).toNat * 5)).block, (ad1412.add (((rd l1 x14_1)).toNat * 5)).off + 1, none⟩ = some (.int .i64 ((rd_T95 x1411006_1 (rd l1 x14_1)).f1)) ∧ w'.cell? ⟨(ad1412.add (((rd l1 x14_1)).toNat * 5)).block, (ad1412.add (((rd l1 x14_1)).toNat * 5)).off + 2, none⟩ = some (.int .i64 ((rd_T95 x1411006_1 (rd l1 x14_1)).f2)) ∧ w'.cell? ⟨(ad1412.add (((rd l1 x14_1)).toNat * 5)).block, (ad1412.add (((rd l1 x14_1)).toNat * 5)).off + 3, none⟩ = some (.int .i64 ((rd_T95 x1411006_1 (rd l1 x14_1)).f3)) ∧ w'.cell? ⟨(ad1412.add (((rd l1 x14_1)).toNat * 5)).block, (ad1412.add (((rd l1 x14_1)).toNat * 5)).off + 4, none⟩ = some (.int .i64 ((rd_T95 x1411006_1 (rd l1 x14_1)).f4)) ∧ w'.cell? (ad1413.add (x14_1).toNat) = some (.int .i64 (rd l2 x14_1))) (ds := [14]) #[false, false, false, false, false, false, false, false, false, false, false, false, false, false, false] (by kernel_rfl) rfl rfl ⟨bc BK1410 0, bc BK1410 1, bc BK1410 2, bc BK1410 3, bc BK1410 4, bc BK1410 5, bc BK1410 6, bc BK1410 7, bc BK1410 8, hx1412_0, hx1412_1, hx1412_2, hx1412_3, hx1412_4, (hc HB hw1413_0)⟩ (fun hHeld => ?_); refine with_tabW spec_l16With.tab5 spec_l16With.bits5 (fun HT_ HW_ => ?_)
         generalize wr.drew = w27 at HO_1411000 HO_1411004 HO_1411006 HO_1411007 HO_1411008 BK1389 BK1390 BK1410 HB hx1412_0 hx1412_1 hx1412_2 hx1412_3 hx1412_4 hx1413_0 hHeld ⊢
         refine pz_ 0 19 ?_
         refine pz_ 2 21 ?_
         refine pz_ 3 22 ?_
         refine pz_ 5 24 ?_
         refine pz_ 8 27 ?_
         refine pz_ 9 28 ?_
         refine pz_ 10 29 ?_
         refine tk_ 1 20 ?_
         refine tk_ 4 23 ?_
         refine pz_ 6 25 ?_
         refine tk_ 7 26 ?_
         refine tk_ 11 30 ?_
         refine on_ 12 (some 31) (fun K hK => ?_)
         refine ga_ Try.func172 #[.agg #[.int .i64 ((rd_T95 x1411006_1 (rd l1 x14_1)).f0), .int .i64 ((rd_T95 x1411006_1 (rd l1 x14_1)).f1), .int .i64 ((rd_T95 x1411006_1 (rd l1 x14_1)).f2), .int .i64 ((rd_T95 x1411006_1 (rd l1 x14_1)).f3), .int .i64 ((rd_T95 x1411006_1 (rd l1 x14_1)).f4)], .int .i64 (rd l2 x14_1)] ?_
         with_reducible refine (spec_PlayGame.calls ((rd_T95 x1411006_1 (rd l1 x14_1)).f0) ((rd_T95 x1411006_1 (rd l1 x14_1)).f1) ((rd_T95 x1411006_1 (rd l1 x14_1)).f2) ((rd_T95 x1411006_1 (rd l1 x14_1)).f3) ((rd_T95 x1411006_1 (rd l1 x14_1)).f4) (rd l2 x14_1) t1414 t1415 t1416 t1417 t1418 _ A25.out).mono ?_
         rintro e w29 ⟨rfl, hb⟩
         have HS9_ := hx_ hb hHeld.2.2.2.2.2.2.2.2.2.1
         have HS10_ := hx_ hb hHeld.2.2.2.2.2.2.2.2.2.2.1
         have HS11_ := hx_ hb hHeld.2.2.2.2.2.2.2.2.2.2.2.1
         have HS12_ := hx_ hb hHeld.2.2.2.2.2.2.2.2.2.2.2.2.1
         have HS13_ := hx_ hb hHeld.2.2.2.2.2.2.2.2.2.2.2.2.2.1
         refine ⟨_, rfl, ?_⟩
         replace HO_1411000 := kr HO_1411000 hb
         replace HO_1411004 := kr HO_1411004 hb
         replace HO_1411006 := kr HO_1411006 hb
         replace HO_1411007 := kr HO_1411007 hb
         replace HO_1411008 := kr HO_1411008 hb
         replace BK1389 := kb BK1389 hb
         replace BK1390 := kb BK1390 hb
         replace BK1410 := kb BK1410 hb
         replace HB := hs_ HB hb
         have p26 : 0 ≤ ((rd l1 x14_1) : Int) := oa
         have q26 : ((rd l1 x14_1) : Int) < ((x1411006_1.length : Int) : Int) := oa
         obtain ⟨go26, co26, eo26, gb26, gl26, cl26, HG26⟩ := Kd.R_form HO_1411006.out (by omega)
         (first | cases eo26 | (injection eo26 with ea_ en_ ec_; (first | subst ea_ | (injection ea_ with ea_; subst ea_)); subst ec_; clear en_))
         have GB26 := dk gb26
         have GG26 := dk HG26
         clear gb26 gl26 HG26
         (first | simp only [add_plain] at hx1412_0 | skip)
         (first | simp only [add_plain] at hx1412_1 | skip)
         (first | simp only [add_plain] at hx1412_2 | skip)
         (first | simp only [add_plain] at hx1412_3 | skip)
         (first | simp only [add_plain] at hx1412_4 | skip)
         obtain ⟨ce26, hcl26, hM26, hcc26, hfr26⟩ := Kd.R_elem HO_1411006.out z95 ((rd l1 x14_1) : Int) p26 q26
         obtain rfl := k95_openM hM26
         have hx26_0 : World.cell? _ ⟨go26, ((rd l1 x14_1) : Int).toNat * 5, none⟩ = some (.int .i64 ((rd_T95 x1411006_1 (rd l1 x14_1)).f0)) := hcc26 0 _ rfl
         have hx26_1 : World.cell? _ ⟨go26, ((rd l1 x14_1) : Int).toNat * 5 + 1, none⟩ = some (.int .i64 ((rd_T95 x1411006_1 (rd l1 x14_1)).f1)) := hcc26 1 _ rfl
         have hx26_2 : World.cell? _ ⟨go26, ((rd l1 x14_1) : Int).toNat * 5 + 2, none⟩ = some (.int .i64 ((rd_T95 x1411006_1 (rd l1 x14_1)).f2)) := hcc26 2 _ rfl
         have hx26_3 : World.cell? _ ⟨go26, ((rd l1 x14_1) : Int).toNat * 5 + 3, none⟩ = some (.int .i64 ((rd_T95 x1411006_1 (rd l1 x14_1)).f3)) := hcc26 3 _ rfl
         have hx26_4 : World.cell? _ ⟨go26, ((rd l1 x14_1) : Int).toNat * 5 + 4, none⟩ = some (.int .i64 ((rd_T95 x1411006_1 (rd l1 x14_1)).f4)) := hcc26 4 _ rfl
         have hf26_0 : World.frozen? _ ⟨go26, ((rd l1 x14_1) : Int).toNat * 5, none⟩ = false := hfr26 0
         have hf26_1 : World.frozen? _ ⟨go26, ((rd l1 x14_1) : Int).toNat * 5 + 1, none⟩ = false := hfr26 1
         have hf26_2 : World.frozen? _ ⟨go26, ((rd l1 x14_1) : Int).toNat * 5 + 2, none⟩ = false := hfr26 2
         have hf26_3 : World.frozen? _ ⟨go26, ((rd l1 x14_1) : Int).toNat * 5 + 3, none⟩ = false := hfr26 3
         have hf26_4 : World.frozen? _ ⟨go26, ((rd l1 x14_1) : Int).toNat * 5 + 4, none⟩ = false := hfr26 4
         clear hcl26 hcc26 hfr26
         replace p26 := eq_true p26
         replace q26 := eq_true q26
         obtain ⟨ce30, hcl30, hM30, hcc30, hfr30⟩ := Kd.R_elem HO_1411006.out z95 ((rd l1 x14_1) : Int) (oa) (by have h_ : ((rd l1 x14_1) : Int) < ((x1411006_1.length : Int) : Int) := oa; first | exact h_ | (have e_ := (Kd.R_reads' HO_1411006.out).1; omega) | simpa using h_)
         obtain rfl := k95_openM hM30
         have HP30 := (Kd.R_seg HO_1411006.out ((rd l1 x14_1) : Int) (oa) (by have h_ : ((rd l1 x14_1) : Int) < ((x1411006_1.length : Int) : Int) := oa; first | exact h_ | (have e_ := (Kd.R_reads' HO_1411006.out).1; omega) | simpa using h_) (seg := [.int .i64 t1414, .int .i64 t1415, .int .i64 t1416, .int .i64 t1417, .int .i64 t1418]) (j := 0) hcl30 hcc30 (show 5 ≤ 5 from by decide) (x' := (⟨t1414, t1415, t1416, t1417, t1418⟩ : S95)) (k95_mkM _ _ _ (⟨t1414, t1415, t1416, t1417, t1418⟩ : S95) ) (fun _ hk => hk)).1
         rw [← Ny1419.out] at HP30
         have HQ30 := dk HP30
         clear hcl30 hcc30 hfr30 hM30 HP30
         refine hK.out _ _ ⟨bc BK1410 0, bc BK1410 1, bc BK1410 2, bc BK1410 3, bc BK1410 4, bc BK1410 5, bc BK1410 6, bc BK1410 7, bc BK1410 8, HS9_, HS10_, HS11_, HS12_, HS13_, (hc HB hw1413_0)⟩ (fun hHeld => ?_)
         clear hK K
         refine no_ ?_
         refine pz_ 13 32 ?_
         refine last_ (i := 14) (N := none) #[true, true, true, true, true, true, true, true, true, true, true, true, true, true, true] rfl rfl (one_of HT_.out (by kernel_rfl)) (by decide) (fun K hK => ?_)
         refine skip_ (w1 := ?_) (by rfl) rfl ?_ ?_
         rotate_left
         ·go_simp
          rfl
         refine hK.out _ _ ?_
         clear hK K
         refine done_ (done_of HT_.out (by kernel_rfl)) ?_
         try go_wp2
         go_roundg k1
         case measure => have := HK1.out; omega
         case rel => exact ⟨(wrap64 (x14_1 + 1)), (y1419), (.slice (some ⟨go26, 0, none⟩) x1411006_1.length co28), e2_, H', ⟨by have := HK1.out; omega⟩, ⟨by (with_reducible repeat (first | apply Kd.R_alloc | apply Kd.R_drewN | apply Kd.R_drew)); exact Kd.R_mono (Kd.R_far (p := ⟨go26, ((rd l1 x14_1) : Int).toNat * 5 + 4, none⟩) (Kd.R_far (p := ⟨go26, ((rd l1 x14_1) : Int).toNat * 5 + 3, none⟩) (Kd.R_far (p := ⟨go26, ((rd l1 x14_1) : Int).toNat * 5 + 2, none⟩) (Kd.R_far (p := ⟨go26, ((rd l1 x14_1) : Int).toNat * 5 + 1, none⟩) (Kd.R_far (p := ⟨go26, ((rd l1 x14_1) : Int).toNat * 5, none⟩) (Kd.R_types HO_1411000.out GG26.out (by decide)) (fun _ hk => hk.2) (.int .i64 t1414)) (fun _ hk => hk.2) (.int .i64 t1415)) (fun _ hk => hk.2) (.int .i64 t1416)) (fun _ hk => hk.2) (.int .i64 t1417)) (fun _ hk => hk.2) (.int .i64 t1418)) (fun _ hk => trivial)⟩, ⟨by (with_reducible repeat (first | apply Kd.R_alloc | apply Kd.R_drewN | apply Kd.R_drew)); exact Kd.R_mono (Kd.R_far (p := ⟨go26, ((rd l1 x14_1) : Int).toNat * 5 + 4, none⟩) (Kd.R_far (p := ⟨go26, ((rd l1 x14_1) : Int).toNat * 5 + 3, none⟩) (Kd.R_far (p := ⟨go26, ((rd l1 x14_1) : Int).toNat * 5 + 2, none⟩) (Kd.R_far (p := ⟨go26, ((rd l1 x14_1) : Int).toNat * 5 + 1, none⟩) (Kd.R_far (p := ⟨go26, ((rd l1 x14_1) : Int).toNat * 5, none⟩) (Kd.R_types HO_1411004.out GG26.out (by decide)) (fun _ hk => hk.2) (.int .i64 t1414)) (fun _ hk => hk.2) (.int .i64 t1415)) (fun _ hk => hk.2) (.int .i64 t1416)) (fun _ hk => hk.2) (.int .i64 t1417)) (fun _ hk => hk.2) (.int .i64 t1418)) (fun _ hk => ⟨hk.1.1, hk.1.2⟩)⟩, ⟨rr HQ30⟩, ⟨by (with_reducible repeat (first | apply Kd.R_alloc | apply Kd.R_drewN | apply Kd.R_drew)); exact Kd.R_mono (Kd.R_far (p := ⟨go26, ((rd l1 x14_1) : Int).toNat * 5 + 4, none⟩) (Kd.R_far (p := ⟨go26, ((rd l1 x14_1) : Int).toNat * 5 + 3, none⟩) (Kd.R_far (p := ⟨go26, ((rd l1 x14_1) : Int).toNat * 5 + 2, none⟩) (Kd.R_far (p := ⟨go26, ((rd l1 x14_1) : Int).toNat * 5 + 1, none⟩) (Kd.R_far (p := ⟨go26, ((rd l1 x14_1) : Int).toNat * 5, none⟩) (Kd.R_types HO_1411007.out GG26.out (by decide)) (fun _ hk => hk.2) (.int .i64 t1414)) (fun _ hk => hk.2) (.int .i64 t1415)) (fun _ hk => hk.2) (.int .i64 t1416)) (fun _ hk => hk.2) (.int .i64 t1417)) (fun _ hk => hk.2) (.int .i64 t1418)) (fun _ hk => ⟨hk.1.1, hk.1.2⟩)⟩, ⟨by (with_reducible repeat (first | apply Kd.R_alloc | apply Kd.R_drewN | apply Kd.R_drew)); exact Kd.R_mono (Kd.R_far (p := ⟨go26, ((rd l1 x14_1) : Int).toNat * 5 + 4, none⟩) (Kd.R_far (p := ⟨go26, ((rd l1 x14_1) : Int).toNat * 5 + 3, none⟩) (Kd.R_far (p := ⟨go26, ((rd l1 x14_1) : Int).toNat * 5 + 2, none⟩) (Kd.R_far (p := ⟨go26, ((rd l1 x14_1) : Int).toNat * 5 + 1, none⟩) (Kd.R_far (p := ⟨go26, ((rd l1 x14_1) : Int).toNat * 5, none⟩) (Kd.R_types HO_1411008.out GG26.out (by decide)) (fun _ hk => hk.2) (.int .i64 t1414)) (fun _ hk => hk.2) (.int .i64 t1415)) (fun _ hk => hk.2) (.int .i64 t1416)) (fun _ hk => hk.2) (.int .i64 t1417)) (fun _ hk => hk.2) (.int .i64 t1418)) (fun _ hk => ⟨hk.1.1, hk.1.2⟩)⟩, ⟨bg HO_1411006 BK1389⟩, ⟨bg HO_1411006 BK1390⟩, ⟨bg HO_1411006 BK1410⟩, ⟨bb HB⟩⟩
        ·rw [if_neg c24] at H
         exact absurd H (by simp)
       ·rw [if_neg c23] at H
        exact absurd H (by simp)
      ·rw [if_neg c22] at H
       exact absurd H (by simp)
     ·rw [if_neg c21] at H
      exact absurd H (by simp)
    ·rw [if_neg c20] at H
     exact absurd H (by simp)
   ·rw [if_neg c19] at H
    have c19b0 := decide_eq_false c19
    clear c19
    simp only [Option.some.injEq, Prod.mk.injEq] at H
    obtain ⟨rfl, rfl, rfl, rfl, rfl, rfl, rfl, rfl, rfl⟩ := H
    have hnb31 := NB1410_1389.out
    have hnc31 := NB1389_1410.out
    have hnb32 := NB1410_1390.out
    have hnc32 := NB1390_1410.out
    have ⟨z33_0, z33_1, z33_2, z33_3, z33_4, z33_5, z33_6, z33_7, z33_8, v33_0, v33_1, v33_2, v33_3, v33_4, v33_5, v33_6, v33_7, v33_8⟩ := rz9 BK1410
    have hnb34 := NB1390_1389.out
    have hnc34 := NB1389_1390.out
    have ⟨z35_0, z35_1, z35_2, z35_3, z35_4, z35_5, z35_6, z35_7, z35_8, v35_0, v35_1, v35_2, v35_3, v35_4, v35_5, v35_6, v35_7, v35_8⟩ := rz9 BK1390
    obtain ⟨Ao36, co36, eo36⟩ := Kd.R_slice HO_1411006.out
    subst eo36
    go_wp2
    refine bodyPost_ret (results_cell_row rfl _ _ gb1390 36 #[.slice Ao11 t1391.length co11, .int .i64 t1394, .int .i64 t1395, .int .i64 t1396, .slice Ao15 t1397.length co15, .bool t1400, .slice Ao36 x1411006_1.length co36, .slice Ao17 t1404.length co17, .slice Ao18 t1407.length co18] (0, 0) _ rfl (bp BK1390) Try.underlying36 rfl (by kernel_rfl)) rfl ?_
    exact ⟨_, _, _, _, _, ee, rf HO_1411000 BK1390 (fun _ hk => trivial), rf HO_1411004 BK1390 (fun _ hk => ⟨hk.1.1, hk.1.2⟩), rf HO_1411006 BK1390 (fun _ hk => trivial), rf HO_1411007 BK1390 (fun _ hk => ⟨hk.1.1, hk.1.2⟩), rf HO_1411008 BK1390 (fun _ hk => ⟨hk.1.1, hk.1.2⟩), bb HB⟩
end Go.Proofs.Ythfefanapneocaa.Q
section
namespace Go.Proofs.Ythfefanapneocaa.Q
open Go.RowKit Go.Proofs.YthfefanapneocaaW.PrintWords Go.Proofs.YthfefanapneocaaW.PrintLast Go.Proofs.YthfefanapneocaaW.PrintMore
attribute [local go_sem] max2_int min2_int max_two min_two max_three min_three max_four min_four
set_option linter.unusedVariables false
set_option linter.unusedSimpArgs false
set_option maxRecDepth 100000
set_option maxHeartbeats 8000000
mutual
def spec_l18Wins.l0 : Nat → Int → List Int → List Int → List Int → Int → Int → List (S139) → Int → Int → Int → List Int → Bool → List (S95) → List Int → List Int → Option (Bool)
 | 0, _, _, _, _, _, _, _, _, _, _, _, _, _, _, _ => none
 | k + 1, x1, x2, x7, x21, x22, x23, x1421000, x1421001, x1421002, x1421003, x1421004, x1421005, x1421006, x1421007, x1421008 => if x23 < x22 then (if 0 ≤ x23 then (if x23 < (x21.length : Int) then ((spec_l01In.f (rd x21 x23) 1 3).bind fun t1425 => (if t1425 = true then (spec_l18Wins.l0 k x1 x2 x7 x21 x22 (wrap64 (x23 + 1)) x1421000 x1421001 x1421002 x1421003 x1421004 x1421005 x1421006 x1421007 x1421008) else (some false))) else (none)) else (none)) else ((spec_l16With.f k x1421000 x1421001 x1421002 x1421003 x1421004 x1421005 x1421006 x1421007 x1421008 x7 x2).bind fun bt1426 => ((spec_l18Points.f k bt1426.1 bt1426.2.1 bt1426.2.2.1 bt1426.2.2.2.1 bt1426.2.2.2.2.1 bt1426.2.2.2.2.2.1 bt1426.2.2.2.2.2.2.1 bt1426.2.2.2.2.2.2.2.1 bt1426.2.2.2.2.2.2.2.2).bind fun t1445 => (spec_l18Wins.l1 k x1 t1445 t1445 (t1445.length : Int) 0)))
def spec_l18Wins.l1 : Nat → Int → List Int → List Int → Int → Int → Option (Bool)
 | 0, _, _, _, _, _ => none
 | k + 1, x1, x10, x36, x37, x38 => if x38 < x37 then (if 0 ≤ x38 then (if x38 < (x36.length : Int) then (if 0 ≤ x1 then (if x1 < (x10.length : Int) then (if (rd x36 x38) > (rd x10 x1) then (some false) else (spec_l18Wins.l1 k x1 x10 x36 x37 (wrap64 (x38 + 1)))) else (none)) else (none)) else (none)) else (none)) else (some true)
end
def spec_l18Wins.f (k : Nat) (l0_0 : List (S139)) (a0_1 : Int) (a0_2 : Int) (a0_3 : Int) (l0_4 : List Int) (a0_5 : Bool) (l0_6 : List (S95)) (l0_7 : List Int) (l0_8 : List Int) (a1 : Int) (l2 : List Int) : Option (Bool) := (spec_OpenGames.f k l0_6).bind fun t1421 => (if (l2.length : Int) = (t1421.length : Int) then (spec_l18Wins.l0 k a1 l2 t1421 l2 (l2.length : Int) 0 l0_0 a0_1 a0_2 a0_3 l0_4 a0_5 l0_6 l0_7 l0_8) else (some false))
theorem spec_l18Wins.calls (k : Nat) (A0_0 : Option Addr) (c0_0 : Nat) (l0_0 : List (S139)) (a0_1 : Int) (a0_2 : Int) (a0_3 : Int) (A0_4 : Option Addr) (c0_4 : Nat) (l0_4 : List Int) (a0_5 : Bool) (A0_6 : Option Addr) (c0_6 : Nat) (l0_6 : List (S95)) (A0_7 : Option Addr) (c0_7 : Nat) (l0_7 : List Int) (A0_8 : Option Addr) (c0_8 : Nat) (l0_8 : List Int) (a1 : Int) (A2 : Option Addr) (c2 : Nat) (l2 : List Int) (r : Bool) (w : World) (hr0_0 : Kd.C k139 w A0_0 l0_0.length l0_0) (hc0_0 : l0_0.length ≤ c0_0) (hr0_4 : Kd.C (Kd.int .i64) w A0_4 l0_4.length l0_4) (hc0_4 : l0_4.length ≤ c0_4) (hr0_6 : Kd.C k95 w A0_6 l0_6.length l0_6) (hc0_6 : l0_6.length ≤ c0_6) (hr0_7 : Kd.C (Kd.int .i64) w A0_7 l0_7.length l0_7) (hc0_7 : l0_7.length ≤ c0_7) (hr0_8 : Kd.C (Kd.int .i64) w A0_8 l0_8.length l0_8) (hc0_8 : l0_8.length ≤ c0_8) (hr2 : Kd.C (Kd.int .i64) w A2 l2.length l2) (hc2 : l2.length ≤ c2) (h : spec_l18Wins.f k l0_0 a0_1 a0_2 a0_3 l0_4 a0_5 l0_6 l0_7 l0_8 a1 l2 = some r) :
  Calls Try.prog 85 #[.agg #[.slice A0_0 l0_0.length c0_0, .int .i64 a0_1, .int .i64 a0_2, .int .i64 a0_3, .slice A0_4 l0_4.length c0_4, .bool a0_5, .slice A0_6 l0_6.length c0_6, .slice A0_7 l0_7.length c0_7, .slice A0_8 l0_8.length c0_8], .int .i64 a1, .slice A2 l2.length c2] w fun e w' => e = .returned (.bool r) ∧ Below w.heap.size w w' := by
 have hu36 := Try.underlying36
 have HR0_0 := dk hr0_0
 have HC0_0 := dk hc0_0
 clear hr0_0 hc0_0
 have HR0_4 := dk hr0_4
 have HC0_4 := dk hc0_4
 clear hr0_4 hc0_4
 have HR0_6 := dk hr0_6
 have HC0_6 := dk hc0_6
 clear hr0_6 hc0_6
 have HR0_7 := dk hr0_7
 have HC0_7 := dk hc0_7
 clear hr0_7 hc0_7
 have HR0_8 := dk hr0_8
 have HC0_8 := dk hc0_8
 clear hr0_8 hc0_8
 have HR2 := dk hr2
 have HC2 := dk hc2
 clear hr2 hc2
 have HB := hb0 w
 have H : ((spec_OpenGames.f k l0_6).bind fun t1421 => (if (l2.length : Int) = (t1421.length : Int) then (spec_l18Wins.l0 k a1 l2 t1421 l2 (l2.length : Int) 0 l0_0 a0_1 a0_2 a0_3 l0_4 a0_5 l0_6 l0_7 l0_8) else (some false))) = some r := h
 clear h
 replace H := Option.bind_eq_some_iff.mp H
 obtain ⟨t1421, A40, H⟩ := H
 try dsimp only at H
 have A4 := dk A40
 clear A40
 by_cases c5 : (l2.length : Int) = (t1421.length : Int)
 ·rw [if_pos c5] at H
  have c5b0 : ((l2.length : Int) == (t1421.length : Int)) = true := beq_iff_eq.mpr c5
  have c5b1 : ((l2.length : Int) != (t1421.length : Int)) = false := bne_eq_false_iff_eq.mpr c5
  have c5b2 : (l2.length == t1421.length) = true := by first | simpa using c5 | (simp at c5 ⊢; omega)
  clear c5
  have H' := dk H
  clear H
  go_enter Try.func85, Try.ntmps85
  go_wp2_with (first | ((with_reducible refine gdst_ 3 rfl ?_); refine bx (N := 3) (cs := #[.slice A0_0 l0_0.length c0_0, .int .i64 a0_1, .int .i64 a0_2, .int .i64 a0_3, .slice A0_4 l0_4.length c0_4, .bool a0_5, .slice A0_6 l0_6.length c0_6, .slice A0_7 l0_7.length c0_7, .slice A0_8 l0_8.length c0_8]) (t := 36) ?_; intro gb1420 hg w6 hbox hb; have BK1420 := dk (hbox); have GW1420 := gs hg HB; have GE1420 := gs hg HB; replace HB := hs_ HB hb; clear hb hbox hg; have ⟨z7_0, z7_1, z7_2, z7_3, z7_4, z7_5, z7_6, z7_7, z7_8, v7_0, v7_1, v7_2, v7_3, v7_4, v7_5, v7_6, v7_7, v7_8⟩ := rz9 BK1420) | ((with_reducible refine gcallee_ 138 rfl ?_); refine gl (some 15) Try.func138 #[.slice A0_6 l0_6.length c0_6] ?_; (with_reducible refine (spec_OpenGames.calls k _ _ l0_6 t1421 _ ?side1 ?side2 A4.out).mono ?_); (case side1 => exact cc HR0_6 HB); (case side2 => exact HC0_6.out); rintro e w8 ⟨v1422, rfl, ho0, hb⟩; refine ⟨_, rfl, ?_⟩; have HO1423 := kl ho0 HB; replace BK1420 := kb BK1420 hb; replace HB := hs_ HB hb; obtain ⟨Ao9, co9, eo9⟩ := Kd.R_slice HO1423.out; subst eo9))
  go_loopg [23] k (fun kq v23 w' => ∃ (x23_1 : Int), v23 = .int .i64 x23_1 ∧ Aside0 (spec_l18Wins.l0 kq a1 l2 t1421 l2 (l2.length : Int) x23_1 l0_0 a0_1 a0_2 a0_3 l0_4 a0_5 l0_6 l0_7 l0_8 = some r) ∧ Aside0 (kq ≤ k) ∧ Aside0 (Kd.R (Kd.int .i64) 3 w' w.heap.size (fun _ => True) (.slice Ao9 t1421.length co9) t1421) ∧ Aside0 (w'.heap[gb1420]? = some (.cells #[(.slice A0_0 l0_0.length c0_0), .int .i64 a0_1, .int .i64 a0_2, .int .i64 a0_3, (.slice A0_4 l0_4.length c0_4), .bool a0_5, (.slice A0_6 l0_6.length c0_6), (.slice A0_7 l0_7.length c0_7), (.slice A0_8 l0_8.length c0_8)] 36 (0, 0))) ∧ Aside0 (Below w.heap.size w w'))
  case atStart => exact ⟨(0), e2_, H', ⟨Nat.le_refl _⟩, ⟨rr HO1423⟩, ⟨bk BK1420⟩, ⟨bb HB⟩⟩
  case round =>
   clear H'
   obtain ⟨x23_1, rfl, HA, HK1, HO_7, BK1420, HB⟩ := hrel
   cases gk with
   | zero => exact absurd HA.out (by simp [spec_l18Wins.l0])
   | succ k1 =>
    have H := HA.out
    clear HA
    simp only [spec_l18Wins.l0] at H
    by_cases c10 : x23_1 < (l2.length : Int)
    ·rw [if_pos c10] at H
     have c10b0 := decide_eq_true c10
     clear c10
     by_cases c11 : 0 ≤ x23_1
     ·rw [if_pos c11] at H
      have c11b0 := decide_eq_true c11
      clear c11
      by_cases c12 : x23_1 < (l2.length : Int)
      ·rw [if_pos c12] at H
       have c12b0 := decide_eq_true c12
       clear c12
       replace H := Option.bind_eq_some_iff.mp H
       obtain ⟨t1425, A130, H⟩ := H
       try dsimp only at H
       have A13 := dk A130
       clear A130
       by_cases c14 : t1425 = true
       ·subst c14
        rw [if_pos rfl] at H
        have H' := dk H
        clear H
        have p1424 : 0 ≤ (x23_1 : Int) := oa
        have q1424 : x23_1 < (l2.length : Int) := oa
        obtain ⟨ad1424, e1424, hx1424_0⟩ := Kd.at_int HR2.out x23_1 p1424 q1424
        cases e1424
        replace hx1424_0 := hc HB hx1424_0
        replace p1424 := eq_true p1424
        replace q1424 := eq_true q1424
        go_wp2_with (first | ((with_reducible refine gcallee_ 76 rfl ?_); refine gl (some 28) Try.func76 #[.int .i64 (rd l2 x23_1), .int .i64 1, .int .i64 3] ?_; (with_reducible refine (spec_l01In.calls (rd l2 x23_1) 1 3 true _ A13.out).mono ?_); rintro e w' ⟨rfl, ⟨nd, rfl⟩⟩; refine ⟨_, rfl, ?_⟩))
        go_roundg k1
        case measure => have := HK1.out; omega
        case rel => exact ⟨(wrap64 (x23_1 + 1)), e2_, H', ⟨by have := HK1.out; omega⟩, ⟨rr HO_7⟩, ⟨bk BK1420⟩, ⟨bb HB⟩⟩
       ·replace c14 := Bool.eq_false_iff.mpr c14
        subst c14
        rw [if_neg (show ¬ (false = true) by decide)] at H
        obtain rfl := Option.some.inj H
        have p1424 : 0 ≤ (x23_1 : Int) := oa
        have q1424 : x23_1 < (l2.length : Int) := oa
        obtain ⟨ad1424, e1424, hx1424_0⟩ := Kd.at_int HR2.out x23_1 p1424 q1424
        cases e1424
        replace hx1424_0 := hc HB hx1424_0
        replace p1424 := eq_true p1424
        replace q1424 := eq_true q1424
        go_wp2_with (first | ((with_reducible refine gcallee_ 76 rfl ?_); refine gl (some 28) Try.func76 #[.int .i64 (rd l2 x23_1), .int .i64 1, .int .i64 3] ?_; (with_reducible refine (spec_l01In.calls (rd l2 x23_1) 1 3 false _ A13.out).mono ?_); rintro e w' ⟨rfl, ⟨nd, rfl⟩⟩; refine ⟨_, rfl, ?_⟩))
        go_ret
        exact ⟨ee, bb HB⟩
      ·rw [if_neg c12] at H
       exact absurd H (by simp)
     ·rw [if_neg c11] at H
      exact absurd H (by simp)
    ·rw [if_neg c10] at H
     have c10b0 := decide_eq_false c10
     clear c10
     replace H := Option.bind_eq_some_iff.mp H
     obtain ⟨⟨t1426, t1429, t1430, t1431, t1432, t1435, t1436, t1439, t1442⟩, A150, H⟩ := H
     try dsimp only at H
     have A15 := dk A150
     clear A150
     replace H := Option.bind_eq_some_iff.mp H
     obtain ⟨t1445, A160, H⟩ := H
     try dsimp only at H
     have A16 := dk A160
     clear A160
     have H' := dk H
     clear H
     have ⟨z17_0, z17_1, z17_2, z17_3, z17_4, z17_5, z17_6, z17_7, z17_8, v17_0, v17_1, v17_2, v17_3, v17_4, v17_5, v17_6, v17_7, v17_8⟩ := rz9 BK1420
     go_wp2_with (first | ((with_reducible refine gcallee_ 139 rfl ?_); refine gl (some 34) Try.func139 #[.agg #[.slice A0_0 l0_0.length c0_0, .int .i64 a0_1, .int .i64 a0_2, .int .i64 a0_3, .slice A0_4 l0_4.length c0_4, .bool a0_5, .slice A0_6 l0_6.length c0_6, .slice A0_7 l0_7.length c0_7, .slice A0_8 l0_8.length c0_8], .slice Ao9 t1421.length co9, .slice A2 l2.length c2] ?_; (with_reducible refine (spec_l16With.calls k1 _ _ l0_0 a0_1 a0_2 a0_3 _ _ l0_4 a0_5 _ _ l0_6 _ _ l0_7 _ _ l0_8 _ _ t1421 _ _ l2 t1426 t1429 t1430 t1431 t1432 t1435 t1436 t1439 t1442 _ ?side1 ?side2 ?side3 ?side4 ?side5 ?side6 ?side7 ?side8 ?side9 ?side10 ?side11 ?side12 ?side13 ?side14 A15.out).mono ?_); (case side1 => exact cc HR0_0 HB); (case side2 => exact HC0_0.out); (case side3 => exact cc HR0_4 HB); (case side4 => exact HC0_4.out); (case side5 => exact cc HR0_6 HB); (case side6 => exact HC0_6.out); (case side7 => exact cc HR0_7 HB); (case side8 => exact HC0_7.out); (case side9 => exact cc HR0_8 HB); (case side10 => exact HC0_8.out); (case side11 => exact cr HO_7); (case side12 => exact cl HO_7); (case side13 => exact cc HR2 HB); (case side14 => exact HC2.out); rintro e w18 ⟨v1427, v1433, v1437, v1440, v1443, rfl, ho0, ho1, ho2, ho3, ho4, hb⟩; refine ⟨_, rfl, ?_⟩; have HO1428 := kl ho0 HB; have HO1434 := dk (Kd.R_lower (Kd.R_new' ho1 (rt HO_7)) (below_size (bb HB))); have HO1438 := kl ho2 HB; have HO1441 := dk (Kd.R_lower (Kd.R_new' ho3 (rt HO_7)) (below_size (bb HB))); have HO1444 := dk (Kd.R_lower (Kd.R_new' ho4 (rt HO_7)) (below_size (bb HB))); replace HO_7 := dk (Kd.R_mono (Kd.R_told (Kd.R_told (Kd.R_told (Kd.R_old (rr HO_7) hb) (Kd.R_base ho1)) (Kd.R_base ho3)) (Kd.R_base ho4)) (fun _ h_ => h_.1)); replace BK1420 := kb BK1420 hb; replace HB := hs_ HB hb; obtain ⟨Ao19, co19, eo19⟩ := Kd.R_slice HO1428.out; subst eo19; obtain ⟨Ao20, co20, eo20⟩ := Kd.R_slice HO1434.out; subst eo20; obtain ⟨Ao21, co21, eo21⟩ := Kd.R_slice HO1438.out; subst eo21; obtain ⟨Ao22, co22, eo22⟩ := Kd.R_slice HO1441.out; subst eo22; obtain ⟨Ao23, co23, eo23⟩ := Kd.R_slice HO1444.out; subst eo23) | ((with_reducible refine gcallee_ 86 rfl ?_); refine gl (some 35) Try.func86 #[.agg #[.slice Ao19 t1426.length co19, .int .i64 t1429, .int .i64 t1430, .int .i64 t1431, .slice Ao20 t1432.length co20, .bool t1435, .slice Ao21 t1436.length co21, .slice Ao22 t1439.length co22, .slice Ao23 t1442.length co23]] ?_; (with_reducible refine (spec_l18Points.calls k1 _ _ t1426 t1429 t1430 t1431 _ _ t1432 t1435 _ _ t1436 _ _ t1439 _ _ t1442 t1445 _ ?side1 ?side2 ?side3 ?side4 ?side5 ?side6 ?side7 ?side8 ?side9 ?side10 A16.out).mono ?_); (case side1 => exact cr HO1428); (case side2 => exact cl HO1428); (case side3 => exact cr HO1434); (case side4 => exact cl HO1434); (case side5 => exact cr HO1438); (case side6 => exact cl HO1438); (case side7 => exact cr HO1441); (case side8 => exact cl HO1441); (case side9 => exact cr HO1444); (case side10 => exact cl HO1444); rintro e w24 ⟨v1446, rfl, ho0, hb⟩; refine ⟨_, rfl, ?_⟩; replace HO1428 := kr HO1428 hb; replace HO1438 := kr HO1438 hb; have HO1447 := dk (Kd.R_lower (Kd.R_new' (Kd.R_new' (Kd.R_new' (Kd.R_new' ho0 (rt HO_7)) (rt HO1434)) (rt HO1441)) (rt HO1444)) (below_size (bb HB))); replace HO_7 := ke HO_7 ho0 hb; replace HO1434 := ke HO1434 ho0 hb; replace HO1441 := ke HO1441 ho0 hb; replace HO1444 := ke HO1444 ho0 hb; replace BK1420 := kb BK1420 hb; replace HB := hs_ HB hb; obtain ⟨Ao25, co25, eo25⟩ := Kd.R_slice HO1447.out; subst eo25))
     go_loopg [38] k1 (fun kq v38 w' => ∃ (x38_2 : Int), v38 = .int .i64 x38_2 ∧ Aside0 (spec_l18Wins.l1 kq a1 t1445 t1445 (t1445.length : Int) x38_2 = some r) ∧ Aside0 (kq ≤ k1) ∧ Aside0 (Kd.R (Kd.int .i64) 3 w' w.heap.size (fun _ => True) (.slice Ao25 t1445.length co25) t1445) ∧ Aside0 (Kd.R (Kd.int .i64) 3 w' w.heap.size (fun _ => True) (.slice Ao25 t1445.length co25) t1445) ∧ Aside0 (w'.heap[gb1420]? = some (.cells #[(.slice A0_0 l0_0.length c0_0), .int .i64 a0_1, .int .i64 a0_2, .int .i64 a0_3, (.slice A0_4 l0_4.length c0_4), .bool a0_5, (.slice A0_6 l0_6.length c0_6), (.slice A0_7 l0_7.length c0_7), (.slice A0_8 l0_8.length c0_8)] 36 (0, 0))) ∧ Aside0 (Below w.heap.size w w'))
     case atStart => exact ⟨(0), e2_, H', ⟨Nat.le_refl _⟩, ⟨ro HO1447 (fun _ hk => trivial)⟩, ⟨ro HO1447 (fun _ hk => trivial)⟩, ⟨bk BK1420⟩, ⟨bb HB⟩⟩
     case round =>
      clear H'
      obtain ⟨x38_2, rfl, HA, HK2, HO_10, HO_36, BK1420, HB⟩ := hrel
      cases gk with
      | zero => exact absurd HA.out (by simp [spec_l18Wins.l1])
      | succ k2 =>
       have H := HA.out
       clear HA
       simp only [spec_l18Wins.l1] at H
       by_cases c26 : x38_2 < (t1445.length : Int)
       ·rw [if_pos c26] at H
        have c26b0 := decide_eq_true c26
        clear c26
        by_cases c27 : 0 ≤ x38_2
        ·rw [if_pos c27] at H
         have c27b0 := decide_eq_true c27
         clear c27
         by_cases c28 : x38_2 < (t1445.length : Int)
         ·rw [if_pos c28] at H
          have c28b0 := decide_eq_true c28
          clear c28
          by_cases c29 : 0 ≤ a1
          ·rw [if_pos c29] at H
           have c29b0 := decide_eq_true c29
           clear c29
           by_cases c30 : a1 < (t1445.length : Int)
           ·rw [if_pos c30] at H
            have c30b0 := decide_eq_true c30
            clear c30
            by_cases c31 : (rd t1445 x38_2) > (rd t1445 a1)
            ·rw [if_pos c31] at H
             have c31b0 := decide_eq_true c31
             clear c31
             obtain rfl := Option.some.inj H
             have p1448 : 0 ≤ (x38_2 : Int) := oa
             have q1448 : x38_2 < (t1445.length : Int) := oa
             obtain ⟨ad1448, e1448, hx1448_0⟩ := Kd.at_int (Kd.R_reads' HO_36.out).2.2 x38_2 p1448 q1448
             cases e1448
             replace p1448 := eq_true p1448
             replace q1448 := eq_true q1448
             have p1449 : 0 ≤ (a1 : Int) := oa
             have q1449 : a1 < (t1445.length : Int) := oa
             obtain ⟨ad1449, e1449, hx1449_0⟩ := Kd.at_int (Kd.R_reads' HO_10.out).2.2 a1 p1449 q1449
             obtain rfl : ad1448 = ad1449 := (by injection e1449)
             replace p1449 := eq_true p1449
             replace q1449 := eq_true q1449
             go_wp2
             go_ret
             exact ⟨ee, bb HB⟩
            ·rw [if_neg c31] at H
             have c31b0 := decide_eq_false c31
             clear c31
             have H' := dk H
             clear H
             have p1448 : 0 ≤ (x38_2 : Int) := oa
             have q1448 : x38_2 < (t1445.length : Int) := oa
             obtain ⟨ad1448, e1448, hx1448_0⟩ := Kd.at_int (Kd.R_reads' HO_36.out).2.2 x38_2 p1448 q1448
             cases e1448
             replace p1448 := eq_true p1448
             replace q1448 := eq_true q1448
             have p1449 : 0 ≤ (a1 : Int) := oa
             have q1449 : a1 < (t1445.length : Int) := oa
             obtain ⟨ad1449, e1449, hx1449_0⟩ := Kd.at_int (Kd.R_reads' HO_10.out).2.2 a1 p1449 q1449
             obtain rfl : ad1448 = ad1449 := (by injection e1449)
             replace p1449 := eq_true p1449
             replace q1449 := eq_true q1449
             go_wp2
             go_roundg k2
             case measure => have := HK1.out; have := HK2.out; omega
             case rel => exact ⟨(wrap64 (x38_2 + 1)), e2_, H', ⟨by have := HK1.out; have := HK2.out; omega⟩, ⟨rr HO_10⟩, ⟨rr HO_36⟩, ⟨bk BK1420⟩, ⟨bb HB⟩⟩
           ·rw [if_neg c30] at H
            exact absurd H (by simp)
          ·rw [if_neg c29] at H
           exact absurd H (by simp)
         ·rw [if_neg c28] at H
          exact absurd H (by simp)
        ·rw [if_neg c27] at H
         exact absurd H (by simp)
       ·rw [if_neg c26] at H
        have c26b0 := decide_eq_false c26
        clear c26
        obtain rfl := Option.some.inj H
        go_wp2
        go_ret
        exact ⟨ee, bb HB⟩
 ·rw [if_neg c5] at H
  have c5b0 : ((l2.length : Int) == (t1421.length : Int)) = false := beq_eq_false_iff_ne.mpr c5
  have c5b1 : ((l2.length : Int) != (t1421.length : Int)) = true := bne_iff_ne.mpr c5
  have c5b2 : (l2.length == t1421.length) = false := by first | simpa using c5 | (simp at c5 ⊢; omega)
  obtain rfl := Option.some.inj H
  go_enter Try.func85, Try.ntmps85
  go_wp2_with (first | ((with_reducible refine gdst_ 3 rfl ?_); refine bx (N := 3) (cs := #[.slice A0_0 l0_0.length c0_0, .int .i64 a0_1, .int .i64 a0_2, .int .i64 a0_3, .slice A0_4 l0_4.length c0_4, .bool a0_5, .slice A0_6 l0_6.length c0_6, .slice A0_7 l0_7.length c0_7, .slice A0_8 l0_8.length c0_8]) (t := 36) ?_; intro gb1420 hg w32 hbox hb; have BK1420 := dk (hbox); have GW1420 := gs hg HB; have GE1420 := gs hg HB; replace HB := hs_ HB hb; clear hb hbox hg; have ⟨z33_0, z33_1, z33_2, z33_3, z33_4, z33_5, z33_6, z33_7, z33_8, v33_0, v33_1, v33_2, v33_3, v33_4, v33_5, v33_6, v33_7, v33_8⟩ := rz9 BK1420) | ((with_reducible refine gcallee_ 138 rfl ?_); refine gl (some 15) Try.func138 #[.slice A0_6 l0_6.length c0_6] ?_; (with_reducible refine (spec_OpenGames.calls k _ _ l0_6 t1421 _ ?side1 ?side2 A4.out).mono ?_); (case side1 => exact cc HR0_6 HB); (case side2 => exact HC0_6.out); rintro e w34 ⟨v1422, rfl, ho0, hb⟩; refine ⟨_, rfl, ?_⟩; have HO1423 := kl ho0 HB; replace BK1420 := kb BK1420 hb; replace HB := hs_ HB hb; obtain ⟨Ao35, co35, eo35⟩ := Kd.R_slice HO1423.out; subst eo35))
  go_ret
  exact ⟨ee, bb HB⟩
end Go.Proofs.Ythfefanapneocaa.Q
end
namespace Go.Proofs.Ythfefanapneocaa.Q
open Go.RowKit Go.Proofs.YthfefanapneocaaW.PrintWords Go.Proofs.YthfefanapneocaaW.PrintLast Go.Proofs.YthfefanapneocaaW.PrintMore
attribute [local go_sem] max2_int min2_int max_two min_two max_three min_three max_four min_four
set_option linter.unusedVariables false
set_option linter.unusedSimpArgs false
set_option maxRecDepth 100000
set_option maxHeartbeats 8000000
def spec_l18Best.l0 : Nat → Int → Int → List (S95) → Int → Int → Option (Int)
 | 0, _, _, _, _, _ => none
 | k + 1, x1, x5, x14, x15, x16 => if x16 < x15 then (if 0 ≤ x16 then (if x16 < (x14.length : Int) then ((spec_IsOpen.f ((rd_T95 x14 x16).f0) ((rd_T95 x14 x16).f1) ((rd_T95 x14 x16).f2) ((rd_T95 x14 x16).f3) ((rd_T95 x14 x16).f4)).bind fun t1457 => (if t1457 = true then (if ((rd_T95 x14 x16).f0) = x1 then (spec_l18Best.l0 k x1 (wrap64 (x5 + 2)) x14 x15 (wrap64 (x16 + 1))) else (if ((rd_T95 x14 x16).f1) = x1 then (spec_l18Best.l0 k x1 (wrap64 (x5 + 2)) x14 x15 (wrap64 (x16 + 1))) else (spec_l18Best.l0 k x1 x5 x14 x15 (wrap64 (x16 + 1))))) else (spec_l18Best.l0 k x1 x5 x14 x15 (wrap64 (x16 + 1))))) else (none)) else (none)) else (some x5)
def spec_l18Best.f (k : Nat) (l0_0 : List (S139)) (a0_1 : Int) (a0_2 : Int) (a0_3 : Int) (l0_4 : List Int) (a0_5 : Bool) (l0_6 : List (S95)) (l0_7 : List Int) (l0_8 : List Int) (a1 : Int) : Option (Int) := (spec_l18Points.f k l0_0 a0_1 a0_2 a0_3 l0_4 a0_5 l0_6 l0_7 l0_8).bind fun t1451 => (if 0 ≤ a1 then (if a1 < (t1451.length : Int) then (spec_l18Best.l0 k a1 (rd t1451 a1) l0_6 (l0_6.length : Int) 0) else (none)) else (none))
theorem spec_l18Best.calls (k : Nat) (A0_0 : Option Addr) (c0_0 : Nat) (l0_0 : List (S139)) (a0_1 : Int) (a0_2 : Int) (a0_3 : Int) (A0_4 : Option Addr) (c0_4 : Nat) (l0_4 : List Int) (a0_5 : Bool) (A0_6 : Option Addr) (c0_6 : Nat) (l0_6 : List (S95)) (A0_7 : Option Addr) (c0_7 : Nat) (l0_7 : List Int) (A0_8 : Option Addr) (c0_8 : Nat) (l0_8 : List Int) (a1 : Int) (r : Int) (w : World) (hr0_0 : Kd.C k139 w A0_0 l0_0.length l0_0) (hc0_0 : l0_0.length ≤ c0_0) (hr0_4 : Kd.C (Kd.int .i64) w A0_4 l0_4.length l0_4) (hc0_4 : l0_4.length ≤ c0_4) (hr0_6 : Kd.C k95 w A0_6 l0_6.length l0_6) (hc0_6 : l0_6.length ≤ c0_6) (hr0_7 : Kd.C (Kd.int .i64) w A0_7 l0_7.length l0_7) (hc0_7 : l0_7.length ≤ c0_7) (hr0_8 : Kd.C (Kd.int .i64) w A0_8 l0_8.length l0_8) (hc0_8 : l0_8.length ≤ c0_8) (h : spec_l18Best.f k l0_0 a0_1 a0_2 a0_3 l0_4 a0_5 l0_6 l0_7 l0_8 a1 = some r) :
  Calls Try.prog 88 #[.agg #[.slice A0_0 l0_0.length c0_0, .int .i64 a0_1, .int .i64 a0_2, .int .i64 a0_3, .slice A0_4 l0_4.length c0_4, .bool a0_5, .slice A0_6 l0_6.length c0_6, .slice A0_7 l0_7.length c0_7, .slice A0_8 l0_8.length c0_8], .int .i64 a1] w fun e w' => e = .returned (.int .i64 r) ∧ Below w.heap.size w w' := by
 have hu36 := Try.underlying36
 have hu95 := Try.underlying95
 have HR0_0 := dk hr0_0
 have HC0_0 := dk hc0_0
 clear hr0_0 hc0_0
 have HR0_4 := dk hr0_4
 have HC0_4 := dk hc0_4
 clear hr0_4 hc0_4
 have HR0_6 := dk hr0_6
 have HC0_6 := dk hc0_6
 clear hr0_6 hc0_6
 have HR0_7 := dk hr0_7
 have HC0_7 := dk hc0_7
 clear hr0_7 hc0_7
 have HR0_8 := dk hr0_8
 have HC0_8 := dk hc0_8
 clear hr0_8 hc0_8
 have HB := hb0 w
 have H : ((spec_l18Points.f k l0_0 a0_1 a0_2 a0_3 l0_4 a0_5 l0_6 l0_7 l0_8).bind fun t1451 => (if 0 ≤ a1 then (if a1 < (t1451.length : Int) then (spec_l18Best.l0 k a1 (rd t1451 a1) l0_6 (l0_6.length : Int) 0) else (none)) else (none))) = some r := h
 clear h
 replace H := Option.bind_eq_some_iff.mp H
 obtain ⟨t1451, A30, H⟩ := H
 try dsimp only at H
 have A3 := dk A30
 clear A30
 by_cases c4 : 0 ≤ a1
 ·rw [if_pos c4] at H
  have c4b0 := decide_eq_true c4
  clear c4
  by_cases c5 : a1 < (t1451.length : Int)
  ·rw [if_pos c5] at H
   have c5b0 := decide_eq_true c5
   clear c5
   have H' := dk H
   clear H
   go_enter Try.func88, Try.ntmps88
   go_wp2_with (first | ((with_reducible refine gdst_ 2 rfl ?_); refine bx (N := 2) (cs := #[.slice A0_0 l0_0.length c0_0, .int .i64 a0_1, .int .i64 a0_2, .int .i64 a0_3, .slice A0_4 l0_4.length c0_4, .bool a0_5, .slice A0_6 l0_6.length c0_6, .slice A0_7 l0_7.length c0_7, .slice A0_8 l0_8.length c0_8]) (t := 36) ?_; intro gb1450 hg w6 hbox hb; have BK1450 := dk (hbox); have GW1450 := gs hg HB; have GE1450 := gs hg HB; replace HB := hs_ HB hb; clear hb hbox hg; have ⟨z7_0, z7_1, z7_2, z7_3, z7_4, z7_5, z7_6, z7_7, z7_8, v7_0, v7_1, v7_2, v7_3, v7_4, v7_5, v7_6, v7_7, v7_8⟩ := rz9 BK1450) | ((with_reducible refine gcallee_ 86 rfl ?_); refine gl (some 9) Try.func86 #[.agg #[.slice A0_0 l0_0.length c0_0, .int .i64 a0_1, .int .i64 a0_2, .int .i64 a0_3, .slice A0_4 l0_4.length c0_4, .bool a0_5, .slice A0_6 l0_6.length c0_6, .slice A0_7 l0_7.length c0_7, .slice A0_8 l0_8.length c0_8]] ?_; (with_reducible refine (spec_l18Points.calls k _ _ l0_0 a0_1 a0_2 a0_3 _ _ l0_4 a0_5 _ _ l0_6 _ _ l0_7 _ _ l0_8 t1451 _ ?side1 ?side2 ?side3 ?side4 ?side5 ?side6 ?side7 ?side8 ?side9 ?side10 A3.out).mono ?_); (case side1 => exact cc HR0_0 HB); (case side2 => exact HC0_0.out); (case side3 => exact cc HR0_4 HB); (case side4 => exact HC0_4.out); (case side5 => exact cc HR0_6 HB); (case side6 => exact HC0_6.out); (case side7 => exact cc HR0_7 HB); (case side8 => exact HC0_7.out); (case side9 => exact cc HR0_8 HB); (case side10 => exact HC0_8.out); rintro e w8 ⟨v1452, rfl, ho0, hb⟩; refine ⟨_, rfl, ?_⟩; have HO1453 := kl ho0 HB; replace BK1450 := kb BK1450 hb; replace HB := hs_ HB hb; obtain ⟨Ao9, co9, eo9⟩ := Kd.R_slice HO1453.out; subst eo9; have p1454 : 0 ≤ (a1 : Int) := oa; have q1454 : a1 < (t1451.length : Int) := oa; obtain ⟨ad1454, e1454, hx1454_0⟩ := Kd.at_int (Kd.R_reads' HO1453.out).2.2 a1 p1454 q1454; cases e1454; replace p1454 := eq_true p1454; replace q1454 := eq_true q1454; have ⟨z10_0, z10_1, z10_2, z10_3, z10_4, z10_5, z10_6, z10_7, z10_8, v10_0, v10_1, v10_2, v10_3, v10_4, v10_5, v10_6, v10_7, v10_8⟩ := rz9 BK1450))
   go_loopg [5, 16] k (fun kq v5 v16 w' => ∃ (x5_1 : Int) (x16_1 : Int), v5 = .int .i64 x5_1 ∧ v16 = .int .i64 x16_1 ∧ Aside0 (spec_l18Best.l0 kq a1 x5_1 l0_6 (l0_6.length : Int) x16_1 = some r) ∧ Aside0 (kq ≤ k) ∧ Aside0 (w'.heap[gb1450]? = some (.cells #[(.slice A0_0 l0_0.length c0_0), .int .i64 a0_1, .int .i64 a0_2, .int .i64 a0_3, (.slice A0_4 l0_4.length c0_4), .bool a0_5, (.slice A0_6 l0_6.length c0_6), (.slice A0_7 l0_7.length c0_7), (.slice A0_8 l0_8.length c0_8)] 36 (0, 0))) ∧ Aside0 (Below w.heap.size w w'))
   case atStart => exact ⟨(rd t1451 a1), (0), e2_, e2_, H', ⟨Nat.le_refl _⟩, ⟨bk BK1450⟩, ⟨bb HB⟩⟩
   case round =>
    clear H'
    obtain ⟨x5_1, x16_1, rfl, rfl, HA, HK1, BK1450, HB⟩ := hrel
    cases gk with
    | zero => exact absurd HA.out (by simp [spec_l18Best.l0])
    | succ k1 =>
     have H := HA.out
     clear HA
     simp only [spec_l18Best.l0] at H
     by_cases c11 : x16_1 < (l0_6.length : Int)
     ·rw [if_pos c11] at H
      have c11b0 := decide_eq_true c11
      clear c11
      by_cases c12 : 0 ≤ x16_1
      ·rw [if_pos c12] at H
       have c12b0 := decide_eq_true c12
       clear c12
       by_cases c13 : x16_1 < (l0_6.length : Int)
       ·rw [if_pos c13] at H
        have c13b0 := decide_eq_true c13
        clear c13
        replace H := Option.bind_eq_some_iff.mp H
        obtain ⟨t1457, A140, H⟩ := H
        try dsimp only at H
        have A14 := dk A140
        clear A140
        by_cases c15 : t1457 = true
        ·subst c15
         rw [if_pos rfl] at H
         by_cases c16 : ((rd_T95 l0_6 x16_1).f0) = a1
         ·rw [if_pos c16] at H
          have c16b0 := beq_iff_eq.mpr c16
          have c16b1 := bne_eq_false_iff_eq.mpr c16
          clear c16
          have H' := dk H
          clear H
          have p1455 : 0 ≤ (x16_1 : Int) := oa
          have q1455 : x16_1 < (l0_6.length : Int) := oa
          obtain ⟨ad1455, e1455, hx1455_0, hx1455_1, hx1455_2, hx1455_3, hx1455_4⟩ := at_T95 HR0_6.out x16_1 p1455 q1455
          cases e1455
          replace hx1455_0 := hc HB hx1455_0
          replace hx1455_1 := hc HB hx1455_1
          replace hx1455_2 := hc HB hx1455_2
          replace hx1455_3 := hc HB hx1455_3
          replace hx1455_4 := hc HB hx1455_4
          replace p1455 := eq_true p1455
          replace q1455 := eq_true q1455
          go_wp2_with (first | ((with_reducible refine gdst_ 7 rfl ?_); refine bx (N := 7) (cs := #[.int .i64 0, .int .i64 0, .int .i64 0, .int .i64 0, .int .i64 0]) (t := 95) ?_; intro gb1456 hg w17 hbox hb; have BK1456 := dk (hbox); have GW1456 := gs hg HB; have GE1456 := gs hg HB; replace HB := hs_ HB hb; have NB1450_1456 := gn hg BK1450; have NB1456_1450 := gm hg BK1450; replace BK1450 := kb BK1450 hb; clear hb hbox hg; have hnb18 := NB1456_1450.out; have hnc18 := NB1450_1456.out; have ⟨z19_0, z19_1, z19_2, z19_3, z19_4, v19_0, v19_1, v19_2, v19_3, v19_4⟩ := rz5 BK1456) | ((with_reducible refine gcallee_ 77 rfl ?_); refine gl (some 21) Try.func77 #[.agg #[.int .i64 ((rd_T95 l0_6 x16_1).f0), .int .i64 ((rd_T95 l0_6 x16_1).f1), .int .i64 ((rd_T95 l0_6 x16_1).f2), .int .i64 ((rd_T95 l0_6 x16_1).f3), .int .i64 ((rd_T95 l0_6 x16_1).f4)]] ?_; (with_reducible refine (spec_IsOpen.calls ((rd_T95 l0_6 x16_1).f0) ((rd_T95 l0_6 x16_1).f1) ((rd_T95 l0_6 x16_1).f2) ((rd_T95 l0_6 x16_1).f3) ((rd_T95 l0_6 x16_1).f4) true _ A14.out).mono ?_); rintro e w20 ⟨rfl, hb⟩; refine ⟨_, rfl, ?_⟩; replace BK1450 := dk (blk_below (bf NB1450_1456.out BK1450) hb); replace BK1456 := dk (blk_below (g := gb1456) (o := .cells #[.int .i64 ((rd_T95 l0_6 x16_1).f0), .int .i64 ((rd_T95 l0_6 x16_1).f1), .int .i64 ((rd_T95 l0_6 x16_1).f2), .int .i64 ((rd_T95 l0_6 x16_1).f3), .int .i64 ((rd_T95 l0_6 x16_1).f4)] 95 (0, 0)) (bp BK1456) hb); replace HB := hs_ HB hb; have ⟨z21_0, z21_1, z21_2, z21_3, z21_4, v21_0, v21_1, v21_2, v21_3, v21_4⟩ := rz5 BK1456))
          go_roundg k1
          case measure => have := HK1.out; omega
          case rel => exact ⟨(wrap64 (x5_1 + 2)), (wrap64 (x16_1 + 1)), e2_, e2_, H', ⟨by have := HK1.out; omega⟩, ⟨bk BK1450⟩, ⟨bb HB⟩⟩
         ·rw [if_neg c16] at H
          have c16b0 := beq_eq_false_iff_ne.mpr c16
          have c16b1 := bne_iff_ne.mpr c16
          by_cases c22 : ((rd_T95 l0_6 x16_1).f1) = a1
          ·rw [if_pos c22] at H
           have c22b0 := beq_iff_eq.mpr c22
           have c22b1 := bne_eq_false_iff_eq.mpr c22
           clear c22
           have H' := dk H
           clear H
           have p1455 : 0 ≤ (x16_1 : Int) := oa
           have q1455 : x16_1 < (l0_6.length : Int) := oa
           obtain ⟨ad1455, e1455, hx1455_0, hx1455_1, hx1455_2, hx1455_3, hx1455_4⟩ := at_T95 HR0_6.out x16_1 p1455 q1455
           cases e1455
           replace hx1455_0 := hc HB hx1455_0
           replace hx1455_1 := hc HB hx1455_1
           replace hx1455_2 := hc HB hx1455_2
           replace hx1455_3 := hc HB hx1455_3
           replace hx1455_4 := hc HB hx1455_4
           replace p1455 := eq_true p1455
           replace q1455 := eq_true q1455
           go_wp2_with (first | ((with_reducible refine gdst_ 7 rfl ?_); refine bx (N := 7) (cs := #[.int .i64 0, .int .i64 0, .int .i64 0, .int .i64 0, .int .i64 0]) (t := 95) ?_; intro gb1456 hg w23 hbox hb; have BK1456 := dk (hbox); have GW1456 := gs hg HB; have GE1456 := gs hg HB; replace HB := hs_ HB hb; have NB1450_1456 := gn hg BK1450; have NB1456_1450 := gm hg BK1450; replace BK1450 := kb BK1450 hb; clear hb hbox hg; have hnb24 := NB1456_1450.out; have hnc24 := NB1450_1456.out; have ⟨z25_0, z25_1, z25_2, z25_3, z25_4, v25_0, v25_1, v25_2, v25_3, v25_4⟩ := rz5 BK1456) | ((with_reducible refine gcallee_ 77 rfl ?_); refine gl (some 21) Try.func77 #[.agg #[.int .i64 ((rd_T95 l0_6 x16_1).f0), .int .i64 ((rd_T95 l0_6 x16_1).f1), .int .i64 ((rd_T95 l0_6 x16_1).f2), .int .i64 ((rd_T95 l0_6 x16_1).f3), .int .i64 ((rd_T95 l0_6 x16_1).f4)]] ?_; (with_reducible refine (spec_IsOpen.calls ((rd_T95 l0_6 x16_1).f0) ((rd_T95 l0_6 x16_1).f1) ((rd_T95 l0_6 x16_1).f2) ((rd_T95 l0_6 x16_1).f3) ((rd_T95 l0_6 x16_1).f4) true _ A14.out).mono ?_); rintro e w26 ⟨rfl, hb⟩; refine ⟨_, rfl, ?_⟩; replace BK1450 := dk (blk_below (bf NB1450_1456.out BK1450) hb); replace BK1456 := dk (blk_below (g := gb1456) (o := .cells #[.int .i64 ((rd_T95 l0_6 x16_1).f0), .int .i64 ((rd_T95 l0_6 x16_1).f1), .int .i64 ((rd_T95 l0_6 x16_1).f2), .int .i64 ((rd_T95 l0_6 x16_1).f3), .int .i64 ((rd_T95 l0_6 x16_1).f4)] 95 (0, 0)) (bp BK1456) hb); replace HB := hs_ HB hb; have ⟨z27_0, z27_1, z27_2, z27_3, z27_4, v27_0, v27_1, v27_2, v27_3, v27_4⟩ := rz5 BK1456))
           go_roundg k1
           case measure => have := HK1.out; omega
           case rel => exact ⟨(wrap64 (x5_1 + 2)), (wrap64 (x16_1 + 1)), e2_, e2_, H', ⟨by have := HK1.out; omega⟩, ⟨bk BK1450⟩, ⟨bb HB⟩⟩
          ·rw [if_neg c22] at H
           have c22b0 := beq_eq_false_iff_ne.mpr c22
           have c22b1 := bne_iff_ne.mpr c22
           have H' := dk H
           clear H
           have p1455 : 0 ≤ (x16_1 : Int) := oa
           have q1455 : x16_1 < (l0_6.length : Int) := oa
           obtain ⟨ad1455, e1455, hx1455_0, hx1455_1, hx1455_2, hx1455_3, hx1455_4⟩ := at_T95 HR0_6.out x16_1 p1455 q1455
           cases e1455
           replace hx1455_0 := hc HB hx1455_0
           replace hx1455_1 := hc HB hx1455_1
           replace hx1455_2 := hc HB hx1455_2
           replace hx1455_3 := hc HB hx1455_3
           replace hx1455_4 := hc HB hx1455_4
           replace p1455 := eq_true p1455
           replace q1455 := eq_true q1455
           go_wp2_with (first | ((with_reducible refine gdst_ 7 rfl ?_); refine bx (N := 7) (cs := #[.int .i64 0, .int .i64 0, .int .i64 0, .int .i64 0, .int .i64 0]) (t := 95) ?_; intro gb1456 hg w28 hbox hb; have BK1456 := dk (hbox); have GW1456 := gs hg HB; have GE1456 := gs hg HB; replace HB := hs_ HB hb; have NB1450_1456 := gn hg BK1450; have NB1456_1450 := gm hg BK1450; replace BK1450 := kb BK1450 hb; clear hb hbox hg; have hnb29 := NB1456_1450.out; have hnc29 := NB1450_1456.out; have ⟨z30_0, z30_1, z30_2, z30_3, z30_4, v30_0, v30_1, v30_2, v30_3, v30_4⟩ := rz5 BK1456) | ((with_reducible refine gcallee_ 77 rfl ?_); refine gl (some 21) Try.func77 #[.agg #[.int .i64 ((rd_T95 l0_6 x16_1).f0), .int .i64 ((rd_T95 l0_6 x16_1).f1), .int .i64 ((rd_T95 l0_6 x16_1).f2), .int .i64 ((rd_T95 l0_6 x16_1).f3), .int .i64 ((rd_T95 l0_6 x16_1).f4)]] ?_; (with_reducible refine (spec_IsOpen.calls ((rd_T95 l0_6 x16_1).f0) ((rd_T95 l0_6 x16_1).f1) ((rd_T95 l0_6 x16_1).f2) ((rd_T95 l0_6 x16_1).f3) ((rd_T95 l0_6 x16_1).f4) true _ A14.out).mono ?_); rintro e w31 ⟨rfl, hb⟩; refine ⟨_, rfl, ?_⟩; replace BK1450 := dk (blk_below (bf NB1450_1456.out BK1450) hb); replace BK1456 := dk (blk_below (g := gb1456) (o := .cells #[.int .i64 ((rd_T95 l0_6 x16_1).f0), .int .i64 ((rd_T95 l0_6 x16_1).f1), .int .i64 ((rd_T95 l0_6 x16_1).f2), .int .i64 ((rd_T95 l0_6 x16_1).f3), .int .i64 ((rd_T95 l0_6 x16_1).f4)] 95 (0, 0)) (bp BK1456) hb); replace HB := hs_ HB hb; have ⟨z32_0, z32_1, z32_2, z32_3, z32_4, v32_0, v32_1, v32_2, v32_3, v32_4⟩ := rz5 BK1456))
           go_roundg k1
           case measure => have := HK1.out; omega
           case rel => exact ⟨(x5_1), (wrap64 (x16_1 + 1)), e2_, e2_, H', ⟨by have := HK1.out; omega⟩, ⟨bk BK1450⟩, ⟨bb HB⟩⟩
        ·replace c15 := Bool.eq_false_iff.mpr c15
         subst c15
         rw [if_neg (show ¬ (false = true) by decide)] at H
         have H' := dk H
         clear H
         have p1455 : 0 ≤ (x16_1 : Int) := oa
         have q1455 : x16_1 < (l0_6.length : Int) := oa
         obtain ⟨ad1455, e1455, hx1455_0, hx1455_1, hx1455_2, hx1455_3, hx1455_4⟩ := at_T95 HR0_6.out x16_1 p1455 q1455
         cases e1455
         replace hx1455_0 := hc HB hx1455_0
         replace hx1455_1 := hc HB hx1455_1
         replace hx1455_2 := hc HB hx1455_2
         replace hx1455_3 := hc HB hx1455_3
         replace hx1455_4 := hc HB hx1455_4
         replace p1455 := eq_true p1455
         replace q1455 := eq_true q1455
         go_wp2_with (first | ((with_reducible refine gdst_ 7 rfl ?_); refine bx (N := 7) (cs := #[.int .i64 0, .int .i64 0, .int .i64 0, .int .i64 0, .int .i64 0]) (t := 95) ?_; intro gb1456 hg w33 hbox hb; have BK1456 := dk (hbox); have GW1456 := gs hg HB; have GE1456 := gs hg HB; replace HB := hs_ HB hb; have NB1450_1456 := gn hg BK1450; have NB1456_1450 := gm hg BK1450; replace BK1450 := kb BK1450 hb; clear hb hbox hg; have hnb34 := NB1456_1450.out; have hnc34 := NB1450_1456.out; have ⟨z35_0, z35_1, z35_2, z35_3, z35_4, v35_0, v35_1, v35_2, v35_3, v35_4⟩ := rz5 BK1456) | ((with_reducible refine gcallee_ 77 rfl ?_); refine gl (some 21) Try.func77 #[.agg #[.int .i64 ((rd_T95 l0_6 x16_1).f0), .int .i64 ((rd_T95 l0_6 x16_1).f1), .int .i64 ((rd_T95 l0_6 x16_1).f2), .int .i64 ((rd_T95 l0_6 x16_1).f3), .int .i64 ((rd_T95 l0_6 x16_1).f4)]] ?_; (with_reducible refine (spec_IsOpen.calls ((rd_T95 l0_6 x16_1).f0) ((rd_T95 l0_6 x16_1).f1) ((rd_T95 l0_6 x16_1).f2) ((rd_T95 l0_6 x16_1).f3) ((rd_T95 l0_6 x16_1).f4) false _ A14.out).mono ?_); rintro e w36 ⟨rfl, hb⟩; refine ⟨_, rfl, ?_⟩; replace BK1450 := dk (blk_below (bf NB1450_1456.out BK1450) hb); replace BK1456 := dk (blk_below (g := gb1456) (o := .cells #[.int .i64 ((rd_T95 l0_6 x16_1).f0), .int .i64 ((rd_T95 l0_6 x16_1).f1), .int .i64 ((rd_T95 l0_6 x16_1).f2), .int .i64 ((rd_T95 l0_6 x16_1).f3), .int .i64 ((rd_T95 l0_6 x16_1).f4)] 95 (0, 0)) (bp BK1456) hb); replace HB := hs_ HB hb))
         go_roundg k1
         case measure => have := HK1.out; omega
         case rel => exact ⟨(x5_1), (wrap64 (x16_1 + 1)), e2_, e2_, H', ⟨by have := HK1.out; omega⟩, ⟨bk BK1450⟩, ⟨bb HB⟩⟩
       ·rw [if_neg c13] at H
        exact absurd H (by simp)
      ·rw [if_neg c12] at H
       exact absurd H (by simp)
     ·rw [if_neg c11] at H
      have c11b0 := decide_eq_false c11
      clear c11
      obtain rfl := Option.some.inj H
      go_wp2
      go_ret
      exact ⟨ee, bb HB⟩
  ·rw [if_neg c5] at H
   exact absurd H (by simp)
 ·rw [if_neg c4] at H
  exact absurd H (by simp)
end Go.Proofs.Ythfefanapneocaa.Q
