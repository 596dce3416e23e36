/- A part of the proof of FnCups: functions of the program, as plain functions, with the proof that the machine's call does what they say; plain lemmas; and those of the words that print.sh prints which this proof uses. No condition. -/
import Derived.Test.YtibmeomlokigjaaDoorKFnCups1
import Derived.Test.YtibmeomlokigjaaDoorProg
import Derived.Below
import Derived.Deep.Draws
import Derived.Deep.AppendLies
import Derived.Maps.AppendAt
import Derived.OwnWalk
import Derived.Laws.BytesArg
import Derived.Laws.MakeOwn
import Derived.Laws.OwnMore
import Derived.Deep.OwnRows
import Derived.Tactics
import Derived.Lib.ConvBytes
import Derived.Laws.Slices
import Derived.WalkKit
import Derived.KernelRfl
import Derived.RowKit3
import Derived.Deep.LoopGhost
import Derived.Deep.QuietTactic
import Derived.BigQuiet
import Derived.WideLaws
import Derived.Deep.DeepCutAuto
import Derived.Deep.CutBlock
import Derived.Deep.RegionHeld3
import Derived.Laws.Rows
import Derived.Lib.AppendStr
import Derived.ArgAppend
import Derived.Laws.IdiomCopy
import Derived.OrdersHeld
import Derived.Laws.BitsLemmas
import Derived.RowKit
import Derived.WalkSpells
import Derived.Shelf.Strings.Builder1
import Derived.Shelf.Strings.Builder2
import Derived.Shelf.Strings.OnBuilder
import Derived.Shelf.Strconv.Itoa0
import Derived.Shelf.Strconv.Itoa1
import Derived.Shelf.LaysM
import Derived.Shelf.Strconv.Itoa2
import Derived.Shelf.Strconv.Itoa3
import Derived.Laws.StructEq
section
namespace Go.Proofs.YtibmeomlokigjaaDoor.Q
open Go.RowKit Go.Proofs.YtibmeomlokigjaaDoorW.PrintWords Go.Proofs.YtibmeomlokigjaaDoorW.PrintLast Go.Proofs.YtibmeomlokigjaaDoorW.PrintMore
attribute [local go_sem] max2_int min2_int max_two min_two max_three min_three max_four min_four
set_option linter.unusedVariables false
set_option linter.unusedSimpArgs false
mutual
def spec_BracketOf.l0 : Nat → Int → List Int → Int → Option (List Int)
  | 0, _, _, _ => none
  | k + 1, x0, x3, x4 => if x4 ≤ x0 then (spec_BracketOf.l1 k x0 x4 (([] : List Int)) x3 (x3.length : Int) 0) else (some x3)
def spec_BracketOf.l1 : Nat → Int → Int → List Int → List Int → Int → Int → Option (List Int)
  | 0, _, _, _, _, _, _ => none
  | k + 1, x0, x4, x5, x18, x19, x20 => if x20 < x19 then (if 0 ≤ x20 then (if x20 < (x18.length : Int) then (if (Int.tmod x20 2) = 0 then ((some (([rd x18 x20, wrap64 ((wrap64 (x4 + 1)) - (rd x18 x20))] : List Int) : List Int)).bind fun y524 => (if x5.length + y524.length < 17592186044416 then (spec_BracketOf.l1 k x0 x4 (x5 ++ y524) x18 x19 (wrap64 (x20 + 1))) else (none))) else ((some (([wrap64 ((wrap64 (x4 + 1)) - (rd x18 x20)), rd x18 x20] : List Int) : List Int)).bind fun y530 => (if x5.length + y530.length < 17592186044416 then (spec_BracketOf.l1 k x0 x4 (x5 ++ y530) x18 x19 (wrap64 (x20 + 1))) else (none)))) else (none)) else (none)) else (spec_BracketOf.l0 k x0 x5 (wrap64 (2 * x4)))
end
def spec_BracketOf.f (k : Nat) (a0 : Int) : Option (List Int) := (spec_CupSizeOk.f a0).bind fun t516 => (if t516 = true then (spec_BracketOf.l0 k a0 (([1, 2] : List Int)) 4) else (some ([] : List Int)))
set_option maxHeartbeats 8000000 in
set_option maxRecDepth 100000 in
theorem spec_BracketOf.calls (k : Nat) (a0 : Int) (r : List Int) (w : World) (h : spec_BracketOf.f k a0 = some r) :
    Calls Tryd.prog 98 #[.int .i64 a0] w fun e w' => ∃ v0_ : Value, e = .returned (v0_) ∧ Kd.R (Kd.int .i64) 3 w' w.heap.size (fun _ => True) v0_ r ∧ Below w.heap.size w w' := by
  have HB := Aside0.mk (Below.refl w.heap.size w)
  have H : ((spec_CupSizeOk.f a0).bind fun t516 => (if t516 = true then (spec_BracketOf.l0 k a0 (([1, 2] : List Int)) 4) else (some ([] : List Int)))) = some r := h
  clear h
  replace H := Option.bind_eq_some_iff.mp H
  obtain ⟨t516, A20, H⟩ := H
  replace H : (if t516 = true then (spec_BracketOf.l0 k a0 (([1, 2] : List Int)) 4) else (some ([] : List Int))) = some r := H
  have A2 := Aside0.mk A20
  clear A20
  by_cases c3 : t516 = true
  · subst c3
    have H1 : (spec_BracketOf.l0 k a0 (([1, 2] : List Int)) 4) = some r := by rw [if_pos rfl] at H; exact H
    clear H
    have H := H1
    clear H1
    obtain ⟨y517, hy517⟩ : ∃ y_ : List Int, y_ = (([1, 2] : List Int)) := ⟨_, rfl⟩
    replace H : (spec_BracketOf.l0 k a0 y517 4) = some r := by first | (rw [hy517]; with_reducible exact H) | (have H2_ := (Option.bind_some _ _).symm.trans H; rw [hy517]; with_reducible exact H2_) | (have H2_ := (Option.bind_some _ _).symm.trans H; with_reducible exact H2_) | with_reducible exact H | (rw [hy517]; exact H) | exact H
    have Ny517 := Aside0.mk hy517
    clear hy517
    have H' := Aside0.mk H
    clear H
    go_enter Tryd.func98, Tryd.ntmps98
    go_wp2_with (first | ((with_reducible refine gate_callee (f := 87) rfl ?_); refine gl (some 9) Tryd.func87 #[.int .i64 a0] ?_; (with_reducible refine (spec_CupSizeOk.calls a0 true _ A2.out).mono ?_); rintro e w' ⟨rfl, ⟨nd, rfl⟩⟩; refine ⟨_, rfl, ?_⟩) | ((with_reducible refine gate_dst (N := 11) rfl ?_); refine Kd.R_lit (Kd.int .i64) _ 3 ?hg (N := 11) ?hd (xs := ([1, 2] : List Int)) (inner := [.int .i64 1, .int .i64 2]) (ok := fun _ => True) (okp := fun _ => True) ?hr ?hp (fun _ hk => hk) trivial (Below.refl _ _) (Nat.le_refl _) (by simp) ?_; (case hd => rfl); (case hg => rfl); (case hr => first | (go_simp; done) | (go_simp; rfl)); (case hp => exact (Reps.one (show Kd.M (Kd.int .i64) _ _ _ 1 [.int .i64 1] from rfl) (Reps.one (show Kd.M (Kd.int .i64) _ _ _ 2 [.int .i64 2] from rfl) (Reps.none _ _)))); intro v518 w4 ho5 hb hg_ hnew_; clear hg_ hnew_; (first | rw [← Ny517.out] at ho5 | (simp only [Int.reduceToNat] at ho5; rw [← Ny517.out] at ho5)); have HO519 := kl ho5 HB; replace HB := hs_ HB hb; clear hb ho5))
    go_loopg [3, 4] k (fun kq v3 v4 w' => ∃ (x3_1 : List Int) (x4_1 : Int), v4 = .int .i64 x4_1 ∧ Aside0 (spec_BracketOf.l0 kq a0 x3_1 x4_1 = some r) ∧ Aside0 (kq ≤ k) ∧ Aside0 (Kd.R (Kd.int .i64) 3 w' w.heap.size (fun _ => True) v3 x3_1) ∧ Aside0 (Below w.heap.size w w'))
    case atStart => exact ⟨(y517), (4), e2_, H', ⟨Nat.le_refl _⟩, ⟨rr HO519⟩, ⟨bb HB⟩⟩
    case round =>
      clear H'
      (try clear p2)
      (try clear c3)
      obtain ⟨x3_1, x4_1, rfl, HA, HK1, HO_3, HB⟩ := hrel
      cases gk with
      | zero => exact absurd HA.out (by simp [spec_BracketOf.l0])
      | succ k1 =>
        have H := HA.out
        clear HA
        simp only [spec_BracketOf.l0] at H
        by_cases c6 : x4_1 ≤ a0
        · rw [if_pos c6] at H
          have c6b0 : decide (x4_1 ≤ a0) = true := decide_eq_true c6
          clear c6
          obtain ⟨y520, hy520⟩ : ∃ y_ : List Int, y_ = (([] : List Int)) := ⟨_, rfl⟩
          replace H : (spec_BracketOf.l1 k1 a0 x4_1 y520 x3_1 (x3_1.length : Int) 0) = some r := by first | (rw [hy520]; with_reducible exact H) | (have H2_ := (Option.bind_some _ _).symm.trans H; rw [hy520]; with_reducible exact H2_) | (have H2_ := (Option.bind_some _ _).symm.trans H; with_reducible exact H2_) | with_reducible exact H | (rw [hy520]; exact H) | exact H
          have Ny520 := Aside0.mk hy520
          clear hy520
          have H' := Aside0.mk H
          clear H
          go_wp2_with (first | ((with_reducible refine gate_dst (N := 17) rfl ?_); refine Kd.R_lit (Kd.int .i64) _ 3 ?hg (N := 17) ?hd (xs := ([] : List Int)) (inner := []) (ok := fun _ => True) (okp := fun _ => True) ?hr ?hp (fun _ hk => hk) trivial (Below.refl _ _) (Nat.le_refl _) (by simp) ?_; (case hd => rfl); (case hg => rfl); (case hr => first | (go_simp; done) | (go_simp; rfl)); (case hp => exact (Reps.none _ _)); intro v521 w7 ho8 hb hg_ hnew_; clear hg_ hnew_; (first | rw [← Ny520.out] at ho8 | (simp only [Int.reduceToNat] at ho8; rw [← Ny520.out] at ho8)); have HO522 := Aside0.mk (Kd.R_lower (Kd.R_new' ho8 (rt HO_3)) (below_size (bb HB))); replace HO_3 := ke HO_3 ho8 hb; replace HB := hs_ HB hb; clear hb ho8; obtain ⟨Ao9, co9, eo9⟩ := Kd.R_slice HO_3.out; subst eo9))
          go_loopg [5, 20] k1 (fun kq v5 v20 w' => ∃ (x5_2 : List Int) (x20_2 : Int), v20 = .int .i64 x20_2 ∧ Aside0 (spec_BracketOf.l1 kq a0 x4_1 x5_2 x3_1 (x3_1.length : Int) x20_2 = some r) ∧ Aside0 (kq ≤ k1) ∧ Aside0 (Kd.R (Kd.int .i64) 3 w' w.heap.size (fun k_ => some k_ ≠ ((.slice Ao9 x3_1.length co9) : Value).ownBlock) v5 x5_2) ∧ Aside0 (Kd.R (Kd.int .i64) 3 w' w.heap.size (fun k_ => some k_ ≠ (v5 : Value).ownBlock) (.slice Ao9 x3_1.length co9) x3_1) ∧ Aside0 (Below w.heap.size w w'))
          case atStart => exact ⟨(y520), (0), e2_, H', ⟨Nat.le_refl _⟩, ⟨ro HO522 (fun _ hk => hk.2)⟩, ⟨ro HO_3 (fun _ hk => hk.2)⟩, ⟨bb HB⟩⟩
          case round =>
            clear H'
            (try clear p2)
            (try clear c3)
            (try clear c6)
            (try clear c6b0)
            (try clear c8)
            (try clear c9)
            (try clear p2)
            obtain ⟨x5_2, x20_2, rfl, HA, HK2, HO_5, HO_18, HB⟩ := hrel
            cases gk with
            | zero => exact absurd HA.out (by simp [spec_BracketOf.l1])
            | succ k2 =>
              have H := HA.out
              clear HA
              simp only [spec_BracketOf.l1] at H
              by_cases c10 : x20_2 < (x3_1.length : Int)
              · rw [if_pos c10] at H
                have c10b0 : decide (x20_2 < (x3_1.length : Int)) = true := decide_eq_true c10
                clear c10
                by_cases c11 : 0 ≤ x20_2
                · rw [if_pos c11] at H
                  have c11b0 : decide (0 ≤ x20_2) = true := decide_eq_true c11
                  clear c11
                  by_cases c12 : x20_2 < (x3_1.length : Int)
                  · rw [if_pos c12] at H
                    have c12b0 : decide (x20_2 < (x3_1.length : Int)) = true := decide_eq_true c12
                    clear c12
                    by_cases c13 : (Int.tmod x20_2 2) = 0
                    · rw [if_pos c13] at H
                      have c13b0 : ((Int.tmod x20_2 2) == 0) = true := beq_iff_eq.mpr c13
                      have c13b1 : ((Int.tmod x20_2 2) != 0) = false := bne_eq_false_iff_eq.mpr c13
                      clear c13
                      obtain ⟨y524, hy524⟩ : ∃ y_ : List Int, y_ = (([rd x3_1 x20_2, wrap64 ((wrap64 (x4_1 + 1)) - (rd x3_1 x20_2))] : List Int)) := ⟨_, rfl⟩
                      replace H : (if x5_2.length + y524.length < 17592186044416 then (spec_BracketOf.l1 k2 a0 x4_1 (x5_2 ++ y524) x3_1 (x3_1.length : Int) (wrap64 (x20_2 + 1))) else (none)) = some r := by first | (rw [hy524]; with_reducible exact H) | (have H2_ := (Option.bind_some _ _).symm.trans H; rw [hy524]; with_reducible exact H2_) | (have H2_ := (Option.bind_some _ _).symm.trans H; with_reducible exact H2_) | with_reducible exact H | (rw [hy524]; exact H) | exact H
                      have Ny524 := Aside0.mk hy524
                      clear hy524
                      by_cases c14 : x5_2.length + y524.length < 17592186044416
                      · rw [if_pos c14] at H
                        have LMc14 := Aside0.mk c14
                        clear c14
                        obtain ⟨y527, hy527⟩ : ∃ y_ : List Int, y_ = (x5_2 ++ y524) := ⟨_, rfl⟩
                        replace H : (spec_BracketOf.l1 k2 a0 x4_1 y527 x3_1 (x3_1.length : Int) (wrap64 (x20_2 + 1))) = some r := by first | (rw [hy527]; with_reducible exact H) | (have H2_ := (Option.bind_some _ _).symm.trans H; rw [hy527]; with_reducible exact H2_) | (have H2_ := (Option.bind_some _ _).symm.trans H; with_reducible exact H2_) | with_reducible exact H | (rw [hy527]; exact H) | exact H
                        have Ny527 := Aside0.mk hy527
                        clear hy527
                        have H' := Aside0.mk H
                        clear H
                        have p523 : 0 ≤ (x20_2 : Int) := of_decide_eq_true (by first | (with_reducible assumption) | assumption)
                        have q523 : x20_2 < (x3_1.length : Int) := of_decide_eq_true (by first | (with_reducible assumption) | assumption)
                        obtain ⟨ad523, e523, hx523_0⟩ := Kd.at_int (Kd.R_reads' HO_18.out).2.2 x20_2 p523 q523
                        cases e523
                        replace p523 := eq_true p523
                        replace q523 := eq_true q523
                        go_wp2_with (first | ((with_reducible refine gate_dst (N := 34) rfl ?_); refine Kd.R_lit (Kd.int .i64) _ 3 ?hg (N := 34) ?hd (xs := ([rd x3_1 x20_2, wrap64 ((wrap64 (x4_1 + 1)) - (rd x3_1 x20_2))] : List Int)) (inner := [.int .i64 (rd x3_1 x20_2), .int .i64 (wrap64 ((wrap64 (x4_1 + 1)) - (rd x3_1 x20_2)))]) (ok := fun _ => True) (okp := fun _ => True) ?hr ?hp (fun _ hk => hk) trivial (Below.refl _ _) (Nat.le_refl _) (by simp) ?_; (case hd => rfl); (case hg => rfl); (case hr => first | (go_simp; done) | (go_simp; rfl)); (case hp => exact (Reps.one (show Kd.M (Kd.int .i64) _ _ _ (rd x3_1 x20_2) [.int .i64 (rd x3_1 x20_2)] from rfl) (Reps.one (show Kd.M (Kd.int .i64) _ _ _ (wrap64 ((wrap64 (x4_1 + 1)) - (rd x3_1 x20_2))) [.int .i64 (wrap64 ((wrap64 (x4_1 + 1)) - (rd x3_1 x20_2)))] from rfl) (Reps.none _ _)))); intro v525 w15 ho16 hb hg_ hnew_; clear hg_ hnew_; (first | rw [← Ny524.out] at ho16 | (simp only [Int.reduceToNat] at ho16; rw [← Ny524.out] at ho16)); have HO526 := Aside0.mk (Kd.R_lower (Kd.R_new' (Kd.R_new' ho16 (rt HO_5)) (rt HO_18)) (below_size (bb HB))); replace HO_5 := ke HO_5 ho16 hb; replace HO_18 := ke HO_18 ho16 hb; replace HB := hs_ HB hb; clear hb ho16; obtain ⟨Ao18, co18, eo18⟩ := Kd.R_slice HO526.out; subst eo18) | ((with_reducible refine gate_builtin (b := .append) (xs := #[.tmp 28, .tmp 34]) rfl ?_); at_builtin; refine Kd.R_append_rows (Kd.int .i64) (w0 := w) w.heap.size rfl (.tmp 28) (.tmp 34) 42 3 (.int .i64 0) 8 rfl Tryd.underlying42 info3 rfl (by decide) (by omega) u5 x5_2 y524 _ _ _ (fun k_ => some k_ ≠ (.slice (some ad523) x3_1.length co9 : Value).ownBlock ∧ some k_ ≠ (.slice Ao18 y524.length co18 : Value).ownBlock) (fun _ => False) rfl rfl ?aO ?aR (fun _ _ h => h) (fun _ h => h.elim) ?aF ?aB ?aS ?aL ?_; (case aR => exact cr HO526); (case aB => exact (bb HB)); (case aF => exact (fun k_ hk => ⟨Kd.fresh' (Kd.R_lt (rr HO_18)) k_ hk, Kd.fresh' (Kd.R_lt (rr HO526)) k_ hk⟩)); (case aO => exact (rr HO_5)); (case aS => exact (below_size (bb HB))); (case aL => have := LMc14.out; omega); intro v528 w17 ho hb hg hat; rw [← Ny527.out] at ho; replace HO_18 := Aside0.mk (Kd.R_after (ok := (fun k_ => some k_ ≠ (.slice Ao18 y524.length co18 : Value).ownBlock)) (ro HO_18 (fun _ hk => ⟨hk.2, hk.1⟩)) hg hat); replace HO526 := Aside0.mk (Kd.R_after (ok := (fun k_ => some k_ ≠ (.slice (some ad523) x3_1.length co9 : Value).ownBlock)) (ro HO526 (fun _ hk => ⟨hk.2, hk.1.2⟩)) hg hat); replace HB := Aside0.mk (hb); have HO529 := Aside0.mk (ho); clear HO_5 ho hb hg hat))
                        go_roundg k2
                        case measure => have := HK1.out; have := HK2.out; omega
                        case rel => exact ⟨(y527), (wrap64 (x20_2 + 1)), e2_, H', ⟨by have := HK1.out; have := HK2.out; omega⟩, ⟨ro HO529 (fun _ hk => hk.1)⟩, ⟨ro HO_18 (fun _ hk => hk.2)⟩, ⟨bb HB⟩⟩
                      · rw [if_neg c14] at H
                        exact absurd H (by simp)
                    · rw [if_neg c13] at H
                      have c13b0 : ((Int.tmod x20_2 2) == 0) = false := beq_eq_false_iff_ne.mpr c13
                      have c13b1 : ((Int.tmod x20_2 2) != 0) = true := bne_iff_ne.mpr c13
                      obtain ⟨y530, hy530⟩ : ∃ y_ : List Int, y_ = (([wrap64 ((wrap64 (x4_1 + 1)) - (rd x3_1 x20_2)), rd x3_1 x20_2] : List Int)) := ⟨_, rfl⟩
                      replace H : (if x5_2.length + y530.length < 17592186044416 then (spec_BracketOf.l1 k2 a0 x4_1 (x5_2 ++ y530) x3_1 (x3_1.length : Int) (wrap64 (x20_2 + 1))) else (none)) = some r := by first | (rw [hy530]; with_reducible exact H) | (have H2_ := (Option.bind_some _ _).symm.trans H; rw [hy530]; with_reducible exact H2_) | (have H2_ := (Option.bind_some _ _).symm.trans H; with_reducible exact H2_) | with_reducible exact H | (rw [hy530]; exact H) | exact H
                      have Ny530 := Aside0.mk hy530
                      clear hy530
                      by_cases c19 : x5_2.length + y530.length < 17592186044416
                      · rw [if_pos c19] at H
                        have LMc19 := Aside0.mk c19
                        clear c19
                        obtain ⟨y533, hy533⟩ : ∃ y_ : List Int, y_ = (x5_2 ++ y530) := ⟨_, rfl⟩
                        replace H : (spec_BracketOf.l1 k2 a0 x4_1 y533 x3_1 (x3_1.length : Int) (wrap64 (x20_2 + 1))) = some r := by first | (rw [hy533]; with_reducible exact H) | (have H2_ := (Option.bind_some _ _).symm.trans H; rw [hy533]; with_reducible exact H2_) | (have H2_ := (Option.bind_some _ _).symm.trans H; with_reducible exact H2_) | with_reducible exact H | (rw [hy533]; exact H) | exact H
                        have Ny533 := Aside0.mk hy533
                        clear hy533
                        have H' := Aside0.mk H
                        clear H
                        have p523 : 0 ≤ (x20_2 : Int) := of_decide_eq_true (by first | (with_reducible assumption) | assumption)
                        have q523 : x20_2 < (x3_1.length : Int) := of_decide_eq_true (by first | (with_reducible assumption) | assumption)
                        obtain ⟨ad523, e523, hx523_0⟩ := Kd.at_int (Kd.R_reads' HO_18.out).2.2 x20_2 p523 q523
                        cases e523
                        replace p523 := eq_true p523
                        replace q523 := eq_true q523
                        go_wp2_with (first | ((with_reducible refine gate_dst (N := 42) rfl ?_); refine Kd.R_lit (Kd.int .i64) _ 3 ?hg (N := 42) ?hd (xs := ([wrap64 ((wrap64 (x4_1 + 1)) - (rd x3_1 x20_2)), rd x3_1 x20_2] : List Int)) (inner := [.int .i64 (wrap64 ((wrap64 (x4_1 + 1)) - (rd x3_1 x20_2))), .int .i64 (rd x3_1 x20_2)]) (ok := fun _ => True) (okp := fun _ => True) ?hr ?hp (fun _ hk => hk) trivial (Below.refl _ _) (Nat.le_refl _) (by simp) ?_; (case hd => rfl); (case hg => rfl); (case hr => first | (go_simp; done) | (go_simp; rfl)); (case hp => exact (Reps.one (show Kd.M (Kd.int .i64) _ _ _ (wrap64 ((wrap64 (x4_1 + 1)) - (rd x3_1 x20_2))) [.int .i64 (wrap64 ((wrap64 (x4_1 + 1)) - (rd x3_1 x20_2)))] from rfl) (Reps.one (show Kd.M (Kd.int .i64) _ _ _ (rd x3_1 x20_2) [.int .i64 (rd x3_1 x20_2)] from rfl) (Reps.none _ _)))); intro v531 w20 ho21 hb hg_ hnew_; clear hg_ hnew_; (first | rw [← Ny530.out] at ho21 | (simp only [Int.reduceToNat] at ho21; rw [← Ny530.out] at ho21)); have HO532 := Aside0.mk (Kd.R_lower (Kd.R_new' (Kd.R_new' ho21 (rt HO_5)) (rt HO_18)) (below_size (bb HB))); replace HO_5 := ke HO_5 ho21 hb; replace HO_18 := ke HO_18 ho21 hb; replace HB := hs_ HB hb; clear hb ho21; obtain ⟨Ao23, co23, eo23⟩ := Kd.R_slice HO532.out; subst eo23) | ((with_reducible refine gate_builtin (b := .append) (xs := #[.tmp 36, .tmp 42]) rfl ?_); at_builtin; refine Kd.R_append_rows (Kd.int .i64) (w0 := w) w.heap.size rfl (.tmp 36) (.tmp 42) 42 3 (.int .i64 0) 8 rfl Tryd.underlying42 info3 rfl (by decide) (by omega) u5 x5_2 y530 _ _ _ (fun k_ => some k_ ≠ (.slice (some ad523) x3_1.length co9 : Value).ownBlock ∧ some k_ ≠ (.slice Ao23 y530.length co23 : Value).ownBlock) (fun _ => False) rfl rfl ?aO ?aR (fun _ _ h => h) (fun _ h => h.elim) ?aF ?aB ?aS ?aL ?_; (case aR => exact cr HO532); (case aB => exact (bb HB)); (case aF => exact (fun k_ hk => ⟨Kd.fresh' (Kd.R_lt (rr HO_18)) k_ hk, Kd.fresh' (Kd.R_lt (rr HO532)) k_ hk⟩)); (case aO => exact (rr HO_5)); (case aS => exact (below_size (bb HB))); (case aL => have := LMc19.out; omega); intro v534 w22 ho hb hg hat; rw [← Ny533.out] at ho; replace HO_18 := Aside0.mk (Kd.R_after (ok := (fun k_ => some k_ ≠ (.slice Ao23 y530.length co23 : Value).ownBlock)) (ro HO_18 (fun _ hk => ⟨hk.2, hk.1⟩)) hg hat); replace HO532 := Aside0.mk (Kd.R_after (ok := (fun k_ => some k_ ≠ (.slice (some ad523) x3_1.length co9 : Value).ownBlock)) (ro HO532 (fun _ hk => ⟨hk.2, hk.1.2⟩)) hg hat); replace HB := Aside0.mk (hb); have HO535 := Aside0.mk (ho); clear HO_5 ho hb hg hat))
                        go_roundg k2
                        case measure => have := HK1.out; have := HK2.out; omega
                        case rel => exact ⟨(y533), (wrap64 (x20_2 + 1)), e2_, H', ⟨by have := HK1.out; have := HK2.out; omega⟩, ⟨ro HO535 (fun _ hk => hk.1)⟩, ⟨ro HO_18 (fun _ hk => hk.2)⟩, ⟨bb HB⟩⟩
                      · rw [if_neg c19] at H
                        exact absurd H (by simp)
                  · rw [if_neg c12] at H
                    exact absurd H (by simp)
                · rw [if_neg c11] at H
                  exact absurd H (by simp)
              · rw [if_neg c10] at H
                have c10b0 : decide (x20_2 < (x3_1.length : Int)) = false := decide_eq_false c10
                clear c10
                have H' := Aside0.mk H
                clear H
                go_wp2
                go_roundg k2
                case measure => have := HK1.out; have := HK2.out; omega
                case rel => exact ⟨(x5_2), (wrap64 (2 * x4_1)), e2_, H', ⟨by have := HK1.out; have := HK2.out; omega⟩, ⟨ro HO_5 (fun _ hk => trivial)⟩, ⟨bb HB⟩⟩
        · rw [if_neg c6] at H
          have c6b0 : decide (x4_1 ≤ a0) = false := decide_eq_false c6
          clear c6
          obtain rfl := Option.some.inj H
          go_wp2
          go_ret
          exact ⟨_, ee, rr HO_3, bb HB⟩
  · replace c3 := Bool.eq_false_iff.mpr c3
    subst c3
    have H1 : (some ([] : List Int)) = some r := by rw [if_neg (show ¬ (false = true) by decide)] at H; exact H
    clear H
    have H := H1
    clear H1
    obtain rfl := Option.some.inj H
    go_enter Tryd.func98, Tryd.ntmps98
    go_wp2_with (first | ((with_reducible refine gate_callee (f := 87) rfl ?_); refine gl (some 9) Tryd.func87 #[.int .i64 a0] ?_; (with_reducible refine (spec_CupSizeOk.calls a0 false _ A2.out).mono ?_); rintro e w' ⟨rfl, ⟨nd, rfl⟩⟩; refine ⟨_, rfl, ?_⟩))
    go_ret
    exact ⟨_, ee, by first | exact Kd.R_nil _ _ _ _ _ | exact Kd.N_nil _ _ _ _ _ | exact Kd.V_nil _ _ _ _ _ | exact Kd.Q_nil _ _ _ _ _ | exact Kd.S_nil _ _ _ _ _, bb HB⟩
end Go.Proofs.YtibmeomlokigjaaDoor.Q
end
section
namespace Go.Proofs.YtibmeomlokigjaaDoor.Q
open Go.RowKit Go.Proofs.YtibmeomlokigjaaDoorW.PrintWords Go.Proofs.YtibmeomlokigjaaDoorW.PrintLast Go.Proofs.YtibmeomlokigjaaDoorW.PrintMore
attribute [local go_sem] max2_int min2_int max_two min_two max_three min_three max_four min_four
set_option linter.unusedVariables false
set_option linter.unusedSimpArgs false
mutual
def spec_l14Teams.l0 : Nat → List Int → Int → List Int → Int → Int → Option (Int × Int × Bool)
  | 0, _, _, _, _, _ => none
  | k + 1, x1, x2, x9, x10, x11 => if x11 > 0 then (if x2 < (wrap64 (x10 + x11)) then (if (wrap64 ((wrap64 (2 * (wrap64 (x2 - x10)))) + 1)) ≥ (x9.length : Int) then (some (0, 0, false)) else (if 0 ≤ (wrap64 (2 * (wrap64 (x2 - x10)))) then (if (wrap64 (2 * (wrap64 (x2 - x10)))) < (x9.length : Int) then (if 0 ≤ (wrap64 ((wrap64 (2 * (wrap64 (x2 - x10)))) + 1)) then (if (wrap64 ((wrap64 (2 * (wrap64 (x2 - x10)))) + 1)) < (x9.length : Int) then (some (rd x9 (wrap64 (2 * (wrap64 (x2 - x10)))), rd x9 (wrap64 ((wrap64 (2 * (wrap64 (x2 - x10)))) + 1)), true)) else (none)) else (none)) else (none)) else (none))) else (spec_l14Teams.l1 k x1 x2 (([] : List Int)) x10 x11 x10)) else (some (0, 0, false))
def spec_l14Teams.l1 : Nat → List Int → Int → List Int → Int → Int → Int → Option (Int × Int × Bool)
  | 0, _, _, _, _, _, _ => none
  | k + 1, x1, x2, x9, x10, x11, x13 => if x13 < (wrap64 (x10 + x11)) then (if x13 < (x1.length : Int) then (if 0 ≤ x13 then (if x9.length < 17592186044416 then (spec_l14Teams.l1 k x1 x2 (x9 ++ [rd x1 x13]) x10 x11 (wrap64 (x13 + 1))) else (none)) else (none)) else (spec_l14Teams.l0 k x1 x2 x9 (wrap64 (x10 + x11)) (wrap64 (Int.tdiv x11 2)))) else (spec_l14Teams.l0 k x1 x2 x9 (wrap64 (x10 + x11)) (wrap64 (Int.tdiv x11 2)))
end
def spec_l14Teams.f (k : Nat) (a0 : Int) (l1 : List Int) (a2 : Int) : Option (Int × Int × Bool) := (spec_BracketOf.f k a0).bind fun t536 => (spec_l14Teams.l0 k l1 a2 t536 0 (wrap64 (Int.tdiv a0 2)))
set_option maxHeartbeats 8000000 in
set_option maxRecDepth 100000 in
theorem spec_l14Teams.calls (k : Nat) (a0 : Int) (A1 : Option Addr) (c1 : Nat) (l1 : List Int) (a2 : Int) (r1 : Int) (r2 : Int) (r3 : Bool) (w : World) (hr1 : Kd.C (Kd.int .i64) w A1 l1.length l1) (hc1 : l1.length ≤ c1) (h : spec_l14Teams.f k a0 l1 a2 = some (r1, r2, r3)) :
    Calls Tryd.prog 88 #[.int .i64 a0, .slice A1 l1.length c1, .int .i64 a2] w fun e w' => e = .returned (.tuple #[.int .i64 r1, .int .i64 r2, .bool r3]) ∧ Below w.heap.size w w' := by
  have HR1 := Aside0.mk hr1
  have HC1 := Aside0.mk hc1
  clear hr1 hc1
  have HB := Aside0.mk (Below.refl w.heap.size w)
  have H : ((spec_BracketOf.f k a0).bind fun t536 => (spec_l14Teams.l0 k l1 a2 t536 0 (wrap64 (Int.tdiv a0 2)))) = some (r1, r2, r3) := h
  clear h
  replace H := Option.bind_eq_some_iff.mp H
  obtain ⟨t536, A40, H⟩ := H
  replace H : (spec_l14Teams.l0 k l1 a2 t536 0 (wrap64 (Int.tdiv a0 2))) = some (r1, r2, r3) := H
  have A4 := Aside0.mk A40
  clear A40
  have H' := Aside0.mk H
  clear H
  go_enter Tryd.func88, Tryd.ntmps88
  go_wp2_with (first | (go_at_call 98; (with_reducible refine (spec_BracketOf.calls k a0 t536 _ A4.out).mono ?_); rintro e w5 ⟨v537, rfl, ho0, hb⟩; have HO538 := kl ho0 HB; replace HB := hs_ HB hb; (try clear hb); (try clear hb2); (try clear hk); (try clear hi); (try clear ho0)))
  repeat (go_quiet (first | (go_at_call 98; (with_reducible refine (spec_BracketOf.calls k a0 t536 _ A4.out).mono ?_); rintro e w5 ⟨v537, rfl, ho0, hb⟩; have HO538 := kl ho0 HB; replace HB := hs_ HB hb; (try clear hb); (try clear hb2); (try clear hk); (try clear hi); (try clear ho0))); try go_wp2_with (first | (go_at_call 98; (with_reducible refine (spec_BracketOf.calls k a0 t536 _ A4.out).mono ?_); rintro e w5 ⟨v537, rfl, ho0, hb⟩; have HO538 := kl ho0 HB; replace HB := hs_ HB hb; (try clear hb); (try clear hb2); (try clear hk); (try clear hi); (try clear ho0))))
  go_loopg [9, 10, 11] k (fun kq v9 v10 v11 w' => ∃ (x9_1 : List Int) (x10_1 : Int) (x11_1 : Int), v10 = .int .i64 x10_1 ∧ v11 = .int .i64 x11_1 ∧ Aside0 (spec_l14Teams.l0 kq l1 a2 x9_1 x10_1 x11_1 = some (r1, r2, r3)) ∧ Aside0 (kq ≤ k) ∧ Aside0 (Kd.R (Kd.int .i64) 3 w' w.heap.size (fun _ => True) v9 x9_1) ∧ Aside0 (Below w.heap.size w w'))
  case atStart => exact ⟨(t536), (0), (wrap64 (Int.tdiv a0 2)), e2_, e2_, H', ⟨Nat.le_refl _⟩, ⟨rr HO538⟩, ⟨bb HB⟩⟩
  case round =>
    clear H'
    (try clear c1)
    (try clear p2)
    obtain ⟨x9_1, x10_1, x11_1, rfl, rfl, HA, HK1, HO_9, HB⟩ := hrel
    cases gk with
    | zero => exact absurd HA.out (by simp [spec_l14Teams.l0])
    | succ k1 =>
      have H := HA.out
      clear HA
      simp only [spec_l14Teams.l0] at H
      by_cases c6 : x11_1 > 0
      · rw [if_pos c6] at H
        have c6b0 : decide (0 < x11_1) = true := decide_eq_true c6
        clear c6
        by_cases c7 : a2 < (wrap64 (x10_1 + x11_1))
        · rw [if_pos c7] at H
          have c7b0 : decide (a2 < (wrap64 (x10_1 + x11_1))) = true := decide_eq_true c7
          clear c7
          by_cases c8 : (wrap64 ((wrap64 (2 * (wrap64 (a2 - x10_1)))) + 1)) ≥ (x9_1.length : Int)
          · rw [if_pos c8] at H
            have c8b0 : decide ((x9_1.length : Int) ≤ (wrap64 ((wrap64 (2 * (wrap64 (a2 - x10_1)))) + 1))) = true := decide_eq_true c8
            clear c8
            simp only [Option.some.injEq, Prod.mk.injEq] at H
            obtain ⟨rfl, rfl, rfl⟩ := H
            obtain ⟨Ao9, co9, eo9⟩ := Kd.R_slice HO_9.out
            subst eo9
            go_wp2
            repeat (go_quiet (fail); try go_wp2)
            go_ret3
            exact ⟨ee, bb HB⟩
          · rw [if_neg c8] at H
            have c8b0 : decide ((x9_1.length : Int) ≤ (wrap64 ((wrap64 (2 * (wrap64 (a2 - x10_1)))) + 1))) = false := decide_eq_false c8
            clear c8
            obtain ⟨ji10, hji10⟩ : ∃ j_ : Int, (wrap64 (2 * (wrap64 (a2 - x10_1)))) = j_ := ⟨_, rfl⟩
            replace H : (if 0 ≤ (ji10) then (if (ji10) < (x9_1.length : Int) then (if 0 ≤ (wrap64 ((ji10) + 1)) then (if (wrap64 ((ji10) + 1)) < (x9_1.length : Int) then (some (rd x9_1 (ji10), rd x9_1 (wrap64 ((ji10) + 1)), true)) else (none)) else (none)) else (none)) else (none)) = some (r1, r2, r3) := by first | (rw [hji10] at H; exact H) | (simp only [hji10] at H ⊢; exact H)
            (try rw [hji10] at c8b0)
            have hji10w : (IntKind.i64.wrap (2 * (wrap64 (a2 - x10_1)))) = ji10 := (i64_w _).trans hji10
            by_cases c11 : 0 ≤ (ji10)
            · rw [if_pos c11] at H
              have c11b0 : decide (0 ≤ (ji10)) = true := decide_eq_true c11
              clear c11
              by_cases c12 : (ji10) < (x9_1.length : Int)
              · rw [if_pos c12] at H
                have c12b0 : decide ((ji10) < (x9_1.length : Int)) = true := decide_eq_true c12
                clear c12
                obtain ⟨ji13, hji13⟩ : ∃ j_ : Int, (wrap64 ((ji10) + 1)) = j_ := ⟨_, rfl⟩
                replace H : (if 0 ≤ (ji13) then (if (ji13) < (x9_1.length : Int) then (some (rd x9_1 (ji10), rd x9_1 (ji13), true)) else (none)) else (none)) = some (r1, r2, r3) := by first | (rw [hji13] at H; exact H) | (simp only [hji13] at H ⊢; exact H)
                have hji13w : (IntKind.i64.wrap ((ji10) + 1)) = ji13 := (i64_w _).trans hji13
                (try rw [hji13] at c7b0)
                (try rw [hji13] at c8b0)
                by_cases c14 : 0 ≤ (ji13)
                · rw [if_pos c14] at H
                  have c14b0 : decide (0 ≤ (ji13)) = true := decide_eq_true c14
                  clear c14
                  by_cases c15 : (ji13) < (x9_1.length : Int)
                  · rw [if_pos c15] at H
                    have c15b0 : decide ((ji13) < (x9_1.length : Int)) = true := decide_eq_true c15
                    clear c15
                    simp only [Option.some.injEq, Prod.mk.injEq] at H
                    obtain ⟨rfl, rfl, rfl⟩ := H
                    obtain ⟨Ao16, co16, eo16⟩ := Kd.R_slice HO_9.out
                    subst eo16
                    have p539 : 0 ≤ ((ji10) : Int) := of_decide_eq_true (by first | (with_reducible assumption) | assumption)
                    have q539 : (ji10) < (x9_1.length : Int) := of_decide_eq_true (by first | (with_reducible assumption) | assumption)
                    obtain ⟨ad539, e539, hx539_0⟩ := Kd.at_int (Kd.R_reads' HO_9.out).2.2 (ji10) p539 q539
                    cases e539
                    replace p539 := eq_true p539
                    replace q539 := eq_true q539
                    have p540 : 0 ≤ ((ji13) : Int) := of_decide_eq_true (by first | (with_reducible assumption) | assumption)
                    have q540 : (ji13) < (x9_1.length : Int) := of_decide_eq_true (by first | (with_reducible assumption) | assumption)
                    obtain ⟨ad540, e540, hx540_0⟩ := Kd.at_int (Kd.R_reads' HO_9.out).2.2 (ji13) p540 q540
                    obtain rfl : ad539 = ad540 := (by injection e540)
                    replace p540 := eq_true p540
                    replace q540 := eq_true q540
                    go_wp2
                    repeat (go_quiet (fail); try go_wp2)
                    go_ret3
                    exact ⟨by first | rfl | (simp [errW_none, errW_some] <;> rfl) | (simp only [← hji10, ← hji13]; first | rfl | (simp [errW_none, errW_some] <;> rfl)) | (simp [*, errW_none, errW_some] <;> rfl), bb HB⟩
                  · rw [if_neg c15] at H
                    exact absurd H (by simp)
                · rw [if_neg c14] at H
                  exact absurd H (by simp)
              · rw [if_neg c12] at H
                exact absurd H (by simp)
            · rw [if_neg c11] at H
              exact absurd H (by simp)
        · rw [if_neg c7] at H
          have c7b0 : decide (a2 < (wrap64 (x10_1 + x11_1))) = false := decide_eq_false c7
          clear c7
          obtain ⟨y541, hy541⟩ : ∃ y_ : List Int, y_ = (([] : List Int)) := ⟨_, rfl⟩
          replace H : (spec_l14Teams.l1 k1 l1 a2 y541 x10_1 x11_1 x10_1) = some (r1, r2, r3) := by first | (rw [hy541]; with_reducible exact H) | (have H2_ := (Option.bind_some _ _).symm.trans H; rw [hy541]; with_reducible exact H2_) | (have H2_ := (Option.bind_some _ _).symm.trans H; with_reducible exact H2_) | with_reducible exact H | (rw [hy541]; exact H) | exact H
          have Ny541 := Aside0.mk hy541
          clear hy541
          have H' := Aside0.mk H
          clear H
          go_wp2_with (first | ((with_reducible refine gate_dst (N := 45) rfl ?_); (try (refine gate_guard (by rfl) ?_; dsimp only)); refine Kd.R_lit (Kd.int .i64) _ 3 ?hg (N := 45) ?hd (xs := ([] : List Int)) (inner := []) (ok := fun _ => True) (okp := fun _ => True) ?hr ?hp (fun _ hk => hk) trivial (Below.refl _ _) (Nat.le_refl _) (by simp) ?_; (case hd => rfl); (case hg => rfl); (case hr => first | (go_simp; done) | (go_simp; rfl)); (case hp => exact (Reps.none _ _)); intro v542 w17 ho18 hb hg_ hnew_; clear hg_ hnew_; (first | rw [← Ny541.out] at ho18 | (simp only [Int.reduceToNat] at ho18; rw [← Ny541.out] at ho18)); have HO543 := Aside0.mk (Kd.R_lower (Kd.R_new' ho18 (rt HO_9)) (below_size (bb HB))); replace HO_9 := ke HO_9 ho18 hb; replace HB := hs_ HB hb; clear hb ho18))
          repeat (go_quiet (first | ((with_reducible refine gate_dst (N := 45) rfl ?_); (try (refine gate_guard (by rfl) ?_; dsimp only)); refine Kd.R_lit (Kd.int .i64) _ 3 ?hg (N := 45) ?hd (xs := ([] : List Int)) (inner := []) (ok := fun _ => True) (okp := fun _ => True) ?hr ?hp (fun _ hk => hk) trivial (Below.refl _ _) (Nat.le_refl _) (by simp) ?_; (case hd => rfl); (case hg => rfl); (case hr => first | (go_simp; done) | (go_simp; rfl)); (case hp => exact (Reps.none _ _)); intro v542 w17 ho18 hb hg_ hnew_; clear hg_ hnew_; (first | rw [← Ny541.out] at ho18 | (simp only [Int.reduceToNat] at ho18; rw [← Ny541.out] at ho18)); have HO543 := Aside0.mk (Kd.R_lower (Kd.R_new' ho18 (rt HO_9)) (below_size (bb HB))); replace HO_9 := ke HO_9 ho18 hb; replace HB := hs_ HB hb; clear hb ho18)); try go_wp2_with (first | ((with_reducible refine gate_dst (N := 45) rfl ?_); (try (refine gate_guard (by rfl) ?_; dsimp only)); refine Kd.R_lit (Kd.int .i64) _ 3 ?hg (N := 45) ?hd (xs := ([] : List Int)) (inner := []) (ok := fun _ => True) (okp := fun _ => True) ?hr ?hp (fun _ hk => hk) trivial (Below.refl _ _) (Nat.le_refl _) (by simp) ?_; (case hd => rfl); (case hg => rfl); (case hr => first | (go_simp; done) | (go_simp; rfl)); (case hp => exact (Reps.none _ _)); intro v542 w17 ho18 hb hg_ hnew_; clear hg_ hnew_; (first | rw [← Ny541.out] at ho18 | (simp only [Int.reduceToNat] at ho18; rw [← Ny541.out] at ho18)); have HO543 := Aside0.mk (Kd.R_lower (Kd.R_new' ho18 (rt HO_9)) (below_size (bb HB))); replace HO_9 := ke HO_9 ho18 hb; replace HB := hs_ HB hb; clear hb ho18)))
          go_loopg [9, 13] k1 (fun kq v9 v13 w' => ∃ (x9_2 : List Int) (x13_2 : Int), v13 = .int .i64 x13_2 ∧ Aside0 (spec_l14Teams.l1 kq l1 a2 x9_2 x10_1 x11_1 x13_2 = some (r1, r2, r3)) ∧ Aside0 (kq ≤ k1) ∧ Aside0 (Kd.R (Kd.int .i64) 3 w' w.heap.size (fun _ => True) v9 x9_2) ∧ Aside0 (Below w.heap.size w w'))
          case atStart => exact ⟨(y541), (x10_1), e2_, H', ⟨Nat.le_refl _⟩, ⟨ro HO543 (fun _ hk => trivial)⟩, ⟨bb HB⟩⟩
          case round =>
            clear H'
            (try clear c1)
            (try clear p2)
            (try clear p5)
            (try clear q5)
            (try clear hx5)
            (try clear c6)
            (try clear c6b0)
            (try clear p6)
            (try clear c7)
            (try clear c7b0)
            (try clear c8)
            (try clear c8b0)
            (try clear c11)
            (try clear c11b0)
            (try clear c12)
            (try clear c12b0)
            (try clear c14)
            (try clear c14b0)
            (try clear c15)
            (try clear c15b0)
            (try clear hx539_0)
            (try clear hx540_0)
            (try clear p2)
            (try clear p539)
            (try clear p540)
            (try clear q539)
            (try clear q540)
            obtain ⟨x9_2, x13_2, rfl, HA, HK2, HO_9, HB⟩ := hrel
            cases gk with
            | zero => exact absurd HA.out (by simp [spec_l14Teams.l1])
            | succ k2 =>
              have H := HA.out
              clear HA
              simp only [spec_l14Teams.l1] at H
              by_cases c19 : x13_2 < (wrap64 (x10_1 + x11_1))
              · rw [if_pos c19] at H
                have c19b0 : decide (x13_2 < (wrap64 (x10_1 + x11_1))) = true := decide_eq_true c19
                clear c19
                by_cases c20 : x13_2 < (l1.length : Int)
                · rw [if_pos c20] at H
                  have c20b0 : decide (x13_2 < (l1.length : Int)) = true := decide_eq_true c20
                  clear c20
                  by_cases c21 : 0 ≤ x13_2
                  · rw [if_pos c21] at H
                    have c21b0 : decide (0 ≤ x13_2) = true := decide_eq_true c21
                    clear c21
                    by_cases c22 : x9_2.length < 17592186044416
                    · rw [if_pos c22] at H
                      have LMc22 := Aside0.mk c22
                      clear c22
                      obtain ⟨y545, hy545⟩ : ∃ y_ : List Int, y_ = (x9_2 ++ [rd l1 x13_2]) := ⟨_, rfl⟩
                      replace H : (spec_l14Teams.l1 k2 l1 a2 y545 x10_1 x11_1 (wrap64 (x13_2 + 1))) = some (r1, r2, r3) := by first | (rw [hy545]; with_reducible exact H) | (have H2_ := (Option.bind_some _ _).symm.trans H; rw [hy545]; with_reducible exact H2_) | (have H2_ := (Option.bind_some _ _).symm.trans H; with_reducible exact H2_) | with_reducible exact H | (rw [hy545]; exact H) | exact H
                      have Ny545 := Aside0.mk hy545
                      clear hy545
                      have H' := Aside0.mk H
                      clear H
                      have p544 : 0 ≤ (x13_2 : Int) := of_decide_eq_true (by first | (with_reducible assumption) | assumption)
                      have q544 : x13_2 < (l1.length : Int) := of_decide_eq_true (by first | (with_reducible assumption) | assumption)
                      obtain ⟨ad544, e544, hx544_0⟩ := Kd.at_int HR1.out x13_2 p544 q544
                      cases e544
                      replace hx544_0 := (HB.out.cell (World.block_lt_of_cell? w _ hx544_0)).trans hx544_0
                      replace p544 := eq_true p544
                      replace q544 := eq_true q544
                      go_wp2_with (first | ((with_reducible refine gate_builtin (b := .append) (xs := #[.tmp 60, .tmp 65]) rfl ?_); (try (refine gate_guard (by rfl) ?_; dsimp only)); at_builtin; refine Kd.R_append (Kd.int .i64) (w0 := w) w.heap.size rfl (.tmp 60) (.tmp 65) 42 3 (.int .i64 0) 8 rfl Tryd.underlying42 info3 rfl (by decide) (by omega) u9 x9_2 (rd l1 x13_2) [.int .i64 (rd l1 x13_2)] (fun _ => True) (fun _ => False) rfl rfl ?aP (fun _ hk => hk.elim) ?aF ?aO ?aB ?aS ?aL ?_; (case aP => exact rfl); (case aB => exact (bb HB)); (case aF => exact (fun _ _ => trivial)); (case aO => exact (rr HO_9)); (case aS => exact (below_size (bb HB))); (case aL => have := LMc22.out; omega); intro v546 w23 ho hb hg hat; rw [← Ny545.out] at ho; replace HB := Aside0.mk (hb); have HO547 := Aside0.mk (ho); clear HO_9 ho hb hg hat))
                      repeat (go_quiet (first | ((with_reducible refine gate_builtin (b := .append) (xs := #[.tmp 60, .tmp 65]) rfl ?_); (try (refine gate_guard (by rfl) ?_; dsimp only)); at_builtin; refine Kd.R_append (Kd.int .i64) (w0 := w) w.heap.size rfl (.tmp 60) (.tmp 65) 42 3 (.int .i64 0) 8 rfl Tryd.underlying42 info3 rfl (by decide) (by omega) u9 x9_2 (rd l1 x13_2) [.int .i64 (rd l1 x13_2)] (fun _ => True) (fun _ => False) rfl rfl ?aP (fun _ hk => hk.elim) ?aF ?aO ?aB ?aS ?aL ?_; (case aP => exact rfl); (case aB => exact (bb HB)); (case aF => exact (fun _ _ => trivial)); (case aO => exact (rr HO_9)); (case aS => exact (below_size (bb HB))); (case aL => have := LMc22.out; omega); intro v546 w23 ho hb hg hat; rw [← Ny545.out] at ho; replace HB := Aside0.mk (hb); have HO547 := Aside0.mk (ho); clear HO_9 ho hb hg hat)); try go_wp2_with (first | ((with_reducible refine gate_builtin (b := .append) (xs := #[.tmp 60, .tmp 65]) rfl ?_); (try (refine gate_guard (by rfl) ?_; dsimp only)); at_builtin; refine Kd.R_append (Kd.int .i64) (w0 := w) w.heap.size rfl (.tmp 60) (.tmp 65) 42 3 (.int .i64 0) 8 rfl Tryd.underlying42 info3 rfl (by decide) (by omega) u9 x9_2 (rd l1 x13_2) [.int .i64 (rd l1 x13_2)] (fun _ => True) (fun _ => False) rfl rfl ?aP (fun _ hk => hk.elim) ?aF ?aO ?aB ?aS ?aL ?_; (case aP => exact rfl); (case aB => exact (bb HB)); (case aF => exact (fun _ _ => trivial)); (case aO => exact (rr HO_9)); (case aS => exact (below_size (bb HB))); (case aL => have := LMc22.out; omega); intro v546 w23 ho hb hg hat; rw [← Ny545.out] at ho; replace HB := Aside0.mk (hb); have HO547 := Aside0.mk (ho); clear HO_9 ho hb hg hat)))
                      go_roundg k2
                      case measure => have := HK1.out; have := HK2.out; omega
                      case rel => exact ⟨(y545), (wrap64 (x13_2 + 1)), e2_, H', ⟨by have := HK1.out; have := HK2.out; omega⟩, ⟨rr HO547⟩, ⟨bb HB⟩⟩
                    · rw [if_neg c22] at H
                      exact absurd H (by simp)
                  · rw [if_neg c21] at H
                    exact absurd H (by simp)
                · rw [if_neg c20] at H
                  have c20b0 : decide (x13_2 < (l1.length : Int)) = false := decide_eq_false c20
                  clear c20
                  have H' := Aside0.mk H
                  clear H
                  go_wp2
                  repeat (go_quiet (fail); try go_wp2)
                  go_roundg k2
                  case measure => have := HK1.out; have := HK2.out; omega
                  case rel => exact ⟨(x9_2), (wrap64 (x10_1 + x11_1)), (wrap64 (Int.tdiv x11_1 2)), e2_, e2_, H', ⟨by have := HK1.out; have := HK2.out; omega⟩, ⟨rr HO_9⟩, ⟨bb HB⟩⟩
              · rw [if_neg c19] at H
                have c19b0 : decide (x13_2 < (wrap64 (x10_1 + x11_1))) = false := decide_eq_false c19
                clear c19
                have H' := Aside0.mk H
                clear H
                go_wp2
                repeat (go_quiet (fail); try go_wp2)
                go_roundg k2
                case measure => have := HK1.out; have := HK2.out; omega
                case rel => exact ⟨(x9_2), (wrap64 (x10_1 + x11_1)), (wrap64 (Int.tdiv x11_1 2)), e2_, e2_, H', ⟨by have := HK1.out; have := HK2.out; omega⟩, ⟨rr HO_9⟩, ⟨bb HB⟩⟩
      · rw [if_neg c6] at H
        have c6b0 : decide (0 < x11_1) = false := decide_eq_false c6
        clear c6
        simp only [Option.some.injEq, Prod.mk.injEq] at H
        obtain ⟨rfl, rfl, rfl⟩ := H
        go_wp2
        repeat (go_quiet (fail); try go_wp2)
        go_ret3
        exact ⟨ee, bb HB⟩
end Go.Proofs.YtibmeomlokigjaaDoor.Q
end
namespace Go.Proofs.YtibmeomlokigjaaDoor.Q
open Go.RowKit Go.Proofs.YtibmeomlokigjaaDoorW.PrintWords Go.Proofs.YtibmeomlokigjaaDoorW.PrintLast Go.Proofs.YtibmeomlokigjaaDoorW.PrintMore
attribute [local go_sem] max2_int min2_int max_two min_two max_three min_three max_four min_four
set_option linter.unusedVariables false
set_option linter.unusedSimpArgs false
def spec_OpponentsOf.f (k : Nat) (a0_0 : Int) (l0_1 : List Int) (a1 : Int) : Option (Int × Int × Bool) := (spec_CupSizeOk.f a0_0).bind fun t680 => (if t680 = true then ((spec_l01In.f a1 0 (wrap64 (a0_0 - 2))).bind fun t681 => (if t681 = true then ((spec_l14Teams.f k a0_0 l0_1 a1).bind fun bt682 => (some (bt682.1, bt682.2.1, bt682.2.2))) else (some (0, 0, false)))) else (some (0, 0, false)))
set_option maxHeartbeats 8000000 in
set_option maxRecDepth 100000 in
theorem spec_OpponentsOf.calls (k : Nat) (a0_0 : Int) (A0_1 : Option Addr) (c0_1 : Nat) (l0_1 : List Int) (a1 : Int) (r1 : Int) (r2 : Int) (r3 : Bool) (w : World) (hr0_1 : Kd.C (Kd.int .i64) w A0_1 l0_1.length l0_1) (hc0_1 : l0_1.length ≤ c0_1) (h : spec_OpponentsOf.f k a0_0 l0_1 a1 = some (r1, r2, r3)) :
    Calls Tryd.prog 92 #[.agg #[.int .i64 a0_0, .slice A0_1 l0_1.length c0_1], .int .i64 a1] w fun e w' => e = .returned (.tuple #[.int .i64 r1, .int .i64 r2, .bool r3]) ∧ Below w.heap.size w w' := by
  have hu66 := Tryd.underlying66
  have HR0_1 := Aside0.mk hr0_1
  have HC0_1 := Aside0.mk hc0_1
  clear hr0_1 hc0_1
  have HB := Aside0.mk (Below.refl w.heap.size w)
  have H : ((spec_CupSizeOk.f a0_0).bind fun t680 => (if t680 = true then ((spec_l01In.f a1 0 (wrap64 (a0_0 - 2))).bind fun t681 => (if t681 = true then ((spec_l14Teams.f k a0_0 l0_1 a1).bind fun bt682 => (some (bt682.1, bt682.2.1, bt682.2.2))) else (some (0, 0, false)))) else (some (0, 0, false)))) = some (r1, r2, r3) := h
  clear h
  replace H := Option.bind_eq_some_iff.mp H
  obtain ⟨t680, A30, H⟩ := H
  replace H : (if t680 = true then ((spec_l01In.f a1 0 (wrap64 (a0_0 - 2))).bind fun t681 => (if t681 = true then ((spec_l14Teams.f k a0_0 l0_1 a1).bind fun bt682 => (some (bt682.1, bt682.2.1, bt682.2.2))) else (some (0, 0, false)))) else (some (0, 0, false))) = some (r1, r2, r3) := H
  have A3 := Aside0.mk A30
  clear A30
  by_cases c4 : t680 = true
  · subst c4
    have H1 : ((spec_l01In.f a1 0 (wrap64 (a0_0 - 2))).bind fun t681 => (if t681 = true then ((spec_l14Teams.f k a0_0 l0_1 a1).bind fun bt682 => (some (bt682.1, bt682.2.1, bt682.2.2))) else (some (0, 0, false)))) = some (r1, r2, r3) := by rw [if_pos rfl] at H; exact H
    clear H
    have H := H1
    clear H1
    replace H := Option.bind_eq_some_iff.mp H
    obtain ⟨t681, A50, H⟩ := H
    replace H : (if t681 = true then ((spec_l14Teams.f k a0_0 l0_1 a1).bind fun bt682 => (some (bt682.1, bt682.2.1, bt682.2.2))) else (some (0, 0, false))) = some (r1, r2, r3) := H
    have A5 := Aside0.mk A50
    clear A50
    by_cases c6 : t681 = true
    · subst c6
      have H1 : ((spec_l14Teams.f k a0_0 l0_1 a1).bind fun bt682 => (some (bt682.1, bt682.2.1, bt682.2.2))) = some (r1, r2, r3) := by rw [if_pos rfl] at H; exact H
      clear H
      have H := H1
      clear H1
      replace H := Option.bind_eq_some_iff.mp H
      obtain ⟨⟨t682, t683, t684⟩, A70, H⟩ := H
      replace H : (some (t682, t683, t684)) = some (r1, r2, r3) := H
      have A7 := Aside0.mk A70
      clear A70
      simp only [Option.some.injEq, Prod.mk.injEq] at H
      obtain ⟨rfl, rfl, rfl⟩ := H
      go_enter Tryd.func92, Tryd.ntmps92
      go_wp2_with (first | ((with_reducible refine gate_dst (N := 2) rfl ?_); refine bx (N := 2) (cs := #[.int .i64 a0_0, .slice A0_1 l0_1.length c0_1]) (t := 66) ?_; intro gb679 hg w8 hbox hb; have BK679 := Aside0.mk (hbox); have GW679 := gs hg HB; have GE679 := gs hg HB; replace HB := hs_ HB hb; clear hb hbox hg; have ⟨hcz9_0, hcz9_1, hfz9_0, hfz9_1⟩ := rz2 BK679) | ((with_reducible refine gate_callee (f := 87) rfl ?_); refine gl (some 9) Tryd.func87 #[.int .i64 a0_0] ?_; (with_reducible refine (spec_CupSizeOk.calls a0_0 true _ A3.out).mono ?_); rintro e w' ⟨rfl, ⟨nd, rfl⟩⟩; refine ⟨_, rfl, ?_⟩) | (go_at_call 54; (with_reducible refine (spec_l01In.calls a1 0 (wrap64 (a0_0 - 2)) true _ A5.out).mono ?_); rintro e w' ⟨rfl, ⟨nd, rfl⟩⟩) | ((with_reducible refine gate_callee (f := 88) rfl ?_); refine gl (some 24) Tryd.func88 #[.int .i64 a0_0, .slice A0_1 l0_1.length c0_1, .int .i64 a1] ?_; (with_reducible refine (spec_l14Teams.calls k a0_0 _ _ l0_1 a1 t682 t683 t684 _ ?side1 ?side2 A7.out).mono ?_); (case side1 => repeat (first | exact (Kd.C_below HR0_1.out (bb HB)) | (with_reducible refine Kd.C_alloc ?_ _) | (with_reducible refine Kd.C_drewN ?_ _) | (with_reducible refine Kd.C_drew ?_))); (case side2 => exact HC0_1.out); rintro e w10 ⟨rfl, hb⟩; refine ⟨_, rfl, ?_⟩; replace BK679 := kb BK679 hb; replace HB := hs_ HB hb; (try clear hb); (try clear hb2); (try clear hk); (try clear hi)))
      go_ret3
      exact ⟨ee, bb HB⟩
    · replace c6 := Bool.eq_false_iff.mpr c6
      subst c6
      have H1 : (some (0, 0, false)) = some (r1, r2, r3) := by rw [if_neg (show ¬ (false = true) by decide)] at H; exact H
      clear H
      have H := H1
      clear H1
      simp only [Option.some.injEq, Prod.mk.injEq] at H
      obtain ⟨rfl, rfl, rfl⟩ := H
      go_enter Tryd.func92, Tryd.ntmps92
      go_wp2_with (first | ((with_reducible refine gate_dst (N := 2) rfl ?_); refine bx (N := 2) (cs := #[.int .i64 a0_0, .slice A0_1 l0_1.length c0_1]) (t := 66) ?_; intro gb679 hg w11 hbox hb; have BK679 := Aside0.mk (hbox); have GW679 := gs hg HB; have GE679 := gs hg HB; replace HB := hs_ HB hb; clear hb hbox hg; have ⟨hcz12_0, hcz12_1, hfz12_0, hfz12_1⟩ := rz2 BK679) | ((with_reducible refine gate_callee (f := 87) rfl ?_); refine gl (some 9) Tryd.func87 #[.int .i64 a0_0] ?_; (with_reducible refine (spec_CupSizeOk.calls a0_0 true _ A3.out).mono ?_); rintro e w' ⟨rfl, ⟨nd, rfl⟩⟩; refine ⟨_, rfl, ?_⟩) | (go_at_call 54; (with_reducible refine (spec_l01In.calls a1 0 (wrap64 (a0_0 - 2)) false _ A5.out).mono ?_); rintro e w' ⟨rfl, ⟨nd, rfl⟩⟩))
      go_ret3
      exact ⟨ee, bb HB⟩
  · replace c4 := Bool.eq_false_iff.mpr c4
    subst c4
    have H1 : (some (0, 0, false)) = some (r1, r2, r3) := by rw [if_neg (show ¬ (false = true) by decide)] at H; exact H
    clear H
    have H := H1
    clear H1
    simp only [Option.some.injEq, Prod.mk.injEq] at H
    obtain ⟨rfl, rfl, rfl⟩ := H
    go_enter Tryd.func92, Tryd.ntmps92
    go_wp2_with (first | ((with_reducible refine gate_dst (N := 2) rfl ?_); refine bx (N := 2) (cs := #[.int .i64 a0_0, .slice A0_1 l0_1.length c0_1]) (t := 66) ?_; intro gb679 hg w13 hbox hb; have BK679 := Aside0.mk (hbox); have GW679 := gs hg HB; have GE679 := gs hg HB; replace HB := hs_ HB hb; clear hb hbox hg; have ⟨hcz14_0, hcz14_1, hfz14_0, hfz14_1⟩ := rz2 BK679) | ((with_reducible refine gate_callee (f := 87) rfl ?_); refine gl (some 9) Tryd.func87 #[.int .i64 a0_0] ?_; (with_reducible refine (spec_CupSizeOk.calls a0_0 false _ A3.out).mono ?_); rintro e w' ⟨rfl, ⟨nd, rfl⟩⟩; refine ⟨_, rfl, ?_⟩))
    go_ret3
    exact ⟨ee, bb HB⟩
end Go.Proofs.YtibmeomlokigjaaDoor.Q
namespace Go.Proofs.YtibmeomlokigjaaDoor.Q
open Go.RowKit Go.Proofs.YtibmeomlokigjaaDoorW.PrintWords Go.Proofs.YtibmeomlokigjaaDoorW.PrintLast Go.Proofs.YtibmeomlokigjaaDoorW.PrintMore
attribute [local go_sem] max2_int min2_int max_two min_two max_three min_three max_four min_four
set_option linter.unusedVariables false
set_option linter.unusedSimpArgs false
def spec_l01Once.f (s0_0 : List Int) (s0_1 : Int) (s0_2 : Int) (a1 : Int) : Option (Bool × Int × Int) := (spec_l01Below.f s0_0 s0_1 s0_2 a1).bind fun bt685 => (some ((bt685.1 == 0), bt685.2.1, bt685.2.2))
set_option maxHeartbeats 8000000 in
set_option maxRecDepth 100000 in
theorem spec_l01Once.calls (g : Nat) (s0_0 : List Int) (s0_1 : Int) (s0_2 : Int) (a1 : Int) (r1 : Bool) (r2 : Int) (r3 : Int) (w0 w : World) (hI : IsS116 w0 w g s0_0 s0_1 s0_2) (hB : Below w0.heap.size w0 w) (h : spec_l01Once.f s0_0 s0_1 s0_2 a1 = some (r1, r2, r3)) :
    Calls Tryd.prog 93 #[.pointer (some ⟨g, 0, none⟩), .int .i64 a1] w fun e w' => e = .returned (.bool r1) ∧ IsS116 w0 w' g s0_0 r2 r3 ∧ Below w0.heap.size w0 w' ∧ KeepBut w w' g none := by
  have HI0 := Aside0.mk hI
  have HK := Aside0.mk (KeepBut.refl w g none)
  have HL := Aside0.mk hB.size
  clear hI
  have HW0 := Aside0.mk hB.size
  have HB := Aside0.mk hB
  clear hB
  have H : ((spec_l01Below.f s0_0 s0_1 s0_2 a1).bind fun bt685 => (some ((bt685.1 == 0), bt685.2.1, bt685.2.2))) = some (r1, r2, r3) := h
  clear h
  replace H := Option.bind_eq_some_iff.mp H
  obtain ⟨⟨t685, t686, t687⟩, A30, H⟩ := H
  replace H : (some ((t685 == 0), t686, t687)) = some (r1, r2, r3) := H
  have A3 := Aside0.mk A30
  clear A30
  simp only [Option.some.injEq, Prod.mk.injEq] at H
  obtain ⟨rfl, rfl, rfl⟩ := H
  go_enter Tryd.func93, Tryd.ntmps93
  go_wp2_with (first | ((with_reducible refine gate_callee (f := 91) rfl ?_); refine gl (some 7) Tryd.func91 #[.pointer (some ⟨g, 0, none⟩), .int .i64 a1] ?_; (with_reducible refine (spec_l01Below.calls g s0_0 s0_1 s0_2 a1 t685 t686 t687 w0 _ ?side1 ?side2 A3.out).mono ?_); (case side1 => exact IsS116.go_ HI0); (case side2 => exact bs HB (IsS116.ge HI0.out)); rintro e w4 ⟨rfl, hi, hb, hk⟩; refine ⟨_, rfl, ?_⟩; replace HK := Aside0.mk (KeepBut.trans (kk HK) hk (.inl rfl)); replace HB := Aside0.mk (hb); replace HI0 := Aside0.mk (hi); (try clear hb); (try clear hb2); (try clear hk); (try clear hi)))
  go_ret
  exact ⟨ee, IsS116.go_ HI0, bs HB (IsS116.ge HI0.out), kk HK⟩
end Go.Proofs.YtibmeomlokigjaaDoor.Q
namespace Go.Proofs.YtibmeomlokigjaaDoor.Q
open Go.RowKit Go.Proofs.YtibmeomlokigjaaDoorW.PrintWords Go.Proofs.YtibmeomlokigjaaDoorW.PrintLast Go.Proofs.YtibmeomlokigjaaDoorW.PrintMore
attribute [local go_sem] max2_int min2_int max_two min_two max_three min_three max_four min_four
set_option linter.unusedVariables false
set_option linter.unusedSimpArgs false
def spec_l14Draw.l0 : Nat → Int → List Int → Int → Int → Int → List Int → Option (Int × List Int × Int × Int)
  | 0, _, _, _, _, _, _ => none
  | k + 1, x4, x1000, x1001, x1002, x696000, x696001 => if x4 > 0 then ((spec_OpponentsOf.f k x696000 x696001 (x696001.length : Int)).bind fun bt699 => ((spec_l01Once.f x1000 x1001 x1002 2).bind fun bt702 => (if bt702.1 = true then (if x696001.length < 17592186044416 then (spec_l14Draw.l0 k (wrap64 (x4 - 1)) x1000 bt702.2.1 bt702.2.2 x696000 (x696001 ++ [bt699.2.1])) else (none)) else (if x696001.length < 17592186044416 then (spec_l14Draw.l0 k (wrap64 (x4 - 1)) x1000 bt702.2.1 bt702.2.2 x696000 (x696001 ++ [bt699.1])) else (none))))) else (some (x696000, x696001, x1001, x1002))
def spec_l14Draw.f (k : Nat) (s0_0 : List Int) (s0_1 : Int) (s0_2 : Int) : Option (Int × List Int × Int × Int) := (spec_l01Pick.f s0_0 s0_1 s0_2 (([2, 4, 8] : List Int))).bind fun bt692 => ((spec_l01Below.f s0_0 bt692.2.1 bt692.2.2 bt692.1).bind fun bt696 => (spec_l14Draw.l0 k bt696.1 s0_0 bt696.2.1 bt696.2.2 bt692.1 ([] : List Int)))
set_option maxHeartbeats 8000000 in
set_option maxRecDepth 100000 in
theorem spec_l14Draw.calls (k : Nat) (g : Nat) (s0_0 : List Int) (s0_1 : Int) (s0_2 : Int) (r1 : Int) (r2 : List Int) (r3 : Int) (r4 : Int) (w0 w : World) (hI : IsS116 w0 w g s0_0 s0_1 s0_2) (hB : Below w0.heap.size w0 w) (h : spec_l14Draw.f k s0_0 s0_1 s0_2 = some (r1, r2, r3, r4)) :
    Calls Tryd.prog 72 #[.pointer (some ⟨g, 0, none⟩)] w fun e w' => ∃ v1_ : Value, e = .returned (.agg #[.int .i64 r1, v1_]) ∧ Kd.R (Kd.int .i64) 3 w' w.heap.size (fun _ => True) v1_ r2 ∧ IsS116 w0 w' g s0_0 r3 r4 ∧ Below w0.heap.size w0 w' ∧ KeepBut w w' g none := by
  have hu66 := Tryd.underlying66
  have HI0 := Aside0.mk hI
  have HK := Aside0.mk (KeepBut.refl w g none)
  have HL := Aside0.mk hB.size
  clear hI
  have HW0 := Aside0.mk hB.size
  have HB := Aside0.mk hB
  clear hB
  have H : ((spec_l01Pick.f s0_0 s0_1 s0_2 (([2, 4, 8] : List Int))).bind fun bt692 => ((spec_l01Below.f s0_0 bt692.2.1 bt692.2.2 bt692.1).bind fun bt696 => (spec_l14Draw.l0 k bt696.1 s0_0 bt696.2.1 bt696.2.2 bt692.1 ([] : List Int)))) = some (r1, r2, r3, r4) := h
  clear h
  obtain ⟨y689, hy689⟩ : ∃ y_ : List Int, y_ = (([2, 4, 8] : List Int)) := ⟨_, rfl⟩
  replace H : ((spec_l01Pick.f s0_0 s0_1 s0_2 y689).bind fun bt692 => ((spec_l01Below.f s0_0 bt692.2.1 bt692.2.2 bt692.1).bind fun bt696 => (spec_l14Draw.l0 k bt696.1 s0_0 bt696.2.1 bt696.2.2 bt692.1 ([] : List Int)))) = some (r1, r2, r3, r4) := by first | (rw [hy689]; with_reducible exact H) | (have H2_ := (Option.bind_some _ _).symm.trans H; rw [hy689]; with_reducible exact H2_) | (have H2_ := (Option.bind_some _ _).symm.trans H; with_reducible exact H2_) | with_reducible exact H | (rw [hy689]; exact H) | exact H
  have Ny689 := Aside0.mk hy689
  clear hy689
  replace H := Option.bind_eq_some_iff.mp H
  obtain ⟨⟨t692, t693, t694⟩, A20, H⟩ := H
  replace H : ((spec_l01Below.f s0_0 t693 t694 t692).bind fun bt696 => (spec_l14Draw.l0 k bt696.1 s0_0 bt696.2.1 bt696.2.2 t692 ([] : List Int))) = some (r1, r2, r3, r4) := H
  have A2 := Aside0.mk A20
  clear A20
  replace H := Option.bind_eq_some_iff.mp H
  obtain ⟨⟨t696, t697, t698⟩, A30, H⟩ := H
  replace H : (spec_l14Draw.l0 k t696 s0_0 t697 t698 t692 ([] : List Int)) = some (r1, r2, r3, r4) := H
  have A3 := Aside0.mk A30
  clear A30
  have H' := Aside0.mk H
  clear H
  go_enter Tryd.func72, Tryd.ntmps72
  go_wp2_with (first | ((with_reducible refine gate_dst (N := 2) rfl ?_); refine bx (N := 2) (cs := #[.int .i64 0, .slice none 0 0]) (t := 66) ?_; intro gb688 hg w4 hbox hb; replace HB := Aside0.mk (below_step (bs HB (IsS116.ge HI0.out)) hb); have BK688 := Aside0.mk (hbox); have GW688 := Aside0.mk (by rw [hg]; exact (keep_size (w := w) (g := g) (row := none) (kk HK)) : w.heap.size ≤ gb688); have GE688 := Aside0.mk (Nat.le_trans HW0.out (by rw [hg]; exact (keep_size (w := w) (g := g) (row := none) (kk HK)) : w.heap.size ≤ gb688) : w0.heap.size ≤ gb688); replace HK := Aside0.mk (KeepBut.trans (kk HK) (KeepBut.of_below hb g none) (.inl rfl)); have NB0_688 := Aside0.mk (by rw [hg]; exact Nat.ne_of_lt (IsS116.lt (show IsS116 w0 _ g s0_0 s0_1 s0_2 from IsS116.go_ HI0)) : g ≠ gb688); have NB688_0 := Aside0.mk (by rw [hg]; exact Nat.ne_of_gt (IsS116.lt (show IsS116 w0 _ g s0_0 s0_1 s0_2 from IsS116.go_ HI0)) : gb688 ≠ g); replace HI0 := Aside0.mk (IsS116.below (IsS116.go_ HI0) hb); clear hb hbox hg) | ((with_reducible refine gate_dst (N := 9) rfl ?_); refine Kd.R_lit (Kd.int .i64) _ 3 ?hg (N := 9) ?hd (xs := ([2, 4, 8] : List Int)) (inner := [.int .i64 2, .int .i64 4, .int .i64 8]) (ok := fun _ => True) (okp := fun _ => True) ?hr ?hp (fun _ hk => hk) trivial (Below.refl _ _) (Nat.le_refl _) (by simp) ?_; (case hd => rfl); (case hg => rfl); (case hr => first | (go_simp; done) | (go_simp; rfl)); (case hp => exact (Reps.one (show Kd.M (Kd.int .i64) _ _ _ 2 [.int .i64 2] from rfl) (Reps.one (show Kd.M (Kd.int .i64) _ _ _ 4 [.int .i64 4] from rfl) (Reps.one (show Kd.M (Kd.int .i64) _ _ _ 8 [.int .i64 8] from rfl) (Reps.none _ _))))); intro v690 w5 ho6 hb hg_ hnew_; clear hg_ hnew_; (first | rw [← Ny689.out] at ho6 | (simp only [Int.reduceToNat] at ho6; rw [← Ny689.out] at ho6)); have HO691 := Aside0.mk (Kd.R_lower ho6 (keep_size (w := w) (g := g) (row := none) (kk HK))); replace BK688 := kb BK688 hb; replace HK := Aside0.mk (KeepBut.trans (kk HK) (KeepBut.of_below hb g none) (.inl rfl)); replace HB := Aside0.mk (below_step (bs HB (IsS116.ge HI0.out)) hb); replace HI0 := Aside0.mk (IsS116.below (IsS116.go_ HI0) hb); clear hb ho6; obtain ⟨Ao7, co7, eo7⟩ := Kd.R_slice HO691.out; subst eo7) | ((with_reducible refine gate_callee (f := 90) rfl ?_); refine gl (some 10) Tryd.func90 #[.pointer (some ⟨g, 0, none⟩), .slice Ao7 y689.length co7] ?_; (with_reducible refine (spec_l01Pick.calls g s0_0 s0_1 s0_2 _ _ y689 t692 t693 t694 w0 _ ?side1 ?side2 ?side3 ?side4 ?side5 A2.out).mono ?_); (case side1 => exact IsS116.go_ HI0); (case side2 => exact bs HB (IsS116.ge HI0.out)); (case side3 => exact cr HO691); (case side4 => exact cl HO691); (case side5 => exact far_slice (IsS116.own_ne HI0.out HO691.out (by decide))); rintro e w8 ⟨rfl, hi, hb, hk⟩; refine ⟨_, rfl, ?_⟩; replace BK688 := kw hk BK688 NB688_0; replace HO691 := Aside0.mk (Kd.R_mono (Kd.R_keep (IsS116.apart (show IsS116 w0 _ g s0_0 s0_1 s0_2 from IsS116.go_ HI0) (rr HO691) (by decide)) hk (fun _ h => h.2)) (fun _ h => h.1)); replace HK := Aside0.mk (KeepBut.trans (kk HK) hk (.inl rfl)); replace HB := Aside0.mk (hb); replace HI0 := Aside0.mk (hi); (try clear hb); (try clear hb2); (try clear hk); (try clear hi)) | ((with_reducible refine gate_dst (N := 3) rfl ?_); refine bx (N := 3) (cs := #[.int .i64 0, .slice none 0 0]) (t := 66) ?_; intro gb695 hg w9 hbox hb; replace HO691 := kr HO691 hb; replace HB := Aside0.mk (below_step (bs HB (IsS116.ge HI0.out)) hb); have BK695 := Aside0.mk (hbox); have GW695 := Aside0.mk (by rw [hg]; exact (keep_size (w := w) (g := g) (row := none) (kk HK)) : w.heap.size ≤ gb695); have GE695 := Aside0.mk (Nat.le_trans HW0.out (by rw [hg]; exact (keep_size (w := w) (g := g) (row := none) (kk HK)) : w.heap.size ≤ gb695) : w0.heap.size ≤ gb695); replace HK := Aside0.mk (KeepBut.trans (kk HK) (KeepBut.of_below hb g none) (.inl rfl)); have NB688_695 := gn hg BK688; have NB695_688 := gm hg BK688; replace BK688 := kb BK688 hb; have NB0_695 := Aside0.mk (by rw [hg]; exact Nat.ne_of_lt (IsS116.lt (show IsS116 w0 _ g s0_0 t693 t694 from IsS116.go_ HI0)) : g ≠ gb695); have NB695_0 := Aside0.mk (by rw [hg]; exact Nat.ne_of_gt (IsS116.lt (show IsS116 w0 _ g s0_0 t693 t694 from IsS116.go_ HI0)) : gb695 ≠ g); replace HI0 := Aside0.mk (IsS116.below (IsS116.go_ HI0) hb); clear hb hbox hg; have hnb10 := NB695_688.out; have hnc10 := NB688_695.out; have hnb11 := NB695_0.out; have hnc11 := NB0_695.out; have ⟨hcz12_0, hcz12_1, hfz12_0, hfz12_1⟩ := rz2 BK695) | ((with_reducible refine gate_callee (f := 91) rfl ?_); refine gl (some 15) Tryd.func91 #[.pointer (some ⟨g, 0, none⟩), .int .i64 t692] ?_; (with_reducible refine (spec_l01Below.calls g s0_0 t693 t694 t692 t696 t697 t698 w0 _ ?side1 ?side2 A3.out).mono ?_); (case side1 => exact IsS116.go_ HI0); (case side2 => exact bs HB (IsS116.ge HI0.out)); rintro e w13 ⟨rfl, hi, hb, hk⟩; refine ⟨_, rfl, ?_⟩; replace BK688 := Aside0.mk (KeepBut.blk hk (g' := gb688) (o := .cells #[.int .i64 0, .slice none 0 0] 66 (0, 0)) (by (with_reducible repeat (first | refine blk_drewN ?_ _ | refine blk_drew ?_ | refine blk_alloc ?_ _)); refine blk_far ?_ NB688_695.out _; (with_reducible repeat (first | refine blk_drewN ?_ _ | refine blk_drew ?_ | refine blk_alloc ?_ _)); refine blk_far ?_ NB688_695.out _; (with_reducible repeat (first | refine blk_drewN ?_ _ | refine blk_drew ?_ | refine blk_alloc ?_ _)); exact BK688.out) NB688_0.out (by simp)); replace HO691 := Aside0.mk (Kd.R_mono (Kd.R_keep (IsS116.apart (show IsS116 w0 _ g s0_0 t693 t694 from IsS116.go_ HI0) (rf HO691 BK695 (fun _ h_ => h_.1)) (by decide)) hk (fun _ h => h.2)) (fun _ h => h.1)); replace BK695 := Aside0.mk (KeepBut.blk hk (g' := gb695) (o := .cells #[.int .i64 t692, .slice none 0 0] 66 (0, 0)) (by (with_reducible repeat (first | refine blk_drewN ?_ _ | refine blk_drew ?_ | refine blk_alloc ?_ _)); refine blk_put (cs := #[.int .i64 t692, .slice none 0 0]) ?_ 1 _ rfl; (with_reducible repeat (first | refine blk_drewN ?_ _ | refine blk_drew ?_ | refine blk_alloc ?_ _)); refine blk_put (cs := #[.int .i64 0, .slice none 0 0]) ?_ 0 _ rfl; (with_reducible repeat (first | refine blk_drewN ?_ _ | refine blk_drew ?_ | refine blk_alloc ?_ _)); exact BK695.out) NB695_0.out (by simp)); replace HK := Aside0.mk (KeepBut.trans (kk HK) hk (.inl rfl)); replace HB := Aside0.mk (hb); replace HI0 := Aside0.mk (hi); (try clear hb); (try clear hb2); (try clear hk); (try clear hi)))
  go_loopg [4] k (fun kq v4 w' => ∃ (x4_1 : Int) (x1001_1 : Int) (x1002_1 : Int) (x696001_1 : List Int) (u696001 : Value), v4 = .int .i64 x4_1 ∧ Aside0 (spec_l14Draw.l0 kq x4_1 s0_0 x1001_1 x1002_1 t692 x696001_1 = some (r1, r2, r3, r4)) ∧ Aside0 (kq ≤ k) ∧ Aside0 (Kd.R (Kd.int .i64) 3 w' w.heap.size (fun _ => True) u696001 x696001_1) ∧ Aside0 (w'.heap[gb688]? = some (.cells #[.int .i64 0, (.slice none 0 0)] 66 (0, 0))) ∧ Aside0 (w'.heap[gb695]? = some (.cells #[.int .i64 t692, u696001] 66 (0, 0))) ∧ Aside0 (IsS116 w0 w' g s0_0 x1001_1 x1002_1) ∧ Aside0 (KeepBut w w' g none) ∧ Aside0 (Below w0.heap.size w0 w'))
  case atStart => exact ⟨(t696), (t697), (t698), (([] : List Int)), (.slice none 0 0), e2_, H', ⟨Nat.le_refl _⟩, ⟨by first | exact Kd.R_nil _ _ _ _ _ | exact Kd.N_nil _ _ _ _ _ | exact Kd.V_nil _ _ _ _ _ | exact Kd.Q_nil _ _ _ _ _ | exact Kd.S_nil _ _ _ _ _⟩, ⟨bk BK688⟩, ⟨bk BK695⟩, ⟨IsS116.go_ HI0⟩, ⟨kk HK⟩, ⟨bs HB (IsS116.ge HI0.out)⟩⟩
  case round =>
    clear H'
    (try clear c1)
    (try clear p2)
    (try clear c7)
    (try clear c9)
    (try clear c10)
    (try clear c11)
    (try clear hcz12_0 hcz12_1)
    (try clear hfz12_0 hfz12_1)
    obtain ⟨x4_1, x1001_1, x1002_1, x696001_1, u696001, rfl, HA, HK1, HO_696001, BK688, BK695, HI0, HK, HB⟩ := hrel
    cases gk with
    | zero => exact absurd HA.out (by simp [spec_l14Draw.l0])
    | succ k1 =>
      have H := HA.out
      clear HA
      simp only [spec_l14Draw.l0] at H
      by_cases c14 : x4_1 > 0
      · rw [if_pos c14] at H
        have c14b0 : decide (0 < x4_1) = true := decide_eq_true c14
        clear c14
        replace H := Option.bind_eq_some_iff.mp H
        obtain ⟨⟨t699, t700, t701⟩, A150, H⟩ := H
        replace H : ((spec_l01Once.f s0_0 x1001_1 x1002_1 2).bind fun bt702 => (if bt702.1 = true then (if x696001_1.length < 17592186044416 then (spec_l14Draw.l0 k1 (wrap64 (x4_1 - 1)) s0_0 bt702.2.1 bt702.2.2 t692 (x696001_1 ++ [t700])) else (none)) else (if x696001_1.length < 17592186044416 then (spec_l14Draw.l0 k1 (wrap64 (x4_1 - 1)) s0_0 bt702.2.1 bt702.2.2 t692 (x696001_1 ++ [t699])) else (none)))) = some (r1, r2, r3, r4) := H
        have A15 := Aside0.mk A150
        clear A150
        replace H := Option.bind_eq_some_iff.mp H
        obtain ⟨⟨t702, t703, t704⟩, A160, H⟩ := H
        replace H : (if t702 = true then (if x696001_1.length < 17592186044416 then (spec_l14Draw.l0 k1 (wrap64 (x4_1 - 1)) s0_0 t703 t704 t692 (x696001_1 ++ [t700])) else (none)) else (if x696001_1.length < 17592186044416 then (spec_l14Draw.l0 k1 (wrap64 (x4_1 - 1)) s0_0 t703 t704 t692 (x696001_1 ++ [t699])) else (none))) = some (r1, r2, r3, r4) := H
        have A16 := Aside0.mk A160
        clear A160
        by_cases c17 : t702 = true
        · subst c17
          have H1 : (if x696001_1.length < 17592186044416 then (spec_l14Draw.l0 k1 (wrap64 (x4_1 - 1)) s0_0 t703 t704 t692 (x696001_1 ++ [t700])) else (none)) = some (r1, r2, r3, r4) := by rw [if_pos rfl] at H; exact H
          clear H
          have H := H1
          clear H1
          by_cases c18 : x696001_1.length < 17592186044416
          · rw [if_pos c18] at H
            have LMc18 := Aside0.mk c18
            clear c18
            obtain ⟨y705, hy705⟩ : ∃ y_ : List Int, y_ = (x696001_1 ++ [t700]) := ⟨_, rfl⟩
            replace H : (spec_l14Draw.l0 k1 (wrap64 (x4_1 - 1)) s0_0 t703 t704 t692 y705) = some (r1, r2, r3, r4) := by first | (rw [hy705]; with_reducible exact H) | (have H2_ := (Option.bind_some _ _).symm.trans H; rw [hy705]; with_reducible exact H2_) | (have H2_ := (Option.bind_some _ _).symm.trans H; with_reducible exact H2_) | with_reducible exact H | (rw [hy705]; exact H) | exact H
            have Ny705 := Aside0.mk hy705
            clear hy705
            have H' := Aside0.mk H
            clear H
            have hnb19 := NB695_688.out
            have hnc19 := NB688_695.out
            have hnb20 := NB695_0.out
            have hnc20 := NB0_695.out
            have ⟨hcz21_0, hcz21_1, hfz21_0, hfz21_1⟩ := rz2 BK695
            obtain ⟨Ao22, co22, eo22⟩ := Kd.R_slice HO_696001.out
            subst eo22
            go_wp2_with (first | ((with_reducible refine gate_callee (f := 92) rfl ?_); refine gl (some 25) Tryd.func92 #[.agg #[.int .i64 t692, .slice Ao22 x696001_1.length co22], .int .i64 (x696001_1.length : Int)] ?_; (with_reducible refine (spec_OpponentsOf.calls k1 t692 _ _ x696001_1 (x696001_1.length : Int) t699 t700 t701 _ ?side1 ?side2 A15.out).mono ?_); (case side1 => exact cr HO_696001); (case side2 => exact cl HO_696001); rintro e w23 ⟨rfl, hb⟩; refine ⟨_, rfl, ?_⟩; replace HO_696001 := kr HO_696001 hb; replace BK688 := kb BK688 hb; replace BK695 := kb BK695 hb; replace HK := Aside0.mk (KeepBut.trans (kk HK) (KeepBut.of_below hb g none) (.inl rfl)); replace HB := Aside0.mk (below_step (bs HB (IsS116.ge HI0.out)) hb); replace HI0 := Aside0.mk (IsS116.below (IsS116.go_ HI0) hb); (try clear hb); (try clear hb2); (try clear hk); (try clear hi)) | ((with_reducible refine gate_callee (f := 93) rfl ?_); refine gl (some 30) Tryd.func93 #[.pointer (some ⟨g, 0, none⟩), .int .i64 2] ?_; (with_reducible refine (spec_l01Once.calls g s0_0 x1001_1 x1002_1 2 true t703 t704 w0 _ ?side1 ?side2 A16.out).mono ?_); (case side1 => exact IsS116.go_ HI0); (case side2 => exact bs HB (IsS116.ge HI0.out)); rintro e w24 ⟨rfl, hi, hb, hk⟩; refine ⟨_, rfl, ?_⟩; replace HO_696001 := Aside0.mk (Kd.R_mono (Kd.R_keep (IsS116.apart (show IsS116 w0 _ g s0_0 x1001_1 x1002_1 from IsS116.go_ HI0) (rr HO_696001) (by decide)) hk (fun _ h => h.2)) (fun _ h => h.1)); replace BK688 := kw hk BK688 NB688_0; replace BK695 := kw hk BK695 NB695_0; replace HK := Aside0.mk (KeepBut.trans (kk HK) hk (.inl rfl)); replace HB := Aside0.mk (hb); replace HI0 := Aside0.mk (hi); (try clear hb); (try clear hb2); (try clear hk); (try clear hi); have ⟨hcz25_0, hcz25_1, hfz25_0, hfz25_1⟩ := rz2 BK695) | ((with_reducible refine gate_builtin (b := .append) (xs := #[.tmp 33, .tmp 35]) rfl ?_); at_builtin; refine Kd.R_append (Kd.int .i64) w.heap.size rfl (.tmp 33) (.tmp 35) 42 3 (.int .i64 0) 8 rfl Tryd.underlying42 info3 rfl (by decide) (by omega) (.slice Ao22 x696001_1.length co22) x696001_1 t700 [.int .i64 t700] (fun _ => True) (fun _ => False) rfl rfl ?aP (fun _ hk => hk.elim) ?aF ?aO (Below.refl _ _) ?aS ?aL ?_; (case aP => exact rfl); (case aF => exact (fun _ _ => trivial)); (case aO => exact (rr HO_696001)); (case aS => exact (keep_size (w := w) (g := g) (row := none) (kk HK))); (case aL => have := LMc18.out; omega); intro v706 w26 ho hb hg hat; rw [← Ny705.out] at ho; replace BK688 := Aside0.mk (blk_grown (g := gb688) (o := .cells #[.int .i64 0, .slice none 0 0] 66 (0, 0)) (bk BK688) hg (Kd.R_ne HO_696001.out BK688.out (by decide))); replace BK695 := Aside0.mk (blk_grown (g := gb695) (o := .cells #[.int .i64 t692, .slice Ao22 x696001_1.length co22] 66 (0, 0)) (bk BK695) hg (Kd.R_ne HO_696001.out BK695.out (by decide))); replace HB := Aside0.mk (below_weaken (bs HB (IsS116.ge HI0.out)) HL.out hb); replace HI0 := Aside0.mk (IsS116.grown (show IsS116 w0 _ g s0_0 t703 t704 from IsS116.go_ HI0) hg (IsS116.own_ne HI0.out HO_696001.out (by decide))); replace HK := Aside0.mk (KeepBut.trans (kk HK) (KeepBut.of_grown hg g) (Kd.R_base2 HO_696001.out)); have HO707 := Aside0.mk (ho); clear HO_696001 ho hb hg hat; obtain ⟨Ao27, co27, eo27⟩ := Kd.R_slice HO707.out; subst eo27; have ⟨hcz28_0, hcz28_1, hfz28_0, hfz28_1⟩ := rz2 BK695))
            go_roundg k1
            case measure => have := HK1.out; omega
            case rel => exact ⟨(wrap64 (x4_1 - 1)), (t703), (t704), (y705), (.slice Ao27 y705.length co27), e2_, H', ⟨by have := HK1.out; omega⟩, ⟨rf HO707 BK695 (fun _ hk => trivial)⟩, ⟨by (with_reducible repeat (first | refine blk_drewN ?_ _ | refine blk_drew ?_ | refine blk_alloc ?_ _)); refine blk_far ?_ NB688_695.out _; (with_reducible repeat (first | refine blk_drewN ?_ _ | refine blk_drew ?_ | refine blk_alloc ?_ _)); exact BK688.out⟩, ⟨by (with_reducible repeat (first | refine blk_drewN ?_ _ | refine blk_drew ?_ | refine blk_alloc ?_ _)); refine blk_put (cs := #[.int .i64 t692, .slice Ao22 x696001_1.length co22]) ?_ 1 _ rfl; (with_reducible repeat (first | refine blk_drewN ?_ _ | refine blk_drew ?_ | refine blk_alloc ?_ _)); exact BK695.out⟩, ⟨IsS116.go_ HI0⟩, ⟨kk HK⟩, ⟨bs HB (IsS116.ge HI0.out)⟩⟩
          · rw [if_neg c18] at H
            exact absurd H (by simp)
        · replace c17 := Bool.eq_false_iff.mpr c17
          subst c17
          have H1 : (if x696001_1.length < 17592186044416 then (spec_l14Draw.l0 k1 (wrap64 (x4_1 - 1)) s0_0 t703 t704 t692 (x696001_1 ++ [t699])) else (none)) = some (r1, r2, r3, r4) := by rw [if_neg (show ¬ (false = true) by decide)] at H; exact H
          clear H
          have H := H1
          clear H1
          by_cases c29 : x696001_1.length < 17592186044416
          · rw [if_pos c29] at H
            have LMc29 := Aside0.mk c29
            clear c29
            obtain ⟨y708, hy708⟩ : ∃ y_ : List Int, y_ = (x696001_1 ++ [t699]) := ⟨_, rfl⟩
            replace H : (spec_l14Draw.l0 k1 (wrap64 (x4_1 - 1)) s0_0 t703 t704 t692 y708) = some (r1, r2, r3, r4) := by first | (rw [hy708]; with_reducible exact H) | (have H2_ := (Option.bind_some _ _).symm.trans H; rw [hy708]; with_reducible exact H2_) | (have H2_ := (Option.bind_some _ _).symm.trans H; with_reducible exact H2_) | with_reducible exact H | (rw [hy708]; exact H) | exact H
            have Ny708 := Aside0.mk hy708
            clear hy708
            have H' := Aside0.mk H
            clear H
            have hnb30 := NB695_688.out
            have hnc30 := NB688_695.out
            have hnb31 := NB695_0.out
            have hnc31 := NB0_695.out
            have ⟨hcz32_0, hcz32_1, hfz32_0, hfz32_1⟩ := rz2 BK695
            obtain ⟨Ao33, co33, eo33⟩ := Kd.R_slice HO_696001.out
            subst eo33
            go_wp2_with (first | ((with_reducible refine gate_callee (f := 92) rfl ?_); refine gl (some 25) Tryd.func92 #[.agg #[.int .i64 t692, .slice Ao33 x696001_1.length co33], .int .i64 (x696001_1.length : Int)] ?_; (with_reducible refine (spec_OpponentsOf.calls k1 t692 _ _ x696001_1 (x696001_1.length : Int) t699 t700 t701 _ ?side1 ?side2 A15.out).mono ?_); (case side1 => exact cr HO_696001); (case side2 => exact cl HO_696001); rintro e w34 ⟨rfl, hb⟩; refine ⟨_, rfl, ?_⟩; replace HO_696001 := kr HO_696001 hb; replace BK688 := kb BK688 hb; replace BK695 := kb BK695 hb; replace HK := Aside0.mk (KeepBut.trans (kk HK) (KeepBut.of_below hb g none) (.inl rfl)); replace HB := Aside0.mk (below_step (bs HB (IsS116.ge HI0.out)) hb); replace HI0 := Aside0.mk (IsS116.below (IsS116.go_ HI0) hb); (try clear hb); (try clear hb2); (try clear hk); (try clear hi)) | ((with_reducible refine gate_callee (f := 93) rfl ?_); refine gl (some 30) Tryd.func93 #[.pointer (some ⟨g, 0, none⟩), .int .i64 2] ?_; (with_reducible refine (spec_l01Once.calls g s0_0 x1001_1 x1002_1 2 false t703 t704 w0 _ ?side1 ?side2 A16.out).mono ?_); (case side1 => exact IsS116.go_ HI0); (case side2 => exact bs HB (IsS116.ge HI0.out)); rintro e w35 ⟨rfl, hi, hb, hk⟩; refine ⟨_, rfl, ?_⟩; replace HO_696001 := Aside0.mk (Kd.R_mono (Kd.R_keep (IsS116.apart (show IsS116 w0 _ g s0_0 x1001_1 x1002_1 from IsS116.go_ HI0) (rr HO_696001) (by decide)) hk (fun _ h => h.2)) (fun _ h => h.1)); replace BK688 := kw hk BK688 NB688_0; replace BK695 := kw hk BK695 NB695_0; replace HK := Aside0.mk (KeepBut.trans (kk HK) hk (.inl rfl)); replace HB := Aside0.mk (hb); replace HI0 := Aside0.mk (hi); (try clear hb); (try clear hb2); (try clear hk); (try clear hi); have ⟨hcz36_0, hcz36_1, hfz36_0, hfz36_1⟩ := rz2 BK695) | ((with_reducible refine gate_builtin (b := .append) (xs := #[.tmp 33, .tmp 35]) rfl ?_); at_builtin; refine Kd.R_append (Kd.int .i64) w.heap.size rfl (.tmp 33) (.tmp 35) 42 3 (.int .i64 0) 8 rfl Tryd.underlying42 info3 rfl (by decide) (by omega) (.slice Ao33 x696001_1.length co33) x696001_1 t699 [.int .i64 t699] (fun _ => True) (fun _ => False) rfl rfl ?aP (fun _ hk => hk.elim) ?aF ?aO (Below.refl _ _) ?aS ?aL ?_; (case aP => exact rfl); (case aF => exact (fun _ _ => trivial)); (case aO => exact (rr HO_696001)); (case aS => exact (keep_size (w := w) (g := g) (row := none) (kk HK))); (case aL => have := LMc29.out; omega); intro v709 w37 ho hb hg hat; rw [← Ny708.out] at ho; replace BK688 := Aside0.mk (blk_grown (g := gb688) (o := .cells #[.int .i64 0, .slice none 0 0] 66 (0, 0)) (bk BK688) hg (Kd.R_ne HO_696001.out BK688.out (by decide))); replace BK695 := Aside0.mk (blk_grown (g := gb695) (o := .cells #[.int .i64 t692, .slice Ao33 x696001_1.length co33] 66 (0, 0)) (bk BK695) hg (Kd.R_ne HO_696001.out BK695.out (by decide))); replace HB := Aside0.mk (below_weaken (bs HB (IsS116.ge HI0.out)) HL.out hb); replace HI0 := Aside0.mk (IsS116.grown (show IsS116 w0 _ g s0_0 t703 t704 from IsS116.go_ HI0) hg (IsS116.own_ne HI0.out HO_696001.out (by decide))); replace HK := Aside0.mk (KeepBut.trans (kk HK) (KeepBut.of_grown hg g) (Kd.R_base2 HO_696001.out)); have HO710 := Aside0.mk (ho); clear HO_696001 ho hb hg hat; obtain ⟨Ao38, co38, eo38⟩ := Kd.R_slice HO710.out; subst eo38; have ⟨hcz39_0, hcz39_1, hfz39_0, hfz39_1⟩ := rz2 BK695))
            go_roundg k1
            case measure => have := HK1.out; omega
            case rel => exact ⟨(wrap64 (x4_1 - 1)), (t703), (t704), (y708), (.slice Ao38 y708.length co38), e2_, H', ⟨by have := HK1.out; omega⟩, ⟨rf HO710 BK695 (fun _ hk => trivial)⟩, ⟨by (with_reducible repeat (first | refine blk_drewN ?_ _ | refine blk_drew ?_ | refine blk_alloc ?_ _)); refine blk_far ?_ NB688_695.out _; (with_reducible repeat (first | refine blk_drewN ?_ _ | refine blk_drew ?_ | refine blk_alloc ?_ _)); exact BK688.out⟩, ⟨by (with_reducible repeat (first | refine blk_drewN ?_ _ | refine blk_drew ?_ | refine blk_alloc ?_ _)); refine blk_put (cs := #[.int .i64 t692, .slice Ao33 x696001_1.length co33]) ?_ 1 _ rfl; (with_reducible repeat (first | refine blk_drewN ?_ _ | refine blk_drew ?_ | refine blk_alloc ?_ _)); exact BK695.out⟩, ⟨IsS116.go_ HI0⟩, ⟨kk HK⟩, ⟨bs HB (IsS116.ge HI0.out)⟩⟩
          · rw [if_neg c29] at H
            exact absurd H (by simp)
      · rw [if_neg c14] at H
        have c14b0 : decide (0 < x4_1) = false := decide_eq_false c14
        clear c14
        simp only [Option.some.injEq, Prod.mk.injEq] at H
        obtain ⟨rfl, rfl, rfl, rfl⟩ := H
        have hnb40 := NB695_688.out
        have hnc40 := NB688_695.out
        have hnb41 := NB695_0.out
        have hnc41 := NB0_695.out
        have ⟨hcz42_0, hcz42_1, hfz42_0, hfz42_1⟩ := rz2 BK695
        have hnb43 := NB688_0.out
        have hnc43 := NB0_688.out
        have ⟨hcz44_0, hcz44_1, hfz44_0, hfz44_1⟩ := rz2 BK688
        obtain ⟨Ao45, co45, eo45⟩ := Kd.R_slice HO_696001.out
        subst eo45
        go_wp2
        refine bodyPost_ret (results_cell_row rfl _ _ gb688 66 #[.int .i64 t692, .slice Ao45 x696001_1.length co45] (0, 0) _ rfl (by (with_reducible repeat (first | refine blk_drewN ?_ _ | refine blk_drew ?_ | refine blk_alloc ?_ _)); refine blk_put (cs := #[.int .i64 t692, .slice none 0 0]) ?_ 1 _ rfl; (with_reducible repeat (first | refine blk_drewN ?_ _ | refine blk_drew ?_ | refine blk_alloc ?_ _)); refine blk_put (cs := #[.int .i64 0, .slice none 0 0]) ?_ 0 _ rfl; (with_reducible repeat (first | refine blk_drewN ?_ _ | refine blk_drew ?_ | refine blk_alloc ?_ _)); exact BK688.out) Tryd.underlying66 rfl (by kernel_rfl)) rfl ?_
        exact ⟨_, ee, rf HO_696001 BK688 (fun _ hk => trivial), IsS116.go_ HI0, bs HB (IsS116.ge HI0.out), kk HK⟩
end Go.Proofs.YtibmeomlokigjaaDoor.Q
namespace Go.Proofs.YtibmeomlokigjaaDoor.Q
open Go.RowKit Go.Proofs.YtibmeomlokigjaaDoorW.PrintWords Go.Proofs.YtibmeomlokigjaaDoorW.PrintLast Go.Proofs.YtibmeomlokigjaaDoorW.PrintMore
attribute [local go_sem] max2_int min2_int max_two min_two max_three min_three max_four min_four
set_option linter.unusedVariables false
set_option linter.unusedSimpArgs false
def spec_l01New.l0 : Nat → List Int → Int → Int → Option (List Int × Int × Int)
  | 0, _, _, _ => none
  | k + 1, x0, x3, x4 => if x4 < (x0.length : Int) then (if x4 < 4000 then (if 0 ≤ x4 then (spec_l01New.l0 k x0 (Go.bits .and .i64 (wrap64 ((wrap64 ((wrap64 (x3 * 89)) + (wrap64 (rd x0 x4)))) + 7)) 1073741823) (wrap64 (x4 + 1))) else (none)) else (some (x0, 0, x3))) else (some (x0, 0, x3))
def spec_l01New.f (k : Nat) (l0 : List Int) : Option (List Int × Int × Int) := spec_l01New.l0 k l0 (wrap64 (1978 + (l0.length : Int))) 0
set_option maxHeartbeats 8000000 in
set_option maxRecDepth 100000 in
theorem spec_l01New.calls2 (k : Nat) (A0 : Option Addr) (c0 : Nat) (l0 : List Int) (r1 : List Int) (r2 : Int) (r3 : Int) (w0 w : World) (hB : Below w0.heap.size w0 w) (hr0 : Kd.C (Kd.int .u8) w0 A0 l0.length l0) (hc0 : l0.length ≤ c0) (h : spec_l01New.f k l0 = some (r1, r2, r3)) :
    Calls Tryd.prog 73 #[.slice A0 l0.length c0] w fun e w' => ∃ g_ : Nat, e = .returned (.pointer (some ⟨g_, 0, none⟩)) ∧ IsS116 w0 w' g_ r1 r2 r3 ∧ Below w0.heap.size w0 w' ∧ Below w.heap.size w w' ∧ w.heap.size ≤ g_ := by
  have hu116 := Tryd.underlying116
  have HR0 := Aside0.mk hr0
  have HC0 := Aside0.mk hc0
  clear hr0 hc0
  have HBW := Aside0.mk (Below.refl w.heap.size w)
  have HW0 := Aside0.mk hB.size
  have HB := Aside0.mk hB
  clear hB
  have H : (spec_l01New.l0 k l0 (wrap64 (1978 + (l0.length : Int))) 0) = some (r1, r2, r3) := h
  clear h
  have H' := Aside0.mk H
  clear H
  go_enter Tryd.func73, Tryd.ntmps73
  go_wp2
  go_loopg [3, 4] k (fun kq v3 v4 w' => ∃ (x3_1 : Int) (x4_1 : Int), v3 = .int .i64 x3_1 ∧ v4 = .int .i64 x4_1 ∧ Aside0 (spec_l01New.l0 kq l0 x3_1 x4_1 = some (r1, r2, r3)) ∧ Aside0 (kq ≤ k) ∧ Aside0 (Below w0.heap.size w0 w') ∧ Aside0 (Below w.heap.size w w'))
  case atStart => exact ⟨(wrap64 (1978 + (l0.length : Int))), (0), e2_, e2_, H', ⟨Nat.le_refl _⟩, ⟨bb HB⟩, ⟨bb HBW⟩⟩
  case round =>
    clear H'
    obtain ⟨x3_1, x4_1, rfl, rfl, HA, HK1, HB, HBW⟩ := hrel
    cases gk with
    | zero => exact absurd HA.out (by simp [spec_l01New.l0])
    | succ k1 =>
      have H := HA.out
      clear HA
      simp only [spec_l01New.l0] at H
      by_cases c2 : x4_1 < (l0.length : Int)
      · rw [if_pos c2] at H
        have c2b0 : decide (x4_1 < (l0.length : Int)) = true := decide_eq_true c2
        clear c2
        by_cases c3 : x4_1 < 4000
        · rw [if_pos c3] at H
          have c3b0 : decide (x4_1 < 4000) = true := decide_eq_true c3
          clear c3
          by_cases c4 : 0 ≤ x4_1
          · rw [if_pos c4] at H
            have c4b0 : decide (0 ≤ x4_1) = true := decide_eq_true c4
            clear c4
            have H' := Aside0.mk H
            clear H
            have p711 : 0 ≤ (x4_1 : Int) := of_decide_eq_true (by first | (with_reducible assumption) | assumption)
            have q711 : x4_1 < (l0.length : Int) := of_decide_eq_true (by first | (with_reducible assumption) | assumption)
            obtain ⟨ad711, e711, hx711_0⟩ := Kd.at_int HR0.out x4_1 p711 q711
            cases e711
            replace hx711_0 := pw_cell_below HB.out hx711_0
            replace p711 := eq_true p711
            replace q711 := eq_true q711
            go_wp2
            go_roundg k1
            case measure => have := HK1.out; omega
            case rel => exact ⟨(Go.bits .and .i64 (wrap64 ((wrap64 ((wrap64 (x3_1 * 89)) + (wrap64 (rd l0 x4_1)))) + 7)) 1073741823), (wrap64 (x4_1 + 1)), e2_, e2_, H', ⟨by have := HK1.out; omega⟩, ⟨bb HB⟩, ⟨bb HBW⟩⟩
          · rw [if_neg c4] at H
            exact absurd H (by simp)
        · rw [if_neg c3] at H
          have c3b0 : decide (x4_1 < 4000) = false := decide_eq_false c3
          clear c3
          simp only [Option.some.injEq, Prod.mk.injEq] at H
          obtain ⟨rfl, rfl, rfl⟩ := H
          go_wp2_with (first | ((with_reducible refine gate_dst (N := 31) rfl ?_); refine bx (N := 31) (cs := #[.slice A0 l0.length c0, .int .i64 0, .int .i64 x3_1]) (t := 116) ?_; intro gb712 hg w5 hbox hb; replace HB := hs_ HB hb; have BK712 := Aside0.mk (hbox); have GW712 := gs hg HBW; have GE712 := Aside0.mk (Nat.le_trans HW0.out (by rw [hg]; exact (below_size (bb HBW)) : w.heap.size ≤ gb712) : w0.heap.size ≤ gb712); replace HBW := Aside0.mk (below_step HBW.out hb); clear hb hbox hg))
          go_ret
          exact ⟨_, rfl, (show IsS116 w0 _ gb712 l0 0 x3_1 from ⟨_, _, bk BK712, GE712.out, HR0.out⟩), bb HB, bb HBW, GW712.out⟩
      · rw [if_neg c2] at H
        have c2b0 : decide (x4_1 < (l0.length : Int)) = false := decide_eq_false c2
        clear c2
        simp only [Option.some.injEq, Prod.mk.injEq] at H
        obtain ⟨rfl, rfl, rfl⟩ := H
        go_wp2_with (first | ((with_reducible refine gate_dst (N := 31) rfl ?_); refine bx (N := 31) (cs := #[.slice A0 l0.length c0, .int .i64 0, .int .i64 x3_1]) (t := 116) ?_; intro gb713 hg w6 hbox hb; replace HB := hs_ HB hb; have BK713 := Aside0.mk (hbox); have GW713 := gs hg HBW; have GE713 := Aside0.mk (Nat.le_trans HW0.out (by rw [hg]; exact (below_size (bb HBW)) : w.heap.size ≤ gb713) : w0.heap.size ≤ gb713); replace HBW := Aside0.mk (below_step HBW.out hb); clear hb hbox hg))
        go_ret
        exact ⟨_, rfl, (show IsS116 w0 _ gb713 l0 0 x3_1 from ⟨_, _, bk BK713, GE713.out, HR0.out⟩), bb HB, bb HBW, GW713.out⟩
theorem spec_l01New.calls (k : Nat) (A0 : Option Addr) (c0 : Nat) (l0 : List Int) (r1 : List Int) (r2 : Int) (r3 : Int) (w0 w : World) (hB : Below w0.heap.size w0 w) (hr0 : Kd.C (Kd.int .u8) w0 A0 l0.length l0) (hc0 : l0.length ≤ c0) (h : spec_l01New.f k l0 = some (r1, r2, r3)) :
    Calls Tryd.prog 73 #[.slice A0 l0.length c0] w fun e w' => ∃ g_ : Nat, e = .returned (.pointer (some ⟨g_, 0, none⟩)) ∧ IsS116 w0 w' g_ r1 r2 r3 ∧ Below w0.heap.size w0 w' ∧ Below w.heap.size w w' :=
  (spec_l01New.calls2 k A0 c0 l0 r1 r2 r3 w0 w hB hr0 hc0 h).mono fun _ _ ⟨g, a, b, c, d, _⟩ => ⟨g, a, b, c, d⟩
end Go.Proofs.YtibmeomlokigjaaDoor.Q
namespace Go.Proofs.YtibmeomlokigjaaDoor.Q
open Go.RowKit Go.Proofs.YtibmeomlokigjaaDoorW.PrintWords Go.Proofs.YtibmeomlokigjaaDoorW.PrintLast Go.Proofs.YtibmeomlokigjaaDoorW.PrintMore
attribute [local go_sem] max2_int min2_int max_two min_two max_three min_three max_four min_four
set_option linter.unusedVariables false
set_option linter.unusedSimpArgs false
def spec_MakeCup.f (k : Nat) (l0 : List Int) : Option (Int × List Int) := (spec_l01New.f k l0).bind fun bt715 => ((spec_l14Draw.f k bt715.1 bt715.2.1 bt715.2.2).bind fun bt719 => (some (bt719.1, bt719.2.1)))
set_option maxHeartbeats 8000000 in
set_option maxRecDepth 100000 in
theorem spec_MakeCup.calls (k : Nat) (A0 : Option Addr) (c0 : Nat) (l0 : List Int) (r1 : Int) (r2 : List Int) (w : World) (hr0 : Kd.C (Kd.int .u8) w A0 l0.length l0) (hc0 : l0.length ≤ c0) (h : spec_MakeCup.f k l0 = some (r1, r2)) :
    Calls Tryd.prog 39 #[.slice A0 l0.length c0] w fun e w' => ∃ v1_ : Value, e = .returned (.agg #[.int .i64 r1, v1_]) ∧ Kd.R (Kd.int .i64) 3 w' w.heap.size (fun _ => True) v1_ r2 ∧ Below w.heap.size w w' := by
  have hu66 := Tryd.underlying66
  have HR0 := Aside0.mk hr0
  have HC0 := Aside0.mk hc0
  clear hr0 hc0
  have HB := Aside0.mk (Below.refl w.heap.size w)
  have H : ((spec_l01New.f k l0).bind fun bt715 => ((spec_l14Draw.f k bt715.1 bt715.2.1 bt715.2.2).bind fun bt719 => (some (bt719.1, bt719.2.1)))) = some (r1, r2) := h
  clear h
  replace H := Option.bind_eq_some_iff.mp H
  obtain ⟨⟨t715, t716, t717⟩, A20, H⟩ := H
  replace H : ((spec_l14Draw.f k t715 t716 t717).bind fun bt719 => (some (bt719.1, bt719.2.1))) = some (r1, r2) := H
  have A2 := Aside0.mk A20
  clear A20
  replace H := Option.bind_eq_some_iff.mp H
  obtain ⟨⟨t719, t720, t723, t724⟩, A30, H⟩ := H
  replace H : (some (t719, t720)) = some (r1, r2) := H
  have A3 := Aside0.mk A30
  clear A30
  simp only [Option.some.injEq, Prod.mk.injEq] at H
  obtain ⟨rfl, rfl⟩ := H
  go_enter Tryd.func39, Tryd.ntmps39
  go_wp2_with (first | ((with_reducible refine gate_dst (N := 2) rfl ?_); refine bx (N := 2) (cs := #[.int .i64 0, .slice none 0 0]) (t := 66) ?_; intro gb714 hg w4 hbox hb; have BK714 := Aside0.mk (hbox); have GW714 := gs hg HB; have GE714 := gs hg HB; replace HB := hs_ HB hb; clear hb hbox hg) | ((with_reducible refine gate_callee (f := 73) rfl ?_); refine gl (some 4) Tryd.func73 #[.slice A0 l0.length c0] ?_; (with_reducible refine (spec_l01New.calls k _ _ l0 t715 t716 t717 w _ ?side1 ?side2 ?side3 A2.out).mono ?_); (case side1 => exact bb HB); (case side2 => exact HR0.out); (case side3 => exact HC0.out); rintro e w5 ⟨g718, rfl, hi, hb, hb2⟩; refine ⟨_, rfl, ?_⟩; replace HB := Aside0.mk (hb); have HI718 := Aside0.mk (hi); have NB718_714 := Aside0.mk (IsS116.ne_blk hi (blk_below (g := gb714) (o := .cells #[.int .i64 0, .slice none 0 0] 66 (0, 0)) (bk BK714) hb2) (by decide)); have NB714_718 := Aside0.mk (Ne.symm (IsS116.ne_blk hi (blk_below (g := gb714) (o := .cells #[.int .i64 0, .slice none 0 0] 66 (0, 0)) (bk BK714) hb2) (by decide))); replace BK714 := Aside0.mk (blk_below (g := gb714) (o := .cells #[.int .i64 0, .slice none 0 0] 66 (0, 0)) (bk BK714) hb2); (try clear hb); (try clear hb2); (try clear hk); (try clear hi)) | ((with_reducible refine gate_callee (f := 72) rfl ?_); refine gl (some 5) Tryd.func72 #[.pointer (some ⟨g718, 0, none⟩)] ?_; (with_reducible refine (spec_l14Draw.calls k g718 t715 t716 t717 t719 t720 t723 t724 w _ ?side1 ?side2 A3.out).mono ?_); (case side1 => exact IsS116.go_ HI718); (case side2 => exact bs HB (IsS116.ge HI718.out)); rintro e w6 ⟨v721, rfl, ho0, hi, hb, hk⟩; refine ⟨_, rfl, ?_⟩; replace BK714 := kw hk BK714 NB714_718; have HO722 := Aside0.mk (Kd.R_lower ho0 (below_size (bs HB (IsS116.ge HI718.out)))); replace HB := Aside0.mk (hb); replace HI718 := Aside0.mk (hi); (try clear hb); (try clear hb2); (try clear hk); (try clear hi); (try clear ho0); have hnb7 := NB714_718.out; have hnc7 := NB718_714.out; have ⟨hcz8_0, hcz8_1, hfz8_0, hfz8_1⟩ := rz2 BK714; obtain ⟨Ao9, co9, eo9⟩ := Kd.R_slice HO722.out; subst eo9))
  refine bodyPost_ret (results_cell_row rfl _ _ gb714 66 #[.int .i64 t719, .slice Ao9 t720.length co9] (0, 0) _ rfl (by (with_reducible repeat (first | refine blk_drewN ?_ _ | refine blk_drew ?_ | refine blk_alloc ?_ _)); refine blk_put (cs := #[.int .i64 t719, .slice none 0 0]) ?_ 1 _ rfl; (with_reducible repeat (first | refine blk_drewN ?_ _ | refine blk_drew ?_ | refine blk_alloc ?_ _)); refine blk_put (cs := #[.int .i64 0, .slice none 0 0]) ?_ 0 _ rfl; (with_reducible repeat (first | refine blk_drewN ?_ _ | refine blk_drew ?_ | refine blk_alloc ?_ _)); exact BK714.out) Tryd.underlying66 rfl (by kernel_rfl)) rfl ?_
  exact ⟨_, ee, rf HO722 BK714 (fun _ hk => trivial), bs HB (IsS116.ge HI718.out)⟩
end Go.Proofs.YtibmeomlokigjaaDoor.Q
namespace Go.Proofs.YtibmeomlokigjaaDoor.Q
open Go.RowKit Go.Proofs.YtibmeomlokigjaaDoorW.PrintWords Go.Proofs.YtibmeomlokigjaaDoorW.PrintLast Go.Proofs.YtibmeomlokigjaaDoorW.PrintMore
attribute [local go_sem] max2_int min2_int max_two min_two max_three min_three max_four min_four
set_option linter.unusedVariables false
set_option linter.unusedSimpArgs false
def slices_Clone_int_int.f (l0 : List Int) : Option (List Int) := (some (([] : List Int) : List Int)).bind fun y725 => (if y725.length + l0.length < 17592186044416 then (some (y725 ++ l0)) else (none))
set_option maxHeartbeats 8000000 in
set_option maxRecDepth 100000 in
theorem slices_Clone_int_int.calls_some (ad0 : Addr) (c0 : Nat) (l0 : List Int) (r : List Int) (w : World) (hr0 : Kd.C (Kd.int .i64) w (some ad0) l0.length l0) (hc0 : l0.length ≤ c0) (h : slices_Clone_int_int.f l0 = some r) :
    Calls Tryd.prog 94 #[.slice (some ad0) l0.length c0] w fun e w' => ∃ v0_ : Value, e = .returned (v0_) ∧ Kd.R (Kd.int .i64) 3 w' w.heap.size (fun _ => True) v0_ r ∧ Below w.heap.size w w' := by
  have hnil_ := fun (w : World) => Lib.run_eql_slice_nil (P := Tryd.prog) w 42 3 (some ad0) l0.length c0 0 0 Tryd.underlying42
  have HR0 := Aside0.mk hr0
  have HC0 := Aside0.mk hc0
  clear hr0 hc0
  have HB := Aside0.mk (Below.refl w.heap.size w)
  have H : ((some (([] : List Int) : List Int)).bind fun y725 => (if y725.length + l0.length < 17592186044416 then (some (y725 ++ l0)) else (none))) = some r := h
  clear h
  obtain ⟨y725, hy725⟩ : ∃ y_ : List Int, y_ = (([] : List Int)) := ⟨_, rfl⟩
  replace H : (if y725.length + l0.length < 17592186044416 then (some (y725 ++ l0)) else (none)) = some r := by first | (rw [hy725]; with_reducible exact H) | (have H2_ := (Option.bind_some _ _).symm.trans H; rw [hy725]; with_reducible exact H2_) | (have H2_ := (Option.bind_some _ _).symm.trans H; with_reducible exact H2_) | with_reducible exact H | (rw [hy725]; exact H) | exact H
  have Ny725 := Aside0.mk hy725
  clear hy725
  by_cases c2 : y725.length + l0.length < 17592186044416
  · rw [if_pos c2] at H
    have LMc2 := Aside0.mk c2
    clear c2
    obtain ⟨y728, hy728⟩ : ∃ y_ : List Int, y_ = (y725 ++ l0) := ⟨_, rfl⟩
    replace H : (some y728) = some r := by first | (rw [hy728]; with_reducible exact H) | (have H2_ := (Option.bind_some _ _).symm.trans H; rw [hy728]; with_reducible exact H2_) | (have H2_ := (Option.bind_some _ _).symm.trans H; with_reducible exact H2_) | with_reducible exact H | (rw [hy728]; exact H) | exact H
    have Ny728 := Aside0.mk hy728
    clear hy728
    obtain rfl := Option.some.inj H
    go_enter Tryd.func94, Tryd.ntmps94
    go_wp2_with (first | ((with_reducible refine gate_dst (N := 5) rfl ?_); refine Kd.R_lit (Kd.int .i64) _ 3 ?hg (N := 5) ?hd (xs := ([] : List Int)) (inner := []) (ok := fun _ => True) (okp := fun _ => True) ?hr ?hp (fun _ hk => hk) trivial (Below.refl _ _) (Nat.le_refl _) (by simp) ?_; (case hd => rfl); (case hg => rfl); (case hr => first | (go_simp; done) | (go_simp; rfl)); (case hp => exact (Reps.none _ _)); intro v726 w3 ho4 hb hg_ hnew_; clear hg_ hnew_; (first | rw [← Ny725.out] at ho4 | (simp only [Int.reduceToNat] at ho4; rw [← Ny725.out] at ho4)); have HO727 := kl ho4 HB; replace HB := hs_ HB hb; clear hb ho4) | ((with_reducible refine gate_builtin (b := .append) (xs := #[.tmp 5, .tmp 6]) rfl ?_); at_builtin; refine Kd.R_append_rows (Kd.int .i64) (w0 := w) w.heap.size rfl (.tmp 5) (.tmp 6) 42 3 (.int .i64 0) 8 rfl Tryd.underlying42 info3 rfl (by decide) (by omega) v726 y725 l0 _ _ _ (fun _ => True) (fun _ => False) rfl rfl ?aO ?aR (fun _ _ h => h) (fun _ h => h.elim) ?aF ?aB ?aS ?aL ?_; (case aR => exact cc HR0 HB); (case aB => exact (bb HB)); (case aF => exact (fun _ _ => trivial)); (case aO => exact (rr HO727)); (case aS => exact (below_size (bb HB))); (case aL => have := LMc2.out; omega); intro v729 w5 ho hb hg hat; rw [← Ny728.out] at ho; replace HB := Aside0.mk (hb); have HO730 := Aside0.mk (ho); clear HO727 ho hb hg hat))
    go_ret
    exact ⟨_, ee, rr HO730, bb HB⟩
  · rw [if_neg c2] at H
    exact absurd H (by simp)
set_option maxHeartbeats 8000000 in
set_option maxRecDepth 100000 in
theorem slices_Clone_int_int.calls (A0 : Option Addr) (c0 : Nat) (l0 : List Int) (r : List Int) (w : World) (hr0 : Kd.C (Kd.int .i64) w A0 l0.length l0) (hc0 : l0.length ≤ c0) (h : slices_Clone_int_int.f l0 = some r) :
    Calls Tryd.prog 94 #[.slice A0 l0.length c0] w fun e w' => ∃ v0_ : Value, e = .returned (v0_) ∧ Kd.R (Kd.int .i64) 3 w' w.heap.size (fun _ => True) v0_ r ∧ Below w.heap.size w w' := by
  cases A0 with
  | some ad0 => exact slices_Clone_int_int.calls_some ad0 c0 l0 r w hr0 hc0 h
  | none =>
    have hl : l0 = [] := Kd.C_none hr0
    subst hl
    have hr : r = [] := by
      unfold slices_Clone_int_int.f at h
      simpa using h.symm
    subst hr
    have hnil_ := fun (w : World) => Lib.run_eql_slice_nil (P := Tryd.prog) w 42 3 none 0 c0 0 0 Tryd.underlying42
    go_enter Tryd.func94, Tryd.ntmps94
    go_wp2
    go_ret
    exact ⟨_, rfl, Kd.R_nil _ _ _ _ _, Below.refl _ _⟩
end Go.Proofs.YtibmeomlokigjaaDoor.Q
namespace Go.Proofs.YtibmeomlokigjaaDoor.Q
open Go.RowKit Go.Proofs.YtibmeomlokigjaaDoorW.PrintWords Go.Proofs.YtibmeomlokigjaaDoorW.PrintLast Go.Proofs.YtibmeomlokigjaaDoorW.PrintMore
attribute [local go_sem] max2_int min2_int max_two min_two max_three min_three max_four min_four
set_option linter.unusedVariables false
set_option linter.unusedSimpArgs false
def impl_WinGame.f (k : Nat) (a0_0 : Int) (l0_1 : List Int) (a1 : Int) : Option (Int × List Int × Bool) := (slices_Clone_int_int.f l0_1).bind fun t733 => ((some (([a1] : List Int) : List Int)).bind fun y736 => (if t733.length + y736.length < 17592186044416 then ((some (t733 ++ y736 : List Int)).bind fun y739 => ((impl_CupOk.f k a0_0 y739).bind fun t743 => (if t743 = true then (some (a0_0, y739, true)) else ((slices_Clone_int_int.f l0_1).bind fun t744 => (some (a0_0, t744, false)))))) else (none)))
def impl_WinGame.T1 : Bool × List (List Nat × List Nat) := (true, [([], []), ([0], [0]), ([], []), ([2], [2]), ([3], [3]), ([], []), ([5], [5]), ([4, 6, 4], [4, 6]), ([1, 7], [1, 7]), ([], []), ([9, 8, 7, 0, 1, 2, 3, 4, 5, 6, 7, 8, 9], [8, 9])])
def impl_WinGame.B1 : List Nat := [0, 1, 0, 4, 12, 0, 32, 124, 255, 0, 1023]
theorem impl_WinGame.tab1 : rtab .any (opsOf Tryd.f75 1) = impl_WinGame.T1 := by kernel_rfl
theorem impl_WinGame.bits1 : waitsOk impl_WinGame.T1.2 impl_WinGame.B1 = true := by kernel_rfl
def impl_WinGame.T3 : Bool × List (List Nat × List Nat) := (true, [([], []), ([0], [0]), ([], []), ([2], [2]), ([3], [3]), ([1, 4], [1, 4]), ([5, 4, 0, 1, 2, 3, 4, 5], [5]), ([6, 0, 1, 2, 3, 4, 5, 6], [])])
def impl_WinGame.B3 : List Nat := [0, 1, 0, 4, 12, 31, 63, 127]
theorem impl_WinGame.tab3 : rtab .any (opsOf Tryd.f75 3) = impl_WinGame.T3 := by kernel_rfl
theorem impl_WinGame.bits3 : waitsOk impl_WinGame.T3.2 impl_WinGame.B3 = true := by kernel_rfl
set_option maxHeartbeats 8000000 in
set_option maxRecDepth 100000 in
theorem impl_WinGame.calls (k : Nat) (a0_0 : Int) (A0_1 : Option Addr) (c0_1 : Nat) (l0_1 : List Int) (a1 : Int) (r1 : Int) (r2 : List Int) (r3 : Bool) (w : World) (hr0_1 : Kd.C (Kd.int .i64) w A0_1 l0_1.length l0_1) (hc0_1 : l0_1.length ≤ c0_1) (h : impl_WinGame.f k a0_0 l0_1 a1 = some (r1, r2, r3)) :
    Calls Tryd.prog 75 #[.agg #[.int .i64 a0_0, .slice A0_1 l0_1.length c0_1], .int .i64 a1] w fun e w' => ∃ v1_ : Value, e = .returned (.tuple #[.agg #[.int .i64 r1, v1_], .bool r3]) ∧ Kd.R (Kd.int .i64) 3 w' w.heap.size (fun _ => True) v1_ r2 ∧ Below w.heap.size w w' := by
  have hu66 := Tryd.underlying66
  have HR0_1 := Aside0.mk hr0_1
  have HC0_1 := Aside0.mk hc0_1
  clear hr0_1 hc0_1
  have HB := Aside0.mk (Below.refl w.heap.size w)
  have H : ((slices_Clone_int_int.f l0_1).bind fun t733 => ((some (([a1] : List Int) : List Int)).bind fun y736 => (if t733.length + y736.length < 17592186044416 then ((some (t733 ++ y736 : List Int)).bind fun y739 => ((impl_CupOk.f k a0_0 y739).bind fun t743 => (if t743 = true then (some (a0_0, y739, true)) else ((slices_Clone_int_int.f l0_1).bind fun t744 => (some (a0_0, t744, false)))))) else (none)))) = some (r1, r2, r3) := h
  clear h
  replace H := Option.bind_eq_some_iff.mp H
  obtain ⟨t733, A30, H⟩ := H
  replace H : ((some (([a1] : List Int) : List Int)).bind fun y736 => (if t733.length + y736.length < 17592186044416 then ((some (t733 ++ y736 : List Int)).bind fun y739 => ((impl_CupOk.f k a0_0 y739).bind fun t743 => (if t743 = true then (some (a0_0, y739, true)) else ((slices_Clone_int_int.f l0_1).bind fun t744 => (some (a0_0, t744, false)))))) else (none))) = some (r1, r2, r3) := H
  have A3 := Aside0.mk A30
  clear A30
  obtain ⟨y736, hy736⟩ : ∃ y_ : List Int, y_ = (([a1] : List Int)) := ⟨_, rfl⟩
  replace H : (if t733.length + y736.length < 17592186044416 then ((some (t733 ++ y736 : List Int)).bind fun y739 => ((impl_CupOk.f k a0_0 y739).bind fun t743 => (if t743 = true then (some (a0_0, y739, true)) else ((slices_Clone_int_int.f l0_1).bind fun t744 => (some (a0_0, t744, false)))))) else (none)) = some (r1, r2, r3) := by first | (rw [hy736]; with_reducible exact H) | (have H2_ := (Option.bind_some _ _).symm.trans H; rw [hy736]; with_reducible exact H2_) | (have H2_ := (Option.bind_some _ _).symm.trans H; with_reducible exact H2_) | with_reducible exact H | (rw [hy736]; exact H) | exact H
  have Ny736 := Aside0.mk hy736
  clear hy736
  by_cases c4 : t733.length + y736.length < 17592186044416
  · rw [if_pos c4] at H
    have LMc4 := Aside0.mk c4
    clear c4
    obtain ⟨y739, hy739⟩ : ∃ y_ : List Int, y_ = (t733 ++ y736) := ⟨_, rfl⟩
    replace H : ((impl_CupOk.f k a0_0 y739).bind fun t743 => (if t743 = true then (some (a0_0, y739, true)) else ((slices_Clone_int_int.f l0_1).bind fun t744 => (some (a0_0, t744, false))))) = some (r1, r2, r3) := by first | (rw [hy739]; with_reducible exact H) | (have H2_ := (Option.bind_some _ _).symm.trans H; rw [hy739]; with_reducible exact H2_) | (have H2_ := (Option.bind_some _ _).symm.trans H; with_reducible exact H2_) | with_reducible exact H | (rw [hy739]; exact H) | exact H
    have Ny739 := Aside0.mk hy739
    clear hy739
    replace H := Option.bind_eq_some_iff.mp H
    obtain ⟨t743, A50, H⟩ := H
    replace H : (if t743 = true then (some (a0_0, y739, true)) else ((slices_Clone_int_int.f l0_1).bind fun t744 => (some (a0_0, t744, false)))) = some (r1, r2, r3) := H
    have A5 := Aside0.mk A50
    clear A50
    by_cases c6 : t743 = true
    · subst c6
      have H1 : (some (a0_0, y739, true)) = some (r1, r2, r3) := by rw [if_pos rfl] at H; exact H
      clear H
      have H := H1
      clear H1
      simp only [Option.some.injEq, Prod.mk.injEq] at H
      obtain ⟨rfl, rfl, rfl⟩ := H
      go_enter Tryd.func75, Tryd.ntmps75
      try go_wp2_with (first | ((with_reducible refine gate_dst (N := 2) rfl ?_); refine bx (N := 2) (cs := #[.int .i64 a0_0, .slice A0_1 l0_1.length c0_1]) (t := 66) ?_; intro gb731 hg w7 hbox hb; have BK731 := Aside0.mk (hbox); have GW731 := gs hg HB; have GE731 := gs hg HB; replace HB := hs_ HB hb; clear hb hbox hg) | ((with_reducible refine gate_dst (N := 4) rfl ?_); refine bx (N := 4) (cs := #[.int .i64 0, .slice none 0 0]) (t := 66) ?_; intro gb732 hg w8 hbox hb; have BK732 := Aside0.mk (hbox); have GW732 := gs hg HB; have GE732 := gs hg HB; replace HB := hs_ HB hb; have NB731_732 := gn hg BK731; have NB732_731 := gm hg BK731; replace BK731 := kb BK731 hb; clear hb hbox hg))
      replace BK731 := Aside0.mk (blk_drew BK731.out)
      replace BK732 := Aside0.mk (blk_drew BK732.out)
      replace HB := Aside0.mk (below_drew1 HB.out)
      refine start_ (n := 11) (S := fun w' => w'.cell? ⟨gb731, 0, none⟩ = some (.int .i64 a0_0) ∧ w'.cell? ⟨gb731, 1, none⟩ = some (.slice A0_1 l0_1.length c0_1)) (ds := []) #[false, false, false, false, false, false, false, false, false, false, false] (by kernel_rfl) rfl rfl ⟨(blk_cell BK731.out 0).trans rfl, (blk_cell BK731.out 1).trans rfl⟩ (fun hHeld => ?_); refine with_tabW impl_WinGame.tab1 impl_WinGame.bits1 (fun HT_ HW_ => ?_)
      generalize w8.drew = w9 at BK731 BK732 HB hHeld ⊢
      refine pure_ (i := 0) (N := some 7) (v := ?_) (a' := ?_) #[true, false, false, false, false, false, false, false, false, false, false] rfl rfl (any_of HT_.out (by kernel_rfl)) (fun _ _ _ h => h) (Or.inl ⟨by rfl, ?_⟩) ?_ ?_
      rotate_left
      · intro w'
        go_simp
        with_reducible rfl
      rotate_left
      · simp only [Act.put, List.setIfInBounds_toArray, List.set_cons_zero, List.set_cons_succ, i64_w, i32_w]
        rfl
      refine pure_ (i := 2) (N := some 9) (v := ?_) (a' := ?_) #[true, false, true, false, false, false, false, false, false, false, false] rfl rfl (any_of HT_.out (by kernel_rfl)) (fun _ _ _ h => h) (Or.inl ⟨by rfl, ?_⟩) ?_ ?_
      rotate_left
      · intro w'
        go_simp
        with_reducible rfl
      rotate_left
      · simp only [Act.put, List.setIfInBounds_toArray, List.set_cons_zero, List.set_cons_succ, i64_w, i32_w]
        rfl
      refine pure_ (i := 5) (N := some 12) (v := ?_) (a' := ?_) #[true, false, true, false, false, true, false, false, false, false, false] rfl rfl (any_of HT_.out (by kernel_rfl)) (fun _ _ _ h => h) (Or.inl ⟨by rfl, ?_⟩) ?_ ?_
      rotate_left
      · intro w'
        go_simp
        with_reducible rfl
      rotate_left
      · simp only [Act.put, List.setIfInBounds_toArray, List.set_cons_zero, List.set_cons_succ, i64_w, i32_w]
        rfl
      refine take_ (i := 1) (N := some 8) (v := ?_) (a' := ?_) #[true, true, true, false, false, true, false, false, false, false, false] rfl rfl (take_ofW HT_.out HW_.out (by kernel_rfl)) (fun _ _ _ h => h) (Or.inl ⟨by rfl, ?_⟩) hHeld ?_ ?_
      rotate_left
      · rintro w' ⟨s0, s1⟩
        go_simp
        with_reducible rfl
      rotate_left
      · simp only [Act.put, List.setIfInBounds_toArray, List.set_cons_zero, List.set_cons_succ, i64_w, i32_w]
        rfl
      refine take_ (i := 3) (N := some 10) (v := ?_) (a' := ?_) #[true, true, true, true, false, true, false, false, false, false, false] rfl rfl (take_ofW HT_.out HW_.out (by kernel_rfl)) (fun _ _ _ h => h) (Or.inl ⟨by rfl, ?_⟩) hHeld ?_ ?_
      rotate_left
      · rintro w' ⟨s0, s1⟩
        go_simp
        with_reducible rfl
      rotate_left
      · simp only [Act.put, List.setIfInBounds_toArray, List.set_cons_zero, List.set_cons_succ, i64_w, i32_w]
        rfl
      refine join_ (σ := Value × Value × Value × Nat) 1 #[true, true, true, true, true, true, true, true, true, true, false] (fun s_ => [(11, s_.1), (13, s_.2.1), (14, s_.2.2.1), (6, .pointer (some ⟨s_.2.2.2, 0, none⟩)), (15, .agg #[.int .i64 a0_0, s_.2.2.1])]) (fun s_ w' => (w'.cell? ⟨gb731, 0, none⟩ = some (.int .i64 a0_0) ∧ w'.cell? ⟨gb731, 1, none⟩ = some (.slice A0_1 l0_1.length c0_1)) ∧ (Kd.R (Kd.int .i64) 3 w' w.heap.size (fun k_ => some k_ ≠ (s_.2.2.1 : Value).ownBlock) s_.2.1 y736) ∧ (Kd.R (Kd.int .i64) 3 w' w.heap.size (fun k_ => some k_ ≠ (s_.2.1 : Value).ownBlock) s_.2.2.1 y739) ∧ (w'.heap[gb731]? = some (.cells #[.int .i64 a0_0, .slice A0_1 l0_1.length c0_1] 66 (0, 0))) ∧ (w'.heap[gb732]? = some (.cells #[.int .i64 0, .slice none 0 0] 66 (0, 0))) ∧ (w'.heap[s_.2.2.2]? = some (.cells #[.int .i64 0, .slice none 0 0] 66 (0, 0))) ∧ (w.heap.size ≤ s_.2.2.2) ∧ (w.heap.size ≤ s_.2.2.2) ∧ (gb731 ≠ s_.2.2.2) ∧ (s_.2.2.2 ≠ gb731) ∧ (gb732 ≠ s_.2.2.2) ∧ (s_.2.2.2 ≠ gb732) ∧ (Below w.heap.size w w')) ?_ ?_
      rotate_left
      · intro hJ4_6_7_9
        refine join_ (σ := Value × Value × Value) 2 #[true, true, true, true, true, true, true, true, true, false, false] (fun s_ => [(11, s_.1), (13, s_.2.1), (14, s_.2.2), (15, .agg #[.int .i64 a0_0, s_.2.2])]) (fun s_ w' => (w'.cell? ⟨gb731, 0, none⟩ = some (.int .i64 a0_0) ∧ w'.cell? ⟨gb731, 1, none⟩ = some (.slice A0_1 l0_1.length c0_1)) ∧ (Kd.R (Kd.int .i64) 3 w' w.heap.size (fun k_ => some k_ ≠ (s_.2.2 : Value).ownBlock) s_.2.1 y736) ∧ (Kd.R (Kd.int .i64) 3 w' w.heap.size (fun k_ => some k_ ≠ (s_.2.1 : Value).ownBlock) s_.2.2 y739) ∧ (w'.heap[gb731]? = some (.cells #[.int .i64 a0_0, .slice A0_1 l0_1.length c0_1] 66 (0, 0))) ∧ (w'.heap[gb732]? = some (.cells #[.int .i64 0, .slice none 0 0] 66 (0, 0))) ∧ (Below w.heap.size w w')) ?_ ?_
        rotate_left
        · intro hJ4_6_7
          refine join_ (σ := Value × Value × Nat) 3 #[true, true, true, true, true, true, true, false, false, true, false] (fun s_ => [(11, s_.1), (13, s_.2.1), (6, .pointer (some ⟨s_.2.2, 0, none⟩))]) (fun s_ w' => (w'.cell? ⟨gb731, 0, none⟩ = some (.int .i64 a0_0) ∧ w'.cell? ⟨gb731, 1, none⟩ = some (.slice A0_1 l0_1.length c0_1)) ∧ (Kd.R (Kd.int .i64) 3 w' w.heap.size (fun k_ => some k_ ≠ (s_.2.1 : Value).ownBlock) s_.1 t733) ∧ (Kd.R (Kd.int .i64) 3 w' w.heap.size (fun k_ => some k_ ≠ (s_.1 : Value).ownBlock) s_.2.1 y736) ∧ (w'.heap[gb731]? = some (.cells #[.int .i64 a0_0, .slice A0_1 l0_1.length c0_1] 66 (0, 0))) ∧ (w'.heap[gb732]? = some (.cells #[.int .i64 0, .slice none 0 0] 66 (0, 0))) ∧ (w'.heap[s_.2.2]? = some (.cells #[.int .i64 0, .slice none 0 0] 66 (0, 0))) ∧ (w.heap.size ≤ s_.2.2) ∧ (w.heap.size ≤ s_.2.2) ∧ (gb731 ≠ s_.2.2) ∧ (s_.2.2 ≠ gb731) ∧ (gb732 ≠ s_.2.2) ∧ (s_.2.2 ≠ gb732) ∧ (Below w.heap.size w w')) ?_ ?_
          rotate_left
          · intro hJ4_6_9
            refine join_ (σ := Value × Value) 4 #[true, true, true, true, true, true, true, false, false, false, false] (fun s_ => [(11, s_.1), (13, s_.2)]) (fun s_ w' => (w'.cell? ⟨gb731, 0, none⟩ = some (.int .i64 a0_0) ∧ w'.cell? ⟨gb731, 1, none⟩ = some (.slice A0_1 l0_1.length c0_1)) ∧ (Kd.R (Kd.int .i64) 3 w' w.heap.size (fun k_ => some k_ ≠ (s_.2 : Value).ownBlock) s_.1 t733) ∧ (Kd.R (Kd.int .i64) 3 w' w.heap.size (fun k_ => some k_ ≠ (s_.1 : Value).ownBlock) s_.2 y736) ∧ (w'.heap[gb731]? = some (.cells #[.int .i64 a0_0, .slice A0_1 l0_1.length c0_1] 66 (0, 0))) ∧ (w'.heap[gb732]? = some (.cells #[.int .i64 0, .slice none 0 0] 66 (0, 0))) ∧ (Below w.heap.size w w')) ?_ ?_
            rotate_left
            · intro hJ4_6
              refine join_ (σ := Value × Nat) 4 #[true, true, true, true, true, true, false, false, false, true, false] (fun s_ => [(11, s_.1), (6, .pointer (some ⟨s_.2, 0, none⟩))]) (fun s_ w' => (w'.cell? ⟨gb731, 0, none⟩ = some (.int .i64 a0_0) ∧ w'.cell? ⟨gb731, 1, none⟩ = some (.slice A0_1 l0_1.length c0_1)) ∧ (Kd.R (Kd.int .i64) 3 w' w.heap.size (fun _ => True) s_.1 t733) ∧ (w'.heap[gb731]? = some (.cells #[.int .i64 a0_0, .slice A0_1 l0_1.length c0_1] 66 (0, 0))) ∧ (w'.heap[gb732]? = some (.cells #[.int .i64 0, .slice none 0 0] 66 (0, 0))) ∧ (w'.heap[s_.2]? = some (.cells #[.int .i64 0, .slice none 0 0] 66 (0, 0))) ∧ (w.heap.size ≤ s_.2) ∧ (w.heap.size ≤ s_.2) ∧ (gb731 ≠ s_.2) ∧ (s_.2 ≠ gb731) ∧ (gb732 ≠ s_.2) ∧ (s_.2 ≠ gb732) ∧ (Below w.heap.size w w')) ?_ ?_
              rotate_left
              · intro hJ4_9
                refine join_ (σ := Value × Nat) 4 #[true, true, true, true, false, true, true, false, false, true, false] (fun s_ => [(13, s_.1), (6, .pointer (some ⟨s_.2, 0, none⟩))]) (fun s_ w' => (w'.cell? ⟨gb731, 0, none⟩ = some (.int .i64 a0_0) ∧ w'.cell? ⟨gb731, 1, none⟩ = some (.slice A0_1 l0_1.length c0_1)) ∧ (Kd.R (Kd.int .i64) 3 w' w.heap.size (fun _ => True) s_.1 y736) ∧ (w'.heap[gb731]? = some (.cells #[.int .i64 a0_0, .slice A0_1 l0_1.length c0_1] 66 (0, 0))) ∧ (w'.heap[gb732]? = some (.cells #[.int .i64 0, .slice none 0 0] 66 (0, 0))) ∧ (w'.heap[s_.2]? = some (.cells #[.int .i64 0, .slice none 0 0] 66 (0, 0))) ∧ (w.heap.size ≤ s_.2) ∧ (w.heap.size ≤ s_.2) ∧ (gb731 ≠ s_.2) ∧ (s_.2 ≠ gb731) ∧ (gb732 ≠ s_.2) ∧ (s_.2 ≠ gb732) ∧ (Below w.heap.size w w')) ?_ ?_
                rotate_left
                · intro hJ6_9
                  refine join_ (σ := Value) 5 #[true, true, true, true, true, true, false, false, false, false, false] (fun s_ => [(11, s_)]) (fun s_ w' => (w'.cell? ⟨gb731, 0, none⟩ = some (.int .i64 a0_0) ∧ w'.cell? ⟨gb731, 1, none⟩ = some (.slice A0_1 l0_1.length c0_1)) ∧ (Kd.R (Kd.int .i64) 3 w' w.heap.size (fun _ => True) s_ t733) ∧ (w'.heap[gb731]? = some (.cells #[.int .i64 a0_0, .slice A0_1 l0_1.length c0_1] 66 (0, 0))) ∧ (w'.heap[gb732]? = some (.cells #[.int .i64 0, .slice none 0 0] 66 (0, 0))) ∧ (Below w.heap.size w w')) ?_ ?_
                  rotate_left
                  · intro hJ4
                    refine join_ (σ := Value) 5 #[true, true, true, true, false, true, true, false, false, false, false] (fun s_ => [(13, s_)]) (fun s_ w' => (w'.cell? ⟨gb731, 0, none⟩ = some (.int .i64 a0_0) ∧ w'.cell? ⟨gb731, 1, none⟩ = some (.slice A0_1 l0_1.length c0_1)) ∧ (Kd.R (Kd.int .i64) 3 w' w.heap.size (fun _ => True) s_ y736) ∧ (w'.heap[gb731]? = some (.cells #[.int .i64 a0_0, .slice A0_1 l0_1.length c0_1] 66 (0, 0))) ∧ (w'.heap[gb732]? = some (.cells #[.int .i64 0, .slice none 0 0] 66 (0, 0))) ∧ (Below w.heap.size w w')) ?_ ?_
                    rotate_left
                    · intro hJ6
                      refine join_ (σ := Nat) 5 #[true, true, true, true, false, true, false, false, false, true, false] (fun s_ => [(6, .pointer (some ⟨s_, 0, none⟩))]) (fun s_ w' => (w'.cell? ⟨gb731, 0, none⟩ = some (.int .i64 a0_0) ∧ w'.cell? ⟨gb731, 1, none⟩ = some (.slice A0_1 l0_1.length c0_1)) ∧ (w'.heap[gb731]? = some (.cells #[.int .i64 a0_0, .slice A0_1 l0_1.length c0_1] 66 (0, 0))) ∧ (w'.heap[gb732]? = some (.cells #[.int .i64 0, .slice none 0 0] 66 (0, 0))) ∧ (w'.heap[s_]? = some (.cells #[.int .i64 0, .slice none 0 0] 66 (0, 0))) ∧ (w.heap.size ≤ s_) ∧ (w.heap.size ≤ s_) ∧ (gb731 ≠ s_) ∧ (s_ ≠ gb731) ∧ (gb732 ≠ s_) ∧ (s_ ≠ gb732) ∧ (Below w.heap.size w w')) ?_ ?_
                      rotate_left
                      · intro hJ9
                        refine three_ (i := 4) (j := 6) (k := 9) (Ni := some 11) (Nj := some 13) (Nk := some 6) #[true, true, true, true, true, true, false, false, false, false, false] #[true, true, true, true, false, true, true, false, false, false, false] #[true, true, true, true, false, true, false, false, false, true, false] rfl rfl rfl rfl rfl rfl (three_of HT_.out (by kernel_rfl)) (by decide) (by decide) (by decide) (fun K hK => ?_) (fun K hK => ?_) (fun K hK => ?_)
                        · skip
                          refine goes_ Tryd.func94 (by kernel_rfl) rfl #[.slice A0_1 l0_1.length c0_1] (by rfl) rfl rfl (by (try simp only [List.map_toArray, List.map_cons, List.map_nil]); first | done | rfl | (simp only [List.length_drop, List.length_take]; rfl)) ?_
                          with_reducible refine (slices_Clone_int_int.calls _ _ l0_1 t733 _ ?side1 ?side2 A3.out).mono ?_
                          (case side1 => exact cc HR0_1 HB)
                          (case side2 => exact HC0_1.out)
                          rintro e w10 ⟨v734, rfl, ho0, hb⟩
                          refine ⟨_, rfl, ?_⟩
                          have HO735 := kl ho0 HB
                          replace BK731 := kb BK731 hb
                          replace BK732 := kb BK732 hb
                          replace HB := hs_ HB hb
                          (try clear hb)
                          (try clear hb2)
                          (try clear hk)
                          (try clear hi)
                          (try clear ho0)
                          refine hK.out _ _ ⟨(blk_cell BK731.out 0).trans rfl, (blk_cell BK731.out 1).trans rfl⟩ (fun hHeld => ?_)
                          clear hK K
                          refine norm_ (a' := ?_) ?_ ?_
                          rotate_left
                          · show Act.put _ (some 11) _ = _
                            simp only [Act.put, List.setIfInBounds_toArray, List.set_cons_zero, List.set_cons_succ, i64_w, i32_w]
                            rfl
                          exact norm_ (by first | (simp only [putAll, Act.put, List.setIfInBounds_toArray, List.set_cons_zero, List.set_cons_succ]; done) | (simp only [putAll, Act.put, List.setIfInBounds_toArray, List.set_cons_zero, List.set_cons_succ]; rfl)) (hJ4 (v734) _ ⟨hHeld, (rr HO735), (bk BK731), (bk BK732), (bb HB)⟩)
                        · skip
                          refine Kd.R_lit_step (Kd.int .i64) _ 3 ?hg (N := 13) ?hd (xs := ([a1] : List Int)) (inner := [.int .i64 a1]) (ok := fun _ => True) (okp := fun _ => True) ?hr ?hp (fun _ hk => hk) trivial (Below.refl _ _) (Nat.le_refl _) (by simp) ?_; (case hd => rfl); (case hg => rfl); (case hr => first | (go_simp; done) | (go_simp; rfl)); (case hp => exact (Reps.one (show Kd.M (Kd.int .i64) _ _ _ a1 [.int .i64 a1] from rfl) (Reps.none _ _)))
                          intro v737 w10 ho11 hb hg_ hnew_
                          clear hg_ hnew_
                          (first | rw [← Ny736.out] at ho11 | (simp only [Int.reduceToNat] at ho11; rw [← Ny736.out] at ho11))
                          have HO738 := kl ho11 HB
                          replace BK731 := kb BK731 hb
                          replace BK732 := kb BK732 hb
                          replace HB := hs_ HB hb
                          clear hb ho11
                          refine hK.out _ _ ⟨(blk_cell BK731.out 0).trans rfl, (blk_cell BK731.out 1).trans rfl⟩ (fun hHeld => ?_)
                          clear hK K
                          refine norm_ (a' := ?_) ?_ ?_
                          rotate_left
                          · show Act.put _ (some 13) _ = _
                            simp only [Act.put, List.setIfInBounds_toArray, List.set_cons_zero, List.set_cons_succ, i64_w, i32_w]
                            rfl
                          exact norm_ (by first | (simp only [putAll, Act.put, List.setIfInBounds_toArray, List.set_cons_zero, List.set_cons_succ]; done) | (simp only [putAll, Act.put, List.setIfInBounds_toArray, List.set_cons_zero, List.set_cons_succ]; rfl)) (hJ6 (v737) _ ⟨hHeld, (rr HO738), (bk BK731), (bk BK732), (bb HB)⟩)
                        · skip
                          refine box_step ?hg (N := 6) ?hd (cs := #[.int .i64 0, .slice none 0 0]) (t := 66) ?hr ?_; (case hd => rfl); (case hg => rfl); (case hr => first | (go_simp; done) | (go_simp; rfl))
                          intro gb742 hg w10 hbox hb
                          have BK742 := Aside0.mk (hbox)
                          have GW742 := gs hg HB
                          have GE742 := gs hg HB
                          replace HB := hs_ HB hb
                          have NB731_742 := gn hg BK731
                          have NB742_731 := gm hg BK731
                          replace BK731 := kb BK731 hb
                          have NB732_742 := gn hg BK732
                          have NB742_732 := gm hg BK732
                          replace BK732 := kb BK732 hb
                          clear hb hbox hg
                          refine hK.out _ _ ⟨(blk_cell BK731.out 0).trans rfl, (blk_cell BK731.out 1).trans rfl⟩ (fun hHeld => ?_)
                          clear hK K
                          refine norm_ (a' := ?_) ?_ ?_
                          rotate_left
                          · show Act.put _ (some 6) _ = _
                            simp only [Act.put, List.setIfInBounds_toArray, List.set_cons_zero, List.set_cons_succ, i64_w, i32_w]
                            rfl
                          exact norm_ (by first | (simp only [putAll, Act.put, List.setIfInBounds_toArray, List.set_cons_zero, List.set_cons_succ]; done) | (simp only [putAll, Act.put, List.setIfInBounds_toArray, List.set_cons_zero, List.set_cons_succ]; rfl)) (hJ9 (gb742) _ ⟨hHeld, (bk BK731), (bk BK732), (bk BK742), GW742.out, GE742.out, NB731_742.out, NB742_731.out, NB732_742.out, NB742_732.out, (bb HB)⟩)
                      · skip
                        rintro gb742 w11 ⟨hS_, h0_, h1_, h2_, h3_, h4_, h5_, h6_, h7_, h8_, h9_⟩
                        have n0_ : Aside0 (w11.heap[gb731]? = some (.cells #[.int .i64 a0_0, .slice A0_1 l0_1.length c0_1] 66 (0, 0))) := ⟨h0_⟩
                        have n1_ : Aside0 (w11.heap[gb732]? = some (.cells #[.int .i64 0, .slice none 0 0] 66 (0, 0))) := ⟨h1_⟩
                        have n2_ : Aside0 (w11.heap[gb742]? = some (.cells #[.int .i64 0, .slice none 0 0] 66 (0, 0))) := ⟨h2_⟩
                        have n3_ : Aside0 (w.heap.size ≤ gb742) := ⟨h3_⟩
                        have n4_ : Aside0 (w.heap.size ≤ gb742) := ⟨h4_⟩
                        have n5_ : Aside0 (gb731 ≠ gb742) := ⟨h5_⟩
                        have n6_ : Aside0 (gb742 ≠ gb731) := ⟨h6_⟩
                        have n7_ : Aside0 (gb732 ≠ gb742) := ⟨h7_⟩
                        have n8_ : Aside0 (gb742 ≠ gb732) := ⟨h8_⟩
                        have n9_ : Aside0 (Below w.heap.size w w11) := ⟨h9_⟩
                        clear BK731 BK732 HB h0_ h1_ h2_ h3_ h4_ h5_ h6_ h7_ h8_ h9_
                        have BK731 := n0_
                        have BK732 := n1_
                        have BK742 := n2_
                        have GW742 := n3_
                        have GE742 := n4_
                        have NB731_742 := n5_
                        have NB742_731 := n6_
                        have NB732_742 := n7_
                        have NB742_732 := n8_
                        have HB := n9_
                        clear n0_ n1_ n2_ n3_ n4_ n5_ n6_ n7_ n8_ n9_
                        have hHeld : w11.cell? ⟨gb731, 0, none⟩ = some (.int .i64 a0_0) ∧ w11.cell? ⟨gb731, 1, none⟩ = some (.slice A0_1 l0_1.length c0_1) := hS_
                        refine norm_ (a' := ?_) ?_ ?_
                        rotate_left
                        · simp only [putAll, Act.put, List.setIfInBounds_toArray, List.set_cons_zero, List.set_cons_succ]
                          rfl
                        refine two_ (i := 4) (j := 6) (Ni := some 11) (Nj := some 13) #[true, true, true, true, true, true, false, false, false, true, false] #[true, true, true, true, false, true, true, false, false, true, false] rfl rfl rfl rfl (two_of HT_.out (by kernel_rfl)) (by decide) (by decide) (fun K hK => ?_) (fun K hK => ?_)
                        · skip
                          refine goes_ Tryd.func94 (by kernel_rfl) rfl #[.slice A0_1 l0_1.length c0_1] (by rfl) rfl rfl (by (try simp only [List.map_toArray, List.map_cons, List.map_nil]); first | done | rfl | (simp only [List.length_drop, List.length_take]; rfl)) ?_
                          with_reducible refine (slices_Clone_int_int.calls _ _ l0_1 t733 _ ?side1 ?side2 A3.out).mono ?_
                          (case side1 => exact cc HR0_1 HB)
                          (case side2 => exact HC0_1.out)
                          rintro e w12 ⟨v734, rfl, ho0, hb⟩
                          refine ⟨_, rfl, ?_⟩
                          have HO735 := kl ho0 HB
                          replace BK731 := kb BK731 hb
                          replace BK732 := kb BK732 hb
                          replace BK742 := kb BK742 hb
                          replace HB := hs_ HB hb
                          (try clear hb)
                          (try clear hb2)
                          (try clear hk)
                          (try clear hi)
                          (try clear ho0)
                          refine hK.out _ _ ⟨(blk_cell BK731.out 0).trans rfl, (blk_cell BK731.out 1).trans rfl⟩ (fun hHeld => ?_)
                          clear hK K
                          refine norm_ (a' := ?_) ?_ ?_
                          rotate_left
                          · show Act.put _ (some 11) _ = _
                            simp only [Act.put, List.setIfInBounds_toArray, List.set_cons_zero, List.set_cons_succ, i64_w, i32_w]
                            rfl
                          exact norm_ (by first | (simp only [putAll, Act.put, List.setIfInBounds_toArray, List.set_cons_zero, List.set_cons_succ]; done) | (simp only [putAll, Act.put, List.setIfInBounds_toArray, List.set_cons_zero, List.set_cons_succ]; rfl)) (hJ4_9 (v734, gb742) _ ⟨hHeld, (rr HO735), (bk BK731), (bk BK732), (bk BK742), GW742.out, GE742.out, NB731_742.out, NB742_731.out, NB732_742.out, NB742_732.out, (bb HB)⟩)
                        · skip
                          refine Kd.R_lit_step (Kd.int .i64) _ 3 ?hg (N := 13) ?hd (xs := ([a1] : List Int)) (inner := [.int .i64 a1]) (ok := fun _ => True) (okp := fun _ => True) ?hr ?hp (fun _ hk => hk) trivial (Below.refl _ _) (Nat.le_refl _) (by simp) ?_; (case hd => rfl); (case hg => rfl); (case hr => first | (go_simp; done) | (go_simp; rfl)); (case hp => exact (Reps.one (show Kd.M (Kd.int .i64) _ _ _ a1 [.int .i64 a1] from rfl) (Reps.none _ _)))
                          intro v737 w12 ho13 hb hg_ hnew_
                          clear hg_ hnew_
                          (first | rw [← Ny736.out] at ho13 | (simp only [Int.reduceToNat] at ho13; rw [← Ny736.out] at ho13))
                          have HO738 := kl ho13 HB
                          replace BK731 := kb BK731 hb
                          replace BK732 := kb BK732 hb
                          replace BK742 := kb BK742 hb
                          replace HB := hs_ HB hb
                          clear hb ho13
                          refine hK.out _ _ ⟨(blk_cell BK731.out 0).trans rfl, (blk_cell BK731.out 1).trans rfl⟩ (fun hHeld => ?_)
                          clear hK K
                          refine norm_ (a' := ?_) ?_ ?_
                          rotate_left
                          · show Act.put _ (some 13) _ = _
                            simp only [Act.put, List.setIfInBounds_toArray, List.set_cons_zero, List.set_cons_succ, i64_w, i32_w]
                            rfl
                          exact norm_ (by first | (simp only [putAll, Act.put, List.setIfInBounds_toArray, List.set_cons_zero, List.set_cons_succ]; done) | (simp only [putAll, Act.put, List.setIfInBounds_toArray, List.set_cons_zero, List.set_cons_succ]; rfl)) (hJ6_9 (v737, gb742) _ ⟨hHeld, (rr HO738), (bk BK731), (bk BK732), (bk BK742), GW742.out, GE742.out, NB731_742.out, NB742_731.out, NB732_742.out, NB742_732.out, (bb HB)⟩)
                    · skip
                      rintro v737 w12 ⟨hS_, h0_, h1_, h2_, h3_⟩
                      have n0_ : Aside0 (Kd.R (Kd.int .i64) 3 w12 w.heap.size (fun _ => True) v737 y736) := ⟨h0_⟩
                      have n1_ : Aside0 (w12.heap[gb731]? = some (.cells #[.int .i64 a0_0, .slice A0_1 l0_1.length c0_1] 66 (0, 0))) := ⟨h1_⟩
                      have n2_ : Aside0 (w12.heap[gb732]? = some (.cells #[.int .i64 0, .slice none 0 0] 66 (0, 0))) := ⟨h2_⟩
                      have n3_ : Aside0 (Below w.heap.size w w12) := ⟨h3_⟩
                      clear BK731 BK732 HB h0_ h1_ h2_ h3_
                      have HO738 := n0_
                      have BK731 := n1_
                      have BK732 := n2_
                      have HB := n3_
                      clear n0_ n1_ n2_ n3_
                      have hHeld : w12.cell? ⟨gb731, 0, none⟩ = some (.int .i64 a0_0) ∧ w12.cell? ⟨gb731, 1, none⟩ = some (.slice A0_1 l0_1.length c0_1) := hS_
                      refine norm_ (a' := ?_) ?_ ?_
                      rotate_left
                      · simp only [putAll, Act.put, List.setIfInBounds_toArray, List.set_cons_zero, List.set_cons_succ]
                        rfl
                      refine two_ (i := 4) (j := 9) (Ni := some 11) (Nj := some 6) #[true, true, true, true, true, true, true, false, false, false, false] #[true, true, true, true, false, true, true, false, false, true, false] rfl rfl rfl rfl (two_of HT_.out (by kernel_rfl)) (by decide) (by decide) (fun K hK => ?_) (fun K hK => ?_)
                      · skip
                        refine goes_ Tryd.func94 (by kernel_rfl) rfl #[.slice A0_1 l0_1.length c0_1] (by rfl) rfl rfl (by (try simp only [List.map_toArray, List.map_cons, List.map_nil]); first | done | rfl | (simp only [List.length_drop, List.length_take]; rfl)) ?_
                        with_reducible refine (slices_Clone_int_int.calls _ _ l0_1 t733 _ ?side1 ?side2 A3.out).mono ?_
                        (case side1 => exact cc HR0_1 HB)
                        (case side2 => exact HC0_1.out)
                        rintro e w13 ⟨v734, rfl, ho0, hb⟩
                        refine ⟨_, rfl, ?_⟩
                        have HO735 := Aside0.mk (Kd.R_lower (Kd.R_new' ho0 (rt HO738)) (below_size (bb HB)))
                        replace HO738 := ke HO738 ho0 hb
                        replace BK731 := kb BK731 hb
                        replace BK732 := kb BK732 hb
                        replace HB := hs_ HB hb
                        (try clear hb)
                        (try clear hb2)
                        (try clear hk)
                        (try clear hi)
                        (try clear ho0)
                        refine hK.out _ _ ⟨(blk_cell BK731.out 0).trans rfl, (blk_cell BK731.out 1).trans rfl⟩ (fun hHeld => ?_)
                        clear hK K
                        refine norm_ (a' := ?_) ?_ ?_
                        rotate_left
                        · show Act.put _ (some 11) _ = _
                          simp only [Act.put, List.setIfInBounds_toArray, List.set_cons_zero, List.set_cons_succ, i64_w, i32_w]
                          rfl
                        exact norm_ (by first | (simp only [putAll, Act.put, List.setIfInBounds_toArray, List.set_cons_zero, List.set_cons_succ]; done) | (simp only [putAll, Act.put, List.setIfInBounds_toArray, List.set_cons_zero, List.set_cons_succ]; rfl)) (hJ4_6 (v734, v737) _ ⟨hHeld, (ro HO735 (fun _ hk => hk.2)), (ro HO738 (fun _ hk => hk.2)), (bk BK731), (bk BK732), (bb HB)⟩)
                      · skip
                        refine box_step ?hg (N := 6) ?hd (cs := #[.int .i64 0, .slice none 0 0]) (t := 66) ?hr ?_; (case hd => rfl); (case hg => rfl); (case hr => first | (go_simp; done) | (go_simp; rfl))
                        intro gb742 hg w13 hbox hb
                        replace HO738 := kr HO738 hb
                        have BK742 := Aside0.mk (hbox)
                        have GW742 := gs hg HB
                        have GE742 := gs hg HB
                        replace HB := hs_ HB hb
                        have NB731_742 := gn hg BK731
                        have NB742_731 := gm hg BK731
                        replace BK731 := kb BK731 hb
                        have NB732_742 := gn hg BK732
                        have NB742_732 := gm hg BK732
                        replace BK732 := kb BK732 hb
                        clear hb hbox hg
                        refine hK.out _ _ ⟨(blk_cell BK731.out 0).trans rfl, (blk_cell BK731.out 1).trans rfl⟩ (fun hHeld => ?_)
                        clear hK K
                        refine norm_ (a' := ?_) ?_ ?_
                        rotate_left
                        · show Act.put _ (some 6) _ = _
                          simp only [Act.put, List.setIfInBounds_toArray, List.set_cons_zero, List.set_cons_succ, i64_w, i32_w]
                          rfl
                        exact norm_ (by first | (simp only [putAll, Act.put, List.setIfInBounds_toArray, List.set_cons_zero, List.set_cons_succ]; done) | (simp only [putAll, Act.put, List.setIfInBounds_toArray, List.set_cons_zero, List.set_cons_succ]; rfl)) (hJ6_9 (v737, gb742) _ ⟨hHeld, (rr HO738), (bk BK731), (bk BK732), (bk BK742), GW742.out, GE742.out, NB731_742.out, NB742_731.out, NB732_742.out, NB742_732.out, (bb HB)⟩)
                  · skip
                    rintro v734 w11 ⟨hS_, h0_, h1_, h2_, h3_⟩
                    have n0_ : Aside0 (Kd.R (Kd.int .i64) 3 w11 w.heap.size (fun _ => True) v734 t733) := ⟨h0_⟩
                    have n1_ : Aside0 (w11.heap[gb731]? = some (.cells #[.int .i64 a0_0, .slice A0_1 l0_1.length c0_1] 66 (0, 0))) := ⟨h1_⟩
                    have n2_ : Aside0 (w11.heap[gb732]? = some (.cells #[.int .i64 0, .slice none 0 0] 66 (0, 0))) := ⟨h2_⟩
                    have n3_ : Aside0 (Below w.heap.size w w11) := ⟨h3_⟩
                    clear BK731 BK732 HB h0_ h1_ h2_ h3_
                    have HO735 := n0_
                    have BK731 := n1_
                    have BK732 := n2_
                    have HB := n3_
                    clear n0_ n1_ n2_ n3_
                    have hHeld : w11.cell? ⟨gb731, 0, none⟩ = some (.int .i64 a0_0) ∧ w11.cell? ⟨gb731, 1, none⟩ = some (.slice A0_1 l0_1.length c0_1) := hS_
                    refine norm_ (a' := ?_) ?_ ?_
                    rotate_left
                    · simp only [putAll, Act.put, List.setIfInBounds_toArray, List.set_cons_zero, List.set_cons_succ]
                      rfl
                    refine two_ (i := 6) (j := 9) (Ni := some 13) (Nj := some 6) #[true, true, true, true, true, true, true, false, false, false, false] #[true, true, true, true, true, true, false, false, false, true, false] rfl rfl rfl rfl (two_of HT_.out (by kernel_rfl)) (by decide) (by decide) (fun K hK => ?_) (fun K hK => ?_)
                    · skip
                      refine Kd.R_lit_step (Kd.int .i64) _ 3 ?hg (N := 13) ?hd (xs := ([a1] : List Int)) (inner := [.int .i64 a1]) (ok := fun _ => True) (okp := fun _ => True) ?hr ?hp (fun _ hk => hk) trivial (Below.refl _ _) (Nat.le_refl _) (by simp) ?_; (case hd => rfl); (case hg => rfl); (case hr => first | (go_simp; done) | (go_simp; rfl)); (case hp => exact (Reps.one (show Kd.M (Kd.int .i64) _ _ _ a1 [.int .i64 a1] from rfl) (Reps.none _ _)))
                      intro v737 w12 ho13 hb hg_ hnew_
                      clear hg_ hnew_
                      (first | rw [← Ny736.out] at ho13 | (simp only [Int.reduceToNat] at ho13; rw [← Ny736.out] at ho13))
                      have HO738 := Aside0.mk (Kd.R_lower (Kd.R_new' ho13 (rt HO735)) (below_size (bb HB)))
                      replace HO735 := ke HO735 ho13 hb
                      replace BK731 := kb BK731 hb
                      replace BK732 := kb BK732 hb
                      replace HB := hs_ HB hb
                      clear hb ho13
                      refine hK.out _ _ ⟨(blk_cell BK731.out 0).trans rfl, (blk_cell BK731.out 1).trans rfl⟩ (fun hHeld => ?_)
                      clear hK K
                      refine norm_ (a' := ?_) ?_ ?_
                      rotate_left
                      · show Act.put _ (some 13) _ = _
                        simp only [Act.put, List.setIfInBounds_toArray, List.set_cons_zero, List.set_cons_succ, i64_w, i32_w]
                        rfl
                      exact norm_ (by first | (simp only [putAll, Act.put, List.setIfInBounds_toArray, List.set_cons_zero, List.set_cons_succ]; done) | (simp only [putAll, Act.put, List.setIfInBounds_toArray, List.set_cons_zero, List.set_cons_succ]; rfl)) (hJ4_6 (v734, v737) _ ⟨hHeld, (ro HO735 (fun _ hk => hk.2)), (ro HO738 (fun _ hk => hk.2)), (bk BK731), (bk BK732), (bb HB)⟩)
                    · skip
                      refine box_step ?hg (N := 6) ?hd (cs := #[.int .i64 0, .slice none 0 0]) (t := 66) ?hr ?_; (case hd => rfl); (case hg => rfl); (case hr => first | (go_simp; done) | (go_simp; rfl))
                      intro gb742 hg w12 hbox hb
                      replace HO735 := kr HO735 hb
                      have BK742 := Aside0.mk (hbox)
                      have GW742 := gs hg HB
                      have GE742 := gs hg HB
                      replace HB := hs_ HB hb
                      have NB731_742 := gn hg BK731
                      have NB742_731 := gm hg BK731
                      replace BK731 := kb BK731 hb
                      have NB732_742 := gn hg BK732
                      have NB742_732 := gm hg BK732
                      replace BK732 := kb BK732 hb
                      clear hb hbox hg
                      refine hK.out _ _ ⟨(blk_cell BK731.out 0).trans rfl, (blk_cell BK731.out 1).trans rfl⟩ (fun hHeld => ?_)
                      clear hK K
                      refine norm_ (a' := ?_) ?_ ?_
                      rotate_left
                      · show Act.put _ (some 6) _ = _
                        simp only [Act.put, List.setIfInBounds_toArray, List.set_cons_zero, List.set_cons_succ, i64_w, i32_w]
                        rfl
                      exact norm_ (by first | (simp only [putAll, Act.put, List.setIfInBounds_toArray, List.set_cons_zero, List.set_cons_succ]; done) | (simp only [putAll, Act.put, List.setIfInBounds_toArray, List.set_cons_zero, List.set_cons_succ]; rfl)) (hJ4_9 (v734, gb742) _ ⟨hHeld, (rr HO735), (bk BK731), (bk BK732), (bk BK742), GW742.out, GE742.out, NB731_742.out, NB742_731.out, NB732_742.out, NB742_732.out, (bb HB)⟩)
                · skip
                  rintro ⟨v737, gb742⟩ w13 ⟨hS_, h0_, h1_, h2_, h3_, h4_, h5_, h6_, h7_, h8_, h9_, h10_⟩
                  have n0_ : Aside0 (Kd.R (Kd.int .i64) 3 w13 w.heap.size (fun _ => True) v737 y736) := ⟨h0_⟩
                  have n1_ : Aside0 (w13.heap[gb731]? = some (.cells #[.int .i64 a0_0, .slice A0_1 l0_1.length c0_1] 66 (0, 0))) := ⟨h1_⟩
                  have n2_ : Aside0 (w13.heap[gb732]? = some (.cells #[.int .i64 0, .slice none 0 0] 66 (0, 0))) := ⟨h2_⟩
                  have n3_ : Aside0 (w13.heap[gb742]? = some (.cells #[.int .i64 0, .slice none 0 0] 66 (0, 0))) := ⟨h3_⟩
                  have n4_ : Aside0 (w.heap.size ≤ gb742) := ⟨h4_⟩
                  have n5_ : Aside0 (w.heap.size ≤ gb742) := ⟨h5_⟩
                  have n6_ : Aside0 (gb731 ≠ gb742) := ⟨h6_⟩
                  have n7_ : Aside0 (gb742 ≠ gb731) := ⟨h7_⟩
                  have n8_ : Aside0 (gb732 ≠ gb742) := ⟨h8_⟩
                  have n9_ : Aside0 (gb742 ≠ gb732) := ⟨h9_⟩
                  have n10_ : Aside0 (Below w.heap.size w w13) := ⟨h10_⟩
                  clear BK731 BK732 HB h0_ h1_ h2_ h3_ h4_ h5_ h6_ h7_ h8_ h9_ h10_
                  have HO738 := n0_
                  have BK731 := n1_
                  have BK732 := n2_
                  have BK742 := n3_
                  have GW742 := n4_
                  have GE742 := n5_
                  have NB731_742 := n6_
                  have NB742_731 := n7_
                  have NB732_742 := n8_
                  have NB742_732 := n9_
                  have HB := n10_
                  clear n0_ n1_ n2_ n3_ n4_ n5_ n6_ n7_ n8_ n9_ n10_
                  have hHeld : w13.cell? ⟨gb731, 0, none⟩ = some (.int .i64 a0_0) ∧ w13.cell? ⟨gb731, 1, none⟩ = some (.slice A0_1 l0_1.length c0_1) := hS_
                  refine norm_ (a' := ?_) ?_ ?_
                  rotate_left
                  · simp only [putAll, Act.put, List.setIfInBounds_toArray, List.set_cons_zero, List.set_cons_succ]
                    rfl
                  refine one_ (i := 4) (N := some 11) #[true, true, true, true, true, true, true, false, false, true, false] rfl rfl (one_of HT_.out (by kernel_rfl)) (by decide) (fun K hK => ?_)
                  refine goes_ Tryd.func94 (by kernel_rfl) rfl #[.slice A0_1 l0_1.length c0_1] (by rfl) rfl rfl (by (try simp only [List.map_toArray, List.map_cons, List.map_nil]); first | done | rfl | (simp only [List.length_drop, List.length_take]; rfl)) ?_
                  with_reducible refine (slices_Clone_int_int.calls _ _ l0_1 t733 _ ?side1 ?side2 A3.out).mono ?_
                  (case side1 => exact cc HR0_1 HB)
                  (case side2 => exact HC0_1.out)
                  rintro e w14 ⟨v734, rfl, ho0, hb⟩
                  refine ⟨_, rfl, ?_⟩
                  have HO735 := Aside0.mk (Kd.R_lower (Kd.R_new' ho0 (rt HO738)) (below_size (bb HB)))
                  replace HO738 := ke HO738 ho0 hb
                  replace BK731 := kb BK731 hb
                  replace BK732 := kb BK732 hb
                  replace BK742 := kb BK742 hb
                  replace HB := hs_ HB hb
                  (try clear hb)
                  (try clear hb2)
                  (try clear hk)
                  (try clear hi)
                  (try clear ho0)
                  refine hK.out _ _ ⟨(blk_cell BK731.out 0).trans rfl, (blk_cell BK731.out 1).trans rfl⟩ (fun hHeld => ?_)
                  clear hK K
                  refine norm_ (a' := ?_) ?_ ?_
                  rotate_left
                  · show Act.put _ (some 11) _ = _
                    simp only [Act.put, List.setIfInBounds_toArray, List.set_cons_zero, List.set_cons_succ, i64_w, i32_w]
                    rfl
                  exact norm_ (by first | (simp only [putAll, Act.put, List.setIfInBounds_toArray, List.set_cons_zero, List.set_cons_succ]; done) | (simp only [putAll, Act.put, List.setIfInBounds_toArray, List.set_cons_zero, List.set_cons_succ]; rfl)) (hJ4_6_9 (v734, v737, gb742) _ ⟨hHeld, (ro HO735 (fun _ hk => hk.2)), (ro HO738 (fun _ hk => hk.2)), (bk BK731), (bk BK732), (bk BK742), GW742.out, GE742.out, NB731_742.out, NB742_731.out, NB732_742.out, NB742_732.out, (bb HB)⟩)
              · skip
                rintro ⟨v734, gb742⟩ w12 ⟨hS_, h0_, h1_, h2_, h3_, h4_, h5_, h6_, h7_, h8_, h9_, h10_⟩
                have n0_ : Aside0 (Kd.R (Kd.int .i64) 3 w12 w.heap.size (fun _ => True) v734 t733) := ⟨h0_⟩
                have n1_ : Aside0 (w12.heap[gb731]? = some (.cells #[.int .i64 a0_0, .slice A0_1 l0_1.length c0_1] 66 (0, 0))) := ⟨h1_⟩
                have n2_ : Aside0 (w12.heap[gb732]? = some (.cells #[.int .i64 0, .slice none 0 0] 66 (0, 0))) := ⟨h2_⟩
                have n3_ : Aside0 (w12.heap[gb742]? = some (.cells #[.int .i64 0, .slice none 0 0] 66 (0, 0))) := ⟨h3_⟩
                have n4_ : Aside0 (w.heap.size ≤ gb742) := ⟨h4_⟩
                have n5_ : Aside0 (w.heap.size ≤ gb742) := ⟨h5_⟩
                have n6_ : Aside0 (gb731 ≠ gb742) := ⟨h6_⟩
                have n7_ : Aside0 (gb742 ≠ gb731) := ⟨h7_⟩
                have n8_ : Aside0 (gb732 ≠ gb742) := ⟨h8_⟩
                have n9_ : Aside0 (gb742 ≠ gb732) := ⟨h9_⟩
                have n10_ : Aside0 (Below w.heap.size w w12) := ⟨h10_⟩
                clear BK731 BK732 HB h0_ h1_ h2_ h3_ h4_ h5_ h6_ h7_ h8_ h9_ h10_
                have HO735 := n0_
                have BK731 := n1_
                have BK732 := n2_
                have BK742 := n3_
                have GW742 := n4_
                have GE742 := n5_
                have NB731_742 := n6_
                have NB742_731 := n7_
                have NB732_742 := n8_
                have NB742_732 := n9_
                have HB := n10_
                clear n0_ n1_ n2_ n3_ n4_ n5_ n6_ n7_ n8_ n9_ n10_
                have hHeld : w12.cell? ⟨gb731, 0, none⟩ = some (.int .i64 a0_0) ∧ w12.cell? ⟨gb731, 1, none⟩ = some (.slice A0_1 l0_1.length c0_1) := hS_
                refine norm_ (a' := ?_) ?_ ?_
                rotate_left
                · simp only [putAll, Act.put, List.setIfInBounds_toArray, List.set_cons_zero, List.set_cons_succ]
                  rfl
                refine one_ (i := 6) (N := some 13) #[true, true, true, true, true, true, true, false, false, true, false] rfl rfl (one_of HT_.out (by kernel_rfl)) (by decide) (fun K hK => ?_)
                refine Kd.R_lit_step (Kd.int .i64) _ 3 ?hg (N := 13) ?hd (xs := ([a1] : List Int)) (inner := [.int .i64 a1]) (ok := fun _ => True) (okp := fun _ => True) ?hr ?hp (fun _ hk => hk) trivial (Below.refl _ _) (Nat.le_refl _) (by simp) ?_; (case hd => rfl); (case hg => rfl); (case hr => first | (go_simp; done) | (go_simp; rfl)); (case hp => exact (Reps.one (show Kd.M (Kd.int .i64) _ _ _ a1 [.int .i64 a1] from rfl) (Reps.none _ _)))
                intro v737 w13 ho14 hb hg_ hnew_
                clear hg_ hnew_
                (first | rw [← Ny736.out] at ho14 | (simp only [Int.reduceToNat] at ho14; rw [← Ny736.out] at ho14))
                have HO738 := Aside0.mk (Kd.R_lower (Kd.R_new' ho14 (rt HO735)) (below_size (bb HB)))
                replace HO735 := ke HO735 ho14 hb
                replace BK731 := kb BK731 hb
                replace BK732 := kb BK732 hb
                replace BK742 := kb BK742 hb
                replace HB := hs_ HB hb
                clear hb ho14
                refine hK.out _ _ ⟨(blk_cell BK731.out 0).trans rfl, (blk_cell BK731.out 1).trans rfl⟩ (fun hHeld => ?_)
                clear hK K
                refine norm_ (a' := ?_) ?_ ?_
                rotate_left
                · show Act.put _ (some 13) _ = _
                  simp only [Act.put, List.setIfInBounds_toArray, List.set_cons_zero, List.set_cons_succ, i64_w, i32_w]
                  rfl
                exact norm_ (by first | (simp only [putAll, Act.put, List.setIfInBounds_toArray, List.set_cons_zero, List.set_cons_succ]; done) | (simp only [putAll, Act.put, List.setIfInBounds_toArray, List.set_cons_zero, List.set_cons_succ]; rfl)) (hJ4_6_9 (v734, v737, gb742) _ ⟨hHeld, (ro HO735 (fun _ hk => hk.2)), (ro HO738 (fun _ hk => hk.2)), (bk BK731), (bk BK732), (bk BK742), GW742.out, GE742.out, NB731_742.out, NB742_731.out, NB732_742.out, NB742_732.out, (bb HB)⟩)
            · skip
              rintro ⟨v734, v737⟩ w13 ⟨hS_, h0_, h1_, h2_, h3_, h4_⟩
              have n0_ : Aside0 (Kd.R (Kd.int .i64) 3 w13 w.heap.size (fun k_ => some k_ ≠ (v737 : Value).ownBlock) v734 t733) := ⟨h0_⟩
              have n1_ : Aside0 (Kd.R (Kd.int .i64) 3 w13 w.heap.size (fun k_ => some k_ ≠ (v734 : Value).ownBlock) v737 y736) := ⟨h1_⟩
              have n2_ : Aside0 (w13.heap[gb731]? = some (.cells #[.int .i64 a0_0, .slice A0_1 l0_1.length c0_1] 66 (0, 0))) := ⟨h2_⟩
              have n3_ : Aside0 (w13.heap[gb732]? = some (.cells #[.int .i64 0, .slice none 0 0] 66 (0, 0))) := ⟨h3_⟩
              have n4_ : Aside0 (Below w.heap.size w w13) := ⟨h4_⟩
              clear BK731 BK732 HB h0_ h1_ h2_ h3_ h4_
              have HO735 := n0_
              have HO738 := n1_
              have BK731 := n2_
              have BK732 := n3_
              have HB := n4_
              clear n0_ n1_ n2_ n3_ n4_
              have hHeld : w13.cell? ⟨gb731, 0, none⟩ = some (.int .i64 a0_0) ∧ w13.cell? ⟨gb731, 1, none⟩ = some (.slice A0_1 l0_1.length c0_1) := hS_
              obtain ⟨Ao15, co15, eo15⟩ := Kd.R_slice HO738.out
              (first | subst eo15 | (injection eo15 with f1_ f2_ f3_; have f4_ := f1_.symm; have f5_ := f3_.symm; clear f1_ f2_ f3_; subst f4_; subst f5_))
              refine norm_ (a' := ?_) ?_ ?_
              rotate_left
              · simp only [putAll, Act.put, List.setIfInBounds_toArray, List.set_cons_zero, List.set_cons_succ]
                rfl
              refine two_ (i := 7) (j := 9) (Ni := some 14) (Nj := some 6) #[true, true, true, true, true, true, true, true, false, false, false] #[true, true, true, true, true, true, true, false, false, true, false] rfl rfl rfl rfl (two_of HT_.out (by kernel_rfl)) (by decide) (by decide) (fun K hK => ?_) (fun K hK => ?_)
              · skip
                refine Kd.R_append_rows_step (Kd.int .i64) (w0 := w) w.heap.size (by rfl) (.tmp 11) (.tmp 13) 42 3 (.int .i64 0) 8 rfl Tryd.underlying42 info3 rfl (by decide) (by omega) v734 t733 y736 _ _ _ (fun k_ => some k_ ≠ (.slice Ao15 y736.length co15 : Value).ownBlock) (fun _ => False) rfl rfl ?aO ?aR (fun _ _ h => h) (fun _ h => h.elim) ?aF ?aB ?aS ?aL ?_
                (case aR => exact cr HO738)
                (case aB => exact (bb HB))
                (case aF => exact (fun k_ hk => Kd.fresh' (Kd.R_lt (rr HO738)) k_ hk))
                (case aO => exact (rr HO735))
                (case aS => exact (below_size (bb HB)))
                (case aL => have := LMc4.out; omega)
                intro v740 w14 ho hb hg hat
                rw [← Ny739.out] at ho
                replace BK731 := Aside0.mk (blk_grown (g := gb731) (o := .cells #[.int .i64 a0_0, .slice A0_1 l0_1.length c0_1] 66 (0, 0)) (bk BK731) hg (Kd.R_ne HO735.out BK731.out (by decide)))
                replace BK732 := Aside0.mk (blk_grown (g := gb732) (o := .cells #[.int .i64 0, .slice none 0 0] 66 (0, 0)) (bk BK732) hg (Kd.R_ne HO735.out BK732.out (by decide)))
                replace HO738 := Aside0.mk (Kd.R_after (ok := (fun _ => True)) (ro HO738 (fun _ hk => ⟨trivial, hk⟩)) hg hat)
                replace HB := Aside0.mk (hb)
                have HO741 := Aside0.mk (ho)
                clear HO735 ho hb hg hat
                obtain ⟨Ao16, co16, eo16⟩ := Kd.R_slice HO741.out
                (first | subst eo16 | (injection eo16 with f1_ f2_ f3_; have f4_ := f1_.symm; have f5_ := f3_.symm; clear f1_ f2_ f3_; subst f4_; subst f5_))
                refine hK.out _ _ ⟨(blk_cell BK731.out 0).trans rfl, (blk_cell BK731.out 1).trans rfl⟩ (fun hHeld => ?_)
                clear hK K
                refine norm_ (a' := ?_) ?_ ?_
                rotate_left
                · show Act.put _ (some 14) _ = _
                  simp only [Act.put, List.setIfInBounds_toArray, List.set_cons_zero, List.set_cons_succ, i64_w, i32_w]
                  rfl
                refine pure_ (i := 8) (N := some 15) (v := ?_) (a' := ?_) #[true, true, true, true, true, true, true, true, true, false, false] rfl rfl (any_of HT_.out (by kernel_rfl)) (fun _ _ _ h => h) (Or.inl ⟨by rfl, ?_⟩) ?_ ?_
                rotate_left
                · intro w'
                  go_simp
                  with_reducible rfl
                rotate_left
                · simp only [Act.put, List.setIfInBounds_toArray, List.set_cons_zero, List.set_cons_succ, i64_w, i32_w]
                  rfl
                exact norm_ (by first | (simp only [putAll, Act.put, List.setIfInBounds_toArray, List.set_cons_zero, List.set_cons_succ]; done) | (simp only [putAll, Act.put, List.setIfInBounds_toArray, List.set_cons_zero, List.set_cons_succ]; rfl)) (hJ4_6_7 (v734, .slice Ao15 y736.length co15, .slice Ao16 y739.length co16) _ ⟨hHeld, (ro HO738 (fun _ hk => hk.2)), (rr HO741), (bk BK731), (bk BK732), (bb HB)⟩)
              · skip
                refine box_step ?hg (N := 6) ?hd (cs := #[.int .i64 0, .slice none 0 0]) (t := 66) ?hr ?_; (case hd => rfl); (case hg => rfl); (case hr => first | (go_simp; done) | (go_simp; rfl))
                intro gb742 hg w14 hbox hb
                replace HO735 := kr HO735 hb
                replace HO738 := kr HO738 hb
                have BK742 := Aside0.mk (hbox)
                have GW742 := gs hg HB
                have GE742 := gs hg HB
                replace HB := hs_ HB hb
                have NB731_742 := gn hg BK731
                have NB742_731 := gm hg BK731
                replace BK731 := kb BK731 hb
                have NB732_742 := gn hg BK732
                have NB742_732 := gm hg BK732
                replace BK732 := kb BK732 hb
                clear hb hbox hg
                refine hK.out _ _ ⟨(blk_cell BK731.out 0).trans rfl, (blk_cell BK731.out 1).trans rfl⟩ (fun hHeld => ?_)
                clear hK K
                refine norm_ (a' := ?_) ?_ ?_
                rotate_left
                · show Act.put _ (some 6) _ = _
                  simp only [Act.put, List.setIfInBounds_toArray, List.set_cons_zero, List.set_cons_succ, i64_w, i32_w]
                  rfl
                exact norm_ (by first | (simp only [putAll, Act.put, List.setIfInBounds_toArray, List.set_cons_zero, List.set_cons_succ]; done) | (simp only [putAll, Act.put, List.setIfInBounds_toArray, List.set_cons_zero, List.set_cons_succ]; rfl)) (hJ4_6_9 (v734, (.slice Ao15 y736.length co15), gb742) _ ⟨hHeld, (rr HO735), (rr HO738), (bk BK731), (bk BK732), (bk BK742), GW742.out, GE742.out, NB731_742.out, NB742_731.out, NB732_742.out, NB742_732.out, (bb HB)⟩)
          · skip
            rintro ⟨v734, v737, gb742⟩ w14 ⟨hS_, h0_, h1_, h2_, h3_, h4_, h5_, h6_, h7_, h8_, h9_, h10_, h11_⟩
            have n0_ : Aside0 (Kd.R (Kd.int .i64) 3 w14 w.heap.size (fun k_ => some k_ ≠ (v737 : Value).ownBlock) v734 t733) := ⟨h0_⟩
            have n1_ : Aside0 (Kd.R (Kd.int .i64) 3 w14 w.heap.size (fun k_ => some k_ ≠ (v734 : Value).ownBlock) v737 y736) := ⟨h1_⟩
            have n2_ : Aside0 (w14.heap[gb731]? = some (.cells #[.int .i64 a0_0, .slice A0_1 l0_1.length c0_1] 66 (0, 0))) := ⟨h2_⟩
            have n3_ : Aside0 (w14.heap[gb732]? = some (.cells #[.int .i64 0, .slice none 0 0] 66 (0, 0))) := ⟨h3_⟩
            have n4_ : Aside0 (w14.heap[gb742]? = some (.cells #[.int .i64 0, .slice none 0 0] 66 (0, 0))) := ⟨h4_⟩
            have n5_ : Aside0 (w.heap.size ≤ gb742) := ⟨h5_⟩
            have n6_ : Aside0 (w.heap.size ≤ gb742) := ⟨h6_⟩
            have n7_ : Aside0 (gb731 ≠ gb742) := ⟨h7_⟩
            have n8_ : Aside0 (gb742 ≠ gb731) := ⟨h8_⟩
            have n9_ : Aside0 (gb732 ≠ gb742) := ⟨h9_⟩
            have n10_ : Aside0 (gb742 ≠ gb732) := ⟨h10_⟩
            have n11_ : Aside0 (Below w.heap.size w w14) := ⟨h11_⟩
            clear BK731 BK732 HB h0_ h1_ h2_ h3_ h4_ h5_ h6_ h7_ h8_ h9_ h10_ h11_
            have HO735 := n0_
            have HO738 := n1_
            have BK731 := n2_
            have BK732 := n3_
            have BK742 := n4_
            have GW742 := n5_
            have GE742 := n6_
            have NB731_742 := n7_
            have NB742_731 := n8_
            have NB732_742 := n9_
            have NB742_732 := n10_
            have HB := n11_
            clear n0_ n1_ n2_ n3_ n4_ n5_ n6_ n7_ n8_ n9_ n10_ n11_
            have hHeld : w14.cell? ⟨gb731, 0, none⟩ = some (.int .i64 a0_0) ∧ w14.cell? ⟨gb731, 1, none⟩ = some (.slice A0_1 l0_1.length c0_1) := hS_
            obtain ⟨Ao16, co16, eo16⟩ := Kd.R_slice HO738.out
            (first | subst eo16 | (injection eo16 with f1_ f2_ f3_; have f4_ := f1_.symm; have f5_ := f3_.symm; clear f1_ f2_ f3_; subst f4_; subst f5_))
            refine norm_ (a' := ?_) ?_ ?_
            rotate_left
            · simp only [putAll, Act.put, List.setIfInBounds_toArray, List.set_cons_zero, List.set_cons_succ]
              rfl
            refine one_ (i := 7) (N := some 14) #[true, true, true, true, true, true, true, true, false, true, false] rfl rfl (one_of HT_.out (by kernel_rfl)) (by decide) (fun K hK => ?_)
            refine Kd.R_append_rows_step (Kd.int .i64) (w0 := w) w.heap.size (by rfl) (.tmp 11) (.tmp 13) 42 3 (.int .i64 0) 8 rfl Tryd.underlying42 info3 rfl (by decide) (by omega) v734 t733 y736 _ _ _ (fun k_ => some k_ ≠ (.slice Ao16 y736.length co16 : Value).ownBlock) (fun _ => False) rfl rfl ?aO ?aR (fun _ _ h => h) (fun _ h => h.elim) ?aF ?aB ?aS ?aL ?_
            (case aR => exact cr HO738)
            (case aB => exact (bb HB))
            (case aF => exact (fun k_ hk => Kd.fresh' (Kd.R_lt (rr HO738)) k_ hk))
            (case aO => exact (rr HO735))
            (case aS => exact (below_size (bb HB)))
            (case aL => have := LMc4.out; omega)
            intro v740 w15 ho hb hg hat
            rw [← Ny739.out] at ho
            replace BK731 := Aside0.mk (blk_grown (g := gb731) (o := .cells #[.int .i64 a0_0, .slice A0_1 l0_1.length c0_1] 66 (0, 0)) (bk BK731) hg (Kd.R_ne HO735.out BK731.out (by decide)))
            replace BK732 := Aside0.mk (blk_grown (g := gb732) (o := .cells #[.int .i64 0, .slice none 0 0] 66 (0, 0)) (bk BK732) hg (Kd.R_ne HO735.out BK732.out (by decide)))
            replace HO738 := Aside0.mk (Kd.R_after (ok := (fun _ => True)) (ro HO738 (fun _ hk => ⟨trivial, hk⟩)) hg hat)
            replace BK742 := Aside0.mk (blk_grown (g := gb742) (o := .cells #[.int .i64 0, .slice none 0 0] 66 (0, 0)) (bk BK742) hg (Kd.R_ne HO735.out BK742.out (by decide)))
            replace HB := Aside0.mk (hb)
            have HO741 := Aside0.mk (ho)
            clear HO735 ho hb hg hat
            obtain ⟨Ao17, co17, eo17⟩ := Kd.R_slice HO741.out
            (first | subst eo17 | (injection eo17 with f1_ f2_ f3_; have f4_ := f1_.symm; have f5_ := f3_.symm; clear f1_ f2_ f3_; subst f4_; subst f5_))
            refine hK.out _ _ ⟨(blk_cell BK731.out 0).trans rfl, (blk_cell BK731.out 1).trans rfl⟩ (fun hHeld => ?_)
            clear hK K
            refine norm_ (a' := ?_) ?_ ?_
            rotate_left
            · show Act.put _ (some 14) _ = _
              simp only [Act.put, List.setIfInBounds_toArray, List.set_cons_zero, List.set_cons_succ, i64_w, i32_w]
              rfl
            refine pure_ (i := 8) (N := some 15) (v := ?_) (a' := ?_) #[true, true, true, true, true, true, true, true, true, true, false] rfl rfl (any_of HT_.out (by kernel_rfl)) (fun _ _ _ h => h) (Or.inl ⟨by rfl, ?_⟩) ?_ ?_
            rotate_left
            · intro w'
              go_simp
              with_reducible rfl
            rotate_left
            · simp only [Act.put, List.setIfInBounds_toArray, List.set_cons_zero, List.set_cons_succ, i64_w, i32_w]
              rfl
            exact norm_ (by first | (simp only [putAll, Act.put, List.setIfInBounds_toArray, List.set_cons_zero, List.set_cons_succ]; done) | (simp only [putAll, Act.put, List.setIfInBounds_toArray, List.set_cons_zero, List.set_cons_succ]; rfl)) (hJ4_6_7_9 (v734, .slice Ao16 y736.length co16, .slice Ao17 y739.length co17, gb742) _ ⟨hHeld, (ro HO738 (fun _ hk => hk.2)), (rr HO741), (bk BK731), (bk BK732), (bk BK742), GW742.out, GE742.out, NB731_742.out, NB742_731.out, NB732_742.out, NB742_732.out, (bb HB)⟩)
        · skip
          rintro ⟨v734, v737, v740⟩ w16 ⟨hS_, h0_, h1_, h2_, h3_, h4_⟩
          have n0_ : Aside0 (Kd.R (Kd.int .i64) 3 w16 w.heap.size (fun k_ => some k_ ≠ (v740 : Value).ownBlock) v737 y736) := ⟨h0_⟩
          have n1_ : Aside0 (Kd.R (Kd.int .i64) 3 w16 w.heap.size (fun k_ => some k_ ≠ (v737 : Value).ownBlock) v740 y739) := ⟨h1_⟩
          have n2_ : Aside0 (w16.heap[gb731]? = some (.cells #[.int .i64 a0_0, .slice A0_1 l0_1.length c0_1] 66 (0, 0))) := ⟨h2_⟩
          have n3_ : Aside0 (w16.heap[gb732]? = some (.cells #[.int .i64 0, .slice none 0 0] 66 (0, 0))) := ⟨h3_⟩
          have n4_ : Aside0 (Below w.heap.size w w16) := ⟨h4_⟩
          clear BK731 BK732 HB h0_ h1_ h2_ h3_ h4_
          have HO738 := n0_
          have HO741 := n1_
          have BK731 := n2_
          have BK732 := n3_
          have HB := n4_
          clear n0_ n1_ n2_ n3_ n4_
          have hHeld : w16.cell? ⟨gb731, 0, none⟩ = some (.int .i64 a0_0) ∧ w16.cell? ⟨gb731, 1, none⟩ = some (.slice A0_1 l0_1.length c0_1) := hS_
          obtain ⟨Ao17, co17, eo17⟩ := Kd.R_slice HO741.out
          (first | subst eo17 | (injection eo17 with f1_ f2_ f3_; have f4_ := f1_.symm; have f5_ := f3_.symm; clear f1_ f2_ f3_; subst f4_; subst f5_))
          refine norm_ (a' := ?_) ?_ ?_
          rotate_left
          · simp only [putAll, Act.put, List.setIfInBounds_toArray, List.set_cons_zero, List.set_cons_succ]
            rfl
          refine one_ (i := 9) (N := some 6) #[true, true, true, true, true, true, true, true, true, true, false] rfl rfl (one_of HT_.out (by kernel_rfl)) (by decide) (fun K hK => ?_)
          refine box_step ?hg (N := 6) ?hd (cs := #[.int .i64 0, .slice none 0 0]) (t := 66) ?hr ?_; (case hd => rfl); (case hg => rfl); (case hr => first | (go_simp; done) | (go_simp; rfl))
          intro gb742 hg w18 hbox hb
          replace HO738 := kr HO738 hb
          replace HO741 := kr HO741 hb
          have BK742 := Aside0.mk (hbox)
          have GW742 := gs hg HB
          have GE742 := gs hg HB
          replace HB := hs_ HB hb
          have NB731_742 := gn hg BK731
          have NB742_731 := gm hg BK731
          replace BK731 := kb BK731 hb
          have NB732_742 := gn hg BK732
          have NB742_732 := gm hg BK732
          replace BK732 := kb BK732 hb
          clear hb hbox hg
          refine hK.out _ _ ⟨(blk_cell BK731.out 0).trans rfl, (blk_cell BK731.out 1).trans rfl⟩ (fun hHeld => ?_)
          clear hK K
          refine norm_ (a' := ?_) ?_ ?_
          rotate_left
          · show Act.put _ (some 6) _ = _
            simp only [Act.put, List.setIfInBounds_toArray, List.set_cons_zero, List.set_cons_succ, i64_w, i32_w]
            rfl
          exact norm_ (by first | (simp only [putAll, Act.put, List.setIfInBounds_toArray, List.set_cons_zero, List.set_cons_succ]; done) | (simp only [putAll, Act.put, List.setIfInBounds_toArray, List.set_cons_zero, List.set_cons_succ]; rfl)) (hJ4_6_7_9 (v734, v737, .slice Ao17 y739.length co17, gb742) _ ⟨hHeld, (rr HO738), (rr HO741), (bk BK731), (bk BK732), (bk BK742), GW742.out, GE742.out, NB731_742.out, NB742_731.out, NB732_742.out, NB742_732.out, (bb HB)⟩)
      rintro ⟨v734, v737, v740, gb742⟩ w17 ⟨hS_, h0_, h1_, h2_, h3_, h4_, h5_, h6_, h7_, h8_, h9_, h10_, h11_⟩
      have n0_ : Aside0 (Kd.R (Kd.int .i64) 3 w17 w.heap.size (fun k_ => some k_ ≠ (v740 : Value).ownBlock) v737 y736) := ⟨h0_⟩
      have n1_ : Aside0 (Kd.R (Kd.int .i64) 3 w17 w.heap.size (fun k_ => some k_ ≠ (v737 : Value).ownBlock) v740 y739) := ⟨h1_⟩
      have n2_ : Aside0 (w17.heap[gb731]? = some (.cells #[.int .i64 a0_0, .slice A0_1 l0_1.length c0_1] 66 (0, 0))) := ⟨h2_⟩
      have n3_ : Aside0 (w17.heap[gb732]? = some (.cells #[.int .i64 0, .slice none 0 0] 66 (0, 0))) := ⟨h3_⟩
      have n4_ : Aside0 (w17.heap[gb742]? = some (.cells #[.int .i64 0, .slice none 0 0] 66 (0, 0))) := ⟨h4_⟩
      have n5_ : Aside0 (w.heap.size ≤ gb742) := ⟨h5_⟩
      have n6_ : Aside0 (w.heap.size ≤ gb742) := ⟨h6_⟩
      have n7_ : Aside0 (gb731 ≠ gb742) := ⟨h7_⟩
      have n8_ : Aside0 (gb742 ≠ gb731) := ⟨h8_⟩
      have n9_ : Aside0 (gb732 ≠ gb742) := ⟨h9_⟩
      have n10_ : Aside0 (gb742 ≠ gb732) := ⟨h10_⟩
      have n11_ : Aside0 (Below w.heap.size w w17) := ⟨h11_⟩
      clear BK731 BK732 HB h0_ h1_ h2_ h3_ h4_ h5_ h6_ h7_ h8_ h9_ h10_ h11_
      have HO738 := n0_
      have HO741 := n1_
      have BK731 := n2_
      have BK732 := n3_
      have BK742 := n4_
      have GW742 := n5_
      have GE742 := n6_
      have NB731_742 := n7_
      have NB742_731 := n8_
      have NB732_742 := n9_
      have NB742_732 := n10_
      have HB := n11_
      clear n0_ n1_ n2_ n3_ n4_ n5_ n6_ n7_ n8_ n9_ n10_ n11_
      have hHeld : w17.cell? ⟨gb731, 0, none⟩ = some (.int .i64 a0_0) ∧ w17.cell? ⟨gb731, 1, none⟩ = some (.slice A0_1 l0_1.length c0_1) := hS_
      obtain ⟨Ao18, co18, eo18⟩ := Kd.R_slice HO741.out
      (first | subst eo18 | (injection eo18 with f1_ f2_ f3_; have f4_ := f1_.symm; have f5_ := f3_.symm; clear f1_ f2_ f3_; subst f4_; subst f5_))
      refine norm_ (a' := ?_) ?_ ?_
      rotate_left
      · simp only [putAll, Act.put, List.setIfInBounds_toArray, List.set_cons_zero, List.set_cons_succ]
        rfl
      refine one_ (i := 10) (N := none) #[true, true, true, true, true, true, true, true, true, true, true] rfl rfl (one_of HT_.out (by kernel_rfl)) (by decide) (fun K hK => ?_)
      have hs19 : w17.cell? ⟨gb742, 0, none⟩ = some (.int .i64 0) := (blk_cell BK742.out 0).trans rfl
      have hfs19 := blk_frozen BK742.out 0
      have hns19_0 := NB731_742.out
      have hns19_1 := NB732_742.out
      have hms19_0 := NB742_731.out
      have hms19_1 := NB742_732.out
      have hs20 : w17.cell? ⟨gb742, 1, none⟩ = some (.slice none 0 0) := (blk_cell BK742.out 1).trans rfl
      have hfs20 := blk_frozen BK742.out 1
      have hns20_0 := NB731_742.out
      have hns20_1 := NB732_742.out
      have hms20_0 := NB742_731.out
      have hms20_1 := NB742_732.out
      refine skip_ (w1 := ?_) (by rfl) rfl ?_ ?_
      rotate_left
      · go_simp
        rfl
      refine hK.out _ _ ⟨((cell_far (p := ⟨gb742, _, none⟩) NB731_742.out _).trans (((cell_far (p := ⟨gb742, _, none⟩) NB731_742.out _).trans (hHeld.1)))), ((cell_far (p := ⟨gb742, _, none⟩) NB731_742.out _).trans (((cell_far (p := ⟨gb742, _, none⟩) NB731_742.out _).trans (hHeld.2))))⟩ (fun hHeld => ?_)
      clear hK K
      refine done_ (done_of HT_.out (by kernel_rfl)) ?_
      have hnb21 := NB742_731.out
      have hnc21 := NB731_742.out
      have hnb22 := NB742_732.out
      have hnc22 := NB732_742.out
      have ⟨hcz23_0, hcz23_1, hfz23_0, hfz23_1⟩ := rz2 BK742
      try go_wp2_with (first | ((with_reducible refine gate_callee (f := 40) rfl ?_); refine gl (some 17) Tryd.func40 #[.agg #[.int .i64 a0_0, .slice Ao18 y739.length co18]] ?_; (with_reducible refine (impl_CupOk.calls k a0_0 _ _ y739 true _ ?side1 ?side2 A5.out).mono ?_); (case side1 => refine (Kd.R_reads' (e := 3) (base := w.heap.size) (ok := fun k_ => some k_ ≠ (v737 : Value).ownBlock) (n := y739.length) (c := co18) ?_).2.2; exact (rf HO741 BK742 (fun _ h_ => h_.1))); (case side2 => exact cl HO741); rintro e w24 ⟨rfl, hb⟩; refine ⟨_, rfl, ?_⟩; replace HO738 := Aside0.mk (Kd.R_below (rf HO738 BK742 (fun _ h_ => h_.1)) hb); replace HO741 := Aside0.mk (Kd.R_below (rf HO741 BK742 (fun _ h_ => h_.1)) hb); replace BK731 := Aside0.mk (blk_below (g := gb731) (o := .cells #[.int .i64 a0_0, .slice A0_1 l0_1.length c0_1] 66 (0, 0)) (by (with_reducible repeat (first | refine blk_drewN ?_ _ | refine blk_drew ?_ | refine blk_alloc ?_ _)); refine blk_far ?_ NB731_742.out _; (with_reducible repeat (first | refine blk_drewN ?_ _ | refine blk_drew ?_ | refine blk_alloc ?_ _)); refine blk_far ?_ NB731_742.out _; (with_reducible repeat (first | refine blk_drewN ?_ _ | refine blk_drew ?_ | refine blk_alloc ?_ _)); exact BK731.out) hb); replace BK732 := Aside0.mk (blk_below (g := gb732) (o := .cells #[.int .i64 0, .slice none 0 0] 66 (0, 0)) (by (with_reducible repeat (first | refine blk_drewN ?_ _ | refine blk_drew ?_ | refine blk_alloc ?_ _)); refine blk_far ?_ NB732_742.out _; (with_reducible repeat (first | refine blk_drewN ?_ _ | refine blk_drew ?_ | refine blk_alloc ?_ _)); refine blk_far ?_ NB732_742.out _; (with_reducible repeat (first | refine blk_drewN ?_ _ | refine blk_drew ?_ | refine blk_alloc ?_ _)); exact BK732.out) hb); replace BK742 := Aside0.mk (blk_below (g := gb742) (o := .cells #[.int .i64 a0_0, .slice Ao18 y739.length co18] 66 (0, 0)) (by (with_reducible repeat (first | refine blk_drewN ?_ _ | refine blk_drew ?_ | refine blk_alloc ?_ _)); refine blk_put (cs := #[.int .i64 a0_0, .slice none 0 0]) ?_ 1 _ rfl; (with_reducible repeat (first | refine blk_drewN ?_ _ | refine blk_drew ?_ | refine blk_alloc ?_ _)); refine blk_put (cs := #[.int .i64 0, .slice none 0 0]) ?_ 0 _ rfl; (with_reducible repeat (first | refine blk_drewN ?_ _ | refine blk_drew ?_ | refine blk_alloc ?_ _)); exact BK742.out) hb); replace HB := hs_ HB hb; (try clear hb); (try clear hb2); (try clear hk); (try clear hi); have ⟨hcz25_0, hcz25_1, hfz25_0, hfz25_1⟩ := rz2 BK742; have hnb26 := NB732_731.out; have hnc26 := NB731_732.out; have ⟨hcz27_0, hcz27_1, hfz27_0, hfz27_1⟩ := rz2 BK732))
      refine bodyPost_ret (results_ct rfl _ _ gb732 66 #[.int .i64 a0_0, .slice Ao18 y739.length co18] (0, 0) _ rfl (by (with_reducible repeat (first | refine blk_drewN ?_ _ | refine blk_drew ?_ | refine blk_alloc ?_ _)); refine blk_put (cs := #[.int .i64 a0_0, .slice none 0 0]) ?_ 1 _ rfl; (with_reducible repeat (first | refine blk_drewN ?_ _ | refine blk_drew ?_ | refine blk_alloc ?_ _)); refine blk_put (cs := #[.int .i64 0, .slice none 0 0]) ?_ 0 _ rfl; (with_reducible repeat (first | refine blk_drewN ?_ _ | refine blk_drew ?_ | refine blk_alloc ?_ _)); exact BK732.out) Tryd.underlying66 rfl (by kernel_rfl)) rfl ?_
      exact ⟨_, ee, rf HO741 BK732 (fun _ hk => trivial), bb HB⟩
    · replace c6 := Bool.eq_false_iff.mpr c6
      subst c6
      have H1 : ((slices_Clone_int_int.f l0_1).bind fun t744 => (some (a0_0, t744, false))) = some (r1, r2, r3) := by rw [if_neg (show ¬ (false = true) by decide)] at H; exact H
      clear H
      have H := H1
      clear H1
      replace H := Option.bind_eq_some_iff.mp H
      obtain ⟨t744, A280, H⟩ := H
      replace H : (some (a0_0, t744, false)) = some (r1, r2, r3) := H
      have A28 := Aside0.mk A280
      clear A280
      simp only [Option.some.injEq, Prod.mk.injEq] at H
      obtain ⟨rfl, rfl, rfl⟩ := H
      go_enter Tryd.func75, Tryd.ntmps75
      try go_wp2_with (first | ((with_reducible refine gate_dst (N := 2) rfl ?_); refine bx (N := 2) (cs := #[.int .i64 a0_0, .slice A0_1 l0_1.length c0_1]) (t := 66) ?_; intro gb731 hg w29 hbox hb; have BK731 := Aside0.mk (hbox); have GW731 := gs hg HB; have GE731 := gs hg HB; replace HB := hs_ HB hb; clear hb hbox hg) | ((with_reducible refine gate_dst (N := 4) rfl ?_); refine bx (N := 4) (cs := #[.int .i64 0, .slice none 0 0]) (t := 66) ?_; intro gb732 hg w30 hbox hb; have BK732 := Aside0.mk (hbox); have GW732 := gs hg HB; have GE732 := gs hg HB; replace HB := hs_ HB hb; have NB731_732 := gn hg BK731; have NB732_731 := gm hg BK731; replace BK731 := kb BK731 hb; clear hb hbox hg))
      replace BK731 := Aside0.mk (blk_drew BK731.out)
      replace BK732 := Aside0.mk (blk_drew BK732.out)
      replace HB := Aside0.mk (below_drew1 HB.out)
      refine start_ (n := 11) (S := fun w' => w'.cell? ⟨gb731, 0, none⟩ = some (.int .i64 a0_0) ∧ w'.cell? ⟨gb731, 1, none⟩ = some (.slice A0_1 l0_1.length c0_1)) (ds := []) #[false, false, false, false, false, false, false, false, false, false, false] (by kernel_rfl) rfl rfl ⟨(blk_cell BK731.out 0).trans rfl, (blk_cell BK731.out 1).trans rfl⟩ (fun hHeld => ?_); refine with_tabW impl_WinGame.tab1 impl_WinGame.bits1 (fun HT_ HW_ => ?_)
      generalize w30.drew = w31 at BK731 BK732 HB hHeld ⊢
      refine pure_ (i := 0) (N := some 7) (v := ?_) (a' := ?_) #[true, false, false, false, false, false, false, false, false, false, false] rfl rfl (any_of HT_.out (by kernel_rfl)) (fun _ _ _ h => h) (Or.inl ⟨by rfl, ?_⟩) ?_ ?_
      rotate_left
      · intro w'
        go_simp
        with_reducible rfl
      rotate_left
      · simp only [Act.put, List.setIfInBounds_toArray, List.set_cons_zero, List.set_cons_succ, i64_w, i32_w]
        rfl
      refine pure_ (i := 2) (N := some 9) (v := ?_) (a' := ?_) #[true, false, true, false, false, false, false, false, false, false, false] rfl rfl (any_of HT_.out (by kernel_rfl)) (fun _ _ _ h => h) (Or.inl ⟨by rfl, ?_⟩) ?_ ?_
      rotate_left
      · intro w'
        go_simp
        with_reducible rfl
      rotate_left
      · simp only [Act.put, List.setIfInBounds_toArray, List.set_cons_zero, List.set_cons_succ, i64_w, i32_w]
        rfl
      refine pure_ (i := 5) (N := some 12) (v := ?_) (a' := ?_) #[true, false, true, false, false, true, false, false, false, false, false] rfl rfl (any_of HT_.out (by kernel_rfl)) (fun _ _ _ h => h) (Or.inl ⟨by rfl, ?_⟩) ?_ ?_
      rotate_left
      · intro w'
        go_simp
        with_reducible rfl
      rotate_left
      · simp only [Act.put, List.setIfInBounds_toArray, List.set_cons_zero, List.set_cons_succ, i64_w, i32_w]
        rfl
      refine take_ (i := 1) (N := some 8) (v := ?_) (a' := ?_) #[true, true, true, false, false, true, false, false, false, false, false] rfl rfl (take_ofW HT_.out HW_.out (by kernel_rfl)) (fun _ _ _ h => h) (Or.inl ⟨by rfl, ?_⟩) hHeld ?_ ?_
      rotate_left
      · rintro w' ⟨s0, s1⟩
        go_simp
        with_reducible rfl
      rotate_left
      · simp only [Act.put, List.setIfInBounds_toArray, List.set_cons_zero, List.set_cons_succ, i64_w, i32_w]
        rfl
      refine take_ (i := 3) (N := some 10) (v := ?_) (a' := ?_) #[true, true, true, true, false, true, false, false, false, false, false] rfl rfl (take_ofW HT_.out HW_.out (by kernel_rfl)) (fun _ _ _ h => h) (Or.inl ⟨by rfl, ?_⟩) hHeld ?_ ?_
      rotate_left
      · rintro w' ⟨s0, s1⟩
        go_simp
        with_reducible rfl
      rotate_left
      · simp only [Act.put, List.setIfInBounds_toArray, List.set_cons_zero, List.set_cons_succ, i64_w, i32_w]
        rfl
      refine join_ (σ := Value × Value × Value × Nat) 1 #[true, true, true, true, true, true, true, true, true, true, false] (fun s_ => [(11, s_.1), (13, s_.2.1), (14, s_.2.2.1), (6, .pointer (some ⟨s_.2.2.2, 0, none⟩)), (15, .agg #[.int .i64 a0_0, s_.2.2.1])]) (fun s_ w' => (w'.cell? ⟨gb731, 0, none⟩ = some (.int .i64 a0_0) ∧ w'.cell? ⟨gb731, 1, none⟩ = some (.slice A0_1 l0_1.length c0_1)) ∧ (Kd.R (Kd.int .i64) 3 w' w.heap.size (fun k_ => some k_ ≠ (s_.2.2.1 : Value).ownBlock) s_.2.1 y736) ∧ (Kd.R (Kd.int .i64) 3 w' w.heap.size (fun k_ => some k_ ≠ (s_.2.1 : Value).ownBlock) s_.2.2.1 y739) ∧ (w'.heap[gb731]? = some (.cells #[.int .i64 a0_0, .slice A0_1 l0_1.length c0_1] 66 (0, 0))) ∧ (w'.heap[gb732]? = some (.cells #[.int .i64 0, .slice none 0 0] 66 (0, 0))) ∧ (w'.heap[s_.2.2.2]? = some (.cells #[.int .i64 0, .slice none 0 0] 66 (0, 0))) ∧ (w.heap.size ≤ s_.2.2.2) ∧ (w.heap.size ≤ s_.2.2.2) ∧ (gb731 ≠ s_.2.2.2) ∧ (s_.2.2.2 ≠ gb731) ∧ (gb732 ≠ s_.2.2.2) ∧ (s_.2.2.2 ≠ gb732) ∧ (Below w.heap.size w w')) ?_ ?_
      rotate_left
      · intro hJ4_6_7_9
        refine join_ (σ := Value × Value × Value) 2 #[true, true, true, true, true, true, true, true, true, false, false] (fun s_ => [(11, s_.1), (13, s_.2.1), (14, s_.2.2), (15, .agg #[.int .i64 a0_0, s_.2.2])]) (fun s_ w' => (w'.cell? ⟨gb731, 0, none⟩ = some (.int .i64 a0_0) ∧ w'.cell? ⟨gb731, 1, none⟩ = some (.slice A0_1 l0_1.length c0_1)) ∧ (Kd.R (Kd.int .i64) 3 w' w.heap.size (fun k_ => some k_ ≠ (s_.2.2 : Value).ownBlock) s_.2.1 y736) ∧ (Kd.R (Kd.int .i64) 3 w' w.heap.size (fun k_ => some k_ ≠ (s_.2.1 : Value).ownBlock) s_.2.2 y739) ∧ (w'.heap[gb731]? = some (.cells #[.int .i64 a0_0, .slice A0_1 l0_1.length c0_1] 66 (0, 0))) ∧ (w'.heap[gb732]? = some (.cells #[.int .i64 0, .slice none 0 0] 66 (0, 0))) ∧ (Below w.heap.size w w')) ?_ ?_
        rotate_left
        · intro hJ4_6_7
          refine join_ (σ := Value × Value × Nat) 3 #[true, true, true, true, true, true, true, false, false, true, false] (fun s_ => [(11, s_.1), (13, s_.2.1), (6, .pointer (some ⟨s_.2.2, 0, none⟩))]) (fun s_ w' => (w'.cell? ⟨gb731, 0, none⟩ = some (.int .i64 a0_0) ∧ w'.cell? ⟨gb731, 1, none⟩ = some (.slice A0_1 l0_1.length c0_1)) ∧ (Kd.R (Kd.int .i64) 3 w' w.heap.size (fun k_ => some k_ ≠ (s_.2.1 : Value).ownBlock) s_.1 t733) ∧ (Kd.R (Kd.int .i64) 3 w' w.heap.size (fun k_ => some k_ ≠ (s_.1 : Value).ownBlock) s_.2.1 y736) ∧ (w'.heap[gb731]? = some (.cells #[.int .i64 a0_0, .slice A0_1 l0_1.length c0_1] 66 (0, 0))) ∧ (w'.heap[gb732]? = some (.cells #[.int .i64 0, .slice none 0 0] 66 (0, 0))) ∧ (w'.heap[s_.2.2]? = some (.cells #[.int .i64 0, .slice none 0 0] 66 (0, 0))) ∧ (w.heap.size ≤ s_.2.2) ∧ (w.heap.size ≤ s_.2.2) ∧ (gb731 ≠ s_.2.2) ∧ (s_.2.2 ≠ gb731) ∧ (gb732 ≠ s_.2.2) ∧ (s_.2.2 ≠ gb732) ∧ (Below w.heap.size w w')) ?_ ?_
          rotate_left
          · intro hJ4_6_9
            refine join_ (σ := Value × Value) 4 #[true, true, true, true, true, true, true, false, false, false, false] (fun s_ => [(11, s_.1), (13, s_.2)]) (fun s_ w' => (w'.cell? ⟨gb731, 0, none⟩ = some (.int .i64 a0_0) ∧ w'.cell? ⟨gb731, 1, none⟩ = some (.slice A0_1 l0_1.length c0_1)) ∧ (Kd.R (Kd.int .i64) 3 w' w.heap.size (fun k_ => some k_ ≠ (s_.2 : Value).ownBlock) s_.1 t733) ∧ (Kd.R (Kd.int .i64) 3 w' w.heap.size (fun k_ => some k_ ≠ (s_.1 : Value).ownBlock) s_.2 y736) ∧ (w'.heap[gb731]? = some (.cells #[.int .i64 a0_0, .slice A0_1 l0_1.length c0_1] 66 (0, 0))) ∧ (w'.heap[gb732]? = some (.cells #[.int .i64 0, .slice none 0 0] 66 (0, 0))) ∧ (Below w.heap.size w w')) ?_ ?_
            rotate_left
            · intro hJ4_6
              refine join_ (σ := Value × Nat) 4 #[true, true, true, true, true, true, false, false, false, true, false] (fun s_ => [(11, s_.1), (6, .pointer (some ⟨s_.2, 0, none⟩))]) (fun s_ w' => (w'.cell? ⟨gb731, 0, none⟩ = some (.int .i64 a0_0) ∧ w'.cell? ⟨gb731, 1, none⟩ = some (.slice A0_1 l0_1.length c0_1)) ∧ (Kd.R (Kd.int .i64) 3 w' w.heap.size (fun _ => True) s_.1 t733) ∧ (w'.heap[gb731]? = some (.cells #[.int .i64 a0_0, .slice A0_1 l0_1.length c0_1] 66 (0, 0))) ∧ (w'.heap[gb732]? = some (.cells #[.int .i64 0, .slice none 0 0] 66 (0, 0))) ∧ (w'.heap[s_.2]? = some (.cells #[.int .i64 0, .slice none 0 0] 66 (0, 0))) ∧ (w.heap.size ≤ s_.2) ∧ (w.heap.size ≤ s_.2) ∧ (gb731 ≠ s_.2) ∧ (s_.2 ≠ gb731) ∧ (gb732 ≠ s_.2) ∧ (s_.2 ≠ gb732) ∧ (Below w.heap.size w w')) ?_ ?_
              rotate_left
              · intro hJ4_9
                refine join_ (σ := Value × Nat) 4 #[true, true, true, true, false, true, true, false, false, true, false] (fun s_ => [(13, s_.1), (6, .pointer (some ⟨s_.2, 0, none⟩))]) (fun s_ w' => (w'.cell? ⟨gb731, 0, none⟩ = some (.int .i64 a0_0) ∧ w'.cell? ⟨gb731, 1, none⟩ = some (.slice A0_1 l0_1.length c0_1)) ∧ (Kd.R (Kd.int .i64) 3 w' w.heap.size (fun _ => True) s_.1 y736) ∧ (w'.heap[gb731]? = some (.cells #[.int .i64 a0_0, .slice A0_1 l0_1.length c0_1] 66 (0, 0))) ∧ (w'.heap[gb732]? = some (.cells #[.int .i64 0, .slice none 0 0] 66 (0, 0))) ∧ (w'.heap[s_.2]? = some (.cells #[.int .i64 0, .slice none 0 0] 66 (0, 0))) ∧ (w.heap.size ≤ s_.2) ∧ (w.heap.size ≤ s_.2) ∧ (gb731 ≠ s_.2) ∧ (s_.2 ≠ gb731) ∧ (gb732 ≠ s_.2) ∧ (s_.2 ≠ gb732) ∧ (Below w.heap.size w w')) ?_ ?_
                rotate_left
                · intro hJ6_9
                  refine join_ (σ := Value) 5 #[true, true, true, true, true, true, false, false, false, false, false] (fun s_ => [(11, s_)]) (fun s_ w' => (w'.cell? ⟨gb731, 0, none⟩ = some (.int .i64 a0_0) ∧ w'.cell? ⟨gb731, 1, none⟩ = some (.slice A0_1 l0_1.length c0_1)) ∧ (Kd.R (Kd.int .i64) 3 w' w.heap.size (fun _ => True) s_ t733) ∧ (w'.heap[gb731]? = some (.cells #[.int .i64 a0_0, .slice A0_1 l0_1.length c0_1] 66 (0, 0))) ∧ (w'.heap[gb732]? = some (.cells #[.int .i64 0, .slice none 0 0] 66 (0, 0))) ∧ (Below w.heap.size w w')) ?_ ?_
                  rotate_left
                  · intro hJ4
                    refine join_ (σ := Value) 5 #[true, true, true, true, false, true, true, false, false, false, false] (fun s_ => [(13, s_)]) (fun s_ w' => (w'.cell? ⟨gb731, 0, none⟩ = some (.int .i64 a0_0) ∧ w'.cell? ⟨gb731, 1, none⟩ = some (.slice A0_1 l0_1.length c0_1)) ∧ (Kd.R (Kd.int .i64) 3 w' w.heap.size (fun _ => True) s_ y736) ∧ (w'.heap[gb731]? = some (.cells #[.int .i64 a0_0, .slice A0_1 l0_1.length c0_1] 66 (0, 0))) ∧ (w'.heap[gb732]? = some (.cells #[.int .i64 0, .slice none 0 0] 66 (0, 0))) ∧ (Below w.heap.size w w')) ?_ ?_
                    rotate_left
                    · intro hJ6
                      refine join_ (σ := Nat) 5 #[true, true, true, true, false, true, false, false, false, true, false] (fun s_ => [(6, .pointer (some ⟨s_, 0, none⟩))]) (fun s_ w' => (w'.cell? ⟨gb731, 0, none⟩ = some (.int .i64 a0_0) ∧ w'.cell? ⟨gb731, 1, none⟩ = some (.slice A0_1 l0_1.length c0_1)) ∧ (w'.heap[gb731]? = some (.cells #[.int .i64 a0_0, .slice A0_1 l0_1.length c0_1] 66 (0, 0))) ∧ (w'.heap[gb732]? = some (.cells #[.int .i64 0, .slice none 0 0] 66 (0, 0))) ∧ (w'.heap[s_]? = some (.cells #[.int .i64 0, .slice none 0 0] 66 (0, 0))) ∧ (w.heap.size ≤ s_) ∧ (w.heap.size ≤ s_) ∧ (gb731 ≠ s_) ∧ (s_ ≠ gb731) ∧ (gb732 ≠ s_) ∧ (s_ ≠ gb732) ∧ (Below w.heap.size w w')) ?_ ?_
                      rotate_left
                      · intro hJ9
                        refine three_ (i := 4) (j := 6) (k := 9) (Ni := some 11) (Nj := some 13) (Nk := some 6) #[true, true, true, true, true, true, false, false, false, false, false] #[true, true, true, true, false, true, true, false, false, false, false] #[true, true, true, true, false, true, false, false, false, true, false] rfl rfl rfl rfl rfl rfl (three_of HT_.out (by kernel_rfl)) (by decide) (by decide) (by decide) (fun K hK => ?_) (fun K hK => ?_) (fun K hK => ?_)
                        · skip
                          refine goes_ Tryd.func94 (by kernel_rfl) rfl #[.slice A0_1 l0_1.length c0_1] (by rfl) rfl rfl (by (try simp only [List.map_toArray, List.map_cons, List.map_nil]); first | done | rfl | (simp only [List.length_drop, List.length_take]; rfl)) ?_
                          with_reducible refine (slices_Clone_int_int.calls _ _ l0_1 t733 _ ?side1 ?side2 A3.out).mono ?_
                          (case side1 => exact cc HR0_1 HB)
                          (case side2 => exact HC0_1.out)
                          rintro e w32 ⟨v734, rfl, ho0, hb⟩
                          refine ⟨_, rfl, ?_⟩
                          have HO735 := kl ho0 HB
                          replace BK731 := kb BK731 hb
                          replace BK732 := kb BK732 hb
                          replace HB := hs_ HB hb
                          (try clear hb)
                          (try clear hb2)
                          (try clear hk)
                          (try clear hi)
                          (try clear ho0)
                          refine hK.out _ _ ⟨(blk_cell BK731.out 0).trans rfl, (blk_cell BK731.out 1).trans rfl⟩ (fun hHeld => ?_)
                          clear hK K
                          refine norm_ (a' := ?_) ?_ ?_
                          rotate_left
                          · show Act.put _ (some 11) _ = _
                            simp only [Act.put, List.setIfInBounds_toArray, List.set_cons_zero, List.set_cons_succ, i64_w, i32_w]
                            rfl
                          exact norm_ (by first | (simp only [putAll, Act.put, List.setIfInBounds_toArray, List.set_cons_zero, List.set_cons_succ]; done) | (simp only [putAll, Act.put, List.setIfInBounds_toArray, List.set_cons_zero, List.set_cons_succ]; rfl)) (hJ4 (v734) _ ⟨hHeld, (rr HO735), (bk BK731), (bk BK732), (bb HB)⟩)
                        · skip
                          refine Kd.R_lit_step (Kd.int .i64) _ 3 ?hg (N := 13) ?hd (xs := ([a1] : List Int)) (inner := [.int .i64 a1]) (ok := fun _ => True) (okp := fun _ => True) ?hr ?hp (fun _ hk => hk) trivial (Below.refl _ _) (Nat.le_refl _) (by simp) ?_; (case hd => rfl); (case hg => rfl); (case hr => first | (go_simp; done) | (go_simp; rfl)); (case hp => exact (Reps.one (show Kd.M (Kd.int .i64) _ _ _ a1 [.int .i64 a1] from rfl) (Reps.none _ _)))
                          intro v737 w32 ho33 hb hg_ hnew_
                          clear hg_ hnew_
                          (first | rw [← Ny736.out] at ho33 | (simp only [Int.reduceToNat] at ho33; rw [← Ny736.out] at ho33))
                          have HO738 := kl ho33 HB
                          replace BK731 := kb BK731 hb
                          replace BK732 := kb BK732 hb
                          replace HB := hs_ HB hb
                          clear hb ho33
                          refine hK.out _ _ ⟨(blk_cell BK731.out 0).trans rfl, (blk_cell BK731.out 1).trans rfl⟩ (fun hHeld => ?_)
                          clear hK K
                          refine norm_ (a' := ?_) ?_ ?_
                          rotate_left
                          · show Act.put _ (some 13) _ = _
                            simp only [Act.put, List.setIfInBounds_toArray, List.set_cons_zero, List.set_cons_succ, i64_w, i32_w]
                            rfl
                          exact norm_ (by first | (simp only [putAll, Act.put, List.setIfInBounds_toArray, List.set_cons_zero, List.set_cons_succ]; done) | (simp only [putAll, Act.put, List.setIfInBounds_toArray, List.set_cons_zero, List.set_cons_succ]; rfl)) (hJ6 (v737) _ ⟨hHeld, (rr HO738), (bk BK731), (bk BK732), (bb HB)⟩)
                        · skip
                          refine box_step ?hg (N := 6) ?hd (cs := #[.int .i64 0, .slice none 0 0]) (t := 66) ?hr ?_; (case hd => rfl); (case hg => rfl); (case hr => first | (go_simp; done) | (go_simp; rfl))
                          intro gb742 hg w32 hbox hb
                          have BK742 := Aside0.mk (hbox)
                          have GW742 := gs hg HB
                          have GE742 := gs hg HB
                          replace HB := hs_ HB hb
                          have NB731_742 := gn hg BK731
                          have NB742_731 := gm hg BK731
                          replace BK731 := kb BK731 hb
                          have NB732_742 := gn hg BK732
                          have NB742_732 := gm hg BK732
                          replace BK732 := kb BK732 hb
                          clear hb hbox hg
                          refine hK.out _ _ ⟨(blk_cell BK731.out 0).trans rfl, (blk_cell BK731.out 1).trans rfl⟩ (fun hHeld => ?_)
                          clear hK K
                          refine norm_ (a' := ?_) ?_ ?_
                          rotate_left
                          · show Act.put _ (some 6) _ = _
                            simp only [Act.put, List.setIfInBounds_toArray, List.set_cons_zero, List.set_cons_succ, i64_w, i32_w]
                            rfl
                          exact norm_ (by first | (simp only [putAll, Act.put, List.setIfInBounds_toArray, List.set_cons_zero, List.set_cons_succ]; done) | (simp only [putAll, Act.put, List.setIfInBounds_toArray, List.set_cons_zero, List.set_cons_succ]; rfl)) (hJ9 (gb742) _ ⟨hHeld, (bk BK731), (bk BK732), (bk BK742), GW742.out, GE742.out, NB731_742.out, NB742_731.out, NB732_742.out, NB742_732.out, (bb HB)⟩)
                      · skip
                        rintro gb742 w33 ⟨hS_, h0_, h1_, h2_, h3_, h4_, h5_, h6_, h7_, h8_, h9_⟩
                        have n0_ : Aside0 (w33.heap[gb731]? = some (.cells #[.int .i64 a0_0, .slice A0_1 l0_1.length c0_1] 66 (0, 0))) := ⟨h0_⟩
                        have n1_ : Aside0 (w33.heap[gb732]? = some (.cells #[.int .i64 0, .slice none 0 0] 66 (0, 0))) := ⟨h1_⟩
                        have n2_ : Aside0 (w33.heap[gb742]? = some (.cells #[.int .i64 0, .slice none 0 0] 66 (0, 0))) := ⟨h2_⟩
                        have n3_ : Aside0 (w.heap.size ≤ gb742) := ⟨h3_⟩
                        have n4_ : Aside0 (w.heap.size ≤ gb742) := ⟨h4_⟩
                        have n5_ : Aside0 (gb731 ≠ gb742) := ⟨h5_⟩
                        have n6_ : Aside0 (gb742 ≠ gb731) := ⟨h6_⟩
                        have n7_ : Aside0 (gb732 ≠ gb742) := ⟨h7_⟩
                        have n8_ : Aside0 (gb742 ≠ gb732) := ⟨h8_⟩
                        have n9_ : Aside0 (Below w.heap.size w w33) := ⟨h9_⟩
                        clear BK731 BK732 HB h0_ h1_ h2_ h3_ h4_ h5_ h6_ h7_ h8_ h9_
                        have BK731 := n0_
                        have BK732 := n1_
                        have BK742 := n2_
                        have GW742 := n3_
                        have GE742 := n4_
                        have NB731_742 := n5_
                        have NB742_731 := n6_
                        have NB732_742 := n7_
                        have NB742_732 := n8_
                        have HB := n9_
                        clear n0_ n1_ n2_ n3_ n4_ n5_ n6_ n7_ n8_ n9_
                        have hHeld : w33.cell? ⟨gb731, 0, none⟩ = some (.int .i64 a0_0) ∧ w33.cell? ⟨gb731, 1, none⟩ = some (.slice A0_1 l0_1.length c0_1) := hS_
                        refine norm_ (a' := ?_) ?_ ?_
                        rotate_left
                        · simp only [putAll, Act.put, List.setIfInBounds_toArray, List.set_cons_zero, List.set_cons_succ]
                          rfl
                        refine two_ (i := 4) (j := 6) (Ni := some 11) (Nj := some 13) #[true, true, true, true, true, true, false, false, false, true, false] #[true, true, true, true, false, true, true, false, false, true, false] rfl rfl rfl rfl (two_of HT_.out (by kernel_rfl)) (by decide) (by decide) (fun K hK => ?_) (fun K hK => ?_)
                        · skip
                          refine goes_ Tryd.func94 (by kernel_rfl) rfl #[.slice A0_1 l0_1.length c0_1] (by rfl) rfl rfl (by (try simp only [List.map_toArray, List.map_cons, List.map_nil]); first | done | rfl | (simp only [List.length_drop, List.length_take]; rfl)) ?_
                          with_reducible refine (slices_Clone_int_int.calls _ _ l0_1 t733 _ ?side1 ?side2 A3.out).mono ?_
                          (case side1 => exact cc HR0_1 HB)
                          (case side2 => exact HC0_1.out)
                          rintro e w34 ⟨v734, rfl, ho0, hb⟩
                          refine ⟨_, rfl, ?_⟩
                          have HO735 := kl ho0 HB
                          replace BK731 := kb BK731 hb
                          replace BK732 := kb BK732 hb
                          replace BK742 := kb BK742 hb
                          replace HB := hs_ HB hb
                          (try clear hb)
                          (try clear hb2)
                          (try clear hk)
                          (try clear hi)
                          (try clear ho0)
                          refine hK.out _ _ ⟨(blk_cell BK731.out 0).trans rfl, (blk_cell BK731.out 1).trans rfl⟩ (fun hHeld => ?_)
                          clear hK K
                          refine norm_ (a' := ?_) ?_ ?_
                          rotate_left
                          · show Act.put _ (some 11) _ = _
                            simp only [Act.put, List.setIfInBounds_toArray, List.set_cons_zero, List.set_cons_succ, i64_w, i32_w]
                            rfl
                          exact norm_ (by first | (simp only [putAll, Act.put, List.setIfInBounds_toArray, List.set_cons_zero, List.set_cons_succ]; done) | (simp only [putAll, Act.put, List.setIfInBounds_toArray, List.set_cons_zero, List.set_cons_succ]; rfl)) (hJ4_9 (v734, gb742) _ ⟨hHeld, (rr HO735), (bk BK731), (bk BK732), (bk BK742), GW742.out, GE742.out, NB731_742.out, NB742_731.out, NB732_742.out, NB742_732.out, (bb HB)⟩)
                        · skip
                          refine Kd.R_lit_step (Kd.int .i64) _ 3 ?hg (N := 13) ?hd (xs := ([a1] : List Int)) (inner := [.int .i64 a1]) (ok := fun _ => True) (okp := fun _ => True) ?hr ?hp (fun _ hk => hk) trivial (Below.refl _ _) (Nat.le_refl _) (by simp) ?_; (case hd => rfl); (case hg => rfl); (case hr => first | (go_simp; done) | (go_simp; rfl)); (case hp => exact (Reps.one (show Kd.M (Kd.int .i64) _ _ _ a1 [.int .i64 a1] from rfl) (Reps.none _ _)))
                          intro v737 w34 ho35 hb hg_ hnew_
                          clear hg_ hnew_
                          (first | rw [← Ny736.out] at ho35 | (simp only [Int.reduceToNat] at ho35; rw [← Ny736.out] at ho35))
                          have HO738 := kl ho35 HB
                          replace BK731 := kb BK731 hb
                          replace BK732 := kb BK732 hb
                          replace BK742 := kb BK742 hb
                          replace HB := hs_ HB hb
                          clear hb ho35
                          refine hK.out _ _ ⟨(blk_cell BK731.out 0).trans rfl, (blk_cell BK731.out 1).trans rfl⟩ (fun hHeld => ?_)
                          clear hK K
                          refine norm_ (a' := ?_) ?_ ?_
                          rotate_left
                          · show Act.put _ (some 13) _ = _
                            simp only [Act.put, List.setIfInBounds_toArray, List.set_cons_zero, List.set_cons_succ, i64_w, i32_w]
                            rfl
                          exact norm_ (by first | (simp only [putAll, Act.put, List.setIfInBounds_toArray, List.set_cons_zero, List.set_cons_succ]; done) | (simp only [putAll, Act.put, List.setIfInBounds_toArray, List.set_cons_zero, List.set_cons_succ]; rfl)) (hJ6_9 (v737, gb742) _ ⟨hHeld, (rr HO738), (bk BK731), (bk BK732), (bk BK742), GW742.out, GE742.out, NB731_742.out, NB742_731.out, NB732_742.out, NB742_732.out, (bb HB)⟩)
                    · skip
                      rintro v737 w34 ⟨hS_, h0_, h1_, h2_, h3_⟩
                      have n0_ : Aside0 (Kd.R (Kd.int .i64) 3 w34 w.heap.size (fun _ => True) v737 y736) := ⟨h0_⟩
                      have n1_ : Aside0 (w34.heap[gb731]? = some (.cells #[.int .i64 a0_0, .slice A0_1 l0_1.length c0_1] 66 (0, 0))) := ⟨h1_⟩
                      have n2_ : Aside0 (w34.heap[gb732]? = some (.cells #[.int .i64 0, .slice none 0 0] 66 (0, 0))) := ⟨h2_⟩
                      have n3_ : Aside0 (Below w.heap.size w w34) := ⟨h3_⟩
                      clear BK731 BK732 HB h0_ h1_ h2_ h3_
                      have HO738 := n0_
                      have BK731 := n1_
                      have BK732 := n2_
                      have HB := n3_
                      clear n0_ n1_ n2_ n3_
                      have hHeld : w34.cell? ⟨gb731, 0, none⟩ = some (.int .i64 a0_0) ∧ w34.cell? ⟨gb731, 1, none⟩ = some (.slice A0_1 l0_1.length c0_1) := hS_
                      refine norm_ (a' := ?_) ?_ ?_
                      rotate_left
                      · simp only [putAll, Act.put, List.setIfInBounds_toArray, List.set_cons_zero, List.set_cons_succ]
                        rfl
                      refine two_ (i := 4) (j := 9) (Ni := some 11) (Nj := some 6) #[true, true, true, true, true, true, true, false, false, false, false] #[true, true, true, true, false, true, true, false, false, true, false] rfl rfl rfl rfl (two_of HT_.out (by kernel_rfl)) (by decide) (by decide) (fun K hK => ?_) (fun K hK => ?_)
                      · skip
                        refine goes_ Tryd.func94 (by kernel_rfl) rfl #[.slice A0_1 l0_1.length c0_1] (by rfl) rfl rfl (by (try simp only [List.map_toArray, List.map_cons, List.map_nil]); first | done | rfl | (simp only [List.length_drop, List.length_take]; rfl)) ?_
                        with_reducible refine (slices_Clone_int_int.calls _ _ l0_1 t733 _ ?side1 ?side2 A3.out).mono ?_
                        (case side1 => exact cc HR0_1 HB)
                        (case side2 => exact HC0_1.out)
                        rintro e w35 ⟨v734, rfl, ho0, hb⟩
                        refine ⟨_, rfl, ?_⟩
                        have HO735 := Aside0.mk (Kd.R_lower (Kd.R_new' ho0 (rt HO738)) (below_size (bb HB)))
                        replace HO738 := ke HO738 ho0 hb
                        replace BK731 := kb BK731 hb
                        replace BK732 := kb BK732 hb
                        replace HB := hs_ HB hb
                        (try clear hb)
                        (try clear hb2)
                        (try clear hk)
                        (try clear hi)
                        (try clear ho0)
                        refine hK.out _ _ ⟨(blk_cell BK731.out 0).trans rfl, (blk_cell BK731.out 1).trans rfl⟩ (fun hHeld => ?_)
                        clear hK K
                        refine norm_ (a' := ?_) ?_ ?_
                        rotate_left
                        · show Act.put _ (some 11) _ = _
                          simp only [Act.put, List.setIfInBounds_toArray, List.set_cons_zero, List.set_cons_succ, i64_w, i32_w]
                          rfl
                        exact norm_ (by first | (simp only [putAll, Act.put, List.setIfInBounds_toArray, List.set_cons_zero, List.set_cons_succ]; done) | (simp only [putAll, Act.put, List.setIfInBounds_toArray, List.set_cons_zero, List.set_cons_succ]; rfl)) (hJ4_6 (v734, v737) _ ⟨hHeld, (ro HO735 (fun _ hk => hk.2)), (ro HO738 (fun _ hk => hk.2)), (bk BK731), (bk BK732), (bb HB)⟩)
                      · skip
                        refine box_step ?hg (N := 6) ?hd (cs := #[.int .i64 0, .slice none 0 0]) (t := 66) ?hr ?_; (case hd => rfl); (case hg => rfl); (case hr => first | (go_simp; done) | (go_simp; rfl))
                        intro gb742 hg w35 hbox hb
                        replace HO738 := kr HO738 hb
                        have BK742 := Aside0.mk (hbox)
                        have GW742 := gs hg HB
                        have GE742 := gs hg HB
                        replace HB := hs_ HB hb
                        have NB731_742 := gn hg BK731
                        have NB742_731 := gm hg BK731
                        replace BK731 := kb BK731 hb
                        have NB732_742 := gn hg BK732
                        have NB742_732 := gm hg BK732
                        replace BK732 := kb BK732 hb
                        clear hb hbox hg
                        refine hK.out _ _ ⟨(blk_cell BK731.out 0).trans rfl, (blk_cell BK731.out 1).trans rfl⟩ (fun hHeld => ?_)
                        clear hK K
                        refine norm_ (a' := ?_) ?_ ?_
                        rotate_left
                        · show Act.put _ (some 6) _ = _
                          simp only [Act.put, List.setIfInBounds_toArray, List.set_cons_zero, List.set_cons_succ, i64_w, i32_w]
                          rfl
                        exact norm_ (by first | (simp only [putAll, Act.put, List.setIfInBounds_toArray, List.set_cons_zero, List.set_cons_succ]; done) | (simp only [putAll, Act.put, List.setIfInBounds_toArray, List.set_cons_zero, List.set_cons_succ]; rfl)) (hJ6_9 (v737, gb742) _ ⟨hHeld, (rr HO738), (bk BK731), (bk BK732), (bk BK742), GW742.out, GE742.out, NB731_742.out, NB742_731.out, NB732_742.out, NB742_732.out, (bb HB)⟩)
                  · skip
                    rintro v734 w33 ⟨hS_, h0_, h1_, h2_, h3_⟩
                    have n0_ : Aside0 (Kd.R (Kd.int .i64) 3 w33 w.heap.size (fun _ => True) v734 t733) := ⟨h0_⟩
                    have n1_ : Aside0 (w33.heap[gb731]? = some (.cells #[.int .i64 a0_0, .slice A0_1 l0_1.length c0_1] 66 (0, 0))) := ⟨h1_⟩
                    have n2_ : Aside0 (w33.heap[gb732]? = some (.cells #[.int .i64 0, .slice none 0 0] 66 (0, 0))) := ⟨h2_⟩
                    have n3_ : Aside0 (Below w.heap.size w w33) := ⟨h3_⟩
                    clear BK731 BK732 HB h0_ h1_ h2_ h3_
                    have HO735 := n0_
                    have BK731 := n1_
                    have BK732 := n2_
                    have HB := n3_
                    clear n0_ n1_ n2_ n3_
                    have hHeld : w33.cell? ⟨gb731, 0, none⟩ = some (.int .i64 a0_0) ∧ w33.cell? ⟨gb731, 1, none⟩ = some (.slice A0_1 l0_1.length c0_1) := hS_
                    refine norm_ (a' := ?_) ?_ ?_
                    rotate_left
                    · simp only [putAll, Act.put, List.setIfInBounds_toArray, List.set_cons_zero, List.set_cons_succ]
                      rfl
                    refine two_ (i := 6) (j := 9) (Ni := some 13) (Nj := some 6) #[true, true, true, true, true, true, true, false, false, false, false] #[true, true, true, true, true, true, false, false, false, true, false] rfl rfl rfl rfl (two_of HT_.out (by kernel_rfl)) (by decide) (by decide) (fun K hK => ?_) (fun K hK => ?_)
                    · skip
                      refine Kd.R_lit_step (Kd.int .i64) _ 3 ?hg (N := 13) ?hd (xs := ([a1] : List Int)) (inner := [.int .i64 a1]) (ok := fun _ => True) (okp := fun _ => True) ?hr ?hp (fun _ hk => hk) trivial (Below.refl _ _) (Nat.le_refl _) (by simp) ?_; (case hd => rfl); (case hg => rfl); (case hr => first | (go_simp; done) | (go_simp; rfl)); (case hp => exact (Reps.one (show Kd.M (Kd.int .i64) _ _ _ a1 [.int .i64 a1] from rfl) (Reps.none _ _)))
                      intro v737 w34 ho35 hb hg_ hnew_
                      clear hg_ hnew_
                      (first | rw [← Ny736.out] at ho35 | (simp only [Int.reduceToNat] at ho35; rw [← Ny736.out] at ho35))
                      have HO738 := Aside0.mk (Kd.R_lower (Kd.R_new' ho35 (rt HO735)) (below_size (bb HB)))
                      replace HO735 := ke HO735 ho35 hb
                      replace BK731 := kb BK731 hb
                      replace BK732 := kb BK732 hb
                      replace HB := hs_ HB hb
                      clear hb ho35
                      refine hK.out _ _ ⟨(blk_cell BK731.out 0).trans rfl, (blk_cell BK731.out 1).trans rfl⟩ (fun hHeld => ?_)
                      clear hK K
                      refine norm_ (a' := ?_) ?_ ?_
                      rotate_left
                      · show Act.put _ (some 13) _ = _
                        simp only [Act.put, List.setIfInBounds_toArray, List.set_cons_zero, List.set_cons_succ, i64_w, i32_w]
                        rfl
                      exact norm_ (by first | (simp only [putAll, Act.put, List.setIfInBounds_toArray, List.set_cons_zero, List.set_cons_succ]; done) | (simp only [putAll, Act.put, List.setIfInBounds_toArray, List.set_cons_zero, List.set_cons_succ]; rfl)) (hJ4_6 (v734, v737) _ ⟨hHeld, (ro HO735 (fun _ hk => hk.2)), (ro HO738 (fun _ hk => hk.2)), (bk BK731), (bk BK732), (bb HB)⟩)
                    · skip
                      refine box_step ?hg (N := 6) ?hd (cs := #[.int .i64 0, .slice none 0 0]) (t := 66) ?hr ?_; (case hd => rfl); (case hg => rfl); (case hr => first | (go_simp; done) | (go_simp; rfl))
                      intro gb742 hg w34 hbox hb
                      replace HO735 := kr HO735 hb
                      have BK742 := Aside0.mk (hbox)
                      have GW742 := gs hg HB
                      have GE742 := gs hg HB
                      replace HB := hs_ HB hb
                      have NB731_742 := gn hg BK731
                      have NB742_731 := gm hg BK731
                      replace BK731 := kb BK731 hb
                      have NB732_742 := gn hg BK732
                      have NB742_732 := gm hg BK732
                      replace BK732 := kb BK732 hb
                      clear hb hbox hg
                      refine hK.out _ _ ⟨(blk_cell BK731.out 0).trans rfl, (blk_cell BK731.out 1).trans rfl⟩ (fun hHeld => ?_)
                      clear hK K
                      refine norm_ (a' := ?_) ?_ ?_
                      rotate_left
                      · show Act.put _ (some 6) _ = _
                        simp only [Act.put, List.setIfInBounds_toArray, List.set_cons_zero, List.set_cons_succ, i64_w, i32_w]
                        rfl
                      exact norm_ (by first | (simp only [putAll, Act.put, List.setIfInBounds_toArray, List.set_cons_zero, List.set_cons_succ]; done) | (simp only [putAll, Act.put, List.setIfInBounds_toArray, List.set_cons_zero, List.set_cons_succ]; rfl)) (hJ4_9 (v734, gb742) _ ⟨hHeld, (rr HO735), (bk BK731), (bk BK732), (bk BK742), GW742.out, GE742.out, NB731_742.out, NB742_731.out, NB732_742.out, NB742_732.out, (bb HB)⟩)
                · skip
                  rintro ⟨v737, gb742⟩ w35 ⟨hS_, h0_, h1_, h2_, h3_, h4_, h5_, h6_, h7_, h8_, h9_, h10_⟩
                  have n0_ : Aside0 (Kd.R (Kd.int .i64) 3 w35 w.heap.size (fun _ => True) v737 y736) := ⟨h0_⟩
                  have n1_ : Aside0 (w35.heap[gb731]? = some (.cells #[.int .i64 a0_0, .slice A0_1 l0_1.length c0_1] 66 (0, 0))) := ⟨h1_⟩
                  have n2_ : Aside0 (w35.heap[gb732]? = some (.cells #[.int .i64 0, .slice none 0 0] 66 (0, 0))) := ⟨h2_⟩
                  have n3_ : Aside0 (w35.heap[gb742]? = some (.cells #[.int .i64 0, .slice none 0 0] 66 (0, 0))) := ⟨h3_⟩
                  have n4_ : Aside0 (w.heap.size ≤ gb742) := ⟨h4_⟩
                  have n5_ : Aside0 (w.heap.size ≤ gb742) := ⟨h5_⟩
                  have n6_ : Aside0 (gb731 ≠ gb742) := ⟨h6_⟩
                  have n7_ : Aside0 (gb742 ≠ gb731) := ⟨h7_⟩
                  have n8_ : Aside0 (gb732 ≠ gb742) := ⟨h8_⟩
                  have n9_ : Aside0 (gb742 ≠ gb732) := ⟨h9_⟩
                  have n10_ : Aside0 (Below w.heap.size w w35) := ⟨h10_⟩
                  clear BK731 BK732 HB h0_ h1_ h2_ h3_ h4_ h5_ h6_ h7_ h8_ h9_ h10_
                  have HO738 := n0_
                  have BK731 := n1_
                  have BK732 := n2_
                  have BK742 := n3_
                  have GW742 := n4_
                  have GE742 := n5_
                  have NB731_742 := n6_
                  have NB742_731 := n7_
                  have NB732_742 := n8_
                  have NB742_732 := n9_
                  have HB := n10_
                  clear n0_ n1_ n2_ n3_ n4_ n5_ n6_ n7_ n8_ n9_ n10_
                  have hHeld : w35.cell? ⟨gb731, 0, none⟩ = some (.int .i64 a0_0) ∧ w35.cell? ⟨gb731, 1, none⟩ = some (.slice A0_1 l0_1.length c0_1) := hS_
                  refine norm_ (a' := ?_) ?_ ?_
                  rotate_left
                  · simp only [putAll, Act.put, List.setIfInBounds_toArray, List.set_cons_zero, List.set_cons_succ]
                    rfl
                  refine one_ (i := 4) (N := some 11) #[true, true, true, true, true, true, true, false, false, true, false] rfl rfl (one_of HT_.out (by kernel_rfl)) (by decide) (fun K hK => ?_)
                  refine goes_ Tryd.func94 (by kernel_rfl) rfl #[.slice A0_1 l0_1.length c0_1] (by rfl) rfl rfl (by (try simp only [List.map_toArray, List.map_cons, List.map_nil]); first | done | rfl | (simp only [List.length_drop, List.length_take]; rfl)) ?_
                  with_reducible refine (slices_Clone_int_int.calls _ _ l0_1 t733 _ ?side1 ?side2 A3.out).mono ?_
                  (case side1 => exact cc HR0_1 HB)
                  (case side2 => exact HC0_1.out)
                  rintro e w36 ⟨v734, rfl, ho0, hb⟩
                  refine ⟨_, rfl, ?_⟩
                  have HO735 := Aside0.mk (Kd.R_lower (Kd.R_new' ho0 (rt HO738)) (below_size (bb HB)))
                  replace HO738 := ke HO738 ho0 hb
                  replace BK731 := kb BK731 hb
                  replace BK732 := kb BK732 hb
                  replace BK742 := kb BK742 hb
                  replace HB := hs_ HB hb
                  (try clear hb)
                  (try clear hb2)
                  (try clear hk)
                  (try clear hi)
                  (try clear ho0)
                  refine hK.out _ _ ⟨(blk_cell BK731.out 0).trans rfl, (blk_cell BK731.out 1).trans rfl⟩ (fun hHeld => ?_)
                  clear hK K
                  refine norm_ (a' := ?_) ?_ ?_
                  rotate_left
                  · show Act.put _ (some 11) _ = _
                    simp only [Act.put, List.setIfInBounds_toArray, List.set_cons_zero, List.set_cons_succ, i64_w, i32_w]
                    rfl
                  exact norm_ (by first | (simp only [putAll, Act.put, List.setIfInBounds_toArray, List.set_cons_zero, List.set_cons_succ]; done) | (simp only [putAll, Act.put, List.setIfInBounds_toArray, List.set_cons_zero, List.set_cons_succ]; rfl)) (hJ4_6_9 (v734, v737, gb742) _ ⟨hHeld, (ro HO735 (fun _ hk => hk.2)), (ro HO738 (fun _ hk => hk.2)), (bk BK731), (bk BK732), (bk BK742), GW742.out, GE742.out, NB731_742.out, NB742_731.out, NB732_742.out, NB742_732.out, (bb HB)⟩)
              · skip
                rintro ⟨v734, gb742⟩ w34 ⟨hS_, h0_, h1_, h2_, h3_, h4_, h5_, h6_, h7_, h8_, h9_, h10_⟩
                have n0_ : Aside0 (Kd.R (Kd.int .i64) 3 w34 w.heap.size (fun _ => True) v734 t733) := ⟨h0_⟩
                have n1_ : Aside0 (w34.heap[gb731]? = some (.cells #[.int .i64 a0_0, .slice A0_1 l0_1.length c0_1] 66 (0, 0))) := ⟨h1_⟩
                have n2_ : Aside0 (w34.heap[gb732]? = some (.cells #[.int .i64 0, .slice none 0 0] 66 (0, 0))) := ⟨h2_⟩
                have n3_ : Aside0 (w34.heap[gb742]? = some (.cells #[.int .i64 0, .slice none 0 0] 66 (0, 0))) := ⟨h3_⟩
                have n4_ : Aside0 (w.heap.size ≤ gb742) := ⟨h4_⟩
                have n5_ : Aside0 (w.heap.size ≤ gb742) := ⟨h5_⟩
                have n6_ : Aside0 (gb731 ≠ gb742) := ⟨h6_⟩
                have n7_ : Aside0 (gb742 ≠ gb731) := ⟨h7_⟩
                have n8_ : Aside0 (gb732 ≠ gb742) := ⟨h8_⟩
                have n9_ : Aside0 (gb742 ≠ gb732) := ⟨h9_⟩
                have n10_ : Aside0 (Below w.heap.size w w34) := ⟨h10_⟩
                clear BK731 BK732 HB h0_ h1_ h2_ h3_ h4_ h5_ h6_ h7_ h8_ h9_ h10_
                have HO735 := n0_
                have BK731 := n1_
                have BK732 := n2_
                have BK742 := n3_
                have GW742 := n4_
                have GE742 := n5_
                have NB731_742 := n6_
                have NB742_731 := n7_
                have NB732_742 := n8_
                have NB742_732 := n9_
                have HB := n10_
                clear n0_ n1_ n2_ n3_ n4_ n5_ n6_ n7_ n8_ n9_ n10_
                have hHeld : w34.cell? ⟨gb731, 0, none⟩ = some (.int .i64 a0_0) ∧ w34.cell? ⟨gb731, 1, none⟩ = some (.slice A0_1 l0_1.length c0_1) := hS_
                refine norm_ (a' := ?_) ?_ ?_
                rotate_left
                · simp only [putAll, Act.put, List.setIfInBounds_toArray, List.set_cons_zero, List.set_cons_succ]
                  rfl
                refine one_ (i := 6) (N := some 13) #[true, true, true, true, true, true, true, false, false, true, false] rfl rfl (one_of HT_.out (by kernel_rfl)) (by decide) (fun K hK => ?_)
                refine Kd.R_lit_step (Kd.int .i64) _ 3 ?hg (N := 13) ?hd (xs := ([a1] : List Int)) (inner := [.int .i64 a1]) (ok := fun _ => True) (okp := fun _ => True) ?hr ?hp (fun _ hk => hk) trivial (Below.refl _ _) (Nat.le_refl _) (by simp) ?_; (case hd => rfl); (case hg => rfl); (case hr => first | (go_simp; done) | (go_simp; rfl)); (case hp => exact (Reps.one (show Kd.M (Kd.int .i64) _ _ _ a1 [.int .i64 a1] from rfl) (Reps.none _ _)))
                intro v737 w35 ho36 hb hg_ hnew_
                clear hg_ hnew_
                (first | rw [← Ny736.out] at ho36 | (simp only [Int.reduceToNat] at ho36; rw [← Ny736.out] at ho36))
                have HO738 := Aside0.mk (Kd.R_lower (Kd.R_new' ho36 (rt HO735)) (below_size (bb HB)))
                replace HO735 := ke HO735 ho36 hb
                replace BK731 := kb BK731 hb
                replace BK732 := kb BK732 hb
                replace BK742 := kb BK742 hb
                replace HB := hs_ HB hb
                clear hb ho36
                refine hK.out _ _ ⟨(blk_cell BK731.out 0).trans rfl, (blk_cell BK731.out 1).trans rfl⟩ (fun hHeld => ?_)
                clear hK K
                refine norm_ (a' := ?_) ?_ ?_
                rotate_left
                · show Act.put _ (some 13) _ = _
                  simp only [Act.put, List.setIfInBounds_toArray, List.set_cons_zero, List.set_cons_succ, i64_w, i32_w]
                  rfl
                exact norm_ (by first | (simp only [putAll, Act.put, List.setIfInBounds_toArray, List.set_cons_zero, List.set_cons_succ]; done) | (simp only [putAll, Act.put, List.setIfInBounds_toArray, List.set_cons_zero, List.set_cons_succ]; rfl)) (hJ4_6_9 (v734, v737, gb742) _ ⟨hHeld, (ro HO735 (fun _ hk => hk.2)), (ro HO738 (fun _ hk => hk.2)), (bk BK731), (bk BK732), (bk BK742), GW742.out, GE742.out, NB731_742.out, NB742_731.out, NB732_742.out, NB742_732.out, (bb HB)⟩)
            · skip
              rintro ⟨v734, v737⟩ w35 ⟨hS_, h0_, h1_, h2_, h3_, h4_⟩
              have n0_ : Aside0 (Kd.R (Kd.int .i64) 3 w35 w.heap.size (fun k_ => some k_ ≠ (v737 : Value).ownBlock) v734 t733) := ⟨h0_⟩
              have n1_ : Aside0 (Kd.R (Kd.int .i64) 3 w35 w.heap.size (fun k_ => some k_ ≠ (v734 : Value).ownBlock) v737 y736) := ⟨h1_⟩
              have n2_ : Aside0 (w35.heap[gb731]? = some (.cells #[.int .i64 a0_0, .slice A0_1 l0_1.length c0_1] 66 (0, 0))) := ⟨h2_⟩
              have n3_ : Aside0 (w35.heap[gb732]? = some (.cells #[.int .i64 0, .slice none 0 0] 66 (0, 0))) := ⟨h3_⟩
              have n4_ : Aside0 (Below w.heap.size w w35) := ⟨h4_⟩
              clear BK731 BK732 HB h0_ h1_ h2_ h3_ h4_
              have HO735 := n0_
              have HO738 := n1_
              have BK731 := n2_
              have BK732 := n3_
              have HB := n4_
              clear n0_ n1_ n2_ n3_ n4_
              have hHeld : w35.cell? ⟨gb731, 0, none⟩ = some (.int .i64 a0_0) ∧ w35.cell? ⟨gb731, 1, none⟩ = some (.slice A0_1 l0_1.length c0_1) := hS_
              obtain ⟨Ao37, co37, eo37⟩ := Kd.R_slice HO738.out
              (first | subst eo37 | (injection eo37 with f1_ f2_ f3_; have f4_ := f1_.symm; have f5_ := f3_.symm; clear f1_ f2_ f3_; subst f4_; subst f5_))
              refine norm_ (a' := ?_) ?_ ?_
              rotate_left
              · simp only [putAll, Act.put, List.setIfInBounds_toArray, List.set_cons_zero, List.set_cons_succ]
                rfl
              refine two_ (i := 7) (j := 9) (Ni := some 14) (Nj := some 6) #[true, true, true, true, true, true, true, true, false, false, false] #[true, true, true, true, true, true, true, false, false, true, false] rfl rfl rfl rfl (two_of HT_.out (by kernel_rfl)) (by decide) (by decide) (fun K hK => ?_) (fun K hK => ?_)
              · skip
                refine Kd.R_append_rows_step (Kd.int .i64) (w0 := w) w.heap.size (by rfl) (.tmp 11) (.tmp 13) 42 3 (.int .i64 0) 8 rfl Tryd.underlying42 info3 rfl (by decide) (by omega) v734 t733 y736 _ _ _ (fun k_ => some k_ ≠ (.slice Ao37 y736.length co37 : Value).ownBlock) (fun _ => False) rfl rfl ?aO ?aR (fun _ _ h => h) (fun _ h => h.elim) ?aF ?aB ?aS ?aL ?_
                (case aR => exact cr HO738)
                (case aB => exact (bb HB))
                (case aF => exact (fun k_ hk => Kd.fresh' (Kd.R_lt (rr HO738)) k_ hk))
                (case aO => exact (rr HO735))
                (case aS => exact (below_size (bb HB)))
                (case aL => have := LMc4.out; omega)
                intro v740 w36 ho hb hg hat
                rw [← Ny739.out] at ho
                replace BK731 := Aside0.mk (blk_grown (g := gb731) (o := .cells #[.int .i64 a0_0, .slice A0_1 l0_1.length c0_1] 66 (0, 0)) (bk BK731) hg (Kd.R_ne HO735.out BK731.out (by decide)))
                replace BK732 := Aside0.mk (blk_grown (g := gb732) (o := .cells #[.int .i64 0, .slice none 0 0] 66 (0, 0)) (bk BK732) hg (Kd.R_ne HO735.out BK732.out (by decide)))
                replace HO738 := Aside0.mk (Kd.R_after (ok := (fun _ => True)) (ro HO738 (fun _ hk => ⟨trivial, hk⟩)) hg hat)
                replace HB := Aside0.mk (hb)
                have HO741 := Aside0.mk (ho)
                clear HO735 ho hb hg hat
                obtain ⟨Ao38, co38, eo38⟩ := Kd.R_slice HO741.out
                (first | subst eo38 | (injection eo38 with f1_ f2_ f3_; have f4_ := f1_.symm; have f5_ := f3_.symm; clear f1_ f2_ f3_; subst f4_; subst f5_))
                refine hK.out _ _ ⟨(blk_cell BK731.out 0).trans rfl, (blk_cell BK731.out 1).trans rfl⟩ (fun hHeld => ?_)
                clear hK K
                refine norm_ (a' := ?_) ?_ ?_
                rotate_left
                · show Act.put _ (some 14) _ = _
                  simp only [Act.put, List.setIfInBounds_toArray, List.set_cons_zero, List.set_cons_succ, i64_w, i32_w]
                  rfl
                refine pure_ (i := 8) (N := some 15) (v := ?_) (a' := ?_) #[true, true, true, true, true, true, true, true, true, false, false] rfl rfl (any_of HT_.out (by kernel_rfl)) (fun _ _ _ h => h) (Or.inl ⟨by rfl, ?_⟩) ?_ ?_
                rotate_left
                · intro w'
                  go_simp
                  with_reducible rfl
                rotate_left
                · simp only [Act.put, List.setIfInBounds_toArray, List.set_cons_zero, List.set_cons_succ, i64_w, i32_w]
                  rfl
                exact norm_ (by first | (simp only [putAll, Act.put, List.setIfInBounds_toArray, List.set_cons_zero, List.set_cons_succ]; done) | (simp only [putAll, Act.put, List.setIfInBounds_toArray, List.set_cons_zero, List.set_cons_succ]; rfl)) (hJ4_6_7 (v734, .slice Ao37 y736.length co37, .slice Ao38 y739.length co38) _ ⟨hHeld, (ro HO738 (fun _ hk => hk.2)), (rr HO741), (bk BK731), (bk BK732), (bb HB)⟩)
              · skip
                refine box_step ?hg (N := 6) ?hd (cs := #[.int .i64 0, .slice none 0 0]) (t := 66) ?hr ?_; (case hd => rfl); (case hg => rfl); (case hr => first | (go_simp; done) | (go_simp; rfl))
                intro gb742 hg w36 hbox hb
                replace HO735 := kr HO735 hb
                replace HO738 := kr HO738 hb
                have BK742 := Aside0.mk (hbox)
                have GW742 := gs hg HB
                have GE742 := gs hg HB
                replace HB := hs_ HB hb
                have NB731_742 := gn hg BK731
                have NB742_731 := gm hg BK731
                replace BK731 := kb BK731 hb
                have NB732_742 := gn hg BK732
                have NB742_732 := gm hg BK732
                replace BK732 := kb BK732 hb
                clear hb hbox hg
                refine hK.out _ _ ⟨(blk_cell BK731.out 0).trans rfl, (blk_cell BK731.out 1).trans rfl⟩ (fun hHeld => ?_)
                clear hK K
                refine norm_ (a' := ?_) ?_ ?_
                rotate_left
                · show Act.put _ (some 6) _ = _
                  simp only [Act.put, List.setIfInBounds_toArray, List.set_cons_zero, List.set_cons_succ, i64_w, i32_w]
                  rfl
                exact norm_ (by first | (simp only [putAll, Act.put, List.setIfInBounds_toArray, List.set_cons_zero, List.set_cons_succ]; done) | (simp only [putAll, Act.put, List.setIfInBounds_toArray, List.set_cons_zero, List.set_cons_succ]; rfl)) (hJ4_6_9 (v734, (.slice Ao37 y736.length co37), gb742) _ ⟨hHeld, (rr HO735), (rr HO738), (bk BK731), (bk BK732), (bk BK742), GW742.out, GE742.out, NB731_742.out, NB742_731.out, NB732_742.out, NB742_732.out, (bb HB)⟩)
          · skip
            rintro ⟨v734, v737, gb742⟩ w36 ⟨hS_, h0_, h1_, h2_, h3_, h4_, h5_, h6_, h7_, h8_, h9_, h10_, h11_⟩
            have n0_ : Aside0 (Kd.R (Kd.int .i64) 3 w36 w.heap.size (fun k_ => some k_ ≠ (v737 : Value).ownBlock) v734 t733) := ⟨h0_⟩
            have n1_ : Aside0 (Kd.R (Kd.int .i64) 3 w36 w.heap.size (fun k_ => some k_ ≠ (v734 : Value).ownBlock) v737 y736) := ⟨h1_⟩
            have n2_ : Aside0 (w36.heap[gb731]? = some (.cells #[.int .i64 a0_0, .slice A0_1 l0_1.length c0_1] 66 (0, 0))) := ⟨h2_⟩
            have n3_ : Aside0 (w36.heap[gb732]? = some (.cells #[.int .i64 0, .slice none 0 0] 66 (0, 0))) := ⟨h3_⟩
            have n4_ : Aside0 (w36.heap[gb742]? = some (.cells #[.int .i64 0, .slice none 0 0] 66 (0, 0))) := ⟨h4_⟩
            have n5_ : Aside0 (w.heap.size ≤ gb742) := ⟨h5_⟩
            have n6_ : Aside0 (w.heap.size ≤ gb742) := ⟨h6_⟩
            have n7_ : Aside0 (gb731 ≠ gb742) := ⟨h7_⟩
            have n8_ : Aside0 (gb742 ≠ gb731) := ⟨h8_⟩
            have n9_ : Aside0 (gb732 ≠ gb742) := ⟨h9_⟩
            have n10_ : Aside0 (gb742 ≠ gb732) := ⟨h10_⟩
            have n11_ : Aside0 (Below w.heap.size w w36) := ⟨h11_⟩
            clear BK731 BK732 HB h0_ h1_ h2_ h3_ h4_ h5_ h6_ h7_ h8_ h9_ h10_ h11_
            have HO735 := n0_
            have HO738 := n1_
            have BK731 := n2_
            have BK732 := n3_
            have BK742 := n4_
            have GW742 := n5_
            have GE742 := n6_
            have NB731_742 := n7_
            have NB742_731 := n8_
            have NB732_742 := n9_
            have NB742_732 := n10_
            have HB := n11_
            clear n0_ n1_ n2_ n3_ n4_ n5_ n6_ n7_ n8_ n9_ n10_ n11_
            have hHeld : w36.cell? ⟨gb731, 0, none⟩ = some (.int .i64 a0_0) ∧ w36.cell? ⟨gb731, 1, none⟩ = some (.slice A0_1 l0_1.length c0_1) := hS_
            obtain ⟨Ao38, co38, eo38⟩ := Kd.R_slice HO738.out
            (first | subst eo38 | (injection eo38 with f1_ f2_ f3_; have f4_ := f1_.symm; have f5_ := f3_.symm; clear f1_ f2_ f3_; subst f4_; subst f5_))
            refine norm_ (a' := ?_) ?_ ?_
            rotate_left
            · simp only [putAll, Act.put, List.setIfInBounds_toArray, List.set_cons_zero, List.set_cons_succ]
              rfl
            refine one_ (i := 7) (N := some 14) #[true, true, true, true, true, true, true, true, false, true, false] rfl rfl (one_of HT_.out (by kernel_rfl)) (by decide) (fun K hK => ?_)
            refine Kd.R_append_rows_step (Kd.int .i64) (w0 := w) w.heap.size (by rfl) (.tmp 11) (.tmp 13) 42 3 (.int .i64 0) 8 rfl Tryd.underlying42 info3 rfl (by decide) (by omega) v734 t733 y736 _ _ _ (fun k_ => some k_ ≠ (.slice Ao38 y736.length co38 : Value).ownBlock) (fun _ => False) rfl rfl ?aO ?aR (fun _ _ h => h) (fun _ h => h.elim) ?aF ?aB ?aS ?aL ?_
            (case aR => exact cr HO738)
            (case aB => exact (bb HB))
            (case aF => exact (fun k_ hk => Kd.fresh' (Kd.R_lt (rr HO738)) k_ hk))
            (case aO => exact (rr HO735))
            (case aS => exact (below_size (bb HB)))
            (case aL => have := LMc4.out; omega)
            intro v740 w37 ho hb hg hat
            rw [← Ny739.out] at ho
            replace BK731 := Aside0.mk (blk_grown (g := gb731) (o := .cells #[.int .i64 a0_0, .slice A0_1 l0_1.length c0_1] 66 (0, 0)) (bk BK731) hg (Kd.R_ne HO735.out BK731.out (by decide)))
            replace BK732 := Aside0.mk (blk_grown (g := gb732) (o := .cells #[.int .i64 0, .slice none 0 0] 66 (0, 0)) (bk BK732) hg (Kd.R_ne HO735.out BK732.out (by decide)))
            replace HO738 := Aside0.mk (Kd.R_after (ok := (fun _ => True)) (ro HO738 (fun _ hk => ⟨trivial, hk⟩)) hg hat)
            replace BK742 := Aside0.mk (blk_grown (g := gb742) (o := .cells #[.int .i64 0, .slice none 0 0] 66 (0, 0)) (bk BK742) hg (Kd.R_ne HO735.out BK742.out (by decide)))
            replace HB := Aside0.mk (hb)
            have HO741 := Aside0.mk (ho)
            clear HO735 ho hb hg hat
            obtain ⟨Ao39, co39, eo39⟩ := Kd.R_slice HO741.out
            (first | subst eo39 | (injection eo39 with f1_ f2_ f3_; have f4_ := f1_.symm; have f5_ := f3_.symm; clear f1_ f2_ f3_; subst f4_; subst f5_))
            refine hK.out _ _ ⟨(blk_cell BK731.out 0).trans rfl, (blk_cell BK731.out 1).trans rfl⟩ (fun hHeld => ?_)
            clear hK K
            refine norm_ (a' := ?_) ?_ ?_
            rotate_left
            · show Act.put _ (some 14) _ = _
              simp only [Act.put, List.setIfInBounds_toArray, List.set_cons_zero, List.set_cons_succ, i64_w, i32_w]
              rfl
            refine pure_ (i := 8) (N := some 15) (v := ?_) (a' := ?_) #[true, true, true, true, true, true, true, true, true, true, false] rfl rfl (any_of HT_.out (by kernel_rfl)) (fun _ _ _ h => h) (Or.inl ⟨by rfl, ?_⟩) ?_ ?_
            rotate_left
            · intro w'
              go_simp
              with_reducible rfl
            rotate_left
            · simp only [Act.put, List.setIfInBounds_toArray, List.set_cons_zero, List.set_cons_succ, i64_w, i32_w]
              rfl
            exact norm_ (by first | (simp only [putAll, Act.put, List.setIfInBounds_toArray, List.set_cons_zero, List.set_cons_succ]; done) | (simp only [putAll, Act.put, List.setIfInBounds_toArray, List.set_cons_zero, List.set_cons_succ]; rfl)) (hJ4_6_7_9 (v734, .slice Ao38 y736.length co38, .slice Ao39 y739.length co39, gb742) _ ⟨hHeld, (ro HO738 (fun _ hk => hk.2)), (rr HO741), (bk BK731), (bk BK732), (bk BK742), GW742.out, GE742.out, NB731_742.out, NB742_731.out, NB732_742.out, NB742_732.out, (bb HB)⟩)
        · skip
          rintro ⟨v734, v737, v740⟩ w38 ⟨hS_, h0_, h1_, h2_, h3_, h4_⟩
          have n0_ : Aside0 (Kd.R (Kd.int .i64) 3 w38 w.heap.size (fun k_ => some k_ ≠ (v740 : Value).ownBlock) v737 y736) := ⟨h0_⟩
          have n1_ : Aside0 (Kd.R (Kd.int .i64) 3 w38 w.heap.size (fun k_ => some k_ ≠ (v737 : Value).ownBlock) v740 y739) := ⟨h1_⟩
          have n2_ : Aside0 (w38.heap[gb731]? = some (.cells #[.int .i64 a0_0, .slice A0_1 l0_1.length c0_1] 66 (0, 0))) := ⟨h2_⟩
          have n3_ : Aside0 (w38.heap[gb732]? = some (.cells #[.int .i64 0, .slice none 0 0] 66 (0, 0))) := ⟨h3_⟩
          have n4_ : Aside0 (Below w.heap.size w w38) := ⟨h4_⟩
          clear BK731 BK732 HB h0_ h1_ h2_ h3_ h4_
          have HO738 := n0_
          have HO741 := n1_
          have BK731 := n2_
          have BK732 := n3_
          have HB := n4_
          clear n0_ n1_ n2_ n3_ n4_
          have hHeld : w38.cell? ⟨gb731, 0, none⟩ = some (.int .i64 a0_0) ∧ w38.cell? ⟨gb731, 1, none⟩ = some (.slice A0_1 l0_1.length c0_1) := hS_
          obtain ⟨Ao39, co39, eo39⟩ := Kd.R_slice HO741.out
          (first | subst eo39 | (injection eo39 with f1_ f2_ f3_; have f4_ := f1_.symm; have f5_ := f3_.symm; clear f1_ f2_ f3_; subst f4_; subst f5_))
          refine norm_ (a' := ?_) ?_ ?_
          rotate_left
          · simp only [putAll, Act.put, List.setIfInBounds_toArray, List.set_cons_zero, List.set_cons_succ]
            rfl
          refine one_ (i := 9) (N := some 6) #[true, true, true, true, true, true, true, true, true, true, false] rfl rfl (one_of HT_.out (by kernel_rfl)) (by decide) (fun K hK => ?_)
          refine box_step ?hg (N := 6) ?hd (cs := #[.int .i64 0, .slice none 0 0]) (t := 66) ?hr ?_; (case hd => rfl); (case hg => rfl); (case hr => first | (go_simp; done) | (go_simp; rfl))
          intro gb742 hg w40 hbox hb
          replace HO738 := kr HO738 hb
          replace HO741 := kr HO741 hb
          have BK742 := Aside0.mk (hbox)
          have GW742 := gs hg HB
          have GE742 := gs hg HB
          replace HB := hs_ HB hb
          have NB731_742 := gn hg BK731
          have NB742_731 := gm hg BK731
          replace BK731 := kb BK731 hb
          have NB732_742 := gn hg BK732
          have NB742_732 := gm hg BK732
          replace BK732 := kb BK732 hb
          clear hb hbox hg
          refine hK.out _ _ ⟨(blk_cell BK731.out 0).trans rfl, (blk_cell BK731.out 1).trans rfl⟩ (fun hHeld => ?_)
          clear hK K
          refine norm_ (a' := ?_) ?_ ?_
          rotate_left
          · show Act.put _ (some 6) _ = _
            simp only [Act.put, List.setIfInBounds_toArray, List.set_cons_zero, List.set_cons_succ, i64_w, i32_w]
            rfl
          exact norm_ (by first | (simp only [putAll, Act.put, List.setIfInBounds_toArray, List.set_cons_zero, List.set_cons_succ]; done) | (simp only [putAll, Act.put, List.setIfInBounds_toArray, List.set_cons_zero, List.set_cons_succ]; rfl)) (hJ4_6_7_9 (v734, v737, .slice Ao39 y739.length co39, gb742) _ ⟨hHeld, (rr HO738), (rr HO741), (bk BK731), (bk BK732), (bk BK742), GW742.out, GE742.out, NB731_742.out, NB742_731.out, NB732_742.out, NB742_732.out, (bb HB)⟩)
      rintro ⟨v734, v737, v740, gb742⟩ w39 ⟨hS_, h0_, h1_, h2_, h3_, h4_, h5_, h6_, h7_, h8_, h9_, h10_, h11_⟩
      have n0_ : Aside0 (Kd.R (Kd.int .i64) 3 w39 w.heap.size (fun k_ => some k_ ≠ (v740 : Value).ownBlock) v737 y736) := ⟨h0_⟩
      have n1_ : Aside0 (Kd.R (Kd.int .i64) 3 w39 w.heap.size (fun k_ => some k_ ≠ (v737 : Value).ownBlock) v740 y739) := ⟨h1_⟩
      have n2_ : Aside0 (w39.heap[gb731]? = some (.cells #[.int .i64 a0_0, .slice A0_1 l0_1.length c0_1] 66 (0, 0))) := ⟨h2_⟩
      have n3_ : Aside0 (w39.heap[gb732]? = some (.cells #[.int .i64 0, .slice none 0 0] 66 (0, 0))) := ⟨h3_⟩
      have n4_ : Aside0 (w39.heap[gb742]? = some (.cells #[.int .i64 0, .slice none 0 0] 66 (0, 0))) := ⟨h4_⟩
      have n5_ : Aside0 (w.heap.size ≤ gb742) := ⟨h5_⟩
      have n6_ : Aside0 (w.heap.size ≤ gb742) := ⟨h6_⟩
      have n7_ : Aside0 (gb731 ≠ gb742) := ⟨h7_⟩
      have n8_ : Aside0 (gb742 ≠ gb731) := ⟨h8_⟩
      have n9_ : Aside0 (gb732 ≠ gb742) := ⟨h9_⟩
      have n10_ : Aside0 (gb742 ≠ gb732) := ⟨h10_⟩
      have n11_ : Aside0 (Below w.heap.size w w39) := ⟨h11_⟩
      clear BK731 BK732 HB h0_ h1_ h2_ h3_ h4_ h5_ h6_ h7_ h8_ h9_ h10_ h11_
      have HO738 := n0_
      have HO741 := n1_
      have BK731 := n2_
      have BK732 := n3_
      have BK742 := n4_
      have GW742 := n5_
      have GE742 := n6_
      have NB731_742 := n7_
      have NB742_731 := n8_
      have NB732_742 := n9_
      have NB742_732 := n10_
      have HB := n11_
      clear n0_ n1_ n2_ n3_ n4_ n5_ n6_ n7_ n8_ n9_ n10_ n11_
      have hHeld : w39.cell? ⟨gb731, 0, none⟩ = some (.int .i64 a0_0) ∧ w39.cell? ⟨gb731, 1, none⟩ = some (.slice A0_1 l0_1.length c0_1) := hS_
      obtain ⟨Ao40, co40, eo40⟩ := Kd.R_slice HO741.out
      (first | subst eo40 | (injection eo40 with f1_ f2_ f3_; have f4_ := f1_.symm; have f5_ := f3_.symm; clear f1_ f2_ f3_; subst f4_; subst f5_))
      refine norm_ (a' := ?_) ?_ ?_
      rotate_left
      · simp only [putAll, Act.put, List.setIfInBounds_toArray, List.set_cons_zero, List.set_cons_succ]
        rfl
      refine one_ (i := 10) (N := none) #[true, true, true, true, true, true, true, true, true, true, true] rfl rfl (one_of HT_.out (by kernel_rfl)) (by decide) (fun K hK => ?_)
      have hs41 : w39.cell? ⟨gb742, 0, none⟩ = some (.int .i64 0) := (blk_cell BK742.out 0).trans rfl
      have hfs41 := blk_frozen BK742.out 0
      have hns41_0 := NB731_742.out
      have hns41_1 := NB732_742.out
      have hms41_0 := NB742_731.out
      have hms41_1 := NB742_732.out
      have hs42 : w39.cell? ⟨gb742, 1, none⟩ = some (.slice none 0 0) := (blk_cell BK742.out 1).trans rfl
      have hfs42 := blk_frozen BK742.out 1
      have hns42_0 := NB731_742.out
      have hns42_1 := NB732_742.out
      have hms42_0 := NB742_731.out
      have hms42_1 := NB742_732.out
      refine skip_ (w1 := ?_) (by rfl) rfl ?_ ?_
      rotate_left
      · go_simp
        rfl
      refine hK.out _ _ ⟨((cell_far (p := ⟨gb742, _, none⟩) NB731_742.out _).trans (((cell_far (p := ⟨gb742, _, none⟩) NB731_742.out _).trans (hHeld.1)))), ((cell_far (p := ⟨gb742, _, none⟩) NB731_742.out _).trans (((cell_far (p := ⟨gb742, _, none⟩) NB731_742.out _).trans (hHeld.2))))⟩ (fun hHeld => ?_)
      clear hK K
      refine done_ (done_of HT_.out (by kernel_rfl)) ?_
      have hnb43 := NB742_731.out
      have hnc43 := NB731_742.out
      have hnb44 := NB742_732.out
      have hnc44 := NB732_742.out
      have ⟨hcz45_0, hcz45_1, hfz45_0, hfz45_1⟩ := rz2 BK742
      try go_wp2_with (first | ((with_reducible refine gate_callee (f := 40) rfl ?_); refine gl (some 17) Tryd.func40 #[.agg #[.int .i64 a0_0, .slice Ao40 y739.length co40]] ?_; (with_reducible refine (impl_CupOk.calls k a0_0 _ _ y739 false _ ?side1 ?side2 A5.out).mono ?_); (case side1 => refine (Kd.R_reads' (e := 3) (base := w.heap.size) (ok := fun k_ => some k_ ≠ (v737 : Value).ownBlock) (n := y739.length) (c := co40) ?_).2.2; exact (rf HO741 BK742 (fun _ h_ => h_.1))); (case side2 => exact cl HO741); rintro e w46 ⟨rfl, hb⟩; refine ⟨_, rfl, ?_⟩; replace HO738 := Aside0.mk (Kd.R_below (rf HO738 BK742 (fun _ h_ => h_.1)) hb); replace HO741 := Aside0.mk (Kd.R_below (rf HO741 BK742 (fun _ h_ => h_.1)) hb); replace BK731 := Aside0.mk (blk_below (g := gb731) (o := .cells #[.int .i64 a0_0, .slice A0_1 l0_1.length c0_1] 66 (0, 0)) (by (with_reducible repeat (first | refine blk_drewN ?_ _ | refine blk_drew ?_ | refine blk_alloc ?_ _)); refine blk_far ?_ NB731_742.out _; (with_reducible repeat (first | refine blk_drewN ?_ _ | refine blk_drew ?_ | refine blk_alloc ?_ _)); refine blk_far ?_ NB731_742.out _; (with_reducible repeat (first | refine blk_drewN ?_ _ | refine blk_drew ?_ | refine blk_alloc ?_ _)); exact BK731.out) hb); replace BK732 := Aside0.mk (blk_below (g := gb732) (o := .cells #[.int .i64 0, .slice none 0 0] 66 (0, 0)) (by (with_reducible repeat (first | refine blk_drewN ?_ _ | refine blk_drew ?_ | refine blk_alloc ?_ _)); refine blk_far ?_ NB732_742.out _; (with_reducible repeat (first | refine blk_drewN ?_ _ | refine blk_drew ?_ | refine blk_alloc ?_ _)); refine blk_far ?_ NB732_742.out _; (with_reducible repeat (first | refine blk_drewN ?_ _ | refine blk_drew ?_ | refine blk_alloc ?_ _)); exact BK732.out) hb); replace BK742 := Aside0.mk (blk_below (g := gb742) (o := .cells #[.int .i64 a0_0, .slice Ao40 y739.length co40] 66 (0, 0)) (by (with_reducible repeat (first | refine blk_drewN ?_ _ | refine blk_drew ?_ | refine blk_alloc ?_ _)); refine blk_put (cs := #[.int .i64 a0_0, .slice none 0 0]) ?_ 1 _ rfl; (with_reducible repeat (first | refine blk_drewN ?_ _ | refine blk_drew ?_ | refine blk_alloc ?_ _)); refine blk_put (cs := #[.int .i64 0, .slice none 0 0]) ?_ 0 _ rfl; (with_reducible repeat (first | refine blk_drewN ?_ _ | refine blk_drew ?_ | refine blk_alloc ?_ _)); exact BK742.out) hb); replace HB := hs_ HB hb; (try clear hb); (try clear hb2); (try clear hk); (try clear hi)))
      replace HO738 := Aside0.mk (Kd.R_drew HO738.out)
      replace HO741 := Aside0.mk (Kd.R_drew HO741.out)
      replace BK731 := Aside0.mk (blk_drew BK731.out)
      replace BK732 := Aside0.mk (blk_drew BK732.out)
      replace BK742 := Aside0.mk (blk_drew BK742.out)
      replace HB := Aside0.mk (below_drew1 HB.out)
      refine start_ (n := 8) (S := fun w' => w'.cell? ⟨gb731, 0, none⟩ = some (.int .i64 a0_0) ∧ w'.cell? ⟨gb731, 1, none⟩ = some (.slice A0_1 l0_1.length c0_1)) (ds := []) #[false, false, false, false, false, false, false, false] (by kernel_rfl) rfl rfl ⟨(blk_cell BK731.out 0).trans rfl, (blk_cell BK731.out 1).trans rfl⟩ (fun hHeld => ?_); refine with_tabW impl_WinGame.tab3 impl_WinGame.bits3 (fun HT_ HW_ => ?_)
      generalize w46.drew = w47 at HO738 HO741 BK731 BK732 BK742 HB hHeld ⊢
      refine pure_ (i := 0) (N := some 19) (v := ?_) (a' := ?_) #[true, false, false, false, false, false, false, false] rfl rfl (any_of HT_.out (by kernel_rfl)) (fun _ _ _ h => h) (Or.inl ⟨by rfl, ?_⟩) ?_ ?_
      rotate_left
      · intro w'
        go_simp
        with_reducible rfl
      rotate_left
      · simp only [Act.put, List.setIfInBounds_toArray, List.set_cons_zero, List.set_cons_succ, i64_w, i32_w]
        rfl
      refine pure_ (i := 2) (N := some 21) (v := ?_) (a' := ?_) #[true, false, true, false, false, false, false, false] rfl rfl (any_of HT_.out (by kernel_rfl)) (fun _ _ _ h => h) (Or.inl ⟨by rfl, ?_⟩) ?_ ?_
      rotate_left
      · intro w'
        go_simp
        with_reducible rfl
      rotate_left
      · simp only [Act.put, List.setIfInBounds_toArray, List.set_cons_zero, List.set_cons_succ, i64_w, i32_w]
        rfl
      refine take_ (i := 1) (N := some 20) (v := ?_) (a' := ?_) #[true, true, true, false, false, false, false, false] rfl rfl (take_ofW HT_.out HW_.out (by kernel_rfl)) (fun _ _ _ h => h) (Or.inl ⟨by rfl, ?_⟩) hHeld ?_ ?_
      rotate_left
      · rintro w' ⟨s0, s1⟩
        go_simp
        with_reducible rfl
      rotate_left
      · simp only [Act.put, List.setIfInBounds_toArray, List.set_cons_zero, List.set_cons_succ, i64_w, i32_w]
        rfl
      refine take_ (i := 3) (N := some 22) (v := ?_) (a' := ?_) #[true, true, true, true, false, false, false, false] rfl rfl (take_ofW HT_.out HW_.out (by kernel_rfl)) (fun _ _ _ h => h) (Or.inl ⟨by rfl, ?_⟩) hHeld ?_ ?_
      rotate_left
      · rintro w' ⟨s0, s1⟩
        go_simp
        with_reducible rfl
      rotate_left
      · simp only [Act.put, List.setIfInBounds_toArray, List.set_cons_zero, List.set_cons_succ, i64_w, i32_w]
        rfl
      refine one_ (i := 4) (N := some 23) #[true, true, true, true, true, false, false, false] rfl rfl (one_of HT_.out (by kernel_rfl)) (by decide) (fun K hK => ?_)
      refine goes_ Tryd.func94 (by kernel_rfl) rfl #[.slice A0_1 l0_1.length c0_1] (by rfl) rfl rfl (by (try simp only [List.map_toArray, List.map_cons, List.map_nil]); first | done | rfl | (simp only [List.length_drop, List.length_take]; rfl)) ?_
      with_reducible refine (slices_Clone_int_int.calls _ _ l0_1 t744 _ ?side1 ?side2 A28.out).mono ?_
      (case side1 => exact cc HR0_1 HB)
      (case side2 => exact HC0_1.out)
      rintro e w48 ⟨v745, rfl, ho0, hb⟩
      refine ⟨_, rfl, ?_⟩
      have HO746 := Aside0.mk (Kd.R_lower (Kd.R_new' (Kd.R_new' ho0 (rt HO738)) (rt HO741)) (below_size (bb HB)))
      replace HO738 := ke HO738 ho0 hb
      replace HO741 := ke HO741 ho0 hb
      replace BK731 := kb BK731 hb
      replace BK732 := kb BK732 hb
      replace BK742 := kb BK742 hb
      replace HB := hs_ HB hb
      (try clear hb)
      (try clear hb2)
      (try clear hk)
      (try clear hi)
      (try clear ho0)
      obtain ⟨Ao49, co49, eo49⟩ := Kd.R_slice HO746.out
      (first | subst eo49 | (injection eo49 with f1_ f2_ f3_; have f4_ := f1_.symm; have f5_ := f3_.symm; clear f1_ f2_ f3_; subst f4_; subst f5_))
      refine hK.out _ _ ⟨(blk_cell BK731.out 0).trans rfl, (blk_cell BK731.out 1).trans rfl⟩ (fun hHeld => ?_)
      clear hK K
      refine norm_ (a' := ?_) ?_ ?_
      rotate_left
      · show Act.put _ (some 23) _ = _
        simp only [Act.put, List.setIfInBounds_toArray, List.set_cons_zero, List.set_cons_succ, i64_w, i32_w]
        rfl
      refine pure_ (i := 5) (N := some 24) (v := ?_) (a' := ?_) #[true, true, true, true, true, true, false, false] rfl rfl (any_of HT_.out (by kernel_rfl)) (fun _ _ _ h => h) (Or.inl ⟨by rfl, ?_⟩) ?_ ?_
      rotate_left
      · intro w'
        go_simp
        with_reducible rfl
      rotate_left
      · simp only [Act.put, List.setIfInBounds_toArray, List.set_cons_zero, List.set_cons_succ, i64_w, i32_w]
        rfl
      refine one_ (i := 6) (N := none) #[true, true, true, true, true, true, true, false] rfl rfl (one_of HT_.out (by kernel_rfl)) (by decide) (fun K hK => ?_)
      have hs50 : w48.cell? ⟨gb732, 0, none⟩ = some (.int .i64 0) := (blk_cell BK732.out 0).trans rfl
      have hfs50 := blk_frozen BK732.out 0
      have hns50_0 := NB731_732.out
      have hns50_2 := NB742_732.out
      have hms50_0 := NB732_731.out
      have hms50_2 := NB732_742.out
      have hs51 : w48.cell? ⟨gb732, 1, none⟩ = some (.slice none 0 0) := (blk_cell BK732.out 1).trans rfl
      have hfs51 := blk_frozen BK732.out 1
      have hns51_0 := NB731_732.out
      have hns51_2 := NB742_732.out
      have hms51_0 := NB732_731.out
      have hms51_2 := NB732_742.out
      refine skip_ (w1 := ?_) (by rfl) rfl ?_ ?_
      rotate_left
      · go_simp
        rfl
      refine hK.out _ _ ⟨((cell_far (p := ⟨gb732, _, none⟩) NB731_732.out _).trans (((cell_far (p := ⟨gb732, _, none⟩) NB731_732.out _).trans (hHeld.1)))), ((cell_far (p := ⟨gb732, _, none⟩) NB731_732.out _).trans (((cell_far (p := ⟨gb732, _, none⟩) NB731_732.out _).trans (hHeld.2))))⟩ (fun hHeld => ?_)
      clear hK K
      refine pure_ (i := 7) (N := some 5) (v := ?_) (a' := ?_) #[true, true, true, true, true, true, true, true] rfl rfl (any_of HT_.out (by kernel_rfl)) (fun _ _ _ h => h) (Or.inl ⟨by rfl, ?_⟩) ?_ ?_
      rotate_left
      · intro w'
        go_simp
        with_reducible rfl
      rotate_left
      · simp only [Act.put, List.setIfInBounds_toArray, List.set_cons_zero, List.set_cons_succ, i64_w, i32_w]
        rfl
      refine done_ (done_of HT_.out (by kernel_rfl)) ?_
      try go_wp2
      refine bodyPost_ret (results_ct rfl _ _ gb732 66 #[.int .i64 a0_0, .slice Ao49 t744.length co49] (0, 0) _ rfl (by (with_reducible repeat (first | refine blk_drewN ?_ _ | refine blk_drew ?_ | refine blk_alloc ?_ _)); refine blk_put (cs := #[.int .i64 a0_0, .slice none 0 0]) ?_ 1 _ rfl; (with_reducible repeat (first | refine blk_drewN ?_ _ | refine blk_drew ?_ | refine blk_alloc ?_ _)); refine blk_put (cs := #[.int .i64 0, .slice none 0 0]) ?_ 0 _ rfl; (with_reducible repeat (first | refine blk_drewN ?_ _ | refine blk_drew ?_ | refine blk_alloc ?_ _)); exact BK732.out) Tryd.underlying66 rfl (by kernel_rfl)) rfl ?_
      exact ⟨_, ee, rf HO746 BK732 (fun _ hk => trivial), bb HB⟩
  · rw [if_neg c4] at H
    exact absurd H (by simp)
end Go.Proofs.YtibmeomlokigjaaDoor.Q
section
namespace Go.Proofs.YtibmeomlokigjaaDoor.Q
open Go.RowKit Go.Proofs.YtibmeomlokigjaaDoorW.PrintWords Go.Proofs.YtibmeomlokigjaaDoorW.PrintLast Go.Proofs.YtibmeomlokigjaaDoorW.PrintMore
attribute [local go_sem] max2_int min2_int max_two min_two max_three min_three max_four min_four
set_option linter.unusedVariables false
set_option linter.unusedSimpArgs false
mutual
def impl_WaysToWin.j0 : Nat → Int → Bool → Int → List Int → Option (Int)
  | 0, _, _, _, _ => none
  | k + 1, x1, x21, x748000, x748001 => if x21 = true then (some 0) else (if (x748001.length : Int) = (wrap64 (x748000 - 1)) then ((impl_ChampionOf.f k x748000 x748001).bind fun t750 => (if t750 = x1 then (some 1) else (some 0))) else ((impl_OpponentsOf.f k x748000 x748001 (x748001.length : Int)).bind fun bt751 => ((impl_WinGame.f k x748000 x748001 bt751.1).bind fun bt754 => ((impl_WinGame.f k x748000 x748001 bt751.2.1).bind fun bt760 => ((impl_WaysToWin.f k bt754.1 bt754.2.1 x1).bind fun t766 => ((impl_WaysToWin.f k bt760.1 bt760.2.1 x1).bind fun t767 => (some (wrap64 (t766 + t767)))))))))
def impl_WaysToWin.f : Nat → Int → List Int → Int → Option (Int)
  | 0, _, _, _ => none
  | k + 1, a0_0, l0_1, a1 => (impl_CupOk.f k a0_0 l0_1).bind fun t748 => (if t748 = true then ((impl_within.f a1 1 a0_0).bind fun t749 => (impl_WaysToWin.j0 k a1 (!t749) a0_0 l0_1)) else (impl_WaysToWin.j0 k a1 true a0_0 l0_1))
end
def impl_WaysToWin.T10 : Bool × List (List Nat × List Nat) := (true, [([], []), ([], []), ([0, 1], [0, 1]), ([], []), ([], []), ([3, 4, 2], [3, 4]), ([2, 5], [2, 5]), ([6, 5, 0, 1, 2, 3, 4, 5, 6], [6])])
def impl_WaysToWin.B10 : List Nat := [0, 0, 3, 0, 0, 31, 63, 127]
theorem impl_WaysToWin.tab10 : rtab .any (opsOf Tryd.f42 10) = impl_WaysToWin.T10 := by kernel_rfl
theorem impl_WaysToWin.bits10 : waitsOk impl_WaysToWin.T10.2 impl_WaysToWin.B10 = true := by kernel_rfl
set_option maxHeartbeats 8000000 in
set_option maxRecDepth 100000 in
theorem impl_WaysToWin.calls (k : Nat) : ∀ (a0_0 : Int) (A0_1 : Option Addr) (c0_1 : Nat) (l0_1 : List Int) (a1 : Int) (r : Int) (w : World) (hr0_1 : Kd.C (Kd.int .i64) w A0_1 l0_1.length l0_1) (hc0_1 : l0_1.length ≤ c0_1) (h : impl_WaysToWin.f k a0_0 l0_1 a1 = some r),
    Calls Tryd.prog 42 #[.agg #[.int .i64 a0_0, .slice A0_1 l0_1.length c0_1], .int .i64 a1] w fun e w' => e = .returned (.int .i64 r) ∧ Below w.heap.size w w' := by
  induction k using Nat.strongRecOn with
  | _ k ih =>
  intro a0_0 A0_1 c0_1 l0_1 a1 r w hr0_1 hc0_1 h
  cases k with
  | zero => exact absurd h (by simp [impl_WaysToWin.f])
  | succ k =>
  simp only [impl_WaysToWin.f] at h
  have hu66 := Tryd.underlying66
  have HR0_1 := Aside0.mk hr0_1
  have HC0_1 := Aside0.mk hc0_1
  clear hr0_1 hc0_1
  have HB := Aside0.mk (Below.refl w.heap.size w)
  have H : ((impl_CupOk.f k a0_0 l0_1).bind fun t748 => (if t748 = true then ((impl_within.f a1 1 a0_0).bind fun t749 => (impl_WaysToWin.j0 k a1 (!t749) a0_0 l0_1)) else (impl_WaysToWin.j0 k a1 true a0_0 l0_1))) = some r := h
  clear h
  have HC3 := Aside0.mk H
  clear H
  go_enter Tryd.func42, Tryd.ntmps42
  go_upto_region 1 with (first | ((with_reducible refine gate_dst (N := 2) rfl ?_); refine bx (N := 2) (cs := #[.int .i64 a0_0, .slice A0_1 l0_1.length c0_1]) (t := 66) ?_; intro gb747 hg w4 hbox hb; have BK747 := Aside0.mk (hbox); have GW747 := gs hg HB; have GE747 := gs hg HB; replace HB := hs_ HB hb; clear hb hbox hg))
  (try simp only [Act.put, List.setIfInBounds_toArray, List.set_cons_zero, List.set_cons_succ])
  go_cut [21] (fun v21 wc => ∃ (kq : Nat) (x21_2 : Bool), v21 = .bool x21_2 ∧ Aside0 (impl_WaysToWin.j0 kq a1 x21_2 a0_0 l0_1 = some r) ∧ Aside0 (kq ≤ k) ∧ Aside0 (wc.heap[gb747]? = some (.cells #[.int .i64 a0_0, (.slice A0_1 l0_1.length c0_1)] 66 (0, 0))) ∧ Aside0 (Below w.heap.size w wc))
  case first =>
    have H := HC3.out
    clear HC3
    replace H := Option.bind_eq_some_iff.mp H
    obtain ⟨t748, A50, H⟩ := H
    replace H : (if t748 = true then ((impl_within.f a1 1 a0_0).bind fun t749 => (impl_WaysToWin.j0 k a1 (!t749) a0_0 l0_1)) else (impl_WaysToWin.j0 k a1 true a0_0 l0_1)) = some r := H
    have A5 := Aside0.mk A50
    clear A50
    by_cases c6 : t748 = true
    · subst c6
      have H1 : ((impl_within.f a1 1 a0_0).bind fun t749 => (impl_WaysToWin.j0 k a1 (!t749) a0_0 l0_1)) = some r := by rw [if_pos rfl] at H; exact H
      clear H
      have H := H1
      clear H1
      replace H := Option.bind_eq_some_iff.mp H
      obtain ⟨t749, A70, H⟩ := H
      replace H : (impl_WaysToWin.j0 k a1 (!t749) a0_0 l0_1) = some r := H
      have A7 := Aside0.mk A70
      clear A70
      have H' := Aside0.mk H
      clear H
      have ⟨hcz8_0, hcz8_1, hfz8_0, hfz8_1⟩ := rz2 BK747
      go_wp2_with (first | ((with_reducible refine gate_callee (f := 40) rfl ?_); refine gl (some 13) Tryd.func40 #[.agg #[.int .i64 a0_0, .slice A0_1 l0_1.length c0_1]] ?_; (with_reducible refine (impl_CupOk.calls k a0_0 _ _ l0_1 true _ ?side1 ?side2 A5.out).mono ?_); (case side1 => exact cc HR0_1 HB); (case side2 => exact HC0_1.out); rintro e w9 ⟨rfl, hb⟩; refine ⟨_, rfl, ?_⟩; replace BK747 := kb BK747 hb; replace HB := hs_ HB hb; (try clear hb); (try clear hb2); (try clear hk); (try clear hi); have ⟨hcz10_0, hcz10_1, hfz10_0, hfz10_1⟩ := rz2 BK747) | (go_at_call 55; (with_reducible refine (impl_within.calls a1 1 a0_0 t749 _ A7.out).mono ?_); rintro e w' ⟨rfl, ⟨nd, rfl⟩⟩))
      go_meet
      case rel => exact ⟨_, (!t749), e2_, H', ⟨by first | omega | exact Nat.le_refl _⟩, ⟨bk BK747⟩, ⟨bb HB⟩⟩
    · replace c6 := Bool.eq_false_iff.mpr c6
      subst c6
      have H1 : (impl_WaysToWin.j0 k a1 true a0_0 l0_1) = some r := by rw [if_neg (show ¬ (false = true) by decide)] at H; exact H
      clear H
      have H := H1
      clear H1
      have H' := Aside0.mk H
      clear H
      have ⟨hcz11_0, hcz11_1, hfz11_0, hfz11_1⟩ := rz2 BK747
      go_wp2_with (first | ((with_reducible refine gate_callee (f := 40) rfl ?_); refine gl (some 13) Tryd.func40 #[.agg #[.int .i64 a0_0, .slice A0_1 l0_1.length c0_1]] ?_; (with_reducible refine (impl_CupOk.calls k a0_0 _ _ l0_1 false _ ?side1 ?side2 A5.out).mono ?_); (case side1 => exact cc HR0_1 HB); (case side2 => exact HC0_1.out); rintro e w12 ⟨rfl, hb⟩; refine ⟨_, rfl, ?_⟩; replace BK747 := kb BK747 hb; replace HB := hs_ HB hb; (try clear hb); (try clear hb2); (try clear hk); (try clear hi)))
      go_meet
      case rel => exact ⟨_, (true), e2_, H', ⟨by first | omega | exact Nat.le_refl _⟩, ⟨bk BK747⟩, ⟨bb HB⟩⟩
  case rest =>
    clear HC3
    (try clear p2)
    (try clear c4)
    (try clear c6)
    (try clear hcz10_0 hcz10_1)
    (try clear hcz11_0 hcz11_1)
    (try clear hcz8_0 hcz8_1)
    (try clear hfz10_0 hfz10_1)
    (try clear hfz11_0 hfz11_1)
    (try clear hfz8_0 hfz8_1)
    obtain ⟨kq, x21_2, rfl, HA, HJ2, BK747, HB⟩ := hcut
    cases kq with
    | zero => exact absurd HA.out (by simp [impl_WaysToWin.j0])
    | succ kj2 =>
      have H := HA.out
      clear HA
      simp only [impl_WaysToWin.j0] at H
      by_cases c13 : x21_2 = true
      · subst c13
        have H1 : (some 0) = some r := by rw [if_pos rfl] at H; exact H
        clear H
        have H := H1
        clear H1
        obtain rfl := Option.some.inj H
        go_wp2
        go_ret
        exact ⟨ee, bb HB⟩
      · replace c13 := Bool.eq_false_iff.mpr c13
        subst c13
        have H1 : (if (l0_1.length : Int) = (wrap64 (a0_0 - 1)) then ((impl_ChampionOf.f kj2 a0_0 l0_1).bind fun t750 => (if t750 = a1 then (some 1) else (some 0))) else ((impl_OpponentsOf.f kj2 a0_0 l0_1 (l0_1.length : Int)).bind fun bt751 => ((impl_WinGame.f kj2 a0_0 l0_1 bt751.1).bind fun bt754 => ((impl_WinGame.f kj2 a0_0 l0_1 bt751.2.1).bind fun bt760 => ((impl_WaysToWin.f kj2 bt754.1 bt754.2.1 a1).bind fun t766 => ((impl_WaysToWin.f kj2 bt760.1 bt760.2.1 a1).bind fun t767 => (some (wrap64 (t766 + t767))))))))) = some r := by rw [if_neg (show ¬ (false = true) by decide)] at H; exact H
        clear H
        have H := H1
        clear H1
        by_cases c14 : (l0_1.length : Int) = (wrap64 (a0_0 - 1))
        · rw [if_pos c14] at H
          have c14b0 : ((l0_1.length : Int) == (wrap64 (a0_0 - 1))) = true := beq_iff_eq.mpr c14
          have c14b1 : ((l0_1.length : Int) != (wrap64 (a0_0 - 1))) = false := bne_eq_false_iff_eq.mpr c14
          clear c14
          replace H := Option.bind_eq_some_iff.mp H
          obtain ⟨t750, A150, H⟩ := H
          replace H : (if t750 = a1 then (some 1) else (some 0)) = some r := H
          have A15 := Aside0.mk A150
          clear A150
          by_cases c16 : t750 = a1
          · rw [if_pos c16] at H
            have c16b0 : (t750 == a1) = true := beq_iff_eq.mpr c16
            have c16b1 : (t750 != a1) = false := bne_eq_false_iff_eq.mpr c16
            clear c16
            obtain rfl := Option.some.inj H
            have ⟨hcz17_0, hcz17_1, hfz17_0, hfz17_1⟩ := rz2 BK747
            go_wp2_with (first | ((with_reducible refine gate_callee (f := 45) rfl ?_); refine gl (some 30) Tryd.func45 #[.agg #[.int .i64 a0_0, .slice A0_1 l0_1.length c0_1]] ?_; (with_reducible refine (impl_ChampionOf.calls kj2 a0_0 _ _ l0_1 t750 _ ?side1 ?side2 A15.out).mono ?_); (case side1 => exact cc HR0_1 HB); (case side2 => exact HC0_1.out); rintro e w18 ⟨rfl, hb⟩; refine ⟨_, rfl, ?_⟩; replace BK747 := kb BK747 hb; replace HB := hs_ HB hb; (try clear hb); (try clear hb2); (try clear hk); (try clear hi)))
            go_ret
            exact ⟨ee, bb HB⟩
          · rw [if_neg c16] at H
            have c16b0 : (t750 == a1) = false := beq_eq_false_iff_ne.mpr c16
            have c16b1 : (t750 != a1) = true := bne_iff_ne.mpr c16
            obtain rfl := Option.some.inj H
            have ⟨hcz19_0, hcz19_1, hfz19_0, hfz19_1⟩ := rz2 BK747
            go_wp2_with (first | ((with_reducible refine gate_callee (f := 45) rfl ?_); refine gl (some 30) Tryd.func45 #[.agg #[.int .i64 a0_0, .slice A0_1 l0_1.length c0_1]] ?_; (with_reducible refine (impl_ChampionOf.calls kj2 a0_0 _ _ l0_1 t750 _ ?side1 ?side2 A15.out).mono ?_); (case side1 => exact cc HR0_1 HB); (case side2 => exact HC0_1.out); rintro e w20 ⟨rfl, hb⟩; refine ⟨_, rfl, ?_⟩; replace BK747 := kb BK747 hb; replace HB := hs_ HB hb; (try clear hb); (try clear hb2); (try clear hk); (try clear hi)))
            go_ret
            exact ⟨ee, bb HB⟩
        · rw [if_neg c14] at H
          have c14b0 : ((l0_1.length : Int) == (wrap64 (a0_0 - 1))) = false := beq_eq_false_iff_ne.mpr c14
          have c14b1 : ((l0_1.length : Int) != (wrap64 (a0_0 - 1))) = true := bne_iff_ne.mpr c14
          replace H := Option.bind_eq_some_iff.mp H
          obtain ⟨⟨t751, t752, t753⟩, A210, H⟩ := H
          replace H : ((impl_WinGame.f kj2 a0_0 l0_1 t751).bind fun bt754 => ((impl_WinGame.f kj2 a0_0 l0_1 t752).bind fun bt760 => ((impl_WaysToWin.f kj2 bt754.1 bt754.2.1 a1).bind fun t766 => ((impl_WaysToWin.f kj2 bt760.1 bt760.2.1 a1).bind fun t767 => (some (wrap64 (t766 + t767))))))) = some r := H
          have A21 := Aside0.mk A210
          clear A210
          replace H := Option.bind_eq_some_iff.mp H
          obtain ⟨⟨t754, t755, t758⟩, A220, H⟩ := H
          replace H : ((impl_WinGame.f kj2 a0_0 l0_1 t752).bind fun bt760 => ((impl_WaysToWin.f kj2 t754 t755 a1).bind fun t766 => ((impl_WaysToWin.f kj2 bt760.1 bt760.2.1 a1).bind fun t767 => (some (wrap64 (t766 + t767)))))) = some r := H
          have A22 := Aside0.mk A220
          clear A220
          replace H := Option.bind_eq_some_iff.mp H
          obtain ⟨⟨t760, t761, t764⟩, A230, H⟩ := H
          replace H : ((impl_WaysToWin.f kj2 t754 t755 a1).bind fun t766 => ((impl_WaysToWin.f kj2 t760 t761 a1).bind fun t767 => (some (wrap64 (t766 + t767))))) = some r := H
          have A23 := Aside0.mk A230
          clear A230
          replace H := Option.bind_eq_some_iff.mp H
          obtain ⟨t766, A240, H⟩ := H
          replace H : ((impl_WaysToWin.f kj2 t760 t761 a1).bind fun t767 => (some (wrap64 (t766 + t767)))) = some r := H
          have A24 := Aside0.mk A240
          clear A240
          replace H := Option.bind_eq_some_iff.mp H
          obtain ⟨t767, A250, H⟩ := H
          replace H : (some (wrap64 (t766 + t767))) = some r := H
          have A25 := Aside0.mk A250
          clear A250
          obtain rfl := Option.some.inj H
          have ⟨hcz26_0, hcz26_1, hfz26_0, hfz26_1⟩ := rz2 BK747
          try go_wp2_with (first | ((with_reducible refine gate_callee (f := 74) rfl ?_); refine gl (some 38) Tryd.func74 #[.agg #[.int .i64 a0_0, .slice A0_1 l0_1.length c0_1], .int .i64 (l0_1.length : Int)] ?_; (with_reducible refine (impl_OpponentsOf.calls kj2 a0_0 _ _ l0_1 (l0_1.length : Int) t751 t752 t753 _ ?side1 ?side2 A21.out).mono ?_); (case side1 => exact cc HR0_1 HB); (case side2 => exact HC0_1.out); rintro e w27 ⟨rfl, hb⟩; refine ⟨_, rfl, ?_⟩; replace BK747 := kb BK747 hb; replace HB := hs_ HB hb; (try clear hb); (try clear hb2); (try clear hk); (try clear hi); have ⟨hcz28_0, hcz28_1, hfz28_0, hfz28_1⟩ := rz2 BK747) | ((with_reducible refine gate_callee (f := 75) rfl ?_); refine gl (some 45) Tryd.func75 #[.agg #[.int .i64 a0_0, .slice A0_1 l0_1.length c0_1], .int .i64 t751] ?_; (with_reducible refine (impl_WinGame.calls kj2 a0_0 _ _ l0_1 t751 t754 t755 t758 _ ?side1 ?side2 A22.out).mono ?_); (case side1 => exact cc HR0_1 HB); (case side2 => exact HC0_1.out); rintro e w29 ⟨v756, rfl, ho0, hb⟩; refine ⟨_, rfl, ?_⟩; have HO757 := kl ho0 HB; replace BK747 := kb BK747 hb; replace HB := hs_ HB hb; (try clear hb); (try clear hb2); (try clear hk); (try clear hi); (try clear ho0)) | ((with_reducible refine gate_dst (N := 8) rfl ?_); refine bx (N := 8) (cs := #[.int .i64 0, .slice none 0 0]) (t := 66) ?_; intro gb759 hg w30 hbox hb; replace HO757 := kr HO757 hb; have BK759 := Aside0.mk (hbox); have GW759 := gs hg HB; have GE759 := gs hg HB; replace HB := hs_ HB hb; have NB747_759 := gn hg BK747; have NB759_747 := gm hg BK747; replace BK747 := kb BK747 hb; clear hb hbox hg; have hnb31 := NB759_747.out; have hnc31 := NB747_759.out; have ⟨hcz32_0, hcz32_1, hfz32_0, hfz32_1⟩ := rz2 BK759; obtain ⟨Ao33, co33, eo33⟩ := Kd.R_slice HO757.out; subst eo33; have ⟨hcz34_0, hcz34_1, hfz34_0, hfz34_1⟩ := rz2 BK747) | ((with_reducible refine gate_callee (f := 75) rfl ?_); refine gl (some 51) Tryd.func75 #[.agg #[.int .i64 a0_0, .slice A0_1 l0_1.length c0_1], .int .i64 t752] ?_; (with_reducible refine (impl_WinGame.calls kj2 a0_0 _ _ l0_1 t752 t760 t761 t764 _ ?side1 ?side2 A23.out).mono ?_); (case side1 => exact Kd.C_below HR0_1.out (bb HB)); (case side2 => exact HC0_1.out); rintro e w35 ⟨v762, rfl, ho0, hb⟩; refine ⟨_, rfl, ?_⟩; have HO763 := Aside0.mk (Kd.R_lower (Kd.R_new' ho0 (Kd.R_lt (rf HO757 BK759 (fun _ h_ => h_.1)))) (below_size (bb HB))); replace HO757 := Aside0.mk (Kd.R_elder' (rf HO757 BK759 (fun _ h_ => h_.1)) (Kd.R_base ho0) hb); replace BK747 := Aside0.mk (blk_below (g := gb747) (o := .cells #[.int .i64 a0_0, .slice A0_1 l0_1.length c0_1] 66 (0, 0)) (by (with_reducible repeat (first | refine blk_drewN ?_ _ | refine blk_drew ?_ | refine blk_alloc ?_ _)); refine blk_far ?_ NB747_759.out _; (with_reducible repeat (first | refine blk_drewN ?_ _ | refine blk_drew ?_ | refine blk_alloc ?_ _)); refine blk_far ?_ NB747_759.out _; (with_reducible repeat (first | refine blk_drewN ?_ _ | refine blk_drew ?_ | refine blk_alloc ?_ _)); exact BK747.out) hb); replace BK759 := Aside0.mk (blk_below (g := gb759) (o := .cells #[.int .i64 t754, .slice Ao33 t755.length co33] 66 (0, 0)) (by (with_reducible repeat (first | refine blk_drewN ?_ _ | refine blk_drew ?_ | refine blk_alloc ?_ _)); refine blk_put (cs := #[.int .i64 t754, .slice none 0 0]) ?_ 1 _ rfl; (with_reducible repeat (first | refine blk_drewN ?_ _ | refine blk_drew ?_ | refine blk_alloc ?_ _)); refine blk_put (cs := #[.int .i64 0, .slice none 0 0]) ?_ 0 _ rfl; (with_reducible repeat (first | refine blk_drewN ?_ _ | refine blk_drew ?_ | refine blk_alloc ?_ _)); exact BK759.out) hb); replace HB := hs_ HB hb; (try clear hb); (try clear hb2); (try clear hk); (try clear hi); (try clear ho0)) | ((with_reducible refine gate_dst (N := 10) rfl ?_); refine bx (N := 10) (cs := #[.int .i64 0, .slice none 0 0]) (t := 66) ?_; intro gb765 hg w36 hbox hb; replace HO757 := kr HO757 hb; replace HO763 := kr HO763 hb; have BK765 := Aside0.mk (hbox); have GW765 := gs hg HB; have GE765 := gs hg HB; replace HB := hs_ HB hb; have NB747_765 := gn hg BK747; have NB765_747 := gm hg BK747; replace BK747 := kb BK747 hb; have NB759_765 := gn hg BK759; have NB765_759 := gm hg BK759; replace BK759 := kb BK759 hb; clear hb hbox hg; have hnb37 := NB765_747.out; have hnc37 := NB747_765.out; have hnb38 := NB765_759.out; have hnc38 := NB759_765.out; have ⟨hcz39_0, hcz39_1, hfz39_0, hfz39_1⟩ := rz2 BK765; obtain ⟨Ao40, co40, eo40⟩ := Kd.R_slice HO763.out; subst eo40))
          have n0_ : Aside0 (Kd.R (Kd.int .i64) 3 ((w36.setCell ⟨gb765, 0, none⟩ (.int .i64 t760)).setCell ⟨gb765, 1, none⟩ (.slice Ao40 t761.length co40)) w.heap.size (fun k_ => some k_ ≠ (.slice Ao40 t761.length co40 : Value).ownBlock) (.slice Ao33 t755.length co33) t755) := ⟨rf HO757 BK765 (fun _ hk => hk.1.2)⟩
          have n1_ : Aside0 (Kd.R (Kd.int .i64) 3 ((w36.setCell ⟨gb765, 0, none⟩ (.int .i64 t760)).setCell ⟨gb765, 1, none⟩ (.slice Ao40 t761.length co40)) w.heap.size (fun k_ => some k_ ≠ (.slice Ao33 t755.length co33 : Value).ownBlock) (.slice Ao40 t761.length co40) t761) := ⟨rf HO763 BK765 (fun _ hk => hk.1.2)⟩
          have n2_ : Aside0 (((w36.setCell ⟨gb765, 0, none⟩ (.int .i64 t760)).setCell ⟨gb765, 1, none⟩ (.slice Ao40 t761.length co40)).heap[gb747]? = some (.cells #[.int .i64 a0_0, .slice A0_1 l0_1.length c0_1] 66 (0, 0))) := ⟨by (with_reducible repeat (first | refine blk_drewN ?_ _ | refine blk_drew ?_ | refine blk_alloc ?_ _)); refine blk_far ?_ NB747_765.out _; (with_reducible repeat (first | refine blk_drewN ?_ _ | refine blk_drew ?_ | refine blk_alloc ?_ _)); refine blk_far ?_ NB747_765.out _; (with_reducible repeat (first | refine blk_drewN ?_ _ | refine blk_drew ?_ | refine blk_alloc ?_ _)); exact BK747.out⟩
          have n3_ : Aside0 (((w36.setCell ⟨gb765, 0, none⟩ (.int .i64 t760)).setCell ⟨gb765, 1, none⟩ (.slice Ao40 t761.length co40)).heap[gb759]? = some (.cells #[.int .i64 t754, .slice Ao33 t755.length co33] 66 (0, 0))) := ⟨by (with_reducible repeat (first | refine blk_drewN ?_ _ | refine blk_drew ?_ | refine blk_alloc ?_ _)); refine blk_far ?_ NB759_765.out _; (with_reducible repeat (first | refine blk_drewN ?_ _ | refine blk_drew ?_ | refine blk_alloc ?_ _)); refine blk_far ?_ NB759_765.out _; (with_reducible repeat (first | refine blk_drewN ?_ _ | refine blk_drew ?_ | refine blk_alloc ?_ _)); exact BK759.out⟩
          have n4_ : Aside0 (((w36.setCell ⟨gb765, 0, none⟩ (.int .i64 t760)).setCell ⟨gb765, 1, none⟩ (.slice Ao40 t761.length co40)).heap[gb765]? = some (.cells #[.int .i64 t760, .slice Ao40 t761.length co40] 66 (0, 0))) := ⟨by (with_reducible repeat (first | refine blk_drewN ?_ _ | refine blk_drew ?_ | refine blk_alloc ?_ _)); refine blk_put (cs := #[.int .i64 t760, .slice none 0 0]) ?_ 1 _ rfl; (with_reducible repeat (first | refine blk_drewN ?_ _ | refine blk_drew ?_ | refine blk_alloc ?_ _)); refine blk_put (cs := #[.int .i64 0, .slice none 0 0]) ?_ 0 _ rfl; (with_reducible repeat (first | refine blk_drewN ?_ _ | refine blk_drew ?_ | refine blk_alloc ?_ _)); exact BK765.out⟩
          have n5_ : Aside0 (Below w.heap.size w ((w36.setCell ⟨gb765, 0, none⟩ (.int .i64 t760)).setCell ⟨gb765, 1, none⟩ (.slice Ao40 t761.length co40))) := ⟨bb HB⟩
          (try clear HO757)
          (try clear HO763)
          (try clear BK747)
          (try clear BK759)
          (try clear BK765)
          (try clear HB)
          generalize ((w36.setCell ⟨gb765, 0, none⟩ (.int .i64 t760)).setCell ⟨gb765, 1, none⟩ (.slice Ao40 t761.length co40)) = w41 at n0_ n1_ n2_ n3_ n4_ n5_ ⊢
          have HO757 := n0_
          have HO763 := n1_
          have BK747 := n2_
          have BK759 := n3_
          have BK765 := n4_
          have HB := n5_
          clear n0_ n1_ n2_ n3_ n4_ n5_
          replace HO757 := Aside0.mk (Kd.R_drew HO757.out)
          replace HO763 := Aside0.mk (Kd.R_drew HO763.out)
          replace BK747 := Aside0.mk (blk_drew BK747.out)
          replace BK759 := Aside0.mk (blk_drew BK759.out)
          replace BK765 := Aside0.mk (blk_drew BK765.out)
          replace HB := Aside0.mk (below_drew1 HB.out)
          refine start_ (n := 8) (S := fun w' => w'.cell? ⟨gb759, 0, none⟩ = some (.int .i64 t754) ∧ w'.cell? ⟨gb759, 1, none⟩ = some (.slice Ao33 t755.length co33) ∧ w'.cell? ⟨gb765, 0, none⟩ = some (.int .i64 t760) ∧ w'.cell? ⟨gb765, 1, none⟩ = some (.slice Ao40 t761.length co40)) (ds := []) #[false, false, false, false, false, false, false, false] (by kernel_rfl) rfl rfl ⟨(blk_cell BK759.out 0).trans rfl, (blk_cell BK759.out 1).trans rfl, (blk_cell BK765.out 0).trans rfl, (blk_cell BK765.out 1).trans rfl⟩ (fun hHeld => ?_); refine with_tabW impl_WaysToWin.tab10 impl_WaysToWin.bits10 (fun HT_ HW_ => ?_)
          generalize w41.drew = w42 at HO757 HO763 BK747 BK759 BK765 HB hHeld ⊢
          refine pure_ (i := 1) (N := some 55) (v := ?_) (a' := ?_) #[false, true, false, false, false, false, false, false] rfl rfl (any_of HT_.out (by kernel_rfl)) (fun _ _ _ h => h) (Or.inl ⟨by rfl, ?_⟩) ?_ ?_
          rotate_left
          · intro w'
            go_simp
            with_reducible rfl
          rotate_left
          · simp only [Act.put, List.setIfInBounds_toArray, List.set_cons_zero, List.set_cons_succ, i64_w, i32_w]
            rfl
          refine pure_ (i := 4) (N := some 58) (v := ?_) (a' := ?_) #[false, true, false, false, true, false, false, false] rfl rfl (any_of HT_.out (by kernel_rfl)) (fun _ _ _ h => h) (Or.inl ⟨by rfl, ?_⟩) ?_ ?_
          rotate_left
          · intro w'
            go_simp
            with_reducible rfl
          rotate_left
          · simp only [Act.put, List.setIfInBounds_toArray, List.set_cons_zero, List.set_cons_succ, i64_w, i32_w]
            rfl
          refine take_ (i := 0) (N := some 54) (v := ?_) (a' := ?_) #[true, true, false, false, true, false, false, false] rfl rfl (take_ofW HT_.out HW_.out (by kernel_rfl)) (fun _ _ _ h => h) (Or.inl ⟨by rfl, ?_⟩) hHeld ?_ ?_
          rotate_left
          · rintro w' ⟨s0, s1, s2, s3⟩
            go_simp
            with_reducible rfl
          rotate_left
          · simp only [Act.put, List.setIfInBounds_toArray, List.set_cons_zero, List.set_cons_succ, i64_w, i32_w]
            rfl
          refine take_ (i := 3) (N := some 57) (v := ?_) (a' := ?_) #[true, true, false, true, true, false, false, false] rfl rfl (take_ofW HT_.out HW_.out (by kernel_rfl)) (fun _ _ _ h => h) (Or.inl ⟨by rfl, ?_⟩) hHeld ?_ ?_
          rotate_left
          · rintro w' ⟨s0, s1, s2, s3⟩
            go_simp
            with_reducible rfl
          rotate_left
          · simp only [Act.put, List.setIfInBounds_toArray, List.set_cons_zero, List.set_cons_succ, i64_w, i32_w]
            rfl
          refine one_ (i := 2) (N := some 56) #[true, true, true, true, true, false, false, false] rfl rfl (one_of HT_.out (by kernel_rfl)) (by decide) (fun K hK => ?_)
          refine goes_ Tryd.func42 (by kernel_rfl) rfl #[.agg #[.int .i64 t754, .slice Ao33 t755.length co33], .int .i64 a1] (by rfl) rfl rfl (by (try simp only [List.map_toArray, List.map_cons, List.map_nil]); first | done | rfl | (simp only [List.length_drop, List.length_take]; rfl)) ?_
          with_reducible refine (ih kj2 (by have := HJ2.out; omega) t754 _ _ t755 a1 t766 _ ?side1 ?side2 A24.out).mono ?_
          (case side1 => exact cr HO757)
          (case side2 => exact (Kd.R_reads' HO757.out).2.1)
          rintro e w43 ⟨rfl, hb⟩
          refine ⟨_, rfl, ?_⟩
          replace HO757 := kr HO757 hb
          replace HO763 := kr HO763 hb
          replace BK747 := kb BK747 hb
          replace BK759 := kb BK759 hb
          replace BK765 := kb BK765 hb
          replace HB := hs_ HB hb
          (try clear hb)
          (try clear hb2)
          (try clear hk)
          (try clear hi)
          refine hK.out _ _ ⟨(blk_cell BK759.out 0).trans rfl, (blk_cell BK759.out 1).trans rfl, (blk_cell BK765.out 0).trans rfl, (blk_cell BK765.out 1).trans rfl⟩ (fun hHeld => ?_)
          clear hK K
          refine norm_ (a' := ?_) ?_ ?_
          rotate_left
          · show Act.put _ (some 56) _ = _
            simp only [Act.put, List.setIfInBounds_toArray, List.set_cons_zero, List.set_cons_succ, i64_w, i32_w]
            rfl
          refine one_ (i := 5) (N := some 59) #[true, true, true, true, true, true, false, false] rfl rfl (one_of HT_.out (by kernel_rfl)) (by decide) (fun K hK => ?_)
          refine goes_ Tryd.func42 (by kernel_rfl) rfl #[.agg #[.int .i64 t760, .slice Ao40 t761.length co40], .int .i64 a1] (by rfl) rfl rfl (by (try simp only [List.map_toArray, List.map_cons, List.map_nil]); first | done | rfl | (simp only [List.length_drop, List.length_take]; rfl)) ?_
          with_reducible refine (ih kj2 (by have := HJ2.out; omega) t760 _ _ t761 a1 t767 _ ?side1 ?side2 A25.out).mono ?_
          (case side1 => exact cr HO763)
          (case side2 => exact (Kd.R_reads' HO763.out).2.1)
          rintro e w44 ⟨rfl, hb⟩
          refine ⟨_, rfl, ?_⟩
          replace HO757 := kr HO757 hb
          replace HO763 := kr HO763 hb
          replace BK747 := kb BK747 hb
          replace BK759 := kb BK759 hb
          replace BK765 := kb BK765 hb
          replace HB := hs_ HB hb
          (try clear hb)
          (try clear hb2)
          (try clear hk)
          (try clear hi)
          refine hK.out _ _ ⟨(blk_cell BK759.out 0).trans rfl, (blk_cell BK759.out 1).trans rfl, (blk_cell BK765.out 0).trans rfl, (blk_cell BK765.out 1).trans rfl⟩ (fun hHeld => ?_)
          clear hK K
          refine norm_ (a' := ?_) ?_ ?_
          rotate_left
          · show Act.put _ (some 59) _ = _
            simp only [Act.put, List.setIfInBounds_toArray, List.set_cons_zero, List.set_cons_succ, i64_w, i32_w]
            rfl
          refine pure_ (i := 6) (N := some 60) (v := ?_) (a' := ?_) #[true, true, true, true, true, true, true, false] rfl rfl (any_of HT_.out (by kernel_rfl)) (fun _ _ _ h => h) (Or.inl ⟨by rfl, ?_⟩) ?_ ?_
          rotate_left
          · intro w'
            go_simp
            with_reducible rfl
          rotate_left
          · simp only [Act.put, List.setIfInBounds_toArray, List.set_cons_zero, List.set_cons_succ, i64_w, i32_w]
            rfl
          refine pure_ (i := 7) (N := some 4) (v := ?_) (a' := ?_) #[true, true, true, true, true, true, true, true] rfl rfl (any_of HT_.out (by kernel_rfl)) (fun _ _ _ h => h) (Or.inl ⟨by rfl, ?_⟩) ?_ ?_
          rotate_left
          · intro w'
            go_simp
            with_reducible rfl
          rotate_left
          · simp only [Act.put, List.setIfInBounds_toArray, List.set_cons_zero, List.set_cons_succ, i64_w, i32_w]
            rfl
          refine done_ (done_of HT_.out (by kernel_rfl)) ?_
          try go_wp2
          go_ret
          exact ⟨ee, bb HB⟩
end Go.Proofs.YtibmeomlokigjaaDoor.Q
end
namespace Go.Proofs.YtibmeomlokigjaaDoor.Q
open Go.RowKit Go.Proofs.YtibmeomlokigjaaDoorW.PrintWords Go.Proofs.YtibmeomlokigjaaDoorW.PrintLast Go.Proofs.YtibmeomlokigjaaDoorW.PrintMore
attribute [local go_sem] max2_int min2_int max_two min_two max_three min_three max_four min_four
set_option linter.unusedVariables false
set_option linter.unusedSimpArgs false
def slices_Index_int_int.l0 : Nat → List Int → Int → Int → Int → Option (Int)
  | 0, _, _, _, _ => none
  | k + 1, x0, x1, x7, x8 => if x8 < x7 then (if 0 ≤ x8 then (if x8 < (x0.length : Int) then (if x1 = (rd x0 x8) then (some x8) else (slices_Index_int_int.l0 k x0 x1 x7 (wrap64 (x8 + 1)))) else (none)) else (none)) else (some (-1))
def slices_Index_int_int.f (k : Nat) (l0 : List Int) (a1 : Int) : Option (Int) := slices_Index_int_int.l0 k l0 a1 (l0.length : Int) 0
theorem slices_Index_int_int.mono_l : ∀ k, (∀ y0 y1 y2 y3, LeO (slices_Index_int_int.l0 k y0 y1 y2 y3) (slices_Index_int_int.l0 (k + 1) y0 y1 y2 y3))
  | 0 => fun _ _ _ _ r h => by simp [slices_Index_int_int.l0] at h
  | k + 1 => by
    have ih0 := slices_Index_int_int.mono_l k
    · intro y0 y1 y2 y3
      unfold slices_Index_int_int.l0
      repeat' first
      | (with_reducible exact ih0 _ _ _ _)
      | (with_reducible exact LeO.refl _)
      | (with_reducible exact LeO.none _)
      | (with_reducible refine LeO.ite ?_ ?_)
      | (with_reducible refine LeO.bind ?_ (fun _ => ?_))
      | exact ih0 _ _ _ _
      | exact LeO.none _
      | refine LeO.ite ?_ ?_
      | refine LeO.bind ?_ (fun _ => ?_)
theorem slices_Index_int_int.mono : ∀ a0 a1 k, LeO (slices_Index_int_int.f k a0 a1) (slices_Index_int_int.f (k + 1) a0 a1) := by
  intro a0 a1 k
  have ih0 := slices_Index_int_int.mono_l k
  unfold slices_Index_int_int.f
  repeat' first
      | (with_reducible exact ih0 _ _ _ _)
      | (with_reducible exact LeO.refl _)
      | (with_reducible exact LeO.none _)
      | (with_reducible refine LeO.ite ?_ ?_)
      | (with_reducible refine LeO.bind ?_ (fun _ => ?_))
      | exact ih0 _ _ _ _
      | exact LeO.none _
      | refine LeO.ite ?_ ?_
      | refine LeO.bind ?_ (fun _ => ?_)
set_option maxHeartbeats 8000000 in
set_option maxRecDepth 100000 in
theorem slices_Index_int_int.calls (k : Nat) (A0 : Option Addr) (c0 : Nat) (l0 : List Int) (a1 : Int) (r : Int) (w : World) (hr0 : Kd.C (Kd.int .i64) w A0 l0.length l0) (hc0 : l0.length ≤ c0) (h : slices_Index_int_int.f k l0 a1 = some r) :
    Calls Tryd.prog 76 #[.slice A0 l0.length c0, .int .i64 a1] w fun e w' => e = .returned (.int .i64 r) ∧ Drawn0 w w' := by
  have HR0 := Aside0.mk hr0
  have HC0 := Aside0.mk hc0
  clear hr0 hc0
  have H : (slices_Index_int_int.l0 k l0 a1 (l0.length : Int) 0) = some r := h
  clear h
  have H' := Aside0.mk H
  clear H
  go_enter Tryd.func76, Tryd.ntmps76
  go_wp2
  go_loopg [8] k (fun kq v8 w' => ∃ (x8_1 : Int), v8 = .int .i64 x8_1 ∧ Aside0 (slices_Index_int_int.l0 kq l0 a1 (l0.length : Int) x8_1 = some r) ∧ Aside0 (kq ≤ k) ∧ Drawn0 w w')
  case atStart => exact ⟨(0), e2_, H', ⟨Nat.le_refl _⟩, by repeat (first | exact Drawn0.refl _ | apply Drawn0.step)⟩
  case round =>
    clear H'
    (try clear p2)
    obtain ⟨x8_1, rfl, HA, HK1, ⟨m1, rfl⟩⟩ := hrel
    cases gk with
    | zero => exact absurd HA.out (by simp [slices_Index_int_int.l0])
    | succ k1 =>
      have H := HA.out
      clear HA
      simp only [slices_Index_int_int.l0] at H
      by_cases c3 : x8_1 < (l0.length : Int)
      · rw [if_pos c3] at H
        have c3b0 : decide (x8_1 < (l0.length : Int)) = true := decide_eq_true c3
        clear c3
        by_cases c4 : 0 ≤ x8_1
        · rw [if_pos c4] at H
          have c4b0 : decide (0 ≤ x8_1) = true := decide_eq_true c4
          clear c4
          by_cases c5 : x8_1 < (l0.length : Int)
          · rw [if_pos c5] at H
            have c5b0 : decide (x8_1 < (l0.length : Int)) = true := decide_eq_true c5
            clear c5
            by_cases c6 : a1 = (rd l0 x8_1)
            · rw [if_pos c6] at H
              have c6b0 : (a1 == (rd l0 x8_1)) = true := beq_iff_eq.mpr c6
              have c6b1 : (a1 != (rd l0 x8_1)) = false := bne_eq_false_iff_eq.mpr c6
              clear c6
              obtain rfl := Option.some.inj H
              have p335 : 0 ≤ (x8_1 : Int) := of_decide_eq_true (by first | (with_reducible assumption) | assumption)
              have q335 : x8_1 < (l0.length : Int) := of_decide_eq_true (by first | (with_reducible assumption) | assumption)
              obtain ⟨ad335, e335, hx335_0⟩ := Kd.at_int HR0.out x8_1 p335 q335
              cases e335
              replace p335 := eq_true p335
              replace q335 := eq_true q335
              go_wp2
              go_ret
              exact ⟨e2_, by repeat (first | exact Drawn0.refl _ | apply Drawn0.step)⟩
            · rw [if_neg c6] at H
              have c6b0 : (a1 == (rd l0 x8_1)) = false := beq_eq_false_iff_ne.mpr c6
              have c6b1 : (a1 != (rd l0 x8_1)) = true := bne_iff_ne.mpr c6
              have H' := Aside0.mk H
              clear H
              have p335 : 0 ≤ (x8_1 : Int) := of_decide_eq_true (by first | (with_reducible assumption) | assumption)
              have q335 : x8_1 < (l0.length : Int) := of_decide_eq_true (by first | (with_reducible assumption) | assumption)
              obtain ⟨ad335, e335, hx335_0⟩ := Kd.at_int HR0.out x8_1 p335 q335
              cases e335
              replace p335 := eq_true p335
              replace q335 := eq_true q335
              go_wp2
              go_roundg k1
              case measure => have := HK1.out; omega
              case rel => exact ⟨(wrap64 (x8_1 + 1)), e2_, H', ⟨by have := HK1.out; omega⟩, by repeat (first | exact Drawn0.refl _ | apply Drawn0.step)⟩
          · rw [if_neg c5] at H
            exact absurd H (by simp)
        · rw [if_neg c4] at H
          exact absurd H (by simp)
      · rw [if_neg c3] at H
        have c3b0 : decide (x8_1 < (l0.length : Int)) = false := decide_eq_false c3
        clear c3
        obtain rfl := Option.some.inj H
        go_wp2
        go_ret
        exact ⟨e2_, by repeat (first | exact Drawn0.refl _ | apply Drawn0.step)⟩
end Go.Proofs.YtibmeomlokigjaaDoor.Q
