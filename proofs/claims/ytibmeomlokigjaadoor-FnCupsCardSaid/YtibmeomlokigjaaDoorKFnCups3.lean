/- A part of the proof of FnCups: functions of the program, as plain functions, with the proof that the machine's call does what they say; plain lemmas; and those of the words that print.sh prints which this proof uses. No condition. -/
import Derived.Test.YtibmeomlokigjaaDoorKFnCups1
import Derived.Test.YtibmeomlokigjaaDoorProg
import Derived.Below
import Derived.Deep.Draws
import Derived.Deep.AppendLies
import Derived.Maps.AppendAt
import Derived.OwnWalk
import Derived.Laws.BytesArg
import Derived.Laws.MakeOwn
import Derived.Laws.OwnMore
import Derived.Deep.OwnRows
import Derived.Tactics
import Derived.Lib.ConvBytes
import Derived.Laws.Slices
import Derived.WalkKit
import Derived.KernelRfl
import Derived.RowKit3
import Derived.Deep.LoopGhost
import Derived.Deep.QuietTactic
import Derived.BigQuiet
import Derived.WideLaws
import Derived.Deep.DeepCutAuto
import Derived.Deep.CutBlock
import Derived.Deep.RegionHeld3
import Derived.Laws.Rows
import Derived.Lib.AppendStr
import Derived.ArgAppend
import Derived.Laws.IdiomCopy
import Derived.OrdersHeld
import Derived.Laws.BitsLemmas
import Derived.RowKit
import Derived.WalkSpells
import Derived.Shelf.Strings.Builder1
import Derived.Shelf.Strings.Builder2
import Derived.Shelf.Strings.OnBuilder
import Derived.Shelf.Strconv.Itoa0
import Derived.Shelf.Strconv.Itoa1
import Derived.Shelf.LaysM
import Derived.Shelf.Strconv.Itoa2
import Derived.Shelf.Strconv.Itoa3
import Derived.Laws.StructEq
import Derived.Test.YtibmeomlokigjaaDoorKFnCups2
import Derived.Test.YtibmeomlokigjaaDoorRows
import Derived.ProofKit
import Derived.OpenShut
import Derived.ShutString
import Derived.ChangeOld
import Derived.SizedLaws
import Derived.LaidMore
import Derived.LaidHandle
import Derived.Stop.Joined
section
namespace Go.Proofs.YtibmeomlokigjaaDoor.Q
open Go.RowKit Go.Proofs.YtibmeomlokigjaaDoorW.PrintWords Go.Proofs.YtibmeomlokigjaaDoorW.PrintLast Go.Proofs.YtibmeomlokigjaaDoorW.PrintMore
attribute [local go_sem] max2_int min2_int max_two min_two max_three min_three max_four min_four
set_option linter.unusedVariables false
set_option linter.unusedSimpArgs false
mutual
def impl_MeetIn.j0 : Nat → Int → Int → Int → Bool → Option (Int)
  | 0, _, _, _, _ => none
  | k + 1, x0, x1, x2, x30 => if x30 = true then (some 0) else ((impl_BracketOf.f k x0).bind fun t771 => ((slices_Index_int_int.f k t771 x1).bind fun t774 => ((slices_Index_int_int.f k t771 x2).bind fun t775 => (impl_MeetIn.l0 k t774 t775 0))))
def impl_MeetIn.l0 : Nat → Int → Int → Int → Option (Int)
  | 0, _, _, _ => none
  | k + 1, x8, x9, x10 => if x8 = x9 then (some x10) else (impl_MeetIn.l0 k (wrap64 (Int.tdiv x8 2)) (wrap64 (Int.tdiv x9 2)) (wrap64 (x10 + 1)))
end
def impl_MeetIn.f (k : Nat) (a0 : Int) (a1 : Int) (a2 : Int) : Option (Int) := (impl_CupSizeOk.f a0).bind fun t768 => (if t768 = true then ((impl_within.f a1 1 a0).bind fun t769 => (if t769 = true then ((impl_within.f a2 1 a0).bind fun t770 => (if t770 = true then (impl_MeetIn.j0 k a0 a1 a2 (a1 == a2)) else (impl_MeetIn.j0 k a0 a1 a2 true))) else (impl_MeetIn.j0 k a0 a1 a2 true))) else (impl_MeetIn.j0 k a0 a1 a2 true))
theorem impl_MeetIn.mono_l : ∀ k, (∀ y0 y1 y2 y3, LeO (impl_MeetIn.j0 k y0 y1 y2 y3) (impl_MeetIn.j0 (k + 1) y0 y1 y2 y3)) ∧ (∀ y0 y1 y2, LeO (impl_MeetIn.l0 k y0 y1 y2) (impl_MeetIn.l0 (k + 1) y0 y1 y2))
  | 0 => ⟨fun _ _ _ _ r h => by simp [impl_MeetIn.j0] at h, fun _ _ _ r h => by simp [impl_MeetIn.l0] at h⟩
  | k + 1 => by
    obtain ⟨ih0, ih1⟩ := impl_MeetIn.mono_l k
    refine ⟨?_, ?_⟩
    · intro y0 y1 y2 y3
      unfold impl_MeetIn.j0
      repeat' first
      | (with_reducible exact ih0 _ _ _ _)
      | (with_reducible exact ih1 _ _ _)
      | (with_reducible exact impl_BracketOf.mono _ _)
      | (with_reducible exact slices_Index_int_int.mono _ _ _)
      | (with_reducible exact LeO.refl _)
      | (with_reducible exact LeO.none _)
      | (with_reducible refine LeO.ite ?_ ?_)
      | (with_reducible refine LeO.bind ?_ (fun _ => ?_))
      | exact ih0 _ _ _ _
      | exact ih1 _ _ _
      | exact impl_BracketOf.mono _ _
      | exact slices_Index_int_int.mono _ _ _
      | exact LeO.none _
      | refine LeO.ite ?_ ?_
      | refine LeO.bind ?_ (fun _ => ?_)
    · intro y0 y1 y2
      unfold impl_MeetIn.l0
      repeat' first
      | (with_reducible exact ih0 _ _ _ _)
      | (with_reducible exact ih1 _ _ _)
      | (with_reducible exact impl_BracketOf.mono _ _)
      | (with_reducible exact slices_Index_int_int.mono _ _ _)
      | (with_reducible exact LeO.refl _)
      | (with_reducible exact LeO.none _)
      | (with_reducible refine LeO.ite ?_ ?_)
      | (with_reducible refine LeO.bind ?_ (fun _ => ?_))
      | exact ih0 _ _ _ _
      | exact ih1 _ _ _
      | exact impl_BracketOf.mono _ _
      | exact slices_Index_int_int.mono _ _ _
      | exact LeO.none _
      | refine LeO.ite ?_ ?_
      | refine LeO.bind ?_ (fun _ => ?_)
theorem impl_MeetIn.mono : ∀ a0 a1 a2 k, LeO (impl_MeetIn.f k a0 a1 a2) (impl_MeetIn.f (k + 1) a0 a1 a2) := by
  intro a0 a1 a2 k
  obtain ⟨ih0, ih1⟩ := impl_MeetIn.mono_l k
  unfold impl_MeetIn.f
  repeat' first
      | (with_reducible exact ih0 _ _ _ _)
      | (with_reducible exact ih1 _ _ _)
      | (with_reducible exact impl_BracketOf.mono _ _)
      | (with_reducible exact slices_Index_int_int.mono _ _ _)
      | (with_reducible exact LeO.refl _)
      | (with_reducible exact LeO.none _)
      | (with_reducible refine LeO.ite ?_ ?_)
      | (with_reducible refine LeO.bind ?_ (fun _ => ?_))
      | exact ih0 _ _ _ _
      | exact ih1 _ _ _
      | exact impl_BracketOf.mono _ _
      | exact slices_Index_int_int.mono _ _ _
      | exact LeO.none _
      | refine LeO.ite ?_ ?_
      | refine LeO.bind ?_ (fun _ => ?_)
set_option maxHeartbeats 8000000 in
set_option maxRecDepth 100000 in
theorem impl_MeetIn.calls (k : Nat) (a0 : Int) (a1 : Int) (a2 : Int) (r : Int) (w : World) (h : impl_MeetIn.f k a0 a1 a2 = some r) :
    Calls Tryd.prog 43 #[.int .i64 a0, .int .i64 a1, .int .i64 a2] w fun e w' => e = .returned (.int .i64 r) ∧ Below w.heap.size w w' := by
  have HB := Aside0.mk (Below.refl w.heap.size w)
  have H : ((impl_CupSizeOk.f a0).bind fun t768 => (if t768 = true then ((impl_within.f a1 1 a0).bind fun t769 => (if t769 = true then ((impl_within.f a2 1 a0).bind fun t770 => (if t770 = true then (impl_MeetIn.j0 k a0 a1 a2 (a1 == a2)) else (impl_MeetIn.j0 k a0 a1 a2 true))) else (impl_MeetIn.j0 k a0 a1 a2 true))) else (impl_MeetIn.j0 k a0 a1 a2 true))) = some r := h
  clear h
  have HC4 := Aside0.mk H
  clear H
  go_enter Tryd.func43, Tryd.ntmps43
  go_upto_region 1 with (fail)
  go_cut [30] (fun v30 wc => ∃ (kq : Nat) (x30_3 : Bool), v30 = .bool x30_3 ∧ Aside0 (impl_MeetIn.j0 kq a0 a1 a2 x30_3 = some r) ∧ Aside0 (kq ≤ k) ∧ Aside0 (Below w.heap.size w wc))
  case first =>
    have H := HC4.out
    clear HC4
    replace H := Option.bind_eq_some_iff.mp H
    obtain ⟨t768, A50, H⟩ := H
    replace H : (if t768 = true then ((impl_within.f a1 1 a0).bind fun t769 => (if t769 = true then ((impl_within.f a2 1 a0).bind fun t770 => (if t770 = true then (impl_MeetIn.j0 k a0 a1 a2 (a1 == a2)) else (impl_MeetIn.j0 k a0 a1 a2 true))) else (impl_MeetIn.j0 k a0 a1 a2 true))) else (impl_MeetIn.j0 k a0 a1 a2 true)) = some r := H
    have A5 := Aside0.mk A50
    clear A50
    by_cases c6 : t768 = true
    · subst c6
      have H1 : ((impl_within.f a1 1 a0).bind fun t769 => (if t769 = true then ((impl_within.f a2 1 a0).bind fun t770 => (if t770 = true then (impl_MeetIn.j0 k a0 a1 a2 (a1 == a2)) else (impl_MeetIn.j0 k a0 a1 a2 true))) else (impl_MeetIn.j0 k a0 a1 a2 true))) = some r := by rw [if_pos rfl] at H; exact H
      clear H
      have H := H1
      clear H1
      replace H := Option.bind_eq_some_iff.mp H
      obtain ⟨t769, A70, H⟩ := H
      replace H : (if t769 = true then ((impl_within.f a2 1 a0).bind fun t770 => (if t770 = true then (impl_MeetIn.j0 k a0 a1 a2 (a1 == a2)) else (impl_MeetIn.j0 k a0 a1 a2 true))) else (impl_MeetIn.j0 k a0 a1 a2 true)) = some r := H
      have A7 := Aside0.mk A70
      clear A70
      by_cases c8 : t769 = true
      · subst c8
        have H1 : ((impl_within.f a2 1 a0).bind fun t770 => (if t770 = true then (impl_MeetIn.j0 k a0 a1 a2 (a1 == a2)) else (impl_MeetIn.j0 k a0 a1 a2 true))) = some r := by rw [if_pos rfl] at H; exact H
        clear H
        have H := H1
        clear H1
        replace H := Option.bind_eq_some_iff.mp H
        obtain ⟨t770, A90, H⟩ := H
        replace H : (if t770 = true then (impl_MeetIn.j0 k a0 a1 a2 (a1 == a2)) else (impl_MeetIn.j0 k a0 a1 a2 true)) = some r := H
        have A9 := Aside0.mk A90
        clear A90
        by_cases c10 : t770 = true
        · subst c10
          have H1 : (impl_MeetIn.j0 k a0 a1 a2 (a1 == a2)) = some r := by rw [if_pos rfl] at H; exact H
          clear H
          have H := H1
          clear H1
          have H' := Aside0.mk H
          clear H
          go_wp2_with (first | ((with_reducible refine gate_callee (f := 41) rfl ?_); refine gl (some 12) Tryd.func41 #[.int .i64 a0] ?_; (with_reducible refine (impl_CupSizeOk.calls a0 true _ A5.out).mono ?_); rintro e w' ⟨rfl, ⟨nd, rfl⟩⟩; refine ⟨_, rfl, ?_⟩) | (go_at_call 55; (with_reducible refine (impl_within.calls a1 1 a0 true _ A7.out).mono ?_); rintro e w' ⟨rfl, ⟨nd, rfl⟩⟩) | (go_at_call 55; (with_reducible refine (impl_within.calls a2 1 a0 true _ A9.out).mono ?_); rintro e w' ⟨rfl, ⟨nd, rfl⟩⟩))
          go_meet
          case rel => exact ⟨_, ((a1 == a2)), e2_, H', ⟨by first | omega | exact Nat.le_refl _⟩, ⟨bb HB⟩⟩
        · replace c10 := Bool.eq_false_iff.mpr c10
          subst c10
          have H1 : (impl_MeetIn.j0 k a0 a1 a2 true) = some r := by rw [if_neg (show ¬ (false = true) by decide)] at H; exact H
          clear H
          have H := H1
          clear H1
          have H' := Aside0.mk H
          clear H
          go_wp2_with (first | ((with_reducible refine gate_callee (f := 41) rfl ?_); refine gl (some 12) Tryd.func41 #[.int .i64 a0] ?_; (with_reducible refine (impl_CupSizeOk.calls a0 true _ A5.out).mono ?_); rintro e w' ⟨rfl, ⟨nd, rfl⟩⟩; refine ⟨_, rfl, ?_⟩) | (go_at_call 55; (with_reducible refine (impl_within.calls a1 1 a0 true _ A7.out).mono ?_); rintro e w' ⟨rfl, ⟨nd, rfl⟩⟩) | (go_at_call 55; (with_reducible refine (impl_within.calls a2 1 a0 false _ A9.out).mono ?_); rintro e w' ⟨rfl, ⟨nd, rfl⟩⟩))
          go_meet
          case rel => exact ⟨_, (true), e2_, H', ⟨by first | omega | exact Nat.le_refl _⟩, ⟨bb HB⟩⟩
      · replace c8 := Bool.eq_false_iff.mpr c8
        subst c8
        have H1 : (impl_MeetIn.j0 k a0 a1 a2 true) = some r := by rw [if_neg (show ¬ (false = true) by decide)] at H; exact H
        clear H
        have H := H1
        clear H1
        have H' := Aside0.mk H
        clear H
        go_wp2_with (first | ((with_reducible refine gate_callee (f := 41) rfl ?_); refine gl (some 12) Tryd.func41 #[.int .i64 a0] ?_; (with_reducible refine (impl_CupSizeOk.calls a0 true _ A5.out).mono ?_); rintro e w' ⟨rfl, ⟨nd, rfl⟩⟩; refine ⟨_, rfl, ?_⟩) | (go_at_call 55; (with_reducible refine (impl_within.calls a1 1 a0 false _ A7.out).mono ?_); rintro e w' ⟨rfl, ⟨nd, rfl⟩⟩))
        go_meet
        case rel => exact ⟨_, (true), e2_, H', ⟨by first | omega | exact Nat.le_refl _⟩, ⟨bb HB⟩⟩
    · replace c6 := Bool.eq_false_iff.mpr c6
      subst c6
      have H1 : (impl_MeetIn.j0 k a0 a1 a2 true) = some r := by rw [if_neg (show ¬ (false = true) by decide)] at H; exact H
      clear H
      have H := H1
      clear H1
      have H' := Aside0.mk H
      clear H
      go_wp2_with (first | ((with_reducible refine gate_callee (f := 41) rfl ?_); refine gl (some 12) Tryd.func41 #[.int .i64 a0] ?_; (with_reducible refine (impl_CupSizeOk.calls a0 false _ A5.out).mono ?_); rintro e w' ⟨rfl, ⟨nd, rfl⟩⟩; refine ⟨_, rfl, ?_⟩))
      go_meet
      case rel => exact ⟨_, (true), e2_, H', ⟨by first | omega | exact Nat.le_refl _⟩, ⟨bb HB⟩⟩
  case rest =>
    clear HC4
    (try clear c1)
    (try clear p2)
    (try clear c4)
    (try clear c6)
    (try clear c8)
    (try clear c10)
    obtain ⟨kq, x30_3, rfl, HA, HJ3, HB⟩ := hcut
    cases kq with
    | zero => exact absurd HA.out (by simp [impl_MeetIn.j0])
    | succ kj3 =>
      have H := HA.out
      clear HA
      simp only [impl_MeetIn.j0] at H
      by_cases c11 : x30_3 = true
      · subst c11
        have H1 : (some 0) = some r := by rw [if_pos rfl] at H; exact H
        clear H
        have H := H1
        clear H1
        obtain rfl := Option.some.inj H
        go_wp2
        go_ret
        exact ⟨ee, bb HB⟩
      · replace c11 := Bool.eq_false_iff.mpr c11
        subst c11
        have H1 : ((impl_BracketOf.f kj3 a0).bind fun t771 => ((slices_Index_int_int.f kj3 t771 a1).bind fun t774 => ((slices_Index_int_int.f kj3 t771 a2).bind fun t775 => (impl_MeetIn.l0 kj3 t774 t775 0)))) = some r := by rw [if_neg (show ¬ (false = true) by decide)] at H; exact H
        clear H
        have H := H1
        clear H1
        replace H := Option.bind_eq_some_iff.mp H
        obtain ⟨t771, A120, H⟩ := H
        replace H : ((slices_Index_int_int.f kj3 t771 a1).bind fun t774 => ((slices_Index_int_int.f kj3 t771 a2).bind fun t775 => (impl_MeetIn.l0 kj3 t774 t775 0))) = some r := H
        have A12 := Aside0.mk A120
        clear A120
        replace H := Option.bind_eq_some_iff.mp H
        obtain ⟨t774, A130, H⟩ := H
        replace H : ((slices_Index_int_int.f kj3 t771 a2).bind fun t775 => (impl_MeetIn.l0 kj3 t774 t775 0)) = some r := H
        have A13 := Aside0.mk A130
        clear A130
        replace H := Option.bind_eq_some_iff.mp H
        obtain ⟨t775, A140, H⟩ := H
        replace H : (impl_MeetIn.l0 kj3 t774 t775 0) = some r := H
        have A14 := Aside0.mk A140
        clear A140
        have H' := Aside0.mk H
        clear H
        go_wp2_with (first | ((with_reducible refine gate_callee (f := 44) rfl ?_); refine gl (some 32) Tryd.func44 #[.int .i64 a0] ?_; (with_reducible refine (impl_BracketOf.calls kj3 a0 t771 _ A12.out).mono ?_); rintro e w15 ⟨v772, rfl, ho0, hb⟩; refine ⟨_, rfl, ?_⟩; have HO773 := kl ho0 HB; replace HB := hs_ HB hb; (try clear hb); (try clear hb2); (try clear hk); (try clear hi); (try clear ho0); obtain ⟨Ao16, co16, eo16⟩ := Kd.R_slice HO773.out; subst eo16) | ((with_reducible refine gate_callee (f := 76) rfl ?_); refine gl (some 35) Tryd.func76 #[.slice Ao16 t771.length co16, .int .i64 a1] ?_; (with_reducible refine (slices_Index_int_int.calls kj3 _ _ t771 a1 t774 _ ?side1 ?side2 A13.out).mono ?_); (case side1 => exact cr HO773); (case side2 => exact cl HO773); rintro e w' ⟨rfl, ⟨nd, rfl⟩⟩; refine ⟨_, rfl, ?_⟩) | ((with_reducible refine gate_callee (f := 76) rfl ?_); refine gl (some 38) Tryd.func76 #[.slice Ao16 t771.length co16, .int .i64 a2] ?_; (with_reducible refine (slices_Index_int_int.calls kj3 _ _ t771 a2 t775 _ ?side1 ?side2 A14.out).mono ?_); (case side1 => exact cr HO773); (case side2 => exact cl HO773); rintro e w' ⟨rfl, ⟨nd, rfl⟩⟩; refine ⟨_, rfl, ?_⟩))
        go_loopg [8, 9, 10] kj3 (fun kq v8 v9 v10 w' => ∃ (x8_2 : Int) (x9_2 : Int) (x10_2 : Int), v8 = .int .i64 x8_2 ∧ v9 = .int .i64 x9_2 ∧ v10 = .int .i64 x10_2 ∧ Aside0 (impl_MeetIn.l0 kq x8_2 x9_2 x10_2 = some r) ∧ Aside0 (kq ≤ kj3) ∧ Aside0 (Below w.heap.size w w'))
        case atStart => exact ⟨(t774), (t775), (0), e2_, e2_, e2_, H', ⟨Nat.le_refl _⟩, ⟨bb HB⟩⟩
        case round =>
          clear H'
          (try clear c1)
          (try clear p2)
          (try clear c4)
          (try clear c6)
          (try clear c7)
          (try clear c8)
          (try clear c10)
          (try clear c11)
          (try clear p2)
          obtain ⟨x8_2, x9_2, x10_2, rfl, rfl, rfl, HA, HK2, HB⟩ := hrel
          cases gk with
          | zero => exact absurd HA.out (by simp [impl_MeetIn.l0])
          | succ k2 =>
            have H := HA.out
            clear HA
            simp only [impl_MeetIn.l0] at H
            by_cases c17 : x8_2 = x9_2
            · rw [if_pos c17] at H
              have c17b0 : (x8_2 == x9_2) = true := beq_iff_eq.mpr c17
              have c17b1 : (x8_2 != x9_2) = false := bne_eq_false_iff_eq.mpr c17
              clear c17
              obtain rfl := Option.some.inj H
              go_wp2
              go_ret
              exact ⟨ee, bb HB⟩
            · rw [if_neg c17] at H
              have c17b0 : (x8_2 == x9_2) = false := beq_eq_false_iff_ne.mpr c17
              have c17b1 : (x8_2 != x9_2) = true := bne_iff_ne.mpr c17
              have H' := Aside0.mk H
              clear H
              go_wp2
              go_roundg k2
              case measure => have := HJ3.out; have := HK2.out; omega
              case rel => exact ⟨(wrap64 (Int.tdiv x8_2 2)), (wrap64 (Int.tdiv x9_2 2)), (wrap64 (x10_2 + 1)), e2_, e2_, e2_, H', ⟨by have := HJ3.out; have := HK2.out; omega⟩, ⟨bb HB⟩⟩
end Go.Proofs.YtibmeomlokigjaaDoor.Q
end
namespace Go.Proofs.YtibmeomlokigjaaDoor.Q
open Go.RowKit Go.Proofs.YtibmeomlokigjaaDoorW.PrintWords Go.Proofs.YtibmeomlokigjaaDoorW.PrintLast Go.Proofs.YtibmeomlokigjaaDoorW.PrintMore
attribute [local go_sem] max2_int min2_int max_two min_two max_three min_three max_four min_four
set_option linter.unusedVariables false
set_option linter.unusedSimpArgs false
def impl_RoundsOf.f (a0 : Int) : Option (Int) := if a0 = 2 then (some 1) else (if a0 = 4 then (some 2) else (if a0 = 8 then (some 3) else (some 0)))
set_option maxHeartbeats 8000000 in
set_option maxRecDepth 100000 in
theorem impl_RoundsOf.calls (a0 : Int) (r : Int) (w : World) (h : impl_RoundsOf.f a0 = some r) :
    Calls Tryd.prog 46 #[.int .i64 a0] w fun e w' => e = .returned (.int .i64 r) ∧ Drawn0 w w' := by
  have H : (if a0 = 2 then (some 1) else (if a0 = 4 then (some 2) else (if a0 = 8 then (some 3) else (some 0)))) = some r := h
  clear h
  by_cases c2 : a0 = 2
  · rw [if_pos c2] at H
    have c2b0 : (a0 == 2) = true := beq_iff_eq.mpr c2
    have c2b1 : (a0 != 2) = false := bne_eq_false_iff_eq.mpr c2
    clear c2
    obtain rfl := Option.some.inj H
    go_enter Tryd.func46, Tryd.ntmps46
    go_wp2
    go_ret
    exact ⟨e2_, by repeat (first | exact Drawn0.refl _ | apply Drawn0.step)⟩
  · rw [if_neg c2] at H
    have c2b0 : (a0 == 2) = false := beq_eq_false_iff_ne.mpr c2
    have c2b1 : (a0 != 2) = true := bne_iff_ne.mpr c2
    by_cases c3 : a0 = 4
    · rw [if_pos c3] at H
      have c3b0 : (a0 == 4) = true := beq_iff_eq.mpr c3
      have c3b1 : (a0 != 4) = false := bne_eq_false_iff_eq.mpr c3
      clear c3
      obtain rfl := Option.some.inj H
      go_enter Tryd.func46, Tryd.ntmps46
      go_wp2
      go_ret
      exact ⟨e2_, by repeat (first | exact Drawn0.refl _ | apply Drawn0.step)⟩
    · rw [if_neg c3] at H
      have c3b0 : (a0 == 4) = false := beq_eq_false_iff_ne.mpr c3
      have c3b1 : (a0 != 4) = true := bne_iff_ne.mpr c3
      by_cases c4 : a0 = 8
      · rw [if_pos c4] at H
        have c4b0 : (a0 == 8) = true := beq_iff_eq.mpr c4
        have c4b1 : (a0 != 8) = false := bne_eq_false_iff_eq.mpr c4
        clear c4
        obtain rfl := Option.some.inj H
        go_enter Tryd.func46, Tryd.ntmps46
        go_wp2
        go_ret
        exact ⟨e2_, by repeat (first | exact Drawn0.refl _ | apply Drawn0.step)⟩
      · rw [if_neg c4] at H
        have c4b0 : (a0 == 8) = false := beq_eq_false_iff_ne.mpr c4
        have c4b1 : (a0 != 8) = true := bne_iff_ne.mpr c4
        obtain rfl := Option.some.inj H
        go_enter Tryd.func46, Tryd.ntmps46
        go_wp2
        go_ret
        exact ⟨e2_, by repeat (first | exact Drawn0.refl _ | apply Drawn0.step)⟩
end Go.Proofs.YtibmeomlokigjaaDoor.Q
section
namespace Go.Proofs.YtibmeomlokigjaaDoor.Q
open Go.RowKit Go.Proofs.YtibmeomlokigjaaDoorW.PrintWords Go.Proofs.YtibmeomlokigjaaDoorW.PrintLast Go.Proofs.YtibmeomlokigjaaDoorW.PrintMore
attribute [local go_sem] max2_int min2_int max_two min_two max_three min_three max_four min_four
set_option linter.unusedVariables false
set_option linter.unusedSimpArgs false
mutual
def laws_FnCups.j0 : Nat → Bool → Int → List Int → Option (Bool)
  | 0, _, _, _ => none
  | k + 1, x23, x781000, x781001 => if x23 = true then (some false) else (laws_FnCups.l0 k 0 1 (x781001.length : Int) x781000 x781001)
def laws_FnCups.l0 : Nat → Int → Int → Int → Int → List Int → Option (Bool)
  | 0, _, _, _, _, _ => none
  | k + 1, x4, x5, x6, x781000, x781001 => if x6 < (wrap64 (x781000 - 1)) then (laws_FnCups.l0 k x4 (wrap64 (2 * x5)) (wrap64 (x6 + 1)) x781000 x781001) else (laws_FnCups.l1 k x4 x5 1 x781000 x781001)
def laws_FnCups.l1 : Nat → Int → Int → Int → Int → List Int → Option (Bool)
  | 0, _, _, _, _, _ => none
  | k + 1, x4, x5, x7, x781000, x781001 => if x7 ≤ x781000 then ((impl_WaysToWin.f k x781000 x781001 x7).bind fun t783 => ((impl_MeetIn.f k x781000 x7 (wrap64 ((wrap64 (x781000 + 1)) - x7))).bind fun t784 => (if t784 = 1 then (if x7 > 1 then ((impl_MeetIn.f k x781000 1 x7).bind fun t785 => ((impl_MeetIn.f k x781000 x7 1).bind fun t786 => (if t785 = t786 then (laws_FnCups.l1 k (wrap64 (x4 + t783)) x5 (wrap64 (x7 + 1)) x781000 x781001) else (some false)))) else (laws_FnCups.l1 k (wrap64 (x4 + t783)) x5 (wrap64 (x7 + 1)) x781000 x781001)) else (some false)))) else ((impl_BracketOf.f k x781000).bind fun t787 => ((impl_ChampionOf.f k x781000 x781001).bind fun t790 => (if x4 = x5 then (if (t787.length : Int) = x781000 then ((impl_MeetIn.f k x781000 1 2).bind fun t791 => ((impl_RoundsOf.f x781000).bind fun t792 => (if t791 = t792 then (if ((t790 == 0) == (decide ((x781001.length : Int) < (wrap64 (x781000 - 1))))) = true then (if t790 = 0 then ((impl_CupLine.f k x781000 x781001).bind fun t793 => (some (t793.toList != ([] : List UInt8)))) else ((impl_WaysToWin.f k x781000 x781001 t790).bind fun t794 => (if t794 = 1 then ((impl_CupLine.f k x781000 x781001).bind fun t795 => (some (t795.toList != ([] : List UInt8)))) else (some false)))) else (some false)) else (some false)))) else (some false)) else (some false))))
end
def laws_FnCups.f (k : Nat) (l0 : List Int) : Option (Bool) := if (l0.length : Int) > 1048576 then (some true) else ((spec_MakeCup.f k l0).bind fun bt776 => ((impl_CupOk.f k bt776.1 bt776.2).bind fun t781 => (if t781 = true then ((impl_CupSizeOk.f bt776.1).bind fun t782 => (laws_FnCups.j0 k (!t782) bt776.1 bt776.2)) else (laws_FnCups.j0 k true bt776.1 bt776.2))))
def laws_FnCups.T16 : Bool × List (List Nat × List Nat) := (true, [([], []), ([0], [0]), ([], []), ([], []), ([3], [3]), ([4], [4]), ([], []), ([5, 6], [5, 6]), ([1, 2, 7], [1, 2, 7]), ([8], [8]), ([9, 8], [9]), ([10], [10]), ([11, 10], [10, 11]), ([12, 10, 10], [10, 12]), ([13], [13]), ([14, 13], [13, 14]), ([13], [13]), ([15, 16, 13, 13], [13, 15, 16]), ([13], [13]), ([18, 13], [13, 18]), ([13], [13]), ([19, 20, 17, 13], [13, 19, 20]), ([17, 21, 13], [13, 17, 21]), ([13, 22, 10], [10, 13, 22]), ([10, 23], [10, 23])])
def laws_FnCups.B16 : List Nat := [0, 1, 0, 0, 8, 24, 0, 120, 255, 511, 1023, 2047, 4095, 8191, 16383, 32767, 16383, 131071, 16383, 278527, 16383, 2097151, 4194303, 8388607, 16777215]
theorem laws_FnCups.tab16 : rtab .any (opsOf Tryd.f9 16) = laws_FnCups.T16 := by kernel_rfl
theorem laws_FnCups.bits16 : waitsOk laws_FnCups.T16.2 laws_FnCups.B16 = true := by kernel_rfl
def laws_FnCups.T20 : Bool × List (List Nat × List Nat) := (true, [([], []), ([], []), ([0, 1], [0, 1]), ([2], [2]), ([3], [3]), ([4, 3], [3, 4]), ([3], [3]), ([6, 3], [3, 6]), ([5, 7, 3], [3, 5, 7]), ([3, 8], [3, 8]), ([9, 3], [9]), ([10], [10]), ([11, 10], [10, 11]), ([12, 10, 10], [10, 12]), ([10], [10]), ([14, 10], [10, 14]), ([15, 13, 10], [10, 15]), ([13, 16, 10], [10, 13, 16]), ([10, 17], [10, 17]), ([18, 16], [18]), ([19], [19]), ([20, 19], [19, 20]), ([19], [19]), ([22, 19], [19, 22]), ([23, 19], [19, 23]), ([19], [19]), ([25, 19], [19, 25]), ([26, 19], [19, 26]), ([24, 27, 19], [19, 24, 27]), ([21, 28, 19], [19, 21, 28]), ([19, 29], [19, 29]), ([30, 19], [30]), ([31], [31]), ([32, 31], [31, 32]), ([33, 31, 31], [31, 33]), ([34], [34]), ([34], [34]), ([35, 36, 34, 34], [34, 35, 36]), ([37, 34], [34, 37]), ([34, 38, 31], [31, 34, 38]), ([31, 39], [31, 39]), ([40, 37], [40]), ([41], [41]), ([42, 41, 41], [41, 42]), ([43, 41], [41, 43]), ([41, 44], [41, 44]), ([45, 43, 0, 1, 2, 3, 4, 5, 6, 7, 8, 9, 10, 11, 12, 13, 14, 15, 16, 17, 18, 19, 20, 21, 22, 23, 24, 25, 26, 27, 28, 29, 30, 31, 32, 33, 34, 35, 36, 37, 38, 39, 40, 41, 42, 43, 44, 45], [45])])
def laws_FnCups.B20 : List Nat := [0, 0, 3, 7, 15, 31, 15, 79, 255, 511, 1023, 2047, 4095, 8191, 2047, 18431, 65535, 131071, 262143, 524287, 1048575, 2097151, 1048575, 5242879, 13631487, 1048575, 34603007, 101711871, 265289727, 536870911, 1073741823, 2147483647, 4294967295, 8589934591, 17179869183, 34359738367, 34359738367, 137438953471, 274877906943, 549755813887, 1099511627775, 2199023255551, 4398046511103, 8796093022207, 17592186044415, 35184372088831, 70368744177663]
theorem laws_FnCups.tab20 : rtab .any (opsOf Tryd.f9 20) = laws_FnCups.T20 := by kernel_rfl
theorem laws_FnCups.bits20 : waitsOk laws_FnCups.T20.2 laws_FnCups.B20 = true := by kernel_rfl
theorem pz9_ {P : Program} {md : Region.Mode} {ops : Array Oper} {Q : Exit → Act → World → Prop} {S : World → Prop} {ds : List Nat} {oi : Oper} {v : Value} {fuel : Nat} {l l' : Array Bool} {a a' : Act} {w : World} (i N : Nat)
    (h : wpAnyLast P md ops Q S ds fuel l' a' w)
    (hi : ops[i]? = some oi := by rfl) (hN : oi.dst = some N := by rfl) (hl : l.setIfInBounds i true = l' := by simp only [List.setIfInBounds_toArray, List.set_cons_zero, List.set_cons_succ]; rfl)
    (hc : anyB md ops l l' i = true := by exact any_of (Aside0.out (by assumption)) (by kernel_rfl)) (hQ : ∀ c a w, Q (.panic c) (a.put oi.dst v) w → Q (.panic c) a w := by exact fun _ _ _ h => h)
    (hy : Yields P ops oi v a := by refine Or.inl ⟨by rfl, ?_⟩; intro w'; go_simp; with_reducible rfl) (ha : a.put (some N) v = a' := by simp only [Act.put, List.setIfInBounds_toArray, List.set_cons_zero, List.set_cons_succ, i64_w, i32_w]; rfl) :
    wpAnyLast P md ops Q S ds (fuel + 1) l a w := pure_ l' hi hN hc hQ hy ha h
set_option maxHeartbeats 8000000 in
set_option maxRecDepth 100000 in
theorem laws_FnCups.calls (k : Nat) (A0 : Option Addr) (c0 : Nat) (l0 : List Int) (r : Bool) (w : World) (hr0 : Kd.C (Kd.int .u8) w A0 l0.length l0) (hc0 : l0.length ≤ c0) (h : laws_FnCups.f k l0 = some r) :
    Calls Tryd.prog 9 #[.slice A0 l0.length c0] w fun e w' => e = .returned (.bool r) ∧ Below w.heap.size w w' := by
  have hu66 := Tryd.underlying66
  have HR0 := Aside0.mk hr0
  have HC0 := Aside0.mk hc0
  clear hr0 hc0
  have HB := Aside0.mk (Below.refl w.heap.size w)
  have H : (if (l0.length : Int) > 1048576 then (some true) else ((spec_MakeCup.f k l0).bind fun bt776 => ((impl_CupOk.f k bt776.1 bt776.2).bind fun t781 => (if t781 = true then ((impl_CupSizeOk.f bt776.1).bind fun t782 => (laws_FnCups.j0 k (!t782) bt776.1 bt776.2)) else (laws_FnCups.j0 k true bt776.1 bt776.2))))) = some r := h
  clear h
  by_cases c2 : (l0.length : Int) > 1048576
  · rw [if_pos c2] at H
    have c2b0 : decide (1048576 < (l0.length : Int)) = true := decide_eq_true c2
    have c2b1 : decide (1048576 < l0.length) = true := decide_eq_true (by omega)
    clear c2
    obtain rfl := Option.some.inj H
    go_enter Tryd.func9, Tryd.ntmps9
    go_wp2
    go_ret
    exact ⟨by first | exact ee | (generalize ByteArray.toList _ = l_; cases l_ <;> rfl) | (generalize ByteArray.toList _ = l_; cases l_ <;> simp), bb HB⟩
  · rw [if_neg c2] at H
    have c2b0 : decide (1048576 < (l0.length : Int)) = false := decide_eq_false c2
    have c2b1 : decide (1048576 < l0.length) = false := decide_eq_false (by omega)
    clear c2
    replace H := Option.bind_eq_some_iff.mp H
    obtain ⟨⟨t776, t777⟩, A30, H⟩ := H
    replace H : ((impl_CupOk.f k t776 t777).bind fun t781 => (if t781 = true then ((impl_CupSizeOk.f t776).bind fun t782 => (laws_FnCups.j0 k (!t782) t776 t777)) else (laws_FnCups.j0 k true t776 t777))) = some r := H
    have A3 := Aside0.mk A30
    clear A30
    have HC4 := Aside0.mk H
    clear H
    go_enter Tryd.func9, Tryd.ntmps9
    go_upto_region 4 with (first | ((with_reducible refine gate_callee (f := 39) rfl ?_); refine gl (some 14) Tryd.func39 #[.slice A0 l0.length c0] ?_; (with_reducible refine (spec_MakeCup.calls k _ _ l0 t776 t777 _ ?side1 ?side2 A3.out).mono ?_); (case side1 => exact cz_ HR0); (case side2 => exact HC0.out); rintro e w5 ⟨v778, rfl, ho0, hb⟩; refine ⟨_, rfl, ?_⟩; have HO779 := kl ho0 HB; replace HB := hs_ HB hb; (try clear hb); (try clear hb2); (try clear hk); (try clear hi); (try clear ho0)) | ((with_reducible refine gate_dst (N := 3) rfl ?_); (try (refine gate_guard (by rfl) ?_; dsimp only)); refine bx (N := 3) (cs := #[.int .i64 0, .slice none 0 0]) (t := 66) ?_; intro gb780 hg w6 hbox hb; replace HO779 := kr HO779 hb; have BK780 := Aside0.mk (hbox); have GW780 := gs hg HB; have GE780 := gs hg HB; replace HB := hs_ HB hb; clear hb hbox hg; have ⟨hcz7_0, hcz7_1, hfz7_0, hfz7_1⟩ := rz2 BK780; obtain ⟨Ao8, co8, eo8⟩ := Kd.R_slice HO779.out; subst eo8))
    (try simp only [Act.put, List.setIfInBounds_toArray, List.set_cons_zero, List.set_cons_succ])
    go_cut [23] (fun v23 wc => ∃ (kq : Nat) (x23_3 : Bool), v23 = .bool x23_3 ∧ Aside0 (laws_FnCups.j0 kq x23_3 t776 t777 = some r) ∧ Aside0 (kq ≤ k) ∧ Aside0 (Kd.R (Kd.int .i64) 3 wc w.heap.size (fun _ => True) (.slice Ao8 t777.length co8) t777) ∧ Aside0 (wc.heap[gb780]? = some (.cells #[.int .i64 t776, (.slice Ao8 t777.length co8)] 66 (0, 0))) ∧ Aside0 (Below w.heap.size w wc))
    case first =>
      have H := HC4.out
      clear HC4
      replace H := Option.bind_eq_some_iff.mp H
      obtain ⟨t781, A90, H⟩ := H
      replace H : (if t781 = true then ((impl_CupSizeOk.f t776).bind fun t782 => (laws_FnCups.j0 k (!t782) t776 t777)) else (laws_FnCups.j0 k true t776 t777)) = some r := H
      have A9 := Aside0.mk A90
      clear A90
      by_cases c10 : t781 = true
      · subst c10
        have H1 : ((impl_CupSizeOk.f t776).bind fun t782 => (laws_FnCups.j0 k (!t782) t776 t777)) = some r := by rw [if_pos rfl] at H; exact H
        clear H
        have H := H1
        clear H1
        replace H := Option.bind_eq_some_iff.mp H
        obtain ⟨t782, A110, H⟩ := H
        replace H : (laws_FnCups.j0 k (!t782) t776 t777) = some r := H
        have A11 := Aside0.mk A110
        clear A110
        have H' := Aside0.mk H
        clear H
        have ⟨hcz12_0, hcz12_1, hfz12_0, hfz12_1⟩ := rz2 BK780
        go_wp2_with (first | ((with_reducible refine gate_callee (f := 40) rfl ?_); refine gl (some 16) Tryd.func40 #[.agg #[.int .i64 t776, .slice Ao8 t777.length co8]] ?_; (with_reducible refine (impl_CupOk.calls k t776 _ _ t777 true _ ?side1 ?side2 A9.out).mono ?_); (case side1 => refine (Kd.R_reads' (e := 3) (base := w.heap.size) (ok := fun k_ => True) (n := t777.length) (c := co8) ?_).2.2; exact (rf HO779 BK780 (fun _ h_ => h_.1))); (case side2 => exact cl HO779); rintro e w13 ⟨rfl, hb⟩; refine ⟨_, rfl, ?_⟩; replace HO779 := Aside0.mk (Kd.R_below (rf HO779 BK780 (fun _ h_ => h_.1)) hb); replace BK780 := Aside0.mk (blk_below (g := gb780) (o := .cells #[.int .i64 t776, .slice Ao8 t777.length co8] 66 (0, 0)) (by (with_reducible repeat (first | refine blk_drewN ?_ _ | refine blk_drew ?_ | refine blk_alloc ?_ _)); refine blk_put (cs := #[.int .i64 t776, .slice none 0 0]) ?_ 1 _ rfl; (with_reducible repeat (first | refine blk_drewN ?_ _ | refine blk_drew ?_ | refine blk_alloc ?_ _)); refine blk_put (cs := #[.int .i64 0, .slice none 0 0]) ?_ 0 _ rfl; (with_reducible repeat (first | refine blk_drewN ?_ _ | refine blk_drew ?_ | refine blk_alloc ?_ _)); exact BK780.out) hb); replace HB := hs_ HB hb; (try clear hb); (try clear hb2); (try clear hk); (try clear hi); have ⟨hcz14_0, hcz14_1, hfz14_0, hfz14_1⟩ := rz2 BK780) | (go_at_call 41; (with_reducible refine (impl_CupSizeOk.calls t776 t782 _ A11.out).mono ?_); rintro e w' ⟨rfl, ⟨nd, rfl⟩⟩))
        go_meet
        case rel => exact ⟨_, (!t782), e2_, H', ⟨by first | omega | exact Nat.le_refl _⟩, ⟨rr HO779⟩, ⟨bk BK780⟩, ⟨bb HB⟩⟩
      · replace c10 := Bool.eq_false_iff.mpr c10
        subst c10
        have H1 : (laws_FnCups.j0 k true t776 t777) = some r := by rw [if_neg (show ¬ (false = true) by decide)] at H; exact H
        clear H
        have H := H1
        clear H1
        have H' := Aside0.mk H
        clear H
        have ⟨hcz15_0, hcz15_1, hfz15_0, hfz15_1⟩ := rz2 BK780
        go_wp2_with (first | ((with_reducible refine gate_callee (f := 40) rfl ?_); refine gl (some 16) Tryd.func40 #[.agg #[.int .i64 t776, .slice Ao8 t777.length co8]] ?_; (with_reducible refine (impl_CupOk.calls k t776 _ _ t777 false _ ?side1 ?side2 A9.out).mono ?_); (case side1 => refine (Kd.R_reads' (e := 3) (base := w.heap.size) (ok := fun k_ => True) (n := t777.length) (c := co8) ?_).2.2; exact (rf HO779 BK780 (fun _ h_ => h_.1))); (case side2 => exact cl HO779); rintro e w16 ⟨rfl, hb⟩; refine ⟨_, rfl, ?_⟩; replace HO779 := Aside0.mk (Kd.R_below (rf HO779 BK780 (fun _ h_ => h_.1)) hb); replace BK780 := Aside0.mk (blk_below (g := gb780) (o := .cells #[.int .i64 t776, .slice Ao8 t777.length co8] 66 (0, 0)) (by (with_reducible repeat (first | refine blk_drewN ?_ _ | refine blk_drew ?_ | refine blk_alloc ?_ _)); refine blk_put (cs := #[.int .i64 t776, .slice none 0 0]) ?_ 1 _ rfl; (with_reducible repeat (first | refine blk_drewN ?_ _ | refine blk_drew ?_ | refine blk_alloc ?_ _)); refine blk_put (cs := #[.int .i64 0, .slice none 0 0]) ?_ 0 _ rfl; (with_reducible repeat (first | refine blk_drewN ?_ _ | refine blk_drew ?_ | refine blk_alloc ?_ _)); exact BK780.out) hb); replace HB := hs_ HB hb; (try clear hb); (try clear hb2); (try clear hk); (try clear hi)))
        go_meet
        case rel => exact ⟨_, (true), e2_, H', ⟨by first | omega | exact Nat.le_refl _⟩, ⟨rr HO779⟩, ⟨bk BK780⟩, ⟨bb HB⟩⟩
    case rest =>
      clear HC4
      (try clear c1)
      (try clear c2)
      (try clear c2b0)
      (try clear c2b1)
      (try clear p2)
      (try clear c3)
      (try clear c4)
      (try clear c9)
      (try clear c10)
      (try clear hcz12_0 hcz12_1)
      (try clear hcz14_0 hcz14_1)
      (try clear hcz15_0 hcz15_1)
      (try clear hcz7_0 hcz7_1)
      (try clear hfz12_0 hfz12_1)
      (try clear hfz14_0 hfz14_1)
      (try clear hfz15_0 hfz15_1)
      (try clear hfz7_0 hfz7_1)
      obtain ⟨kq, x23_3, rfl, HA, HJ3, HO_781001, BK780, HB⟩ := hcut
      cases kq with
      | zero => exact absurd HA.out (by simp [laws_FnCups.j0])
      | succ kj3 =>
        have H := HA.out
        clear HA
        simp only [laws_FnCups.j0] at H
        by_cases c17 : x23_3 = true
        · subst c17
          have H1 : (some false) = some r := by rw [if_pos rfl] at H; exact H
          clear H
          have H := H1
          clear H1
          obtain rfl := Option.some.inj H
          go_wp2
          go_ret
          exact ⟨by first | exact ee | (generalize ByteArray.toList _ = l_; cases l_ <;> rfl) | (generalize ByteArray.toList _ = l_; cases l_ <;> simp), bb HB⟩
        · replace c17 := Bool.eq_false_iff.mpr c17
          subst c17
          have H1 : (laws_FnCups.l0 kj3 0 1 (t777.length : Int) t776 t777) = some r := by rw [if_neg (show ¬ (false = true) by decide)] at H; exact H
          clear H
          have H := H1
          clear H1
          have H' := Aside0.mk H
          clear H
          have ⟨hcz18_0, hcz18_1, hfz18_0, hfz18_1⟩ := rz2 BK780
          go_wp2
          go_loopg [5, 6] kj3 (fun kq v5 v6 w' => ∃ (x5_2 : Int) (x6_2 : Int), v5 = .int .i64 x5_2 ∧ v6 = .int .i64 x6_2 ∧ Aside0 (laws_FnCups.l0 kq 0 x5_2 x6_2 t776 t777 = some r) ∧ Aside0 (kq ≤ kj3) ∧ Aside0 (Kd.R (Kd.int .i64) 3 w' w.heap.size (fun _ => True) (.slice Ao8 t777.length co8) t777) ∧ Aside0 (w'.heap[gb780]? = some (.cells #[.int .i64 t776, (.slice Ao8 t777.length co8)] 66 (0, 0))) ∧ Aside0 (Below w.heap.size w w'))
          case atStart => exact ⟨(1), ((t777.length : Int)), e2_, e2_, H', ⟨Nat.le_refl _⟩, ⟨rr HO_781001⟩, ⟨bk BK780⟩, ⟨bb HB⟩⟩
          case round =>
            clear H'
            (try clear c1)
            (try clear c2)
            (try clear c2b0)
            (try clear c2b1)
            (try clear p2)
            (try clear c3)
            (try clear c4)
            (try clear c9)
            (try clear c10)
            (try clear c17)
            (try clear hcz12_0 hcz12_1)
            (try clear hcz14_0 hcz14_1)
            (try clear hcz15_0 hcz15_1)
            (try clear hcz18_0 hcz18_1)
            (try clear hcz7_0 hcz7_1)
            (try clear hfz12_0 hfz12_1)
            (try clear hfz14_0 hfz14_1)
            (try clear hfz15_0 hfz15_1)
            (try clear hfz18_0 hfz18_1)
            (try clear hfz7_0 hfz7_1)
            (try clear p2)
            obtain ⟨x5_2, x6_2, rfl, rfl, HA, HK2, HO_781001, BK780, HB⟩ := hrel
            cases gk with
            | zero => exact absurd HA.out (by simp [laws_FnCups.l0])
            | succ k2 =>
              have H := HA.out
              clear HA
              simp only [laws_FnCups.l0] at H
              by_cases c19 : x6_2 < (wrap64 (t776 - 1))
              · rw [if_pos c19] at H
                have c19b0 : decide (x6_2 < (wrap64 (t776 - 1))) = true := decide_eq_true c19
                clear c19
                have H' := Aside0.mk H
                clear H
                have ⟨hcz20_0, hcz20_1, hfz20_0, hfz20_1⟩ := rz2 BK780
                go_wp2
                go_roundg k2
                case measure => have := HJ3.out; have := HK2.out; omega
                case rel => exact ⟨(wrap64 (2 * x5_2)), (wrap64 (x6_2 + 1)), e2_, e2_, H', ⟨by have := HJ3.out; have := HK2.out; omega⟩, ⟨rr HO_781001⟩, ⟨bk BK780⟩, ⟨bb HB⟩⟩
              · rw [if_neg c19] at H
                have c19b0 : decide (x6_2 < (wrap64 (t776 - 1))) = false := decide_eq_false c19
                clear c19
                have H' := Aside0.mk H
                clear H
                have ⟨hcz21_0, hcz21_1, hfz21_0, hfz21_1⟩ := rz2 BK780
                go_wp2
                go_loopg [4, 7] k2 (fun kq v4 v7 w' => ∃ (x4_3 : Int) (x7_3 : Int), v4 = .int .i64 x4_3 ∧ v7 = .int .i64 x7_3 ∧ Aside0 (laws_FnCups.l1 kq x4_3 x5_2 x7_3 t776 t777 = some r) ∧ Aside0 (kq ≤ k2) ∧ Aside0 (Kd.R (Kd.int .i64) 3 w' w.heap.size (fun _ => True) (.slice Ao8 t777.length co8) t777) ∧ Aside0 (w'.heap[gb780]? = some (.cells #[.int .i64 t776, (.slice Ao8 t777.length co8)] 66 (0, 0))) ∧ Aside0 (Below w.heap.size w w'))
                case atStart => exact ⟨(0), (1), e2_, e2_, H', ⟨Nat.le_refl _⟩, ⟨rr HO_781001⟩, ⟨bk BK780⟩, ⟨bb HB⟩⟩
                case round =>
                  clear H'
                  (try clear c1)
                  (try clear c2)
                  (try clear c2b0)
                  (try clear c2b1)
                  (try clear p2)
                  (try clear c3)
                  (try clear c4)
                  (try clear p6)
                  (try clear c9)
                  (try clear c10)
                  (try clear c17)
                  (try clear c19)
                  (try clear c19b0)
                  (try clear hcz12_0 hcz12_1)
                  (try clear hcz14_0 hcz14_1)
                  (try clear hcz15_0 hcz15_1)
                  (try clear hcz18_0 hcz18_1)
                  (try clear hcz20_0 hcz20_1)
                  (try clear hcz21_0 hcz21_1)
                  (try clear hcz7_0 hcz7_1)
                  (try clear hfz12_0 hfz12_1)
                  (try clear hfz14_0 hfz14_1)
                  (try clear hfz15_0 hfz15_1)
                  (try clear hfz18_0 hfz18_1)
                  (try clear hfz20_0 hfz20_1)
                  (try clear hfz21_0 hfz21_1)
                  (try clear hfz7_0 hfz7_1)
                  (try clear p2)
                  obtain ⟨x4_3, x7_3, rfl, rfl, HA, HK3, HO_781001, BK780, HB⟩ := hrel
                  cases gk with
                  | zero => exact absurd HA.out (by simp [laws_FnCups.l1])
                  | succ k3 =>
                    have H := HA.out
                    clear HA
                    simp only [laws_FnCups.l1] at H
                    by_cases c22 : x7_3 ≤ t776
                    · rw [if_pos c22] at H
                      have c22b0 : decide (x7_3 ≤ t776) = true := decide_eq_true c22
                      clear c22
                      replace H := Option.bind_eq_some_iff.mp H
                      obtain ⟨t783, A230, H⟩ := H
                      replace H : ((impl_MeetIn.f k3 t776 x7_3 (wrap64 ((wrap64 (t776 + 1)) - x7_3))).bind fun t784 => (if t784 = 1 then (if x7_3 > 1 then ((impl_MeetIn.f k3 t776 1 x7_3).bind fun t785 => ((impl_MeetIn.f k3 t776 x7_3 1).bind fun t786 => (if t785 = t786 then (laws_FnCups.l1 k3 (wrap64 (x4_3 + t783)) x5_2 (wrap64 (x7_3 + 1)) t776 t777) else (some false)))) else (laws_FnCups.l1 k3 (wrap64 (x4_3 + t783)) x5_2 (wrap64 (x7_3 + 1)) t776 t777)) else (some false))) = some r := H
                      have A23 := Aside0.mk A230
                      clear A230
                      replace H := Option.bind_eq_some_iff.mp H
                      obtain ⟨t784, A240, H⟩ := H
                      replace H : (if t784 = 1 then (if x7_3 > 1 then ((impl_MeetIn.f k3 t776 1 x7_3).bind fun t785 => ((impl_MeetIn.f k3 t776 x7_3 1).bind fun t786 => (if t785 = t786 then (laws_FnCups.l1 k3 (wrap64 (x4_3 + t783)) x5_2 (wrap64 (x7_3 + 1)) t776 t777) else (some false)))) else (laws_FnCups.l1 k3 (wrap64 (x4_3 + t783)) x5_2 (wrap64 (x7_3 + 1)) t776 t777)) else (some false)) = some r := H
                      have A24 := Aside0.mk A240
                      clear A240
                      by_cases c25 : t784 = 1
                      · rw [if_pos c25] at H
                        have c25b0 : (t784 == 1) = true := beq_iff_eq.mpr c25
                        have c25b1 : (t784 != 1) = false := bne_eq_false_iff_eq.mpr c25
                        clear c25
                        by_cases c26 : x7_3 > 1
                        · rw [if_pos c26] at H
                          have c26b0 : decide (1 < x7_3) = true := decide_eq_true c26
                          clear c26
                          replace H := Option.bind_eq_some_iff.mp H
                          obtain ⟨t785, A270, H⟩ := H
                          replace H : ((impl_MeetIn.f k3 t776 x7_3 1).bind fun t786 => (if t785 = t786 then (laws_FnCups.l1 k3 (wrap64 (x4_3 + t783)) x5_2 (wrap64 (x7_3 + 1)) t776 t777) else (some false))) = some r := H
                          have A27 := Aside0.mk A270
                          clear A270
                          replace H := Option.bind_eq_some_iff.mp H
                          obtain ⟨t786, A280, H⟩ := H
                          replace H : (if t785 = t786 then (laws_FnCups.l1 k3 (wrap64 (x4_3 + t783)) x5_2 (wrap64 (x7_3 + 1)) t776 t777) else (some false)) = some r := H
                          have A28 := Aside0.mk A280
                          clear A280
                          have HC29 := Aside0.mk H
                          clear H
                          have ⟨hcz30_0, hcz30_1, hfz30_0, hfz30_1⟩ := rz2 BK780
                          try go_wp2_with (first | ((with_reducible refine gate_callee (f := 42) rfl ?_); refine gl (some 45) Tryd.func42 #[.agg #[.int .i64 t776, .slice Ao8 t777.length co8], .int .i64 x7_3] ?_; (with_reducible refine (impl_WaysToWin.calls k3 t776 _ _ t777 x7_3 t783 _ ?side1 ?side2 A23.out).mono ?_); (case side1 => exact cr HO_781001); (case side2 => exact cl HO_781001); rintro e w31 ⟨rfl, hb⟩; refine ⟨_, rfl, ?_⟩; replace HO_781001 := kr HO_781001 hb; replace BK780 := kb BK780 hb; replace HB := hs_ HB hb; (try clear hb); (try clear hb2); (try clear hk); (try clear hi)))
                          replace HO_781001 := Aside0.mk (Kd.R_drew HO_781001.out)
                          replace BK780 := Aside0.mk (blk_drew BK780.out)
                          replace HB := Aside0.mk (below_drew1 HB.out)
                          refine start_ (n := 25) (S := fun w' => w'.cell? ⟨gb780, 0, none⟩ = some (.int .i64 t776) ∧ w'.cell? ⟨gb780, 1, none⟩ = some (.slice Ao8 t777.length co8)) (ds := []) #[false, false, false, false, false, false, false, false, false, false, false, false, false, false, false, false, false, false, false, false, false, false, false, false, false] (by kernel_rfl) rfl rfl ⟨(blk_cell BK780.out 0).trans rfl, (blk_cell BK780.out 1).trans rfl⟩ (fun hHeld => ?_); refine with_tabW laws_FnCups.tab16 laws_FnCups.bits16 (fun HT_ HW_ => ?_)
                          generalize w31.drew = w32 at HO_781001 BK780 HB hHeld ⊢
                          refine pz9_ 0 47 ?_
                          refine pz9_ 2 49 ?_
                          refine pz9_ 3 50 ?_
                          refine pz9_ 6 53 ?_
                          refine take_ (i := 1) (N := some 48) (v := ?_) (a' := ?_) #[true, true, true, true, false, false, true, false, false, false, false, false, false, false, false, false, false, false, false, false, false, false, false, false, false] rfl rfl (take_ofW HT_.out HW_.out (by kernel_rfl)) (fun _ _ _ h => h) (Or.inl ⟨by rfl, ?_⟩) hHeld ?_ ?_
                          rotate_left
                          · rintro w' ⟨s0, s1⟩
                            go_simp
                            with_reducible rfl
                          rotate_left
                          · simp only [Act.put, List.setIfInBounds_toArray, List.set_cons_zero, List.set_cons_succ, i64_w, i32_w]
                            rfl
                          refine take_ (i := 4) (N := some 51) (v := ?_) (a' := ?_) #[true, true, true, true, true, false, true, false, false, false, false, false, false, false, false, false, false, false, false, false, false, false, false, false, false] rfl rfl (take_ofW HT_.out HW_.out (by kernel_rfl)) (fun _ _ _ h => h) (Or.inl ⟨by rfl, ?_⟩) hHeld ?_ ?_
                          rotate_left
                          · rintro w' ⟨s0, s1⟩
                            go_simp
                            with_reducible rfl
                          rotate_left
                          · simp only [Act.put, List.setIfInBounds_toArray, List.set_cons_zero, List.set_cons_succ, i64_w, i32_w]
                            rfl
                          refine pz9_ 5 52 ?_
                          refine pz9_ 7 54 ?_
                          refine one_ (i := 8) (N := some 55) #[true, true, true, true, true, true, true, true, true, false, false, false, false, false, false, false, false, false, false, false, false, false, false, false, false] rfl rfl (one_of HT_.out (by kernel_rfl)) (by decide) (fun K hK => ?_)
                          refine goes_ Tryd.func43 (by kernel_rfl) rfl #[.int .i64 t776, .int .i64 x7_3, .int .i64 (wrap64 ((wrap64 (t776 + 1)) - x7_3))] (by rfl) rfl rfl (by (try simp only [List.map_toArray, List.map_cons, List.map_nil]); first | done | rfl | (simp only [List.length_drop, List.length_take]; rfl)) ?_
                          with_reducible refine (impl_MeetIn.calls k3 t776 x7_3 (wrap64 ((wrap64 (t776 + 1)) - x7_3)) t784 _ A24.out).mono ?_
                          rintro e w33 ⟨rfl, hb⟩
                          refine ⟨_, rfl, ?_⟩
                          replace HO_781001 := kr HO_781001 hb
                          replace BK780 := kb BK780 hb
                          replace HB := hs_ HB hb
                          (try clear hb)
                          (try clear hb2)
                          (try clear hk)
                          (try clear hi)
                          refine hK.out _ _ ⟨(blk_cell BK780.out 0).trans rfl, (blk_cell BK780.out 1).trans rfl⟩ (fun hHeld => ?_)
                          clear hK K
                          refine norm_ (a' := ?_) ?_ ?_
                          rotate_left
                          · show Act.put _ (some 55) _ = _
                            simp only [Act.put, List.setIfInBounds_toArray, List.set_cons_zero, List.set_cons_succ, i64_w, i32_w]
                            rfl
                          refine pz9_ 9 56 ?_
                          refine pz9_ 10 57 ?_
                          refine pz9_ 11 58 ?_
                          refine pz9_ 12 59 ?_
                          refine pz9_ 13 60 ?_
                          refine pz9_ 14 61 ?_
                          refine pz9_ 16 63 ?_
                          refine pz9_ 18 65 ?_
                          refine pz9_ 20 67 ?_
                          refine take_ (i := 15) (N := some 62) (v := ?_) (a' := ?_) #[true, true, true, true, true, true, true, true, true, true, true, true, true, true, true, true, true, false, true, false, true, false, false, false, false] rfl rfl (take_ofW HT_.out HW_.out (by kernel_rfl)) (fun _ _ _ h => h) (Or.inl ⟨by rfl, ?_⟩) hHeld ?_ ?_
                          rotate_left
                          · rintro w' ⟨s0, s1⟩
                            go_simp
                            with_reducible rfl
                          rotate_left
                          · simp only [Act.put, List.setIfInBounds_toArray, List.set_cons_zero, List.set_cons_succ, i64_w, i32_w]
                            rfl
                          refine take_ (i := 19) (N := some 66) (v := ?_) (a' := ?_) #[true, true, true, true, true, true, true, true, true, true, true, true, true, true, true, true, true, false, true, true, true, false, false, false, false] rfl rfl (take_ofW HT_.out HW_.out (by kernel_rfl)) (fun _ _ _ h => h) (Or.inl ⟨by rfl, ?_⟩) hHeld ?_ ?_
                          rotate_left
                          · rintro w' ⟨s0, s1⟩
                            go_simp
                            with_reducible rfl
                          rotate_left
                          · simp only [Act.put, List.setIfInBounds_toArray, List.set_cons_zero, List.set_cons_succ, i64_w, i32_w]
                            rfl
                          refine one_ (i := 17) (N := some 64) #[true, true, true, true, true, true, true, true, true, true, true, true, true, true, true, true, true, true, true, true, true, false, false, false, false] rfl rfl (one_of HT_.out (by kernel_rfl)) (by decide) (fun K hK => ?_)
                          refine goes_ Tryd.func43 (by kernel_rfl) rfl #[.int .i64 t776, .int .i64 1, .int .i64 x7_3] (by rfl) rfl rfl (by (try simp only [List.map_toArray, List.map_cons, List.map_nil]); first | done | rfl | (simp only [List.length_drop, List.length_take]; rfl)) ?_
                          with_reducible refine (impl_MeetIn.calls k3 t776 1 x7_3 t785 _ A27.out).mono ?_
                          rintro e w34 ⟨rfl, hb⟩
                          refine ⟨_, rfl, ?_⟩
                          replace HO_781001 := kr HO_781001 hb
                          replace BK780 := kb BK780 hb
                          replace HB := hs_ HB hb
                          (try clear hb)
                          (try clear hb2)
                          (try clear hk)
                          (try clear hi)
                          refine hK.out _ _ ⟨(blk_cell BK780.out 0).trans rfl, (blk_cell BK780.out 1).trans rfl⟩ (fun hHeld => ?_)
                          clear hK K
                          refine norm_ (a' := ?_) ?_ ?_
                          rotate_left
                          · show Act.put _ (some 64) _ = _
                            simp only [Act.put, List.setIfInBounds_toArray, List.set_cons_zero, List.set_cons_succ, i64_w, i32_w]
                            rfl
                          refine one_ (i := 21) (N := some 68) #[true, true, true, true, true, true, true, true, true, true, true, true, true, true, true, true, true, true, true, true, true, true, false, false, false] rfl rfl (one_of HT_.out (by kernel_rfl)) (by decide) (fun K hK => ?_)
                          refine goes_ Tryd.func43 (by kernel_rfl) rfl #[.int .i64 t776, .int .i64 x7_3, .int .i64 1] (by rfl) rfl rfl (by (try simp only [List.map_toArray, List.map_cons, List.map_nil]); first | done | rfl | (simp only [List.length_drop, List.length_take]; rfl)) ?_
                          with_reducible refine (impl_MeetIn.calls k3 t776 x7_3 1 t786 _ A28.out).mono ?_
                          rintro e w35 ⟨rfl, hb⟩
                          refine ⟨_, rfl, ?_⟩
                          replace HO_781001 := kr HO_781001 hb
                          replace BK780 := kb BK780 hb
                          replace HB := hs_ HB hb
                          (try clear hb)
                          (try clear hb2)
                          (try clear hk)
                          (try clear hi)
                          refine hK.out _ _ ⟨(blk_cell BK780.out 0).trans rfl, (blk_cell BK780.out 1).trans rfl⟩ (fun hHeld => ?_)
                          clear hK K
                          refine norm_ (a' := ?_) ?_ ?_
                          rotate_left
                          · show Act.put _ (some 68) _ = _
                            simp only [Act.put, List.setIfInBounds_toArray, List.set_cons_zero, List.set_cons_succ, i64_w, i32_w]
                            rfl
                          refine pz9_ 22 69 ?_
                          refine pz9_ 23 70 ?_
                          refine pz9_ 24 71 ?_
                          refine done_ (done_of HT_.out (by kernel_rfl)) ?_
                          go_upto_if 71 with (fail)
                          have H := HC29.out
                          clear HC29
                          by_cases c36 : t785 = t786
                          · rw [if_pos c36] at H
                            have c36b0 : (t785 == t786) = true := beq_iff_eq.mpr c36
                            have c36b1 : (t785 != t786) = false := bne_eq_false_iff_eq.mpr c36
                            clear c36
                            (first | rw [c36b0] | rw [c36b1] | (simp only [i64_w, i32_w]; rw [c36b0]) | skip)
                            have H' := Aside0.mk H
                            clear H
                            go_wp2
                            go_roundg k3
                            case measure => have := HJ3.out; have := HK2.out; have := HK3.out; omega
                            case rel => exact ⟨(wrap64 (x4_3 + t783)), (wrap64 (x7_3 + 1)), e2_, e2_, H', ⟨by have := HJ3.out; have := HK2.out; have := HK3.out; omega⟩, ⟨rr HO_781001⟩, ⟨bk BK780⟩, ⟨bb HB⟩⟩
                          · rw [if_neg c36] at H
                            have c36b0 : (t785 == t786) = false := beq_eq_false_iff_ne.mpr c36
                            have c36b1 : (t785 != t786) = true := bne_iff_ne.mpr c36
                            (first | rw [c36b0] | rw [c36b1] | (simp only [i64_w, i32_w]; rw [c36b0]) | skip)
                            obtain rfl := Option.some.inj H
                            go_wp2
                            go_ret
                            exact ⟨by first | exact ee | (generalize ByteArray.toList _ = l_; cases l_ <;> rfl) | (generalize ByteArray.toList _ = l_; cases l_ <;> simp), bb HB⟩
                        · rw [if_neg c26] at H
                          have c26b0 : decide (1 < x7_3) = false := decide_eq_false c26
                          clear c26
                          have H' := Aside0.mk H
                          clear H
                          have ⟨hcz37_0, hcz37_1, hfz37_0, hfz37_1⟩ := rz2 BK780
                          try go_wp2_with (first | ((with_reducible refine gate_callee (f := 42) rfl ?_); refine gl (some 45) Tryd.func42 #[.agg #[.int .i64 t776, .slice Ao8 t777.length co8], .int .i64 x7_3] ?_; (with_reducible refine (impl_WaysToWin.calls k3 t776 _ _ t777 x7_3 t783 _ ?side1 ?side2 A23.out).mono ?_); (case side1 => exact cr HO_781001); (case side2 => exact cl HO_781001); rintro e w38 ⟨rfl, hb⟩; refine ⟨_, rfl, ?_⟩; replace HO_781001 := kr HO_781001 hb; replace BK780 := kb BK780 hb; replace HB := hs_ HB hb; (try clear hb); (try clear hb2); (try clear hk); (try clear hi)))
                          replace HO_781001 := Aside0.mk (Kd.R_drew HO_781001.out)
                          replace BK780 := Aside0.mk (blk_drew BK780.out)
                          replace HB := Aside0.mk (below_drew1 HB.out)
                          refine start_ (n := 25) (S := fun w' => w'.cell? ⟨gb780, 0, none⟩ = some (.int .i64 t776) ∧ w'.cell? ⟨gb780, 1, none⟩ = some (.slice Ao8 t777.length co8)) (ds := []) #[false, false, false, false, false, false, false, false, false, false, false, false, false, false, false, false, false, false, false, false, false, false, false, false, false] (by kernel_rfl) rfl rfl ⟨(blk_cell BK780.out 0).trans rfl, (blk_cell BK780.out 1).trans rfl⟩ (fun hHeld => ?_); refine with_tabW laws_FnCups.tab16 laws_FnCups.bits16 (fun HT_ HW_ => ?_)
                          generalize w38.drew = w39 at HO_781001 BK780 HB hHeld ⊢
                          refine pz9_ 0 47 ?_
                          refine pz9_ 2 49 ?_
                          refine pz9_ 3 50 ?_
                          refine pz9_ 6 53 ?_
                          refine take_ (i := 1) (N := some 48) (v := ?_) (a' := ?_) #[true, true, true, true, false, false, true, false, false, false, false, false, false, false, false, false, false, false, false, false, false, false, false, false, false] rfl rfl (take_ofW HT_.out HW_.out (by kernel_rfl)) (fun _ _ _ h => h) (Or.inl ⟨by rfl, ?_⟩) hHeld ?_ ?_
                          rotate_left
                          · rintro w' ⟨s0, s1⟩
                            go_simp
                            with_reducible rfl
                          rotate_left
                          · simp only [Act.put, List.setIfInBounds_toArray, List.set_cons_zero, List.set_cons_succ, i64_w, i32_w]
                            rfl
                          refine take_ (i := 4) (N := some 51) (v := ?_) (a' := ?_) #[true, true, true, true, true, false, true, false, false, false, false, false, false, false, false, false, false, false, false, false, false, false, false, false, false] rfl rfl (take_ofW HT_.out HW_.out (by kernel_rfl)) (fun _ _ _ h => h) (Or.inl ⟨by rfl, ?_⟩) hHeld ?_ ?_
                          rotate_left
                          · rintro w' ⟨s0, s1⟩
                            go_simp
                            with_reducible rfl
                          rotate_left
                          · simp only [Act.put, List.setIfInBounds_toArray, List.set_cons_zero, List.set_cons_succ, i64_w, i32_w]
                            rfl
                          refine pz9_ 5 52 ?_
                          refine pz9_ 7 54 ?_
                          refine one_ (i := 8) (N := some 55) #[true, true, true, true, true, true, true, true, true, false, false, false, false, false, false, false, false, false, false, false, false, false, false, false, false] rfl rfl (one_of HT_.out (by kernel_rfl)) (by decide) (fun K hK => ?_)
                          refine goes_ Tryd.func43 (by kernel_rfl) rfl #[.int .i64 t776, .int .i64 x7_3, .int .i64 (wrap64 ((wrap64 (t776 + 1)) - x7_3))] (by rfl) rfl rfl (by (try simp only [List.map_toArray, List.map_cons, List.map_nil]); first | done | rfl | (simp only [List.length_drop, List.length_take]; rfl)) ?_
                          with_reducible refine (impl_MeetIn.calls k3 t776 x7_3 (wrap64 ((wrap64 (t776 + 1)) - x7_3)) t784 _ A24.out).mono ?_
                          rintro e w40 ⟨rfl, hb⟩
                          refine ⟨_, rfl, ?_⟩
                          replace HO_781001 := kr HO_781001 hb
                          replace BK780 := kb BK780 hb
                          replace HB := hs_ HB hb
                          (try clear hb)
                          (try clear hb2)
                          (try clear hk)
                          (try clear hi)
                          refine hK.out _ _ ⟨(blk_cell BK780.out 0).trans rfl, (blk_cell BK780.out 1).trans rfl⟩ (fun hHeld => ?_)
                          clear hK K
                          refine norm_ (a' := ?_) ?_ ?_
                          rotate_left
                          · show Act.put _ (some 55) _ = _
                            simp only [Act.put, List.setIfInBounds_toArray, List.set_cons_zero, List.set_cons_succ, i64_w, i32_w]
                            rfl
                          refine pz9_ 9 56 ?_
                          refine pz9_ 10 57 ?_
                          refine pz9_ 11 58 ?_
                          refine pz9_ 12 59 ?_
                          refine pz9_ 13 60 ?_
                          refine pure_ (i := 14) (N := some 61) (v := undef) (a' := ?_) #[true, true, true, true, true, true, true, true, true, true, true, true, true, true, true, false, false, false, false, false, false, false, false, false, false] rfl rfl (any_of HT_.out (by kernel_rfl)) (fun _ _ _ h => h) (Or.inr ⟨by rfl, rfl⟩) ?_ ?_
                          rotate_left
                          · simp only [Act.put, List.setIfInBounds_toArray, List.set_cons_zero, List.set_cons_succ, i64_w, i32_w]
                            rfl
                          refine pure_ (i := 15) (N := some 62) (v := undef) (a' := ?_) #[true, true, true, true, true, true, true, true, true, true, true, true, true, true, true, true, false, false, false, false, false, false, false, false, false] rfl rfl (any_of HT_.out (by kernel_rfl)) (fun _ _ _ h => h) (Or.inr ⟨by rfl, rfl⟩) ?_ ?_
                          rotate_left
                          · simp only [Act.put, List.setIfInBounds_toArray, List.set_cons_zero, List.set_cons_succ, i64_w, i32_w]
                            rfl
                          refine pure_ (i := 16) (N := some 63) (v := undef) (a' := ?_) #[true, true, true, true, true, true, true, true, true, true, true, true, true, true, true, true, true, false, false, false, false, false, false, false, false] rfl rfl (any_of HT_.out (by kernel_rfl)) (fun _ _ _ h => h) (Or.inr ⟨by rfl, rfl⟩) ?_ ?_
                          rotate_left
                          · simp only [Act.put, List.setIfInBounds_toArray, List.set_cons_zero, List.set_cons_succ, i64_w, i32_w]
                            rfl
                          refine pure_ (i := 17) (N := some 64) (v := undef) (a' := ?_) #[true, true, true, true, true, true, true, true, true, true, true, true, true, true, true, true, true, true, false, false, false, false, false, false, false] rfl rfl (any_of HT_.out (by kernel_rfl)) (fun _ _ _ h => h) (Or.inr ⟨by rfl, rfl⟩) ?_ ?_
                          rotate_left
                          · simp only [Act.put, List.setIfInBounds_toArray, List.set_cons_zero, List.set_cons_succ, i64_w, i32_w]
                            rfl
                          refine pure_ (i := 18) (N := some 65) (v := undef) (a' := ?_) #[true, true, true, true, true, true, true, true, true, true, true, true, true, true, true, true, true, true, true, false, false, false, false, false, false] rfl rfl (any_of HT_.out (by kernel_rfl)) (fun _ _ _ h => h) (Or.inr ⟨by rfl, rfl⟩) ?_ ?_
                          rotate_left
                          · simp only [Act.put, List.setIfInBounds_toArray, List.set_cons_zero, List.set_cons_succ, i64_w, i32_w]
                            rfl
                          refine pure_ (i := 19) (N := some 66) (v := undef) (a' := ?_) #[true, true, true, true, true, true, true, true, true, true, true, true, true, true, true, true, true, true, true, true, false, false, false, false, false] rfl rfl (any_of HT_.out (by kernel_rfl)) (fun _ _ _ h => h) (Or.inr ⟨by rfl, rfl⟩) ?_ ?_
                          rotate_left
                          · simp only [Act.put, List.setIfInBounds_toArray, List.set_cons_zero, List.set_cons_succ, i64_w, i32_w]
                            rfl
                          refine pure_ (i := 20) (N := some 67) (v := undef) (a' := ?_) #[true, true, true, true, true, true, true, true, true, true, true, true, true, true, true, true, true, true, true, true, true, false, false, false, false] rfl rfl (any_of HT_.out (by kernel_rfl)) (fun _ _ _ h => h) (Or.inr ⟨by rfl, rfl⟩) ?_ ?_
                          rotate_left
                          · simp only [Act.put, List.setIfInBounds_toArray, List.set_cons_zero, List.set_cons_succ, i64_w, i32_w]
                            rfl
                          refine pure_ (i := 21) (N := some 68) (v := undef) (a' := ?_) #[true, true, true, true, true, true, true, true, true, true, true, true, true, true, true, true, true, true, true, true, true, true, false, false, false] rfl rfl (any_of HT_.out (by kernel_rfl)) (fun _ _ _ h => h) (Or.inr ⟨by rfl, rfl⟩) ?_ ?_
                          rotate_left
                          · simp only [Act.put, List.setIfInBounds_toArray, List.set_cons_zero, List.set_cons_succ, i64_w, i32_w]
                            rfl
                          refine pure_ (i := 22) (N := some 69) (v := undef) (a' := ?_) #[true, true, true, true, true, true, true, true, true, true, true, true, true, true, true, true, true, true, true, true, true, true, true, false, false] rfl rfl (any_of HT_.out (by kernel_rfl)) (fun _ _ _ h => h) (Or.inr ⟨by rfl, rfl⟩) ?_ ?_
                          rotate_left
                          · simp only [Act.put, List.setIfInBounds_toArray, List.set_cons_zero, List.set_cons_succ, i64_w, i32_w]
                            rfl
                          refine pz9_ 23 70 ?_
                          refine pz9_ 24 71 ?_
                          refine done_ (done_of HT_.out (by kernel_rfl)) ?_
                          try go_wp2
                          go_roundg k3
                          case measure => have := HJ3.out; have := HK2.out; have := HK3.out; omega
                          case rel => exact ⟨(wrap64 (x4_3 + t783)), (wrap64 (x7_3 + 1)), e2_, e2_, H', ⟨by have := HJ3.out; have := HK2.out; have := HK3.out; omega⟩, ⟨rr HO_781001⟩, ⟨bk BK780⟩, ⟨bb HB⟩⟩
                      · rw [if_neg c25] at H
                        have c25b0 : (t784 == 1) = false := beq_eq_false_iff_ne.mpr c25
                        have c25b1 : (t784 != 1) = true := bne_iff_ne.mpr c25
                        obtain rfl := Option.some.inj H
                        have ⟨hcz41_0, hcz41_1, hfz41_0, hfz41_1⟩ := rz2 BK780
                        try go_wp2_with (first | ((with_reducible refine gate_callee (f := 42) rfl ?_); refine gl (some 45) Tryd.func42 #[.agg #[.int .i64 t776, .slice Ao8 t777.length co8], .int .i64 x7_3] ?_; (with_reducible refine (impl_WaysToWin.calls k3 t776 _ _ t777 x7_3 t783 _ ?side1 ?side2 A23.out).mono ?_); (case side1 => exact cr HO_781001); (case side2 => exact cl HO_781001); rintro e w42 ⟨rfl, hb⟩; refine ⟨_, rfl, ?_⟩; replace HO_781001 := kr HO_781001 hb; replace BK780 := kb BK780 hb; replace HB := hs_ HB hb; (try clear hb); (try clear hb2); (try clear hk); (try clear hi)))
                        replace HO_781001 := Aside0.mk (Kd.R_drew HO_781001.out)
                        replace BK780 := Aside0.mk (blk_drew BK780.out)
                        replace HB := Aside0.mk (below_drew1 HB.out)
                        refine start_ (n := 25) (S := fun w' => w'.cell? ⟨gb780, 0, none⟩ = some (.int .i64 t776) ∧ w'.cell? ⟨gb780, 1, none⟩ = some (.slice Ao8 t777.length co8)) (ds := []) #[false, false, false, false, false, false, false, false, false, false, false, false, false, false, false, false, false, false, false, false, false, false, false, false, false] (by kernel_rfl) rfl rfl ⟨(blk_cell BK780.out 0).trans rfl, (blk_cell BK780.out 1).trans rfl⟩ (fun hHeld => ?_); refine with_tabW laws_FnCups.tab16 laws_FnCups.bits16 (fun HT_ HW_ => ?_)
                        generalize w42.drew = w43 at HO_781001 BK780 HB hHeld ⊢
                        refine pz9_ 0 47 ?_
                        refine pz9_ 2 49 ?_
                        refine pz9_ 3 50 ?_
                        refine pz9_ 6 53 ?_
                        refine take_ (i := 1) (N := some 48) (v := ?_) (a' := ?_) #[true, true, true, true, false, false, true, false, false, false, false, false, false, false, false, false, false, false, false, false, false, false, false, false, false] rfl rfl (take_ofW HT_.out HW_.out (by kernel_rfl)) (fun _ _ _ h => h) (Or.inl ⟨by rfl, ?_⟩) hHeld ?_ ?_
                        rotate_left
                        · rintro w' ⟨s0, s1⟩
                          go_simp
                          with_reducible rfl
                        rotate_left
                        · simp only [Act.put, List.setIfInBounds_toArray, List.set_cons_zero, List.set_cons_succ, i64_w, i32_w]
                          rfl
                        refine take_ (i := 4) (N := some 51) (v := ?_) (a' := ?_) #[true, true, true, true, true, false, true, false, false, false, false, false, false, false, false, false, false, false, false, false, false, false, false, false, false] rfl rfl (take_ofW HT_.out HW_.out (by kernel_rfl)) (fun _ _ _ h => h) (Or.inl ⟨by rfl, ?_⟩) hHeld ?_ ?_
                        rotate_left
                        · rintro w' ⟨s0, s1⟩
                          go_simp
                          with_reducible rfl
                        rotate_left
                        · simp only [Act.put, List.setIfInBounds_toArray, List.set_cons_zero, List.set_cons_succ, i64_w, i32_w]
                          rfl
                        refine pz9_ 5 52 ?_
                        refine pz9_ 7 54 ?_
                        refine one_ (i := 8) (N := some 55) #[true, true, true, true, true, true, true, true, true, false, false, false, false, false, false, false, false, false, false, false, false, false, false, false, false] rfl rfl (one_of HT_.out (by kernel_rfl)) (by decide) (fun K hK => ?_)
                        refine goes_ Tryd.func43 (by kernel_rfl) rfl #[.int .i64 t776, .int .i64 x7_3, .int .i64 (wrap64 ((wrap64 (t776 + 1)) - x7_3))] (by rfl) rfl rfl (by (try simp only [List.map_toArray, List.map_cons, List.map_nil]); first | done | rfl | (simp only [List.length_drop, List.length_take]; rfl)) ?_
                        with_reducible refine (impl_MeetIn.calls k3 t776 x7_3 (wrap64 ((wrap64 (t776 + 1)) - x7_3)) t784 _ A24.out).mono ?_
                        rintro e w44 ⟨rfl, hb⟩
                        refine ⟨_, rfl, ?_⟩
                        replace HO_781001 := kr HO_781001 hb
                        replace BK780 := kb BK780 hb
                        replace HB := hs_ HB hb
                        (try clear hb)
                        (try clear hb2)
                        (try clear hk)
                        (try clear hi)
                        refine hK.out _ _ ⟨(blk_cell BK780.out 0).trans rfl, (blk_cell BK780.out 1).trans rfl⟩ (fun hHeld => ?_)
                        clear hK K
                        refine norm_ (a' := ?_) ?_ ?_
                        rotate_left
                        · show Act.put _ (some 55) _ = _
                          simp only [Act.put, List.setIfInBounds_toArray, List.set_cons_zero, List.set_cons_succ, i64_w, i32_w]
                          rfl
                        refine pz9_ 9 56 ?_
                        refine pz9_ 10 57 ?_
                        refine pure_ (i := 11) (N := some 58) (v := undef) (a' := ?_) #[true, true, true, true, true, true, true, true, true, true, true, true, false, false, false, false, false, false, false, false, false, false, false, false, false] rfl rfl (any_of HT_.out (by kernel_rfl)) (fun _ _ _ h => h) (Or.inr ⟨by rfl, rfl⟩) ?_ ?_
                        rotate_left
                        · simp only [Act.put, List.setIfInBounds_toArray, List.set_cons_zero, List.set_cons_succ, i64_w, i32_w]
                          rfl
                        refine pure_ (i := 12) (N := some 59) (v := undef) (a' := ?_) #[true, true, true, true, true, true, true, true, true, true, true, true, true, false, false, false, false, false, false, false, false, false, false, false, false] rfl rfl (any_of HT_.out (by kernel_rfl)) (fun _ _ _ h => h) (Or.inr ⟨by rfl, rfl⟩) ?_ ?_
                        rotate_left
                        · simp only [Act.put, List.setIfInBounds_toArray, List.set_cons_zero, List.set_cons_succ, i64_w, i32_w]
                          rfl
                        refine pure_ (i := 13) (N := some 60) (v := undef) (a' := ?_) #[true, true, true, true, true, true, true, true, true, true, true, true, true, true, false, false, false, false, false, false, false, false, false, false, false] rfl rfl (any_of HT_.out (by kernel_rfl)) (fun _ _ _ h => h) (Or.inr ⟨by rfl, rfl⟩) ?_ ?_
                        rotate_left
                        · simp only [Act.put, List.setIfInBounds_toArray, List.set_cons_zero, List.set_cons_succ, i64_w, i32_w]
                          rfl
                        refine pure_ (i := 14) (N := some 61) (v := undef) (a' := ?_) #[true, true, true, true, true, true, true, true, true, true, true, true, true, true, true, false, false, false, false, false, false, false, false, false, false] rfl rfl (any_of HT_.out (by kernel_rfl)) (fun _ _ _ h => h) (Or.inr ⟨by rfl, rfl⟩) ?_ ?_
                        rotate_left
                        · simp only [Act.put, List.setIfInBounds_toArray, List.set_cons_zero, List.set_cons_succ, i64_w, i32_w]
                          rfl
                        refine pure_ (i := 15) (N := some 62) (v := undef) (a' := ?_) #[true, true, true, true, true, true, true, true, true, true, true, true, true, true, true, true, false, false, false, false, false, false, false, false, false] rfl rfl (any_of HT_.out (by kernel_rfl)) (fun _ _ _ h => h) (Or.inr ⟨by rfl, rfl⟩) ?_ ?_
                        rotate_left
                        · simp only [Act.put, List.setIfInBounds_toArray, List.set_cons_zero, List.set_cons_succ, i64_w, i32_w]
                          rfl
                        refine pure_ (i := 16) (N := some 63) (v := undef) (a' := ?_) #[true, true, true, true, true, true, true, true, true, true, true, true, true, true, true, true, true, false, false, false, false, false, false, false, false] rfl rfl (any_of HT_.out (by kernel_rfl)) (fun _ _ _ h => h) (Or.inr ⟨by rfl, rfl⟩) ?_ ?_
                        rotate_left
                        · simp only [Act.put, List.setIfInBounds_toArray, List.set_cons_zero, List.set_cons_succ, i64_w, i32_w]
                          rfl
                        refine pure_ (i := 17) (N := some 64) (v := undef) (a' := ?_) #[true, true, true, true, true, true, true, true, true, true, true, true, true, true, true, true, true, true, false, false, false, false, false, false, false] rfl rfl (any_of HT_.out (by kernel_rfl)) (fun _ _ _ h => h) (Or.inr ⟨by rfl, rfl⟩) ?_ ?_
                        rotate_left
                        · simp only [Act.put, List.setIfInBounds_toArray, List.set_cons_zero, List.set_cons_succ, i64_w, i32_w]
                          rfl
                        refine pure_ (i := 18) (N := some 65) (v := undef) (a' := ?_) #[true, true, true, true, true, true, true, true, true, true, true, true, true, true, true, true, true, true, true, false, false, false, false, false, false] rfl rfl (any_of HT_.out (by kernel_rfl)) (fun _ _ _ h => h) (Or.inr ⟨by rfl, rfl⟩) ?_ ?_
                        rotate_left
                        · simp only [Act.put, List.setIfInBounds_toArray, List.set_cons_zero, List.set_cons_succ, i64_w, i32_w]
                          rfl
                        refine pure_ (i := 19) (N := some 66) (v := undef) (a' := ?_) #[true, true, true, true, true, true, true, true, true, true, true, true, true, true, true, true, true, true, true, true, false, false, false, false, false] rfl rfl (any_of HT_.out (by kernel_rfl)) (fun _ _ _ h => h) (Or.inr ⟨by rfl, rfl⟩) ?_ ?_
                        rotate_left
                        · simp only [Act.put, List.setIfInBounds_toArray, List.set_cons_zero, List.set_cons_succ, i64_w, i32_w]
                          rfl
                        refine pure_ (i := 20) (N := some 67) (v := undef) (a' := ?_) #[true, true, true, true, true, true, true, true, true, true, true, true, true, true, true, true, true, true, true, true, true, false, false, false, false] rfl rfl (any_of HT_.out (by kernel_rfl)) (fun _ _ _ h => h) (Or.inr ⟨by rfl, rfl⟩) ?_ ?_
                        rotate_left
                        · simp only [Act.put, List.setIfInBounds_toArray, List.set_cons_zero, List.set_cons_succ, i64_w, i32_w]
                          rfl
                        refine pure_ (i := 21) (N := some 68) (v := undef) (a' := ?_) #[true, true, true, true, true, true, true, true, true, true, true, true, true, true, true, true, true, true, true, true, true, true, false, false, false] rfl rfl (any_of HT_.out (by kernel_rfl)) (fun _ _ _ h => h) (Or.inr ⟨by rfl, rfl⟩) ?_ ?_
                        rotate_left
                        · simp only [Act.put, List.setIfInBounds_toArray, List.set_cons_zero, List.set_cons_succ, i64_w, i32_w]
                          rfl
                        refine pure_ (i := 22) (N := some 69) (v := undef) (a' := ?_) #[true, true, true, true, true, true, true, true, true, true, true, true, true, true, true, true, true, true, true, true, true, true, true, false, false] rfl rfl (any_of HT_.out (by kernel_rfl)) (fun _ _ _ h => h) (Or.inr ⟨by rfl, rfl⟩) ?_ ?_
                        rotate_left
                        · simp only [Act.put, List.setIfInBounds_toArray, List.set_cons_zero, List.set_cons_succ, i64_w, i32_w]
                          rfl
                        refine pure_ (i := 23) (N := some 70) (v := undef) (a' := ?_) #[true, true, true, true, true, true, true, true, true, true, true, true, true, true, true, true, true, true, true, true, true, true, true, true, false] rfl rfl (any_of HT_.out (by kernel_rfl)) (fun _ _ _ h => h) (Or.inr ⟨by rfl, rfl⟩) ?_ ?_
                        rotate_left
                        · simp only [Act.put, List.setIfInBounds_toArray, List.set_cons_zero, List.set_cons_succ, i64_w, i32_w]
                          rfl
                        refine pz9_ 24 71 ?_
                        refine done_ (done_of HT_.out (by kernel_rfl)) ?_
                        try go_wp2
                        go_ret
                        exact ⟨by first | exact ee | (generalize ByteArray.toList _ = l_; cases l_ <;> rfl) | (generalize ByteArray.toList _ = l_; cases l_ <;> simp), bb HB⟩
                    · rw [if_neg c22] at H
                      have c22b0 : decide (x7_3 ≤ t776) = false := decide_eq_false c22
                      clear c22
                      replace H := Option.bind_eq_some_iff.mp H
                      obtain ⟨t787, A450, H⟩ := H
                      replace H : ((impl_ChampionOf.f k3 t776 t777).bind fun t790 => (if x4_3 = x5_2 then (if (t787.length : Int) = t776 then ((impl_MeetIn.f k3 t776 1 2).bind fun t791 => ((impl_RoundsOf.f t776).bind fun t792 => (if t791 = t792 then (if ((t790 == 0) == (decide ((t777.length : Int) < (wrap64 (t776 - 1))))) = true then (if t790 = 0 then ((impl_CupLine.f k3 t776 t777).bind fun t793 => (some (t793.toList != ([] : List UInt8)))) else ((impl_WaysToWin.f k3 t776 t777 t790).bind fun t794 => (if t794 = 1 then ((impl_CupLine.f k3 t776 t777).bind fun t795 => (some (t795.toList != ([] : List UInt8)))) else (some false)))) else (some false)) else (some false)))) else (some false)) else (some false))) = some r := H
                      have A45 := Aside0.mk A450
                      clear A450
                      replace H := Option.bind_eq_some_iff.mp H
                      obtain ⟨t790, A460, H⟩ := H
                      replace H : (if x4_3 = x5_2 then (if (t787.length : Int) = t776 then ((impl_MeetIn.f k3 t776 1 2).bind fun t791 => ((impl_RoundsOf.f t776).bind fun t792 => (if t791 = t792 then (if ((t790 == 0) == (decide ((t777.length : Int) < (wrap64 (t776 - 1))))) = true then (if t790 = 0 then ((impl_CupLine.f k3 t776 t777).bind fun t793 => (some (t793.toList != ([] : List UInt8)))) else ((impl_WaysToWin.f k3 t776 t777 t790).bind fun t794 => (if t794 = 1 then ((impl_CupLine.f k3 t776 t777).bind fun t795 => (some (t795.toList != ([] : List UInt8)))) else (some false)))) else (some false)) else (some false)))) else (some false)) else (some false)) = some r := H
                      have A46 := Aside0.mk A460
                      clear A460
                      by_cases c47 : x4_3 = x5_2
                      · rw [if_pos c47] at H
                        have c47b0 : (x4_3 == x5_2) = true := beq_iff_eq.mpr c47
                        have c47b1 : (x4_3 != x5_2) = false := bne_eq_false_iff_eq.mpr c47
                        clear c47
                        by_cases c48 : (t787.length : Int) = t776
                        · rw [if_pos c48] at H
                          have c48b0 : ((t787.length : Int) == t776) = true := beq_iff_eq.mpr c48
                          have c48b1 : ((t787.length : Int) != t776) = false := bne_eq_false_iff_eq.mpr c48
                          clear c48
                          replace H := Option.bind_eq_some_iff.mp H
                          obtain ⟨t791, A490, H⟩ := H
                          replace H : ((impl_RoundsOf.f t776).bind fun t792 => (if t791 = t792 then (if ((t790 == 0) == (decide ((t777.length : Int) < (wrap64 (t776 - 1))))) = true then (if t790 = 0 then ((impl_CupLine.f k3 t776 t777).bind fun t793 => (some (t793.toList != ([] : List UInt8)))) else ((impl_WaysToWin.f k3 t776 t777 t790).bind fun t794 => (if t794 = 1 then ((impl_CupLine.f k3 t776 t777).bind fun t795 => (some (t795.toList != ([] : List UInt8)))) else (some false)))) else (some false)) else (some false))) = some r := H
                          have A49 := Aside0.mk A490
                          clear A490
                          replace H := Option.bind_eq_some_iff.mp H
                          obtain ⟨t792, A500, H⟩ := H
                          replace H : (if t791 = t792 then (if ((t790 == 0) == (decide ((t777.length : Int) < (wrap64 (t776 - 1))))) = true then (if t790 = 0 then ((impl_CupLine.f k3 t776 t777).bind fun t793 => (some (t793.toList != ([] : List UInt8)))) else ((impl_WaysToWin.f k3 t776 t777 t790).bind fun t794 => (if t794 = 1 then ((impl_CupLine.f k3 t776 t777).bind fun t795 => (some (t795.toList != ([] : List UInt8)))) else (some false)))) else (some false)) else (some false)) = some r := H
                          have A50 := Aside0.mk A500
                          clear A500
                          by_cases c51 : t791 = t792
                          · rw [if_pos c51] at H
                            have c51b0 : (t791 == t792) = true := beq_iff_eq.mpr c51
                            have c51b1 : (t791 != t792) = false := bne_eq_false_iff_eq.mpr c51
                            clear c51
                            by_cases c52 : ((t790 == 0) == (decide ((t777.length : Int) < (wrap64 (t776 - 1))))) = true
                            · rw [if_pos c52] at H
                              have c52b0 : ((t790 == 0) == (decide ((t777.length : Int) < (wrap64 (t776 - 1))))) = true := c52
                              (try (have c52b1 : decide ((t790 == 0) = (decide ((t777.length : Int) < (wrap64 (t776 - 1))))) = true := by simpa using c52))
                              (try (have c52b2 : ((t790 == 0) == (decide ((t777.length : Int) < (wrap64 (t776 - 1))))) = true := by simpa using c52))
                              clear c52
                              by_cases c53 : t790 = 0
                              · rw [if_pos c53] at H
                                have c53b0 : (t790 == 0) = true := beq_iff_eq.mpr c53
                                have c53x : decide ((t777.length : Int) < (wrap64 (t776 - 1))) = true := by (have h_ := c52b0; rw [c53b0] at h_; simpa using h_)
                                have c53b1 : (t790 != 0) = false := bne_eq_false_iff_eq.mpr c53
                                clear c53
                                replace H := Option.bind_eq_some_iff.mp H
                                obtain ⟨t793, A540, H⟩ := H
                                replace H : (some (t793.toList != ([] : List UInt8))) = some r := H
                                have A54 := Aside0.mk A540
                                clear A540
                                obtain rfl := Option.some.inj H
                                have ⟨hcz55_0, hcz55_1, hfz55_0, hfz55_1⟩ := rz2 BK780
                                try go_wp2_with (first | ((with_reducible refine gate_callee (f := 44) rfl ?_); refine gl (some 74) Tryd.func44 #[.int .i64 t776] ?_; (with_reducible refine (impl_BracketOf.calls k3 t776 t787 _ A45.out).mono ?_); rintro e w56 ⟨v788, rfl, ho0, hb⟩; refine ⟨_, rfl, ?_⟩; have HO789 := Aside0.mk (Kd.R_lower (Kd.R_new' ho0 (rt HO_781001)) (below_size (bb HB))); replace HO_781001 := ke HO_781001 ho0 hb; replace BK780 := kb BK780 hb; replace HB := hs_ HB hb; (try clear hb); (try clear hb2); (try clear hk); (try clear hi); (try clear ho0); have ⟨hcz57_0, hcz57_1, hfz57_0, hfz57_1⟩ := rz2 BK780) | ((with_reducible refine gate_callee (f := 45) rfl ?_); refine gl (some 76) Tryd.func45 #[.agg #[.int .i64 t776, .slice Ao8 t777.length co8]] ?_; (with_reducible refine (impl_ChampionOf.calls k3 t776 _ _ t777 t790 _ ?side1 ?side2 A46.out).mono ?_); (case side1 => exact cr HO_781001); (case side2 => exact cl HO_781001); rintro e w58 ⟨rfl, hb⟩; refine ⟨_, rfl, ?_⟩; replace HO_781001 := kr HO_781001 hb; replace HO789 := kr HO789 hb; replace BK780 := kb BK780 hb; replace HB := hs_ HB hb; (try clear hb); (try clear hb2); (try clear hk); (try clear hi)))
                                replace HO_781001 := Aside0.mk (Kd.R_drew HO_781001.out)
                                replace HO789 := Aside0.mk (Kd.R_drew HO789.out)
                                replace BK780 := Aside0.mk (blk_drew BK780.out)
                                replace HB := Aside0.mk (below_drew1 HB.out)
                                obtain ⟨Ao60, co60, eo60⟩ := Kd.R_slice HO789.out
                                (first | subst eo60 | (injection eo60 with f1_ f2_ f3_; have f4_ := f1_.symm; have f5_ := f3_.symm; clear f1_ f2_ f3_; subst f4_; subst f5_))
                                refine start_ (n := 47) (S := fun w' => w'.cell? ⟨gb780, 0, none⟩ = some (.int .i64 t776) ∧ w'.cell? ⟨gb780, 1, none⟩ = some (.slice Ao8 t777.length co8)) (ds := []) #[false, false, false, false, false, false, false, false, false, false, false, false, false, false, false, false, false, false, false, false, false, false, false, false, false, false, false, false, false, false, false, false, false, false, false, false, false, false, false, false, false, false, false, false, false, false, false] (by kernel_rfl) rfl rfl ⟨(blk_cell BK780.out 0).trans rfl, (blk_cell BK780.out 1).trans rfl⟩ (fun hHeld => ?_); refine with_tabW laws_FnCups.tab20 laws_FnCups.bits20 (fun HT_ HW_ => ?_)
                                generalize w58.drew = w59 at HO_781001 HO789 BK780 HB hHeld ⊢
                                refine pz9_ 0 77 ?_
                                refine pz9_ 1 78 ?_
                                refine pz9_ 2 79 ?_
                                refine pz9_ 3 80 ?_
                                refine pz9_ 4 81 ?_
                                refine pz9_ 5 82 ?_
                                refine pz9_ 6 83 ?_
                                refine take_ (i := 7) (N := some 84) (v := ?_) (a' := ?_) #[true, true, true, true, true, true, true, true, false, false, false, false, false, false, false, false, false, false, false, false, false, false, false, false, false, false, false, false, false, false, false, false, false, false, false, false, false, false, false, false, false, false, false, false, false, false, false] rfl rfl (take_ofW HT_.out HW_.out (by kernel_rfl)) (fun _ _ _ h => h) (Or.inl ⟨by rfl, ?_⟩) hHeld ?_ ?_
                                rotate_left
                                · rintro w' ⟨s0, s1⟩
                                  go_simp
                                  with_reducible rfl
                                rotate_left
                                · simp only [Act.put, List.setIfInBounds_toArray, List.set_cons_zero, List.set_cons_succ, i64_w, i32_w]
                                  rfl
                                refine pz9_ 8 85 ?_
                                refine pz9_ 9 86 ?_
                                refine pz9_ 10 87 ?_
                                refine pz9_ 11 88 ?_
                                refine pz9_ 14 91 ?_
                                refine take_ (i := 12) (N := some 89) (v := ?_) (a' := ?_) #[true, true, true, true, true, true, true, true, true, true, true, true, true, false, true, false, false, false, false, false, false, false, false, false, false, false, false, false, false, false, false, false, false, false, false, false, false, false, false, false, false, false, false, false, false, false, false] rfl rfl (take_ofW HT_.out HW_.out (by kernel_rfl)) (fun _ _ _ h => h) (Or.inl ⟨by rfl, ?_⟩) hHeld ?_ ?_
                                rotate_left
                                · rintro w' ⟨s0, s1⟩
                                  go_simp
                                  with_reducible rfl
                                rotate_left
                                · simp only [Act.put, List.setIfInBounds_toArray, List.set_cons_zero, List.set_cons_succ, i64_w, i32_w]
                                  rfl
                                refine take_ (i := 15) (N := some 92) (v := ?_) (a' := ?_) #[true, true, true, true, true, true, true, true, true, true, true, true, true, false, true, true, false, false, false, false, false, false, false, false, false, false, false, false, false, false, false, false, false, false, false, false, false, false, false, false, false, false, false, false, false, false, false] rfl rfl (take_ofW HT_.out HW_.out (by kernel_rfl)) (fun _ _ _ h => h) (Or.inl ⟨by rfl, ?_⟩) hHeld ?_ ?_
                                rotate_left
                                · rintro w' ⟨s0, s1⟩
                                  go_simp
                                  with_reducible rfl
                                rotate_left
                                · simp only [Act.put, List.setIfInBounds_toArray, List.set_cons_zero, List.set_cons_succ, i64_w, i32_w]
                                  rfl
                                refine one_ (i := 13) (N := some 90) #[true, true, true, true, true, true, true, true, true, true, true, true, true, true, true, true, false, false, false, false, false, false, false, false, false, false, false, false, false, false, false, false, false, false, false, false, false, false, false, false, false, false, false, false, false, false, false] rfl rfl (one_of HT_.out (by kernel_rfl)) (by decide) (fun K hK => ?_)
                                refine goes_ Tryd.func43 (by kernel_rfl) rfl #[.int .i64 t776, .int .i64 1, .int .i64 2] (by rfl) rfl rfl (by (try simp only [List.map_toArray, List.map_cons, List.map_nil]); first | done | rfl | (simp only [List.length_drop, List.length_take]; rfl)) ?_
                                with_reducible refine (impl_MeetIn.calls k3 t776 1 2 t791 _ A49.out).mono ?_
                                rintro e w61 ⟨rfl, hb⟩
                                refine ⟨_, rfl, ?_⟩
                                replace HO_781001 := kr HO_781001 hb
                                replace HO789 := kr HO789 hb
                                replace BK780 := kb BK780 hb
                                replace HB := hs_ HB hb
                                (try clear hb)
                                (try clear hb2)
                                (try clear hk)
                                (try clear hi)
                                refine hK.out _ _ ⟨(blk_cell BK780.out 0).trans rfl, (blk_cell BK780.out 1).trans rfl⟩ (fun hHeld => ?_)
                                clear hK K
                                refine norm_ (a' := ?_) ?_ ?_
                                rotate_left
                                · show Act.put _ (some 90) _ = _
                                  simp only [Act.put, List.setIfInBounds_toArray, List.set_cons_zero, List.set_cons_succ, i64_w, i32_w]
                                  rfl
                                refine one_ (i := 16) (N := some 93) #[true, true, true, true, true, true, true, true, true, true, true, true, true, true, true, true, true, false, false, false, false, false, false, false, false, false, false, false, false, false, false, false, false, false, false, false, false, false, false, false, false, false, false, false, false, false, false] rfl rfl (one_of HT_.out (by kernel_rfl)) (by decide) (fun K hK => ?_)
                                refine goes_ Tryd.func46 (by kernel_rfl) rfl #[.int .i64 t776] (by rfl) rfl rfl (by (try simp only [List.map_toArray, List.map_cons, List.map_nil]); first | done | rfl | (simp only [List.length_drop, List.length_take]; rfl)) ?_
                                with_reducible refine (impl_RoundsOf.calls t776 t792 _ A50.out).mono ?_
                                rintro e w' ⟨rfl, ⟨nd, rfl⟩⟩
                                refine ⟨_, rfl, ?_⟩
                                refine hK.out _ _ ⟨(blk_cell BK780.out 0).trans rfl, (blk_cell BK780.out 1).trans rfl⟩ (fun hHeld => ?_)
                                clear hK K
                                refine norm_ (a' := ?_) ?_ ?_
                                rotate_left
                                · show Act.put _ (some 93) _ = _
                                  simp only [Act.put, List.setIfInBounds_toArray, List.set_cons_zero, List.set_cons_succ, i64_w, i32_w]
                                  rfl
                                refine pz9_ 17 94 ?_
                                refine pz9_ 18 95 ?_
                                refine pz9_ 19 96 ?_
                                refine pz9_ 20 97 ?_
                                refine pz9_ 21 98 ?_
                                refine pz9_ 22 99 ?_
                                refine pz9_ 25 102 ?_
                                refine take_ (i := 23) (N := some 100) (v := ?_) (a' := ?_) #[true, true, true, true, true, true, true, true, true, true, true, true, true, true, true, true, true, true, true, true, true, true, true, true, false, true, false, false, false, false, false, false, false, false, false, false, false, false, false, false, false, false, false, false, false, false, false] rfl rfl (take_ofW HT_.out HW_.out (by kernel_rfl)) (fun _ _ _ h => h) (Or.inl ⟨by rfl, ?_⟩) hHeld ?_ ?_
                                rotate_left
                                · rintro w' ⟨s0, s1⟩
                                  go_simp
                                  with_reducible rfl
                                rotate_left
                                · simp only [Act.put, List.setIfInBounds_toArray, List.set_cons_zero, List.set_cons_succ, i64_w, i32_w]
                                  rfl
                                refine pz9_ 24 101 ?_
                                refine take_ (i := 26) (N := some 103) (v := ?_) (a' := ?_) #[true, true, true, true, true, true, true, true, true, true, true, true, true, true, true, true, true, true, true, true, true, true, true, true, true, true, true, false, false, false, false, false, false, false, false, false, false, false, false, false, false, false, false, false, false, false, false] rfl rfl (take_ofW HT_.out HW_.out (by kernel_rfl)) (fun _ _ _ h => h) (Or.inl ⟨by rfl, ?_⟩) hHeld ?_ ?_
                                rotate_left
                                · rintro w' ⟨s0, s1⟩
                                  go_simp
                                  with_reducible rfl
                                rotate_left
                                · simp only [Act.put, List.setIfInBounds_toArray, List.set_cons_zero, List.set_cons_succ, i64_w, i32_w]
                                  rfl
                                refine pz9_ 27 104 ?_
                                refine pz9_ 28 105 ?_
                                refine pz9_ 29 106 ?_
                                refine pz9_ 30 107 ?_
                                refine pz9_ 31 108 ?_
                                refine pz9_ 32 109 ?_
                                refine pz9_ 33 110 ?_
                                refine pz9_ 34 111 ?_
                                refine pure_ (i := 35) (N := some 112) (v := undef) (a' := ?_) #[true, true, true, true, true, true, true, true, true, true, true, true, true, true, true, true, true, true, true, true, true, true, true, true, true, true, true, true, true, true, true, true, true, true, true, true, false, false, false, false, false, false, false, false, false, false, false] rfl rfl (any_of HT_.out (by kernel_rfl)) (fun _ _ _ h => h) (Or.inr ⟨by rfl, rfl⟩) ?_ ?_
                                rotate_left
                                · simp only [Act.put, List.setIfInBounds_toArray, List.set_cons_zero, List.set_cons_succ, i64_w, i32_w]
                                  rfl
                                refine pure_ (i := 36) (N := some 113) (v := undef) (a' := ?_) #[true, true, true, true, true, true, true, true, true, true, true, true, true, true, true, true, true, true, true, true, true, true, true, true, true, true, true, true, true, true, true, true, true, true, true, true, true, false, false, false, false, false, false, false, false, false, false] rfl rfl (any_of HT_.out (by kernel_rfl)) (fun _ _ _ h => h) (Or.inr ⟨by rfl, rfl⟩) ?_ ?_
                                rotate_left
                                · simp only [Act.put, List.setIfInBounds_toArray, List.set_cons_zero, List.set_cons_succ, i64_w, i32_w]
                                  rfl
                                refine pure_ (i := 37) (N := some 114) (v := undef) (a' := ?_) #[true, true, true, true, true, true, true, true, true, true, true, true, true, true, true, true, true, true, true, true, true, true, true, true, true, true, true, true, true, true, true, true, true, true, true, true, true, true, false, false, false, false, false, false, false, false, false] rfl rfl (any_of HT_.out (by kernel_rfl)) (fun _ _ _ h => h) (Or.inr ⟨by rfl, rfl⟩) ?_ ?_
                                rotate_left
                                · simp only [Act.put, List.setIfInBounds_toArray, List.set_cons_zero, List.set_cons_succ, i64_w, i32_w]
                                  rfl
                                refine pure_ (i := 38) (N := some 115) (v := undef) (a' := ?_) #[true, true, true, true, true, true, true, true, true, true, true, true, true, true, true, true, true, true, true, true, true, true, true, true, true, true, true, true, true, true, true, true, true, true, true, true, true, true, true, false, false, false, false, false, false, false, false] rfl rfl (any_of HT_.out (by kernel_rfl)) (fun _ _ _ h => h) (Or.inr ⟨by rfl, rfl⟩) ?_ ?_
                                rotate_left
                                · simp only [Act.put, List.setIfInBounds_toArray, List.set_cons_zero, List.set_cons_succ, i64_w, i32_w]
                                  rfl
                                refine pz9_ 39 116 ?_
                                refine pz9_ 40 117 ?_
                                refine pz9_ 41 118 ?_
                                refine take_ (i := 42) (N := some 119) (v := ?_) (a' := ?_) #[true, true, true, true, true, true, true, true, true, true, true, true, true, true, true, true, true, true, true, true, true, true, true, true, true, true, true, true, true, true, true, true, true, true, true, true, true, true, true, true, true, true, true, false, false, false, false] rfl rfl (take_ofW HT_.out HW_.out (by kernel_rfl)) (fun _ _ _ h => h) (Or.inl ⟨by rfl, ?_⟩) hHeld ?_ ?_
                                rotate_left
                                · rintro w' ⟨s0, s1⟩
                                  go_simp
                                  with_reducible rfl
                                rotate_left
                                · simp only [Act.put, List.setIfInBounds_toArray, List.set_cons_zero, List.set_cons_succ, i64_w, i32_w]
                                  rfl
                                refine one_ (i := 43) (N := some 120) #[true, true, true, true, true, true, true, true, true, true, true, true, true, true, true, true, true, true, true, true, true, true, true, true, true, true, true, true, true, true, true, true, true, true, true, true, true, true, true, true, true, true, true, true, false, false, false] rfl rfl (one_of HT_.out (by kernel_rfl)) (by decide) (fun K hK => ?_)
                                refine goes_ Tryd.func37 (by kernel_rfl) rfl #[.agg #[.int .i64 t776, .slice Ao8 t777.length co8]] (by rfl) rfl rfl (by (try simp only [List.map_toArray, List.map_cons, List.map_nil]); first | done | rfl | (simp only [List.length_drop, List.length_take]; rfl)) ?_
                                with_reducible refine (impl_CupLine.calls k3 t776 _ _ t777 t793 _ ?side1 ?side2 A54.out).mono ?_
                                (case side1 => exact cr HO_781001)
                                (case side2 => exact (Kd.R_reads' HO_781001.out).2.1)
                                rintro e w62 ⟨rfl, hb⟩
                                refine ⟨_, rfl, ?_⟩
                                replace HO_781001 := kr HO_781001 hb
                                replace HO789 := kr HO789 hb
                                replace BK780 := kb BK780 hb
                                replace HB := hs_ HB hb
                                (try clear hb)
                                (try clear hb2)
                                (try clear hk)
                                (try clear hi)
                                refine hK.out _ _ ⟨(blk_cell BK780.out 0).trans rfl, (blk_cell BK780.out 1).trans rfl⟩ (fun hHeld => ?_)
                                clear hK K
                                refine norm_ (a' := ?_) ?_ ?_
                                rotate_left
                                · show Act.put _ (some 120) _ = _
                                  simp only [Act.put, List.setIfInBounds_toArray, List.set_cons_zero, List.set_cons_succ, i64_w, i32_w]
                                  rfl
                                refine pz9_ 44 121 ?_
                                refine pz9_ 45 122 ?_
                                refine pz9_ 46 2 ?_
                                refine done_ (done_of HT_.out (by kernel_rfl)) ?_
                                try go_wp2
                                go_ret
                                exact ⟨by first | exact ee | (generalize ByteArray.toList _ = l_; cases l_ <;> rfl) | (generalize ByteArray.toList _ = l_; cases l_ <;> simp), bb HB⟩
                              · rw [if_neg c53] at H
                                have c53b0 : (t790 == 0) = false := beq_eq_false_iff_ne.mpr c53
                                have c53x : decide ((t777.length : Int) < (wrap64 (t776 - 1))) = false := by (have h_ := c52b0; rw [c53b0] at h_; simpa using h_)
                                have c53b1 : (t790 != 0) = true := bne_iff_ne.mpr c53
                                replace H := Option.bind_eq_some_iff.mp H
                                obtain ⟨t794, A630, H⟩ := H
                                replace H : (if t794 = 1 then ((impl_CupLine.f k3 t776 t777).bind fun t795 => (some (t795.toList != ([] : List UInt8)))) else (some false)) = some r := H
                                have A63 := Aside0.mk A630
                                clear A630
                                by_cases c64 : t794 = 1
                                · rw [if_pos c64] at H
                                  have c64b0 : (t794 == 1) = true := beq_iff_eq.mpr c64
                                  have c64b1 : (t794 != 1) = false := bne_eq_false_iff_eq.mpr c64
                                  clear c64
                                  replace H := Option.bind_eq_some_iff.mp H
                                  obtain ⟨t795, A650, H⟩ := H
                                  replace H : (some (t795.toList != ([] : List UInt8))) = some r := H
                                  have A65 := Aside0.mk A650
                                  clear A650
                                  obtain rfl := Option.some.inj H
                                  have ⟨hcz66_0, hcz66_1, hfz66_0, hfz66_1⟩ := rz2 BK780
                                  try go_wp2_with (first | ((with_reducible refine gate_callee (f := 44) rfl ?_); refine gl (some 74) Tryd.func44 #[.int .i64 t776] ?_; (with_reducible refine (impl_BracketOf.calls k3 t776 t787 _ A45.out).mono ?_); rintro e w67 ⟨v788, rfl, ho0, hb⟩; refine ⟨_, rfl, ?_⟩; have HO789 := Aside0.mk (Kd.R_lower (Kd.R_new' ho0 (rt HO_781001)) (below_size (bb HB))); replace HO_781001 := ke HO_781001 ho0 hb; replace BK780 := kb BK780 hb; replace HB := hs_ HB hb; (try clear hb); (try clear hb2); (try clear hk); (try clear hi); (try clear ho0); have ⟨hcz68_0, hcz68_1, hfz68_0, hfz68_1⟩ := rz2 BK780) | ((with_reducible refine gate_callee (f := 45) rfl ?_); refine gl (some 76) Tryd.func45 #[.agg #[.int .i64 t776, .slice Ao8 t777.length co8]] ?_; (with_reducible refine (impl_ChampionOf.calls k3 t776 _ _ t777 t790 _ ?side1 ?side2 A46.out).mono ?_); (case side1 => exact cr HO_781001); (case side2 => exact cl HO_781001); rintro e w69 ⟨rfl, hb⟩; refine ⟨_, rfl, ?_⟩; replace HO_781001 := kr HO_781001 hb; replace HO789 := kr HO789 hb; replace BK780 := kb BK780 hb; replace HB := hs_ HB hb; (try clear hb); (try clear hb2); (try clear hk); (try clear hi)))
                                  replace HO_781001 := Aside0.mk (Kd.R_drew HO_781001.out)
                                  replace HO789 := Aside0.mk (Kd.R_drew HO789.out)
                                  replace BK780 := Aside0.mk (blk_drew BK780.out)
                                  replace HB := Aside0.mk (below_drew1 HB.out)
                                  obtain ⟨Ao71, co71, eo71⟩ := Kd.R_slice HO789.out
                                  (first | subst eo71 | (injection eo71 with f1_ f2_ f3_; have f4_ := f1_.symm; have f5_ := f3_.symm; clear f1_ f2_ f3_; subst f4_; subst f5_))
                                  refine start_ (n := 47) (S := fun w' => w'.cell? ⟨gb780, 0, none⟩ = some (.int .i64 t776) ∧ w'.cell? ⟨gb780, 1, none⟩ = some (.slice Ao8 t777.length co8)) (ds := []) #[false, false, false, false, false, false, false, false, false, false, false, false, false, false, false, false, false, false, false, false, false, false, false, false, false, false, false, false, false, false, false, false, false, false, false, false, false, false, false, false, false, false, false, false, false, false, false] (by kernel_rfl) rfl rfl ⟨(blk_cell BK780.out 0).trans rfl, (blk_cell BK780.out 1).trans rfl⟩ (fun hHeld => ?_); refine with_tabW laws_FnCups.tab20 laws_FnCups.bits20 (fun HT_ HW_ => ?_)
                                  generalize w69.drew = w70 at HO_781001 HO789 BK780 HB hHeld ⊢
                                  refine pz9_ 0 77 ?_
                                  refine pz9_ 1 78 ?_
                                  refine pz9_ 2 79 ?_
                                  refine pz9_ 3 80 ?_
                                  refine pz9_ 4 81 ?_
                                  refine pz9_ 5 82 ?_
                                  refine pz9_ 6 83 ?_
                                  refine take_ (i := 7) (N := some 84) (v := ?_) (a' := ?_) #[true, true, true, true, true, true, true, true, false, false, false, false, false, false, false, false, false, false, false, false, false, false, false, false, false, false, false, false, false, false, false, false, false, false, false, false, false, false, false, false, false, false, false, false, false, false, false] rfl rfl (take_ofW HT_.out HW_.out (by kernel_rfl)) (fun _ _ _ h => h) (Or.inl ⟨by rfl, ?_⟩) hHeld ?_ ?_
                                  rotate_left
                                  · rintro w' ⟨s0, s1⟩
                                    go_simp
                                    with_reducible rfl
                                  rotate_left
                                  · simp only [Act.put, List.setIfInBounds_toArray, List.set_cons_zero, List.set_cons_succ, i64_w, i32_w]
                                    rfl
                                  refine pz9_ 8 85 ?_
                                  refine pz9_ 9 86 ?_
                                  refine pz9_ 10 87 ?_
                                  refine pz9_ 11 88 ?_
                                  refine pz9_ 14 91 ?_
                                  refine take_ (i := 12) (N := some 89) (v := ?_) (a' := ?_) #[true, true, true, true, true, true, true, true, true, true, true, true, true, false, true, false, false, false, false, false, false, false, false, false, false, false, false, false, false, false, false, false, false, false, false, false, false, false, false, false, false, false, false, false, false, false, false] rfl rfl (take_ofW HT_.out HW_.out (by kernel_rfl)) (fun _ _ _ h => h) (Or.inl ⟨by rfl, ?_⟩) hHeld ?_ ?_
                                  rotate_left
                                  · rintro w' ⟨s0, s1⟩
                                    go_simp
                                    with_reducible rfl
                                  rotate_left
                                  · simp only [Act.put, List.setIfInBounds_toArray, List.set_cons_zero, List.set_cons_succ, i64_w, i32_w]
                                    rfl
                                  refine take_ (i := 15) (N := some 92) (v := ?_) (a' := ?_) #[true, true, true, true, true, true, true, true, true, true, true, true, true, false, true, true, false, false, false, false, false, false, false, false, false, false, false, false, false, false, false, false, false, false, false, false, false, false, false, false, false, false, false, false, false, false, false] rfl rfl (take_ofW HT_.out HW_.out (by kernel_rfl)) (fun _ _ _ h => h) (Or.inl ⟨by rfl, ?_⟩) hHeld ?_ ?_
                                  rotate_left
                                  · rintro w' ⟨s0, s1⟩
                                    go_simp
                                    with_reducible rfl
                                  rotate_left
                                  · simp only [Act.put, List.setIfInBounds_toArray, List.set_cons_zero, List.set_cons_succ, i64_w, i32_w]
                                    rfl
                                  refine one_ (i := 13) (N := some 90) #[true, true, true, true, true, true, true, true, true, true, true, true, true, true, true, true, false, false, false, false, false, false, false, false, false, false, false, false, false, false, false, false, false, false, false, false, false, false, false, false, false, false, false, false, false, false, false] rfl rfl (one_of HT_.out (by kernel_rfl)) (by decide) (fun K hK => ?_)
                                  refine goes_ Tryd.func43 (by kernel_rfl) rfl #[.int .i64 t776, .int .i64 1, .int .i64 2] (by rfl) rfl rfl (by (try simp only [List.map_toArray, List.map_cons, List.map_nil]); first | done | rfl | (simp only [List.length_drop, List.length_take]; rfl)) ?_
                                  with_reducible refine (impl_MeetIn.calls k3 t776 1 2 t791 _ A49.out).mono ?_
                                  rintro e w72 ⟨rfl, hb⟩
                                  refine ⟨_, rfl, ?_⟩
                                  replace HO_781001 := kr HO_781001 hb
                                  replace HO789 := kr HO789 hb
                                  replace BK780 := kb BK780 hb
                                  replace HB := hs_ HB hb
                                  (try clear hb)
                                  (try clear hb2)
                                  (try clear hk)
                                  (try clear hi)
                                  refine hK.out _ _ ⟨(blk_cell BK780.out 0).trans rfl, (blk_cell BK780.out 1).trans rfl⟩ (fun hHeld => ?_)
                                  clear hK K
                                  refine norm_ (a' := ?_) ?_ ?_
                                  rotate_left
                                  · show Act.put _ (some 90) _ = _
                                    simp only [Act.put, List.setIfInBounds_toArray, List.set_cons_zero, List.set_cons_succ, i64_w, i32_w]
                                    rfl
                                  refine one_ (i := 16) (N := some 93) #[true, true, true, true, true, true, true, true, true, true, true, true, true, true, true, true, true, false, false, false, false, false, false, false, false, false, false, false, false, false, false, false, false, false, false, false, false, false, false, false, false, false, false, false, false, false, false] rfl rfl (one_of HT_.out (by kernel_rfl)) (by decide) (fun K hK => ?_)
                                  refine goes_ Tryd.func46 (by kernel_rfl) rfl #[.int .i64 t776] (by rfl) rfl rfl (by (try simp only [List.map_toArray, List.map_cons, List.map_nil]); first | done | rfl | (simp only [List.length_drop, List.length_take]; rfl)) ?_
                                  with_reducible refine (impl_RoundsOf.calls t776 t792 _ A50.out).mono ?_
                                  rintro e w' ⟨rfl, ⟨nd, rfl⟩⟩
                                  refine ⟨_, rfl, ?_⟩
                                  refine hK.out _ _ ⟨(blk_cell BK780.out 0).trans rfl, (blk_cell BK780.out 1).trans rfl⟩ (fun hHeld => ?_)
                                  clear hK K
                                  refine norm_ (a' := ?_) ?_ ?_
                                  rotate_left
                                  · show Act.put _ (some 93) _ = _
                                    simp only [Act.put, List.setIfInBounds_toArray, List.set_cons_zero, List.set_cons_succ, i64_w, i32_w]
                                    rfl
                                  refine pz9_ 17 94 ?_
                                  refine pz9_ 18 95 ?_
                                  refine pz9_ 19 96 ?_
                                  refine pz9_ 20 97 ?_
                                  refine pz9_ 21 98 ?_
                                  refine pz9_ 22 99 ?_
                                  refine pz9_ 25 102 ?_
                                  refine take_ (i := 23) (N := some 100) (v := ?_) (a' := ?_) #[true, true, true, true, true, true, true, true, true, true, true, true, true, true, true, true, true, true, true, true, true, true, true, true, false, true, false, false, false, false, false, false, false, false, false, false, false, false, false, false, false, false, false, false, false, false, false] rfl rfl (take_ofW HT_.out HW_.out (by kernel_rfl)) (fun _ _ _ h => h) (Or.inl ⟨by rfl, ?_⟩) hHeld ?_ ?_
                                  rotate_left
                                  · rintro w' ⟨s0, s1⟩
                                    go_simp
                                    with_reducible rfl
                                  rotate_left
                                  · simp only [Act.put, List.setIfInBounds_toArray, List.set_cons_zero, List.set_cons_succ, i64_w, i32_w]
                                    rfl
                                  refine pz9_ 24 101 ?_
                                  refine take_ (i := 26) (N := some 103) (v := ?_) (a' := ?_) #[true, true, true, true, true, true, true, true, true, true, true, true, true, true, true, true, true, true, true, true, true, true, true, true, true, true, true, false, false, false, false, false, false, false, false, false, false, false, false, false, false, false, false, false, false, false, false] rfl rfl (take_ofW HT_.out HW_.out (by kernel_rfl)) (fun _ _ _ h => h) (Or.inl ⟨by rfl, ?_⟩) hHeld ?_ ?_
                                  rotate_left
                                  · rintro w' ⟨s0, s1⟩
                                    go_simp
                                    with_reducible rfl
                                  rotate_left
                                  · simp only [Act.put, List.setIfInBounds_toArray, List.set_cons_zero, List.set_cons_succ, i64_w, i32_w]
                                    rfl
                                  refine pz9_ 27 104 ?_
                                  refine pz9_ 28 105 ?_
                                  refine pz9_ 29 106 ?_
                                  refine pz9_ 30 107 ?_
                                  refine pz9_ 31 108 ?_
                                  refine pz9_ 32 109 ?_
                                  refine pz9_ 33 110 ?_
                                  refine pz9_ 34 111 ?_
                                  refine pz9_ 36 113 ?_
                                  refine take_ (i := 35) (N := some 112) (v := ?_) (a' := ?_) #[true, true, true, true, true, true, true, true, true, true, true, true, true, true, true, true, true, true, true, true, true, true, true, true, true, true, true, true, true, true, true, true, true, true, true, true, true, false, false, false, false, false, false, false, false, false, false] rfl rfl (take_ofW HT_.out HW_.out (by kernel_rfl)) (fun _ _ _ h => h) (Or.inl ⟨by rfl, ?_⟩) hHeld ?_ ?_
                                  rotate_left
                                  · rintro w' ⟨s0, s1⟩
                                    go_simp
                                    with_reducible rfl
                                  rotate_left
                                  · simp only [Act.put, List.setIfInBounds_toArray, List.set_cons_zero, List.set_cons_succ, i64_w, i32_w]
                                    rfl
                                  refine one_ (i := 37) (N := some 114) #[true, true, true, true, true, true, true, true, true, true, true, true, true, true, true, true, true, true, true, true, true, true, true, true, true, true, true, true, true, true, true, true, true, true, true, true, true, true, false, false, false, false, false, false, false, false, false] rfl rfl (one_of HT_.out (by kernel_rfl)) (by decide) (fun K hK => ?_)
                                  refine goes_ Tryd.func42 (by kernel_rfl) rfl #[.agg #[.int .i64 t776, .slice Ao8 t777.length co8], .int .i64 t790] (by rfl) rfl rfl (by (try simp only [List.map_toArray, List.map_cons, List.map_nil]); first | done | rfl | (simp only [List.length_drop, List.length_take]; rfl)) ?_
                                  with_reducible refine (impl_WaysToWin.calls k3 t776 _ _ t777 t790 t794 _ ?side1 ?side2 A63.out).mono ?_
                                  (case side1 => exact cr HO_781001)
                                  (case side2 => exact (Kd.R_reads' HO_781001.out).2.1)
                                  rintro e w73 ⟨rfl, hb⟩
                                  refine ⟨_, rfl, ?_⟩
                                  replace HO_781001 := kr HO_781001 hb
                                  replace HO789 := kr HO789 hb
                                  replace BK780 := kb BK780 hb
                                  replace HB := hs_ HB hb
                                  (try clear hb)
                                  (try clear hb2)
                                  (try clear hk)
                                  (try clear hi)
                                  refine hK.out _ _ ⟨(blk_cell BK780.out 0).trans rfl, (blk_cell BK780.out 1).trans rfl⟩ (fun hHeld => ?_)
                                  clear hK K
                                  refine norm_ (a' := ?_) ?_ ?_
                                  rotate_left
                                  · show Act.put _ (some 114) _ = _
                                    simp only [Act.put, List.setIfInBounds_toArray, List.set_cons_zero, List.set_cons_succ, i64_w, i32_w]
                                    rfl
                                  refine pz9_ 38 115 ?_
                                  refine pz9_ 39 116 ?_
                                  refine pz9_ 40 117 ?_
                                  refine pz9_ 41 118 ?_
                                  refine take_ (i := 42) (N := some 119) (v := ?_) (a' := ?_) #[true, true, true, true, true, true, true, true, true, true, true, true, true, true, true, true, true, true, true, true, true, true, true, true, true, true, true, true, true, true, true, true, true, true, true, true, true, true, true, true, true, true, true, false, false, false, false] rfl rfl (take_ofW HT_.out HW_.out (by kernel_rfl)) (fun _ _ _ h => h) (Or.inl ⟨by rfl, ?_⟩) hHeld ?_ ?_
                                  rotate_left
                                  · rintro w' ⟨s0, s1⟩
                                    go_simp
                                    with_reducible rfl
                                  rotate_left
                                  · simp only [Act.put, List.setIfInBounds_toArray, List.set_cons_zero, List.set_cons_succ, i64_w, i32_w]
                                    rfl
                                  refine one_ (i := 43) (N := some 120) #[true, true, true, true, true, true, true, true, true, true, true, true, true, true, true, true, true, true, true, true, true, true, true, true, true, true, true, true, true, true, true, true, true, true, true, true, true, true, true, true, true, true, true, true, false, false, false] rfl rfl (one_of HT_.out (by kernel_rfl)) (by decide) (fun K hK => ?_)
                                  refine goes_ Tryd.func37 (by kernel_rfl) rfl #[.agg #[.int .i64 t776, .slice Ao8 t777.length co8]] (by rfl) rfl rfl (by (try simp only [List.map_toArray, List.map_cons, List.map_nil]); first | done | rfl | (simp only [List.length_drop, List.length_take]; rfl)) ?_
                                  with_reducible refine (impl_CupLine.calls k3 t776 _ _ t777 t795 _ ?side1 ?side2 A65.out).mono ?_
                                  (case side1 => exact cr HO_781001)
                                  (case side2 => exact (Kd.R_reads' HO_781001.out).2.1)
                                  rintro e w74 ⟨rfl, hb⟩
                                  refine ⟨_, rfl, ?_⟩
                                  replace HO_781001 := kr HO_781001 hb
                                  replace HO789 := kr HO789 hb
                                  replace BK780 := kb BK780 hb
                                  replace HB := hs_ HB hb
                                  (try clear hb)
                                  (try clear hb2)
                                  (try clear hk)
                                  (try clear hi)
                                  refine hK.out _ _ ⟨(blk_cell BK780.out 0).trans rfl, (blk_cell BK780.out 1).trans rfl⟩ (fun hHeld => ?_)
                                  clear hK K
                                  refine norm_ (a' := ?_) ?_ ?_
                                  rotate_left
                                  · show Act.put _ (some 120) _ = _
                                    simp only [Act.put, List.setIfInBounds_toArray, List.set_cons_zero, List.set_cons_succ, i64_w, i32_w]
                                    rfl
                                  refine pz9_ 44 121 ?_
                                  refine pz9_ 45 122 ?_
                                  refine pz9_ 46 2 ?_
                                  refine done_ (done_of HT_.out (by kernel_rfl)) ?_
                                  try go_wp2
                                  go_ret
                                  exact ⟨by first | exact ee | (generalize ByteArray.toList _ = l_; cases l_ <;> rfl) | (generalize ByteArray.toList _ = l_; cases l_ <;> simp), bb HB⟩
                                · rw [if_neg c64] at H
                                  have c64b0 : (t794 == 1) = false := beq_eq_false_iff_ne.mpr c64
                                  have c64b1 : (t794 != 1) = true := bne_iff_ne.mpr c64
                                  obtain rfl := Option.some.inj H
                                  have ⟨hcz75_0, hcz75_1, hfz75_0, hfz75_1⟩ := rz2 BK780
                                  try go_wp2_with (first | ((with_reducible refine gate_callee (f := 44) rfl ?_); refine gl (some 74) Tryd.func44 #[.int .i64 t776] ?_; (with_reducible refine (impl_BracketOf.calls k3 t776 t787 _ A45.out).mono ?_); rintro e w76 ⟨v788, rfl, ho0, hb⟩; refine ⟨_, rfl, ?_⟩; have HO789 := Aside0.mk (Kd.R_lower (Kd.R_new' ho0 (rt HO_781001)) (below_size (bb HB))); replace HO_781001 := ke HO_781001 ho0 hb; replace BK780 := kb BK780 hb; replace HB := hs_ HB hb; (try clear hb); (try clear hb2); (try clear hk); (try clear hi); (try clear ho0); have ⟨hcz77_0, hcz77_1, hfz77_0, hfz77_1⟩ := rz2 BK780) | ((with_reducible refine gate_callee (f := 45) rfl ?_); refine gl (some 76) Tryd.func45 #[.agg #[.int .i64 t776, .slice Ao8 t777.length co8]] ?_; (with_reducible refine (impl_ChampionOf.calls k3 t776 _ _ t777 t790 _ ?side1 ?side2 A46.out).mono ?_); (case side1 => exact cr HO_781001); (case side2 => exact cl HO_781001); rintro e w78 ⟨rfl, hb⟩; refine ⟨_, rfl, ?_⟩; replace HO_781001 := kr HO_781001 hb; replace HO789 := kr HO789 hb; replace BK780 := kb BK780 hb; replace HB := hs_ HB hb; (try clear hb); (try clear hb2); (try clear hk); (try clear hi)))
                                  replace HO_781001 := Aside0.mk (Kd.R_drew HO_781001.out)
                                  replace HO789 := Aside0.mk (Kd.R_drew HO789.out)
                                  replace BK780 := Aside0.mk (blk_drew BK780.out)
                                  replace HB := Aside0.mk (below_drew1 HB.out)
                                  obtain ⟨Ao80, co80, eo80⟩ := Kd.R_slice HO789.out
                                  (first | subst eo80 | (injection eo80 with f1_ f2_ f3_; have f4_ := f1_.symm; have f5_ := f3_.symm; clear f1_ f2_ f3_; subst f4_; subst f5_))
                                  refine start_ (n := 47) (S := fun w' => w'.cell? ⟨gb780, 0, none⟩ = some (.int .i64 t776) ∧ w'.cell? ⟨gb780, 1, none⟩ = some (.slice Ao8 t777.length co8)) (ds := []) #[false, false, false, false, false, false, false, false, false, false, false, false, false, false, false, false, false, false, false, false, false, false, false, false, false, false, false, false, false, false, false, false, false, false, false, false, false, false, false, false, false, false, false, false, false, false, false] (by kernel_rfl) rfl rfl ⟨(blk_cell BK780.out 0).trans rfl, (blk_cell BK780.out 1).trans rfl⟩ (fun hHeld => ?_); refine with_tabW laws_FnCups.tab20 laws_FnCups.bits20 (fun HT_ HW_ => ?_)
                                  generalize w78.drew = w79 at HO_781001 HO789 BK780 HB hHeld ⊢
                                  refine pz9_ 0 77 ?_
                                  refine pz9_ 1 78 ?_
                                  refine pz9_ 2 79 ?_
                                  refine pz9_ 3 80 ?_
                                  refine pz9_ 4 81 ?_
                                  refine pz9_ 5 82 ?_
                                  refine pz9_ 6 83 ?_
                                  refine take_ (i := 7) (N := some 84) (v := ?_) (a' := ?_) #[true, true, true, true, true, true, true, true, false, false, false, false, false, false, false, false, false, false, false, false, false, false, false, false, false, false, false, false, false, false, false, false, false, false, false, false, false, false, false, false, false, false, false, false, false, false, false] rfl rfl (take_ofW HT_.out HW_.out (by kernel_rfl)) (fun _ _ _ h => h) (Or.inl ⟨by rfl, ?_⟩) hHeld ?_ ?_
                                  rotate_left
                                  · rintro w' ⟨s0, s1⟩
                                    go_simp
                                    with_reducible rfl
                                  rotate_left
                                  · simp only [Act.put, List.setIfInBounds_toArray, List.set_cons_zero, List.set_cons_succ, i64_w, i32_w]
                                    rfl
                                  refine pz9_ 8 85 ?_
                                  refine pz9_ 9 86 ?_
                                  refine pz9_ 10 87 ?_
                                  refine pz9_ 11 88 ?_
                                  refine pz9_ 14 91 ?_
                                  refine take_ (i := 12) (N := some 89) (v := ?_) (a' := ?_) #[true, true, true, true, true, true, true, true, true, true, true, true, true, false, true, false, false, false, false, false, false, false, false, false, false, false, false, false, false, false, false, false, false, false, false, false, false, false, false, false, false, false, false, false, false, false, false] rfl rfl (take_ofW HT_.out HW_.out (by kernel_rfl)) (fun _ _ _ h => h) (Or.inl ⟨by rfl, ?_⟩) hHeld ?_ ?_
                                  rotate_left
                                  · rintro w' ⟨s0, s1⟩
                                    go_simp
                                    with_reducible rfl
                                  rotate_left
                                  · simp only [Act.put, List.setIfInBounds_toArray, List.set_cons_zero, List.set_cons_succ, i64_w, i32_w]
                                    rfl
                                  refine take_ (i := 15) (N := some 92) (v := ?_) (a' := ?_) #[true, true, true, true, true, true, true, true, true, true, true, true, true, false, true, true, false, false, false, false, false, false, false, false, false, false, false, false, false, false, false, false, false, false, false, false, false, false, false, false, false, false, false, false, false, false, false] rfl rfl (take_ofW HT_.out HW_.out (by kernel_rfl)) (fun _ _ _ h => h) (Or.inl ⟨by rfl, ?_⟩) hHeld ?_ ?_
                                  rotate_left
                                  · rintro w' ⟨s0, s1⟩
                                    go_simp
                                    with_reducible rfl
                                  rotate_left
                                  · simp only [Act.put, List.setIfInBounds_toArray, List.set_cons_zero, List.set_cons_succ, i64_w, i32_w]
                                    rfl
                                  refine one_ (i := 13) (N := some 90) #[true, true, true, true, true, true, true, true, true, true, true, true, true, true, true, true, false, false, false, false, false, false, false, false, false, false, false, false, false, false, false, false, false, false, false, false, false, false, false, false, false, false, false, false, false, false, false] rfl rfl (one_of HT_.out (by kernel_rfl)) (by decide) (fun K hK => ?_)
                                  refine goes_ Tryd.func43 (by kernel_rfl) rfl #[.int .i64 t776, .int .i64 1, .int .i64 2] (by rfl) rfl rfl (by (try simp only [List.map_toArray, List.map_cons, List.map_nil]); first | done | rfl | (simp only [List.length_drop, List.length_take]; rfl)) ?_
                                  with_reducible refine (impl_MeetIn.calls k3 t776 1 2 t791 _ A49.out).mono ?_
                                  rintro e w81 ⟨rfl, hb⟩
                                  refine ⟨_, rfl, ?_⟩
                                  replace HO_781001 := kr HO_781001 hb
                                  replace HO789 := kr HO789 hb
                                  replace BK780 := kb BK780 hb
                                  replace HB := hs_ HB hb
                                  (try clear hb)
                                  (try clear hb2)
                                  (try clear hk)
                                  (try clear hi)
                                  refine hK.out _ _ ⟨(blk_cell BK780.out 0).trans rfl, (blk_cell BK780.out 1).trans rfl⟩ (fun hHeld => ?_)
                                  clear hK K
                                  refine norm_ (a' := ?_) ?_ ?_
                                  rotate_left
                                  · show Act.put _ (some 90) _ = _
                                    simp only [Act.put, List.setIfInBounds_toArray, List.set_cons_zero, List.set_cons_succ, i64_w, i32_w]
                                    rfl
                                  refine one_ (i := 16) (N := some 93) #[true, true, true, true, true, true, true, true, true, true, true, true, true, true, true, true, true, false, false, false, false, false, false, false, false, false, false, false, false, false, false, false, false, false, false, false, false, false, false, false, false, false, false, false, false, false, false] rfl rfl (one_of HT_.out (by kernel_rfl)) (by decide) (fun K hK => ?_)
                                  refine goes_ Tryd.func46 (by kernel_rfl) rfl #[.int .i64 t776] (by rfl) rfl rfl (by (try simp only [List.map_toArray, List.map_cons, List.map_nil]); first | done | rfl | (simp only [List.length_drop, List.length_take]; rfl)) ?_
                                  with_reducible refine (impl_RoundsOf.calls t776 t792 _ A50.out).mono ?_
                                  rintro e w' ⟨rfl, ⟨nd, rfl⟩⟩
                                  refine ⟨_, rfl, ?_⟩
                                  refine hK.out _ _ ⟨(blk_cell BK780.out 0).trans rfl, (blk_cell BK780.out 1).trans rfl⟩ (fun hHeld => ?_)
                                  clear hK K
                                  refine norm_ (a' := ?_) ?_ ?_
                                  rotate_left
                                  · show Act.put _ (some 93) _ = _
                                    simp only [Act.put, List.setIfInBounds_toArray, List.set_cons_zero, List.set_cons_succ, i64_w, i32_w]
                                    rfl
                                  refine pz9_ 17 94 ?_
                                  refine pz9_ 18 95 ?_
                                  refine pz9_ 19 96 ?_
                                  refine pz9_ 20 97 ?_
                                  refine pz9_ 21 98 ?_
                                  refine pz9_ 22 99 ?_
                                  refine pz9_ 25 102 ?_
                                  refine take_ (i := 23) (N := some 100) (v := ?_) (a' := ?_) #[true, true, true, true, true, true, true, true, true, true, true, true, true, true, true, true, true, true, true, true, true, true, true, true, false, true, false, false, false, false, false, false, false, false, false, false, false, false, false, false, false, false, false, false, false, false, false] rfl rfl (take_ofW HT_.out HW_.out (by kernel_rfl)) (fun _ _ _ h => h) (Or.inl ⟨by rfl, ?_⟩) hHeld ?_ ?_
                                  rotate_left
                                  · rintro w' ⟨s0, s1⟩
                                    go_simp
                                    with_reducible rfl
                                  rotate_left
                                  · simp only [Act.put, List.setIfInBounds_toArray, List.set_cons_zero, List.set_cons_succ, i64_w, i32_w]
                                    rfl
                                  refine pz9_ 24 101 ?_
                                  refine take_ (i := 26) (N := some 103) (v := ?_) (a' := ?_) #[true, true, true, true, true, true, true, true, true, true, true, true, true, true, true, true, true, true, true, true, true, true, true, true, true, true, true, false, false, false, false, false, false, false, false, false, false, false, false, false, false, false, false, false, false, false, false] rfl rfl (take_ofW HT_.out HW_.out (by kernel_rfl)) (fun _ _ _ h => h) (Or.inl ⟨by rfl, ?_⟩) hHeld ?_ ?_
                                  rotate_left
                                  · rintro w' ⟨s0, s1⟩
                                    go_simp
                                    with_reducible rfl
                                  rotate_left
                                  · simp only [Act.put, List.setIfInBounds_toArray, List.set_cons_zero, List.set_cons_succ, i64_w, i32_w]
                                    rfl
                                  refine pz9_ 27 104 ?_
                                  refine pz9_ 28 105 ?_
                                  refine pz9_ 29 106 ?_
                                  refine pz9_ 30 107 ?_
                                  refine pz9_ 31 108 ?_
                                  refine pz9_ 32 109 ?_
                                  refine pz9_ 33 110 ?_
                                  refine pz9_ 34 111 ?_
                                  refine pz9_ 36 113 ?_
                                  refine take_ (i := 35) (N := some 112) (v := ?_) (a' := ?_) #[true, true, true, true, true, true, true, true, true, true, true, true, true, true, true, true, true, true, true, true, true, true, true, true, true, true, true, true, true, true, true, true, true, true, true, true, true, false, false, false, false, false, false, false, false, false, false] rfl rfl (take_ofW HT_.out HW_.out (by kernel_rfl)) (fun _ _ _ h => h) (Or.inl ⟨by rfl, ?_⟩) hHeld ?_ ?_
                                  rotate_left
                                  · rintro w' ⟨s0, s1⟩
                                    go_simp
                                    with_reducible rfl
                                  rotate_left
                                  · simp only [Act.put, List.setIfInBounds_toArray, List.set_cons_zero, List.set_cons_succ, i64_w, i32_w]
                                    rfl
                                  refine one_ (i := 37) (N := some 114) #[true, true, true, true, true, true, true, true, true, true, true, true, true, true, true, true, true, true, true, true, true, true, true, true, true, true, true, true, true, true, true, true, true, true, true, true, true, true, false, false, false, false, false, false, false, false, false] rfl rfl (one_of HT_.out (by kernel_rfl)) (by decide) (fun K hK => ?_)
                                  refine goes_ Tryd.func42 (by kernel_rfl) rfl #[.agg #[.int .i64 t776, .slice Ao8 t777.length co8], .int .i64 t790] (by rfl) rfl rfl (by (try simp only [List.map_toArray, List.map_cons, List.map_nil]); first | done | rfl | (simp only [List.length_drop, List.length_take]; rfl)) ?_
                                  with_reducible refine (impl_WaysToWin.calls k3 t776 _ _ t777 t790 t794 _ ?side1 ?side2 A63.out).mono ?_
                                  (case side1 => exact cr HO_781001)
                                  (case side2 => exact (Kd.R_reads' HO_781001.out).2.1)
                                  rintro e w82 ⟨rfl, hb⟩
                                  refine ⟨_, rfl, ?_⟩
                                  replace HO_781001 := kr HO_781001 hb
                                  replace HO789 := kr HO789 hb
                                  replace BK780 := kb BK780 hb
                                  replace HB := hs_ HB hb
                                  (try clear hb)
                                  (try clear hb2)
                                  (try clear hk)
                                  (try clear hi)
                                  refine hK.out _ _ ⟨(blk_cell BK780.out 0).trans rfl, (blk_cell BK780.out 1).trans rfl⟩ (fun hHeld => ?_)
                                  clear hK K
                                  refine norm_ (a' := ?_) ?_ ?_
                                  rotate_left
                                  · show Act.put _ (some 114) _ = _
                                    simp only [Act.put, List.setIfInBounds_toArray, List.set_cons_zero, List.set_cons_succ, i64_w, i32_w]
                                    rfl
                                  refine pz9_ 38 115 ?_
                                  refine pz9_ 39 116 ?_
                                  refine pz9_ 40 117 ?_
                                  refine pz9_ 41 118 ?_
                                  refine pure_ (i := 42) (N := some 119) (v := undef) (a' := ?_) #[true, true, true, true, true, true, true, true, true, true, true, true, true, true, true, true, true, true, true, true, true, true, true, true, true, true, true, true, true, true, true, true, true, true, true, true, true, true, true, true, true, true, true, false, false, false, false] rfl rfl (any_of HT_.out (by kernel_rfl)) (fun _ _ _ h => h) (Or.inr ⟨by rfl, rfl⟩) ?_ ?_
                                  rotate_left
                                  · simp only [Act.put, List.setIfInBounds_toArray, List.set_cons_zero, List.set_cons_succ, i64_w, i32_w]
                                    rfl
                                  refine pure_ (i := 43) (N := some 120) (v := undef) (a' := ?_) #[true, true, true, true, true, true, true, true, true, true, true, true, true, true, true, true, true, true, true, true, true, true, true, true, true, true, true, true, true, true, true, true, true, true, true, true, true, true, true, true, true, true, true, true, false, false, false] rfl rfl (any_of HT_.out (by kernel_rfl)) (fun _ _ _ h => h) (Or.inr ⟨by rfl, rfl⟩) ?_ ?_
                                  rotate_left
                                  · simp only [Act.put, List.setIfInBounds_toArray, List.set_cons_zero, List.set_cons_succ, i64_w, i32_w]
                                    rfl
                                  refine pure_ (i := 44) (N := some 121) (v := undef) (a' := ?_) #[true, true, true, true, true, true, true, true, true, true, true, true, true, true, true, true, true, true, true, true, true, true, true, true, true, true, true, true, true, true, true, true, true, true, true, true, true, true, true, true, true, true, true, true, true, false, false] rfl rfl (any_of HT_.out (by kernel_rfl)) (fun _ _ _ h => h) (Or.inr ⟨by rfl, rfl⟩) ?_ ?_
                                  rotate_left
                                  · simp only [Act.put, List.setIfInBounds_toArray, List.set_cons_zero, List.set_cons_succ, i64_w, i32_w]
                                    rfl
                                  refine pz9_ 45 122 ?_
                                  refine pz9_ 46 2 ?_
                                  refine done_ (done_of HT_.out (by kernel_rfl)) ?_
                                  try go_wp2
                                  go_ret
                                  exact ⟨by first | exact ee | (generalize ByteArray.toList _ = l_; cases l_ <;> rfl) | (generalize ByteArray.toList _ = l_; cases l_ <;> simp), bb HB⟩
                            · rw [if_neg c52] at H
                              have c52b0 : ((t790 == 0) == (decide ((t777.length : Int) < (wrap64 (t776 - 1))))) = false := by simpa using c52
                              (try (have c52b1 : decide ((t790 == 0) = (decide ((t777.length : Int) < (wrap64 (t776 - 1))))) = false := by simpa using c52))
                              (try (have c52b2 : ((t790 == 0) == (decide ((t777.length : Int) < (wrap64 (t776 - 1))))) = false := by simpa using c52))
                              (try (have c52b3 : ¬ ((t790 == 0) = (decide ((t777.length : Int) < (wrap64 (t776 - 1))))) := by simpa using c52))
                              clear c52
                              obtain rfl := Option.some.inj H
                              have ⟨hcz83_0, hcz83_1, hfz83_0, hfz83_1⟩ := rz2 BK780
                              try go_wp2_with (first | ((with_reducible refine gate_callee (f := 44) rfl ?_); refine gl (some 74) Tryd.func44 #[.int .i64 t776] ?_; (with_reducible refine (impl_BracketOf.calls k3 t776 t787 _ A45.out).mono ?_); rintro e w84 ⟨v788, rfl, ho0, hb⟩; refine ⟨_, rfl, ?_⟩; have HO789 := Aside0.mk (Kd.R_lower (Kd.R_new' ho0 (rt HO_781001)) (below_size (bb HB))); replace HO_781001 := ke HO_781001 ho0 hb; replace BK780 := kb BK780 hb; replace HB := hs_ HB hb; (try clear hb); (try clear hb2); (try clear hk); (try clear hi); (try clear ho0); have ⟨hcz85_0, hcz85_1, hfz85_0, hfz85_1⟩ := rz2 BK780) | ((with_reducible refine gate_callee (f := 45) rfl ?_); refine gl (some 76) Tryd.func45 #[.agg #[.int .i64 t776, .slice Ao8 t777.length co8]] ?_; (with_reducible refine (impl_ChampionOf.calls k3 t776 _ _ t777 t790 _ ?side1 ?side2 A46.out).mono ?_); (case side1 => exact cr HO_781001); (case side2 => exact cl HO_781001); rintro e w86 ⟨rfl, hb⟩; refine ⟨_, rfl, ?_⟩; replace HO_781001 := kr HO_781001 hb; replace HO789 := kr HO789 hb; replace BK780 := kb BK780 hb; replace HB := hs_ HB hb; (try clear hb); (try clear hb2); (try clear hk); (try clear hi)))
                              replace HO_781001 := Aside0.mk (Kd.R_drew HO_781001.out)
                              replace HO789 := Aside0.mk (Kd.R_drew HO789.out)
                              replace BK780 := Aside0.mk (blk_drew BK780.out)
                              replace HB := Aside0.mk (below_drew1 HB.out)
                              obtain ⟨Ao88, co88, eo88⟩ := Kd.R_slice HO789.out
                              (first | subst eo88 | (injection eo88 with f1_ f2_ f3_; have f4_ := f1_.symm; have f5_ := f3_.symm; clear f1_ f2_ f3_; subst f4_; subst f5_))
                              refine start_ (n := 47) (S := fun w' => w'.cell? ⟨gb780, 0, none⟩ = some (.int .i64 t776) ∧ w'.cell? ⟨gb780, 1, none⟩ = some (.slice Ao8 t777.length co8)) (ds := []) #[false, false, false, false, false, false, false, false, false, false, false, false, false, false, false, false, false, false, false, false, false, false, false, false, false, false, false, false, false, false, false, false, false, false, false, false, false, false, false, false, false, false, false, false, false, false, false] (by kernel_rfl) rfl rfl ⟨(blk_cell BK780.out 0).trans rfl, (blk_cell BK780.out 1).trans rfl⟩ (fun hHeld => ?_); refine with_tabW laws_FnCups.tab20 laws_FnCups.bits20 (fun HT_ HW_ => ?_)
                              generalize w86.drew = w87 at HO_781001 HO789 BK780 HB hHeld ⊢
                              refine pz9_ 0 77 ?_
                              refine pz9_ 1 78 ?_
                              refine pz9_ 2 79 ?_
                              refine pz9_ 3 80 ?_
                              refine pz9_ 4 81 ?_
                              refine pz9_ 5 82 ?_
                              refine pz9_ 6 83 ?_
                              refine take_ (i := 7) (N := some 84) (v := ?_) (a' := ?_) #[true, true, true, true, true, true, true, true, false, false, false, false, false, false, false, false, false, false, false, false, false, false, false, false, false, false, false, false, false, false, false, false, false, false, false, false, false, false, false, false, false, false, false, false, false, false, false] rfl rfl (take_ofW HT_.out HW_.out (by kernel_rfl)) (fun _ _ _ h => h) (Or.inl ⟨by rfl, ?_⟩) hHeld ?_ ?_
                              rotate_left
                              · rintro w' ⟨s0, s1⟩
                                go_simp
                                with_reducible rfl
                              rotate_left
                              · simp only [Act.put, List.setIfInBounds_toArray, List.set_cons_zero, List.set_cons_succ, i64_w, i32_w]
                                rfl
                              refine pz9_ 8 85 ?_
                              refine pz9_ 9 86 ?_
                              refine pz9_ 10 87 ?_
                              refine pz9_ 11 88 ?_
                              refine pz9_ 14 91 ?_
                              refine take_ (i := 12) (N := some 89) (v := ?_) (a' := ?_) #[true, true, true, true, true, true, true, true, true, true, true, true, true, false, true, false, false, false, false, false, false, false, false, false, false, false, false, false, false, false, false, false, false, false, false, false, false, false, false, false, false, false, false, false, false, false, false] rfl rfl (take_ofW HT_.out HW_.out (by kernel_rfl)) (fun _ _ _ h => h) (Or.inl ⟨by rfl, ?_⟩) hHeld ?_ ?_
                              rotate_left
                              · rintro w' ⟨s0, s1⟩
                                go_simp
                                with_reducible rfl
                              rotate_left
                              · simp only [Act.put, List.setIfInBounds_toArray, List.set_cons_zero, List.set_cons_succ, i64_w, i32_w]
                                rfl
                              refine take_ (i := 15) (N := some 92) (v := ?_) (a' := ?_) #[true, true, true, true, true, true, true, true, true, true, true, true, true, false, true, true, false, false, false, false, false, false, false, false, false, false, false, false, false, false, false, false, false, false, false, false, false, false, false, false, false, false, false, false, false, false, false] rfl rfl (take_ofW HT_.out HW_.out (by kernel_rfl)) (fun _ _ _ h => h) (Or.inl ⟨by rfl, ?_⟩) hHeld ?_ ?_
                              rotate_left
                              · rintro w' ⟨s0, s1⟩
                                go_simp
                                with_reducible rfl
                              rotate_left
                              · simp only [Act.put, List.setIfInBounds_toArray, List.set_cons_zero, List.set_cons_succ, i64_w, i32_w]
                                rfl
                              refine one_ (i := 13) (N := some 90) #[true, true, true, true, true, true, true, true, true, true, true, true, true, true, true, true, false, false, false, false, false, false, false, false, false, false, false, false, false, false, false, false, false, false, false, false, false, false, false, false, false, false, false, false, false, false, false] rfl rfl (one_of HT_.out (by kernel_rfl)) (by decide) (fun K hK => ?_)
                              refine goes_ Tryd.func43 (by kernel_rfl) rfl #[.int .i64 t776, .int .i64 1, .int .i64 2] (by rfl) rfl rfl (by (try simp only [List.map_toArray, List.map_cons, List.map_nil]); first | done | rfl | (simp only [List.length_drop, List.length_take]; rfl)) ?_
                              with_reducible refine (impl_MeetIn.calls k3 t776 1 2 t791 _ A49.out).mono ?_
                              rintro e w89 ⟨rfl, hb⟩
                              refine ⟨_, rfl, ?_⟩
                              replace HO_781001 := kr HO_781001 hb
                              replace HO789 := kr HO789 hb
                              replace BK780 := kb BK780 hb
                              replace HB := hs_ HB hb
                              (try clear hb)
                              (try clear hb2)
                              (try clear hk)
                              (try clear hi)
                              refine hK.out _ _ ⟨(blk_cell BK780.out 0).trans rfl, (blk_cell BK780.out 1).trans rfl⟩ (fun hHeld => ?_)
                              clear hK K
                              refine norm_ (a' := ?_) ?_ ?_
                              rotate_left
                              · show Act.put _ (some 90) _ = _
                                simp only [Act.put, List.setIfInBounds_toArray, List.set_cons_zero, List.set_cons_succ, i64_w, i32_w]
                                rfl
                              refine one_ (i := 16) (N := some 93) #[true, true, true, true, true, true, true, true, true, true, true, true, true, true, true, true, true, false, false, false, false, false, false, false, false, false, false, false, false, false, false, false, false, false, false, false, false, false, false, false, false, false, false, false, false, false, false] rfl rfl (one_of HT_.out (by kernel_rfl)) (by decide) (fun K hK => ?_)
                              refine goes_ Tryd.func46 (by kernel_rfl) rfl #[.int .i64 t776] (by rfl) rfl rfl (by (try simp only [List.map_toArray, List.map_cons, List.map_nil]); first | done | rfl | (simp only [List.length_drop, List.length_take]; rfl)) ?_
                              with_reducible refine (impl_RoundsOf.calls t776 t792 _ A50.out).mono ?_
                              rintro e w' ⟨rfl, ⟨nd, rfl⟩⟩
                              refine ⟨_, rfl, ?_⟩
                              refine hK.out _ _ ⟨(blk_cell BK780.out 0).trans rfl, (blk_cell BK780.out 1).trans rfl⟩ (fun hHeld => ?_)
                              clear hK K
                              refine norm_ (a' := ?_) ?_ ?_
                              rotate_left
                              · show Act.put _ (some 93) _ = _
                                simp only [Act.put, List.setIfInBounds_toArray, List.set_cons_zero, List.set_cons_succ, i64_w, i32_w]
                                rfl
                              refine pz9_ 17 94 ?_
                              refine pz9_ 18 95 ?_
                              refine pz9_ 19 96 ?_
                              refine pz9_ 20 97 ?_
                              refine pz9_ 21 98 ?_
                              refine pz9_ 22 99 ?_
                              refine pz9_ 25 102 ?_
                              refine take_ (i := 23) (N := some 100) (v := ?_) (a' := ?_) #[true, true, true, true, true, true, true, true, true, true, true, true, true, true, true, true, true, true, true, true, true, true, true, true, false, true, false, false, false, false, false, false, false, false, false, false, false, false, false, false, false, false, false, false, false, false, false] rfl rfl (take_ofW HT_.out HW_.out (by kernel_rfl)) (fun _ _ _ h => h) (Or.inl ⟨by rfl, ?_⟩) hHeld ?_ ?_
                              rotate_left
                              · rintro w' ⟨s0, s1⟩
                                go_simp
                                with_reducible rfl
                              rotate_left
                              · simp only [Act.put, List.setIfInBounds_toArray, List.set_cons_zero, List.set_cons_succ, i64_w, i32_w]
                                rfl
                              refine pz9_ 24 101 ?_
                              refine take_ (i := 26) (N := some 103) (v := ?_) (a' := ?_) #[true, true, true, true, true, true, true, true, true, true, true, true, true, true, true, true, true, true, true, true, true, true, true, true, true, true, true, false, false, false, false, false, false, false, false, false, false, false, false, false, false, false, false, false, false, false, false] rfl rfl (take_ofW HT_.out HW_.out (by kernel_rfl)) (fun _ _ _ h => h) (Or.inl ⟨by rfl, ?_⟩) hHeld ?_ ?_
                              rotate_left
                              · rintro w' ⟨s0, s1⟩
                                go_simp
                                with_reducible rfl
                              rotate_left
                              · simp only [Act.put, List.setIfInBounds_toArray, List.set_cons_zero, List.set_cons_succ, i64_w, i32_w]
                                rfl
                              refine pz9_ 27 104 ?_
                              refine pz9_ 28 105 ?_
                              refine pz9_ 29 106 ?_
                              refine pz9_ 30 107 ?_
                              refine pz9_ 31 108 ?_
                              refine pure_ (i := 32) (N := some 109) (v := undef) (a' := ?_) #[true, true, true, true, true, true, true, true, true, true, true, true, true, true, true, true, true, true, true, true, true, true, true, true, true, true, true, true, true, true, true, true, true, false, false, false, false, false, false, false, false, false, false, false, false, false, false] rfl rfl (any_of HT_.out (by kernel_rfl)) (fun _ _ _ h => h) (Or.inr ⟨by rfl, rfl⟩) ?_ ?_
                              rotate_left
                              · simp only [Act.put, List.setIfInBounds_toArray, List.set_cons_zero, List.set_cons_succ, i64_w, i32_w]
                                rfl
                              refine pure_ (i := 33) (N := some 110) (v := undef) (a' := ?_) #[true, true, true, true, true, true, true, true, true, true, true, true, true, true, true, true, true, true, true, true, true, true, true, true, true, true, true, true, true, true, true, true, true, true, false, false, false, false, false, false, false, false, false, false, false, false, false] rfl rfl (any_of HT_.out (by kernel_rfl)) (fun _ _ _ h => h) (Or.inr ⟨by rfl, rfl⟩) ?_ ?_
                              rotate_left
                              · simp only [Act.put, List.setIfInBounds_toArray, List.set_cons_zero, List.set_cons_succ, i64_w, i32_w]
                                rfl
                              refine pure_ (i := 34) (N := some 111) (v := undef) (a' := ?_) #[true, true, true, true, true, true, true, true, true, true, true, true, true, true, true, true, true, true, true, true, true, true, true, true, true, true, true, true, true, true, true, true, true, true, true, false, false, false, false, false, false, false, false, false, false, false, false] rfl rfl (any_of HT_.out (by kernel_rfl)) (fun _ _ _ h => h) (Or.inr ⟨by rfl, rfl⟩) ?_ ?_
                              rotate_left
                              · simp only [Act.put, List.setIfInBounds_toArray, List.set_cons_zero, List.set_cons_succ, i64_w, i32_w]
                                rfl
                              refine pure_ (i := 35) (N := some 112) (v := undef) (a' := ?_) #[true, true, true, true, true, true, true, true, true, true, true, true, true, true, true, true, true, true, true, true, true, true, true, true, true, true, true, true, true, true, true, true, true, true, true, true, false, false, false, false, false, false, false, false, false, false, false] rfl rfl (any_of HT_.out (by kernel_rfl)) (fun _ _ _ h => h) (Or.inr ⟨by rfl, rfl⟩) ?_ ?_
                              rotate_left
                              · simp only [Act.put, List.setIfInBounds_toArray, List.set_cons_zero, List.set_cons_succ, i64_w, i32_w]
                                rfl
                              refine pure_ (i := 36) (N := some 113) (v := undef) (a' := ?_) #[true, true, true, true, true, true, true, true, true, true, true, true, true, true, true, true, true, true, true, true, true, true, true, true, true, true, true, true, true, true, true, true, true, true, true, true, true, false, false, false, false, false, false, false, false, false, false] rfl rfl (any_of HT_.out (by kernel_rfl)) (fun _ _ _ h => h) (Or.inr ⟨by rfl, rfl⟩) ?_ ?_
                              rotate_left
                              · simp only [Act.put, List.setIfInBounds_toArray, List.set_cons_zero, List.set_cons_succ, i64_w, i32_w]
                                rfl
                              refine pure_ (i := 37) (N := some 114) (v := undef) (a' := ?_) #[true, true, true, true, true, true, true, true, true, true, true, true, true, true, true, true, true, true, true, true, true, true, true, true, true, true, true, true, true, true, true, true, true, true, true, true, true, true, false, false, false, false, false, false, false, false, false] rfl rfl (any_of HT_.out (by kernel_rfl)) (fun _ _ _ h => h) (Or.inr ⟨by rfl, rfl⟩) ?_ ?_
                              rotate_left
                              · simp only [Act.put, List.setIfInBounds_toArray, List.set_cons_zero, List.set_cons_succ, i64_w, i32_w]
                                rfl
                              refine pure_ (i := 38) (N := some 115) (v := undef) (a' := ?_) #[true, true, true, true, true, true, true, true, true, true, true, true, true, true, true, true, true, true, true, true, true, true, true, true, true, true, true, true, true, true, true, true, true, true, true, true, true, true, true, false, false, false, false, false, false, false, false] rfl rfl (any_of HT_.out (by kernel_rfl)) (fun _ _ _ h => h) (Or.inr ⟨by rfl, rfl⟩) ?_ ?_
                              rotate_left
                              · simp only [Act.put, List.setIfInBounds_toArray, List.set_cons_zero, List.set_cons_succ, i64_w, i32_w]
                                rfl
                              refine pure_ (i := 39) (N := some 116) (v := undef) (a' := ?_) #[true, true, true, true, true, true, true, true, true, true, true, true, true, true, true, true, true, true, true, true, true, true, true, true, true, true, true, true, true, true, true, true, true, true, true, true, true, true, true, true, false, false, false, false, false, false, false] rfl rfl (any_of HT_.out (by kernel_rfl)) (fun _ _ _ h => h) (Or.inr ⟨by rfl, rfl⟩) ?_ ?_
                              rotate_left
                              · simp only [Act.put, List.setIfInBounds_toArray, List.set_cons_zero, List.set_cons_succ, i64_w, i32_w]
                                rfl
                              refine pz9_ 40 117 ?_
                              refine pz9_ 41 118 ?_
                              refine pure_ (i := 42) (N := some 119) (v := undef) (a' := ?_) #[true, true, true, true, true, true, true, true, true, true, true, true, true, true, true, true, true, true, true, true, true, true, true, true, true, true, true, true, true, true, true, true, true, true, true, true, true, true, true, true, true, true, true, false, false, false, false] rfl rfl (any_of HT_.out (by kernel_rfl)) (fun _ _ _ h => h) (Or.inr ⟨by rfl, rfl⟩) ?_ ?_
                              rotate_left
                              · simp only [Act.put, List.setIfInBounds_toArray, List.set_cons_zero, List.set_cons_succ, i64_w, i32_w]
                                rfl
                              refine pure_ (i := 43) (N := some 120) (v := undef) (a' := ?_) #[true, true, true, true, true, true, true, true, true, true, true, true, true, true, true, true, true, true, true, true, true, true, true, true, true, true, true, true, true, true, true, true, true, true, true, true, true, true, true, true, true, true, true, true, false, false, false] rfl rfl (any_of HT_.out (by kernel_rfl)) (fun _ _ _ h => h) (Or.inr ⟨by rfl, rfl⟩) ?_ ?_
                              rotate_left
                              · simp only [Act.put, List.setIfInBounds_toArray, List.set_cons_zero, List.set_cons_succ, i64_w, i32_w]
                                rfl
                              refine pure_ (i := 44) (N := some 121) (v := undef) (a' := ?_) #[true, true, true, true, true, true, true, true, true, true, true, true, true, true, true, true, true, true, true, true, true, true, true, true, true, true, true, true, true, true, true, true, true, true, true, true, true, true, true, true, true, true, true, true, true, false, false] rfl rfl (any_of HT_.out (by kernel_rfl)) (fun _ _ _ h => h) (Or.inr ⟨by rfl, rfl⟩) ?_ ?_
                              rotate_left
                              · simp only [Act.put, List.setIfInBounds_toArray, List.set_cons_zero, List.set_cons_succ, i64_w, i32_w]
                                rfl
                              refine pz9_ 45 122 ?_
                              refine pz9_ 46 2 ?_
                              refine done_ (done_of HT_.out (by kernel_rfl)) ?_
                              try go_wp2
                              go_ret
                              exact ⟨by first | exact ee | (generalize ByteArray.toList _ = l_; cases l_ <;> rfl) | (generalize ByteArray.toList _ = l_; cases l_ <;> simp), bb HB⟩
                          · rw [if_neg c51] at H
                            have c51b0 : (t791 == t792) = false := beq_eq_false_iff_ne.mpr c51
                            have c51b1 : (t791 != t792) = true := bne_iff_ne.mpr c51
                            obtain rfl := Option.some.inj H
                            have ⟨hcz90_0, hcz90_1, hfz90_0, hfz90_1⟩ := rz2 BK780
                            try go_wp2_with (first | ((with_reducible refine gate_callee (f := 44) rfl ?_); refine gl (some 74) Tryd.func44 #[.int .i64 t776] ?_; (with_reducible refine (impl_BracketOf.calls k3 t776 t787 _ A45.out).mono ?_); rintro e w91 ⟨v788, rfl, ho0, hb⟩; refine ⟨_, rfl, ?_⟩; have HO789 := Aside0.mk (Kd.R_lower (Kd.R_new' ho0 (rt HO_781001)) (below_size (bb HB))); replace HO_781001 := ke HO_781001 ho0 hb; replace BK780 := kb BK780 hb; replace HB := hs_ HB hb; (try clear hb); (try clear hb2); (try clear hk); (try clear hi); (try clear ho0); have ⟨hcz92_0, hcz92_1, hfz92_0, hfz92_1⟩ := rz2 BK780) | ((with_reducible refine gate_callee (f := 45) rfl ?_); refine gl (some 76) Tryd.func45 #[.agg #[.int .i64 t776, .slice Ao8 t777.length co8]] ?_; (with_reducible refine (impl_ChampionOf.calls k3 t776 _ _ t777 t790 _ ?side1 ?side2 A46.out).mono ?_); (case side1 => exact cr HO_781001); (case side2 => exact cl HO_781001); rintro e w93 ⟨rfl, hb⟩; refine ⟨_, rfl, ?_⟩; replace HO_781001 := kr HO_781001 hb; replace HO789 := kr HO789 hb; replace BK780 := kb BK780 hb; replace HB := hs_ HB hb; (try clear hb); (try clear hb2); (try clear hk); (try clear hi)))
                            replace HO_781001 := Aside0.mk (Kd.R_drew HO_781001.out)
                            replace HO789 := Aside0.mk (Kd.R_drew HO789.out)
                            replace BK780 := Aside0.mk (blk_drew BK780.out)
                            replace HB := Aside0.mk (below_drew1 HB.out)
                            obtain ⟨Ao95, co95, eo95⟩ := Kd.R_slice HO789.out
                            (first | subst eo95 | (injection eo95 with f1_ f2_ f3_; have f4_ := f1_.symm; have f5_ := f3_.symm; clear f1_ f2_ f3_; subst f4_; subst f5_))
                            refine start_ (n := 47) (S := fun w' => w'.cell? ⟨gb780, 0, none⟩ = some (.int .i64 t776) ∧ w'.cell? ⟨gb780, 1, none⟩ = some (.slice Ao8 t777.length co8)) (ds := []) #[false, false, false, false, false, false, false, false, false, false, false, false, false, false, false, false, false, false, false, false, false, false, false, false, false, false, false, false, false, false, false, false, false, false, false, false, false, false, false, false, false, false, false, false, false, false, false] (by kernel_rfl) rfl rfl ⟨(blk_cell BK780.out 0).trans rfl, (blk_cell BK780.out 1).trans rfl⟩ (fun hHeld => ?_); refine with_tabW laws_FnCups.tab20 laws_FnCups.bits20 (fun HT_ HW_ => ?_)
                            generalize w93.drew = w94 at HO_781001 HO789 BK780 HB hHeld ⊢
                            refine pz9_ 0 77 ?_
                            refine pz9_ 1 78 ?_
                            refine pz9_ 2 79 ?_
                            refine pz9_ 3 80 ?_
                            refine pz9_ 4 81 ?_
                            refine pz9_ 5 82 ?_
                            refine pz9_ 6 83 ?_
                            refine take_ (i := 7) (N := some 84) (v := ?_) (a' := ?_) #[true, true, true, true, true, true, true, true, false, false, false, false, false, false, false, false, false, false, false, false, false, false, false, false, false, false, false, false, false, false, false, false, false, false, false, false, false, false, false, false, false, false, false, false, false, false, false] rfl rfl (take_ofW HT_.out HW_.out (by kernel_rfl)) (fun _ _ _ h => h) (Or.inl ⟨by rfl, ?_⟩) hHeld ?_ ?_
                            rotate_left
                            · rintro w' ⟨s0, s1⟩
                              go_simp
                              with_reducible rfl
                            rotate_left
                            · simp only [Act.put, List.setIfInBounds_toArray, List.set_cons_zero, List.set_cons_succ, i64_w, i32_w]
                              rfl
                            refine pz9_ 8 85 ?_
                            refine pz9_ 9 86 ?_
                            refine pz9_ 10 87 ?_
                            refine pz9_ 11 88 ?_
                            refine pz9_ 14 91 ?_
                            refine take_ (i := 12) (N := some 89) (v := ?_) (a' := ?_) #[true, true, true, true, true, true, true, true, true, true, true, true, true, false, true, false, false, false, false, false, false, false, false, false, false, false, false, false, false, false, false, false, false, false, false, false, false, false, false, false, false, false, false, false, false, false, false] rfl rfl (take_ofW HT_.out HW_.out (by kernel_rfl)) (fun _ _ _ h => h) (Or.inl ⟨by rfl, ?_⟩) hHeld ?_ ?_
                            rotate_left
                            · rintro w' ⟨s0, s1⟩
                              go_simp
                              with_reducible rfl
                            rotate_left
                            · simp only [Act.put, List.setIfInBounds_toArray, List.set_cons_zero, List.set_cons_succ, i64_w, i32_w]
                              rfl
                            refine take_ (i := 15) (N := some 92) (v := ?_) (a' := ?_) #[true, true, true, true, true, true, true, true, true, true, true, true, true, false, true, true, false, false, false, false, false, false, false, false, false, false, false, false, false, false, false, false, false, false, false, false, false, false, false, false, false, false, false, false, false, false, false] rfl rfl (take_ofW HT_.out HW_.out (by kernel_rfl)) (fun _ _ _ h => h) (Or.inl ⟨by rfl, ?_⟩) hHeld ?_ ?_
                            rotate_left
                            · rintro w' ⟨s0, s1⟩
                              go_simp
                              with_reducible rfl
                            rotate_left
                            · simp only [Act.put, List.setIfInBounds_toArray, List.set_cons_zero, List.set_cons_succ, i64_w, i32_w]
                              rfl
                            refine one_ (i := 13) (N := some 90) #[true, true, true, true, true, true, true, true, true, true, true, true, true, true, true, true, false, false, false, false, false, false, false, false, false, false, false, false, false, false, false, false, false, false, false, false, false, false, false, false, false, false, false, false, false, false, false] rfl rfl (one_of HT_.out (by kernel_rfl)) (by decide) (fun K hK => ?_)
                            refine goes_ Tryd.func43 (by kernel_rfl) rfl #[.int .i64 t776, .int .i64 1, .int .i64 2] (by rfl) rfl rfl (by (try simp only [List.map_toArray, List.map_cons, List.map_nil]); first | done | rfl | (simp only [List.length_drop, List.length_take]; rfl)) ?_
                            with_reducible refine (impl_MeetIn.calls k3 t776 1 2 t791 _ A49.out).mono ?_
                            rintro e w96 ⟨rfl, hb⟩
                            refine ⟨_, rfl, ?_⟩
                            replace HO_781001 := kr HO_781001 hb
                            replace HO789 := kr HO789 hb
                            replace BK780 := kb BK780 hb
                            replace HB := hs_ HB hb
                            (try clear hb)
                            (try clear hb2)
                            (try clear hk)
                            (try clear hi)
                            refine hK.out _ _ ⟨(blk_cell BK780.out 0).trans rfl, (blk_cell BK780.out 1).trans rfl⟩ (fun hHeld => ?_)
                            clear hK K
                            refine norm_ (a' := ?_) ?_ ?_
                            rotate_left
                            · show Act.put _ (some 90) _ = _
                              simp only [Act.put, List.setIfInBounds_toArray, List.set_cons_zero, List.set_cons_succ, i64_w, i32_w]
                              rfl
                            refine one_ (i := 16) (N := some 93) #[true, true, true, true, true, true, true, true, true, true, true, true, true, true, true, true, true, false, false, false, false, false, false, false, false, false, false, false, false, false, false, false, false, false, false, false, false, false, false, false, false, false, false, false, false, false, false] rfl rfl (one_of HT_.out (by kernel_rfl)) (by decide) (fun K hK => ?_)
                            refine goes_ Tryd.func46 (by kernel_rfl) rfl #[.int .i64 t776] (by rfl) rfl rfl (by (try simp only [List.map_toArray, List.map_cons, List.map_nil]); first | done | rfl | (simp only [List.length_drop, List.length_take]; rfl)) ?_
                            with_reducible refine (impl_RoundsOf.calls t776 t792 _ A50.out).mono ?_
                            rintro e w' ⟨rfl, ⟨nd, rfl⟩⟩
                            refine ⟨_, rfl, ?_⟩
                            refine hK.out _ _ ⟨(blk_cell BK780.out 0).trans rfl, (blk_cell BK780.out 1).trans rfl⟩ (fun hHeld => ?_)
                            clear hK K
                            refine norm_ (a' := ?_) ?_ ?_
                            rotate_left
                            · show Act.put _ (some 93) _ = _
                              simp only [Act.put, List.setIfInBounds_toArray, List.set_cons_zero, List.set_cons_succ, i64_w, i32_w]
                              rfl
                            refine pz9_ 17 94 ?_
                            refine pz9_ 18 95 ?_
                            refine pz9_ 19 96 ?_
                            refine pure_ (i := 20) (N := some 97) (v := undef) (a' := ?_) #[true, true, true, true, true, true, true, true, true, true, true, true, true, true, true, true, true, true, true, true, true, false, false, false, false, false, false, false, false, false, false, false, false, false, false, false, false, false, false, false, false, false, false, false, false, false, false] rfl rfl (any_of HT_.out (by kernel_rfl)) (fun _ _ _ h => h) (Or.inr ⟨by rfl, rfl⟩) ?_ ?_
                            rotate_left
                            · simp only [Act.put, List.setIfInBounds_toArray, List.set_cons_zero, List.set_cons_succ, i64_w, i32_w]
                              rfl
                            refine pure_ (i := 21) (N := some 98) (v := undef) (a' := ?_) #[true, true, true, true, true, true, true, true, true, true, true, true, true, true, true, true, true, true, true, true, true, true, false, false, false, false, false, false, false, false, false, false, false, false, false, false, false, false, false, false, false, false, false, false, false, false, false] rfl rfl (any_of HT_.out (by kernel_rfl)) (fun _ _ _ h => h) (Or.inr ⟨by rfl, rfl⟩) ?_ ?_
                            rotate_left
                            · simp only [Act.put, List.setIfInBounds_toArray, List.set_cons_zero, List.set_cons_succ, i64_w, i32_w]
                              rfl
                            refine pure_ (i := 22) (N := some 99) (v := undef) (a' := ?_) #[true, true, true, true, true, true, true, true, true, true, true, true, true, true, true, true, true, true, true, true, true, true, true, false, false, false, false, false, false, false, false, false, false, false, false, false, false, false, false, false, false, false, false, false, false, false, false] rfl rfl (any_of HT_.out (by kernel_rfl)) (fun _ _ _ h => h) (Or.inr ⟨by rfl, rfl⟩) ?_ ?_
                            rotate_left
                            · simp only [Act.put, List.setIfInBounds_toArray, List.set_cons_zero, List.set_cons_succ, i64_w, i32_w]
                              rfl
                            refine pure_ (i := 23) (N := some 100) (v := undef) (a' := ?_) #[true, true, true, true, true, true, true, true, true, true, true, true, true, true, true, true, true, true, true, true, true, true, true, true, false, false, false, false, false, false, false, false, false, false, false, false, false, false, false, false, false, false, false, false, false, false, false] rfl rfl (any_of HT_.out (by kernel_rfl)) (fun _ _ _ h => h) (Or.inr ⟨by rfl, rfl⟩) ?_ ?_
                            rotate_left
                            · simp only [Act.put, List.setIfInBounds_toArray, List.set_cons_zero, List.set_cons_succ, i64_w, i32_w]
                              rfl
                            refine pure_ (i := 24) (N := some 101) (v := undef) (a' := ?_) #[true, true, true, true, true, true, true, true, true, true, true, true, true, true, true, true, true, true, true, true, true, true, true, true, true, false, false, false, false, false, false, false, false, false, false, false, false, false, false, false, false, false, false, false, false, false, false] rfl rfl (any_of HT_.out (by kernel_rfl)) (fun _ _ _ h => h) (Or.inr ⟨by rfl, rfl⟩) ?_ ?_
                            rotate_left
                            · simp only [Act.put, List.setIfInBounds_toArray, List.set_cons_zero, List.set_cons_succ, i64_w, i32_w]
                              rfl
                            refine pure_ (i := 25) (N := some 102) (v := undef) (a' := ?_) #[true, true, true, true, true, true, true, true, true, true, true, true, true, true, true, true, true, true, true, true, true, true, true, true, true, true, false, false, false, false, false, false, false, false, false, false, false, false, false, false, false, false, false, false, false, false, false] rfl rfl (any_of HT_.out (by kernel_rfl)) (fun _ _ _ h => h) (Or.inr ⟨by rfl, rfl⟩) ?_ ?_
                            rotate_left
                            · simp only [Act.put, List.setIfInBounds_toArray, List.set_cons_zero, List.set_cons_succ, i64_w, i32_w]
                              rfl
                            refine pure_ (i := 26) (N := some 103) (v := undef) (a' := ?_) #[true, true, true, true, true, true, true, true, true, true, true, true, true, true, true, true, true, true, true, true, true, true, true, true, true, true, true, false, false, false, false, false, false, false, false, false, false, false, false, false, false, false, false, false, false, false, false] rfl rfl (any_of HT_.out (by kernel_rfl)) (fun _ _ _ h => h) (Or.inr ⟨by rfl, rfl⟩) ?_ ?_
                            rotate_left
                            · simp only [Act.put, List.setIfInBounds_toArray, List.set_cons_zero, List.set_cons_succ, i64_w, i32_w]
                              rfl
                            refine pure_ (i := 27) (N := some 104) (v := undef) (a' := ?_) #[true, true, true, true, true, true, true, true, true, true, true, true, true, true, true, true, true, true, true, true, true, true, true, true, true, true, true, true, false, false, false, false, false, false, false, false, false, false, false, false, false, false, false, false, false, false, false] rfl rfl (any_of HT_.out (by kernel_rfl)) (fun _ _ _ h => h) (Or.inr ⟨by rfl, rfl⟩) ?_ ?_
                            rotate_left
                            · simp only [Act.put, List.setIfInBounds_toArray, List.set_cons_zero, List.set_cons_succ, i64_w, i32_w]
                              rfl
                            refine pure_ (i := 28) (N := some 105) (v := undef) (a' := ?_) #[true, true, true, true, true, true, true, true, true, true, true, true, true, true, true, true, true, true, true, true, true, true, true, true, true, true, true, true, true, false, false, false, false, false, false, false, false, false, false, false, false, false, false, false, false, false, false] rfl rfl (any_of HT_.out (by kernel_rfl)) (fun _ _ _ h => h) (Or.inr ⟨by rfl, rfl⟩) ?_ ?_
                            rotate_left
                            · simp only [Act.put, List.setIfInBounds_toArray, List.set_cons_zero, List.set_cons_succ, i64_w, i32_w]
                              rfl
                            refine pure_ (i := 29) (N := some 106) (v := undef) (a' := ?_) #[true, true, true, true, true, true, true, true, true, true, true, true, true, true, true, true, true, true, true, true, true, true, true, true, true, true, true, true, true, true, false, false, false, false, false, false, false, false, false, false, false, false, false, false, false, false, false] rfl rfl (any_of HT_.out (by kernel_rfl)) (fun _ _ _ h => h) (Or.inr ⟨by rfl, rfl⟩) ?_ ?_
                            rotate_left
                            · simp only [Act.put, List.setIfInBounds_toArray, List.set_cons_zero, List.set_cons_succ, i64_w, i32_w]
                              rfl
                            refine pz9_ 30 107 ?_
                            refine pz9_ 31 108 ?_
                            refine pure_ (i := 32) (N := some 109) (v := undef) (a' := ?_) #[true, true, true, true, true, true, true, true, true, true, true, true, true, true, true, true, true, true, true, true, true, true, true, true, true, true, true, true, true, true, true, true, true, false, false, false, false, false, false, false, false, false, false, false, false, false, false] rfl rfl (any_of HT_.out (by kernel_rfl)) (fun _ _ _ h => h) (Or.inr ⟨by rfl, rfl⟩) ?_ ?_
                            rotate_left
                            · simp only [Act.put, List.setIfInBounds_toArray, List.set_cons_zero, List.set_cons_succ, i64_w, i32_w]
                              rfl
                            refine pure_ (i := 33) (N := some 110) (v := undef) (a' := ?_) #[true, true, true, true, true, true, true, true, true, true, true, true, true, true, true, true, true, true, true, true, true, true, true, true, true, true, true, true, true, true, true, true, true, true, false, false, false, false, false, false, false, false, false, false, false, false, false] rfl rfl (any_of HT_.out (by kernel_rfl)) (fun _ _ _ h => h) (Or.inr ⟨by rfl, rfl⟩) ?_ ?_
                            rotate_left
                            · simp only [Act.put, List.setIfInBounds_toArray, List.set_cons_zero, List.set_cons_succ, i64_w, i32_w]
                              rfl
                            refine pure_ (i := 34) (N := some 111) (v := undef) (a' := ?_) #[true, true, true, true, true, true, true, true, true, true, true, true, true, true, true, true, true, true, true, true, true, true, true, true, true, true, true, true, true, true, true, true, true, true, true, false, false, false, false, false, false, false, false, false, false, false, false] rfl rfl (any_of HT_.out (by kernel_rfl)) (fun _ _ _ h => h) (Or.inr ⟨by rfl, rfl⟩) ?_ ?_
                            rotate_left
                            · simp only [Act.put, List.setIfInBounds_toArray, List.set_cons_zero, List.set_cons_succ, i64_w, i32_w]
                              rfl
                            refine pure_ (i := 35) (N := some 112) (v := undef) (a' := ?_) #[true, true, true, true, true, true, true, true, true, true, true, true, true, true, true, true, true, true, true, true, true, true, true, true, true, true, true, true, true, true, true, true, true, true, true, true, false, false, false, false, false, false, false, false, false, false, false] rfl rfl (any_of HT_.out (by kernel_rfl)) (fun _ _ _ h => h) (Or.inr ⟨by rfl, rfl⟩) ?_ ?_
                            rotate_left
                            · simp only [Act.put, List.setIfInBounds_toArray, List.set_cons_zero, List.set_cons_succ, i64_w, i32_w]
                              rfl
                            refine pure_ (i := 36) (N := some 113) (v := undef) (a' := ?_) #[true, true, true, true, true, true, true, true, true, true, true, true, true, true, true, true, true, true, true, true, true, true, true, true, true, true, true, true, true, true, true, true, true, true, true, true, true, false, false, false, false, false, false, false, false, false, false] rfl rfl (any_of HT_.out (by kernel_rfl)) (fun _ _ _ h => h) (Or.inr ⟨by rfl, rfl⟩) ?_ ?_
                            rotate_left
                            · simp only [Act.put, List.setIfInBounds_toArray, List.set_cons_zero, List.set_cons_succ, i64_w, i32_w]
                              rfl
                            refine pure_ (i := 37) (N := some 114) (v := undef) (a' := ?_) #[true, true, true, true, true, true, true, true, true, true, true, true, true, true, true, true, true, true, true, true, true, true, true, true, true, true, true, true, true, true, true, true, true, true, true, true, true, true, false, false, false, false, false, false, false, false, false] rfl rfl (any_of HT_.out (by kernel_rfl)) (fun _ _ _ h => h) (Or.inr ⟨by rfl, rfl⟩) ?_ ?_
                            rotate_left
                            · simp only [Act.put, List.setIfInBounds_toArray, List.set_cons_zero, List.set_cons_succ, i64_w, i32_w]
                              rfl
                            refine pure_ (i := 38) (N := some 115) (v := undef) (a' := ?_) #[true, true, true, true, true, true, true, true, true, true, true, true, true, true, true, true, true, true, true, true, true, true, true, true, true, true, true, true, true, true, true, true, true, true, true, true, true, true, true, false, false, false, false, false, false, false, false] rfl rfl (any_of HT_.out (by kernel_rfl)) (fun _ _ _ h => h) (Or.inr ⟨by rfl, rfl⟩) ?_ ?_
                            rotate_left
                            · simp only [Act.put, List.setIfInBounds_toArray, List.set_cons_zero, List.set_cons_succ, i64_w, i32_w]
                              rfl
                            refine pure_ (i := 39) (N := some 116) (v := undef) (a' := ?_) #[true, true, true, true, true, true, true, true, true, true, true, true, true, true, true, true, true, true, true, true, true, true, true, true, true, true, true, true, true, true, true, true, true, true, true, true, true, true, true, true, false, false, false, false, false, false, false] rfl rfl (any_of HT_.out (by kernel_rfl)) (fun _ _ _ h => h) (Or.inr ⟨by rfl, rfl⟩) ?_ ?_
                            rotate_left
                            · simp only [Act.put, List.setIfInBounds_toArray, List.set_cons_zero, List.set_cons_succ, i64_w, i32_w]
                              rfl
                            refine pz9_ 40 117 ?_
                            refine pz9_ 41 118 ?_
                            refine pure_ (i := 42) (N := some 119) (v := undef) (a' := ?_) #[true, true, true, true, true, true, true, true, true, true, true, true, true, true, true, true, true, true, true, true, true, true, true, true, true, true, true, true, true, true, true, true, true, true, true, true, true, true, true, true, true, true, true, false, false, false, false] rfl rfl (any_of HT_.out (by kernel_rfl)) (fun _ _ _ h => h) (Or.inr ⟨by rfl, rfl⟩) ?_ ?_
                            rotate_left
                            · simp only [Act.put, List.setIfInBounds_toArray, List.set_cons_zero, List.set_cons_succ, i64_w, i32_w]
                              rfl
                            refine pure_ (i := 43) (N := some 120) (v := undef) (a' := ?_) #[true, true, true, true, true, true, true, true, true, true, true, true, true, true, true, true, true, true, true, true, true, true, true, true, true, true, true, true, true, true, true, true, true, true, true, true, true, true, true, true, true, true, true, true, false, false, false] rfl rfl (any_of HT_.out (by kernel_rfl)) (fun _ _ _ h => h) (Or.inr ⟨by rfl, rfl⟩) ?_ ?_
                            rotate_left
                            · simp only [Act.put, List.setIfInBounds_toArray, List.set_cons_zero, List.set_cons_succ, i64_w, i32_w]
                              rfl
                            refine pure_ (i := 44) (N := some 121) (v := undef) (a' := ?_) #[true, true, true, true, true, true, true, true, true, true, true, true, true, true, true, true, true, true, true, true, true, true, true, true, true, true, true, true, true, true, true, true, true, true, true, true, true, true, true, true, true, true, true, true, true, false, false] rfl rfl (any_of HT_.out (by kernel_rfl)) (fun _ _ _ h => h) (Or.inr ⟨by rfl, rfl⟩) ?_ ?_
                            rotate_left
                            · simp only [Act.put, List.setIfInBounds_toArray, List.set_cons_zero, List.set_cons_succ, i64_w, i32_w]
                              rfl
                            refine pz9_ 45 122 ?_
                            refine pz9_ 46 2 ?_
                            refine done_ (done_of HT_.out (by kernel_rfl)) ?_
                            try go_wp2
                            go_ret
                            exact ⟨by first | exact ee | (generalize ByteArray.toList _ = l_; cases l_ <;> rfl) | (generalize ByteArray.toList _ = l_; cases l_ <;> simp), bb HB⟩
                        · rw [if_neg c48] at H
                          have c48b0 : ((t787.length : Int) == t776) = false := beq_eq_false_iff_ne.mpr c48
                          have c48b1 : ((t787.length : Int) != t776) = true := bne_iff_ne.mpr c48
                          obtain rfl := Option.some.inj H
                          have ⟨hcz97_0, hcz97_1, hfz97_0, hfz97_1⟩ := rz2 BK780
                          try go_wp2_with (first | ((with_reducible refine gate_callee (f := 44) rfl ?_); refine gl (some 74) Tryd.func44 #[.int .i64 t776] ?_; (with_reducible refine (impl_BracketOf.calls k3 t776 t787 _ A45.out).mono ?_); rintro e w98 ⟨v788, rfl, ho0, hb⟩; refine ⟨_, rfl, ?_⟩; have HO789 := Aside0.mk (Kd.R_lower (Kd.R_new' ho0 (rt HO_781001)) (below_size (bb HB))); replace HO_781001 := ke HO_781001 ho0 hb; replace BK780 := kb BK780 hb; replace HB := hs_ HB hb; (try clear hb); (try clear hb2); (try clear hk); (try clear hi); (try clear ho0); have ⟨hcz99_0, hcz99_1, hfz99_0, hfz99_1⟩ := rz2 BK780) | ((with_reducible refine gate_callee (f := 45) rfl ?_); refine gl (some 76) Tryd.func45 #[.agg #[.int .i64 t776, .slice Ao8 t777.length co8]] ?_; (with_reducible refine (impl_ChampionOf.calls k3 t776 _ _ t777 t790 _ ?side1 ?side2 A46.out).mono ?_); (case side1 => exact cr HO_781001); (case side2 => exact cl HO_781001); rintro e w100 ⟨rfl, hb⟩; refine ⟨_, rfl, ?_⟩; replace HO_781001 := kr HO_781001 hb; replace HO789 := kr HO789 hb; replace BK780 := kb BK780 hb; replace HB := hs_ HB hb; (try clear hb); (try clear hb2); (try clear hk); (try clear hi)))
                          replace HO_781001 := Aside0.mk (Kd.R_drew HO_781001.out)
                          replace HO789 := Aside0.mk (Kd.R_drew HO789.out)
                          replace BK780 := Aside0.mk (blk_drew BK780.out)
                          replace HB := Aside0.mk (below_drew1 HB.out)
                          obtain ⟨Ao102, co102, eo102⟩ := Kd.R_slice HO789.out
                          (first | subst eo102 | (injection eo102 with f1_ f2_ f3_; have f4_ := f1_.symm; have f5_ := f3_.symm; clear f1_ f2_ f3_; subst f4_; subst f5_))
                          refine start_ (n := 47) (S := fun w' => w'.cell? ⟨gb780, 0, none⟩ = some (.int .i64 t776) ∧ w'.cell? ⟨gb780, 1, none⟩ = some (.slice Ao8 t777.length co8)) (ds := []) #[false, false, false, false, false, false, false, false, false, false, false, false, false, false, false, false, false, false, false, false, false, false, false, false, false, false, false, false, false, false, false, false, false, false, false, false, false, false, false, false, false, false, false, false, false, false, false] (by kernel_rfl) rfl rfl ⟨(blk_cell BK780.out 0).trans rfl, (blk_cell BK780.out 1).trans rfl⟩ (fun hHeld => ?_); refine with_tabW laws_FnCups.tab20 laws_FnCups.bits20 (fun HT_ HW_ => ?_)
                          generalize w100.drew = w101 at HO_781001 HO789 BK780 HB hHeld ⊢
                          refine pz9_ 0 77 ?_
                          refine pz9_ 1 78 ?_
                          refine pz9_ 2 79 ?_
                          refine pz9_ 3 80 ?_
                          refine pz9_ 4 81 ?_
                          refine pz9_ 5 82 ?_
                          refine pz9_ 6 83 ?_
                          refine take_ (i := 7) (N := some 84) (v := ?_) (a' := ?_) #[true, true, true, true, true, true, true, true, false, false, false, false, false, false, false, false, false, false, false, false, false, false, false, false, false, false, false, false, false, false, false, false, false, false, false, false, false, false, false, false, false, false, false, false, false, false, false] rfl rfl (take_ofW HT_.out HW_.out (by kernel_rfl)) (fun _ _ _ h => h) (Or.inl ⟨by rfl, ?_⟩) hHeld ?_ ?_
                          rotate_left
                          · rintro w' ⟨s0, s1⟩
                            go_simp
                            with_reducible rfl
                          rotate_left
                          · simp only [Act.put, List.setIfInBounds_toArray, List.set_cons_zero, List.set_cons_succ, i64_w, i32_w]
                            rfl
                          refine pz9_ 8 85 ?_
                          refine pz9_ 9 86 ?_
                          refine pz9_ 10 87 ?_
                          refine pure_ (i := 11) (N := some 88) (v := undef) (a' := ?_) #[true, true, true, true, true, true, true, true, true, true, true, true, false, false, false, false, false, false, false, false, false, false, false, false, false, false, false, false, false, false, false, false, false, false, false, false, false, false, false, false, false, false, false, false, false, false, false] rfl rfl (any_of HT_.out (by kernel_rfl)) (fun _ _ _ h => h) (Or.inr ⟨by rfl, rfl⟩) ?_ ?_
                          rotate_left
                          · simp only [Act.put, List.setIfInBounds_toArray, List.set_cons_zero, List.set_cons_succ, i64_w, i32_w]
                            rfl
                          refine pure_ (i := 12) (N := some 89) (v := undef) (a' := ?_) #[true, true, true, true, true, true, true, true, true, true, true, true, true, false, false, false, false, false, false, false, false, false, false, false, false, false, false, false, false, false, false, false, false, false, false, false, false, false, false, false, false, false, false, false, false, false, false] rfl rfl (any_of HT_.out (by kernel_rfl)) (fun _ _ _ h => h) (Or.inr ⟨by rfl, rfl⟩) ?_ ?_
                          rotate_left
                          · simp only [Act.put, List.setIfInBounds_toArray, List.set_cons_zero, List.set_cons_succ, i64_w, i32_w]
                            rfl
                          refine pure_ (i := 13) (N := some 90) (v := undef) (a' := ?_) #[true, true, true, true, true, true, true, true, true, true, true, true, true, true, false, false, false, false, false, false, false, false, false, false, false, false, false, false, false, false, false, false, false, false, false, false, false, false, false, false, false, false, false, false, false, false, false] rfl rfl (any_of HT_.out (by kernel_rfl)) (fun _ _ _ h => h) (Or.inr ⟨by rfl, rfl⟩) ?_ ?_
                          rotate_left
                          · simp only [Act.put, List.setIfInBounds_toArray, List.set_cons_zero, List.set_cons_succ, i64_w, i32_w]
                            rfl
                          refine pure_ (i := 14) (N := some 91) (v := undef) (a' := ?_) #[true, true, true, true, true, true, true, true, true, true, true, true, true, true, true, false, false, false, false, false, false, false, false, false, false, false, false, false, false, false, false, false, false, false, false, false, false, false, false, false, false, false, false, false, false, false, false] rfl rfl (any_of HT_.out (by kernel_rfl)) (fun _ _ _ h => h) (Or.inr ⟨by rfl, rfl⟩) ?_ ?_
                          rotate_left
                          · simp only [Act.put, List.setIfInBounds_toArray, List.set_cons_zero, List.set_cons_succ, i64_w, i32_w]
                            rfl
                          refine pure_ (i := 15) (N := some 92) (v := undef) (a' := ?_) #[true, true, true, true, true, true, true, true, true, true, true, true, true, true, true, true, false, false, false, false, false, false, false, false, false, false, false, false, false, false, false, false, false, false, false, false, false, false, false, false, false, false, false, false, false, false, false] rfl rfl (any_of HT_.out (by kernel_rfl)) (fun _ _ _ h => h) (Or.inr ⟨by rfl, rfl⟩) ?_ ?_
                          rotate_left
                          · simp only [Act.put, List.setIfInBounds_toArray, List.set_cons_zero, List.set_cons_succ, i64_w, i32_w]
                            rfl
                          refine pure_ (i := 16) (N := some 93) (v := undef) (a' := ?_) #[true, true, true, true, true, true, true, true, true, true, true, true, true, true, true, true, true, false, false, false, false, false, false, false, false, false, false, false, false, false, false, false, false, false, false, false, false, false, false, false, false, false, false, false, false, false, false] rfl rfl (any_of HT_.out (by kernel_rfl)) (fun _ _ _ h => h) (Or.inr ⟨by rfl, rfl⟩) ?_ ?_
                          rotate_left
                          · simp only [Act.put, List.setIfInBounds_toArray, List.set_cons_zero, List.set_cons_succ, i64_w, i32_w]
                            rfl
                          refine pure_ (i := 17) (N := some 94) (v := undef) (a' := ?_) #[true, true, true, true, true, true, true, true, true, true, true, true, true, true, true, true, true, true, false, false, false, false, false, false, false, false, false, false, false, false, false, false, false, false, false, false, false, false, false, false, false, false, false, false, false, false, false] rfl rfl (any_of HT_.out (by kernel_rfl)) (fun _ _ _ h => h) (Or.inr ⟨by rfl, rfl⟩) ?_ ?_
                          rotate_left
                          · simp only [Act.put, List.setIfInBounds_toArray, List.set_cons_zero, List.set_cons_succ, i64_w, i32_w]
                            rfl
                          refine pz9_ 18 95 ?_
                          refine pz9_ 19 96 ?_
                          refine pure_ (i := 20) (N := some 97) (v := undef) (a' := ?_) #[true, true, true, true, true, true, true, true, true, true, true, true, true, true, true, true, true, true, true, true, true, false, false, false, false, false, false, false, false, false, false, false, false, false, false, false, false, false, false, false, false, false, false, false, false, false, false] rfl rfl (any_of HT_.out (by kernel_rfl)) (fun _ _ _ h => h) (Or.inr ⟨by rfl, rfl⟩) ?_ ?_
                          rotate_left
                          · simp only [Act.put, List.setIfInBounds_toArray, List.set_cons_zero, List.set_cons_succ, i64_w, i32_w]
                            rfl
                          refine pure_ (i := 21) (N := some 98) (v := undef) (a' := ?_) #[true, true, true, true, true, true, true, true, true, true, true, true, true, true, true, true, true, true, true, true, true, true, false, false, false, false, false, false, false, false, false, false, false, false, false, false, false, false, false, false, false, false, false, false, false, false, false] rfl rfl (any_of HT_.out (by kernel_rfl)) (fun _ _ _ h => h) (Or.inr ⟨by rfl, rfl⟩) ?_ ?_
                          rotate_left
                          · simp only [Act.put, List.setIfInBounds_toArray, List.set_cons_zero, List.set_cons_succ, i64_w, i32_w]
                            rfl
                          refine pure_ (i := 22) (N := some 99) (v := undef) (a' := ?_) #[true, true, true, true, true, true, true, true, true, true, true, true, true, true, true, true, true, true, true, true, true, true, true, false, false, false, false, false, false, false, false, false, false, false, false, false, false, false, false, false, false, false, false, false, false, false, false] rfl rfl (any_of HT_.out (by kernel_rfl)) (fun _ _ _ h => h) (Or.inr ⟨by rfl, rfl⟩) ?_ ?_
                          rotate_left
                          · simp only [Act.put, List.setIfInBounds_toArray, List.set_cons_zero, List.set_cons_succ, i64_w, i32_w]
                            rfl
                          refine pure_ (i := 23) (N := some 100) (v := undef) (a' := ?_) #[true, true, true, true, true, true, true, true, true, true, true, true, true, true, true, true, true, true, true, true, true, true, true, true, false, false, false, false, false, false, false, false, false, false, false, false, false, false, false, false, false, false, false, false, false, false, false] rfl rfl (any_of HT_.out (by kernel_rfl)) (fun _ _ _ h => h) (Or.inr ⟨by rfl, rfl⟩) ?_ ?_
                          rotate_left
                          · simp only [Act.put, List.setIfInBounds_toArray, List.set_cons_zero, List.set_cons_succ, i64_w, i32_w]
                            rfl
                          refine pure_ (i := 24) (N := some 101) (v := undef) (a' := ?_) #[true, true, true, true, true, true, true, true, true, true, true, true, true, true, true, true, true, true, true, true, true, true, true, true, true, false, false, false, false, false, false, false, false, false, false, false, false, false, false, false, false, false, false, false, false, false, false] rfl rfl (any_of HT_.out (by kernel_rfl)) (fun _ _ _ h => h) (Or.inr ⟨by rfl, rfl⟩) ?_ ?_
                          rotate_left
                          · simp only [Act.put, List.setIfInBounds_toArray, List.set_cons_zero, List.set_cons_succ, i64_w, i32_w]
                            rfl
                          refine pure_ (i := 25) (N := some 102) (v := undef) (a' := ?_) #[true, true, true, true, true, true, true, true, true, true, true, true, true, true, true, true, true, true, true, true, true, true, true, true, true, true, false, false, false, false, false, false, false, false, false, false, false, false, false, false, false, false, false, false, false, false, false] rfl rfl (any_of HT_.out (by kernel_rfl)) (fun _ _ _ h => h) (Or.inr ⟨by rfl, rfl⟩) ?_ ?_
                          rotate_left
                          · simp only [Act.put, List.setIfInBounds_toArray, List.set_cons_zero, List.set_cons_succ, i64_w, i32_w]
                            rfl
                          refine pure_ (i := 26) (N := some 103) (v := undef) (a' := ?_) #[true, true, true, true, true, true, true, true, true, true, true, true, true, true, true, true, true, true, true, true, true, true, true, true, true, true, true, false, false, false, false, false, false, false, false, false, false, false, false, false, false, false, false, false, false, false, false] rfl rfl (any_of HT_.out (by kernel_rfl)) (fun _ _ _ h => h) (Or.inr ⟨by rfl, rfl⟩) ?_ ?_
                          rotate_left
                          · simp only [Act.put, List.setIfInBounds_toArray, List.set_cons_zero, List.set_cons_succ, i64_w, i32_w]
                            rfl
                          refine pure_ (i := 27) (N := some 104) (v := undef) (a' := ?_) #[true, true, true, true, true, true, true, true, true, true, true, true, true, true, true, true, true, true, true, true, true, true, true, true, true, true, true, true, false, false, false, false, false, false, false, false, false, false, false, false, false, false, false, false, false, false, false] rfl rfl (any_of HT_.out (by kernel_rfl)) (fun _ _ _ h => h) (Or.inr ⟨by rfl, rfl⟩) ?_ ?_
                          rotate_left
                          · simp only [Act.put, List.setIfInBounds_toArray, List.set_cons_zero, List.set_cons_succ, i64_w, i32_w]
                            rfl
                          refine pure_ (i := 28) (N := some 105) (v := undef) (a' := ?_) #[true, true, true, true, true, true, true, true, true, true, true, true, true, true, true, true, true, true, true, true, true, true, true, true, true, true, true, true, true, false, false, false, false, false, false, false, false, false, false, false, false, false, false, false, false, false, false] rfl rfl (any_of HT_.out (by kernel_rfl)) (fun _ _ _ h => h) (Or.inr ⟨by rfl, rfl⟩) ?_ ?_
                          rotate_left
                          · simp only [Act.put, List.setIfInBounds_toArray, List.set_cons_zero, List.set_cons_succ, i64_w, i32_w]
                            rfl
                          refine pure_ (i := 29) (N := some 106) (v := undef) (a' := ?_) #[true, true, true, true, true, true, true, true, true, true, true, true, true, true, true, true, true, true, true, true, true, true, true, true, true, true, true, true, true, true, false, false, false, false, false, false, false, false, false, false, false, false, false, false, false, false, false] rfl rfl (any_of HT_.out (by kernel_rfl)) (fun _ _ _ h => h) (Or.inr ⟨by rfl, rfl⟩) ?_ ?_
                          rotate_left
                          · simp only [Act.put, List.setIfInBounds_toArray, List.set_cons_zero, List.set_cons_succ, i64_w, i32_w]
                            rfl
                          refine pz9_ 30 107 ?_
                          refine pz9_ 31 108 ?_
                          refine pure_ (i := 32) (N := some 109) (v := undef) (a' := ?_) #[true, true, true, true, true, true, true, true, true, true, true, true, true, true, true, true, true, true, true, true, true, true, true, true, true, true, true, true, true, true, true, true, true, false, false, false, false, false, false, false, false, false, false, false, false, false, false] rfl rfl (any_of HT_.out (by kernel_rfl)) (fun _ _ _ h => h) (Or.inr ⟨by rfl, rfl⟩) ?_ ?_
                          rotate_left
                          · simp only [Act.put, List.setIfInBounds_toArray, List.set_cons_zero, List.set_cons_succ, i64_w, i32_w]
                            rfl
                          refine pure_ (i := 33) (N := some 110) (v := undef) (a' := ?_) #[true, true, true, true, true, true, true, true, true, true, true, true, true, true, true, true, true, true, true, true, true, true, true, true, true, true, true, true, true, true, true, true, true, true, false, false, false, false, false, false, false, false, false, false, false, false, false] rfl rfl (any_of HT_.out (by kernel_rfl)) (fun _ _ _ h => h) (Or.inr ⟨by rfl, rfl⟩) ?_ ?_
                          rotate_left
                          · simp only [Act.put, List.setIfInBounds_toArray, List.set_cons_zero, List.set_cons_succ, i64_w, i32_w]
                            rfl
                          refine pure_ (i := 34) (N := some 111) (v := undef) (a' := ?_) #[true, true, true, true, true, true, true, true, true, true, true, true, true, true, true, true, true, true, true, true, true, true, true, true, true, true, true, true, true, true, true, true, true, true, true, false, false, false, false, false, false, false, false, false, false, false, false] rfl rfl (any_of HT_.out (by kernel_rfl)) (fun _ _ _ h => h) (Or.inr ⟨by rfl, rfl⟩) ?_ ?_
                          rotate_left
                          · simp only [Act.put, List.setIfInBounds_toArray, List.set_cons_zero, List.set_cons_succ, i64_w, i32_w]
                            rfl
                          refine pure_ (i := 35) (N := some 112) (v := undef) (a' := ?_) #[true, true, true, true, true, true, true, true, true, true, true, true, true, true, true, true, true, true, true, true, true, true, true, true, true, true, true, true, true, true, true, true, true, true, true, true, false, false, false, false, false, false, false, false, false, false, false] rfl rfl (any_of HT_.out (by kernel_rfl)) (fun _ _ _ h => h) (Or.inr ⟨by rfl, rfl⟩) ?_ ?_
                          rotate_left
                          · simp only [Act.put, List.setIfInBounds_toArray, List.set_cons_zero, List.set_cons_succ, i64_w, i32_w]
                            rfl
                          refine pure_ (i := 36) (N := some 113) (v := undef) (a' := ?_) #[true, true, true, true, true, true, true, true, true, true, true, true, true, true, true, true, true, true, true, true, true, true, true, true, true, true, true, true, true, true, true, true, true, true, true, true, true, false, false, false, false, false, false, false, false, false, false] rfl rfl (any_of HT_.out (by kernel_rfl)) (fun _ _ _ h => h) (Or.inr ⟨by rfl, rfl⟩) ?_ ?_
                          rotate_left
                          · simp only [Act.put, List.setIfInBounds_toArray, List.set_cons_zero, List.set_cons_succ, i64_w, i32_w]
                            rfl
                          refine pure_ (i := 37) (N := some 114) (v := undef) (a' := ?_) #[true, true, true, true, true, true, true, true, true, true, true, true, true, true, true, true, true, true, true, true, true, true, true, true, true, true, true, true, true, true, true, true, true, true, true, true, true, true, false, false, false, false, false, false, false, false, false] rfl rfl (any_of HT_.out (by kernel_rfl)) (fun _ _ _ h => h) (Or.inr ⟨by rfl, rfl⟩) ?_ ?_
                          rotate_left
                          · simp only [Act.put, List.setIfInBounds_toArray, List.set_cons_zero, List.set_cons_succ, i64_w, i32_w]
                            rfl
                          refine pure_ (i := 38) (N := some 115) (v := undef) (a' := ?_) #[true, true, true, true, true, true, true, true, true, true, true, true, true, true, true, true, true, true, true, true, true, true, true, true, true, true, true, true, true, true, true, true, true, true, true, true, true, true, true, false, false, false, false, false, false, false, false] rfl rfl (any_of HT_.out (by kernel_rfl)) (fun _ _ _ h => h) (Or.inr ⟨by rfl, rfl⟩) ?_ ?_
                          rotate_left
                          · simp only [Act.put, List.setIfInBounds_toArray, List.set_cons_zero, List.set_cons_succ, i64_w, i32_w]
                            rfl
                          refine pure_ (i := 39) (N := some 116) (v := undef) (a' := ?_) #[true, true, true, true, true, true, true, true, true, true, true, true, true, true, true, true, true, true, true, true, true, true, true, true, true, true, true, true, true, true, true, true, true, true, true, true, true, true, true, true, false, false, false, false, false, false, false] rfl rfl (any_of HT_.out (by kernel_rfl)) (fun _ _ _ h => h) (Or.inr ⟨by rfl, rfl⟩) ?_ ?_
                          rotate_left
                          · simp only [Act.put, List.setIfInBounds_toArray, List.set_cons_zero, List.set_cons_succ, i64_w, i32_w]
                            rfl
                          refine pz9_ 40 117 ?_
                          refine pz9_ 41 118 ?_
                          refine pure_ (i := 42) (N := some 119) (v := undef) (a' := ?_) #[true, true, true, true, true, true, true, true, true, true, true, true, true, true, true, true, true, true, true, true, true, true, true, true, true, true, true, true, true, true, true, true, true, true, true, true, true, true, true, true, true, true, true, false, false, false, false] rfl rfl (any_of HT_.out (by kernel_rfl)) (fun _ _ _ h => h) (Or.inr ⟨by rfl, rfl⟩) ?_ ?_
                          rotate_left
                          · simp only [Act.put, List.setIfInBounds_toArray, List.set_cons_zero, List.set_cons_succ, i64_w, i32_w]
                            rfl
                          refine pure_ (i := 43) (N := some 120) (v := undef) (a' := ?_) #[true, true, true, true, true, true, true, true, true, true, true, true, true, true, true, true, true, true, true, true, true, true, true, true, true, true, true, true, true, true, true, true, true, true, true, true, true, true, true, true, true, true, true, true, false, false, false] rfl rfl (any_of HT_.out (by kernel_rfl)) (fun _ _ _ h => h) (Or.inr ⟨by rfl, rfl⟩) ?_ ?_
                          rotate_left
                          · simp only [Act.put, List.setIfInBounds_toArray, List.set_cons_zero, List.set_cons_succ, i64_w, i32_w]
                            rfl
                          refine pure_ (i := 44) (N := some 121) (v := undef) (a' := ?_) #[true, true, true, true, true, true, true, true, true, true, true, true, true, true, true, true, true, true, true, true, true, true, true, true, true, true, true, true, true, true, true, true, true, true, true, true, true, true, true, true, true, true, true, true, true, false, false] rfl rfl (any_of HT_.out (by kernel_rfl)) (fun _ _ _ h => h) (Or.inr ⟨by rfl, rfl⟩) ?_ ?_
                          rotate_left
                          · simp only [Act.put, List.setIfInBounds_toArray, List.set_cons_zero, List.set_cons_succ, i64_w, i32_w]
                            rfl
                          refine pz9_ 45 122 ?_
                          refine pz9_ 46 2 ?_
                          refine done_ (done_of HT_.out (by kernel_rfl)) ?_
                          try go_wp2
                          go_ret
                          exact ⟨by first | exact ee | (generalize ByteArray.toList _ = l_; cases l_ <;> rfl) | (generalize ByteArray.toList _ = l_; cases l_ <;> simp), bb HB⟩
                      · rw [if_neg c47] at H
                        have c47b0 : (x4_3 == x5_2) = false := beq_eq_false_iff_ne.mpr c47
                        have c47b1 : (x4_3 != x5_2) = true := bne_iff_ne.mpr c47
                        obtain rfl := Option.some.inj H
                        have ⟨hcz103_0, hcz103_1, hfz103_0, hfz103_1⟩ := rz2 BK780
                        try go_wp2_with (first | ((with_reducible refine gate_callee (f := 44) rfl ?_); refine gl (some 74) Tryd.func44 #[.int .i64 t776] ?_; (with_reducible refine (impl_BracketOf.calls k3 t776 t787 _ A45.out).mono ?_); rintro e w104 ⟨v788, rfl, ho0, hb⟩; refine ⟨_, rfl, ?_⟩; have HO789 := Aside0.mk (Kd.R_lower (Kd.R_new' ho0 (rt HO_781001)) (below_size (bb HB))); replace HO_781001 := ke HO_781001 ho0 hb; replace BK780 := kb BK780 hb; replace HB := hs_ HB hb; (try clear hb); (try clear hb2); (try clear hk); (try clear hi); (try clear ho0); have ⟨hcz105_0, hcz105_1, hfz105_0, hfz105_1⟩ := rz2 BK780) | ((with_reducible refine gate_callee (f := 45) rfl ?_); refine gl (some 76) Tryd.func45 #[.agg #[.int .i64 t776, .slice Ao8 t777.length co8]] ?_; (with_reducible refine (impl_ChampionOf.calls k3 t776 _ _ t777 t790 _ ?side1 ?side2 A46.out).mono ?_); (case side1 => exact cr HO_781001); (case side2 => exact cl HO_781001); rintro e w106 ⟨rfl, hb⟩; refine ⟨_, rfl, ?_⟩; replace HO_781001 := kr HO_781001 hb; replace HO789 := kr HO789 hb; replace BK780 := kb BK780 hb; replace HB := hs_ HB hb; (try clear hb); (try clear hb2); (try clear hk); (try clear hi)))
                        replace HO_781001 := Aside0.mk (Kd.R_drew HO_781001.out)
                        replace HO789 := Aside0.mk (Kd.R_drew HO789.out)
                        replace BK780 := Aside0.mk (blk_drew BK780.out)
                        replace HB := Aside0.mk (below_drew1 HB.out)
                        refine start_ (n := 47) (S := fun w' => True) (ds := []) #[false, false, false, false, false, false, false, false, false, false, false, false, false, false, false, false, false, false, false, false, false, false, false, false, false, false, false, false, false, false, false, false, false, false, false, false, false, false, false, false, false, false, false, false, false, false, false] (by kernel_rfl) rfl rfl trivial (fun hHeld => ?_); refine with_tabW laws_FnCups.tab20 laws_FnCups.bits20 (fun HT_ HW_ => ?_)
                        generalize w106.drew = w107 at HO_781001 HO789 BK780 HB hHeld ⊢
                        refine pz9_ 0 77 ?_
                        refine pz9_ 1 78 ?_
                        refine pz9_ 2 79 ?_
                        refine pz9_ 3 80 ?_
                        refine pure_ (i := 4) (N := some 81) (v := undef) (a' := ?_) #[true, true, true, true, true, false, false, false, false, false, false, false, false, false, false, false, false, false, false, false, false, false, false, false, false, false, false, false, false, false, false, false, false, false, false, false, false, false, false, false, false, false, false, false, false, false, false] rfl rfl (any_of HT_.out (by kernel_rfl)) (fun _ _ _ h => h) (Or.inr ⟨by rfl, rfl⟩) ?_ ?_
                        rotate_left
                        · simp only [Act.put, List.setIfInBounds_toArray, List.set_cons_zero, List.set_cons_succ, i64_w, i32_w]
                          rfl
                        refine pure_ (i := 5) (N := some 82) (v := undef) (a' := ?_) #[true, true, true, true, true, true, false, false, false, false, false, false, false, false, false, false, false, false, false, false, false, false, false, false, false, false, false, false, false, false, false, false, false, false, false, false, false, false, false, false, false, false, false, false, false, false, false] rfl rfl (any_of HT_.out (by kernel_rfl)) (fun _ _ _ h => h) (Or.inr ⟨by rfl, rfl⟩) ?_ ?_
                        rotate_left
                        · simp only [Act.put, List.setIfInBounds_toArray, List.set_cons_zero, List.set_cons_succ, i64_w, i32_w]
                          rfl
                        refine pure_ (i := 6) (N := some 83) (v := undef) (a' := ?_) #[true, true, true, true, true, true, true, false, false, false, false, false, false, false, false, false, false, false, false, false, false, false, false, false, false, false, false, false, false, false, false, false, false, false, false, false, false, false, false, false, false, false, false, false, false, false, false] rfl rfl (any_of HT_.out (by kernel_rfl)) (fun _ _ _ h => h) (Or.inr ⟨by rfl, rfl⟩) ?_ ?_
                        rotate_left
                        · simp only [Act.put, List.setIfInBounds_toArray, List.set_cons_zero, List.set_cons_succ, i64_w, i32_w]
                          rfl
                        refine pure_ (i := 7) (N := some 84) (v := undef) (a' := ?_) #[true, true, true, true, true, true, true, true, false, false, false, false, false, false, false, false, false, false, false, false, false, false, false, false, false, false, false, false, false, false, false, false, false, false, false, false, false, false, false, false, false, false, false, false, false, false, false] rfl rfl (any_of HT_.out (by kernel_rfl)) (fun _ _ _ h => h) (Or.inr ⟨by rfl, rfl⟩) ?_ ?_
                        rotate_left
                        · simp only [Act.put, List.setIfInBounds_toArray, List.set_cons_zero, List.set_cons_succ, i64_w, i32_w]
                          rfl
                        refine pure_ (i := 8) (N := some 85) (v := undef) (a' := ?_) #[true, true, true, true, true, true, true, true, true, false, false, false, false, false, false, false, false, false, false, false, false, false, false, false, false, false, false, false, false, false, false, false, false, false, false, false, false, false, false, false, false, false, false, false, false, false, false] rfl rfl (any_of HT_.out (by kernel_rfl)) (fun _ _ _ h => h) (Or.inr ⟨by rfl, rfl⟩) ?_ ?_
                        rotate_left
                        · simp only [Act.put, List.setIfInBounds_toArray, List.set_cons_zero, List.set_cons_succ, i64_w, i32_w]
                          rfl
                        refine pz9_ 9 86 ?_
                        refine pz9_ 10 87 ?_
                        refine pure_ (i := 11) (N := some 88) (v := undef) (a' := ?_) #[true, true, true, true, true, true, true, true, true, true, true, true, false, false, false, false, false, false, false, false, false, false, false, false, false, false, false, false, false, false, false, false, false, false, false, false, false, false, false, false, false, false, false, false, false, false, false] rfl rfl (any_of HT_.out (by kernel_rfl)) (fun _ _ _ h => h) (Or.inr ⟨by rfl, rfl⟩) ?_ ?_
                        rotate_left
                        · simp only [Act.put, List.setIfInBounds_toArray, List.set_cons_zero, List.set_cons_succ, i64_w, i32_w]
                          rfl
                        refine pure_ (i := 12) (N := some 89) (v := undef) (a' := ?_) #[true, true, true, true, true, true, true, true, true, true, true, true, true, false, false, false, false, false, false, false, false, false, false, false, false, false, false, false, false, false, false, false, false, false, false, false, false, false, false, false, false, false, false, false, false, false, false] rfl rfl (any_of HT_.out (by kernel_rfl)) (fun _ _ _ h => h) (Or.inr ⟨by rfl, rfl⟩) ?_ ?_
                        rotate_left
                        · simp only [Act.put, List.setIfInBounds_toArray, List.set_cons_zero, List.set_cons_succ, i64_w, i32_w]
                          rfl
                        refine pure_ (i := 13) (N := some 90) (v := undef) (a' := ?_) #[true, true, true, true, true, true, true, true, true, true, true, true, true, true, false, false, false, false, false, false, false, false, false, false, false, false, false, false, false, false, false, false, false, false, false, false, false, false, false, false, false, false, false, false, false, false, false] rfl rfl (any_of HT_.out (by kernel_rfl)) (fun _ _ _ h => h) (Or.inr ⟨by rfl, rfl⟩) ?_ ?_
                        rotate_left
                        · simp only [Act.put, List.setIfInBounds_toArray, List.set_cons_zero, List.set_cons_succ, i64_w, i32_w]
                          rfl
                        refine pure_ (i := 14) (N := some 91) (v := undef) (a' := ?_) #[true, true, true, true, true, true, true, true, true, true, true, true, true, true, true, false, false, false, false, false, false, false, false, false, false, false, false, false, false, false, false, false, false, false, false, false, false, false, false, false, false, false, false, false, false, false, false] rfl rfl (any_of HT_.out (by kernel_rfl)) (fun _ _ _ h => h) (Or.inr ⟨by rfl, rfl⟩) ?_ ?_
                        rotate_left
                        · simp only [Act.put, List.setIfInBounds_toArray, List.set_cons_zero, List.set_cons_succ, i64_w, i32_w]
                          rfl
                        refine pure_ (i := 15) (N := some 92) (v := undef) (a' := ?_) #[true, true, true, true, true, true, true, true, true, true, true, true, true, true, true, true, false, false, false, false, false, false, false, false, false, false, false, false, false, false, false, false, false, false, false, false, false, false, false, false, false, false, false, false, false, false, false] rfl rfl (any_of HT_.out (by kernel_rfl)) (fun _ _ _ h => h) (Or.inr ⟨by rfl, rfl⟩) ?_ ?_
                        rotate_left
                        · simp only [Act.put, List.setIfInBounds_toArray, List.set_cons_zero, List.set_cons_succ, i64_w, i32_w]
                          rfl
                        refine pure_ (i := 16) (N := some 93) (v := undef) (a' := ?_) #[true, true, true, true, true, true, true, true, true, true, true, true, true, true, true, true, true, false, false, false, false, false, false, false, false, false, false, false, false, false, false, false, false, false, false, false, false, false, false, false, false, false, false, false, false, false, false] rfl rfl (any_of HT_.out (by kernel_rfl)) (fun _ _ _ h => h) (Or.inr ⟨by rfl, rfl⟩) ?_ ?_
                        rotate_left
                        · simp only [Act.put, List.setIfInBounds_toArray, List.set_cons_zero, List.set_cons_succ, i64_w, i32_w]
                          rfl
                        refine pure_ (i := 17) (N := some 94) (v := undef) (a' := ?_) #[true, true, true, true, true, true, true, true, true, true, true, true, true, true, true, true, true, true, false, false, false, false, false, false, false, false, false, false, false, false, false, false, false, false, false, false, false, false, false, false, false, false, false, false, false, false, false] rfl rfl (any_of HT_.out (by kernel_rfl)) (fun _ _ _ h => h) (Or.inr ⟨by rfl, rfl⟩) ?_ ?_
                        rotate_left
                        · simp only [Act.put, List.setIfInBounds_toArray, List.set_cons_zero, List.set_cons_succ, i64_w, i32_w]
                          rfl
                        refine pz9_ 18 95 ?_
                        refine pz9_ 19 96 ?_
                        refine pure_ (i := 20) (N := some 97) (v := undef) (a' := ?_) #[true, true, true, true, true, true, true, true, true, true, true, true, true, true, true, true, true, true, true, true, true, false, false, false, false, false, false, false, false, false, false, false, false, false, false, false, false, false, false, false, false, false, false, false, false, false, false] rfl rfl (any_of HT_.out (by kernel_rfl)) (fun _ _ _ h => h) (Or.inr ⟨by rfl, rfl⟩) ?_ ?_
                        rotate_left
                        · simp only [Act.put, List.setIfInBounds_toArray, List.set_cons_zero, List.set_cons_succ, i64_w, i32_w]
                          rfl
                        refine pure_ (i := 21) (N := some 98) (v := undef) (a' := ?_) #[true, true, true, true, true, true, true, true, true, true, true, true, true, true, true, true, true, true, true, true, true, true, false, false, false, false, false, false, false, false, false, false, false, false, false, false, false, false, false, false, false, false, false, false, false, false, false] rfl rfl (any_of HT_.out (by kernel_rfl)) (fun _ _ _ h => h) (Or.inr ⟨by rfl, rfl⟩) ?_ ?_
                        rotate_left
                        · simp only [Act.put, List.setIfInBounds_toArray, List.set_cons_zero, List.set_cons_succ, i64_w, i32_w]
                          rfl
                        refine pure_ (i := 22) (N := some 99) (v := undef) (a' := ?_) #[true, true, true, true, true, true, true, true, true, true, true, true, true, true, true, true, true, true, true, true, true, true, true, false, false, false, false, false, false, false, false, false, false, false, false, false, false, false, false, false, false, false, false, false, false, false, false] rfl rfl (any_of HT_.out (by kernel_rfl)) (fun _ _ _ h => h) (Or.inr ⟨by rfl, rfl⟩) ?_ ?_
                        rotate_left
                        · simp only [Act.put, List.setIfInBounds_toArray, List.set_cons_zero, List.set_cons_succ, i64_w, i32_w]
                          rfl
                        refine pure_ (i := 23) (N := some 100) (v := undef) (a' := ?_) #[true, true, true, true, true, true, true, true, true, true, true, true, true, true, true, true, true, true, true, true, true, true, true, true, false, false, false, false, false, false, false, false, false, false, false, false, false, false, false, false, false, false, false, false, false, false, false] rfl rfl (any_of HT_.out (by kernel_rfl)) (fun _ _ _ h => h) (Or.inr ⟨by rfl, rfl⟩) ?_ ?_
                        rotate_left
                        · simp only [Act.put, List.setIfInBounds_toArray, List.set_cons_zero, List.set_cons_succ, i64_w, i32_w]
                          rfl
                        refine pure_ (i := 24) (N := some 101) (v := undef) (a' := ?_) #[true, true, true, true, true, true, true, true, true, true, true, true, true, true, true, true, true, true, true, true, true, true, true, true, true, false, false, false, false, false, false, false, false, false, false, false, false, false, false, false, false, false, false, false, false, false, false] rfl rfl (any_of HT_.out (by kernel_rfl)) (fun _ _ _ h => h) (Or.inr ⟨by rfl, rfl⟩) ?_ ?_
                        rotate_left
                        · simp only [Act.put, List.setIfInBounds_toArray, List.set_cons_zero, List.set_cons_succ, i64_w, i32_w]
                          rfl
                        refine pure_ (i := 25) (N := some 102) (v := undef) (a' := ?_) #[true, true, true, true, true, true, true, true, true, true, true, true, true, true, true, true, true, true, true, true, true, true, true, true, true, true, false, false, false, false, false, false, false, false, false, false, false, false, false, false, false, false, false, false, false, false, false] rfl rfl (any_of HT_.out (by kernel_rfl)) (fun _ _ _ h => h) (Or.inr ⟨by rfl, rfl⟩) ?_ ?_
                        rotate_left
                        · simp only [Act.put, List.setIfInBounds_toArray, List.set_cons_zero, List.set_cons_succ, i64_w, i32_w]
                          rfl
                        refine pure_ (i := 26) (N := some 103) (v := undef) (a' := ?_) #[true, true, true, true, true, true, true, true, true, true, true, true, true, true, true, true, true, true, true, true, true, true, true, true, true, true, true, false, false, false, false, false, false, false, false, false, false, false, false, false, false, false, false, false, false, false, false] rfl rfl (any_of HT_.out (by kernel_rfl)) (fun _ _ _ h => h) (Or.inr ⟨by rfl, rfl⟩) ?_ ?_
                        rotate_left
                        · simp only [Act.put, List.setIfInBounds_toArray, List.set_cons_zero, List.set_cons_succ, i64_w, i32_w]
                          rfl
                        refine pure_ (i := 27) (N := some 104) (v := undef) (a' := ?_) #[true, true, true, true, true, true, true, true, true, true, true, true, true, true, true, true, true, true, true, true, true, true, true, true, true, true, true, true, false, false, false, false, false, false, false, false, false, false, false, false, false, false, false, false, false, false, false] rfl rfl (any_of HT_.out (by kernel_rfl)) (fun _ _ _ h => h) (Or.inr ⟨by rfl, rfl⟩) ?_ ?_
                        rotate_left
                        · simp only [Act.put, List.setIfInBounds_toArray, List.set_cons_zero, List.set_cons_succ, i64_w, i32_w]
                          rfl
                        refine pure_ (i := 28) (N := some 105) (v := undef) (a' := ?_) #[true, true, true, true, true, true, true, true, true, true, true, true, true, true, true, true, true, true, true, true, true, true, true, true, true, true, true, true, true, false, false, false, false, false, false, false, false, false, false, false, false, false, false, false, false, false, false] rfl rfl (any_of HT_.out (by kernel_rfl)) (fun _ _ _ h => h) (Or.inr ⟨by rfl, rfl⟩) ?_ ?_
                        rotate_left
                        · simp only [Act.put, List.setIfInBounds_toArray, List.set_cons_zero, List.set_cons_succ, i64_w, i32_w]
                          rfl
                        refine pure_ (i := 29) (N := some 106) (v := undef) (a' := ?_) #[true, true, true, true, true, true, true, true, true, true, true, true, true, true, true, true, true, true, true, true, true, true, true, true, true, true, true, true, true, true, false, false, false, false, false, false, false, false, false, false, false, false, false, false, false, false, false] rfl rfl (any_of HT_.out (by kernel_rfl)) (fun _ _ _ h => h) (Or.inr ⟨by rfl, rfl⟩) ?_ ?_
                        rotate_left
                        · simp only [Act.put, List.setIfInBounds_toArray, List.set_cons_zero, List.set_cons_succ, i64_w, i32_w]
                          rfl
                        refine pz9_ 30 107 ?_
                        refine pz9_ 31 108 ?_
                        refine pure_ (i := 32) (N := some 109) (v := undef) (a' := ?_) #[true, true, true, true, true, true, true, true, true, true, true, true, true, true, true, true, true, true, true, true, true, true, true, true, true, true, true, true, true, true, true, true, true, false, false, false, false, false, false, false, false, false, false, false, false, false, false] rfl rfl (any_of HT_.out (by kernel_rfl)) (fun _ _ _ h => h) (Or.inr ⟨by rfl, rfl⟩) ?_ ?_
                        rotate_left
                        · simp only [Act.put, List.setIfInBounds_toArray, List.set_cons_zero, List.set_cons_succ, i64_w, i32_w]
                          rfl
                        refine pure_ (i := 33) (N := some 110) (v := undef) (a' := ?_) #[true, true, true, true, true, true, true, true, true, true, true, true, true, true, true, true, true, true, true, true, true, true, true, true, true, true, true, true, true, true, true, true, true, true, false, false, false, false, false, false, false, false, false, false, false, false, false] rfl rfl (any_of HT_.out (by kernel_rfl)) (fun _ _ _ h => h) (Or.inr ⟨by rfl, rfl⟩) ?_ ?_
                        rotate_left
                        · simp only [Act.put, List.setIfInBounds_toArray, List.set_cons_zero, List.set_cons_succ, i64_w, i32_w]
                          rfl
                        refine pure_ (i := 34) (N := some 111) (v := undef) (a' := ?_) #[true, true, true, true, true, true, true, true, true, true, true, true, true, true, true, true, true, true, true, true, true, true, true, true, true, true, true, true, true, true, true, true, true, true, true, false, false, false, false, false, false, false, false, false, false, false, false] rfl rfl (any_of HT_.out (by kernel_rfl)) (fun _ _ _ h => h) (Or.inr ⟨by rfl, rfl⟩) ?_ ?_
                        rotate_left
                        · simp only [Act.put, List.setIfInBounds_toArray, List.set_cons_zero, List.set_cons_succ, i64_w, i32_w]
                          rfl
                        refine pure_ (i := 35) (N := some 112) (v := undef) (a' := ?_) #[true, true, true, true, true, true, true, true, true, true, true, true, true, true, true, true, true, true, true, true, true, true, true, true, true, true, true, true, true, true, true, true, true, true, true, true, false, false, false, false, false, false, false, false, false, false, false] rfl rfl (any_of HT_.out (by kernel_rfl)) (fun _ _ _ h => h) (Or.inr ⟨by rfl, rfl⟩) ?_ ?_
                        rotate_left
                        · simp only [Act.put, List.setIfInBounds_toArray, List.set_cons_zero, List.set_cons_succ, i64_w, i32_w]
                          rfl
                        refine pure_ (i := 36) (N := some 113) (v := undef) (a' := ?_) #[true, true, true, true, true, true, true, true, true, true, true, true, true, true, true, true, true, true, true, true, true, true, true, true, true, true, true, true, true, true, true, true, true, true, true, true, true, false, false, false, false, false, false, false, false, false, false] rfl rfl (any_of HT_.out (by kernel_rfl)) (fun _ _ _ h => h) (Or.inr ⟨by rfl, rfl⟩) ?_ ?_
                        rotate_left
                        · simp only [Act.put, List.setIfInBounds_toArray, List.set_cons_zero, List.set_cons_succ, i64_w, i32_w]
                          rfl
                        refine pure_ (i := 37) (N := some 114) (v := undef) (a' := ?_) #[true, true, true, true, true, true, true, true, true, true, true, true, true, true, true, true, true, true, true, true, true, true, true, true, true, true, true, true, true, true, true, true, true, true, true, true, true, true, false, false, false, false, false, false, false, false, false] rfl rfl (any_of HT_.out (by kernel_rfl)) (fun _ _ _ h => h) (Or.inr ⟨by rfl, rfl⟩) ?_ ?_
                        rotate_left
                        · simp only [Act.put, List.setIfInBounds_toArray, List.set_cons_zero, List.set_cons_succ, i64_w, i32_w]
                          rfl
                        refine pure_ (i := 38) (N := some 115) (v := undef) (a' := ?_) #[true, true, true, true, true, true, true, true, true, true, true, true, true, true, true, true, true, true, true, true, true, true, true, true, true, true, true, true, true, true, true, true, true, true, true, true, true, true, true, false, false, false, false, false, false, false, false] rfl rfl (any_of HT_.out (by kernel_rfl)) (fun _ _ _ h => h) (Or.inr ⟨by rfl, rfl⟩) ?_ ?_
                        rotate_left
                        · simp only [Act.put, List.setIfInBounds_toArray, List.set_cons_zero, List.set_cons_succ, i64_w, i32_w]
                          rfl
                        refine pure_ (i := 39) (N := some 116) (v := undef) (a' := ?_) #[true, true, true, true, true, true, true, true, true, true, true, true, true, true, true, true, true, true, true, true, true, true, true, true, true, true, true, true, true, true, true, true, true, true, true, true, true, true, true, true, false, false, false, false, false, false, false] rfl rfl (any_of HT_.out (by kernel_rfl)) (fun _ _ _ h => h) (Or.inr ⟨by rfl, rfl⟩) ?_ ?_
                        rotate_left
                        · simp only [Act.put, List.setIfInBounds_toArray, List.set_cons_zero, List.set_cons_succ, i64_w, i32_w]
                          rfl
                        refine pz9_ 40 117 ?_
                        refine pz9_ 41 118 ?_
                        refine pure_ (i := 42) (N := some 119) (v := undef) (a' := ?_) #[true, true, true, true, true, true, true, true, true, true, true, true, true, true, true, true, true, true, true, true, true, true, true, true, true, true, true, true, true, true, true, true, true, true, true, true, true, true, true, true, true, true, true, false, false, false, false] rfl rfl (any_of HT_.out (by kernel_rfl)) (fun _ _ _ h => h) (Or.inr ⟨by rfl, rfl⟩) ?_ ?_
                        rotate_left
                        · simp only [Act.put, List.setIfInBounds_toArray, List.set_cons_zero, List.set_cons_succ, i64_w, i32_w]
                          rfl
                        refine pure_ (i := 43) (N := some 120) (v := undef) (a' := ?_) #[true, true, true, true, true, true, true, true, true, true, true, true, true, true, true, true, true, true, true, true, true, true, true, true, true, true, true, true, true, true, true, true, true, true, true, true, true, true, true, true, true, true, true, true, false, false, false] rfl rfl (any_of HT_.out (by kernel_rfl)) (fun _ _ _ h => h) (Or.inr ⟨by rfl, rfl⟩) ?_ ?_
                        rotate_left
                        · simp only [Act.put, List.setIfInBounds_toArray, List.set_cons_zero, List.set_cons_succ, i64_w, i32_w]
                          rfl
                        refine pure_ (i := 44) (N := some 121) (v := undef) (a' := ?_) #[true, true, true, true, true, true, true, true, true, true, true, true, true, true, true, true, true, true, true, true, true, true, true, true, true, true, true, true, true, true, true, true, true, true, true, true, true, true, true, true, true, true, true, true, true, false, false] rfl rfl (any_of HT_.out (by kernel_rfl)) (fun _ _ _ h => h) (Or.inr ⟨by rfl, rfl⟩) ?_ ?_
                        rotate_left
                        · simp only [Act.put, List.setIfInBounds_toArray, List.set_cons_zero, List.set_cons_succ, i64_w, i32_w]
                          rfl
                        refine pz9_ 45 122 ?_
                        refine pz9_ 46 2 ?_
                        refine done_ (done_of HT_.out (by kernel_rfl)) ?_
                        try go_wp2
                        go_ret
                        exact ⟨by first | exact ee | (generalize ByteArray.toList _ = l_; cases l_ <;> rfl) | (generalize ByteArray.toList _ = l_; cases l_ <;> simp), bb HB⟩
def laws_FnCups.Pure : Prop := ∀ (l0 : List Int), l0.length ≤ maxLen → l0.length * 1 ≤ 140737488351232 → (∀ x ∈ l0, (Lit.int .u8 x).wf = true) → ∃ k, laws_FnCups.f k l0 = some true
end Go.Proofs.YtibmeomlokigjaaDoor.Q
end
namespace Go.Proofs.YtibmeomlokigjaaDoor.Opens
open Go.ChangeShapes Go.WideShapes Go.ChangeAt Go.RowKit Go.Proofs.YtibmeomlokigjaaDoor.Q Go.Proofs.YtibmeomlokigjaaDoorW.PrintWords Go.Proofs.YtibmeomlokigjaaDoorW.PrintLast
section
variable {H : Type} (enc : TypeId × Value → H) (P : Program) (W : World)
def Opens {α : Type} (t : TypeId) (d : Kd α) (ok : α → Prop) : Prop := ∀ (fuel : Nat) (cs : List Value) (x : DataW H × List MemPlace), DataW.trod enc P W 0 (fun _ => true) true fuel t cs = some x → ∃ a, d.K W a cs ∧ ok a
variable {enc P W}
variable {α β : Type} {t : TypeId} {d : Kd α} {d2 : Kd β} {ok : α → Prop} {ok2 : β → Prop}
theorem int {k : IntKind} (ht : P.underlying t = some (.int k)) : Opens enc P W t (Kd.int k) (fun n => (Lit.int k n).wf = true) := fun fuel cs x h => by
  obtain ⟨n, rfl, _, hw⟩ := DataW.trod_int ht h
  exact ⟨n, rfl, hw⟩
theorem cells_get {w : World} {base : Nat} {a : Addr} {n : Nat} {cs : List Value} (h : w.cells? base a n = some cs) : cs.length = n ∧ ∀ i u, cs[i]? = some u → w.cell? (a.add i) = some u := by
  unfold World.cells? at h
  split at h
  · have hl := mapM_some_length h
    refine ⟨by simpa using hl, fun i u hi => ?_⟩
    have hlt : i < n := by have := (List.getElem?_eq_some_iff.mp hi).1; simp at hl; omega
    have := mapM_some_get h i i (by simp [hlt])
    rw [this, hi]
  · cases h
theorem add_add (a : Addr) (i j : Nat) : (a.add i).add j = a.add (i + j) := by
  unfold Addr.add
  by_cases hi : i = 0
  · subst hi; simp
  · by_cases hj : j = 0
    · subst hj; simp [hi]
    · simp [hi, hj]; omega
theorem slice {e : TypeId} (ht : P.underlying t = some (.slice e)) (he : Opens enc P W e d ok) (hc : P.cellsOf e = d.sz) (q : Nat) : Opens enc P W t (Kd.slice q d) (fun l => l.length ≤ maxLen ∧ ∀ x ∈ l, ok x) := fun fuel cs x h => by
  rcases DataW.trod_slice ht h with ⟨rfl, _⟩ | ⟨a, len, cap, elems, rest, n, _, rfl, _, _, hl, hm, hlen, hel, _⟩
  · exact ⟨[], ⟨none, 0, rfl, Nat.le_refl _, rfl, Nat.zero_le _, fun h => absurd h (Nat.not_lt_zero _)⟩, Nat.zero_le _, fun x hx => by cases hx⟩
  · have each : ∀ i : Fin len, ∃ p : α, ok p ∧ ∃ c, c.length = d.sz ∧ d.K W p c ∧ ∀ j u, c[j]? = some u → W.cell? (a.add (i.1 * d.sz + j)) = some u := by
      intro i
      have h1 := hel i.1 i.2
      obtain ⟨y, hy⟩ : ∃ y, elems[i.1]? = some y := ⟨elems[i.1]'(by have := i.2; omega), List.getElem?_eq_getElem (by have := i.2; omega)⟩
      rw [hy, Option.bind_eq_some_iff] at h1
      obtain ⟨c, hcs, htr⟩ := h1
      rw [hc] at hcs
      obtain ⟨p, hK, hok⟩ := he _ _ _ htr
      obtain ⟨h2, h3⟩ := cells_get hcs
      exact ⟨p, hok, c, h2, hK, fun j u hj => by rw [← add_add]; exact h3 j u hj⟩
    let f : Fin len → α := fun i => (each i).choose
    have hf : ∀ i : Fin len, ok (f i) ∧ ∃ c, c.length = d.sz ∧ d.K W (f i) c ∧ ∀ j u, c[j]? = some u → W.cell? (a.add (i.1 * d.sz + j)) = some u := fun i => (each i).choose_spec
    have hm' : len ≤ maxLen := Nat.le_trans hl hm
    refine ⟨List.ofFn f, ⟨some a, cap, by simp, by simpa using hl, by simp, by simpa [maxLen] using hm', fun _ => ⟨a, rfl, fun j p hj => ?_⟩⟩, by simpa using hm', fun x hx => ?_⟩
    · have hlt : j < len := by have := (List.getElem?_eq_some_iff.mp hj).1; simpa using this
      have : p = f ⟨j, hlt⟩ := by rw [List.getElem?_eq_getElem (by simpa using hlt)] at hj; simpa using hj.symm
      subst this
      obtain ⟨_, c, h1, h2, h3⟩ := hf ⟨j, hlt⟩
      exact ⟨c, h1, h2, h3⟩
    · obtain ⟨i, hi, rfl⟩ := List.mem_iff_getElem.mp hx
      simp only [List.getElem_ofFn]
      exact (hf _).1
end
theorem trod_slice_val {H : Type} {enc : TypeId × Value → H} {P : Program} {W : World} {r : Reach} {b0 : Nat} {t e : TypeId} {v : Value} {α : Type} {d : Kd α} {ok : List α → Prop} {q : Nat} {dd : DataW H} {ps : List MemPlace} (ht : P.underlying t = some (.slice e)) (hval : Value.okWide P W r b0 t v) (hd : DataW.Trod enc P W 0 (fun _ => true) true t v dd ps) (h : Opens enc P W t (Kd.slice q d) ok) :
    ∃ A c l, v = .slice A l.length c ∧ l.length ≤ c ∧ d.C W A l.length l ∧ ok l := by
  obtain ⟨a0, len0, cap0, rfl⟩ := okWide_slice ht hval
  obtain ⟨fuel, hf⟩ := hd
  obtain ⟨l, ⟨A, c, he, hl, hC⟩, hok⟩ := h _ _ _ hf
  refine ⟨A, c, l, by simpa [Value.cells] using he, hl, hC, hok⟩
end Go.Proofs.YtibmeomlokigjaaDoor.Opens
namespace Go.Proofs.YtibmeomlokigjaaDoor.Laid
open Go.ChangeShapes Go.WideShapes Go.ChangeAt Go.WideMaps Go.WideElems Go.RowKit
noncomputable def laid3 : List (String × DataW Unit) := Rows.fnExactFormatGameRow.laid
theorem door_met (os : Os) (args : Array Value) : laidMetH Tryd.prog laid3 ((World.doorLaid Tryd.prog 400 os).forCall (fun _ _ => 0) ⟨#[], args, []⟩).memory :=
  laidMetH_of_parts3 (fuel := 8) (laidMet_of_run' 8 (by kernel_rfl) (by kernel_rfl)) (by kernel_rfl) (by kernel_rfl)
theorem door_shaped (os : Os) (args : Array Value) : ((World.doorLaid Tryd.prog 400 os).forCall (fun _ _ => 0) ⟨#[], args, []⟩).Shaped Tryd.prog :=
  World.shaped_of_RefB (by kernel_rfl) (by kernel_rfl)
end Go.Proofs.YtibmeomlokigjaaDoor.Laid
namespace Go.Proofs.YtibmeomlokigjaaDoor.Q
open Go.RowKit Go.Proofs.YtibmeomlokigjaaDoorW.PrintWords Go.Proofs.YtibmeomlokigjaaDoorW.PrintLast Go.Proofs.YtibmeomlokigjaaDoorW.PrintMore
attribute [local go_sem] max2_int min2_int max_two min_two max_three min_three max_four min_four
set_option linter.unusedVariables false
set_option linter.unusedSimpArgs false
mutual
def spec_CupOk.j0 : Nat → Bool → Int → List Int → Option (Bool)
  | 0, _, _, _ => none
  | k + 1, x20, x549000, x549001 => if x20 = true then (some false) else (spec_CupOk.l0 k x549001 (x549001.length : Int) 0 x549000 x549001)
def spec_CupOk.l0 : Nat → List Int → Int → Int → Int → List Int → Option (Bool)
  | 0, _, _, _, _, _ => none
  | k + 1, x22, x23, x24, x549000, x549001 => if x24 < x23 then (if 0 ≤ x24 then (if x24 < (x22.length : Int) then (if x24 ≤ (x549001.length : Int) then ((spec_l14Teams.f k x549000 (x549001.take (x24 : Int).toNat) x24).bind fun bt552 => (if bt552.2.2 = true then (if (rd x22 x24) = bt552.1 then (spec_CupOk.l0 k x22 x23 (wrap64 (x24 + 1)) x549000 x549001) else (if (rd x22 x24) = bt552.2.1 then (spec_CupOk.l0 k x22 x23 (wrap64 (x24 + 1)) x549000 x549001) else (some false))) else (some false))) else (none)) else (none)) else (none)) else (some true)
end
def spec_CupOk.f (k : Nat) (a0_0 : Int) (l0_1 : List Int) : Option (Bool) := (spec_CupSizeOk.f a0_0).bind fun t549 => (if t549 = true then (spec_CupOk.j0 k (decide ((l0_1.length : Int) > (wrap64 (a0_0 - 1)))) a0_0 l0_1) else (spec_CupOk.j0 k true a0_0 l0_1))
end Go.Proofs.YtibmeomlokigjaaDoor.Q
namespace Go.Proofs.YtibmeomlokigjaaDoor.Q
open Go.RowKit Go.Proofs.YtibmeomlokigjaaDoorW.PrintWords Go.Proofs.YtibmeomlokigjaaDoorW.PrintLast Go.Proofs.YtibmeomlokigjaaDoorW.PrintMore
attribute [local go_sem] max2_int min2_int max_two min_two max_three min_three max_four min_four
set_option linter.unusedVariables false
set_option linter.unusedSimpArgs false
def spec_ChampionOf.f (k : Nat) (a0_0 : Int) (l0_1 : List Int) : Option (Int) := (spec_CupOk.f k a0_0 l0_1).bind fun t556 => (if t556 = true then (if (l0_1.length : Int) = (wrap64 (a0_0 - 1)) then (if 0 ≤ (wrap64 ((l0_1.length : Int) - 1)) then (if (wrap64 ((l0_1.length : Int) - 1)) < (l0_1.length : Int) then (some (rd l0_1 (wrap64 ((l0_1.length : Int) - 1)))) else (none)) else (none)) else (some 0)) else (some 0))
end Go.Proofs.YtibmeomlokigjaaDoor.Q
namespace Go.Proofs.YtibmeomlokigjaaDoor.Q
open Go.RowKit Go.Proofs.YtibmeomlokigjaaDoorW.PrintWords Go.Proofs.YtibmeomlokigjaaDoorW.PrintLast Go.Proofs.YtibmeomlokigjaaDoorW.PrintMore
attribute [local go_sem] max2_int min2_int max_two min_two max_three min_three max_four min_four
set_option linter.unusedVariables false
set_option linter.unusedSimpArgs false
mutual
def spec_FormatInt.l0 : Nat → Int → ByteArray → Option (ByteArray)
  | 0, _, _ => none
  | k + 1, x0, x3 => if x0 > 9 then ((some (([(wrap64 (48 + (Int.tmod x0 10))) % 256] : List Int) : List Int)).bind fun y115 => (if (strOfNums y115).size + x3.size ≤ 9223372036854775807 then (spec_FormatInt.l0 k (wrap64 (Int.tdiv x0 10)) ((strOfNums y115) ++ x3)) else (none))) else ((some (([(wrap64 (48 + x0)) % 256] : List Int) : List Int)).bind fun y118 => (if (strOfNums y118).size + x3.size ≤ 9223372036854775807 then (some ((strOfNums y118) ++ x3)) else (none)))
def spec_FormatInt.f : Nat → Int → Option (ByteArray)
  | 0, _ => none
  | k + 1, a0 => if a0 < 0 then (if (wrap64 (Int.tdiv a0 10)) = 0 then ((some (([(wrap64 (48 - a0)) % 256] : List Int) : List Int)).bind fun y108 => (if 1 + (strOfNums y108).size ≤ 9223372036854775807 then (some ((⟨#[45]⟩ : ByteArray) ++ (strOfNums y108))) else (none))) else ((spec_FormatInt.f k (wrap64 (Int.tdiv a0 10))).bind fun t111 => ((some (([(wrap64 (48 - (Int.tmod a0 10))) % 256] : List Int) : List Int)).bind fun y112 => (if t111.size + (strOfNums y112).size ≤ 9223372036854775807 then (some (t111 ++ (strOfNums y112))) else (none))))) else (spec_FormatInt.l0 k a0 (⟨#[]⟩ : ByteArray))
end
end Go.Proofs.YtibmeomlokigjaaDoor.Q
namespace Go.Proofs.YtibmeomlokigjaaDoor.Q
open Go.RowKit Go.Proofs.YtibmeomlokigjaaDoorW.PrintWords Go.Proofs.YtibmeomlokigjaaDoorW.PrintLast Go.Proofs.YtibmeomlokigjaaDoorW.PrintMore
attribute [local go_sem] max2_int min2_int max_two min_two max_three min_three max_four min_four
set_option linter.unusedVariables false
set_option linter.unusedSimpArgs false
def spec_Join.l0 : Nat → ByteArray → ByteArray → List ByteArray → Int → Int → Option (ByteArray)
  | 0, _, _, _, _, _ => none
  | k + 1, x1, x5, x8, x9, x10 => if x10 < x9 then (if 0 ≤ x10 then (if x10 < (x8.length : Int) then (if x10 > 0 then (if x5.size + x1.size ≤ 9223372036854775807 then (if (x5 ++ x1).size + (rdOf ByteArray.empty x8 x10).size ≤ 9223372036854775807 then (spec_Join.l0 k x1 ((x5 ++ x1) ++ (rdOf ByteArray.empty x8 x10)) x8 x9 (wrap64 (x10 + 1))) else (none)) else (none)) else (if x5.size + (rdOf ByteArray.empty x8 x10).size ≤ 9223372036854775807 then (spec_Join.l0 k x1 (x5 ++ (rdOf ByteArray.empty x8 x10)) x8 x9 (wrap64 (x10 + 1))) else (none))) else (none)) else (none)) else (some x5)
def spec_Join.f (k : Nat) (l0 : List ByteArray) (a1 : ByteArray) : Option (ByteArray) := spec_Join.l0 k a1 (⟨#[]⟩ : ByteArray) l0 (l0.length : Int) 0
end Go.Proofs.YtibmeomlokigjaaDoor.Q
namespace Go.Proofs.YtibmeomlokigjaaDoor.Q
open Go.RowKit Go.Proofs.YtibmeomlokigjaaDoorW.PrintWords Go.Proofs.YtibmeomlokigjaaDoorW.PrintLast Go.Proofs.YtibmeomlokigjaaDoorW.PrintMore
attribute [local go_sem] max2_int min2_int max_two min_two max_three min_three max_four min_four
set_option linter.unusedVariables false
set_option linter.unusedSimpArgs false
mutual
def spec_CupLine.l0 : Nat → List ByteArray → List Int → Int → Int → Int → List Int → Option (ByteArray)
  | 0, _, _, _, _, _, _ => none
  | k + 1, x3, x11, x12, x13, x559000, x559001 => if x13 < x12 then (if 0 ≤ x13 then (if x13 < (x11.length : Int) then ((spec_FormatInt.f k (rd x11 x13)).bind fun t564 => (if x3.length < 8796093022208 then (spec_CupLine.l0 k (x3 ++ [t564]) x11 x12 (wrap64 (x13 + 1)) x559000 x559001) else (none))) else (none)) else (none)) else (if (x3.length : Int) = 0 then (if x3.length < 8796093022208 then (spec_CupLine.j1 k (x3 ++ [(⟨#[110, 111, 110, 101]⟩ : ByteArray)]) x559000 x559001) else (none)) else (spec_CupLine.j1 k x3 x559000 x559001))
def spec_CupLine.j1 : Nat → List ByteArray → Int → List Int → Option (ByteArray)
  | 0, _, _, _ => none
  | k + 1, x3, x559000, x559001 => (spec_ChampionOf.f k x559000 x559001).bind fun t571 => (if t571 > 0 then ((spec_ChampionOf.f k x559000 x559001).bind fun t572 => ((spec_FormatInt.f k t572).bind fun t573 => ((some (([(⟨#[99, 104, 97, 109, 112, 105, 111, 110]⟩ : ByteArray), t573] : List ByteArray) : List ByteArray)).bind fun y574 => (if x3.length + y574.length < 8796093022208 then ((spec_Join.f k (x3 ++ y574) (⟨#[32]⟩ : ByteArray)).bind fun t580 => (some t580)) else (none))))) else ((spec_Join.f k x3 (⟨#[32]⟩ : ByteArray)).bind fun t581 => (some t581)))
end
def spec_CupLine.f (k : Nat) (a0_0 : Int) (l0_1 : List Int) : Option (ByteArray) := (spec_CupOk.f k a0_0 l0_1).bind fun t559 => (if t559 = true then (spec_CupLine.l0 k (([] : List ByteArray)) l0_1 (l0_1.length : Int) 0 a0_0 l0_1) else (some (⟨#[]⟩ : ByteArray)))
end Go.Proofs.YtibmeomlokigjaaDoor.Q
namespace Go.Proofs.YtibmeomlokigjaaDoor.Q
open Go.RowKit Go.Proofs.YtibmeomlokigjaaDoorW.PrintWords Go.Proofs.YtibmeomlokigjaaDoorW.PrintLast Go.Proofs.YtibmeomlokigjaaDoorW.PrintMore
attribute [local go_sem] max2_int min2_int max_two min_two max_three min_three max_four min_four
set_option linter.unusedVariables false
set_option linter.unusedSimpArgs false
def spec_l03Names.f  : Option (List ByteArray) := some (([(⟨#[112, 111, 105, 110, 116, 115]⟩ : ByteArray), (⟨#[100, 105, 102, 102, 101, 114, 101, 110, 99, 101]⟩ : ByteArray), (⟨#[115, 99, 111, 114, 101, 100]⟩ : ByteArray), (⟨#[119, 105, 110, 115]⟩ : ByteArray), (⟨#[109, 117, 116, 117, 97, 108]⟩ : ByteArray), (⟨#[109, 117, 116, 117, 97, 108, 100, 105, 102, 102, 101, 114, 101, 110, 99, 101]⟩ : ByteArray), (⟨#[102, 97, 105, 114]⟩ : ByteArray), (⟨#[115, 101, 101, 100]⟩ : ByteArray)] : List ByteArray))
end Go.Proofs.YtibmeomlokigjaaDoor.Q
namespace Go.Proofs.YtibmeomlokigjaaDoor.Q
open Go.RowKit Go.Proofs.YtibmeomlokigjaaDoorW.PrintWords Go.Proofs.YtibmeomlokigjaaDoorW.PrintLast Go.Proofs.YtibmeomlokigjaaDoorW.PrintMore
attribute [local go_sem] max2_int min2_int max_two min_two max_three min_three max_four min_four
set_option linter.unusedVariables false
set_option linter.unusedSimpArgs false
def spec_KeyName.f (a0 : Int) : Option (ByteArray) := (spec_l01In.f a0 1 8).bind fun t303 => (if t303 = true then ((spec_l03Names.f).bind fun t304 => (if 0 ≤ (wrap64 (a0 - 1)) then (if (wrap64 (a0 - 1)) < (t304.length : Int) then (some (rdOf ByteArray.empty t304 (wrap64 (a0 - 1)))) else (none)) else (none))) else (some (⟨#[]⟩ : ByteArray)))
end Go.Proofs.YtibmeomlokigjaaDoor.Q
namespace Go.Proofs.YtibmeomlokigjaaDoor.Q
open Go.RowKit Go.Proofs.YtibmeomlokigjaaDoorW.PrintWords Go.Proofs.YtibmeomlokigjaaDoorW.PrintLast Go.Proofs.YtibmeomlokigjaaDoorW.PrintMore
attribute [local go_sem] max2_int min2_int max_two min_two max_three min_three max_four min_four
set_option linter.unusedVariables false
set_option linter.unusedSimpArgs false
def spec_l02Has.l0 : Nat → Int → List Int → Int → Int → Option (Bool)
  | 0, _, _, _, _ => none
  | k + 1, x1, x7, x8, x9 => if x9 < x8 then (if 0 ≤ x9 then (if x9 < (x7.length : Int) then (if (rd x7 x9) = x1 then (some true) else (spec_l02Has.l0 k x1 x7 x8 (wrap64 (x9 + 1)))) else (none)) else (none)) else (some false)
def spec_l02Has.f (k : Nat) (l0 : List Int) (a1 : Int) : Option (Bool) := spec_l02Has.l0 k a1 l0 (l0.length : Int) 0
end Go.Proofs.YtibmeomlokigjaaDoor.Q
namespace Go.Proofs.YtibmeomlokigjaaDoor.Q
open Go.RowKit Go.Proofs.YtibmeomlokigjaaDoorW.PrintWords Go.Proofs.YtibmeomlokigjaaDoorW.PrintLast Go.Proofs.YtibmeomlokigjaaDoorW.PrintMore
attribute [local go_sem] max2_int min2_int max_two min_two max_three min_three max_four min_four
set_option linter.unusedVariables false
set_option linter.unusedSimpArgs false
mutual
def spec_RulesOk.j0 : Nat → Bool → Int → Int → Int → List Int → Bool → Option (Bool)
  | 0, _, _, _, _, _, _ => none
  | k + 1, x31, x292000, x292001, x292002, x292003, x292004 => if x31 = true then (some false) else (spec_RulesOk.l0 k x292003 (x292003.length : Int) 0 x292000 x292001 x292002 x292003 x292004)
def spec_RulesOk.l0 : Nat → List Int → Int → Int → Int → Int → Int → List Int → Bool → Option (Bool)
  | 0, _, _, _, _, _, _, _, _ => none
  | k + 1, x33, x34, x35, x292000, x292001, x292002, x292003, x292004 => if x35 < x34 then (if 0 ≤ x35 then (if x35 < (x33.length : Int) then ((spec_l01In.f (rd x33 x35) 1 8).bind fun t297 => (if t297 = true then (if x35 ≤ (x292003.length : Int) then ((spec_l02Has.f k (x292003.take (x35 : Int).toNat) (rd x33 x35)).bind fun t299 => (if t299 = true then (some false) else (spec_RulesOk.l0 k x33 x34 (wrap64 (x35 + 1)) x292000 x292001 x292002 x292003 x292004))) else (none)) else (some false))) else (none)) else (none)) else (some true)
end
def spec_RulesOk.f (k : Nat) (a0_0 : Int) (a0_1 : Int) (a0_2 : Int) (l0_3 : List Int) (a0_4 : Bool) : Option (Bool) := (spec_l01In.f a0_0 0 10).bind fun t292 => (if t292 = true then ((spec_l01In.f a0_1 0 a0_0).bind fun t293 => (if t293 = true then ((spec_l01In.f a0_2 0 a0_1).bind fun t294 => (if t294 = true then ((spec_l01In.f (l0_3.length : Int) 1 8).bind fun t295 => (spec_RulesOk.j0 k (!t295) a0_0 a0_1 a0_2 l0_3 a0_4)) else (spec_RulesOk.j0 k true a0_0 a0_1 a0_2 l0_3 a0_4))) else (spec_RulesOk.j0 k true a0_0 a0_1 a0_2 l0_3 a0_4))) else (spec_RulesOk.j0 k true a0_0 a0_1 a0_2 l0_3 a0_4))
end Go.Proofs.YtibmeomlokigjaaDoor.Q
namespace Go.Proofs.YtibmeomlokigjaaDoor.Q
open Go.RowKit Go.Proofs.YtibmeomlokigjaaDoorW.PrintWords Go.Proofs.YtibmeomlokigjaaDoorW.PrintLast Go.Proofs.YtibmeomlokigjaaDoorW.PrintMore
attribute [local go_sem] max2_int min2_int max_two min_two max_three min_three max_four min_four
set_option linter.unusedVariables false
set_option linter.unusedSimpArgs false
def spec_FormatRules.l0 : Nat → List ByteArray → List Int → Int → Int → Int → Int → Int → List Int → Bool → Option (ByteArray)
  | 0, _, _, _, _, _, _, _, _, _ => none
  | k + 1, x3, x12, x13, x14, x310000, x310001, x310002, x310003, x310004 => if x14 < x13 then (if 0 ≤ x14 then (if x14 < (x12.length : Int) then ((spec_KeyName.f (rd x12 x14)).bind fun t315 => (if x3.length < 8796093022208 then (spec_FormatRules.l0 k (x3 ++ [t315]) x12 x13 (wrap64 (x14 + 1)) x310000 x310001 x310002 x310003 x310004) else (none))) else (none)) else (none)) else ((spec_FormatInt.f k x310000).bind fun t319 => (if t319.size + 1 ≤ 9223372036854775807 then ((spec_FormatInt.f k x310001).bind fun t320 => (if (t319 ++ (⟨#[45]⟩ : ByteArray)).size + t320.size ≤ 9223372036854775807 then (if ((t319 ++ (⟨#[45]⟩ : ByteArray)) ++ t320).size + 1 ≤ 9223372036854775807 then ((spec_FormatInt.f k x310002).bind fun t321 => (if (((t319 ++ (⟨#[45]⟩ : ByteArray)) ++ t320) ++ (⟨#[45]⟩ : ByteArray)).size + t321.size ≤ 9223372036854775807 then (if ((((t319 ++ (⟨#[45]⟩ : ByteArray)) ++ t320) ++ (⟨#[45]⟩ : ByteArray)) ++ t321).size + 1 ≤ 9223372036854775807 then ((spec_Join.f k x3 (⟨#[62]⟩ : ByteArray)).bind fun t322 => (if (((((t319 ++ (⟨#[45]⟩ : ByteArray)) ++ t320) ++ (⟨#[45]⟩ : ByteArray)) ++ t321) ++ (⟨#[32]⟩ : ByteArray)).size + t322.size ≤ 9223372036854775807 then (if x310004 = true then (if ((((((t319 ++ (⟨#[45]⟩ : ByteArray)) ++ t320) ++ (⟨#[45]⟩ : ByteArray)) ++ t321) ++ (⟨#[32]⟩ : ByteArray)) ++ t322).size + 6 ≤ 9223372036854775807 then (some (((((((t319 ++ (⟨#[45]⟩ : ByteArray)) ++ t320) ++ (⟨#[45]⟩ : ByteArray)) ++ t321) ++ (⟨#[32]⟩ : ByteArray)) ++ t322) ++ (⟨#[32, 97, 103, 97, 105, 110]⟩ : ByteArray))) else (none)) else (some ((((((t319 ++ (⟨#[45]⟩ : ByteArray)) ++ t320) ++ (⟨#[45]⟩ : ByteArray)) ++ t321) ++ (⟨#[32]⟩ : ByteArray)) ++ t322))) else (none))) else (none)) else (none))) else (none)) else (none))) else (none)))
def spec_FormatRules.f (k : Nat) (a0_0 : Int) (a0_1 : Int) (a0_2 : Int) (l0_3 : List Int) (a0_4 : Bool) : Option (ByteArray) := (spec_RulesOk.f k a0_0 a0_1 a0_2 l0_3 a0_4).bind fun t310 => (if t310 = true then (spec_FormatRules.l0 k (([] : List ByteArray)) l0_3 (l0_3.length : Int) 0 a0_0 a0_1 a0_2 l0_3 a0_4) else (some (⟨#[]⟩ : ByteArray)))
end Go.Proofs.YtibmeomlokigjaaDoor.Q
namespace Go.Proofs.YtibmeomlokigjaaDoor.Q
open Go.RowKit Go.Proofs.YtibmeomlokigjaaDoorW.PrintWords Go.Proofs.YtibmeomlokigjaaDoorW.PrintLast Go.Proofs.YtibmeomlokigjaaDoorW.PrintMore
attribute [local go_sem] max2_int min2_int max_two min_two max_three min_three max_four min_four
set_option linter.unusedVariables false
set_option linter.unusedSimpArgs false
def impl_keyNames.f  : Option (List ByteArray) := some (([(⟨#[112, 111, 105, 110, 116, 115]⟩ : ByteArray), (⟨#[100, 105, 102, 102, 101, 114, 101, 110, 99, 101]⟩ : ByteArray), (⟨#[115, 99, 111, 114, 101, 100]⟩ : ByteArray), (⟨#[119, 105, 110, 115]⟩ : ByteArray), (⟨#[109, 117, 116, 117, 97, 108]⟩ : ByteArray), (⟨#[109, 117, 116, 117, 97, 108, 100, 105, 102, 102, 101, 114, 101, 110, 99, 101]⟩ : ByteArray), (⟨#[102, 97, 105, 114]⟩ : ByteArray), (⟨#[115, 101, 101, 100]⟩ : ByteArray)] : List ByteArray))
end Go.Proofs.YtibmeomlokigjaaDoor.Q
namespace Go.Proofs.YtibmeomlokigjaaDoor.Q
open Go.RowKit Go.Proofs.YtibmeomlokigjaaDoorW.PrintWords Go.Proofs.YtibmeomlokigjaaDoorW.PrintLast Go.Proofs.YtibmeomlokigjaaDoorW.PrintMore
attribute [local go_sem] max2_int min2_int max_two min_two max_three min_three max_four min_four
set_option linter.unusedVariables false
set_option linter.unusedSimpArgs false
def impl_isKey.f (a0 : Int) : Option (Bool) := (impl_within.f a0 1 8).bind fun t334 => (some t334)
end Go.Proofs.YtibmeomlokigjaaDoor.Q
namespace Go.Proofs.YtibmeomlokigjaaDoor.Q
open Go.RowKit Go.Proofs.YtibmeomlokigjaaDoorW.PrintWords Go.Proofs.YtibmeomlokigjaaDoorW.PrintLast Go.Proofs.YtibmeomlokigjaaDoorW.PrintMore
attribute [local go_sem] max2_int min2_int max_two min_two max_three min_three max_four min_four
set_option linter.unusedVariables false
set_option linter.unusedSimpArgs false
def impl_KeyName.f (a0 : Int) : Option (ByteArray) := (impl_isKey.f a0).bind fun t346 => (if t346 = true then ((impl_keyNames.f).bind fun t347 => (if 0 ≤ (wrap64 (a0 - 1)) then (if (wrap64 (a0 - 1)) < (t347.length : Int) then (some (rdOf ByteArray.empty t347 (wrap64 (a0 - 1)))) else (none)) else (none))) else (some (⟨#[]⟩ : ByteArray)))
end Go.Proofs.YtibmeomlokigjaaDoor.Q
namespace Go.Proofs.YtibmeomlokigjaaDoor.Q
open Go.RowKit Go.Proofs.YtibmeomlokigjaaDoorW.PrintWords Go.Proofs.YtibmeomlokigjaaDoorW.PrintLast Go.Proofs.YtibmeomlokigjaaDoorW.PrintMore
attribute [local go_sem] max2_int min2_int max_two min_two max_three min_three max_four min_four
set_option linter.unusedVariables false
set_option linter.unusedSimpArgs false
def slices_Contains_int_int.f (k : Nat) (l0 : List Int) (a1 : Int) : Option (Bool) := (slices_Index_int_int.f k l0 a1).bind fun t336 => (some (decide (t336 ≥ 0)))
end Go.Proofs.YtibmeomlokigjaaDoor.Q
namespace Go.Proofs.YtibmeomlokigjaaDoor.Q
open Go.RowKit Go.Proofs.YtibmeomlokigjaaDoorW.PrintWords Go.Proofs.YtibmeomlokigjaaDoorW.PrintLast Go.Proofs.YtibmeomlokigjaaDoorW.PrintMore
attribute [local go_sem] max2_int min2_int max_two min_two max_three min_three max_four min_four
set_option linter.unusedVariables false
set_option linter.unusedSimpArgs false
def impl_RulesOk.l0 : Nat → List Int → Int → Int → Int → Int → Int → List Int → Bool → Option (Bool)
  | 0, _, _, _, _, _, _, _, _ => none
  | k + 1, x6, x7, x8, x338000, x338001, x338002, x338003, x338004 => if x8 < x7 then (if 0 ≤ x8 then (if x8 < (x6.length : Int) then ((impl_isKey.f (rd x6 x8)).bind fun t340 => (if t340 = true then (if x8 ≤ (x338003.length : Int) then ((slices_Contains_int_int.f k (x338003.take (x8 : Int).toNat) (rd x6 x8)).bind fun t342 => (if t342 = true then (some false) else (impl_RulesOk.l0 k x6 x7 (wrap64 (x8 + 1)) x338000 x338001 x338002 x338003 x338004))) else (none)) else (some false))) else (none)) else (none)) else (if 0 ≤ x338002 then (if x338002 ≤ x338001 then (if x338001 ≤ x338000 then (if x338000 ≤ 10 then ((impl_within.f (x338003.length : Int) 1 8).bind fun t338 => (some t338)) else (some false)) else (some false)) else (some false)) else (some false))
def impl_RulesOk.f (k : Nat) (a0_0 : Int) (a0_1 : Int) (a0_2 : Int) (l0_3 : List Int) (a0_4 : Bool) : Option (Bool) := impl_RulesOk.l0 k l0_3 (l0_3.length : Int) 0 a0_0 a0_1 a0_2 l0_3 a0_4
end Go.Proofs.YtibmeomlokigjaaDoor.Q
namespace Go.Proofs.YtibmeomlokigjaaDoor.Q
open Go.RowKit Go.Proofs.YtibmeomlokigjaaDoorW.PrintWords Go.Proofs.YtibmeomlokigjaaDoorW.PrintLast Go.Proofs.YtibmeomlokigjaaDoorW.PrintMore
attribute [local go_sem] max2_int min2_int max_two min_two max_three min_three max_four min_four
set_option linter.unusedVariables false
set_option linter.unusedSimpArgs false
def impl_FormatRules.l0 : Nat → List ByteArray → List Int → Int → Int → Int → Int → Int → List Int → Bool → Option (ByteArray)
  | 0, _, _, _, _, _, _, _, _, _ => none
  | k + 1, x3, x12, x13, x14, x352000, x352001, x352002, x352003, x352004 => if x14 < x13 then (if 0 ≤ x14 then (if x14 < (x12.length : Int) then ((impl_KeyName.f (rd x12 x14)).bind fun t357 => (if x3.length < 8796093022208 then (impl_FormatRules.l0 k (x3 ++ [t357]) x12 x13 (wrap64 (x14 + 1)) x352000 x352001 x352002 x352003 x352004) else (none))) else (none)) else (none)) else ((impl_texts.f k (([x352000, x352001, x352002] : List Int))).bind fun t364 => ((impl_Join.f t364 (⟨#[45]⟩ : ByteArray)).bind fun t367 => (if t367.size + 1 ≤ 9223372036854775807 then ((impl_Join.f x3 (⟨#[62]⟩ : ByteArray)).bind fun t368 => (if (t367 ++ (⟨#[32]⟩ : ByteArray)).size + t368.size ≤ 9223372036854775807 then (if x352004 = true then (if ((t367 ++ (⟨#[32]⟩ : ByteArray)) ++ t368).size + 6 ≤ 9223372036854775807 then (some (((t367 ++ (⟨#[32]⟩ : ByteArray)) ++ t368) ++ (⟨#[32, 97, 103, 97, 105, 110]⟩ : ByteArray))) else (none)) else (some ((t367 ++ (⟨#[32]⟩ : ByteArray)) ++ t368))) else (none))) else (none))))
def impl_FormatRules.f (k : Nat) (a0_0 : Int) (a0_1 : Int) (a0_2 : Int) (l0_3 : List Int) (a0_4 : Bool) : Option (ByteArray) := (impl_RulesOk.f k a0_0 a0_1 a0_2 l0_3 a0_4).bind fun t352 => (if t352 = true then (impl_FormatRules.l0 k (([] : List ByteArray)) l0_3 (l0_3.length : Int) 0 a0_0 a0_1 a0_2 l0_3 a0_4) else (some (⟨#[]⟩ : ByteArray)))
end Go.Proofs.YtibmeomlokigjaaDoor.Q
namespace Go.Proofs.YtibmeomlokigjaaDoor.Q
open Go.RowKit Go.Proofs.YtibmeomlokigjaaDoorW.PrintWords Go.Proofs.YtibmeomlokigjaaDoorW.PrintLast Go.Proofs.YtibmeomlokigjaaDoorW.PrintMore
attribute [local go_sem] max2_int min2_int max_two min_two max_three min_three max_four min_four
set_option linter.unusedVariables false
set_option linter.unusedSimpArgs false
def laws_toIntS.l0 : Nat → List Int → List Int → Int → Option (List Int)
  | 0, _, _, _ => none
  | k + 1, x0, x3, x4 => if x4 < (x0.length : Int) then (if 0 ≤ x4 then (if x4 < (x3.length : Int) then (laws_toIntS.l0 k x0 (x3.set (x4 : Int).toNat (rd x0 x4)) (wrap64 (x4 + 1))) else (none)) else (none)) else (some x3)
def laws_toIntS.f (k : Nat) (l0 : List Int) : Option (List Int) := if 0 ≤ (l0.length : Int) then (if ((l0.length : Int) : Int).toNat ≤ 35184372088832 then (laws_toIntS.l0 k l0 (List.replicate ((l0.length : Int) : Int).toNat 0) 0) else (none)) else (none)
end Go.Proofs.YtibmeomlokigjaaDoor.Q
namespace Go.Proofs.YtibmeomlokigjaaDoor.Q
open Go.RowKit Go.Proofs.YtibmeomlokigjaaDoorW.PrintWords Go.Proofs.YtibmeomlokigjaaDoorW.PrintLast Go.Proofs.YtibmeomlokigjaaDoorW.PrintMore
def mk (l : List UInt8) : ByteArray := ⟨l.toArray⟩
theorem mk_append (a b : List UInt8) : mk a ++ mk b = mk (a ++ b) := by
  apply ByteArray.ext
  simp [mk]
theorem mk_size (l : List UInt8) : (mk l).size = l.length := by simp [mk, ByteArray.size]
theorem mk_self (s : ByteArray) : mk s.data.toList = s := rfl
def dec (n : Int) : ByteArray := mk (Lib.decDigits n.toNat)
theorem dec_size (n : Int) (h0 : 0 ≤ n) (h1 : n < 100) : (dec n).size ≤ 2 := by
  unfold dec
  rw [mk_size]
  by_cases h : n.toNat < 10
  · rw [Lib.decDigits_one h]; simp
  · rw [Lib.decDigits_two h (by omega)]; simp
theorem wrap_id (x : Int) (h0 : -9223372036854775808 ≤ x) (h1 : x ≤ 9223372036854775807) : wrap64 x = x := by unfold wrap64; omega
theorem implFormatInt (n : Int) (h0 : 0 ≤ n) (h1 : n < 100) : impl_FormatInt.f n = some (dec n) := by
  unfold impl_FormatInt.f strconv_Itoa.f
  rw [if_pos ⟨h0, h1⟩]
  rfl
theorem rd_nat (l : List Int) (i : Nat) (h : i < l.length) : rd l (i : Int) = l[i] := by
  simp [rd, h]
theorem texts_l0 (l : List Int) (hl : l.length ≤ 1000000) (hr : ∀ x ∈ l, 0 ≤ x ∧ x < 100) (k : Nat) : ∀ (m i : Nat) (acc : List ByteArray), i + m = l.length → acc.length = i → impl_texts.l0 (k + m + 1) acc l (l.length : Int) (i : Int) = some (acc ++ (l.drop i).map dec) := by
  intro m
  induction m with
  | zero =>
    intro i acc hi ha
    rw [impl_texts.l0, if_neg (by omega), List.drop_eq_nil_of_le (by omega)]
    simp
  | succ m ih =>
    intro i acc hi ha
    have hlt : i < l.length := by omega
    rw [show k + (m + 1) + 1 = (k + m + 1) + 1 by omega, impl_texts.l0, if_pos (by omega), if_pos (by omega), if_pos (by omega), rd_nat l i hlt]
    obtain ⟨r0, r1⟩ := hr l[i] (List.getElem_mem hlt)
    rw [implFormatInt _ r0 r1, Option.bind_some, if_pos (by omega), wrap_id _ (by omega) (by omega)]
    have := ih (i + 1) (acc ++ [dec l[i]]) (by omega) (by simp [ha])
    rw [show ((i : Int) + 1) = ((i + 1 : Nat) : Int) by omega, this, List.drop_eq_getElem_cons hlt, List.map_cons, List.append_assoc]
    rfl
theorem texts_eq (l : List Int) (hl : l.length ≤ 1000000) (hr : ∀ x ∈ l, 0 ≤ x ∧ x < 100) (k : Nat) : impl_texts.f (k + l.length + 1) l = some (l.map dec) := by
  unfold impl_texts.f
  have := texts_l0 l hl hr k l.length 0 [] (by omega) rfl
  simpa using this
def joinB (l : List ByteArray) (s : ByteArray) : ByteArray := mk (Lib.join (l.map (·.data.toList)) s.data.toList)
theorem join_eq (l : List ByteArray) (s : ByteArray) (h1 : l.length ≤ 1000000) (h2 : (joinB l s).size ≤ 140737488355328) : impl_Join.f l s = some (joinB l s) := by
  unfold joinB at h2
  rw [mk_size] at h2
  unfold impl_Join.f strings_Join.f
  rw [if_pos ⟨by omega, h2⟩]
  rfl
def withinT (n low high : Int) : Bool := decide (low ≤ n) && decide (n ≤ high)
theorem within_eq (n low high : Int) : impl_within.f n low high = some (withinT n low high) := by
  unfold impl_within.f withinT
  split <;> simp_all <;> omega
theorem l01In_eq (n low high : Int) : spec_l01In.f n low high = some (withinT n low high) := by
  unfold spec_l01In.f withinT
  split <;> simp_all <;> omega
end Go.Proofs.YtibmeomlokigjaaDoor.Q
namespace Go.Proofs.YtibmeomlokigjaaDoor.Q
open Go.RowKit Go.Proofs.YtibmeomlokigjaaDoorW.PrintWords Go.Proofs.YtibmeomlokigjaaDoorW.PrintLast Go.Proofs.YtibmeomlokigjaaDoorW.PrintMore
theorem wrap_succ (i : Nat) (h : i < 4611686018427387904) : wrap64 ((i : Int) + 1) = ((i + 1 : Nat) : Int) := by unfold wrap64; omega
end Go.Proofs.YtibmeomlokigjaaDoor.Q
namespace Go.Proofs.YtibmeomlokigjaaDoor.Q
open Go.RowKit Go.Proofs.YtibmeomlokigjaaDoorW.PrintWords Go.Proofs.YtibmeomlokigjaaDoorW.PrintLast Go.Proofs.YtibmeomlokigjaaDoorW.PrintMore
def jtail (s : ByteArray) : List ByteArray → ByteArray
  | [] => mk []
  | y :: r => s ++ y ++ jtail s r
theorem mk_joinTail (s : ByteArray) (r : List ByteArray) : mk (Lib.joinTail s.data.toList (r.map (·.data.toList))) = jtail s r := by
  induction r with
  | nil => rfl
  | cons y r ih =>
    rw [jtail, ← ih]
    simp [Lib.joinTail, ← mk_append, mk_self, ByteArray.append_assoc]
theorem joinB_cons (x s : ByteArray) (r : List ByteArray) : joinB (x :: r) s = x ++ jtail s r := by
  unfold joinB
  rw [List.map_cons, Lib.join_cons, ← mk_append, mk_self, mk_joinTail]
theorem joinB_nil (s : ByteArray) : joinB [] s = mk [] := rfl
theorem jtail_size (s : ByteArray) (c : Nat) (r : List ByteArray) (h : ∀ x ∈ r, x.size ≤ c) : (jtail s r).size ≤ r.length * (s.size + c) := by
  induction r with
  | nil => simp [jtail, mk_size]
  | cons y r ih =>
    have h1 := ih (fun x hx => h x (List.mem_cons_of_mem _ hx))
    have h2 := h y List.mem_cons_self
    simp only [jtail, ByteArray.size_append, List.length_cons, Nat.succ_mul]
    omega
theorem joinB_size (s : ByteArray) (c : Nat) (r : List ByteArray) (h : ∀ x ∈ r, x.size ≤ c) : (joinB r s).size ≤ r.length * (s.size + c) := by
  cases r with
  | nil => simp [joinB_nil, mk_size]
  | cons y r =>
    have h1 := jtail_size s c r (fun x hx => h x (List.mem_cons_of_mem _ hx))
    have h2 := h y List.mem_cons_self
    rw [joinB_cons]
    simp only [ByteArray.size_append, List.length_cons, Nat.succ_mul]
    omega
end Go.Proofs.YtibmeomlokigjaaDoor.Q
namespace Go.Proofs.YtibmeomlokigjaaDoor.Q
open Go.RowKit Go.Proofs.YtibmeomlokigjaaDoorW.PrintWords Go.Proofs.YtibmeomlokigjaaDoorW.PrintLast Go.Proofs.YtibmeomlokigjaaDoorW.PrintMore
theorem one_size2 (c : UInt8) : (⟨#[c]⟩ : ByteArray).size = 1 := rfl
end Go.Proofs.YtibmeomlokigjaaDoor.Q
namespace Go.Proofs.YtibmeomlokigjaaDoor.Q
open Go.RowKit Go.Proofs.YtibmeomlokigjaaDoorW.PrintWords Go.Proofs.YtibmeomlokigjaaDoorW.PrintLast Go.Proofs.YtibmeomlokigjaaDoorW.PrintMore
theorem implBracket2 (k : Nat) : impl_BracketOf.f (k + 30) 2 = some [1, 2] := by kernel_rfl
theorem implBracket4 (k : Nat) : impl_BracketOf.f (k + 30) 4 = some [1, 4, 3, 2] := by kernel_rfl
theorem implBracket8 (k : Nat) : impl_BracketOf.f (k + 30) 8 = some [1, 8, 5, 4, 3, 6, 7, 2] := by kernel_rfl
def oppT (n : Int) (l : List Int) (i : Nat) : Int × Int :=
  if n = 2 then (1, 2)
  else if n = 4 then (if i = 0 then (1, 4) else if i = 1 then (3, 2) else (l.getD 0 0, l.getD 1 0))
  else (if i = 0 then (1, 8) else if i = 1 then (5, 4) else if i = 2 then (3, 6) else if i = 3 then (7, 2) else if i = 4 then (l.getD 0 0, l.getD 1 0) else if i = 5 then (l.getD 2 0, l.getD 3 0) else (l.getD 4 0, l.getD 5 0))
def sizeT (n : Int) : Bool := n == 2 || n == 4 || n == 8
theorem implSize (n : Int) : impl_CupSizeOk.f n = some (sizeT n) := by
  unfold impl_CupSizeOk.f sizeT
  by_cases h1 : n = 2 <;> by_cases h2 : n = 4 <;> by_cases h3 : n = 8 <;> simp_all
theorem specSize (n : Int) : spec_CupSizeOk.f n = some (sizeT n) := by
  unfold spec_CupSizeOk.f sizeT
  by_cases h1 : n = 2 <;> by_cases h2 : n = 4 <;> by_cases h3 : n = 8 <;> simp_all
theorem rd_getD (l : List Int) (i : Nat) : rd l (i : Int) = l.getD i 0 := by simp [rd]
theorem late (k : Nat) (n : Int) (l : List Int) (i a b c : Nat) (hi : i ≤ l.length) (_hl : l.length ≤ 1048576) (hc : c / 2 + b ≤ 7) (hb : b ≤ i) (h1 : i < b + c / 2) (h2 : a + 2 * (i - b) + 1 < i) (hi2 : i ≤ 6) : impl_OpponentsOf.l0 (k + 1) (i : Int) (a : Int) (b : Int) (c : Int) n l = some (l.getD (a + 2 * (i - b)) 0, l.getD (a + 2 * (i - b) + 1) 0, true) := by
  have e1 : Int.tdiv (c : Int) 2 = ((c / 2 : Nat) : Int) := by rw [Int.tdiv_eq_ediv_of_nonneg (by omega)]; omega
  rw [impl_OpponentsOf.l0, e1]
  rw [wrap_id ((c / 2 : Nat) : Int) (by omega) (by omega), wrap_id ((b : Int) + ((c / 2 : Nat) : Int)) (by omega) (by omega), if_neg (by omega)]
  rw [wrap_id ((i : Int) - b) (by omega) (by omega), wrap_id (2 * ((i : Int) - b)) (by omega) (by omega), wrap_id ((a : Int) + 2 * ((i : Int) - b)) (by omega) (by omega), wrap_id ((a : Int) + 2 * ((i : Int) - b) + 1) (by omega) (by omega)]
  rw [if_neg (by omega), if_pos (by omega), if_pos (by omega), if_pos (by omega), if_pos (by omega)]
  rw [show (a : Int) + 2 * ((i : Int) - b) = ((a + 2 * (i - b) : Nat) : Int) by omega, show ((a + 2 * (i - b) : Nat) : Int) + 1 = ((a + 2 * (i - b) + 1 : Nat) : Int) by omega, rd_getD, rd_getD]
theorem specOpp2 (k : Nat) (l : List Int) (i : Nat) (hi : i < l.length) (h : i < 1) : spec_l14Teams.f (k + 60) 2 (l.take i) i = some ((oppT 2 l i).1, (oppT 2 l i).2, true) := by
  obtain rfl : i = 0 := by omega
  kernel_rfl
theorem specOpp4 (k : Nat) (l : List Int) (i : Nat) (hi : i < l.length) (h : i < 3) : spec_l14Teams.f (k + 60) 4 (l.take i) i = some ((oppT 4 l i).1, (oppT 4 l i).2, true) := by
  rcases i with _ | _ | _ | i
  · kernel_rfl
  · rcases l with _ | ⟨a0, l⟩
    · simp at hi
    · kernel_rfl
  · rcases l with _ | ⟨a0, _ | ⟨a1, l⟩⟩
    · simp at hi
    · simp at hi
    · kernel_rfl
  · omega
theorem specOpp8 (k : Nat) (l : List Int) (i : Nat) (hi : i < l.length) (h : i < 7) : spec_l14Teams.f (k + 60) 8 (l.take i) i = some ((oppT 8 l i).1, (oppT 8 l i).2, true) := by
  rcases i with _ | _ | _ | _ | _ | _ | _ | i
  · kernel_rfl
  · rcases l with _ | ⟨a0, l⟩
    · simp at hi
    · kernel_rfl
  · rcases l with _ | ⟨a0, _ | ⟨a1, l⟩⟩
    · simp at hi
    · simp at hi
    · kernel_rfl
  · rcases l with _ | ⟨a0, _ | ⟨a1, _ | ⟨a2, l⟩⟩⟩
    · simp at hi
    · simp at hi
    · simp at hi
    · kernel_rfl
  · rcases l with _ | ⟨a0, _ | ⟨a1, _ | ⟨a2, _ | ⟨a3, l⟩⟩⟩⟩
    · simp at hi
    · simp at hi
    · simp at hi
    · simp at hi
    · kernel_rfl
  · rcases l with _ | ⟨a0, _ | ⟨a1, _ | ⟨a2, _ | ⟨a3, _ | ⟨a4, l⟩⟩⟩⟩⟩
    · simp at hi
    · simp at hi
    · simp at hi
    · simp at hi
    · simp at hi
    · kernel_rfl
  · rcases l with _ | ⟨a0, _ | ⟨a1, _ | ⟨a2, _ | ⟨a3, _ | ⟨a4, _ | ⟨a5, l⟩⟩⟩⟩⟩⟩
    · simp at hi
    · simp at hi
    · simp at hi
    · simp at hi
    · simp at hi
    · simp at hi
    · kernel_rfl
  · omega
theorem implOpp2 (k : Nat) (l : List Int) (i : Nat) (_hi : i ≤ l.length) (_hl : l.length ≤ 1048576) (h : i < 1) : impl_OpponentsOf.f (k + 60) 2 l i = some ((oppT 2 l i).1, (oppT 2 l i).2, true) := by
  obtain rfl : i = 0 := by omega
  kernel_rfl
theorem implOpp4 (k : Nat) (l : List Int) (i : Nat) (hi : i ≤ l.length) (hl : l.length ≤ 1048576) (h : i < 3) : impl_OpponentsOf.f (k + 60) 4 l i = some ((oppT 4 l i).1, (oppT 4 l i).2, true) := by
  rcases i with _ | _ | _ | i
  · kernel_rfl
  · kernel_rfl
  · have e : impl_OpponentsOf.f (k + 60) 4 l ((2 : Nat) : Int) = impl_OpponentsOf.l0 (k + 59) ((2 : Nat) : Int) ((0 : Nat) : Int) ((2 : Nat) : Int) ((2 : Nat) : Int) 4 l := by kernel_rfl
    exact e.trans (late (k + 58) 4 l 2 0 2 2 hi hl (by decide) (by decide) (by decide) (by decide) (by decide))
  · omega
theorem implOpp8 (k : Nat) (l : List Int) (i : Nat) (hi : i ≤ l.length) (hl : l.length ≤ 1048576) (h : i < 7) : impl_OpponentsOf.f (k + 60) 8 l i = some ((oppT 8 l i).1, (oppT 8 l i).2, true) := by
  rcases i with _ | _ | _ | _ | _ | _ | _ | i
  · kernel_rfl
  · kernel_rfl
  · kernel_rfl
  · kernel_rfl
  · have e : impl_OpponentsOf.f (k + 60) 8 l ((4 : Nat) : Int) = impl_OpponentsOf.l0 (k + 59) ((4 : Nat) : Int) ((0 : Nat) : Int) ((4 : Nat) : Int) ((4 : Nat) : Int) 8 l := by kernel_rfl
    exact e.trans (late (k + 58) 8 l 4 0 4 4 hi hl (by decide) (by decide) (by decide) (by decide) (by decide))
  · have e : impl_OpponentsOf.f (k + 60) 8 l ((5 : Nat) : Int) = impl_OpponentsOf.l0 (k + 59) ((5 : Nat) : Int) ((0 : Nat) : Int) ((4 : Nat) : Int) ((4 : Nat) : Int) 8 l := by kernel_rfl
    exact e.trans (late (k + 58) 8 l 5 0 4 4 hi hl (by decide) (by decide) (by decide) (by decide) (by decide))
  · have e : impl_OpponentsOf.f (k + 60) 8 l ((6 : Nat) : Int) = impl_OpponentsOf.l0 (k + 58) ((6 : Nat) : Int) ((4 : Nat) : Int) ((6 : Nat) : Int) ((2 : Nat) : Int) 8 l := by kernel_rfl
    exact e.trans (late (k + 57) 8 l 6 4 6 2 hi hl (by decide) (by decide) (by decide) (by decide) (by decide))
  · omega
theorem size_cases {n : Int} (h : sizeT n = true) : n = 2 ∨ n = 4 ∨ n = 8 := by
  simp only [sizeT, Bool.or_eq_true, beq_iff_eq] at h
  omega
theorem specOpp (k : Nat) (n : Int) (h : sizeT n = true) (l : List Int) (i : Nat) (hi : i < l.length) (hn : (i : Int) < n - 1) : spec_l14Teams.f (k + 60) n (l.take i) i = some ((oppT n l i).1, (oppT n l i).2, true) := by
  rcases size_cases h with rfl | rfl | rfl
  · exact specOpp2 k l i hi (by omega)
  · exact specOpp4 k l i hi (by omega)
  · exact specOpp8 k l i hi (by omega)
theorem implOpp (k : Nat) (n : Int) (h : sizeT n = true) (l : List Int) (i : Nat) (hi : i ≤ l.length) (hl : l.length ≤ 1048576) (hn : (i : Int) < n - 1) : impl_OpponentsOf.f (k + 60) n l i = some ((oppT n l i).1, (oppT n l i).2, true) := by
  rcases size_cases h with rfl | rfl | rfl
  · exact implOpp2 k l i hi hl (by omega)
  · exact implOpp4 k l i hi hl (by omega)
  · exact implOpp8 k l i hi hl (by omega)
theorem implOppOut (k : Nat) (n : Int) (l : List Int) (i : Int) (h : sizeT n = false ∨ withinT i 0 (wrap64 (n - 2)) = false) : impl_OpponentsOf.f (k + 1) n l i = some (0, 0, false) := by
  unfold impl_OpponentsOf.f
  rw [implSize, Option.bind_some]
  by_cases hs : sizeT n = true
  · rcases h with h | h
    · rw [h] at hs; cases hs
    · rw [if_pos hs, within_eq, Option.bind_some, h, impl_OpponentsOf.j0]; rfl
  · rw [if_neg hs, impl_OpponentsOf.j0]; rfl
def cupFrom (n : Int) (l : List Int) : Nat → Nat → Bool
  | 0, _ => true
  | d + 1, i => decide ((i : Int) < n - 1) && ((l.getD i 0 == (oppT n l i).1) || (l.getD i 0 == (oppT n l i).2)) && cupFrom n l d (i + 1)
def cupT (n : Int) (l : List Int) : Bool := sizeT n && cupFrom n l l.length 0
theorem cupFrom_le {n : Int} {l : List Int} : ∀ (d i : Nat), cupFrom n l d i = true → d = 0 ∨ ((i + d : Nat) : Int) ≤ n - 1 := by
  intro d
  induction d with
  | zero => intro i _; exact .inl rfl
  | succ d ih =>
    intro i h
    simp only [cupFrom, Bool.and_eq_true, decide_eq_true_eq] at h
    rcases ih (i + 1) h.2 with h2 | h2
    · omega
    · omega
theorem implCupOk (n : Int) (l : List Int) (hl : l.length ≤ 1048576) (k : Nat) : impl_CupOk.f (k + l.length + 62) n l = some (cupT n l) := by
  have key : ∀ (d i : Nat), i + d = l.length → impl_CupOk.l0 (k + d + 62) l (l.length : Int) (i : Int) n l = some (sizeT n && cupFrom n l d i) := by
    intro d
    induction d with
    | zero =>
      intro i hi
      rw [show k + 0 + 62 = (k + 61) + 1 by omega, impl_CupOk.l0, if_neg (by omega), implSize]
      simp [cupFrom]
    | succ d ih =>
      intro i hi
      have h2 := ih (i + 1) (by omega)
      rw [show k + (d + 1) + 62 = (k + d + 62) + 1 by omega, impl_CupOk.l0, if_pos (by omega), if_pos (by omega), if_pos (by omega), wrap_succ i (by omega), h2, rd_getD]
      by_cases hs : sizeT n = true
      · by_cases hn : (i : Int) < n - 1
        · rw [show k + d + 62 = (k + d + 2) + 60 by omega, implOpp _ n hs l i (by omega) hl hn]
          simp only [Option.bind_some, cupFrom, if_true, hs, Bool.true_and, decide_eq_true hn]
          by_cases e1 : l.getD i 0 = (oppT n l i).1
          · rw [if_pos e1, beq_iff_eq.mpr e1]; simp
          · rw [if_neg e1, beq_eq_false_iff_ne.mpr e1]
            by_cases e2 : l.getD i 0 = (oppT n l i).2
            · rw [if_pos e2, beq_iff_eq.mpr e2]; simp
            · rw [if_neg e2, beq_eq_false_iff_ne.mpr e2]; simp
        · rw [show k + d + 62 = (k + d + 61) + 1 by omega, implOppOut _ n l i (.inr (by
            rcases size_cases hs with rfl | rfl | rfl <;> rw [wrap_id _ (by decide) (by decide)] <;> simp only [withinT] <;> rw [decide_eq_false (show ¬ (i : Int) ≤ _ by omega), Bool.and_false]))]
          simp [cupFrom, hn]
      · rw [show k + d + 62 = (k + d + 61) + 1 by omega, implOppOut _ n l i (.inl (by simpa using hs))]
        simp [hs]
  unfold impl_CupOk.f cupT
  have := key l.length 0 (by omega)
  exact this
end Go.Proofs.YtibmeomlokigjaaDoor.Q
namespace Go.Proofs.YtibmeomlokigjaaDoor.Q
open Go.RowKit Go.Proofs.YtibmeomlokigjaaDoorW.PrintWords Go.Proofs.YtibmeomlokigjaaDoorW.PrintLast Go.Proofs.YtibmeomlokigjaaDoorW.PrintMore
theorem cupFrom_get {n : Int} {l : List Int} : ∀ (d i : Nat), cupFrom n l d i = true → ∀ j, i ≤ j → j < i + d → (j : Int) < n - 1 ∧ (l.getD j 0 = (oppT n l j).1 ∨ l.getD j 0 = (oppT n l j).2) := by
  intro d
  induction d with
  | zero => intro i _ j h1 h2; omega
  | succ d ih =>
    intro i h j h1 h2
    simp only [cupFrom, Bool.and_eq_true, Bool.or_eq_true, decide_eq_true_eq, beq_iff_eq] at h
    by_cases e : j = i
    · subst e; exact h.1
    · exact ih (i + 1) h.2 j (by omega) (by omega)
theorem opp_range {n : Int} {l : List Int} {i : Nat} (hs : sizeT n = true) (hi : (i : Int) < n - 1) (h : ∀ j, j < i → 1 ≤ l.getD j 0 ∧ l.getD j 0 ≤ 8) : (1 ≤ (oppT n l i).1 ∧ (oppT n l i).1 ≤ 8) ∧ 1 ≤ (oppT n l i).2 ∧ (oppT n l i).2 ≤ 8 := by
  rcases size_cases hs with rfl | rfl | rfl
  · simp [oppT]
  · rcases i with _ | _ | _ | i
    · simp [oppT]
    · simp [oppT]
    · exact ⟨h 0 (by omega), h 1 (by omega)⟩
    · omega
  · rcases i with _ | _ | _ | _ | _ | _ | _ | i
    · simp [oppT]
    · simp [oppT]
    · simp [oppT]
    · simp [oppT]
    · exact ⟨h 0 (by omega), h 1 (by omega)⟩
    · exact ⟨h 2 (by omega), h 3 (by omega)⟩
    · exact ⟨h 4 (by omega), h 5 (by omega)⟩
    · omega
theorem winners_range {n : Int} {l : List Int} (h : cupT n l = true) : ∀ j, j < l.length → 1 ≤ l.getD j 0 ∧ l.getD j 0 ≤ 8 := by
  simp only [cupT, Bool.and_eq_true] at h
  intro j
  induction j using Nat.strongRecOn with
  | _ j ih =>
    intro hj
    obtain ⟨h1, h2⟩ := cupFrom_get _ _ h.2 j (by omega) (by omega)
    obtain ⟨h3, h4⟩ := opp_range h.1 h1 (fun i hi => ih i hi (by omega))
    rcases h2 with h2 | h2 <;> rw [h2] <;> assumption
theorem winners_mem {n : Int} {l : List Int} (h : cupT n l = true) : ∀ x ∈ l, 0 ≤ x ∧ x < 100 := by
  intro x hx
  obtain ⟨j, hj, rfl⟩ := List.mem_iff_getElem.mp hx
  have := winners_range h j hj
  rw [List.getD_eq_getElem?_getD, List.getElem?_eq_getElem hj] at this
  simp only [Option.getD_some] at this
  omega
def championT (n : Int) (l : List Int) : Int := if cupT n l = true ∧ (l.length : Int) = n - 1 then l.getD (l.length - 1) 0 else 0
theorem sub_wrap {n : Int} {l : List Int} (h : cupT n l = true) : wrap64 (n - 1) = n - 1 ∧ wrap64 (n - 2) = n - 2 ∧ 2 ≤ n := by
  simp only [cupT, Bool.and_eq_true] at h
  rcases size_cases h.1 with rfl | rfl | rfl <;> exact ⟨wrap_id _ (by decide) (by decide), wrap_id _ (by decide) (by decide), by decide⟩
theorem implChampion (n : Int) (l : List Int) (hl : l.length ≤ 1048576) (k : Nat) : impl_ChampionOf.f (k + l.length + 62) n l = some (championT n l) := by
  unfold impl_ChampionOf.f championT
  rw [implCupOk n l hl k, Option.bind_some]
  by_cases h : cupT n l = true
  · obtain ⟨e1, e2, e3⟩ := sub_wrap h
    rw [if_pos h, e1, e2]
    by_cases hn : (l.length : Int) = n - 1
    · rw [if_pos hn, if_pos (by omega), if_pos (by omega), if_pos ⟨h, hn⟩, show n - 2 = ((l.length - 1 : Nat) : Int) by omega, rd_getD]
    · rw [if_neg hn, if_neg (fun h => hn h.2)]
  · rw [if_neg h, if_neg (fun h2 => h h2.1)]
theorem champion_range (n : Int) (l : List Int) : 0 ≤ championT n l ∧ championT n l < 100 := by
  unfold championT
  split
  · rename_i h
    obtain ⟨_, _, e3⟩ := sub_wrap h.1
    have := winners_range h.1 (l.length - 1) (by omega)
    omega
  · omega
theorem dec_mem_size {l : List Int} (hr : ∀ x ∈ l, 0 ≤ x ∧ x < 100) : ∀ x ∈ l.map dec, x.size ≤ 8 := by
  intro x hx
  obtain ⟨y, hy, rfl⟩ := List.mem_map.mp hx
  have := dec_size y (hr y hy).1 (hr y hy).2
  omega
end Go.Proofs.YtibmeomlokigjaaDoor.Q
