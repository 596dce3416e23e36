/- A part of the proof of FnExactFormatNote: functions of the program, as plain functions, with the proof that the machine's call does what they say; plain lemmas; and those of the words that print.sh prints which this proof uses. No condition. -/
import Derived.Test.YtibmeomlokigjaaDoorKFnExactFormatNote1
import Derived.Test.YtibmeomlokigjaaDoorProg
import Derived.Below
import Derived.Deep.Draws
import Derived.Deep.AppendLies
import Derived.Maps.AppendAt
import Derived.OwnWalk
import Derived.Laws.BytesArg
import Derived.Laws.MakeOwn
import Derived.Laws.OwnMore
import Derived.Deep.OwnRows
import Derived.Tactics
import Derived.Lib.ConvBytes
import Derived.Laws.Slices
import Derived.WalkKit
import Derived.KernelRfl
import Derived.RowKit3
import Derived.Deep.LoopGhost
import Derived.Deep.QuietTactic
import Derived.BigQuiet
import Derived.WideLaws
import Derived.Deep.DeepCutAuto
import Derived.Deep.CutBlock
import Derived.Deep.RegionHeld3
import Derived.Laws.Rows
import Derived.Lib.AppendStr
import Derived.ArgAppend
import Derived.Laws.IdiomCopy
import Derived.OrdersHeld
import Derived.Laws.BitsLemmas
import Derived.RowKit
import Derived.WalkSpells
import Derived.Shelf.Strings.Builder1
import Derived.Shelf.Strings.Builder2
import Derived.Shelf.Strings.OnBuilder
import Derived.Shelf.Strconv.Itoa0
import Derived.Shelf.Strconv.Itoa1
import Derived.Shelf.LaysM
import Derived.Shelf.Strconv.Itoa2
import Derived.Shelf.Strconv.Itoa3
import Derived.Lib.AppendIntMem
import Derived.Laws.StructEq
import Derived.Test.YtibmeomlokigjaaDoorRows
import Derived.ProofKit
import Derived.OpenShut
import Derived.ShutString
import Derived.ChangeOld
import Derived.SizedLaws
import Derived.LaidMore
import Derived.LaidHandle
import Derived.Stop.Joined
import Derived.Stop.LaidErr
import Derived.Test.YtibmeomlokigjaaDoorCards
import Derived.Test.YtibmeomlokigjaaDoorTie
import Derived.SevenTiedAt
namespace Go.Proofs.YtibmeomlokigjaaDoor.R
open Go.RowKit Go.Proofs.YtibmeomlokigjaaDoorW.PrintWords Go.Proofs.YtibmeomlokigjaaDoorW.PrintLast Go.Proofs.YtibmeomlokigjaaDoorW.PrintMore
attribute [local go_sem] max2_int min2_int max_two min_two max_three min_three max_four min_four
set_option linter.unusedVariables false
set_option linter.unusedSimpArgs false
def impl_FormatGame.f (k : Nat) (a0_0 : Int) (a0_1 : Int) (a0_2 : Int) (a0_3 : Int) (a0_4 : Int) : Option (ByteArray) := (impl_GameOk.f k 8 a0_0 a0_1 a0_2 a0_3 a0_4).bind fun t185 => (if t185 = true then ((impl_texts.f k (([a0_2, a0_3] : List Int))).bind fun t189 => ((impl_Join.f t189 (⟨#[58]⟩ : ByteArray)).bind fun t192 => ((some (([(⟨#[111, 112, 101, 110]⟩ : ByteArray), t192, (⟨#[104, 111, 109, 101]⟩ : ByteArray), (⟨#[97, 119, 97, 121]⟩ : ByteArray), (⟨#[118, 111, 105, 100]⟩ : ByteArray)] : List ByteArray) : List ByteArray)).bind fun y193 => (if 0 ≤ a0_4 then (if a0_4 < (y193.length : Int) then ((impl_texts.f k (([a0_0, a0_1] : List Int))).bind fun t200 => ((impl_Join.f t200 (⟨#[45]⟩ : ByteArray)).bind fun t203 => (if t203.size + 1 ≤ 9223372036854775807 then (if (t203 ++ (⟨#[32]⟩ : ByteArray)).size + (rdOf ByteArray.empty y193 a0_4).size ≤ 9223372036854775807 then (some ((t203 ++ (⟨#[32]⟩ : ByteArray)) ++ (rdOf ByteArray.empty y193 a0_4))) else (none)) else (none)))) else (none)) else (none))))) else (some (⟨#[]⟩ : ByteArray)))
def impl_FormatGame.T3 : Bool × List (List Nat × List Nat) := (true, [([], []), ([0], [0]), ([], []), ([2], [2]), ([1, 3], [1, 3]), ([4], [4]), ([5, 5], [5]), ([6], [6]), ([], []), ([8], [8]), ([7, 9], [7, 9]), ([10], [10]), ([11, 6, 0, 1, 2, 3, 4, 5, 6, 7, 8, 9, 10, 11], [11])])
def impl_FormatGame.B3 : List Nat := [0, 1, 0, 4, 15, 31, 63, 127, 0, 256, 1023, 2047, 4095]
theorem impl_FormatGame.tab3 : rtab .any (opsOf Tryd.f12 3) = impl_FormatGame.T3 := by kernel_rfl
theorem impl_FormatGame.bits3 : waitsOk impl_FormatGame.T3.2 impl_FormatGame.B3 = true := by kernel_rfl
set_option maxHeartbeats 8000000 in
set_option maxRecDepth 100000 in
theorem impl_FormatGame.calls (k : Nat) (a0_0 : Int) (a0_1 : Int) (a0_2 : Int) (a0_3 : Int) (a0_4 : Int) (r : ByteArray) (w : World) (h : impl_FormatGame.f k a0_0 a0_1 a0_2 a0_3 a0_4 = some r) (ht : TabW w := by first | exact Aside0.out (by assumption) | exact TabW.below (Aside0.out (by assumption)) (bb (by assumption)) | exact TabW.below (Aside0.out (by assumption)) (bb (Aside0.mk (Below.refl _ _)))) :
    Calls Tryd.prog 12 #[.agg #[.int .i64 a0_0, .int .i64 a0_1, .int .i64 a0_2, .int .i64 a0_3, .int .i64 a0_4]] w fun e w' => e = .returned (.string r) ∧ Below w.heap.size w w' := by
  have HTW := Aside0.mk ht
  clear ht
  have hu25 := Tryd.underlying25
  have HB := Aside0.mk (Below.refl w.heap.size w)
  have H : ((impl_GameOk.f k 8 a0_0 a0_1 a0_2 a0_3 a0_4).bind fun t185 => (if t185 = true then ((impl_texts.f k (([a0_2, a0_3] : List Int))).bind fun t189 => ((impl_Join.f t189 (⟨#[58]⟩ : ByteArray)).bind fun t192 => ((some (([(⟨#[111, 112, 101, 110]⟩ : ByteArray), t192, (⟨#[104, 111, 109, 101]⟩ : ByteArray), (⟨#[97, 119, 97, 121]⟩ : ByteArray), (⟨#[118, 111, 105, 100]⟩ : ByteArray)] : List ByteArray) : List ByteArray)).bind fun y193 => (if 0 ≤ a0_4 then (if a0_4 < (y193.length : Int) then ((impl_texts.f k (([a0_0, a0_1] : List Int))).bind fun t200 => ((impl_Join.f t200 (⟨#[45]⟩ : ByteArray)).bind fun t203 => (if t203.size + 1 ≤ 9223372036854775807 then (if (t203 ++ (⟨#[32]⟩ : ByteArray)).size + (rdOf ByteArray.empty y193 a0_4).size ≤ 9223372036854775807 then (some ((t203 ++ (⟨#[32]⟩ : ByteArray)) ++ (rdOf ByteArray.empty y193 a0_4))) else (none)) else (none)))) else (none)) else (none))))) else (some (⟨#[]⟩ : ByteArray)))) = some r := h
  clear h
  replace H := Option.bind_eq_some_iff.mp H
  obtain ⟨t185, A20, H⟩ := H
  replace H : (if t185 = true then ((impl_texts.f k (([a0_2, a0_3] : List Int))).bind fun t189 => ((impl_Join.f t189 (⟨#[58]⟩ : ByteArray)).bind fun t192 => ((some (([(⟨#[111, 112, 101, 110]⟩ : ByteArray), t192, (⟨#[104, 111, 109, 101]⟩ : ByteArray), (⟨#[97, 119, 97, 121]⟩ : ByteArray), (⟨#[118, 111, 105, 100]⟩ : ByteArray)] : List ByteArray) : List ByteArray)).bind fun y193 => (if 0 ≤ a0_4 then (if a0_4 < (y193.length : Int) then ((impl_texts.f k (([a0_0, a0_1] : List Int))).bind fun t200 => ((impl_Join.f t200 (⟨#[45]⟩ : ByteArray)).bind fun t203 => (if t203.size + 1 ≤ 9223372036854775807 then (if (t203 ++ (⟨#[32]⟩ : ByteArray)).size + (rdOf ByteArray.empty y193 a0_4).size ≤ 9223372036854775807 then (some ((t203 ++ (⟨#[32]⟩ : ByteArray)) ++ (rdOf ByteArray.empty y193 a0_4))) else (none)) else (none)))) else (none)) else (none))))) else (some (⟨#[]⟩ : ByteArray))) = some r := H
  have A2 := Aside0.mk A20
  clear A20
  by_cases c3 : t185 = true
  · subst c3
    have H1 : ((impl_texts.f k (([a0_2, a0_3] : List Int))).bind fun t189 => ((impl_Join.f t189 (⟨#[58]⟩ : ByteArray)).bind fun t192 => ((some (([(⟨#[111, 112, 101, 110]⟩ : ByteArray), t192, (⟨#[104, 111, 109, 101]⟩ : ByteArray), (⟨#[97, 119, 97, 121]⟩ : ByteArray), (⟨#[118, 111, 105, 100]⟩ : ByteArray)] : List ByteArray) : List ByteArray)).bind fun y193 => (if 0 ≤ a0_4 then (if a0_4 < (y193.length : Int) then ((impl_texts.f k (([a0_0, a0_1] : List Int))).bind fun t200 => ((impl_Join.f t200 (⟨#[45]⟩ : ByteArray)).bind fun t203 => (if t203.size + 1 ≤ 9223372036854775807 then (if (t203 ++ (⟨#[32]⟩ : ByteArray)).size + (rdOf ByteArray.empty y193 a0_4).size ≤ 9223372036854775807 then (some ((t203 ++ (⟨#[32]⟩ : ByteArray)) ++ (rdOf ByteArray.empty y193 a0_4))) else (none)) else (none)))) else (none)) else (none))))) = some r := by rw [if_pos rfl] at H; exact H
    clear H
    have H := H1
    clear H1
    obtain ⟨y186, hy186⟩ : ∃ y_ : List Int, y_ = (([a0_2, a0_3] : List Int)) := ⟨_, rfl⟩
    replace H : ((impl_texts.f k y186).bind fun t189 => ((impl_Join.f t189 (⟨#[58]⟩ : ByteArray)).bind fun t192 => ((some (([(⟨#[111, 112, 101, 110]⟩ : ByteArray), t192, (⟨#[104, 111, 109, 101]⟩ : ByteArray), (⟨#[97, 119, 97, 121]⟩ : ByteArray), (⟨#[118, 111, 105, 100]⟩ : ByteArray)] : List ByteArray) : List ByteArray)).bind fun y193 => (if 0 ≤ a0_4 then (if a0_4 < (y193.length : Int) then ((impl_texts.f k (([a0_0, a0_1] : List Int))).bind fun t200 => ((impl_Join.f t200 (⟨#[45]⟩ : ByteArray)).bind fun t203 => (if t203.size + 1 ≤ 9223372036854775807 then (if (t203 ++ (⟨#[32]⟩ : ByteArray)).size + (rdOf ByteArray.empty y193 a0_4).size ≤ 9223372036854775807 then (some ((t203 ++ (⟨#[32]⟩ : ByteArray)) ++ (rdOf ByteArray.empty y193 a0_4))) else (none)) else (none)))) else (none)) else (none))))) = some r := by first | (rw [hy186]; with_reducible exact H) | (have H2_ := (Option.bind_some _ _).symm.trans H; rw [hy186]; with_reducible exact H2_) | (have H2_ := (Option.bind_some _ _).symm.trans H; with_reducible exact H2_) | with_reducible exact H | (rw [hy186]; exact H) | exact H
    have Ny186 := Aside0.mk hy186
    clear hy186
    replace H := Option.bind_eq_some_iff.mp H
    obtain ⟨t189, A40, H⟩ := H
    replace H : ((impl_Join.f t189 (⟨#[58]⟩ : ByteArray)).bind fun t192 => ((some (([(⟨#[111, 112, 101, 110]⟩ : ByteArray), t192, (⟨#[104, 111, 109, 101]⟩ : ByteArray), (⟨#[97, 119, 97, 121]⟩ : ByteArray), (⟨#[118, 111, 105, 100]⟩ : ByteArray)] : List ByteArray) : List ByteArray)).bind fun y193 => (if 0 ≤ a0_4 then (if a0_4 < (y193.length : Int) then ((impl_texts.f k (([a0_0, a0_1] : List Int))).bind fun t200 => ((impl_Join.f t200 (⟨#[45]⟩ : ByteArray)).bind fun t203 => (if t203.size + 1 ≤ 9223372036854775807 then (if (t203 ++ (⟨#[32]⟩ : ByteArray)).size + (rdOf ByteArray.empty y193 a0_4).size ≤ 9223372036854775807 then (some ((t203 ++ (⟨#[32]⟩ : ByteArray)) ++ (rdOf ByteArray.empty y193 a0_4))) else (none)) else (none)))) else (none)) else (none)))) = some r := H
    have A4 := Aside0.mk A40
    clear A40
    replace H := Option.bind_eq_some_iff.mp H
    obtain ⟨t192, A50, H⟩ := H
    replace H : ((some (([(⟨#[111, 112, 101, 110]⟩ : ByteArray), t192, (⟨#[104, 111, 109, 101]⟩ : ByteArray), (⟨#[97, 119, 97, 121]⟩ : ByteArray), (⟨#[118, 111, 105, 100]⟩ : ByteArray)] : List ByteArray) : List ByteArray)).bind fun y193 => (if 0 ≤ a0_4 then (if a0_4 < (y193.length : Int) then ((impl_texts.f k (([a0_0, a0_1] : List Int))).bind fun t200 => ((impl_Join.f t200 (⟨#[45]⟩ : ByteArray)).bind fun t203 => (if t203.size + 1 ≤ 9223372036854775807 then (if (t203 ++ (⟨#[32]⟩ : ByteArray)).size + (rdOf ByteArray.empty y193 a0_4).size ≤ 9223372036854775807 then (some ((t203 ++ (⟨#[32]⟩ : ByteArray)) ++ (rdOf ByteArray.empty y193 a0_4))) else (none)) else (none)))) else (none)) else (none))) = some r := H
    have A5 := Aside0.mk A50
    clear A50
    obtain ⟨y193, hy193⟩ : ∃ y_ : List ByteArray, y_ = (([(⟨#[111, 112, 101, 110]⟩ : ByteArray), t192, (⟨#[104, 111, 109, 101]⟩ : ByteArray), (⟨#[97, 119, 97, 121]⟩ : ByteArray), (⟨#[118, 111, 105, 100]⟩ : ByteArray)] : List ByteArray)) := ⟨_, rfl⟩
    replace H : (if 0 ≤ a0_4 then (if a0_4 < (y193.length : Int) then ((impl_texts.f k (([a0_0, a0_1] : List Int))).bind fun t200 => ((impl_Join.f t200 (⟨#[45]⟩ : ByteArray)).bind fun t203 => (if t203.size + 1 ≤ 9223372036854775807 then (if (t203 ++ (⟨#[32]⟩ : ByteArray)).size + (rdOf ByteArray.empty y193 a0_4).size ≤ 9223372036854775807 then (some ((t203 ++ (⟨#[32]⟩ : ByteArray)) ++ (rdOf ByteArray.empty y193 a0_4))) else (none)) else (none)))) else (none)) else (none)) = some r := by first | (rw [hy193]; with_reducible exact H) | (have H2_ := (Option.bind_some _ _).symm.trans H; rw [hy193]; with_reducible exact H2_) | (have H2_ := (Option.bind_some _ _).symm.trans H; with_reducible exact H2_) | with_reducible exact H | (rw [hy193]; exact H) | exact H
    have Ny193 := Aside0.mk hy193
    clear hy193
    by_cases c6 : 0 ≤ a0_4
    · rw [if_pos c6] at H
      have c6b0 : decide (0 ≤ a0_4) = true := decide_eq_true c6
      clear c6
      by_cases c7 : a0_4 < (y193.length : Int)
      · rw [if_pos c7] at H
        have c7b0 : decide (a0_4 < (y193.length : Int)) = true := decide_eq_true c7
        clear c7
        obtain ⟨y197, hy197⟩ : ∃ y_ : List Int, y_ = (([a0_0, a0_1] : List Int)) := ⟨_, rfl⟩
        replace H : ((impl_texts.f k y197).bind fun t200 => ((impl_Join.f t200 (⟨#[45]⟩ : ByteArray)).bind fun t203 => (if t203.size + 1 ≤ 9223372036854775807 then (if (t203 ++ (⟨#[32]⟩ : ByteArray)).size + (rdOf ByteArray.empty y193 a0_4).size ≤ 9223372036854775807 then (some ((t203 ++ (⟨#[32]⟩ : ByteArray)) ++ (rdOf ByteArray.empty y193 a0_4))) else (none)) else (none)))) = some r := by first | (rw [hy197]; with_reducible exact H) | (have H2_ := (Option.bind_some _ _).symm.trans H; rw [hy197]; with_reducible exact H2_) | (have H2_ := (Option.bind_some _ _).symm.trans H; with_reducible exact H2_) | with_reducible exact H | (rw [hy197]; exact H) | exact H
        have Ny197 := Aside0.mk hy197
        clear hy197
        replace H := Option.bind_eq_some_iff.mp H
        obtain ⟨t200, A80, H⟩ := H
        replace H : ((impl_Join.f t200 (⟨#[45]⟩ : ByteArray)).bind fun t203 => (if t203.size + 1 ≤ 9223372036854775807 then (if (t203 ++ (⟨#[32]⟩ : ByteArray)).size + (rdOf ByteArray.empty y193 a0_4).size ≤ 9223372036854775807 then (some ((t203 ++ (⟨#[32]⟩ : ByteArray)) ++ (rdOf ByteArray.empty y193 a0_4))) else (none)) else (none))) = some r := H
        have A8 := Aside0.mk A80
        clear A80
        replace H := Option.bind_eq_some_iff.mp H
        obtain ⟨t203, A90, H⟩ := H
        replace H : (if t203.size + 1 ≤ 9223372036854775807 then (if (t203 ++ (⟨#[32]⟩ : ByteArray)).size + (rdOf ByteArray.empty y193 a0_4).size ≤ 9223372036854775807 then (some ((t203 ++ (⟨#[32]⟩ : ByteArray)) ++ (rdOf ByteArray.empty y193 a0_4))) else (none)) else (none)) = some r := H
        have A9 := Aside0.mk A90
        clear A90
        by_cases c10 : t203.size + 1 ≤ 9223372036854775807
        · rw [if_pos c10] at H
          have c10b0 := eq_true c10
          have c10b1 : decide (t203.size + 1 ≤ 9223372036854775807) = true := decide_eq_true c10
          try have c10b2 : (9223372036854775807 < t203.size + 1) = False := eq_false (Nat.not_lt.2 c10)
          by_cases c11 : (t203 ++ (⟨#[32]⟩ : ByteArray)).size + (rdOf ByteArray.empty y193 a0_4).size ≤ 9223372036854775807
          · rw [if_pos c11] at H
            have c11b0 := eq_true c11
            have c11b1 : decide ((t203 ++ (⟨#[32]⟩ : ByteArray)).size + (rdOf ByteArray.empty y193 a0_4).size ≤ 9223372036854775807) = true := decide_eq_true c11
            try have c11b2 : (9223372036854775807 < (t203 ++ (⟨#[32]⟩ : ByteArray)).size + (rdOf ByteArray.empty y193 a0_4).size) = False := eq_false (Nat.not_lt.2 c11)
            have c11b3 : (9223372036854775807 < t203.size + 1 + (rdOf ByteArray.empty y193 a0_4).size) = False := (by have h_ := c11b2; simp only [ByteArray.size_append] at h_; exact h_)
            obtain rfl := Option.some.inj H
            go_enter Tryd.func12, Tryd.ntmps12
            try go_wp2_with (first | ((with_reducible refine gate_dst (N := 1) rfl ?_); refine bx (N := 1) (cs := #[.int .i64 a0_0, .int .i64 a0_1, .int .i64 a0_2, .int .i64 a0_3, .int .i64 a0_4]) (t := 25) ?_; intro gb184 hg w12 hbox hb; have BK184 := Aside0.mk (hbox); have GW184 := gs hg HB; have GE184 := gs hg HB; replace HB := hs_ HB hb; clear hb hbox hg; have ⟨hcz13_0, hcz13_1, hcz13_2, hcz13_3, hcz13_4, hfz13_0, hfz13_1, hfz13_2, hfz13_3, hfz13_4⟩ := rz5 BK184) | ((with_reducible refine gate_callee (f := 49) rfl ?_); refine gl (some 5) Tryd.func49 #[.int .i64 8, .agg #[.int .i64 a0_0, .int .i64 a0_1, .int .i64 a0_2, .int .i64 a0_3, .int .i64 a0_4]] ?_; (with_reducible refine (impl_GameOk.calls k 8 a0_0 a0_1 a0_2 a0_3 a0_4 true _ A2.out).mono ?_); rintro e w14 ⟨rfl, hb⟩; refine ⟨_, rfl, ?_⟩; replace BK184 := kb BK184 hb; replace HB := hs_ HB hb; (try clear hb); (try clear hb2); (try clear hk); (try clear hi)))
            have pi196 : (0 ≤ (a0_4 : Int)) = True := eq_true (of_decide_eq_true (by first | (with_reducible assumption) | assumption))
            have qi196 : (a0_4 < (y193.length : Int)) = True := eq_true (of_decide_eq_true (by first | (with_reducible assumption) | assumption))
            replace BK184 := Aside0.mk (blk_drew BK184.out)
            replace HB := Aside0.mk (below_drew1 HB.out)
            refine start_ (n := 13) (S := fun w' => w'.cell? ⟨gb184, 0, none⟩ = some (.int .i64 a0_0) ∧ w'.cell? ⟨gb184, 1, none⟩ = some (.int .i64 a0_1) ∧ w'.cell? ⟨gb184, 2, none⟩ = some (.int .i64 a0_2) ∧ w'.cell? ⟨gb184, 3, none⟩ = some (.int .i64 a0_3) ∧ w'.cell? ⟨gb184, 4, none⟩ = some (.int .i64 a0_4)) (ds := []) #[false, false, false, false, false, false, false, false, false, false, false, false, false] (by kernel_rfl) rfl rfl ⟨(blk_cell BK184.out 0).trans rfl, (blk_cell BK184.out 1).trans rfl, (blk_cell BK184.out 2).trans rfl, (blk_cell BK184.out 3).trans rfl, (blk_cell BK184.out 4).trans rfl⟩ (fun hHeld => ?_); refine with_tabW impl_FormatGame.tab3 impl_FormatGame.bits3 (fun HT_ HW_ => ?_)
            generalize w14.drew = w15 at BK184 HB hHeld ⊢
            refine pure_ (i := 0) (N := some 7) (v := ?_) (a' := ?_) #[true, false, false, false, false, false, false, false, false, false, false, false, false] rfl rfl (any_of HT_.out (by kernel_rfl)) (fun _ _ _ h => h) (Or.inl ⟨by rfl, ?_⟩) ?_ ?_
            rotate_left
            · intro w'
              go_simp
              with_reducible rfl
            rotate_left
            · simp only [Act.put, List.setIfInBounds_toArray, List.set_cons_zero, List.set_cons_succ, i64_w, i32_w]
              rfl
            refine pure_ (i := 2) (N := some 9) (v := ?_) (a' := ?_) #[true, false, true, false, false, false, false, false, false, false, false, false, false] rfl rfl (any_of HT_.out (by kernel_rfl)) (fun _ _ _ h => h) (Or.inl ⟨by rfl, ?_⟩) ?_ ?_
            rotate_left
            · intro w'
              go_simp
              with_reducible rfl
            rotate_left
            · simp only [Act.put, List.setIfInBounds_toArray, List.set_cons_zero, List.set_cons_succ, i64_w, i32_w]
              rfl
            refine pure_ (i := 8) (N := some 15) (v := ?_) (a' := ?_) #[true, false, true, false, false, false, false, false, true, false, false, false, false] rfl rfl (any_of HT_.out (by kernel_rfl)) (fun _ _ _ h => h) (Or.inl ⟨by rfl, ?_⟩) ?_ ?_
            rotate_left
            · intro w'
              go_simp
              with_reducible rfl
            rotate_left
            · simp only [Act.put, List.setIfInBounds_toArray, List.set_cons_zero, List.set_cons_succ, i64_w, i32_w]
              rfl
            refine take_ (i := 1) (N := some 8) (v := ?_) (a' := ?_) #[true, true, true, false, false, false, false, false, true, false, false, false, false] rfl rfl (take_ofW HT_.out HW_.out (by kernel_rfl)) (fun _ _ _ h => h) (Or.inl ⟨by rfl, ?_⟩) hHeld ?_ ?_
            rotate_left
            · rintro w' ⟨s0, s1, s2, s3, s4⟩
              go_simp
              with_reducible rfl
            rotate_left
            · simp only [Act.put, List.setIfInBounds_toArray, List.set_cons_zero, List.set_cons_succ, i64_w, i32_w]
              rfl
            refine take_ (i := 3) (N := some 10) (v := ?_) (a' := ?_) #[true, true, true, true, false, false, false, false, true, false, false, false, false] rfl rfl (take_ofW HT_.out HW_.out (by kernel_rfl)) (fun _ _ _ h => h) (Or.inl ⟨by rfl, ?_⟩) hHeld ?_ ?_
            rotate_left
            · rintro w' ⟨s0, s1, s2, s3, s4⟩
              go_simp
              with_reducible rfl
            rotate_left
            · simp only [Act.put, List.setIfInBounds_toArray, List.set_cons_zero, List.set_cons_succ, i64_w, i32_w]
              rfl
            refine take_ (i := 9) (N := some 16) (v := ?_) (a' := ?_) #[true, true, true, true, false, false, false, false, true, true, false, false, false] rfl rfl (take_ofW HT_.out HW_.out (by kernel_rfl)) (fun _ _ _ h => h) (Or.inl ⟨by rfl, ?_⟩) hHeld ?_ ?_
            rotate_left
            · rintro w' ⟨s0, s1, s2, s3, s4⟩
              go_simp
              with_reducible rfl
            rotate_left
            · simp only [Act.put, List.setIfInBounds_toArray, List.set_cons_zero, List.set_cons_succ, i64_w, i32_w]
              rfl
            refine one_ (i := 4) (N := some 11) #[true, true, true, true, true, false, false, false, true, true, false, false, false] rfl rfl (one_of HT_.out (by kernel_rfl)) (by decide) (fun K hK => ?_)
            refine Kd.R_lit_step (Kd.int .i64) _ 3 ?hg (N := 11) ?hd (xs := ([a0_2, a0_3] : List Int)) (inner := [.int .i64 a0_2, .int .i64 a0_3]) (ok := fun _ => True) (okp := fun _ => True) ?hr ?hp (fun _ hk => hk) trivial (Below.refl _ _) (Nat.le_refl _) (by simp) ?_; (case hd => rfl); (case hg => rfl); (case hr => first | (go_simp; done) | (go_simp; rfl)); (case hp => exact (Reps.one (show Kd.M (Kd.int .i64) _ _ _ a0_2 [.int .i64 a0_2] from rfl) (Reps.one (show Kd.M (Kd.int .i64) _ _ _ a0_3 [.int .i64 a0_3] from rfl) (Reps.none _ _))))
            intro v187 w16 ho17 hb hg_ hnew_
            clear hg_ hnew_
            (first | rw [← Ny186.out] at ho17 | (simp only [Int.reduceToNat] at ho17; rw [← Ny186.out] at ho17))
            have HO188 := kl ho17 HB
            replace BK184 := kb BK184 hb
            replace HB := hs_ HB hb
            clear hb ho17
            obtain ⟨Ao18, co18, eo18⟩ := Kd.R_slice HO188.out
            (first | subst eo18 | (injection eo18 with f1_ f2_ f3_; have f4_ := f1_.symm; have f5_ := f3_.symm; clear f1_ f2_ f3_; subst f4_; subst f5_))
            refine hK.out _ _ ⟨(blk_cell BK184.out 0).trans rfl, (blk_cell BK184.out 1).trans rfl, (blk_cell BK184.out 2).trans rfl, (blk_cell BK184.out 3).trans rfl, (blk_cell BK184.out 4).trans rfl⟩ (fun hHeld => ?_)
            clear hK K
            refine norm_ (a' := ?_) ?_ ?_
            rotate_left
            · show Act.put _ (some 11) _ = _
              simp only [Act.put, List.setIfInBounds_toArray, List.set_cons_zero, List.set_cons_succ, i64_w, i32_w]
              rfl
            refine one_ (i := 5) (N := some 12) #[true, true, true, true, true, true, false, false, true, true, false, false, false] rfl rfl (one_of HT_.out (by kernel_rfl)) (by decide) (fun K hK => ?_)
            refine goes_ Tryd.func51 (by kernel_rfl) rfl #[.slice Ao18 y186.length co18] (by rfl) rfl rfl (by (try simp only [List.map_toArray, List.map_cons, List.map_nil]); first | done | rfl | (simp only [List.length_drop, List.length_take]; rfl)) ?_
            with_reducible refine (impl_texts.calls k _ _ y186 t189 _ ?side1 ?side2 A4.out).mono ?_
            (case side1 => exact cr HO188)
            (case side2 => exact (Kd.R_reads' HO188.out).2.1)
            rintro e w19 ⟨v190, rfl, ho0, hb⟩
            refine ⟨_, rfl, ?_⟩
            replace HO188 := kr HO188 hb
            have HO191 := kl ho0 HB
            replace BK184 := kb BK184 hb
            replace HB := hs_ HB hb
            (try clear hb)
            (try clear hb2)
            (try clear hk)
            (try clear hi)
            (try clear ho0)
            obtain ⟨Ao20, co20, eo20⟩ := Kd.R_slice HO191.out
            (first | subst eo20 | (injection eo20 with f1_ f2_ f3_; have f4_ := f1_.symm; have f5_ := f3_.symm; clear f1_ f2_ f3_; subst f4_; subst f5_))
            refine hK.out _ _ ⟨(blk_cell BK184.out 0).trans rfl, (blk_cell BK184.out 1).trans rfl, (blk_cell BK184.out 2).trans rfl, (blk_cell BK184.out 3).trans rfl, (blk_cell BK184.out 4).trans rfl⟩ (fun hHeld => ?_)
            clear hK K
            refine norm_ (a' := ?_) ?_ ?_
            rotate_left
            · show Act.put _ (some 12) _ = _
              simp only [Act.put, List.setIfInBounds_toArray, List.set_cons_zero, List.set_cons_succ, i64_w, i32_w]
              rfl
            refine one_ (i := 6) (N := some 13) #[true, true, true, true, true, true, true, false, true, true, false, false, false] rfl rfl (one_of HT_.out (by kernel_rfl)) (by decide) (fun K hK => ?_)
            refine goes_ Tryd.func50 (by kernel_rfl) rfl #[.slice Ao20 t189.length co20, .string (⟨#[58]⟩ : ByteArray)] (by rfl) rfl rfl (by (try simp only [List.map_toArray, List.map_cons, List.map_nil]); first | done | rfl | (simp only [List.length_drop, List.length_take]; rfl)) ?_
            with_reducible refine (impl_Join.calls _ _ t189 (⟨#[58]⟩ : ByteArray) t192 _ ?side1 ?side2 A5.out).mono ?_
            (case side1 => exact cr HO191)
            (case side2 => exact (Kd.R_reads' HO191.out).2.1)
            rintro e w21 ⟨rfl, hb⟩
            refine ⟨_, rfl, ?_⟩
            replace HO188 := kr HO188 hb
            replace HO191 := kr HO191 hb
            replace BK184 := kb BK184 hb
            replace HB := hs_ HB hb
            (try clear hb)
            (try clear hb2)
            (try clear hk)
            (try clear hi)
            refine hK.out _ _ ⟨(blk_cell BK184.out 0).trans rfl, (blk_cell BK184.out 1).trans rfl, (blk_cell BK184.out 2).trans rfl, (blk_cell BK184.out 3).trans rfl, (blk_cell BK184.out 4).trans rfl⟩ (fun hHeld => ?_)
            clear hK K
            refine norm_ (a' := ?_) ?_ ?_
            rotate_left
            · show Act.put _ (some 13) _ = _
              simp only [Act.put, List.setIfInBounds_toArray, List.set_cons_zero, List.set_cons_succ, i64_w, i32_w]
              rfl
            refine one_ (i := 7) (N := some 14) #[true, true, true, true, true, true, true, true, true, true, false, false, false] rfl rfl (one_of HT_.out (by kernel_rfl)) (by decide) (fun K hK => ?_)
            refine Kd.R_lit_step Kd.string _ 9 ?hg (N := 14) ?hd (xs := ([(⟨#[111, 112, 101, 110]⟩ : ByteArray), t192, (⟨#[104, 111, 109, 101]⟩ : ByteArray), (⟨#[97, 119, 97, 121]⟩ : ByteArray), (⟨#[118, 111, 105, 100]⟩ : ByteArray)] : List ByteArray)) (inner := [.string (⟨#[111, 112, 101, 110]⟩ : ByteArray), .string t192, .string (⟨#[104, 111, 109, 101]⟩ : ByteArray), .string (⟨#[97, 119, 97, 121]⟩ : ByteArray), .string (⟨#[118, 111, 105, 100]⟩ : ByteArray)]) (ok := fun _ => True) (okp := fun _ => True) ?hr ?hp (fun _ hk => hk) trivial (Below.refl _ _) (Nat.le_refl _) (by simp) ?_; (case hd => rfl); (case hg => rfl); (case hr => first | (go_simp; done) | (go_simp; rfl)); (case hp => exact (Reps.one (show Kd.M Kd.string _ _ _ (⟨#[111, 112, 101, 110]⟩ : ByteArray) [.string (⟨#[111, 112, 101, 110]⟩ : ByteArray)] from rfl) (Reps.one (show Kd.M Kd.string _ _ _ t192 [.string t192] from rfl) (Reps.one (show Kd.M Kd.string _ _ _ (⟨#[104, 111, 109, 101]⟩ : ByteArray) [.string (⟨#[104, 111, 109, 101]⟩ : ByteArray)] from rfl) (Reps.one (show Kd.M Kd.string _ _ _ (⟨#[97, 119, 97, 121]⟩ : ByteArray) [.string (⟨#[97, 119, 97, 121]⟩ : ByteArray)] from rfl) (Reps.one (show Kd.M Kd.string _ _ _ (⟨#[118, 111, 105, 100]⟩ : ByteArray) [.string (⟨#[118, 111, 105, 100]⟩ : ByteArray)] from rfl) (Reps.none _ _)))))))
            intro v194 w22 ho23 hb hg_ hnew_
            clear hg_ hnew_
            (first | rw [← Ny193.out] at ho23 | (simp only [Int.reduceToNat] at ho23; rw [← Ny193.out] at ho23))
            replace HO188 := kr HO188 hb
            have HO195 := Aside0.mk (Kd.R_lower (Kd.R_new' ho23 (rt HO191)) (below_size (bb HB)))
            replace HO191 := ke HO191 ho23 hb
            replace BK184 := kb BK184 hb
            replace HB := hs_ HB hb
            clear hb ho23
            obtain ⟨Ao24, co24, eo24⟩ := Kd.R_slice HO195.out
            subst eo24
            obtain ⟨ado24, fo24, _⟩ := Kd.at_string (Kd.R_reads' HO195.out).2.2 0 (by decide) (by rw [Ny193.out]; simp)
            cases fo24
            refine hK.out _ _ ⟨(blk_cell BK184.out 0).trans rfl, (blk_cell BK184.out 1).trans rfl, (blk_cell BK184.out 2).trans rfl, (blk_cell BK184.out 3).trans rfl, (blk_cell BK184.out 4).trans rfl⟩ (fun hHeld => ?_)
            clear hK K
            refine norm_ (a' := ?_) ?_ ?_
            rotate_left
            · show Act.put _ (some 14) _ = _
              simp only [Act.put, List.setIfInBounds_toArray, List.set_cons_zero, List.set_cons_succ, i64_w, i32_w]
              rfl
            refine pure_ (i := 10) (N := some 17) (v := ?_) (a' := ?_) #[true, true, true, true, true, true, true, true, true, true, true, false, false] rfl rfl (any_of HT_.out (by kernel_rfl)) (fun _ _ _ h => h) (Or.inl ⟨by rfl, ?_⟩) ?_ ?_
            rotate_left
            · intro w'
              go_simp
              with_reducible rfl
            rotate_left
            · simp only [Act.put, List.setIfInBounds_toArray, List.set_cons_zero, List.set_cons_succ, i64_w, i32_w]
              rfl
            refine one_ (i := 11) (N := some 18) #[true, true, true, true, true, true, true, true, true, true, true, true, false] rfl rfl (one_of HT_.out (by kernel_rfl)) (by decide) (fun K hK => ?_)
            (have p196 : 0 ≤ (a0_4 : Int) := of_decide_eq_true (by first | (with_reducible assumption) | assumption); have q196 : a0_4 < (y193.length : Int) := of_decide_eq_true (by first | (with_reducible assumption) | assumption); obtain ⟨ad196, e196, hx196_0⟩ := Kd.at_string (Kd.R_reads' HO195.out).2.2 a0_4 p196 q196; obtain rfl : ado24 = ad196 := (by injection e196))
            refine value_ (w1 := ?_) (v := ?_) (by rfl) rfl ?_ ?_
            rotate_left 2
            · go_simp
              constructor
              · rfl
              · rfl
            clear hx196_0
            refine hK.out _ _ ⟨(blk_cell BK184.out 0).trans rfl, (blk_cell BK184.out 1).trans rfl, (blk_cell BK184.out 2).trans rfl, (blk_cell BK184.out 3).trans rfl, (blk_cell BK184.out 4).trans rfl⟩ (fun hHeld => ?_)
            clear hK K
            refine norm_ (a' := ?_) ?_ ?_
            rotate_left
            · show Act.put _ (some 18) _ = _
              simp only [Act.put, List.setIfInBounds_toArray, List.set_cons_zero, List.set_cons_succ, i64_w, i32_w]
              rfl
            refine pure_ (i := 12) (N := some 3) (v := ?_) (a' := ?_) #[true, true, true, true, true, true, true, true, true, true, true, true, true] rfl rfl (any_of HT_.out (by kernel_rfl)) (fun _ _ _ h => h) (Or.inl ⟨by rfl, ?_⟩) ?_ ?_
            rotate_left
            · intro w'
              go_simp
              with_reducible rfl
            rotate_left
            · simp only [Act.put, List.setIfInBounds_toArray, List.set_cons_zero, List.set_cons_succ, i64_w, i32_w]
              rfl
            refine done_ (done_of HT_.out (by kernel_rfl)) ?_
            have ⟨hcz25_0, hcz25_1, hcz25_2, hcz25_3, hcz25_4, hfz25_0, hfz25_1, hfz25_2, hfz25_3, hfz25_4⟩ := rz5 BK184
            try go_wp2_with (first | ((with_reducible refine gate_dst (N := 23) rfl ?_); refine Kd.R_lit (Kd.int .i64) _ 3 ?hg (N := 23) ?hd (xs := ([a0_0, a0_1] : List Int)) (inner := [.int .i64 a0_0, .int .i64 a0_1]) (ok := fun _ => True) (okp := fun _ => True) ?hr ?hp (fun _ hk => hk) trivial (Below.refl _ _) (Nat.le_refl _) (by simp) ?_; (case hd => rfl); (case hg => rfl); (case hr => first | (go_simp; done) | (go_simp; rfl)); (case hp => exact (Reps.one (show Kd.M (Kd.int .i64) _ _ _ a0_0 [.int .i64 a0_0] from rfl) (Reps.one (show Kd.M (Kd.int .i64) _ _ _ a0_1 [.int .i64 a0_1] from rfl) (Reps.none _ _)))); intro v198 w26 ho27 hb hg_ hnew_; clear hg_ hnew_; (first | rw [← Ny197.out] at ho27 | (simp only [Int.reduceToNat] at ho27; rw [← Ny197.out] at ho27)); replace HO191 := kr HO191 hb; replace HO195 := kr HO195 hb; have HO199 := Aside0.mk (Kd.R_lower (Kd.R_new' ho27 (rt HO188)) (below_size (bb HB))); replace HO188 := ke HO188 ho27 hb; replace BK184 := kb BK184 hb; replace HB := hs_ HB hb; clear hb ho27; obtain ⟨Ao28, co28, eo28⟩ := Kd.R_slice HO199.out; subst eo28) | ((with_reducible refine gate_callee (f := 51) rfl ?_); refine gl (some 24) Tryd.func51 #[.slice Ao28 y197.length co28] ?_; (with_reducible refine (impl_texts.calls k _ _ y197 t200 _ ?side1 ?side2 A8.out).mono ?_); (case side1 => exact cr HO199); (case side2 => exact cl HO199); rintro e w29 ⟨v201, rfl, ho0, hb⟩; refine ⟨_, rfl, ?_⟩; replace HO188 := kr HO188 hb; replace HO199 := kr HO199 hb; have HO202 := Aside0.mk (Kd.R_lower (Kd.R_new' (Kd.R_new' ho0 (rt HO191)) (rt HO195)) (below_size (bb HB))); replace HO191 := ke HO191 ho0 hb; replace HO195 := ke HO195 ho0 hb; replace BK184 := kb BK184 hb; replace HB := hs_ HB hb; (try clear hb); (try clear hb2); (try clear hk); (try clear hi); (try clear ho0); obtain ⟨Ao30, co30, eo30⟩ := Kd.R_slice HO202.out; subst eo30) | ((with_reducible refine gate_callee (f := 50) rfl ?_); refine gl (some 25) Tryd.func50 #[.slice Ao30 t200.length co30, .string (⟨#[45]⟩ : ByteArray)] ?_; (with_reducible refine (impl_Join.calls _ _ t200 (⟨#[45]⟩ : ByteArray) t203 _ ?side1 ?side2 A9.out).mono ?_); (case side1 => exact cr HO202); (case side2 => exact cl HO202); rintro e w31 ⟨rfl, hb⟩; refine ⟨_, rfl, ?_⟩; replace HO188 := kr HO188 hb; replace HO191 := kr HO191 hb; replace HO195 := kr HO195 hb; replace HO199 := kr HO199 hb; replace HO202 := kr HO202 hb; replace BK184 := kb BK184 hb; replace HB := hs_ HB hb; (try clear hb); (try clear hb2); (try clear hk); (try clear hi)))
            go_ret
            exact ⟨ee, bb HB⟩
          · rw [if_neg c11] at H
            exact absurd H (by simp)
        · rw [if_neg c10] at H
          exact absurd H (by simp)
      · rw [if_neg c7] at H
        exact absurd H (by simp)
    · rw [if_neg c6] at H
      exact absurd H (by simp)
  · replace c3 := Bool.eq_false_iff.mpr c3
    subst c3
    have H1 : (some (⟨#[]⟩ : ByteArray)) = some r := by rw [if_neg (show ¬ (false = true) by decide)] at H; exact H
    clear H
    have H := H1
    clear H1
    obtain rfl := Option.some.inj H
    go_enter Tryd.func12, Tryd.ntmps12
    go_wp2_with (first | ((with_reducible refine gate_dst (N := 1) rfl ?_); refine bx (N := 1) (cs := #[.int .i64 a0_0, .int .i64 a0_1, .int .i64 a0_2, .int .i64 a0_3, .int .i64 a0_4]) (t := 25) ?_; intro gb184 hg w32 hbox hb; have BK184 := Aside0.mk (hbox); have GW184 := gs hg HB; have GE184 := gs hg HB; replace HB := hs_ HB hb; clear hb hbox hg; have ⟨hcz33_0, hcz33_1, hcz33_2, hcz33_3, hcz33_4, hfz33_0, hfz33_1, hfz33_2, hfz33_3, hfz33_4⟩ := rz5 BK184) | ((with_reducible refine gate_callee (f := 49) rfl ?_); refine gl (some 5) Tryd.func49 #[.int .i64 8, .agg #[.int .i64 a0_0, .int .i64 a0_1, .int .i64 a0_2, .int .i64 a0_3, .int .i64 a0_4]] ?_; (with_reducible refine (impl_GameOk.calls k 8 a0_0 a0_1 a0_2 a0_3 a0_4 false _ A2.out).mono ?_); rintro e w34 ⟨rfl, hb⟩; refine ⟨_, rfl, ?_⟩; replace BK184 := kb BK184 hb; replace HB := hs_ HB hb; (try clear hb); (try clear hb2); (try clear hk); (try clear hi)))
    go_ret
    exact ⟨ee, bb HB⟩
end Go.Proofs.YtibmeomlokigjaaDoor.R
namespace Go.Proofs.YtibmeomlokigjaaDoor.R
open Go.RowKit Go.Proofs.YtibmeomlokigjaaDoorW.PrintWords Go.Proofs.YtibmeomlokigjaaDoorW.PrintLast Go.Proofs.YtibmeomlokigjaaDoorW.PrintMore
attribute [local go_sem] max2_int min2_int max_two min_two max_three min_three max_four min_four
set_option linter.unusedVariables false
set_option linter.unusedSimpArgs false
def impl_FormatNote.j0 : Nat → ByteArray → Bool → Int → Int → Int → Int → Int → Int → Int → Option (ByteArray)
  | 0, _, _, _, _, _, _, _, _, _ => none
  | k + 1, x3, x20, x205000, x205001, x205002, x205003, x205004, x205005, x205006 => if x20 = true then (some (⟨#[]⟩ : ByteArray)) else ((impl_texts.f k (([x205000, x205001] : List Int))).bind fun t211 => ((impl_Join.f t211 (⟨#[47]⟩ : ByteArray)).bind fun t214 => (if t214.size + 1 ≤ 9223372036854775807 then (if (t214 ++ (⟨#[32]⟩ : ByteArray)).size + x3.size ≤ 9223372036854775807 then (some ((t214 ++ (⟨#[32]⟩ : ByteArray)) ++ x3)) else (none)) else (none))))
def impl_FormatNote.f (k : Nat) (a0_0 : Int) (a0_1 : Int) (a0_2 : Int) (a0_3 : Int) (a0_4 : Int) (a0_5 : Int) (a0_6 : Int) : Option (ByteArray) := (impl_FormatGame.f k a0_2 a0_3 a0_4 a0_5 a0_6).bind fun t205 => ((impl_within.f a0_0 1 100000).bind fun t206 => (if t206 = true then ((impl_within.f a0_1 0 59).bind fun t207 => (if t207 = true then (impl_FormatNote.j0 k t205 (t205.toList == ([] : List UInt8)) a0_0 a0_1 a0_2 a0_3 a0_4 a0_5 a0_6) else (impl_FormatNote.j0 k t205 true a0_0 a0_1 a0_2 a0_3 a0_4 a0_5 a0_6))) else (impl_FormatNote.j0 k t205 true a0_0 a0_1 a0_2 a0_3 a0_4 a0_5 a0_6)))
set_option maxHeartbeats 8000000 in
set_option maxRecDepth 100000 in
theorem impl_FormatNote.calls (k : Nat) (a0_0 : Int) (a0_1 : Int) (a0_2 : Int) (a0_3 : Int) (a0_4 : Int) (a0_5 : Int) (a0_6 : Int) (r : ByteArray) (w : World) (h : impl_FormatNote.f k a0_0 a0_1 a0_2 a0_3 a0_4 a0_5 a0_6 = some r) (ht : TabW w := by first | exact Aside0.out (by assumption) | exact TabW.below (Aside0.out (by assumption)) (bb (by assumption)) | exact TabW.below (Aside0.out (by assumption)) (bb (Aside0.mk (Below.refl _ _)))) :
    Calls Tryd.prog 19 #[.agg #[.int .i64 a0_0, .int .i64 a0_1, .int .i64 a0_2, .int .i64 a0_3, .int .i64 a0_4, .int .i64 a0_5, .int .i64 a0_6]] w fun e w' => e = .returned (.string r) ∧ Below w.heap.size w w' := by
  have HTW := Aside0.mk ht
  clear ht
  have hu39 := Tryd.underlying39
  have hu25 := Tryd.underlying25
  have HB := Aside0.mk (Below.refl w.heap.size w)
  have H : ((impl_FormatGame.f k a0_2 a0_3 a0_4 a0_5 a0_6).bind fun t205 => ((impl_within.f a0_0 1 100000).bind fun t206 => (if t206 = true then ((impl_within.f a0_1 0 59).bind fun t207 => (if t207 = true then (impl_FormatNote.j0 k t205 (t205.toList == ([] : List UInt8)) a0_0 a0_1 a0_2 a0_3 a0_4 a0_5 a0_6) else (impl_FormatNote.j0 k t205 true a0_0 a0_1 a0_2 a0_3 a0_4 a0_5 a0_6))) else (impl_FormatNote.j0 k t205 true a0_0 a0_1 a0_2 a0_3 a0_4 a0_5 a0_6)))) = some r := h
  clear h
  replace H := Option.bind_eq_some_iff.mp H
  obtain ⟨t205, A20, H⟩ := H
  replace H : ((impl_within.f a0_0 1 100000).bind fun t206 => (if t206 = true then ((impl_within.f a0_1 0 59).bind fun t207 => (if t207 = true then (impl_FormatNote.j0 k t205 (t205.toList == ([] : List UInt8)) a0_0 a0_1 a0_2 a0_3 a0_4 a0_5 a0_6) else (impl_FormatNote.j0 k t205 true a0_0 a0_1 a0_2 a0_3 a0_4 a0_5 a0_6))) else (impl_FormatNote.j0 k t205 true a0_0 a0_1 a0_2 a0_3 a0_4 a0_5 a0_6))) = some r := H
  have A2 := Aside0.mk A20
  clear A20
  have HC3 := Aside0.mk H
  clear H
  go_enter Tryd.func19, Tryd.ntmps19
  go_upto_region 2 with (first | ((with_reducible refine gate_dst (N := 1) rfl ?_); refine bx (N := 1) (cs := #[.int .i64 a0_0, .int .i64 a0_1, .int .i64 a0_2, .int .i64 a0_3, .int .i64 a0_4, .int .i64 a0_5, .int .i64 a0_6]) (t := 39) ?_; intro gb204 hg w4 hbox hb; have BK204 := Aside0.mk (hbox); have GW204 := gs hg HB; have GE204 := gs hg HB; replace HB := hs_ HB hb; clear hb hbox hg; have ⟨hcz5_0, hcz5_1, hcz5_2, hcz5_3, hcz5_4, hcz5_5, hcz5_6, hfz5_0, hfz5_1, hfz5_2, hfz5_3, hfz5_4, hfz5_5, hfz5_6⟩ := rz7 BK204) | ((with_reducible refine gate_callee (f := 12) rfl ?_); refine gl (some 6) Tryd.func12 #[.agg #[.int .i64 a0_2, .int .i64 a0_3, .int .i64 a0_4, .int .i64 a0_5, .int .i64 a0_6]] ?_; (with_reducible refine (impl_FormatGame.calls k a0_2 a0_3 a0_4 a0_5 a0_6 t205 _ A2.out).mono ?_); rintro e w6 ⟨rfl, hb⟩; refine ⟨_, rfl, ?_⟩; replace BK204 := kb BK204 hb; replace HB := hs_ HB hb; (try clear hb); (try clear hb2); (try clear hk); (try clear hi)))
  (try simp only [Act.put, List.setIfInBounds_toArray, List.set_cons_zero, List.set_cons_succ])
  go_cut [20] (fun v20 wc => ∃ (kq : Nat) (x20_2 : Bool), v20 = .bool x20_2 ∧ Aside0 (impl_FormatNote.j0 kq t205 x20_2 a0_0 a0_1 a0_2 a0_3 a0_4 a0_5 a0_6 = some r) ∧ Aside0 (kq ≤ k) ∧ Aside0 (wc.heap[gb204]? = some (.cells #[.int .i64 a0_0, .int .i64 a0_1, .int .i64 a0_2, .int .i64 a0_3, .int .i64 a0_4, .int .i64 a0_5, .int .i64 a0_6] 39 (0, 0))) ∧ Aside0 (Below w.heap.size w wc))
  case first =>
    have H := HC3.out
    clear HC3
    replace H := Option.bind_eq_some_iff.mp H
    obtain ⟨t206, A70, H⟩ := H
    replace H : (if t206 = true then ((impl_within.f a0_1 0 59).bind fun t207 => (if t207 = true then (impl_FormatNote.j0 k t205 (t205.toList == ([] : List UInt8)) a0_0 a0_1 a0_2 a0_3 a0_4 a0_5 a0_6) else (impl_FormatNote.j0 k t205 true a0_0 a0_1 a0_2 a0_3 a0_4 a0_5 a0_6))) else (impl_FormatNote.j0 k t205 true a0_0 a0_1 a0_2 a0_3 a0_4 a0_5 a0_6)) = some r := H
    have A7 := Aside0.mk A70
    clear A70
    by_cases c8 : t206 = true
    · subst c8
      have H1 : ((impl_within.f a0_1 0 59).bind fun t207 => (if t207 = true then (impl_FormatNote.j0 k t205 (t205.toList == ([] : List UInt8)) a0_0 a0_1 a0_2 a0_3 a0_4 a0_5 a0_6) else (impl_FormatNote.j0 k t205 true a0_0 a0_1 a0_2 a0_3 a0_4 a0_5 a0_6))) = some r := by rw [if_pos rfl] at H; exact H
      clear H
      have H := H1
      clear H1
      replace H := Option.bind_eq_some_iff.mp H
      obtain ⟨t207, A90, H⟩ := H
      replace H : (if t207 = true then (impl_FormatNote.j0 k t205 (t205.toList == ([] : List UInt8)) a0_0 a0_1 a0_2 a0_3 a0_4 a0_5 a0_6) else (impl_FormatNote.j0 k t205 true a0_0 a0_1 a0_2 a0_3 a0_4 a0_5 a0_6)) = some r := H
      have A9 := Aside0.mk A90
      clear A90
      by_cases c10 : t207 = true
      · subst c10
        have H1 : (impl_FormatNote.j0 k t205 (t205.toList == ([] : List UInt8)) a0_0 a0_1 a0_2 a0_3 a0_4 a0_5 a0_6) = some r := by rw [if_pos rfl] at H; exact H
        clear H
        have H := H1
        clear H1
        have H' := Aside0.mk H
        clear H
        have ⟨hcz11_0, hcz11_1, hcz11_2, hcz11_3, hcz11_4, hcz11_5, hcz11_6, hfz11_0, hfz11_1, hfz11_2, hfz11_3, hfz11_4, hfz11_5, hfz11_6⟩ := rz7 BK204
        go_wp2_with (first | ((with_reducible refine gate_callee (f := 55) rfl ?_); refine gl (some 9) Tryd.func55 #[.int .i64 a0_0, .int .i64 1, .int .i64 100000] ?_; (with_reducible refine (impl_within.calls a0_0 1 100000 true _ A7.out).mono ?_); rintro e w' ⟨rfl, ⟨nd, rfl⟩⟩; refine ⟨_, rfl, ?_⟩) | (go_at_call 55; (with_reducible refine (impl_within.calls a0_1 0 59 true _ A9.out).mono ?_); rintro e w' ⟨rfl, ⟨nd, rfl⟩⟩))
        go_meet
        case rel => exact ⟨_, ((t205.toList == ([] : List UInt8))), e2_, H', ⟨by first | omega | exact Nat.le_refl _⟩, ⟨bk BK204⟩, ⟨bb HB⟩⟩
      · replace c10 := Bool.eq_false_iff.mpr c10
        subst c10
        have H1 : (impl_FormatNote.j0 k t205 true a0_0 a0_1 a0_2 a0_3 a0_4 a0_5 a0_6) = some r := by rw [if_neg (show ¬ (false = true) by decide)] at H; exact H
        clear H
        have H := H1
        clear H1
        have H' := Aside0.mk H
        clear H
        have ⟨hcz12_0, hcz12_1, hcz12_2, hcz12_3, hcz12_4, hcz12_5, hcz12_6, hfz12_0, hfz12_1, hfz12_2, hfz12_3, hfz12_4, hfz12_5, hfz12_6⟩ := rz7 BK204
        go_wp2_with (first | ((with_reducible refine gate_callee (f := 55) rfl ?_); refine gl (some 9) Tryd.func55 #[.int .i64 a0_0, .int .i64 1, .int .i64 100000] ?_; (with_reducible refine (impl_within.calls a0_0 1 100000 true _ A7.out).mono ?_); rintro e w' ⟨rfl, ⟨nd, rfl⟩⟩; refine ⟨_, rfl, ?_⟩) | (go_at_call 55; (with_reducible refine (impl_within.calls a0_1 0 59 false _ A9.out).mono ?_); rintro e w' ⟨rfl, ⟨nd, rfl⟩⟩))
        go_meet
        case rel => exact ⟨_, (true), e2_, H', ⟨by first | omega | exact Nat.le_refl _⟩, ⟨bk BK204⟩, ⟨bb HB⟩⟩
    · replace c8 := Bool.eq_false_iff.mpr c8
      subst c8
      have H1 : (impl_FormatNote.j0 k t205 true a0_0 a0_1 a0_2 a0_3 a0_4 a0_5 a0_6) = some r := by rw [if_neg (show ¬ (false = true) by decide)] at H; exact H
      clear H
      have H := H1
      clear H1
      have H' := Aside0.mk H
      clear H
      have ⟨hcz13_0, hcz13_1, hcz13_2, hcz13_3, hcz13_4, hcz13_5, hcz13_6, hfz13_0, hfz13_1, hfz13_2, hfz13_3, hfz13_4, hfz13_5, hfz13_6⟩ := rz7 BK204
      go_wp2_with (first | ((with_reducible refine gate_callee (f := 55) rfl ?_); refine gl (some 9) Tryd.func55 #[.int .i64 a0_0, .int .i64 1, .int .i64 100000] ?_; (with_reducible refine (impl_within.calls a0_0 1 100000 false _ A7.out).mono ?_); rintro e w' ⟨rfl, ⟨nd, rfl⟩⟩; refine ⟨_, rfl, ?_⟩))
      go_meet
      case rel => exact ⟨_, (true), e2_, H', ⟨by first | omega | exact Nat.le_refl _⟩, ⟨bk BK204⟩, ⟨bb HB⟩⟩
  case rest =>
    clear HC3
    (try clear c1)
    (try clear p2)
    (try clear c5)
    (try clear c8)
    (try clear c10)
    (try clear c12)
    (try clear hcz11_0 hcz11_1 hcz11_2 hcz11_3 hcz11_4 hcz11_5 hcz11_6)
    (try clear hcz12_0 hcz12_1 hcz12_2 hcz12_3 hcz12_4 hcz12_5 hcz12_6)
    (try clear hcz13_0 hcz13_1 hcz13_2 hcz13_3 hcz13_4 hcz13_5 hcz13_6)
    (try clear hcz5_0 hcz5_1 hcz5_2 hcz5_3 hcz5_4 hcz5_5 hcz5_6)
    (try clear hfz11_0 hfz11_1 hfz11_2 hfz11_3 hfz11_4 hfz11_5 hfz11_6)
    (try clear hfz12_0 hfz12_1 hfz12_2 hfz12_3 hfz12_4 hfz12_5 hfz12_6)
    (try clear hfz13_0 hfz13_1 hfz13_2 hfz13_3 hfz13_4 hfz13_5 hfz13_6)
    (try clear hfz5_0 hfz5_1 hfz5_2 hfz5_3 hfz5_4 hfz5_5 hfz5_6)
    obtain ⟨kq, x20_2, rfl, HA, HJ2, BK204, HB⟩ := hcut
    cases kq with
    | zero => exact absurd HA.out (by simp [impl_FormatNote.j0])
    | succ kj2 =>
      have H := HA.out
      clear HA
      simp only [impl_FormatNote.j0] at H
      by_cases c14 : x20_2 = true
      · subst c14
        have H1 : (some (⟨#[]⟩ : ByteArray)) = some r := by rw [if_pos rfl] at H; exact H
        clear H
        have H := H1
        clear H1
        obtain rfl := Option.some.inj H
        go_wp2
        go_ret
        exact ⟨ee, bb HB⟩
      · replace c14 := Bool.eq_false_iff.mpr c14
        subst c14
        have H1 : ((impl_texts.f kj2 (([a0_0, a0_1] : List Int))).bind fun t211 => ((impl_Join.f t211 (⟨#[47]⟩ : ByteArray)).bind fun t214 => (if t214.size + 1 ≤ 9223372036854775807 then (if (t214 ++ (⟨#[32]⟩ : ByteArray)).size + t205.size ≤ 9223372036854775807 then (some ((t214 ++ (⟨#[32]⟩ : ByteArray)) ++ t205)) else (none)) else (none)))) = some r := by rw [if_neg (show ¬ (false = true) by decide)] at H; exact H
        clear H
        have H := H1
        clear H1
        obtain ⟨y208, hy208⟩ : ∃ y_ : List Int, y_ = (([a0_0, a0_1] : List Int)) := ⟨_, rfl⟩
        replace H : ((impl_texts.f kj2 y208).bind fun t211 => ((impl_Join.f t211 (⟨#[47]⟩ : ByteArray)).bind fun t214 => (if t214.size + 1 ≤ 9223372036854775807 then (if (t214 ++ (⟨#[32]⟩ : ByteArray)).size + t205.size ≤ 9223372036854775807 then (some ((t214 ++ (⟨#[32]⟩ : ByteArray)) ++ t205)) else (none)) else (none)))) = some r := by first | (rw [hy208]; with_reducible exact H) | (have H2_ := (Option.bind_some _ _).symm.trans H; rw [hy208]; with_reducible exact H2_) | (have H2_ := (Option.bind_some _ _).symm.trans H; with_reducible exact H2_) | with_reducible exact H | (rw [hy208]; exact H) | exact H
        have Ny208 := Aside0.mk hy208
        clear hy208
        replace H := Option.bind_eq_some_iff.mp H
        obtain ⟨t211, A150, H⟩ := H
        replace H : ((impl_Join.f t211 (⟨#[47]⟩ : ByteArray)).bind fun t214 => (if t214.size + 1 ≤ 9223372036854775807 then (if (t214 ++ (⟨#[32]⟩ : ByteArray)).size + t205.size ≤ 9223372036854775807 then (some ((t214 ++ (⟨#[32]⟩ : ByteArray)) ++ t205)) else (none)) else (none))) = some r := H
        have A15 := Aside0.mk A150
        clear A150
        replace H := Option.bind_eq_some_iff.mp H
        obtain ⟨t214, A160, H⟩ := H
        replace H : (if t214.size + 1 ≤ 9223372036854775807 then (if (t214 ++ (⟨#[32]⟩ : ByteArray)).size + t205.size ≤ 9223372036854775807 then (some ((t214 ++ (⟨#[32]⟩ : ByteArray)) ++ t205)) else (none)) else (none)) = some r := H
        have A16 := Aside0.mk A160
        clear A160
        by_cases c17 : t214.size + 1 ≤ 9223372036854775807
        · rw [if_pos c17] at H
          have c17b0 := eq_true c17
          have c17b1 : decide (t214.size + 1 ≤ 9223372036854775807) = true := decide_eq_true c17
          try have c17b2 : (9223372036854775807 < t214.size + 1) = False := eq_false (Nat.not_lt.2 c17)
          by_cases c18 : (t214 ++ (⟨#[32]⟩ : ByteArray)).size + t205.size ≤ 9223372036854775807
          · rw [if_pos c18] at H
            have c18b0 := eq_true c18
            have c18b1 : decide ((t214 ++ (⟨#[32]⟩ : ByteArray)).size + t205.size ≤ 9223372036854775807) = true := decide_eq_true c18
            try have c18b2 : (9223372036854775807 < (t214 ++ (⟨#[32]⟩ : ByteArray)).size + t205.size) = False := eq_false (Nat.not_lt.2 c18)
            have c18b3 : (9223372036854775807 < t214.size + 1 + t205.size) = False := (by have h_ := c18b2; simp only [ByteArray.size_append] at h_; exact h_)
            obtain rfl := Option.some.inj H
            have ⟨hcz19_0, hcz19_1, hcz19_2, hcz19_3, hcz19_4, hcz19_5, hcz19_6, hfz19_0, hfz19_1, hfz19_2, hfz19_3, hfz19_4, hfz19_5, hfz19_6⟩ := rz7 BK204
            go_wp2_with (first | ((with_reducible refine gate_dst (N := 25) rfl ?_); refine Kd.R_lit (Kd.int .i64) _ 3 ?hg (N := 25) ?hd (xs := ([a0_0, a0_1] : List Int)) (inner := [.int .i64 a0_0, .int .i64 a0_1]) (ok := fun _ => True) (okp := fun _ => True) ?hr ?hp (fun _ hk => hk) trivial (Below.refl _ _) (Nat.le_refl _) (by simp) ?_; (case hd => rfl); (case hg => rfl); (case hr => first | (go_simp; done) | (go_simp; rfl)); (case hp => exact (Reps.one (show Kd.M (Kd.int .i64) _ _ _ a0_0 [.int .i64 a0_0] from rfl) (Reps.one (show Kd.M (Kd.int .i64) _ _ _ a0_1 [.int .i64 a0_1] from rfl) (Reps.none _ _)))); intro v209 w20 ho21 hb hg_ hnew_; clear hg_ hnew_; (first | rw [← Ny208.out] at ho21 | (simp only [Int.reduceToNat] at ho21; rw [← Ny208.out] at ho21)); have HO210 := kl ho21 HB; replace BK204 := kb BK204 hb; replace HB := hs_ HB hb; clear hb ho21; obtain ⟨Ao22, co22, eo22⟩ := Kd.R_slice HO210.out; subst eo22) | ((with_reducible refine gate_callee (f := 51) rfl ?_); refine gl (some 26) Tryd.func51 #[.slice Ao22 y208.length co22] ?_; (with_reducible refine (impl_texts.calls kj2 _ _ y208 t211 _ ?side1 ?side2 A15.out).mono ?_); (case side1 => exact cr HO210); (case side2 => exact cl HO210); rintro e w23 ⟨v212, rfl, ho0, hb⟩; refine ⟨_, rfl, ?_⟩; replace HO210 := kr HO210 hb; have HO213 := kl ho0 HB; replace BK204 := kb BK204 hb; replace HB := hs_ HB hb; (try clear hb); (try clear hb2); (try clear hk); (try clear hi); (try clear ho0); obtain ⟨Ao24, co24, eo24⟩ := Kd.R_slice HO213.out; subst eo24) | ((with_reducible refine gate_callee (f := 50) rfl ?_); refine gl (some 27) Tryd.func50 #[.slice Ao24 t211.length co24, .string (⟨#[47]⟩ : ByteArray)] ?_; (with_reducible refine (impl_Join.calls _ _ t211 (⟨#[47]⟩ : ByteArray) t214 _ ?side1 ?side2 A16.out).mono ?_); (case side1 => exact cr HO213); (case side2 => exact cl HO213); rintro e w25 ⟨rfl, hb⟩; refine ⟨_, rfl, ?_⟩; replace HO210 := kr HO210 hb; replace HO213 := kr HO213 hb; replace BK204 := kb BK204 hb; replace HB := hs_ HB hb; (try clear hb); (try clear hb2); (try clear hk); (try clear hi)))
            go_ret
            exact ⟨ee, bb HB⟩
          · rw [if_neg c18] at H
            exact absurd H (by simp)
        · rw [if_neg c17] at H
          exact absurd H (by simp)
end Go.Proofs.YtibmeomlokigjaaDoor.R
namespace Go.Proofs.YtibmeomlokigjaaDoor.R
open Go.RowKit Go.Proofs.YtibmeomlokigjaaDoorW.PrintWords Go.Proofs.YtibmeomlokigjaaDoorW.PrintLast Go.Proofs.YtibmeomlokigjaaDoorW.PrintMore
attribute [local go_sem] max2_int min2_int max_two min_two max_three min_three max_four min_four
set_option linter.unusedVariables false
set_option linter.unusedSimpArgs false
def laws_FnExactFormatNote.f (k : Nat) (a0_0 : Int) (a0_1 : Int) (a0_2 : Int) (a0_3 : Int) (a0_4 : Int) (a0_5 : Int) (a0_6 : Int) : Option (Bool) := (laws_toNote.f a0_0 a0_1 a0_2 a0_3 a0_4 a0_5 a0_6).bind fun bt216 => ((spec_FormatNote.f k bt216.1 bt216.2.1 bt216.2.2.1 bt216.2.2.2.1 bt216.2.2.2.2.1 bt216.2.2.2.2.2.1 bt216.2.2.2.2.2.2).bind fun t223 => ((laws_toNote.f a0_0 a0_1 a0_2 a0_3 a0_4 a0_5 a0_6).bind fun bt224 => ((impl_FormatNote.f k bt224.1 bt224.2.1 bt224.2.2.1 bt224.2.2.2.1 bt224.2.2.2.2.1 bt224.2.2.2.2.2.1 bt224.2.2.2.2.2.2).bind fun t231 => (if t231.toList = t223.toList then (some true) else (some false)))))
set_option maxHeartbeats 8000000 in
set_option maxRecDepth 100000 in
theorem laws_FnExactFormatNote.calls (k : Nat) (a0_0 : Int) (a0_1 : Int) (a0_2 : Int) (a0_3 : Int) (a0_4 : Int) (a0_5 : Int) (a0_6 : Int) (r : Bool) (w : World) (h : laws_FnExactFormatNote.f k a0_0 a0_1 a0_2 a0_3 a0_4 a0_5 a0_6 = some r) (ht : TabW w := by first | exact Aside0.out (by assumption) | exact TabW.below (Aside0.out (by assumption)) (bb (by assumption)) | exact TabW.below (Aside0.out (by assumption)) (bb (Aside0.mk (Below.refl _ _)))) :
    Calls Tryd.prog 5 #[.agg #[.int .i64 a0_0, .int .i64 a0_1, .int .i64 a0_2, .int .i64 a0_3, .int .i64 a0_4, .int .i64 a0_5, .int .i64 a0_6]] w fun e w' => e = .returned (.bool r) ∧ Below w.heap.size w w' := by
  have HTW := Aside0.mk ht
  clear ht
  have hu36 := Tryd.underlying36
  have HB := Aside0.mk (Below.refl w.heap.size w)
  have H : ((laws_toNote.f a0_0 a0_1 a0_2 a0_3 a0_4 a0_5 a0_6).bind fun bt216 => ((spec_FormatNote.f k bt216.1 bt216.2.1 bt216.2.2.1 bt216.2.2.2.1 bt216.2.2.2.2.1 bt216.2.2.2.2.2.1 bt216.2.2.2.2.2.2).bind fun t223 => ((laws_toNote.f a0_0 a0_1 a0_2 a0_3 a0_4 a0_5 a0_6).bind fun bt224 => ((impl_FormatNote.f k bt224.1 bt224.2.1 bt224.2.2.1 bt224.2.2.2.1 bt224.2.2.2.2.1 bt224.2.2.2.2.2.1 bt224.2.2.2.2.2.2).bind fun t231 => (if t231.toList = t223.toList then (some true) else (some false)))))) = some r := h
  clear h
  replace H := Option.bind_eq_some_iff.mp H
  obtain ⟨⟨t216, t217, t218, t219, t220, t221, t222⟩, A20, H⟩ := H
  replace H : ((spec_FormatNote.f k t216 t217 t218 t219 t220 t221 t222).bind fun t223 => ((laws_toNote.f a0_0 a0_1 a0_2 a0_3 a0_4 a0_5 a0_6).bind fun bt224 => ((impl_FormatNote.f k bt224.1 bt224.2.1 bt224.2.2.1 bt224.2.2.2.1 bt224.2.2.2.2.1 bt224.2.2.2.2.2.1 bt224.2.2.2.2.2.2).bind fun t231 => (if t231.toList = t223.toList then (some true) else (some false))))) = some r := H
  have A2 := Aside0.mk A20
  clear A20
  replace H := Option.bind_eq_some_iff.mp H
  obtain ⟨t223, A30, H⟩ := H
  replace H : ((laws_toNote.f a0_0 a0_1 a0_2 a0_3 a0_4 a0_5 a0_6).bind fun bt224 => ((impl_FormatNote.f k bt224.1 bt224.2.1 bt224.2.2.1 bt224.2.2.2.1 bt224.2.2.2.2.1 bt224.2.2.2.2.2.1 bt224.2.2.2.2.2.2).bind fun t231 => (if t231.toList = t223.toList then (some true) else (some false)))) = some r := H
  have A3 := Aside0.mk A30
  clear A30
  replace H := Option.bind_eq_some_iff.mp H
  obtain ⟨⟨t224, t225, t226, t227, t228, t229, t230⟩, A40, H⟩ := H
  replace H : ((impl_FormatNote.f k t224 t225 t226 t227 t228 t229 t230).bind fun t231 => (if t231.toList = t223.toList then (some true) else (some false))) = some r := H
  have A4 := Aside0.mk A40
  clear A40
  replace H := Option.bind_eq_some_iff.mp H
  obtain ⟨t231, A50, H⟩ := H
  replace H : (if t231.toList = t223.toList then (some true) else (some false)) = some r := H
  have A5 := Aside0.mk A50
  clear A50
  have HC6 := Aside0.mk H
  clear H
  go_enter Tryd.func5, Tryd.ntmps5
  go_upto_if 13 with (first | ((with_reducible refine gate_dst (N := 1) rfl ?_); refine bx (N := 1) (cs := #[.int .i64 a0_0, .int .i64 a0_1, .int .i64 a0_2, .int .i64 a0_3, .int .i64 a0_4, .int .i64 a0_5, .int .i64 a0_6]) (t := 36) ?_; intro gb215 hg w7 hbox hb; have BK215 := Aside0.mk (hbox); have GW215 := gs hg HB; have GE215 := gs hg HB; replace HB := hs_ HB hb; clear hb hbox hg; have ⟨hcz8_0, hcz8_1, hcz8_2, hcz8_3, hcz8_4, hcz8_5, hcz8_6, hfz8_0, hfz8_1, hfz8_2, hfz8_3, hfz8_4, hfz8_5, hfz8_6⟩ := rz7 BK215) | ((with_reducible refine gate_callee (f := 18) rfl ?_); refine gl (some 6) Tryd.func18 #[.agg #[.int .i64 a0_0, .int .i64 a0_1, .int .i64 a0_2, .int .i64 a0_3, .int .i64 a0_4, .int .i64 a0_5, .int .i64 a0_6]] ?_; (with_reducible refine (laws_toNote.calls a0_0 a0_1 a0_2 a0_3 a0_4 a0_5 a0_6 t216 t217 t218 t219 t220 t221 t222 _ A2.out).mono ?_); rintro e w9 ⟨rfl, hb⟩; refine ⟨_, rfl, ?_⟩; replace BK215 := kb BK215 hb; replace HB := hs_ HB hb; (try clear hb); (try clear hb2); (try clear hk); (try clear hi)) | ((with_reducible refine gate_callee (f := 17) rfl ?_); refine gl (some 7) Tryd.func17 #[.agg #[.int .i64 t216, .int .i64 t217, .int .i64 t218, .int .i64 t219, .int .i64 t220, .int .i64 t221, .int .i64 t222]] ?_; (with_reducible refine (spec_FormatNote.calls k t216 t217 t218 t219 t220 t221 t222 t223 _ A3.out).mono ?_); rintro e w10 ⟨rfl, hb⟩; refine ⟨_, rfl, ?_⟩; replace BK215 := kb BK215 hb; replace HB := hs_ HB hb; (try clear hb); (try clear hb2); (try clear hk); (try clear hi); have ⟨hcz11_0, hcz11_1, hcz11_2, hcz11_3, hcz11_4, hcz11_5, hcz11_6, hfz11_0, hfz11_1, hfz11_2, hfz11_3, hfz11_4, hfz11_5, hfz11_6⟩ := rz7 BK215) | ((with_reducible refine gate_callee (f := 18) rfl ?_); refine gl (some 9) Tryd.func18 #[.agg #[.int .i64 a0_0, .int .i64 a0_1, .int .i64 a0_2, .int .i64 a0_3, .int .i64 a0_4, .int .i64 a0_5, .int .i64 a0_6]] ?_; (with_reducible refine (laws_toNote.calls a0_0 a0_1 a0_2 a0_3 a0_4 a0_5 a0_6 t224 t225 t226 t227 t228 t229 t230 _ A4.out).mono ?_); rintro e w12 ⟨rfl, hb⟩; refine ⟨_, rfl, ?_⟩; replace BK215 := kb BK215 hb; replace HB := hs_ HB hb; (try clear hb); (try clear hb2); (try clear hk); (try clear hi)) | ((with_reducible refine gate_callee (f := 19) rfl ?_); refine gl (some 10) Tryd.func19 #[.agg #[.int .i64 t224, .int .i64 t225, .int .i64 t226, .int .i64 t227, .int .i64 t228, .int .i64 t229, .int .i64 t230]] ?_; (with_reducible refine (impl_FormatNote.calls k t224 t225 t226 t227 t228 t229 t230 t231 _ A5.out).mono ?_); rintro e w13 ⟨rfl, hb⟩; refine ⟨_, rfl, ?_⟩; replace BK215 := kb BK215 hb; replace HB := hs_ HB hb; (try clear hb); (try clear hb2); (try clear hk); (try clear hi)))
  (try simp only [Act.put, List.setIfInBounds_toArray, List.set_cons_zero, List.set_cons_succ])
  have H := HC6.out
  clear HC6
  by_cases c14 : t231.toList = t223.toList
  · rw [if_pos c14] at H
    have c14b0 : (t231.toList == t223.toList) = true := beq_iff_eq.mpr c14
    have c14b1 : (t231.toList != t223.toList) = false := bne_eq_false_iff_eq.mpr c14
    clear c14
    (first | rw [c14b0] | rw [c14b1] | (simp only [i64_w, i32_w]; rw [c14b0]) | skip)
    obtain rfl := Option.some.inj H
    go_wp2
    go_ret
    exact ⟨ee, bb HB⟩
  · rw [if_neg c14] at H
    have c14b0 : (t231.toList == t223.toList) = false := beq_eq_false_iff_ne.mpr c14
    have c14b1 : (t231.toList != t223.toList) = true := bne_iff_ne.mpr c14
    (first | rw [c14b0] | rw [c14b1] | (simp only [i64_w, i32_w]; rw [c14b0]) | skip)
    obtain rfl := Option.some.inj H
    go_wp2
    go_ret
    exact ⟨ee, bb HB⟩
end Go.Proofs.YtibmeomlokigjaaDoor.R
namespace Go.Proofs.YtibmeomlokigjaaDoor.Q
open Go.RowKit Go.Proofs.YtibmeomlokigjaaDoorW.PrintWords Go.Proofs.YtibmeomlokigjaaDoorW.PrintLast Go.Proofs.YtibmeomlokigjaaDoorW.PrintMore
attribute [local go_sem] max2_int min2_int max_two min_two max_three min_three max_four min_four
set_option linter.unusedVariables false
set_option linter.unusedSimpArgs false
def errW : Option Int → Value
  | none => .nilIface
  | some c => .iface 0 (.int .i64 c)
theorem errW_none : errW none = .nilIface := rfl
theorem errW_some (c : Int) : errW (some c) = .iface 0 (.int .i64 c) := rfl
end Go.Proofs.YtibmeomlokigjaaDoor.Q
namespace Go.Proofs.YtibmeomlokigjaaDoor.Opens
open Go.ChangeShapes Go.WideShapes Go.ChangeAt Go.RowKit Go.Proofs.YtibmeomlokigjaaDoor.Q Go.Proofs.YtibmeomlokigjaaDoorW.PrintWords Go.Proofs.YtibmeomlokigjaaDoorW.PrintLast
section
variable {H : Type} (enc : TypeId × Value → H) (P : Program) (W : World)
def Opens {α : Type} (t : TypeId) (d : Kd α) (ok : α → Prop) : Prop := ∀ (fuel : Nat) (cs : List Value) (x : DataW H × List MemPlace), DataW.trod enc P W 0 (fun _ => true) true fuel t cs = some x → ∃ a, d.K W a cs ∧ ok a
def OpensFs {α : Type} (off : Nat) (fs : List Field) (d : Kd α) (ok : α → Prop) : Prop :=
  ∀ (n : Nat) (cs : List Value) (xs : List (DataW H × List MemPlace)), (∀ (i : Nat) (f : Field), fs[i]? = some f → DataW.trod enc P W 0 (fun _ => true) true n f.type ((cs.drop f.offset).take (P.cellsOf f.type)) = xs[i]?) → xs.length = fs.length → cs.length = off + d.sz → ∃ a, d.K W a (cs.drop off) ∧ ok a
variable {enc P W}
variable {α β : Type} {t : TypeId} {d : Kd α} {d2 : Kd β} {ok : α → Prop} {ok2 : β → Prop}
theorem int {k : IntKind} (ht : P.underlying t = some (.int k)) : Opens enc P W t (Kd.int k) (fun n => (Lit.int k n).wf = true) := fun fuel cs x h => by
  obtain ⟨n, rfl, _, hw⟩ := DataW.trod_int ht h
  exact ⟨n, rfl, hw⟩
theorem one {f : Field} (off : Nat) (ho : f.offset = off) (he : Opens enc P W f.type d ok) (hc : P.cellsOf f.type = d.sz) : OpensFs enc P W off [f] d ok := fun n cs xs h hx hl => by
  have h0 := h 0 f rfl
  have hz : xs.length = 1 := hx
  obtain ⟨y, rfl⟩ := List.length_eq_one_iff.mp hz
  rw [ho, hc, List.take_of_length_le (by simp; omega)] at h0
  exact he _ _ _ h0
theorem cons {f : Field} {fs : List Field} (off off2 : Nat) (ho : f.offset = off) (he : Opens enc P W f.type d ok) (hc : P.cellsOf f.type = d.sz) (h2 : off + d.sz = off2) (hr : OpensFs enc P W off2 fs d2 ok2) :
    OpensFs enc P W off (f :: fs) (Kd.pair d d2) (fun x => ok x.1 ∧ ok2 x.2) := fun n cs xs h hx hl => by
  cases xs with
  | nil => simp at hx
  | cons y ys =>
    have h0 := h 0 f rfl
    rw [ho, hc] at h0
    obtain ⟨p, hp, hok⟩ := he _ _ _ h0
    have hl' : cs.length = off + (d.sz + d2.sz) := hl
    obtain ⟨q, hq, hok2⟩ := hr n cs ys (fun i g hi => h (i + 1) g hi) (by simpa using hx) (by omega)
    refine ⟨(p, q), ⟨_, _, ?_, hp, hq⟩, hok, hok2⟩
    rw [← h2, ← List.drop_drop, List.take_append_drop]
theorem struct {fs : Array Field} (ht : P.underlying t = some (.struct fs)) (hc : P.cellsOf t = d.sz) (h : OpensFs enc P W 0 fs.toList d ok) : Opens enc P W t d ok := fun fuel cs x hx => by
  obtain ⟨xs, n, _, _, hl, hxs, hf⟩ := DataW.trod_struct ht hx
  have := h n cs xs (fun i f hi => hf i f (by simpa using hi)) (by simpa using hxs) (by omega)
  simpa using this
end
theorem trod_struct_val {H : Type} {enc : TypeId × Value → H} {P : Program} {W : World} {r : Reach} {b0 : Nat} {t : TypeId} {v : Value} {fs : Array Field} {α : Type} {d : Kd α} {ok : α → Prop} {dd : DataW H} {ps : List MemPlace} (ht : P.underlying t = some (.struct fs)) (hval : Value.okWide P W r b0 t v) (hd : DataW.Trod enc P W 0 (fun _ => true) true t v dd ps) (h : Opens enc P W t d ok) :
    ∃ cs a, v = .agg cs ∧ d.K W a cs.toList ∧ ok a := by
  obtain ⟨cs, rfl, _⟩ := okWide_struct ht hval
  obtain ⟨fuel, hf⟩ := hd
  obtain ⟨a, hK, hok⟩ := h _ _ _ hf
  exact ⟨cs, a, rfl, by simpa [Value.cells] using hK, hok⟩
end Go.Proofs.YtibmeomlokigjaaDoor.Opens
namespace Go.Proofs.YtibmeomlokigjaaDoor.Laid
open Go.ChangeShapes Go.WideShapes Go.ChangeAt Go.WideMaps Go.WideElems Go.RowKit
noncomputable def laid3 : List (String × DataW Unit) := Rows.fnExactFormatGameRow.laid
theorem door_met (os : Os) (args : Array Value) : laidMetH Tryd.prog laid3 ((World.doorLaid Tryd.prog 400 os).forCall (fun _ _ => 0) ⟨#[], args, []⟩).memory :=
  laidMetH_of_parts3 (fuel := 8) (laidMet_of_run' 8 (by kernel_rfl) (by kernel_rfl)) (by kernel_rfl) (by kernel_rfl)
theorem door_shaped (os : Os) (args : Array Value) : ((World.doorLaid Tryd.prog 400 os).forCall (fun _ _ => 0) ⟨#[], args, []⟩).Shaped Tryd.prog :=
  World.shaped_of_RefB (by kernel_rfl) (by kernel_rfl)
end Go.Proofs.YtibmeomlokigjaaDoor.Laid
namespace Go.Proofs.YtibmeomlokigjaaDoor.Laid
open Go.RowKit
theorem gTab : Tryd.prog.globalNamed "internal/strconv.uint64pow10" = some (Tryd.prog.globalNamed "internal/strconv.uint64pow10" |>.getD 0) := by kernel_rfl
theorem tab {W : World} (h : laidMetH Tryd.prog laid3 W) : R.TabW W := by
  rw [MakeChecks.laidMetH_plain _ _ _ (by kernel_rfl)] at h
  have h2 : laidMet Tryd.prog [("math/bits.deBruijn32tab", Rows.laid_math_bits_deBruijn32tab), ("math/bits.deBruijn64tab", Rows.laid_math_bits_deBruijn64tab), ("internal/strconv.uint64pow10", Lib.tabData .u64 Lib.pow10Tab)] W := h
  exact R.TabW.of_tabIs (Lib.tabIs_of_head (t := 140) (e := 134) (n := 20) gTab (by kernel_rfl) Tryd.underlying140 Tryd.underlying134 (by kernel_rfl) (by kernel_rfl) (laidMet.tail (laidMet.tail h2)))
end Go.Proofs.YtibmeomlokigjaaDoor.Laid
namespace Go.Proofs.YtibmeomlokigjaaDoor.R
open Go.RowKit Go.Proofs.YtibmeomlokigjaaDoorW.PrintWords Go.Proofs.YtibmeomlokigjaaDoorW.PrintLast Go.Proofs.YtibmeomlokigjaaDoorW.PrintMore
def mk (l : List UInt8) : ByteArray := ⟨l.toArray⟩
theorem mk_append (a b : List UInt8) : mk a ++ mk b = mk (a ++ b) := by
  apply ByteArray.ext
  simp [mk]
theorem mk_size (l : List UInt8) : (mk l).size = l.length := by simp [mk, ByteArray.size]
theorem mk_self (s : ByteArray) : mk s.data.toList = s := rfl
theorem strOfNums_mk (l : List Int) : strOfNums l = mk (l.map fun n => UInt8.ofNat n.toNat) := rfl
def dec (n : Int) : ByteArray := mk (Lib.decDigits n.toNat)
theorem digits_len (m : Nat) : ∀ n : Nat, n < 10 ^ (m + 1) → (Lib.decDigits n).length ≤ m + 1 := by
  induction m with
  | zero => intro n h; rw [Lib.decDigits_one (by simpa using h)]; simp
  | succ m ih =>
    intro n h
    rw [Lib.decDigits]
    split
    · simp
    · have := ih (n / 10) (by rw [Nat.pow_succ] at h; omega)
      simp; omega
theorem dec_size (n : Int) (h0 : 0 ≤ n) (h1 : n < 1000000) : (dec n).size ≤ 6 := by
  unfold dec
  rw [mk_size]
  exact digits_len 5 n.toNat (by omega)
theorem wrap_id (x : Int) (h0 : -9223372036854775808 ≤ x) (h1 : x ≤ 9223372036854775807) : wrap64 x = x := by unfold wrap64; omega
theorem formatInt_l0 (m : Nat) : ∀ (k : Nat) (n : Int) (s : List UInt8), 0 ≤ n → n.toNat < 10 ^ (m + 1) → n ≤ 9223372036854775807 → s.length + m ≤ 1000 → spec_FormatInt.l0 (k + m + 1) n (mk s) = some (mk (Lib.decDigits n.toNat ++ s)) := by
  induction m with
  | zero =>
    intro k n s h0 h1 h2 hs
    have hn : n.toNat < 10 := by simpa using h1
    rw [spec_FormatInt.l0, if_neg (by omega)]
    simp only [Option.bind_some, strOfNums_mk, List.map_cons, List.map_nil, mk_size, mk_append]
    rw [if_pos (by simp; omega), Lib.decDigits_one hn, wrap_id _ (by omega) (by omega), show ((48 + n) % 256).toNat = 48 + n.toNat by omega]
  | succ m ih =>
    intro k n s h0 h1 h2 hs
    by_cases hn : n > 9
    · rw [show k + (m + 1) + 1 = (k + m + 1) + 1 by omega, spec_FormatInt.l0, if_pos hn]
      have h10 : Int.tdiv n 10 = n / 10 := Int.tdiv_eq_ediv_of_nonneg h0
      have hm10 : Int.tmod n 10 = n % 10 := Int.tmod_eq_emod_of_nonneg h0
      simp only [Option.bind_some, strOfNums_mk, List.map_cons, List.map_nil, mk_size, mk_append, h10, hm10]
      rw [if_pos (by simp; omega), wrap_id (n / 10) (by omega) (by omega)]
      have hlt : (n / 10).toNat < 10 ^ (m + 1) := by
        have : n.toNat < 10 * 10 ^ (m + 1) := by rw [Nat.pow_succ] at h1; omega
        omega
      rw [List.singleton_append, ih k (n / 10) _ (by omega) hlt (by omega) (by simp; omega)]
      congr 2
      rw [wrap_id _ (by omega) (by omega), show ((48 + n % 10) % 256).toNat = 48 + n.toNat % 10 by omega]
      conv => rhs; rw [Lib.decDigits]
      rw [dif_neg (by omega), List.append_assoc, show (n / 10).toNat = n.toNat / 10 by omega]
      rfl
    · rw [show k + (m + 1) + 1 = (k + m + 1) + 1 by omega, spec_FormatInt.l0, if_neg hn]
      simp only [Option.bind_some, strOfNums_mk, List.map_cons, List.map_nil, mk_size, mk_append]
      rw [if_pos (by simp; omega), Lib.decDigits_one (by omega), wrap_id _ (by omega) (by omega), show ((48 + n) % 256).toNat = 48 + n.toNat by omega]
theorem specFormatInt (k : Nat) (n : Int) (h0 : 0 ≤ n) (h1 : n < 1000000) : spec_FormatInt.f (k + 7) n = some (dec n) := by
  rw [show k + 7 = (k + 6) + 1 by omega, spec_FormatInt.f, if_neg (by omega)]
  have := formatInt_l0 5 k n [] h0 (by omega) (by omega) (by simp)
  rw [List.append_nil] at this
  exact this
theorem implFormatInt (n : Int) (h0 : 0 ≤ n) (h1 : n < 1000000) : impl_FormatInt.f n = some (dec n) := by
  unfold impl_FormatInt.f strconv_Itoa.f
  rw [if_pos (by omega), Lib.itoa, if_neg (by omega)]
  rfl
theorem rd_nat (l : List Int) (i : Nat) (h : i < l.length) : rd l (i : Int) = l[i] := by
  simp [rd, h]
theorem texts_l0 (l : List Int) (hl : l.length ≤ 1000000) (hr : ∀ x ∈ l, 0 ≤ x ∧ x < 1000000) (k : Nat) : ∀ (m i : Nat) (acc : List ByteArray), i + m = l.length → acc.length = i → impl_texts.l0 (k + m + 1) acc l (l.length : Int) (i : Int) = some (acc ++ (l.drop i).map dec) := by
  intro m
  induction m with
  | zero =>
    intro i acc hi ha
    rw [impl_texts.l0, if_neg (by omega), List.drop_eq_nil_of_le (by omega)]
    simp
  | succ m ih =>
    intro i acc hi ha
    have hlt : i < l.length := by omega
    rw [show k + (m + 1) + 1 = (k + m + 1) + 1 by omega, impl_texts.l0, if_pos (by omega), if_pos (by omega), if_pos (by omega), rd_nat l i hlt]
    obtain ⟨r0, r1⟩ := hr l[i] (List.getElem_mem hlt)
    rw [implFormatInt _ r0 r1, Option.bind_some, if_pos (by omega), wrap_id _ (by omega) (by omega)]
    have := ih (i + 1) (acc ++ [dec l[i]]) (by omega) (by simp [ha])
    rw [show ((i : Int) + 1) = ((i + 1 : Nat) : Int) by omega, this, List.drop_eq_getElem_cons hlt, List.map_cons, List.append_assoc]
    rfl
theorem texts_eq (l : List Int) (hl : l.length ≤ 1000000) (hr : ∀ x ∈ l, 0 ≤ x ∧ x < 1000000) (k : Nat) : impl_texts.f (k + l.length + 1) l = some (l.map dec) := by
  unfold impl_texts.f
  have := texts_l0 l hl hr k l.length 0 [] (by omega) rfl
  simpa using this
def joinB (l : List ByteArray) (s : ByteArray) : ByteArray := mk (Lib.join (l.map (·.data.toList)) s.data.toList)
theorem join_eq (l : List ByteArray) (s : ByteArray) (h1 : l.length ≤ 1000000) (h2 : (joinB l s).size ≤ 140737488355328) : impl_Join.f l s = some (joinB l s) := by
  unfold joinB at h2
  rw [mk_size] at h2
  unfold impl_Join.f strings_Join.f
  rw [if_pos ⟨by omega, h2⟩]
  rfl
theorem join2 (a b s : ByteArray) : joinB [a, b] s = a ++ s ++ b := by
  simp [joinB, Lib.join, List.intercalate, ← mk_append, mk_self, ByteArray.append_assoc]
theorem join2_sz (a b s : ByteArray) : (joinB [a, b] s).size = a.size + s.size + b.size := by rw [join2]; simp
def withinT (n low high : Int) : Bool := decide (low ≤ n) && decide (n ≤ high)
theorem within_eq (n low high : Int) : impl_within.f n low high = some (withinT n low high) := by
  unfold impl_within.f withinT
  split <;> simp_all <;> omega
theorem l01In_eq (n low high : Int) : spec_l01In.f n low high = some (withinT n low high) := by
  unfold spec_l01In.f withinT
  split <;> simp_all <;> omega
theorem texts2 (a b : Int) (ha : 0 ≤ a ∧ a < 1000000) (hb : 0 ≤ b ∧ b < 1000000) (k : Nat) : impl_texts.f (k + 3) [a, b] = some [dec a, dec b] := texts_eq [a, b] (by simp) (by simp [ha, hb]) k
end Go.Proofs.YtibmeomlokigjaaDoor.R
namespace Go.Proofs.YtibmeomlokigjaaDoor.R
open Go.RowKit Go.Proofs.YtibmeomlokigjaaDoorW.PrintWords Go.Proofs.YtibmeomlokigjaaDoorW.PrintLast Go.Proofs.YtibmeomlokigjaaDoorW.PrintMore
def gameOkT (n h a x y s : Int) : Bool := withinT n 2 8 && !decide (h = a) && withinT h 0 (n - 1) && withinT a 0 (n - 1) && withinT s 0 4 && withinT x 0 (if s = 1 then 99 else 0) && withinT y 0 (if s = 1 then 99 else 0)
theorem implGameOk (k : Nat) (h a x y s : Int) : impl_GameOk.f (k + 1) 8 h a x y s = some (gameOkT 8 h a x y s) := by
  unfold impl_GameOk.f gameOkT
  simp only [impl_GameOk.j0, within_eq, Option.bind_some]
  rw [show wrap64 (8 - 1) = 7 from (wrap_id _ (by decide) (by decide)).trans rfl, show (8 : Int) - 1 = 7 from rfl, show withinT 8 2 8 = true from rfl]
  rcases Bool.eq_false_or_eq_true (withinT h 0 7) with e1 | e1 <;> rcases Bool.eq_false_or_eq_true (withinT a 0 7) with e2 | e2 <;> rcases Bool.eq_false_or_eq_true (withinT s 0 4) with e3 | e3 <;>
    by_cases hs : s = 1 <;> by_cases hh : h = a <;> rcases Bool.eq_false_or_eq_true (withinT x 0 (if s = 1 then 99 else 0)) with e4 | e4 <;> simp_all
theorem zero_eq (x : Int) : withinT x 0 0 = (x == 0) := by
  unfold withinT
  rcases Int.lt_trichotomy x 0 with h | h | h
  · rw [decide_eq_false (by omega), Bool.false_and]; exact (beq_eq_false_iff_ne.mpr (by omega)).symm
  · subst h; rfl
  · rw [decide_eq_false (show ¬ x ≤ 0 by omega), Bool.and_false]; exact (beq_eq_false_iff_ne.mpr (by omega)).symm
theorem specGameOk (k : Nat) (h a x y s : Int) : spec_GameOk.f (k + 1) 8 h a x y s = some (gameOkT 8 h a x y s) := by
  unfold spec_GameOk.f gameOkT
  simp only [spec_GameOk.j0, l01In_eq, Option.bind_some]
  rw [show wrap64 (8 - 1) = 7 from (wrap_id _ (by decide) (by decide)).trans rfl, show (8 : Int) - 1 = 7 from rfl, show withinT 8 2 8 = true from rfl]
  rcases Bool.eq_false_or_eq_true (withinT h 0 7) with e1 | e1 <;> rcases Bool.eq_false_or_eq_true (withinT a 0 7) with e2 | e2 <;> rcases Bool.eq_false_or_eq_true (withinT s 0 4) with e3 | e3 <;>
    by_cases hs : s = 1 <;> by_cases hh : h = a <;> rcases Bool.eq_false_or_eq_true (withinT x 0 99) with e4 | e4 <;> by_cases hx : x = 0 <;> simp_all [zero_eq]
def stateT (s : Int) (x : ByteArray) : ByteArray := rdOf ByteArray.empty [⟨#[111, 112, 101, 110]⟩, x, ⟨#[104, 111, 109, 101]⟩, ⟨#[97, 119, 97, 121]⟩, ⟨#[118, 111, 105, 100]⟩] s
def gameT (h a x y s : Int) : ByteArray := if gameOkT 8 h a x y s then dec h ++ ⟨#[45]⟩ ++ dec a ++ ⟨#[32]⟩ ++ stateT s (dec x ++ ⟨#[58]⟩ ++ dec y) else ⟨#[]⟩
theorem gameOk_ranges {h a x y s : Int} (g : gameOkT 8 h a x y s = true) : (0 ≤ h ∧ h < 1000000) ∧ (0 ≤ a ∧ a < 1000000) ∧ (0 ≤ x ∧ x < 1000000) ∧ (0 ≤ y ∧ y < 1000000) ∧ 0 ≤ s ∧ s < 5 := by
  simp only [gameOkT, withinT, Bool.and_eq_true, decide_eq_true_eq] at g
  obtain ⟨⟨⟨⟨⟨_, h1, h2⟩, h3, h4⟩, h5, h6⟩, h7, h8⟩, h9, h10⟩ := g
  by_cases hs : s = 1
  · simp only [hs, if_true] at *; omega
  · simp only [hs, if_false] at *; omega
theorem stateT_size (s : Int) (x : ByteArray) (h : x.size ≤ 13) : (stateT s x).size ≤ 13 := by
  unfold stateT rdOf
  rcases s.toNat with _ | _ | _ | _ | _ | n
  · exact (by decide : (4 : Nat) ≤ 13)
  · exact h
  · exact (by decide : (4 : Nat) ≤ 13)
  · exact (by decide : (4 : Nat) ≤ 13)
  · exact (by decide : (4 : Nat) ≤ 13)
  · exact Nat.zero_le _
theorem one_size (c : UInt8) : (⟨#[c]⟩ : ByteArray).size = 1 := rfl
theorem implFormatGame (k : Nat) (h a x y s : Int) : impl_FormatGame.f (k + 7) h a x y s = some (gameT h a x y s) := by
  unfold impl_FormatGame.f gameT
  rw [implGameOk (k + 6), Option.bind_some]
  by_cases g : gameOkT 8 h a x y s = true
  · obtain ⟨rh, ra, rx, ry, rs⟩ := gameOk_ranges g
    have zh := dec_size h rh.1 rh.2
    have za := dec_size a ra.1 ra.2
    have zx := dec_size x rx.1 rx.2
    have zy := dec_size y ry.1 ry.2
    have zs := stateT_size s (dec x ++ ⟨#[58]⟩ ++ dec y) (by simp only [ByteArray.size_append, one_size]; omega)
    rw [if_pos g, if_pos g, texts2 x y rx ry (k + 4), Option.bind_some, join_eq _ _ (by simp) (by rw [join2_sz, one_size]; omega), Option.bind_some, Option.bind_some, if_pos rs.1, if_pos (by simp; omega), texts2 h a rh ra (k + 4), Option.bind_some, join_eq _ _ (by simp) (by rw [join2_sz, one_size]; omega), Option.bind_some]
    simp only [join2]
    have e : rdOf ByteArray.empty [⟨#[111, 112, 101, 110]⟩, dec x ++ ⟨#[58]⟩ ++ dec y, ⟨#[104, 111, 109, 101]⟩, ⟨#[97, 119, 97, 121]⟩, ⟨#[118, 111, 105, 100]⟩] s = stateT s (dec x ++ ⟨#[58]⟩ ++ dec y) := rfl
    rw [e, if_pos (by simp only [ByteArray.size_append, one_size]; omega), if_pos (by simp only [ByteArray.size_append, one_size]; omega)]
  · rw [if_neg g, if_neg g]
theorem specFormatGame (k : Nat) (h a x y s : Int) : spec_FormatGame.f (k + 7) h a x y s = some (gameT h a x y s) := by
  unfold spec_FormatGame.f gameT
  rw [specGameOk (k + 6), Option.bind_some]
  by_cases g : gameOkT 8 h a x y s = true
  · obtain ⟨rh, ra, rx, ry, rs⟩ := gameOk_ranges g
    have zh := dec_size h rh.1 rh.2
    have za := dec_size a ra.1 ra.2
    have zx := dec_size x rx.1 rx.2
    have zy := dec_size y ry.1 ry.2
    rw [if_pos g, if_pos g, specFormatInt k h rh.1 rh.2, Option.bind_some, if_pos (by omega), specFormatInt k a ra.1 ra.2, Option.bind_some, if_pos (by simp only [ByteArray.size_append, one_size]; omega), if_pos (by simp only [ByteArray.size_append, one_size]; omega)]
    by_cases hs : s = 1
    · subst hs
      rw [if_pos rfl, specFormatInt k x rx.1 rx.2, Option.bind_some, if_pos (by simp only [ByteArray.size_append, one_size]; omega), if_pos (by simp only [ByteArray.size_append, one_size]; omega), specFormatInt k y ry.1 ry.2, Option.bind_some, if_pos (by simp only [ByteArray.size_append, one_size]; omega)]
      rw [show stateT 1 (dec x ++ ⟨#[58]⟩ ++ dec y) = dec x ++ ⟨#[58]⟩ ++ dec y from rfl]
      simp only [ByteArray.append_assoc]
    · have zs := stateT_size s ⟨#[]⟩ (by decide)
      have e : rdOf ByteArray.empty [⟨#[111, 112, 101, 110]⟩, ⟨#[]⟩, ⟨#[104, 111, 109, 101]⟩, ⟨#[97, 119, 97, 121]⟩, ⟨#[118, 111, 105, 100]⟩] s = stateT s ⟨#[]⟩ := rfl
      have e2 : stateT s (dec x ++ ⟨#[58]⟩ ++ dec y) = stateT s ⟨#[]⟩ := by
        unfold stateT rdOf
        rcases ht : s.toNat with _ | _ | m
        · rfl
        · omega
        · rfl
      rw [if_neg hs, Option.bind_some, if_pos rs.1, if_pos (by simp; omega), e, e2, if_pos (by simp only [ByteArray.size_append, one_size]; omega)]
  · rw [if_neg g, if_neg g]
end Go.Proofs.YtibmeomlokigjaaDoor.R
namespace Go.Proofs.YtibmeomlokigjaaDoor.R
open Go.RowKit Go.Proofs.YtibmeomlokigjaaDoorW.PrintWords Go.Proofs.YtibmeomlokigjaaDoorW.PrintLast Go.Proofs.YtibmeomlokigjaaDoorW.PrintMore
theorem gameT_size (h a x y s : Int) : (gameT h a x y s).size ≤ 40 := by
  unfold gameT
  by_cases g : gameOkT 8 h a x y s = true
  · obtain ⟨rh, ra, rx, ry, rs⟩ := gameOk_ranges g
    have zh := dec_size h rh.1 rh.2
    have za := dec_size a ra.1 ra.2
    have zx := dec_size x rx.1 rx.2
    have zy := dec_size y ry.1 ry.2
    have zs := stateT_size s (dec x ++ ⟨#[58]⟩ ++ dec y) (by simp only [ByteArray.size_append, one_size]; omega)
    rw [if_pos g]
    simp only [ByteArray.size_append, one_size]
    omega
  · rw [if_neg g]; exact Nat.zero_le _
theorem note_both (k : Nat) (n g h a x y s : Int) : ∃ t, impl_FormatNote.f (k + 8) n g h a x y s = some t ∧ spec_FormatNote.f (k + 8) n g h a x y s = some t := by
  have zg := gameT_size h a x y s
  have fin : ∀ b : Bool, (b = false → (0 ≤ n ∧ n < 1000000) ∧ 0 ≤ g ∧ g < 1000000) → ∃ t, impl_FormatNote.j0 (k + 8) (gameT h a x y s) b n g h a x y s = some t ∧ spec_FormatNote.j0 (k + 8) (gameT h a x y s) b n g h a x y s = some t := by
    intro b hb
    cases b with
    | true => exact ⟨_, rfl, rfl⟩
    | false =>
      obtain ⟨rn, rg⟩ := hb rfl
      have zn := dec_size n rn.1 rn.2
      have zz := dec_size g rg.1 rg.2
      rw [show k + 8 = (k + 7) + 1 by omega, impl_FormatNote.j0, spec_FormatNote.j0, if_neg (show ¬ (false = true) by simp), show k + 7 = (k + 4) + 3 by omega, texts2 n g rn rg, Option.bind_some, join_eq _ _ (by simp) (by rw [join2_sz, one_size]; omega), Option.bind_some, join2, if_pos (by simp only [ByteArray.size_append, one_size]; omega), if_pos (by simp only [ByteArray.size_append, one_size]; omega)]
      rw [if_neg (show ¬ (false = true) by simp), show k + 4 + 3 = k + 7 by omega, specFormatInt k n rn.1 rn.2, Option.bind_some, if_pos (by omega), specFormatInt k g rg.1 rg.2, Option.bind_some, if_pos (by simp only [ByteArray.size_append, one_size]; omega), if_pos (by simp only [ByteArray.size_append, one_size]; omega), if_pos (by simp only [ByteArray.size_append, one_size]; omega)]
      exact ⟨_, rfl, rfl⟩
  unfold impl_FormatNote.f spec_FormatNote.f
  rw [show k + 8 = (k + 1) + 7 by omega, implFormatGame, specFormatGame, within_eq, l01In_eq, within_eq, l01In_eq]
  simp only [Option.bind_some]
  by_cases h1 : withinT n 1 100000 = true
  · rw [if_pos h1, if_pos h1]
    by_cases h2 : withinT g 0 59 = true
    · rw [if_pos h2, if_pos h2]
      refine fin _ (fun _ => ?_)
      simp only [withinT, Bool.and_eq_true, decide_eq_true_eq] at h1 h2
      omega
    · rw [if_neg h2, if_neg h2]
      exact fin true (fun h => by cases h)
  · rw [if_neg h1, if_neg h1]
    exact fin true (fun h => by cases h)
end Go.Proofs.YtibmeomlokigjaaDoor.R
namespace Go.Proofs.YtibmeomlokigjaaDoor.Pure
open Go.RowKit Go.Proofs.YtibmeomlokigjaaDoor.R Go.Proofs.YtibmeomlokigjaaDoorW.PrintWords Go.Proofs.YtibmeomlokigjaaDoorW.PrintLast
theorem FnExactFormatNote (n g h a x y s : Int) (_ok : (Lit.int .i64 n).wf = true ∧ (Lit.int .i64 g).wf = true ∧ (Lit.int .i64 h).wf = true ∧ (Lit.int .i64 a).wf = true ∧ (Lit.int .i64 x).wf = true ∧ (Lit.int .i64 y).wf = true ∧ (Lit.int .i64 s).wf = true) : ∃ k, laws_FnExactFormatNote.f k n g h a x y s = some true := by
  obtain ⟨t, h1, h2⟩ := note_both 0 n g h a x y s
  refine ⟨0 + 8, ?_⟩
  unfold laws_FnExactFormatNote.f laws_toNote.f laws_toGame.f
  simp only [Option.bind_some]
  rw [h1, h2, Option.bind_some, Option.bind_some, if_pos rfl]
end Go.Proofs.YtibmeomlokigjaaDoor.Pure
namespace Go.Proofs.YtibmeomlokigjaaDoor.fnExactFormatNote
open Go.ChangeShapes Go.WideShapes Go.ChangeAt Go.RowKit
open Go.ChangeMaps (open_string shut_string)
set_option linter.unusedVariables false
theorem own : ownKnob Tryd.prog.godebug = none := by kernel_rfl
theorem laidOut : laidOutB Tryd.prog = true := by kernel_rfl
set_option maxRecDepth 100000 in
set_option maxHeartbeats 4000000 in
theorem lifted (os : Os) (started : os.Started) (H : Type) (enc : TypeId × Value → H) :
    ReturnsInHanded {} Tryd.checked os 5 .any (fun w args => (Rows.fnExactFormatNoteSpec.pre enc Tryd.prog Tryd.f5 [] false w args ∧ laidMetH Tryd.prog Laid.laid3 w) ∧ sizedMet enc Tryd.prog Tryd.f5 (OpenSpec.ofChange Rows.fnExactFormatNoteSpec) false w args)
      (Rows.fnExactFormatNoteSpec.post enc Tryd.prog Tryd.f5 false true false false) := by
  refine returnsInHanded_of_change_and (C := Tryd.checked) (X := fun w _ => laidMetH Tryd.prog Laid.laid3 w) (fun _ _ _ hh h => h.of_heap hh) own started (by kernel_rfl) Tryd.func5
    (ChangeSpec.witness_shaped (enc := enc) (C := Tryd.checked) (os := os) (X := fun w _ => laidMetH Tryd.prog Laid.laid3 w) false (World.doorLaid Tryd.prog 400 os) #[.agg #[.int .i64 0, .int .i64 0, .int .i64 0, .int .i64 0, .int .i64 0, .int .i64 0, .int .i64 0]] 8 rfl (Laid.door_shaped os _) (by kernel_rfl) (by kernel_rfl) (by kernel_rfl) (Laid.door_met os _)) ?_
  intro W base args ds gs before hval0 hW hcnd hsz0 hL _
  have hval : ∀ (j : Nat) t v, Tryd.f5.params[j]? = some t → args[j]? = some v → Value.okWide Tryd.prog W .any base t v := hval0
  have hW' := hW
  obtain ⟨p, q, hA0, hV, rfl, hfz, hnd⟩ := hW
  have hA : DataW.TrodAll enc Tryd.prog W 0 (fun _ => true) true Tryd.f5.params.toList args.toList ds p := hA0
  rw [Tryd.params5] at hA hval
  obtain ⟨v0, vs0, d0, ds0, p0, q0, hargs0, rfl, rfl, h0, r0⟩ := trodAll_cons hA
  obtain ⟨rfl, rfl, rfl⟩ := trodAll_nil r0
  obtain rfl : args = #[v0] := by cases args; simp_all
  obtain ⟨rfl, rfl⟩ := trodVars_none hV
  have k0 := h0; have lt0 : ∀ x ∈ p0, x.block < W.heap.size := by obtain ⟨m, hm⟩ := k0; exact DataW.trod_lt m _ _ _ hm
  obtain ⟨cs0, x0, rfl, hK0, ok0⟩ := Opens.trod_struct_val Tryd.underlying36 (hval 0 36 v0 rfl rfl) h0 (Opens.struct Tryd.underlying36 (by kernel_rfl) (Opens.cons 0 1 rfl (Opens.int Tryd.underlying3) (by kernel_rfl) rfl (Opens.cons 1 2 rfl (Opens.int Tryd.underlying3) (by kernel_rfl) rfl (Opens.one 2 rfl (Opens.struct Tryd.underlying23 (by kernel_rfl) (Opens.cons 0 1 rfl (Opens.int Tryd.underlying3) (by kernel_rfl) rfl (Opens.cons 1 2 rfl (Opens.int Tryd.underlying3) (by kernel_rfl) rfl (Opens.cons 2 3 rfl (Opens.int Tryd.underlying3) (by kernel_rfl) rfl (Opens.cons 3 4 rfl (Opens.int Tryd.underlying3) (by kernel_rfl) rfl (Opens.one 4 rfl (Opens.int Tryd.underlying3) (by kernel_rfl))))))) (by kernel_rfl)))))
  obtain ⟨a0_0, a0_1, ⟨a0_2_0, a0_2_1, a0_2_2, a0_2_3, a0_2_4⟩⟩ := x0
  obtain ⟨_, _, hcs0, rfl, ⟨_, _, rfl, rfl, ⟨_, _, rfl, rfl, ⟨_, _, rfl, rfl, ⟨_, _, rfl, rfl, ⟨_, _, rfl, rfl, rfl⟩⟩⟩⟩⟩⟩ := hK0
  obtain rfl : cs0 = #[.int .i64 a0_0, .int .i64 a0_1, .int .i64 a0_2_0, .int .i64 a0_2_1, .int .i64 a0_2_2, .int .i64 a0_2_3, .int .i64 a0_2_4] := Array.toList_inj.mp hcs0
  clear hA0 hval0 hsz0
  obtain ⟨k, hk⟩ := Pure.FnExactFormatNote a0_0 a0_1 a0_2_0 a0_2_1 a0_2_2 a0_2_3 a0_2_4 ok0
  refine (R.laws_FnExactFormatNote.calls k  a0_0 a0_1 a0_2_0 a0_2_1 a0_2_2 a0_2_3 a0_2_4 _ W  hk (Laid.tab hL)).mono fun e W' ⟨he, bel⟩ => ?_
  subst he
  exact ⟨_, rfl, _, _, _, [], _, [], hW', trodAll_mk1 (shut_bool Tryd.underlying4 _), (trodAll_cons_mk (Below.trod laidOut (by kernel_rfl) (of_decide_eq_true (by kernel_rfl)) k0 bel lt0) trodAll_mk0), rfl, bel.frame _, fun h => by cases h⟩
theorem over : Rows.fnExactFormatNoteRow.holds Tryd.pinned (OpenSpec.ofChange Rows.fnExactFormatNoteSpec) :=
  OpenClaim.holds_of_wide 5 Tryd.f5 rfl rfl rfl rfl rfl rfl rfl ⟨rfl, rfl, rfl, rfl, rfl⟩ rfl rfl rfl rfl rfl (by kernel_rfl) Tryd.func5 (by kernel_rfl)
    (of_decide_eq_true (by kernel_rfl)) (by unfold Func.isWrapper; first | (rw [if_pos (by decide +kernel)]; kernel_rfl) | (rw [if_neg (by decide +kernel)]; exact ⟨rfl, rfl⟩))
    (fun os started H enc _ => lifted os started H enc)
theorem provedCard : Rows.FnExactFormatNoteCardSaid :=
  Claim7.holds_tied_plain_at .later [] [.data, .data, .data] true (true, "a6e8e4b77242bb99ec034f5991610b756a84533526b99ec4e7efdd8f2b96172f") false
    over (fun _ h => by cases h) (by kernel_rfl) (fun _ h => by cases h) fnExactFormatNote_row_tie rfl ⟨rfl, rfl⟩ (by kernel_rfl) rfl
    (fun f fn hf hfn => by
      obtain rfl : f = 5 := (Option.some.inj ((show Tryd.prog.funcNamed "loop.example/g00834/laws.FnExactFormatNote" = some 5 by kernel_rfl).symm.trans hf)).symm
      obtain rfl : fn = Tryd.f5 := (Option.some.inj (Tryd.func5.symm.trans hfn)).symm
      refine ⟨by kernel_rfl, fun j t ht => ?_⟩
      have hm : t ∈ Tryd.f5.params.toList := List.mem_of_getElem? (i := j) (by rw [Array.getElem?_toList]; exact ht)
      have hall := List.all_eq_true.mp (show (Tryd.f5.params.toList.all fun t => !Tryd.prog.wantsStandIn t) = true by kernel_rfl) t hm
      exact Bool.not_eq_true' _ |>.mp hall)
    (by kernel_rfl)
end Go.Proofs.YtibmeomlokigjaaDoor.fnExactFormatNote
namespace Go.Proofs.YtibmeomlokigjaaDoor
theorem fnExactFormatNote_holds : Rows.FnExactFormatNoteCardSaid := fnExactFormatNote.provedCard
end Go.Proofs.YtibmeomlokigjaaDoor
