/- A part of the proof of FnExactRoundLines: functions of the program, as plain functions, with the proof that the machine's call does what they say; plain lemmas; and those of the words that print.sh prints which this proof uses. No condition. -/
import Derived.Test.YtibmeomlokigjaaDoorKFnExactRoundLines1
import Derived.Test.YtibmeomlokigjaaDoorProg
import Derived.Below
import Derived.Deep.Draws
import Derived.Deep.AppendLies
import Derived.Maps.AppendAt
import Derived.OwnWalk
import Derived.Laws.BytesArg
import Derived.Laws.MakeOwn
import Derived.Laws.OwnMore
import Derived.Deep.OwnRows
import Derived.Tactics
import Derived.Lib.ConvBytes
import Derived.Laws.Slices
import Derived.WalkKit
import Derived.KernelRfl
import Derived.RowKit3
import Derived.Deep.LoopGhost
import Derived.Deep.QuietTactic
import Derived.BigQuiet
import Derived.WideLaws
import Derived.Deep.DeepCutAuto
import Derived.Deep.CutBlock
import Derived.Deep.RegionHeld3
import Derived.Laws.Rows
import Derived.Lib.AppendStr
import Derived.ArgAppend
import Derived.Laws.IdiomCopy
import Derived.OrdersHeld
import Derived.Laws.BitsLemmas
import Derived.RowKit
import Derived.WalkSpells
import Derived.Shelf.Strings.Builder1
import Derived.Shelf.Strings.Builder2
import Derived.Shelf.Strings.OnBuilder
import Derived.Shelf.Strconv.Itoa0
import Derived.Shelf.Strconv.Itoa1
import Derived.Shelf.LaysM
import Derived.Shelf.Strconv.Itoa2
import Derived.Shelf.Strconv.Itoa3
import Derived.Lib.AppendIntMem
import Derived.Laws.StructEq
import Derived.Test.YtibmeomlokigjaaDoorRows
import Derived.ProofKit
import Derived.OpenShut
import Derived.ShutString
import Derived.ChangeOld
import Derived.SizedLaws
import Derived.LaidMore
import Derived.LaidHandle
import Derived.Stop.Joined
import Derived.Stop.LaidErr
import Derived.Test.YtibmeomlokigjaaDoorCards
import Derived.Test.YtibmeomlokigjaaDoorTie
import Derived.SevenTiedAt
namespace Go.Proofs.YtibmeomlokigjaaDoor.R
open Go.RowKit Go.Proofs.YtibmeomlokigjaaDoorW.PrintWords Go.Proofs.YtibmeomlokigjaaDoorW.PrintLast Go.Proofs.YtibmeomlokigjaaDoorW.PrintMore
attribute [local go_sem] max2_int min2_int max_two min_two max_three min_three max_four min_four
set_option linter.unusedVariables false
set_option linter.unusedSimpArgs false
def impl_texts.l0 : Nat → List ByteArray → List Int → Int → Int → Option (List ByteArray)
  | 0, _, _, _, _ => none
  | k + 1, x3, x7, x8, x9 => if x9 < x8 then (if 0 ≤ x9 then (if x9 < (x7.length : Int) then ((impl_FormatInt.f (rd x7 x9)).bind fun t180 => (if x3.length < 8796093022208 then (impl_texts.l0 k (x3 ++ [t180]) x7 x8 (wrap64 (x9 + 1))) else (none))) else (none)) else (none)) else (some x3)
def impl_texts.f (k : Nat) (l0 : List Int) : Option (List ByteArray) := impl_texts.l0 k (([] : List ByteArray)) l0 (l0.length : Int) 0
set_option maxHeartbeats 8000000 in
set_option maxRecDepth 100000 in
theorem impl_texts.calls (k : Nat) (A0 : Option Addr) (c0 : Nat) (l0 : List Int) (r : List ByteArray) (w : World) (hr0 : Kd.C (Kd.int .i64) w A0 l0.length l0) (hc0 : l0.length ≤ c0) (h : impl_texts.f k l0 = some r) (ht : TabW w := by first | exact Aside0.out (by assumption) | exact TabW.below (Aside0.out (by assumption)) (bb (by assumption)) | exact TabW.below (Aside0.out (by assumption)) (bb (Aside0.mk (Below.refl _ _)))) :
    Calls Tryd.prog 51 #[.slice A0 l0.length c0] w fun e w' => ∃ v0_ : Value, e = .returned (v0_) ∧ Kd.R Kd.string 9 w' w.heap.size (fun _ => True) v0_ r ∧ Below w.heap.size w w' := by
  have HTW := Aside0.mk ht
  clear ht
  have HR0 := Aside0.mk hr0
  have HC0 := Aside0.mk hc0
  clear hr0 hc0
  have HB := Aside0.mk (Below.refl w.heap.size w)
  have H : (impl_texts.l0 k (([] : List ByteArray)) l0 (l0.length : Int) 0) = some r := h
  clear h
  obtain ⟨y176, hy176⟩ : ∃ y_ : List ByteArray, y_ = (([] : List ByteArray)) := ⟨_, rfl⟩
  replace H : (impl_texts.l0 k y176 l0 (l0.length : Int) 0) = some r := by first | (rw [hy176]; with_reducible exact H) | (have H2_ := (Option.bind_some _ _).symm.trans H; rw [hy176]; with_reducible exact H2_) | (have H2_ := (Option.bind_some _ _).symm.trans H; with_reducible exact H2_) | with_reducible exact H | (rw [hy176]; exact H) | exact H
  have Ny176 := Aside0.mk hy176
  clear hy176
  have H' := Aside0.mk H
  clear H
  go_enter Tryd.func51, Tryd.ntmps51
  go_wp2_with (first | ((with_reducible refine gate_dst (N := 6) rfl ?_); refine Kd.R_lit Kd.string _ 9 ?hg (N := 6) ?hd (xs := ([] : List ByteArray)) (inner := []) (ok := fun _ => True) (okp := fun _ => True) ?hr ?hp (fun _ hk => hk) trivial (Below.refl _ _) (Nat.le_refl _) (by simp) ?_; (case hd => rfl); (case hg => rfl); (case hr => first | (go_simp; done) | (go_simp; rfl)); (case hp => exact (Reps.none _ _)); intro v177 w2 ho3 hb hg_ hnew_; clear hg_ hnew_; (first | rw [← Ny176.out] at ho3 | (simp only [Int.reduceToNat] at ho3; rw [← Ny176.out] at ho3)); have HO178 := kl ho3 HB; replace HB := hs_ HB hb; clear hb ho3))
  go_loopg [3, 9] k (fun kq v3 v9 w' => ∃ (x3_1 : List ByteArray) (x9_1 : Int), v9 = .int .i64 x9_1 ∧ Aside0 (impl_texts.l0 kq x3_1 l0 (l0.length : Int) x9_1 = some r) ∧ Aside0 (kq ≤ k) ∧ Aside0 (Kd.R Kd.string 9 w' w.heap.size (fun _ => True) v3 x3_1) ∧ Aside0 (Below w.heap.size w w'))
  case atStart => exact ⟨(y176), (0), e2_, H', ⟨Nat.le_refl _⟩, ⟨rr HO178⟩, ⟨bb HB⟩⟩
  case round =>
    clear H'
    (try clear p2)
    obtain ⟨x3_1, x9_1, rfl, HA, HK1, HO_3, HB⟩ := hrel
    cases gk with
    | zero => exact absurd HA.out (by simp [impl_texts.l0])
    | succ k1 =>
      have H := HA.out
      clear HA
      simp only [impl_texts.l0] at H
      by_cases c4 : x9_1 < (l0.length : Int)
      · rw [if_pos c4] at H
        have c4b0 : decide (x9_1 < (l0.length : Int)) = true := decide_eq_true c4
        clear c4
        by_cases c5 : 0 ≤ x9_1
        · rw [if_pos c5] at H
          have c5b0 : decide (0 ≤ x9_1) = true := decide_eq_true c5
          clear c5
          by_cases c6 : x9_1 < (l0.length : Int)
          · rw [if_pos c6] at H
            have c6b0 : decide (x9_1 < (l0.length : Int)) = true := decide_eq_true c6
            clear c6
            replace H := Option.bind_eq_some_iff.mp H
            obtain ⟨t180, A70, H⟩ := H
            replace H : (if x3_1.length < 8796093022208 then (impl_texts.l0 k1 (x3_1 ++ [t180]) l0 (l0.length : Int) (wrap64 (x9_1 + 1))) else (none)) = some r := H
            have A7 := Aside0.mk A70
            clear A70
            by_cases c8 : x3_1.length < 8796093022208
            · rw [if_pos c8] at H
              have LMc8 := Aside0.mk c8
              clear c8
              obtain ⟨y181, hy181⟩ : ∃ y_ : List ByteArray, y_ = (x3_1 ++ [t180]) := ⟨_, rfl⟩
              replace H : (impl_texts.l0 k1 y181 l0 (l0.length : Int) (wrap64 (x9_1 + 1))) = some r := by first | (rw [hy181]; with_reducible exact H) | (have H2_ := (Option.bind_some _ _).symm.trans H; rw [hy181]; with_reducible exact H2_) | (have H2_ := (Option.bind_some _ _).symm.trans H; with_reducible exact H2_) | with_reducible exact H | (rw [hy181]; exact H) | exact H
              have Ny181 := Aside0.mk hy181
              clear hy181
              have H' := Aside0.mk H
              clear H
              have p179 : 0 ≤ (x9_1 : Int) := of_decide_eq_true (by first | (with_reducible assumption) | assumption)
              have q179 : x9_1 < (l0.length : Int) := of_decide_eq_true (by first | (with_reducible assumption) | assumption)
              obtain ⟨ad179, e179, hx179_0⟩ := Kd.at_int HR0.out x9_1 p179 q179
              cases e179
              replace hx179_0 := (HB.out.cell (World.block_lt_of_cell? w _ hx179_0)).trans hx179_0
              replace p179 := eq_true p179
              replace q179 := eq_true q179
              go_wp2_with (first | ((with_reducible refine gate_callee (f := 71) rfl ?_); refine gl (some 15) Tryd.func71 #[.int .i64 (rd l0 x9_1)] ?_; (with_reducible refine (impl_FormatInt.calls (rd l0 x9_1) t180 _ A7.out).mono ?_); rintro e w9 ⟨rfl, hb⟩; refine ⟨_, rfl, ?_⟩; replace HO_3 := kr HO_3 hb; replace HB := hs_ HB hb; (try clear hb); (try clear hb2); (try clear hk); (try clear hi)) | ((with_reducible refine gate_builtin (b := .append) (xs := #[.tmp 13, .tmp 16]) rfl ?_); at_builtin; refine Kd.R_append Kd.string (w0 := w) w.heap.size rfl (.tmp 13) (.tmp 16) 53 9 (.string ⟨#[]⟩) 16 rfl Tryd.underlying53 info9 rfl (by decide) (by omega) u3 x3_1 t180 [.string t180] (fun _ => True) (fun _ => False) rfl rfl ?aP (fun _ hk => hk.elim) ?aF ?aO ?aB ?aS ?aL ?_; (case aP => exact rfl); (case aB => exact (bb HB)); (case aF => exact (fun _ _ => trivial)); (case aO => exact (rr HO_3)); (case aS => exact (below_size (bb HB))); (case aL => have := LMc8.out; omega); intro v182 w10 ho hb hg hat; rw [← Ny181.out] at ho; replace HB := Aside0.mk (hb); have HO183 := Aside0.mk (ho); clear HO_3 ho hb hg hat))
              go_roundg k1
              case measure => have := HK1.out; omega
              case rel => exact ⟨(y181), (wrap64 (x9_1 + 1)), e2_, H', ⟨by have := HK1.out; omega⟩, ⟨rr HO183⟩, ⟨bb HB⟩⟩
            · rw [if_neg c8] at H
              exact absurd H (by simp)
          · rw [if_neg c6] at H
            exact absurd H (by simp)
        · rw [if_neg c5] at H
          exact absurd H (by simp)
      · rw [if_neg c4] at H
        have c4b0 : decide (x9_1 < (l0.length : Int)) = false := decide_eq_false c4
        clear c4
        obtain rfl := Option.some.inj H
        go_wp2
        go_ret
        exact ⟨_, ee, rr HO_3, bb HB⟩
end Go.Proofs.YtibmeomlokigjaaDoor.R
section
namespace Go.Proofs.YtibmeomlokigjaaDoor.R
open Go.RowKit Go.Proofs.YtibmeomlokigjaaDoorW.PrintWords Go.Proofs.YtibmeomlokigjaaDoorW.PrintLast Go.Proofs.YtibmeomlokigjaaDoorW.PrintMore
attribute [local go_sem] max2_int min2_int max_two min_two max_three min_three max_four min_four
set_option linter.unusedVariables false
set_option linter.unusedSimpArgs false
mutual
def impl_RoundLines.l0 : Nat → List ByteArray → List (List (S94)) → Int → Int → Option (List ByteArray)
  | 0, _, _, _, _ => none
  | k + 1, x3, x10, x11, x12 => if x12 < x11 then (if 0 ≤ x12 then (if x12 < (x10.length : Int) then (impl_RoundLines.l1 k x3 (([] : List ByteArray)) x10 x11 x12 (rd_L6 x10 x12) ((rd_L6 x10 x12).length : Int) 0) else (none)) else (none)) else (some x3)
def impl_RoundLines.l1 : Nat → List ByteArray → List ByteArray → List (List (S94)) → Int → Int → List (S94) → Int → Int → Option (List ByteArray)
  | 0, _, _, _, _, _, _, _, _ => none
  | k + 1, x3, x6, x10, x11, x12, x17, x18, x19 => if x19 < x18 then (if 0 ≤ x19 then (if x19 < (x17.length : Int) then ((impl_texts.f k (([(rd_T94 x17 x19).f0, (rd_T94 x17 x19).f1] : List Int))).bind fun t290 => ((impl_Join.f t290 (⟨#[45]⟩ : ByteArray)).bind fun t293 => (if x6.length < 8796093022208 then (impl_RoundLines.l1 k x3 (x6 ++ [t293]) x10 x11 x12 x17 x18 (wrap64 (x19 + 1))) else (none)))) else (none)) else (none)) else (if (x6.length : Int) = 0 then ((impl_Join.f (([(⟨#[98, 121, 101]⟩ : ByteArray)] : List ByteArray)) (⟨#[32]⟩ : ByteArray)).bind fun t300 => (if x3.length < 8796093022208 then (impl_RoundLines.l0 k (x3 ++ [t300]) x10 x11 (wrap64 (x12 + 1))) else (none))) else ((impl_Join.f x6 (⟨#[32]⟩ : ByteArray)).bind fun t304 => (if x3.length < 8796093022208 then (impl_RoundLines.l0 k (x3 ++ [t304]) x10 x11 (wrap64 (x12 + 1))) else (none))))
end
def impl_RoundLines.f (k : Nat) (l0 : List (List (S94))) : Option (List ByteArray) := impl_RoundLines.l0 k (([] : List ByteArray)) l0 (l0.length : Int) 0
set_option maxHeartbeats 8000000 in
set_option maxRecDepth 100000 in
theorem impl_RoundLines.calls (k : Nat) (A0 : Option Addr) (c0 : Nat) (l0 : List (List (S94))) (r : List ByteArray) (w : World) (hr0 : Kd.C (Kd.slice 94 k94) w A0 l0.length l0) (hc0 : l0.length ≤ c0) (h : impl_RoundLines.f k l0 = some r) (ht : TabW w := by first | exact Aside0.out (by assumption) | exact TabW.below (Aside0.out (by assumption)) (bb (by assumption)) | exact TabW.below (Aside0.out (by assumption)) (bb (Aside0.mk (Below.refl _ _)))) :
    Calls Tryd.prog 28 #[.slice A0 l0.length c0] w fun e w' => ∃ v0_ : Value, e = .returned (v0_) ∧ Kd.R Kd.string 9 w' w.heap.size (fun _ => True) v0_ r ∧ Below w.heap.size w w' := by
  have HTW := Aside0.mk ht
  clear ht
  have hu94 := Tryd.underlying94
  have HR0 := Aside0.mk hr0
  have HC0 := Aside0.mk hc0
  clear hr0 hc0
  have HB := Aside0.mk (Below.refl w.heap.size w)
  have H : (impl_RoundLines.l0 k (([] : List ByteArray)) l0 (l0.length : Int) 0) = some r := h
  clear h
  obtain ⟨y278, hy278⟩ : ∃ y_ : List ByteArray, y_ = (([] : List ByteArray)) := ⟨_, rfl⟩
  replace H : (impl_RoundLines.l0 k y278 l0 (l0.length : Int) 0) = some r := by first | (rw [hy278]; with_reducible exact H) | (have H2_ := (Option.bind_some _ _).symm.trans H; rw [hy278]; with_reducible exact H2_) | (have H2_ := (Option.bind_some _ _).symm.trans H; with_reducible exact H2_) | with_reducible exact H | (rw [hy278]; exact H) | exact H
  have Ny278 := Aside0.mk hy278
  clear hy278
  have H' := Aside0.mk H
  clear H
  go_enter Tryd.func28, Tryd.ntmps28
  go_wp2_with (first | ((with_reducible refine gate_dst (N := 9) rfl ?_); refine Kd.R_lit Kd.string _ 9 ?hg (N := 9) ?hd (xs := ([] : List ByteArray)) (inner := []) (ok := fun _ => True) (okp := fun _ => True) ?hr ?hp (fun _ hk => hk) trivial (Below.refl _ _) (Nat.le_refl _) (by simp) ?_; (case hd => rfl); (case hg => rfl); (case hr => first | (go_simp; done) | (go_simp; rfl)); (case hp => exact (Reps.none _ _)); intro v279 w2 ho3 hb hg_ hnew_; clear hg_ hnew_; (first | rw [← Ny278.out] at ho3 | (simp only [Int.reduceToNat] at ho3; rw [← Ny278.out] at ho3)); have HO280 := kl ho3 HB; replace HB := hs_ HB hb; clear hb ho3))
  go_loopg [3, 12] k (fun kq v3 v12 w' => ∃ (x3_1 : List ByteArray) (x12_1 : Int), v12 = .int .i64 x12_1 ∧ Aside0 (impl_RoundLines.l0 kq x3_1 l0 (l0.length : Int) x12_1 = some r) ∧ Aside0 (kq ≤ k) ∧ Aside0 (Kd.R Kd.string 9 w' w.heap.size (fun _ => True) v3 x3_1) ∧ Aside0 (Below w.heap.size w w'))
  case atStart => exact ⟨(y278), (0), e2_, H', ⟨Nat.le_refl _⟩, ⟨rr HO280⟩, ⟨bb HB⟩⟩
  case round =>
    clear H'
    (try clear c2)
    (try clear p2)
    obtain ⟨x3_1, x12_1, rfl, HA, HK1, HO_3, HB⟩ := hrel
    cases gk with
    | zero => exact absurd HA.out (by simp [impl_RoundLines.l0])
    | succ k1 =>
      have H := HA.out
      clear HA
      simp only [impl_RoundLines.l0] at H
      by_cases c4 : x12_1 < (l0.length : Int)
      · rw [if_pos c4] at H
        have c4b0 : decide (x12_1 < (l0.length : Int)) = true := decide_eq_true c4
        clear c4
        by_cases c5 : 0 ≤ x12_1
        · rw [if_pos c5] at H
          have c5b0 : decide (0 ≤ x12_1) = true := decide_eq_true c5
          clear c5
          by_cases c6 : x12_1 < (l0.length : Int)
          · rw [if_pos c6] at H
            have c6b0 : decide (x12_1 < (l0.length : Int)) = true := decide_eq_true c6
            clear c6
            obtain ⟨y282, hy282⟩ : ∃ y_ : List ByteArray, y_ = (([] : List ByteArray)) := ⟨_, rfl⟩
            replace H : (impl_RoundLines.l1 k1 x3_1 y282 l0 (l0.length : Int) x12_1 (rd_L6 l0 x12_1) ((rd_L6 l0 x12_1).length : Int) 0) = some r := by first | (rw [hy282]; with_reducible exact H) | (have H2_ := (Option.bind_some _ _).symm.trans H; rw [hy282]; with_reducible exact H2_) | (have H2_ := (Option.bind_some _ _).symm.trans H; with_reducible exact H2_) | with_reducible exact H | (rw [hy282]; exact H) | exact H
            have Ny282 := Aside0.mk hy282
            clear hy282
            have H' := Aside0.mk H
            clear H
            have p281 : 0 ≤ (x12_1 : Int) := of_decide_eq_true (by first | (with_reducible assumption) | assumption)
            have q281 : x12_1 < (l0.length : Int) := of_decide_eq_true (by first | (with_reducible assumption) | assumption)
            obtain ⟨ad281, A281_0, c281_0, e281, hx281_0, hl281_0, hi281_0⟩ := at_L6 HR0.out x12_1 p281 q281
            cases e281
            replace hx281_0 := (HB.out.cell (World.block_lt_of_cell? w _ hx281_0)).trans hx281_0
            have HR281_0 := Aside0.mk hi281_0
            have HC281_0 := Aside0.mk hl281_0
            clear hi281_0 hl281_0
            replace p281 := eq_true p281
            replace q281 := eq_true q281
            go_wp2_with (first | ((with_reducible refine gate_dst (N := 16) rfl ?_); refine Kd.R_lit Kd.string _ 9 ?hg (N := 16) ?hd (xs := ([] : List ByteArray)) (inner := []) (ok := fun _ => True) (okp := fun _ => True) ?hr ?hp (fun _ hk => hk) trivial (Below.refl _ _) (Nat.le_refl _) (by simp) ?_; (case hd => rfl); (case hg => rfl); (case hr => first | (go_simp; done) | (go_simp; rfl)); (case hp => exact (Reps.none _ _)); intro v283 w7 ho8 hb hg_ hnew_; clear hg_ hnew_; (first | rw [← Ny282.out] at ho8 | (simp only [Int.reduceToNat] at ho8; rw [← Ny282.out] at ho8)); have HO284 := Aside0.mk (Kd.R_lower (Kd.R_new' ho8 (rt HO_3)) (below_size (bb HB))); replace HO_3 := ke HO_3 ho8 hb; replace HB := hs_ HB hb; clear hb ho8))
            go_loopg [6, 19] k1 (fun kq v6 v19 w' => ∃ (x6_2 : List ByteArray) (x19_2 : Int), v19 = .int .i64 x19_2 ∧ Aside0 (impl_RoundLines.l1 kq x3_1 x6_2 l0 (l0.length : Int) x12_1 (rd_L6 l0 x12_1) ((rd_L6 l0 x12_1).length : Int) x19_2 = some r) ∧ Aside0 (kq ≤ k1) ∧ Aside0 (Kd.R Kd.string 9 w' w.heap.size (fun k_ => some k_ ≠ (v6 : Value).ownBlock) u3 x3_1) ∧ Aside0 (Kd.R Kd.string 9 w' w.heap.size (fun k_ => some k_ ≠ (u3 : Value).ownBlock) v6 x6_2) ∧ Aside0 (Below w.heap.size w w'))
            case atStart => exact ⟨(y282), (0), e2_, H', ⟨Nat.le_refl _⟩, ⟨ro HO_3 (fun _ hk => hk.2)⟩, ⟨ro HO284 (fun _ hk => hk.2)⟩, ⟨bb HB⟩⟩
            case round =>
              clear H'
              (try clear c2)
              (try clear p2)
              (try clear q2)
              (try clear hx2)
              (try clear c4)
              (try clear c4b0)
              (try clear c5)
              (try clear c5b0)
              (try clear c6)
              (try clear c6b0)
              (try clear hx281_0)
              (try clear p2)
              (try clear p281)
              (try clear q281)
              obtain ⟨x6_2, x19_2, rfl, HA, HK2, HO_3, HO_6, HB⟩ := hrel
              cases gk with
              | zero => exact absurd HA.out (by simp [impl_RoundLines.l1])
              | succ k2 =>
                have H := HA.out
                clear HA
                simp only [impl_RoundLines.l1] at H
                by_cases c9 : x19_2 < ((rd_L6 l0 x12_1).length : Int)
                · rw [if_pos c9] at H
                  have c9b0 : decide (x19_2 < ((rd_L6 l0 x12_1).length : Int)) = true := decide_eq_true c9
                  clear c9
                  by_cases c10 : 0 ≤ x19_2
                  · rw [if_pos c10] at H
                    have c10b0 : decide (0 ≤ x19_2) = true := decide_eq_true c10
                    clear c10
                    by_cases c11 : x19_2 < ((rd_L6 l0 x12_1).length : Int)
                    · rw [if_pos c11] at H
                      have c11b0 : decide (x19_2 < ((rd_L6 l0 x12_1).length : Int)) = true := decide_eq_true c11
                      clear c11
                      obtain ⟨y287, hy287⟩ : ∃ y_ : List Int, y_ = (([(rd_T94 (rd_L6 l0 x12_1) x19_2).f0, (rd_T94 (rd_L6 l0 x12_1) x19_2).f1] : List Int)) := ⟨_, rfl⟩
                      replace H : ((impl_texts.f k2 y287).bind fun t290 => ((impl_Join.f t290 (⟨#[45]⟩ : ByteArray)).bind fun t293 => (if x6_2.length < 8796093022208 then (impl_RoundLines.l1 k2 x3_1 (x6_2 ++ [t293]) l0 (l0.length : Int) x12_1 (rd_L6 l0 x12_1) ((rd_L6 l0 x12_1).length : Int) (wrap64 (x19_2 + 1))) else (none)))) = some r := by first | (rw [hy287]; with_reducible exact H) | (have H2_ := (Option.bind_some _ _).symm.trans H; rw [hy287]; with_reducible exact H2_) | (have H2_ := (Option.bind_some _ _).symm.trans H; with_reducible exact H2_) | with_reducible exact H | (rw [hy287]; exact H) | exact H
                      have Ny287 := Aside0.mk hy287
                      clear hy287
                      replace H := Option.bind_eq_some_iff.mp H
                      obtain ⟨t290, A120, H⟩ := H
                      replace H : ((impl_Join.f t290 (⟨#[45]⟩ : ByteArray)).bind fun t293 => (if x6_2.length < 8796093022208 then (impl_RoundLines.l1 k2 x3_1 (x6_2 ++ [t293]) l0 (l0.length : Int) x12_1 (rd_L6 l0 x12_1) ((rd_L6 l0 x12_1).length : Int) (wrap64 (x19_2 + 1))) else (none))) = some r := H
                      have A12 := Aside0.mk A120
                      clear A120
                      replace H := Option.bind_eq_some_iff.mp H
                      obtain ⟨t293, A130, H⟩ := H
                      replace H : (if x6_2.length < 8796093022208 then (impl_RoundLines.l1 k2 x3_1 (x6_2 ++ [t293]) l0 (l0.length : Int) x12_1 (rd_L6 l0 x12_1) ((rd_L6 l0 x12_1).length : Int) (wrap64 (x19_2 + 1))) else (none)) = some r := H
                      have A13 := Aside0.mk A130
                      clear A130
                      by_cases c14 : x6_2.length < 8796093022208
                      · rw [if_pos c14] at H
                        have LMc14 := Aside0.mk c14
                        clear c14
                        obtain ⟨y294, hy294⟩ : ∃ y_ : List ByteArray, y_ = (x6_2 ++ [t293]) := ⟨_, rfl⟩
                        replace H : (impl_RoundLines.l1 k2 x3_1 y294 l0 (l0.length : Int) x12_1 (rd_L6 l0 x12_1) ((rd_L6 l0 x12_1).length : Int) (wrap64 (x19_2 + 1))) = some r := by first | (rw [hy294]; with_reducible exact H) | (have H2_ := (Option.bind_some _ _).symm.trans H; rw [hy294]; with_reducible exact H2_) | (have H2_ := (Option.bind_some _ _).symm.trans H; with_reducible exact H2_) | with_reducible exact H | (rw [hy294]; exact H) | exact H
                        have Ny294 := Aside0.mk hy294
                        clear hy294
                        have H' := Aside0.mk H
                        clear H
                        have p285 : 0 ≤ (x19_2 : Int) := of_decide_eq_true (by first | (with_reducible assumption) | assumption)
                        have q285 : x19_2 < ((rd_L6 l0 x12_1).length : Int) := of_decide_eq_true (by first | (with_reducible assumption) | assumption)
                        obtain ⟨ad285, e285, hx285_0, hx285_1⟩ := at_T94 HR281_0.out x19_2 p285 q285
                        cases e285
                        replace hx285_0 := (HB.out.cell (World.block_lt_of_cell? w _ hx285_0)).trans hx285_0
                        replace hx285_1 := (HB.out.cell (World.block_lt_of_cell? w _ hx285_1)).trans hx285_1
                        replace p285 := eq_true p285
                        replace q285 := eq_true q285
                        go_wp2_with (first | ((with_reducible refine gate_dst (N := 8) rfl ?_); refine bx (N := 8) (cs := #[.int .i64 0, .int .i64 0]) (t := 94) ?_; intro gb286 hg w15 hbox hb; replace HO_3 := kr HO_3 hb; replace HO_6 := kr HO_6 hb; have BK286 := Aside0.mk (hbox); have GW286 := gs hg HB; have GE286 := gs hg HB; replace HB := hs_ HB hb; clear hb hbox hg; have ⟨hcz16_0, hcz16_1, hfz16_0, hfz16_1⟩ := rz2 BK286) | ((with_reducible refine gate_dst (N := 28) rfl ?_); refine Kd.R_lit (Kd.int .i64) _ 3 ?hg (N := 28) ?hd (xs := ([(rd_T94 (rd_L6 l0 x12_1) x19_2).f0, (rd_T94 (rd_L6 l0 x12_1) x19_2).f1] : List Int)) (inner := [.int .i64 ((rd_T94 (rd_L6 l0 x12_1) x19_2).f0), .int .i64 ((rd_T94 (rd_L6 l0 x12_1) x19_2).f1)]) (ok := fun _ => True) (okp := fun _ => True) ?hr ?hp (fun _ hk => hk) trivial (Below.refl _ _) (Nat.le_refl _) (by simp) ?_; (case hd => rfl); (case hg => rfl); (case hr => first | (go_simp; done) | (go_simp; rfl)); (case hp => exact (Reps.one (show Kd.M (Kd.int .i64) _ _ _ ((rd_T94 (rd_L6 l0 x12_1) x19_2).f0) [.int .i64 ((rd_T94 (rd_L6 l0 x12_1) x19_2).f0)] from rfl) (Reps.one (show Kd.M (Kd.int .i64) _ _ _ ((rd_T94 (rd_L6 l0 x12_1) x19_2).f1) [.int .i64 ((rd_T94 (rd_L6 l0 x12_1) x19_2).f1)] from rfl) (Reps.none _ _)))); intro v288 w17 ho18 hb hg_ hnew_; clear hg_ hnew_; (first | rw [← Ny287.out] at ho18 | (simp only [Int.reduceToNat] at ho18; rw [← Ny287.out] at ho18)); replace HO_3 := Aside0.mk (Kd.R_below (rf HO_3 BK286 (fun _ h_ => h_.1)) hb); replace HO_6 := Aside0.mk (Kd.R_below (rf HO_6 BK286 (fun _ h_ => h_.1)) hb); have HO289 := kl ho18 HB; replace BK286 := Aside0.mk (blk_below (g := gb286) (o := .cells #[.int .i64 ((rd_T94 (rd_L6 l0 x12_1) x19_2).f0), .int .i64 ((rd_T94 (rd_L6 l0 x12_1) x19_2).f1)] 94 (0, 0)) (by (with_reducible repeat (first | refine blk_drewN ?_ _ | refine blk_drew ?_ | refine blk_alloc ?_ _)); refine blk_put (cs := #[.int .i64 ((rd_T94 (rd_L6 l0 x12_1) x19_2).f0), .int .i64 0]) ?_ 1 _ rfl; (with_reducible repeat (first | refine blk_drewN ?_ _ | refine blk_drew ?_ | refine blk_alloc ?_ _)); refine blk_put (cs := #[.int .i64 0, .int .i64 0]) ?_ 0 _ rfl; (with_reducible repeat (first | refine blk_drewN ?_ _ | refine blk_drew ?_ | refine blk_alloc ?_ _)); exact BK286.out) hb); replace HB := hs_ HB hb; clear hb ho18; obtain ⟨Ao19, co19, eo19⟩ := Kd.R_slice HO289.out; subst eo19) | ((with_reducible refine gate_callee (f := 51) rfl ?_); refine gl (some 29) Tryd.func51 #[.slice Ao19 y287.length co19] ?_; (with_reducible refine (impl_texts.calls k2 _ _ y287 t290 _ ?side1 ?side2 A12.out).mono ?_); (case side1 => exact cr HO289); (case side2 => exact cl HO289); rintro e w20 ⟨v291, rfl, ho0, hb⟩; refine ⟨_, rfl, ?_⟩; replace HO289 := kr HO289 hb; have HO292 := Aside0.mk (Kd.R_lower (Kd.R_new' (Kd.R_new' ho0 (rt HO_3)) (rt HO_6)) (below_size (bb HB))); replace HO_3 := ke HO_3 ho0 hb; replace HO_6 := ke HO_6 ho0 hb; replace BK286 := kb BK286 hb; replace HB := hs_ HB hb; (try clear hb); (try clear hb2); (try clear hk); (try clear hi); (try clear ho0); obtain ⟨Ao21, co21, eo21⟩ := Kd.R_slice HO292.out; subst eo21) | ((with_reducible refine gate_callee (f := 50) rfl ?_); refine gl (some 30) Tryd.func50 #[.slice Ao21 t290.length co21, .string (⟨#[45]⟩ : ByteArray)] ?_; (with_reducible refine (impl_Join.calls _ _ t290 (⟨#[45]⟩ : ByteArray) t293 _ ?side1 ?side2 A13.out).mono ?_); (case side1 => exact cr HO292); (case side2 => exact cl HO292); rintro e w22 ⟨rfl, hb⟩; refine ⟨_, rfl, ?_⟩; replace HO_3 := kr HO_3 hb; replace HO_6 := kr HO_6 hb; replace HO289 := kr HO289 hb; replace HO292 := kr HO292 hb; replace BK286 := kb BK286 hb; replace HB := hs_ HB hb; (try clear hb); (try clear hb2); (try clear hk); (try clear hi)) | ((with_reducible refine gate_builtin (b := .append) (xs := #[.tmp 23, .tmp 31]) rfl ?_); at_builtin; refine Kd.R_append Kd.string (w0 := w) w.heap.size rfl (.tmp 23) (.tmp 31) 53 9 (.string ⟨#[]⟩) 16 rfl Tryd.underlying53 info9 rfl (by decide) (by omega) u6 x6_2 t293 [.string t293] (fun k_ => some k_ ≠ (u3 : Value).ownBlock ∧ some k_ ≠ (.slice Ao21 t290.length co21 : Value).ownBlock) (fun _ => False) rfl rfl ?aP (fun _ hk => hk.elim) ?aF ?aO ?aB ?aS ?aL ?_; (case aP => exact rfl); (case aB => exact (bb HB)); (case aF => exact (fun k_ hk => ⟨Kd.fresh' (Kd.R_lt (rr HO_3)) k_ hk, Kd.fresh' (Kd.R_lt (rr HO292)) k_ hk⟩)); (case aO => exact (rr HO_6)); (case aS => exact (below_size (bb HB))); (case aL => have := LMc14.out; omega); intro v295 w23 ho hb hg hat; rw [← Ny294.out] at ho; replace HO_3 := Aside0.mk (Kd.R_after (ok := (fun k_ => some k_ ≠ (.slice Ao21 t290.length co21 : Value).ownBlock)) (ro HO_3 (fun _ hk => ⟨hk.2, hk.1⟩)) hg hat); replace BK286 := Aside0.mk (blk_grown (g := gb286) (o := .cells #[.int .i64 ((rd_T94 (rd_L6 l0 x12_1) x19_2).f0), .int .i64 ((rd_T94 (rd_L6 l0 x12_1) x19_2).f1)] 94 (0, 0)) (bk BK286) hg (Kd.R_ne HO_6.out BK286.out (by decide))); replace HO289 := Aside0.mk (Kd.R_over' (rr HO289) (Kd.R_typed (rr HO_6)) (by decide) hg); replace HO292 := Aside0.mk (Kd.R_after (ok := (fun k_ => some k_ ≠ (u3 : Value).ownBlock)) (ro HO292 (fun _ hk => ⟨hk.1.2, hk.2⟩)) hg hat); replace HB := Aside0.mk (hb); have HO296 := Aside0.mk (ho); clear HO_6 ho hb hg hat))
                        go_roundg k2
                        case measure => have := HK1.out; have := HK2.out; omega
                        case rel => exact ⟨(y294), (wrap64 (x19_2 + 1)), e2_, H', ⟨by have := HK1.out; have := HK2.out; omega⟩, ⟨ro HO_3 (fun _ hk => hk.2)⟩, ⟨ro HO296 (fun _ hk => hk.1)⟩, ⟨bb HB⟩⟩
                      · rw [if_neg c14] at H
                        exact absurd H (by simp)
                    · rw [if_neg c11] at H
                      exact absurd H (by simp)
                  · rw [if_neg c10] at H
                    exact absurd H (by simp)
                · rw [if_neg c9] at H
                  have c9b0 : decide (x19_2 < ((rd_L6 l0 x12_1).length : Int)) = false := decide_eq_false c9
                  clear c9
                  by_cases c24 : (x6_2.length : Int) = 0
                  · rw [if_pos c24] at H
                    have c24b0 : ((x6_2.length : Int) == 0) = true := beq_iff_eq.mpr c24
                    have c24b1 : ((x6_2.length : Int) != 0) = false := bne_eq_false_iff_eq.mpr c24
                    clear c24
                    obtain ⟨y297, hy297⟩ : ∃ y_ : List ByteArray, y_ = (([(⟨#[98, 121, 101]⟩ : ByteArray)] : List ByteArray)) := ⟨_, rfl⟩
                    replace H : ((impl_Join.f y297 (⟨#[32]⟩ : ByteArray)).bind fun t300 => (if x3_1.length < 8796093022208 then (impl_RoundLines.l0 k2 (x3_1 ++ [t300]) l0 (l0.length : Int) (wrap64 (x12_1 + 1))) else (none))) = some r := by first | (rw [hy297]; with_reducible exact H) | (have H2_ := (Option.bind_some _ _).symm.trans H; rw [hy297]; with_reducible exact H2_) | (have H2_ := (Option.bind_some _ _).symm.trans H; with_reducible exact H2_) | with_reducible exact H | (rw [hy297]; exact H) | exact H
                    have Ny297 := Aside0.mk hy297
                    clear hy297
                    replace H := Option.bind_eq_some_iff.mp H
                    obtain ⟨t300, A250, H⟩ := H
                    replace H : (if x3_1.length < 8796093022208 then (impl_RoundLines.l0 k2 (x3_1 ++ [t300]) l0 (l0.length : Int) (wrap64 (x12_1 + 1))) else (none)) = some r := H
                    have A25 := Aside0.mk A250
                    clear A250
                    by_cases c26 : x3_1.length < 8796093022208
                    · rw [if_pos c26] at H
                      have LMc26 := Aside0.mk c26
                      clear c26
                      obtain ⟨y301, hy301⟩ : ∃ y_ : List ByteArray, y_ = (x3_1 ++ [t300]) := ⟨_, rfl⟩
                      replace H : (impl_RoundLines.l0 k2 y301 l0 (l0.length : Int) (wrap64 (x12_1 + 1))) = some r := by first | (rw [hy301]; with_reducible exact H) | (have H2_ := (Option.bind_some _ _).symm.trans H; rw [hy301]; with_reducible exact H2_) | (have H2_ := (Option.bind_some _ _).symm.trans H; with_reducible exact H2_) | with_reducible exact H | (rw [hy301]; exact H) | exact H
                      have Ny301 := Aside0.mk hy301
                      clear hy301
                      have H' := Aside0.mk H
                      clear H
                      obtain ⟨Ao27, co27, eo27⟩ := Kd.R_slice HO_6.out
                      subst eo27
                      go_wp2_with (first | ((with_reducible refine gate_dst (N := 37) rfl ?_); refine Kd.R_lit Kd.string _ 9 ?hg (N := 37) ?hd (xs := ([(⟨#[98, 121, 101]⟩ : ByteArray)] : List ByteArray)) (inner := [.string (⟨#[98, 121, 101]⟩ : ByteArray)]) (ok := fun _ => True) (okp := fun _ => True) ?hr ?hp (fun _ hk => hk) trivial (Below.refl _ _) (Nat.le_refl _) (by simp) ?_; (case hd => rfl); (case hg => rfl); (case hr => first | (go_simp; done) | (go_simp; rfl)); (case hp => exact (Reps.one (show Kd.M Kd.string _ _ _ (⟨#[98, 121, 101]⟩ : ByteArray) [.string (⟨#[98, 121, 101]⟩ : ByteArray)] from rfl) (Reps.none _ _))); intro v298 w28 ho29 hb hg_ hnew_; clear hg_ hnew_; (first | rw [← Ny297.out] at ho29 | (simp only [Int.reduceToNat] at ho29; rw [← Ny297.out] at ho29)); have HO299 := Aside0.mk (Kd.R_lower (Kd.R_new' (Kd.R_new' ho29 (rt HO_3)) (rt HO_6)) (below_size (bb HB))); replace HO_3 := ke HO_3 ho29 hb; replace HO_6 := ke HO_6 ho29 hb; replace HB := hs_ HB hb; clear hb ho29; obtain ⟨Ao30, co30, eo30⟩ := Kd.R_slice HO299.out; subst eo30) | ((with_reducible refine gate_callee (f := 50) rfl ?_); refine gl (some 40) Tryd.func50 #[.slice Ao30 y297.length co30, .string (⟨#[32]⟩ : ByteArray)] ?_; (with_reducible refine (impl_Join.calls _ _ y297 (⟨#[32]⟩ : ByteArray) t300 _ ?side1 ?side2 A25.out).mono ?_); (case side1 => exact cr HO299); (case side2 => exact cl HO299); rintro e w31 ⟨rfl, hb⟩; refine ⟨_, rfl, ?_⟩; replace HO_3 := kr HO_3 hb; replace HO_6 := kr HO_6 hb; replace HO299 := kr HO299 hb; replace HB := hs_ HB hb; (try clear hb); (try clear hb2); (try clear hk); (try clear hi)) | ((with_reducible refine gate_builtin (b := .append) (xs := #[.tmp 38, .tmp 41]) rfl ?_); at_builtin; refine Kd.R_append Kd.string (w0 := w) w.heap.size rfl (.tmp 38) (.tmp 41) 53 9 (.string ⟨#[]⟩) 16 rfl Tryd.underlying53 info9 rfl (by decide) (by omega) u3 x3_1 t300 [.string t300] (fun k_ => some k_ ≠ (.slice Ao27 x6_2.length co27 : Value).ownBlock ∧ some k_ ≠ (.slice Ao30 y297.length co30 : Value).ownBlock) (fun _ => False) rfl rfl ?aP (fun _ hk => hk.elim) ?aF ?aO ?aB ?aS ?aL ?_; (case aP => exact rfl); (case aB => exact (bb HB)); (case aF => exact (fun k_ hk => ⟨Kd.fresh' (Kd.R_lt (rr HO_6)) k_ hk, Kd.fresh' (Kd.R_lt (rr HO299)) k_ hk⟩)); (case aO => exact (rr HO_3)); (case aS => exact (below_size (bb HB))); (case aL => have := LMc26.out; omega); intro v302 w32 ho hb hg hat; rw [← Ny301.out] at ho; replace HO_6 := Aside0.mk (Kd.R_after (ok := (fun k_ => some k_ ≠ (.slice Ao30 y297.length co30 : Value).ownBlock)) (ro HO_6 (fun _ hk => ⟨hk.2, hk.1⟩)) hg hat); replace HO299 := Aside0.mk (Kd.R_after (ok := (fun k_ => some k_ ≠ (.slice Ao27 x6_2.length co27 : Value).ownBlock)) (ro HO299 (fun _ hk => ⟨hk.2, hk.1.2⟩)) hg hat); replace HB := Aside0.mk (hb); have HO303 := Aside0.mk (ho); clear HO_3 ho hb hg hat))
                      go_roundg k2
                      case measure => have := HK1.out; have := HK2.out; omega
                      case rel => exact ⟨(y301), (wrap64 (x12_1 + 1)), e2_, H', ⟨by have := HK1.out; have := HK2.out; omega⟩, ⟨ro HO303 (fun _ hk => trivial)⟩, ⟨bb HB⟩⟩
                    · rw [if_neg c26] at H
                      exact absurd H (by simp)
                  · rw [if_neg c24] at H
                    have c24b0 : ((x6_2.length : Int) == 0) = false := beq_eq_false_iff_ne.mpr c24
                    have c24b1 : ((x6_2.length : Int) != 0) = true := bne_iff_ne.mpr c24
                    have c24b2 : ¬ (x6_2 = []) := fun h_ => c24 (by rw [h_]; rfl)
                    replace H := Option.bind_eq_some_iff.mp H
                    obtain ⟨t304, A330, H⟩ := H
                    replace H : (if x3_1.length < 8796093022208 then (impl_RoundLines.l0 k2 (x3_1 ++ [t304]) l0 (l0.length : Int) (wrap64 (x12_1 + 1))) else (none)) = some r := H
                    have A33 := Aside0.mk A330
                    clear A330
                    by_cases c34 : x3_1.length < 8796093022208
                    · rw [if_pos c34] at H
                      have LMc34 := Aside0.mk c34
                      clear c34
                      obtain ⟨y305, hy305⟩ : ∃ y_ : List ByteArray, y_ = (x3_1 ++ [t304]) := ⟨_, rfl⟩
                      replace H : (impl_RoundLines.l0 k2 y305 l0 (l0.length : Int) (wrap64 (x12_1 + 1))) = some r := by first | (rw [hy305]; with_reducible exact H) | (have H2_ := (Option.bind_some _ _).symm.trans H; rw [hy305]; with_reducible exact H2_) | (have H2_ := (Option.bind_some _ _).symm.trans H; with_reducible exact H2_) | with_reducible exact H | (rw [hy305]; exact H) | exact H
                      have Ny305 := Aside0.mk hy305
                      clear hy305
                      have H' := Aside0.mk H
                      clear H
                      obtain ⟨Ao35, co35, eo35⟩ := Kd.R_slice HO_6.out
                      subst eo35
                      go_wp2_with (first | ((with_reducible refine gate_callee (f := 50) rfl ?_); refine gl (some 40) Tryd.func50 #[.slice Ao35 x6_2.length co35, .string (⟨#[32]⟩ : ByteArray)] ?_; (with_reducible refine (impl_Join.calls _ _ x6_2 (⟨#[32]⟩ : ByteArray) t304 _ ?side1 ?side2 A33.out).mono ?_); (case side1 => exact cr HO_6); (case side2 => exact cl HO_6); rintro e w36 ⟨rfl, hb⟩; refine ⟨_, rfl, ?_⟩; replace HO_3 := kr HO_3 hb; replace HO_6 := kr HO_6 hb; replace HB := hs_ HB hb; (try clear hb); (try clear hb2); (try clear hk); (try clear hi)) | ((with_reducible refine gate_builtin (b := .append) (xs := #[.tmp 38, .tmp 41]) rfl ?_); at_builtin; refine Kd.R_append Kd.string (w0 := w) w.heap.size rfl (.tmp 38) (.tmp 41) 53 9 (.string ⟨#[]⟩) 16 rfl Tryd.underlying53 info9 rfl (by decide) (by omega) u3 x3_1 t304 [.string t304] (fun k_ => some k_ ≠ (.slice Ao35 x6_2.length co35 : Value).ownBlock) (fun _ => False) rfl rfl ?aP (fun _ hk => hk.elim) ?aF ?aO ?aB ?aS ?aL ?_; (case aP => exact rfl); (case aB => exact (bb HB)); (case aF => exact (fun k_ hk => Kd.fresh' (Kd.R_lt (rr HO_6)) k_ hk)); (case aO => exact (rr HO_3)); (case aS => exact (below_size (bb HB))); (case aL => have := LMc34.out; omega); intro v306 w37 ho hb hg hat; rw [← Ny305.out] at ho; replace HO_6 := Aside0.mk (Kd.R_after (ok := (fun _ => True)) (ro HO_6 (fun _ hk => ⟨trivial, hk⟩)) hg hat); replace HB := Aside0.mk (hb); have HO307 := Aside0.mk (ho); clear HO_3 ho hb hg hat))
                      go_roundg k2
                      case measure => have := HK1.out; have := HK2.out; omega
                      case rel => exact ⟨(y305), (wrap64 (x12_1 + 1)), e2_, H', ⟨by have := HK1.out; have := HK2.out; omega⟩, ⟨ro HO307 (fun _ hk => trivial)⟩, ⟨bb HB⟩⟩
                    · rw [if_neg c34] at H
                      exact absurd H (by simp)
          · rw [if_neg c6] at H
            exact absurd H (by simp)
        · rw [if_neg c5] at H
          exact absurd H (by simp)
      · rw [if_neg c4] at H
        have c4b0 : decide (x12_1 < (l0.length : Int)) = false := decide_eq_false c4
        clear c4
        obtain rfl := Option.some.inj H
        go_wp2
        go_ret
        exact ⟨_, ee, rr HO_3, bb HB⟩
end Go.Proofs.YtibmeomlokigjaaDoor.R
end
namespace Go.Proofs.YtibmeomlokigjaaDoor.R
open Go.RowKit Go.Proofs.YtibmeomlokigjaaDoorW.PrintWords Go.Proofs.YtibmeomlokigjaaDoorW.PrintLast Go.Proofs.YtibmeomlokigjaaDoorW.PrintMore
attribute [local go_sem] max2_int min2_int max_two min_two max_three min_three max_four min_four
set_option linter.unusedVariables false
set_option linter.unusedSimpArgs false
def laws_eqStringS.l0 : Nat → List ByteArray → List ByteArray → Int → Option (Bool)
  | 0, _, _, _ => none
  | k + 1, x0, x1, x5 => if x5 < (x0.length : Int) then (if 0 ≤ x5 then (if x5 < (x1.length : Int) then (if (rdOf ByteArray.empty x0 x5).toList = (rdOf ByteArray.empty x1 x5).toList then (laws_eqStringS.l0 k x0 x1 (wrap64 (x5 + 1))) else (some false)) else (none)) else (none)) else (some true)
def laws_eqStringS.f (k : Nat) (l0 : List ByteArray) (l1 : List ByteArray) : Option (Bool) := if (l0.length : Int) = (l1.length : Int) then (laws_eqStringS.l0 k l0 l1 0) else (some false)
set_option maxHeartbeats 8000000 in
set_option maxRecDepth 100000 in
theorem laws_eqStringS.calls (k : Nat) (A0 : Option Addr) (c0 : Nat) (l0 : List ByteArray) (A1 : Option Addr) (c1 : Nat) (l1 : List ByteArray) (r : Bool) (w : World) (hr0 : Kd.C Kd.string w A0 l0.length l0) (hc0 : l0.length ≤ c0) (hr1 : Kd.C Kd.string w A1 l1.length l1) (hc1 : l1.length ≤ c1) (h : laws_eqStringS.f k l0 l1 = some r) :
    Calls Tryd.prog 29 #[.slice A0 l0.length c0, .slice A1 l1.length c1] w fun e w' => e = .returned (.bool r) ∧ Drawn0 w w' := by
  have HR0 := Aside0.mk hr0
  have HC0 := Aside0.mk hc0
  clear hr0 hc0
  have HR1 := Aside0.mk hr1
  have HC1 := Aside0.mk hc1
  clear hr1 hc1
  have H : (if (l0.length : Int) = (l1.length : Int) then (laws_eqStringS.l0 k l0 l1 0) else (some false)) = some r := h
  clear h
  by_cases c3 : (l0.length : Int) = (l1.length : Int)
  · rw [if_pos c3] at H
    have c3b0 : ((l0.length : Int) == (l1.length : Int)) = true := beq_iff_eq.mpr c3
    have c3b1 : ((l0.length : Int) != (l1.length : Int)) = false := bne_eq_false_iff_eq.mpr c3
    have c3b2 : (l0.length == l1.length) = true := by first | simpa using c3 | (simp at c3 ⊢; omega)
    clear c3
    have H' := Aside0.mk H
    clear H
    go_enter Tryd.func29, Tryd.ntmps29
    go_wp2
    repeat (go_quiet (fail); try go_wp2)
    go_loopg [5] k (fun kq v5 w' => ∃ (x5_1 : Int), v5 = .int .i64 x5_1 ∧ Aside0 (laws_eqStringS.l0 kq l0 l1 x5_1 = some r) ∧ Aside0 (kq ≤ k) ∧ Drawn0 w w')
    case atStart => exact ⟨(0), e2_, H', ⟨Nat.le_refl _⟩, by repeat (first | exact Drawn0.refl _ | apply Drawn0.step)⟩
    case round =>
      clear H'
      (try clear c1)
      (try clear c2)
      (try clear p2)
      (try clear c3)
      (try clear c3b0)
      (try clear c3b1)
      (try clear c3b2)
      obtain ⟨x5_1, rfl, HA, HK1, ⟨m1, rfl⟩⟩ := hrel
      cases gk with
      | zero => exact absurd HA.out (by simp [laws_eqStringS.l0])
      | succ k1 =>
        have H := HA.out
        clear HA
        simp only [laws_eqStringS.l0] at H
        by_cases c4 : x5_1 < (l0.length : Int)
        · rw [if_pos c4] at H
          have c4b0 : decide (x5_1 < (l0.length : Int)) = true := decide_eq_true c4
          clear c4
          by_cases c5 : 0 ≤ x5_1
          · rw [if_pos c5] at H
            have c5b0 : decide (0 ≤ x5_1) = true := decide_eq_true c5
            clear c5
            by_cases c6 : x5_1 < (l1.length : Int)
            · rw [if_pos c6] at H
              have c6b0 : decide (x5_1 < (l1.length : Int)) = true := decide_eq_true c6
              clear c6
              by_cases c7 : (rdOf ByteArray.empty l0 x5_1).toList = (rdOf ByteArray.empty l1 x5_1).toList
              · rw [if_pos c7] at H
                have c7b0 : ((rdOf ByteArray.empty l0 x5_1).toList == (rdOf ByteArray.empty l1 x5_1).toList) = true := beq_iff_eq.mpr c7
                have c7b1 : ((rdOf ByteArray.empty l0 x5_1).toList != (rdOf ByteArray.empty l1 x5_1).toList) = false := bne_eq_false_iff_eq.mpr c7
                clear c7
                have H' := Aside0.mk H
                clear H
                have p308 : 0 ≤ (x5_1 : Int) := of_decide_eq_true (by first | (with_reducible assumption) | assumption)
                have q308 : x5_1 < (l0.length : Int) := of_decide_eq_true (by first | (with_reducible assumption) | assumption)
                obtain ⟨ad308, e308, hx308_0⟩ := Kd.at_string HR0.out x5_1 p308 q308
                cases e308
                replace p308 := eq_true p308
                replace q308 := eq_true q308
                have p309 : 0 ≤ (x5_1 : Int) := of_decide_eq_true (by first | (with_reducible assumption) | assumption)
                have q309 : x5_1 < (l1.length : Int) := of_decide_eq_true (by first | (with_reducible assumption) | assumption)
                obtain ⟨ad309, e309, hx309_0⟩ := Kd.at_string HR1.out x5_1 p309 q309
                cases e309
                replace p309 := eq_true p309
                replace q309 := eq_true q309
                go_wp2
                repeat (go_quiet (fail); try go_wp2)
                go_roundg k1
                case measure => have := HK1.out; omega
                case rel => exact ⟨(wrap64 (x5_1 + 1)), e2_, H', ⟨by have := HK1.out; omega⟩, by repeat (first | exact Drawn0.refl _ | apply Drawn0.step)⟩
              · rw [if_neg c7] at H
                have c7b0 : ((rdOf ByteArray.empty l0 x5_1).toList == (rdOf ByteArray.empty l1 x5_1).toList) = false := beq_eq_false_iff_ne.mpr c7
                have c7b1 : ((rdOf ByteArray.empty l0 x5_1).toList != (rdOf ByteArray.empty l1 x5_1).toList) = true := bne_iff_ne.mpr c7
                obtain rfl := Option.some.inj H
                have p308 : 0 ≤ (x5_1 : Int) := of_decide_eq_true (by first | (with_reducible assumption) | assumption)
                have q308 : x5_1 < (l0.length : Int) := of_decide_eq_true (by first | (with_reducible assumption) | assumption)
                obtain ⟨ad308, e308, hx308_0⟩ := Kd.at_string HR0.out x5_1 p308 q308
                cases e308
                replace p308 := eq_true p308
                replace q308 := eq_true q308
                have p309 : 0 ≤ (x5_1 : Int) := of_decide_eq_true (by first | (with_reducible assumption) | assumption)
                have q309 : x5_1 < (l1.length : Int) := of_decide_eq_true (by first | (with_reducible assumption) | assumption)
                obtain ⟨ad309, e309, hx309_0⟩ := Kd.at_string HR1.out x5_1 p309 q309
                cases e309
                replace p309 := eq_true p309
                replace q309 := eq_true q309
                go_wp2
                repeat (go_quiet (fail); try go_wp2)
                go_ret
                exact ⟨e2_, by repeat (first | exact Drawn0.refl _ | apply Drawn0.step)⟩
            · rw [if_neg c6] at H
              exact absurd H (by simp)
          · rw [if_neg c5] at H
            exact absurd H (by simp)
        · rw [if_neg c4] at H
          have c4b0 : decide (x5_1 < (l0.length : Int)) = false := decide_eq_false c4
          clear c4
          obtain rfl := Option.some.inj H
          go_wp2
          repeat (go_quiet (fail); try go_wp2)
          go_ret
          exact ⟨e2_, by repeat (first | exact Drawn0.refl _ | apply Drawn0.step)⟩
  · rw [if_neg c3] at H
    have c3b0 : ((l0.length : Int) == (l1.length : Int)) = false := beq_eq_false_iff_ne.mpr c3
    have c3b1 : ((l0.length : Int) != (l1.length : Int)) = true := bne_iff_ne.mpr c3
    have c3b2 : (l0.length == l1.length) = false := by first | simpa using c3 | (simp at c3 ⊢; omega)
    obtain rfl := Option.some.inj H
    go_enter Tryd.func29, Tryd.ntmps29
    go_wp2
    repeat (go_quiet (fail); try go_wp2)
    go_ret
    exact ⟨e2_, by repeat (first | exact Drawn0.refl _ | apply Drawn0.step)⟩
end Go.Proofs.YtibmeomlokigjaaDoor.R
namespace Go.Proofs.YtibmeomlokigjaaDoor.R
open Go.RowKit Go.Proofs.YtibmeomlokigjaaDoorW.PrintWords Go.Proofs.YtibmeomlokigjaaDoorW.PrintLast Go.Proofs.YtibmeomlokigjaaDoorW.PrintMore
attribute [local go_sem] max2_int min2_int max_two min_two max_three min_three max_four min_four
set_option linter.unusedVariables false
set_option linter.unusedSimpArgs false
def laws_eqPair.f (a0_0 : Int) (a0_1 : Int) (a1_0 : Int) (a1_1 : Int) : Option (Bool) := if a0_0 = a1_0 then (if a0_1 = a1_1 then (some true) else (some false)) else (some false)
set_option maxHeartbeats 8000000 in
set_option maxRecDepth 100000 in
theorem laws_eqPair.calls (a0_0 : Int) (a0_1 : Int) (a1_0 : Int) (a1_1 : Int) (r : Bool) (w : World) (h : laws_eqPair.f a0_0 a0_1 a1_0 a1_1 = some r) :
    Calls Tryd.prog 86 #[.agg #[.int .i64 a0_0, .int .i64 a0_1], .agg #[.int .i64 a1_0, .int .i64 a1_1]] w fun e w' => e = .returned (.bool r) ∧ Below w.heap.size w w' := by
  have hu94 := Tryd.underlying94
  have HB := Aside0.mk (Below.refl w.heap.size w)
  have H : (if a0_0 = a1_0 then (if a0_1 = a1_1 then (some true) else (some false)) else (some false)) = some r := h
  clear h
  by_cases c3 : a0_0 = a1_0
  · rw [if_pos c3] at H
    have c3b0 : (a0_0 == a1_0) = true := beq_iff_eq.mpr c3
    have c3b1 : (a0_0 != a1_0) = false := bne_eq_false_iff_eq.mpr c3
    clear c3
    by_cases c4 : a0_1 = a1_1
    · rw [if_pos c4] at H
      have c4b0 : (a0_1 == a1_1) = true := beq_iff_eq.mpr c4
      have c4b1 : (a0_1 != a1_1) = false := bne_eq_false_iff_eq.mpr c4
      clear c4
      obtain rfl := Option.some.inj H
      go_enter Tryd.func86, Tryd.ntmps86
      go_wp2_with (first | ((with_reducible refine gate_dst (N := 2) rfl ?_); refine bx (N := 2) (cs := #[.int .i64 a0_0, .int .i64 a0_1]) (t := 94) ?_; intro gb310 hg w5 hbox hb; have BK310 := Aside0.mk (hbox); have GW310 := gs hg HB; have GE310 := gs hg HB; replace HB := hs_ HB hb; clear hb hbox hg) | ((with_reducible refine gate_dst (N := 3) rfl ?_); refine bx (N := 3) (cs := #[.int .i64 a1_0, .int .i64 a1_1]) (t := 94) ?_; intro gb311 hg w6 hbox hb; have BK311 := Aside0.mk (hbox); have GW311 := gs hg HB; have GE311 := gs hg HB; replace HB := hs_ HB hb; have NB310_311 := gn hg BK310; have NB311_310 := gm hg BK310; replace BK310 := kb BK310 hb; clear hb hbox hg; have hnb7 := NB310_311.out; have hnc7 := NB311_310.out; have ⟨hcz8_0, hcz8_1, hfz8_0, hfz8_1⟩ := rz2 BK310; have ⟨hcz9_0, hcz9_1, hfz9_0, hfz9_1⟩ := rz2 BK311))
      go_ret
      exact ⟨ee, bb HB⟩
    · rw [if_neg c4] at H
      have c4b0 : (a0_1 == a1_1) = false := beq_eq_false_iff_ne.mpr c4
      have c4b1 : (a0_1 != a1_1) = true := bne_iff_ne.mpr c4
      obtain rfl := Option.some.inj H
      go_enter Tryd.func86, Tryd.ntmps86
      go_wp2_with (first | ((with_reducible refine gate_dst (N := 2) rfl ?_); refine bx (N := 2) (cs := #[.int .i64 a0_0, .int .i64 a0_1]) (t := 94) ?_; intro gb310 hg w10 hbox hb; have BK310 := Aside0.mk (hbox); have GW310 := gs hg HB; have GE310 := gs hg HB; replace HB := hs_ HB hb; clear hb hbox hg) | ((with_reducible refine gate_dst (N := 3) rfl ?_); refine bx (N := 3) (cs := #[.int .i64 a1_0, .int .i64 a1_1]) (t := 94) ?_; intro gb311 hg w11 hbox hb; have BK311 := Aside0.mk (hbox); have GW311 := gs hg HB; have GE311 := gs hg HB; replace HB := hs_ HB hb; have NB310_311 := gn hg BK310; have NB311_310 := gm hg BK310; replace BK310 := kb BK310 hb; clear hb hbox hg; have hnb12 := NB310_311.out; have hnc12 := NB311_310.out; have ⟨hcz13_0, hcz13_1, hfz13_0, hfz13_1⟩ := rz2 BK310; have ⟨hcz14_0, hcz14_1, hfz14_0, hfz14_1⟩ := rz2 BK311))
      go_ret
      exact ⟨ee, bb HB⟩
  · rw [if_neg c3] at H
    have c3b0 : (a0_0 == a1_0) = false := beq_eq_false_iff_ne.mpr c3
    have c3b1 : (a0_0 != a1_0) = true := bne_iff_ne.mpr c3
    obtain rfl := Option.some.inj H
    go_enter Tryd.func86, Tryd.ntmps86
    go_wp2_with (first | ((with_reducible refine gate_dst (N := 2) rfl ?_); refine bx (N := 2) (cs := #[.int .i64 a0_0, .int .i64 a0_1]) (t := 94) ?_; intro gb310 hg w15 hbox hb; have BK310 := Aside0.mk (hbox); have GW310 := gs hg HB; have GE310 := gs hg HB; replace HB := hs_ HB hb; clear hb hbox hg) | ((with_reducible refine gate_dst (N := 3) rfl ?_); refine bx (N := 3) (cs := #[.int .i64 a1_0, .int .i64 a1_1]) (t := 94) ?_; intro gb311 hg w16 hbox hb; have BK311 := Aside0.mk (hbox); have GW311 := gs hg HB; have GE311 := gs hg HB; replace HB := hs_ HB hb; have NB310_311 := gn hg BK310; have NB311_310 := gm hg BK310; replace BK310 := kb BK310 hb; clear hb hbox hg; have hnb17 := NB310_311.out; have hnc17 := NB311_310.out; have ⟨hcz18_0, hcz18_1, hfz18_0, hfz18_1⟩ := rz2 BK310; have ⟨hcz19_0, hcz19_1, hfz19_0, hfz19_1⟩ := rz2 BK311))
    go_ret
    exact ⟨ee, bb HB⟩
end Go.Proofs.YtibmeomlokigjaaDoor.R
namespace Go.Proofs.YtibmeomlokigjaaDoor.R
open Go.RowKit Go.Proofs.YtibmeomlokigjaaDoorW.PrintWords Go.Proofs.YtibmeomlokigjaaDoorW.PrintLast Go.Proofs.YtibmeomlokigjaaDoorW.PrintMore
attribute [local go_sem] max2_int min2_int max_two min_two max_three min_three max_four min_four
set_option linter.unusedVariables false
set_option linter.unusedSimpArgs false
def laws_eqPairS.l0 : Nat → List (S94) → List (S94) → Int → Option (Bool)
  | 0, _, _, _ => none
  | k + 1, x0, x1, x5 => if x5 < (x0.length : Int) then (if 0 ≤ x5 then (if x5 < (x1.length : Int) then ((laws_eqPair.f ((rd_T94 x0 x5).f0) ((rd_T94 x0 x5).f1) ((rd_T94 x1 x5).f0) ((rd_T94 x1 x5).f1)).bind fun t314 => (if t314 = true then (laws_eqPairS.l0 k x0 x1 (wrap64 (x5 + 1))) else (some false))) else (none)) else (none)) else (some true)
def laws_eqPairS.f (k : Nat) (l0 : List (S94)) (l1 : List (S94)) : Option (Bool) := if (l0.length : Int) = (l1.length : Int) then (laws_eqPairS.l0 k l0 l1 0) else (some false)
def laws_eqPairS.T6 : Bool × List (List Nat × List Nat) := (true, [([], []), ([], []), ([0, 1], [0, 1]), ([2], [2]), ([], []), ([], []), ([4, 5], [4, 5]), ([6], [6]), ([3, 7], [3, 7]), ([8], [8])])
def laws_eqPairS.B6 : List Nat := [0, 0, 3, 7, 0, 0, 48, 112, 255, 511]
theorem laws_eqPairS.tab6 : rtab .any (opsOf Tryd.f66 6) = laws_eqPairS.T6 := by kernel_rfl
theorem laws_eqPairS.bits6 : waitsOk laws_eqPairS.T6.2 laws_eqPairS.B6 = true := by kernel_rfl
set_option maxHeartbeats 8000000 in
set_option maxRecDepth 100000 in
theorem laws_eqPairS.calls (k : Nat) (A0 : Option Addr) (c0 : Nat) (l0 : List (S94)) (A1 : Option Addr) (c1 : Nat) (l1 : List (S94)) (r : Bool) (w : World) (hr0 : Kd.C k94 w A0 l0.length l0) (hc0 : l0.length ≤ c0) (hr1 : Kd.C k94 w A1 l1.length l1) (hc1 : l1.length ≤ c1) (h : laws_eqPairS.f k l0 l1 = some r) :
    Calls Tryd.prog 66 #[.slice A0 l0.length c0, .slice A1 l1.length c1] w fun e w' => e = .returned (.bool r) ∧ Below w.heap.size w w' := by
  have hu94 := Tryd.underlying94
  have HR0 := Aside0.mk hr0
  have HC0 := Aside0.mk hc0
  clear hr0 hc0
  have HR1 := Aside0.mk hr1
  have HC1 := Aside0.mk hc1
  clear hr1 hc1
  have HB := Aside0.mk (Below.refl w.heap.size w)
  have H : (if (l0.length : Int) = (l1.length : Int) then (laws_eqPairS.l0 k l0 l1 0) else (some false)) = some r := h
  clear h
  by_cases c3 : (l0.length : Int) = (l1.length : Int)
  · rw [if_pos c3] at H
    have c3b0 : ((l0.length : Int) == (l1.length : Int)) = true := beq_iff_eq.mpr c3
    have c3b1 : ((l0.length : Int) != (l1.length : Int)) = false := bne_eq_false_iff_eq.mpr c3
    have c3b2 : (l0.length == l1.length) = true := by first | simpa using c3 | (simp at c3 ⊢; omega)
    clear c3
    have H' := Aside0.mk H
    clear H
    go_enter Tryd.func66, Tryd.ntmps66
    go_wp2
    go_loopg [5] k (fun kq v5 w' => ∃ (x5_1 : Int), v5 = .int .i64 x5_1 ∧ Aside0 (laws_eqPairS.l0 kq l0 l1 x5_1 = some r) ∧ Aside0 (kq ≤ k) ∧ Aside0 (Below w.heap.size w w'))
    case atStart => exact ⟨(0), e2_, H', ⟨Nat.le_refl _⟩, ⟨bb HB⟩⟩
    case round =>
      clear H'
      (try clear c1)
      (try clear p2)
      (try clear c3)
      (try clear c3b0)
      (try clear c3b1)
      (try clear c3b2)
      obtain ⟨x5_1, rfl, HA, HK1, HB⟩ := hrel
      cases gk with
      | zero => exact absurd HA.out (by simp [laws_eqPairS.l0])
      | succ k1 =>
        have H := HA.out
        clear HA
        simp only [laws_eqPairS.l0] at H
        by_cases c4 : x5_1 < (l0.length : Int)
        · rw [if_pos c4] at H
          have c4b0 : decide (x5_1 < (l0.length : Int)) = true := decide_eq_true c4
          clear c4
          by_cases c5 : 0 ≤ x5_1
          · rw [if_pos c5] at H
            have c5b0 : decide (0 ≤ x5_1) = true := decide_eq_true c5
            clear c5
            by_cases c6 : x5_1 < (l1.length : Int)
            · rw [if_pos c6] at H
              have c6b0 : decide (x5_1 < (l1.length : Int)) = true := decide_eq_true c6
              clear c6
              replace H := Option.bind_eq_some_iff.mp H
              obtain ⟨t314, A70, H⟩ := H
              replace H : (if t314 = true then (laws_eqPairS.l0 k1 l0 l1 (wrap64 (x5_1 + 1))) else (some false)) = some r := H
              have A7 := Aside0.mk A70
              clear A70
              by_cases c8 : t314 = true
              · subst c8
                have H1 : (laws_eqPairS.l0 k1 l0 l1 (wrap64 (x5_1 + 1))) = some r := by rw [if_pos rfl] at H; exact H
                clear H
                have H := H1
                clear H1
                have H' := Aside0.mk H
                clear H
                try go_wp2
                replace HB := Aside0.mk (below_drew1 HB.out)
                have p312 : 0 ≤ (x5_1 : Int) := of_decide_eq_true (by first | (with_reducible assumption) | assumption)
                have q312 : x5_1 < (l0.length : Int) := of_decide_eq_true (by first | (with_reducible assumption) | assumption)
                obtain ⟨ad312, e312, hx312_0, hx312_1⟩ := at_T94 HR0.out x5_1 p312 q312
                have hw312_1 := hx312_1
                have hw312_0 := hx312_0
                cases e312
                replace hx312_0 := (HB.out.cell (World.block_lt_of_cell? w _ hx312_0)).trans hx312_0
                replace hx312_1 := (HB.out.cell (World.block_lt_of_cell? w _ hx312_1)).trans hx312_1
                replace p312 := eq_true p312
                replace q312 := eq_true q312
                have p313 : 0 ≤ (x5_1 : Int) := of_decide_eq_true (by first | (with_reducible assumption) | assumption)
                have q313 : x5_1 < (l1.length : Int) := of_decide_eq_true (by first | (with_reducible assumption) | assumption)
                obtain ⟨ad313, e313, hx313_0, hx313_1⟩ := at_T94 HR1.out x5_1 p313 q313
                have hw313_1 := hx313_1
                have hw313_0 := hx313_0
                cases e313
                replace hx313_0 := (HB.out.cell (World.block_lt_of_cell? w _ hx313_0)).trans hx313_0
                replace hx313_1 := (HB.out.cell (World.block_lt_of_cell? w _ hx313_1)).trans hx313_1
                replace p313 := eq_true p313
                replace q313 := eq_true q313
                refine start_ (n := 10) (S := fun w' => w'.cell? (ad312.add ((x5_1).toNat * 2)) = some (.int .i64 ((rd_T94 l0 x5_1).f0)) ∧ w'.cell? ⟨(ad312.add ((x5_1).toNat * 2)).block, (ad312.add ((x5_1).toNat * 2)).off + 1, none⟩ = some (.int .i64 ((rd_T94 l0 x5_1).f1)) ∧ w'.cell? (ad313.add ((x5_1).toNat * 2)) = some (.int .i64 ((rd_T94 l1 x5_1).f0)) ∧ w'.cell? ⟨(ad313.add ((x5_1).toNat * 2)).block, (ad313.add ((x5_1).toNat * 2)).off + 1, none⟩ = some (.int .i64 ((rd_T94 l1 x5_1).f1))) (ds := []) #[false, false, false, false, false, false, false, false, false, false] (by kernel_rfl) rfl rfl ⟨((HB.out.cell (World.block_lt_of_cell? w _ hw312_0)).trans hw312_0), ((HB.out.cell (World.block_lt_of_cell? w _ hw312_1)).trans hw312_1), ((HB.out.cell (World.block_lt_of_cell? w _ hw313_0)).trans hw313_0), ((HB.out.cell (World.block_lt_of_cell? w _ hw313_1)).trans hw313_1)⟩ (fun hHeld => ?_); refine with_tabW laws_eqPairS.tab6 laws_eqPairS.bits6 (fun HT_ HW_ => ?_)
                generalize wr.drew = w9 at HB hx312_0 hx312_1 hx313_0 hx313_1 hHeld ⊢
                refine pure_ (i := 0) (N := some 17) (v := ?_) (a' := ?_) #[true, false, false, false, false, false, false, false, false, false] rfl rfl (any_of HT_.out (by kernel_rfl)) (fun _ _ _ h => h) (Or.inl ⟨by rfl, ?_⟩) ?_ ?_
                rotate_left
                · intro w'
                  go_simp
                  with_reducible rfl
                rotate_left
                · simp only [Act.put, List.setIfInBounds_toArray, List.set_cons_zero, List.set_cons_succ, i64_w, i32_w]
                  rfl
                refine pure_ (i := 1) (N := some 18) (v := ?_) (a' := ?_) #[true, true, false, false, false, false, false, false, false, false] rfl rfl (any_of HT_.out (by kernel_rfl)) (fun _ _ _ h => h) (Or.inl ⟨by rfl, ?_⟩) ?_ ?_
                rotate_left
                · intro w'
                  go_simp
                  with_reducible rfl
                rotate_left
                · simp only [Act.put, List.setIfInBounds_toArray, List.set_cons_zero, List.set_cons_succ, i64_w, i32_w]
                  rfl
                refine pure_ (i := 2) (N := some 19) (v := ?_) (a' := ?_) #[true, true, true, false, false, false, false, false, false, false] rfl rfl (any_of HT_.out (by kernel_rfl)) (fun _ _ _ h => h) (Or.inl ⟨by rfl, ?_⟩) ?_ ?_
                rotate_left
                · intro w'
                  go_simp
                  with_reducible rfl
                rotate_left
                · simp only [Act.put, List.setIfInBounds_toArray, List.set_cons_zero, List.set_cons_succ, i64_w, i32_w]
                  rfl
                refine pure_ (i := 4) (N := some 21) (v := ?_) (a' := ?_) #[true, true, true, false, true, false, false, false, false, false] rfl rfl (any_of HT_.out (by kernel_rfl)) (fun _ _ _ h => h) (Or.inl ⟨by rfl, ?_⟩) ?_ ?_
                rotate_left
                · intro w'
                  go_simp
                  with_reducible rfl
                rotate_left
                · simp only [Act.put, List.setIfInBounds_toArray, List.set_cons_zero, List.set_cons_succ, i64_w, i32_w]
                  rfl
                refine pure_ (i := 5) (N := some 22) (v := ?_) (a' := ?_) #[true, true, true, false, true, true, false, false, false, false] rfl rfl (any_of HT_.out (by kernel_rfl)) (fun _ _ _ h => h) (Or.inl ⟨by rfl, ?_⟩) ?_ ?_
                rotate_left
                · intro w'
                  go_simp
                  with_reducible rfl
                rotate_left
                · simp only [Act.put, List.setIfInBounds_toArray, List.set_cons_zero, List.set_cons_succ, i64_w, i32_w]
                  rfl
                refine pure_ (i := 6) (N := some 23) (v := ?_) (a' := ?_) #[true, true, true, false, true, true, true, false, false, false] rfl rfl (any_of HT_.out (by kernel_rfl)) (fun _ _ _ h => h) (Or.inl ⟨by rfl, ?_⟩) ?_ ?_
                rotate_left
                · intro w'
                  go_simp
                  with_reducible rfl
                rotate_left
                · simp only [Act.put, List.setIfInBounds_toArray, List.set_cons_zero, List.set_cons_succ, i64_w, i32_w]
                  rfl
                refine take_ (i := 3) (N := some 20) (v := ?_) (a' := ?_) #[true, true, true, true, true, true, true, false, false, false] rfl rfl (take_ofW HT_.out HW_.out (by kernel_rfl)) (fun _ _ _ h => h) (Or.inl ⟨by rfl, ?_⟩) hHeld ?_ ?_
                rotate_left
                · rintro w' ⟨s0, s1, s2, s3⟩
                  go_simp
                  with_reducible rfl
                rotate_left
                · simp only [Act.put, List.setIfInBounds_toArray, List.set_cons_zero, List.set_cons_succ, i64_w, i32_w]
                  rfl
                refine take_ (i := 7) (N := some 24) (v := ?_) (a' := ?_) #[true, true, true, true, true, true, true, true, false, false] rfl rfl (take_ofW HT_.out HW_.out (by kernel_rfl)) (fun _ _ _ h => h) (Or.inl ⟨by rfl, ?_⟩) hHeld ?_ ?_
                rotate_left
                · rintro w' ⟨s0, s1, s2, s3⟩
                  go_simp
                  with_reducible rfl
                rotate_left
                · simp only [Act.put, List.setIfInBounds_toArray, List.set_cons_zero, List.set_cons_succ, i64_w, i32_w]
                  rfl
                refine one_ (i := 8) (N := some 25) #[true, true, true, true, true, true, true, true, true, false] rfl rfl (one_of HT_.out (by kernel_rfl)) (by decide) (fun K hK => ?_)
                refine goes_ Tryd.func86 (by kernel_rfl) rfl #[.agg #[.int .i64 ((rd_T94 l0 x5_1).f0), .int .i64 ((rd_T94 l0 x5_1).f1)], .agg #[.int .i64 ((rd_T94 l1 x5_1).f0), .int .i64 ((rd_T94 l1 x5_1).f1)]] (by rfl) rfl rfl (by (try simp only [List.map_toArray, List.map_cons, List.map_nil]); first | done | rfl | (simp only [List.length_drop, List.length_take]; rfl)) ?_
                with_reducible refine (laws_eqPair.calls ((rd_T94 l0 x5_1).f0) ((rd_T94 l0 x5_1).f1) ((rd_T94 l1 x5_1).f0) ((rd_T94 l1 x5_1).f1) true _ A7.out).mono ?_
                rintro e w10 ⟨rfl, hb⟩
                refine ⟨_, rfl, ?_⟩
                replace HB := hs_ HB hb
                (try clear hb)
                (try clear hb2)
                (try clear hk)
                (try clear hi)
                refine hK.out _ _ ⟨((HB.out.cell (World.block_lt_of_cell? w _ hw312_0)).trans hw312_0), ((HB.out.cell (World.block_lt_of_cell? w _ hw312_1)).trans hw312_1), ((HB.out.cell (World.block_lt_of_cell? w _ hw313_0)).trans hw313_0), ((HB.out.cell (World.block_lt_of_cell? w _ hw313_1)).trans hw313_1)⟩ (fun hHeld => ?_)
                clear hK K
                refine norm_ (a' := ?_) ?_ ?_
                rotate_left
                · show Act.put _ (some 25) _ = _
                  simp only [Act.put, List.setIfInBounds_toArray, List.set_cons_zero, List.set_cons_succ, i64_w, i32_w]
                  rfl
                refine pure_ (i := 9) (N := some 26) (v := ?_) (a' := ?_) #[true, true, true, true, true, true, true, true, true, true] rfl rfl (any_of HT_.out (by kernel_rfl)) (fun _ _ _ h => h) (Or.inl ⟨by rfl, ?_⟩) ?_ ?_
                rotate_left
                · intro w'
                  go_simp
                  with_reducible rfl
                rotate_left
                · simp only [Act.put, List.setIfInBounds_toArray, List.set_cons_zero, List.set_cons_succ, i64_w, i32_w]
                  rfl
                refine done_ (done_of HT_.out (by kernel_rfl)) ?_
                try go_wp2
                go_roundg k1
                case measure => have := HK1.out; omega
                case rel => exact ⟨(wrap64 (x5_1 + 1)), e2_, H', ⟨by have := HK1.out; omega⟩, ⟨bb HB⟩⟩
              · replace c8 := Bool.eq_false_iff.mpr c8
                subst c8
                have H1 : (some false) = some r := by rw [if_neg (show ¬ (false = true) by decide)] at H; exact H
                clear H
                have H := H1
                clear H1
                obtain rfl := Option.some.inj H
                try go_wp2
                replace HB := Aside0.mk (below_drew1 HB.out)
                have p312 : 0 ≤ (x5_1 : Int) := of_decide_eq_true (by first | (with_reducible assumption) | assumption)
                have q312 : x5_1 < (l0.length : Int) := of_decide_eq_true (by first | (with_reducible assumption) | assumption)
                obtain ⟨ad312, e312, hx312_0, hx312_1⟩ := at_T94 HR0.out x5_1 p312 q312
                have hw312_1 := hx312_1
                have hw312_0 := hx312_0
                cases e312
                replace hx312_0 := (HB.out.cell (World.block_lt_of_cell? w _ hx312_0)).trans hx312_0
                replace hx312_1 := (HB.out.cell (World.block_lt_of_cell? w _ hx312_1)).trans hx312_1
                replace p312 := eq_true p312
                replace q312 := eq_true q312
                have p313 : 0 ≤ (x5_1 : Int) := of_decide_eq_true (by first | (with_reducible assumption) | assumption)
                have q313 : x5_1 < (l1.length : Int) := of_decide_eq_true (by first | (with_reducible assumption) | assumption)
                obtain ⟨ad313, e313, hx313_0, hx313_1⟩ := at_T94 HR1.out x5_1 p313 q313
                have hw313_1 := hx313_1
                have hw313_0 := hx313_0
                cases e313
                replace hx313_0 := (HB.out.cell (World.block_lt_of_cell? w _ hx313_0)).trans hx313_0
                replace hx313_1 := (HB.out.cell (World.block_lt_of_cell? w _ hx313_1)).trans hx313_1
                replace p313 := eq_true p313
                replace q313 := eq_true q313
                refine start_ (n := 10) (S := fun w' => w'.cell? (ad312.add ((x5_1).toNat * 2)) = some (.int .i64 ((rd_T94 l0 x5_1).f0)) ∧ w'.cell? ⟨(ad312.add ((x5_1).toNat * 2)).block, (ad312.add ((x5_1).toNat * 2)).off + 1, none⟩ = some (.int .i64 ((rd_T94 l0 x5_1).f1)) ∧ w'.cell? (ad313.add ((x5_1).toNat * 2)) = some (.int .i64 ((rd_T94 l1 x5_1).f0)) ∧ w'.cell? ⟨(ad313.add ((x5_1).toNat * 2)).block, (ad313.add ((x5_1).toNat * 2)).off + 1, none⟩ = some (.int .i64 ((rd_T94 l1 x5_1).f1))) (ds := []) #[false, false, false, false, false, false, false, false, false, false] (by kernel_rfl) rfl rfl ⟨((HB.out.cell (World.block_lt_of_cell? w _ hw312_0)).trans hw312_0), ((HB.out.cell (World.block_lt_of_cell? w _ hw312_1)).trans hw312_1), ((HB.out.cell (World.block_lt_of_cell? w _ hw313_0)).trans hw313_0), ((HB.out.cell (World.block_lt_of_cell? w _ hw313_1)).trans hw313_1)⟩ (fun hHeld => ?_); refine with_tabW laws_eqPairS.tab6 laws_eqPairS.bits6 (fun HT_ HW_ => ?_)
                generalize wr.drew = w11 at HB hx312_0 hx312_1 hx313_0 hx313_1 hHeld ⊢
                refine pure_ (i := 0) (N := some 17) (v := ?_) (a' := ?_) #[true, false, false, false, false, false, false, false, false, false] rfl rfl (any_of HT_.out (by kernel_rfl)) (fun _ _ _ h => h) (Or.inl ⟨by rfl, ?_⟩) ?_ ?_
                rotate_left
                · intro w'
                  go_simp
                  with_reducible rfl
                rotate_left
                · simp only [Act.put, List.setIfInBounds_toArray, List.set_cons_zero, List.set_cons_succ, i64_w, i32_w]
                  rfl
                refine pure_ (i := 1) (N := some 18) (v := ?_) (a' := ?_) #[true, true, false, false, false, false, false, false, false, false] rfl rfl (any_of HT_.out (by kernel_rfl)) (fun _ _ _ h => h) (Or.inl ⟨by rfl, ?_⟩) ?_ ?_
                rotate_left
                · intro w'
                  go_simp
                  with_reducible rfl
                rotate_left
                · simp only [Act.put, List.setIfInBounds_toArray, List.set_cons_zero, List.set_cons_succ, i64_w, i32_w]
                  rfl
                refine pure_ (i := 2) (N := some 19) (v := ?_) (a' := ?_) #[true, true, true, false, false, false, false, false, false, false] rfl rfl (any_of HT_.out (by kernel_rfl)) (fun _ _ _ h => h) (Or.inl ⟨by rfl, ?_⟩) ?_ ?_
                rotate_left
                · intro w'
                  go_simp
                  with_reducible rfl
                rotate_left
                · simp only [Act.put, List.setIfInBounds_toArray, List.set_cons_zero, List.set_cons_succ, i64_w, i32_w]
                  rfl
                refine pure_ (i := 4) (N := some 21) (v := ?_) (a' := ?_) #[true, true, true, false, true, false, false, false, false, false] rfl rfl (any_of HT_.out (by kernel_rfl)) (fun _ _ _ h => h) (Or.inl ⟨by rfl, ?_⟩) ?_ ?_
                rotate_left
                · intro w'
                  go_simp
                  with_reducible rfl
                rotate_left
                · simp only [Act.put, List.setIfInBounds_toArray, List.set_cons_zero, List.set_cons_succ, i64_w, i32_w]
                  rfl
                refine pure_ (i := 5) (N := some 22) (v := ?_) (a' := ?_) #[true, true, true, false, true, true, false, false, false, false] rfl rfl (any_of HT_.out (by kernel_rfl)) (fun _ _ _ h => h) (Or.inl ⟨by rfl, ?_⟩) ?_ ?_
                rotate_left
                · intro w'
                  go_simp
                  with_reducible rfl
                rotate_left
                · simp only [Act.put, List.setIfInBounds_toArray, List.set_cons_zero, List.set_cons_succ, i64_w, i32_w]
                  rfl
                refine pure_ (i := 6) (N := some 23) (v := ?_) (a' := ?_) #[true, true, true, false, true, true, true, false, false, false] rfl rfl (any_of HT_.out (by kernel_rfl)) (fun _ _ _ h => h) (Or.inl ⟨by rfl, ?_⟩) ?_ ?_
                rotate_left
                · intro w'
                  go_simp
                  with_reducible rfl
                rotate_left
                · simp only [Act.put, List.setIfInBounds_toArray, List.set_cons_zero, List.set_cons_succ, i64_w, i32_w]
                  rfl
                refine take_ (i := 3) (N := some 20) (v := ?_) (a' := ?_) #[true, true, true, true, true, true, true, false, false, false] rfl rfl (take_ofW HT_.out HW_.out (by kernel_rfl)) (fun _ _ _ h => h) (Or.inl ⟨by rfl, ?_⟩) hHeld ?_ ?_
                rotate_left
                · rintro w' ⟨s0, s1, s2, s3⟩
                  go_simp
                  with_reducible rfl
                rotate_left
                · simp only [Act.put, List.setIfInBounds_toArray, List.set_cons_zero, List.set_cons_succ, i64_w, i32_w]
                  rfl
                refine take_ (i := 7) (N := some 24) (v := ?_) (a' := ?_) #[true, true, true, true, true, true, true, true, false, false] rfl rfl (take_ofW HT_.out HW_.out (by kernel_rfl)) (fun _ _ _ h => h) (Or.inl ⟨by rfl, ?_⟩) hHeld ?_ ?_
                rotate_left
                · rintro w' ⟨s0, s1, s2, s3⟩
                  go_simp
                  with_reducible rfl
                rotate_left
                · simp only [Act.put, List.setIfInBounds_toArray, List.set_cons_zero, List.set_cons_succ, i64_w, i32_w]
                  rfl
                refine one_ (i := 8) (N := some 25) #[true, true, true, true, true, true, true, true, true, false] rfl rfl (one_of HT_.out (by kernel_rfl)) (by decide) (fun K hK => ?_)
                refine goes_ Tryd.func86 (by kernel_rfl) rfl #[.agg #[.int .i64 ((rd_T94 l0 x5_1).f0), .int .i64 ((rd_T94 l0 x5_1).f1)], .agg #[.int .i64 ((rd_T94 l1 x5_1).f0), .int .i64 ((rd_T94 l1 x5_1).f1)]] (by rfl) rfl rfl (by (try simp only [List.map_toArray, List.map_cons, List.map_nil]); first | done | rfl | (simp only [List.length_drop, List.length_take]; rfl)) ?_
                with_reducible refine (laws_eqPair.calls ((rd_T94 l0 x5_1).f0) ((rd_T94 l0 x5_1).f1) ((rd_T94 l1 x5_1).f0) ((rd_T94 l1 x5_1).f1) false _ A7.out).mono ?_
                rintro e w12 ⟨rfl, hb⟩
                refine ⟨_, rfl, ?_⟩
                replace HB := hs_ HB hb
                (try clear hb)
                (try clear hb2)
                (try clear hk)
                (try clear hi)
                refine hK.out _ _ ⟨((HB.out.cell (World.block_lt_of_cell? w _ hw312_0)).trans hw312_0), ((HB.out.cell (World.block_lt_of_cell? w _ hw312_1)).trans hw312_1), ((HB.out.cell (World.block_lt_of_cell? w _ hw313_0)).trans hw313_0), ((HB.out.cell (World.block_lt_of_cell? w _ hw313_1)).trans hw313_1)⟩ (fun hHeld => ?_)
                clear hK K
                refine norm_ (a' := ?_) ?_ ?_
                rotate_left
                · show Act.put _ (some 25) _ = _
                  simp only [Act.put, List.setIfInBounds_toArray, List.set_cons_zero, List.set_cons_succ, i64_w, i32_w]
                  rfl
                refine pure_ (i := 9) (N := some 26) (v := ?_) (a' := ?_) #[true, true, true, true, true, true, true, true, true, true] rfl rfl (any_of HT_.out (by kernel_rfl)) (fun _ _ _ h => h) (Or.inl ⟨by rfl, ?_⟩) ?_ ?_
                rotate_left
                · intro w'
                  go_simp
                  with_reducible rfl
                rotate_left
                · simp only [Act.put, List.setIfInBounds_toArray, List.set_cons_zero, List.set_cons_succ, i64_w, i32_w]
                  rfl
                refine done_ (done_of HT_.out (by kernel_rfl)) ?_
                try go_wp2
                go_ret
                exact ⟨ee, bb HB⟩
            · rw [if_neg c6] at H
              exact absurd H (by simp)
          · rw [if_neg c5] at H
            exact absurd H (by simp)
        · rw [if_neg c4] at H
          have c4b0 : decide (x5_1 < (l0.length : Int)) = false := decide_eq_false c4
          clear c4
          obtain rfl := Option.some.inj H
          go_wp2
          go_ret
          exact ⟨ee, bb HB⟩
  · rw [if_neg c3] at H
    have c3b0 : ((l0.length : Int) == (l1.length : Int)) = false := beq_eq_false_iff_ne.mpr c3
    have c3b1 : ((l0.length : Int) != (l1.length : Int)) = true := bne_iff_ne.mpr c3
    have c3b2 : (l0.length == l1.length) = false := by first | simpa using c3 | (simp at c3 ⊢; omega)
    obtain rfl := Option.some.inj H
    go_enter Tryd.func66, Tryd.ntmps66
    go_wp2
    go_ret
    exact ⟨ee, bb HB⟩
end Go.Proofs.YtibmeomlokigjaaDoor.R
namespace Go.Proofs.YtibmeomlokigjaaDoor.R
open Go.RowKit Go.Proofs.YtibmeomlokigjaaDoorW.PrintWords Go.Proofs.YtibmeomlokigjaaDoorW.PrintLast Go.Proofs.YtibmeomlokigjaaDoorW.PrintMore
attribute [local go_sem] max2_int min2_int max_two min_two max_three min_three max_four min_four
set_option linter.unusedVariables false
set_option linter.unusedSimpArgs false
def laws_eqPairSS.l0 : Nat → List (List (S94)) → List (List (S94)) → Int → Option (Bool)
  | 0, _, _, _ => none
  | k + 1, x0, x1, x5 => if x5 < (x0.length : Int) then (if 0 ≤ x5 then (if x5 < (x1.length : Int) then ((laws_eqPairS.f k (rd_L6 x0 x5) (rd_L6 x1 x5)).bind fun t317 => (if t317 = true then (laws_eqPairSS.l0 k x0 x1 (wrap64 (x5 + 1))) else (some false))) else (none)) else (none)) else (some true)
def laws_eqPairSS.f (k : Nat) (l0 : List (List (S94))) (l1 : List (List (S94))) : Option (Bool) := if (l0.length : Int) = (l1.length : Int) then (laws_eqPairSS.l0 k l0 l1 0) else (some false)
def laws_eqPairSS.T6 : Bool × List (List Nat × List Nat) := (true, [([], []), ([], []), ([0, 1], [0, 1]), ([2], [2]), ([], []), ([], []), ([4, 5], [4, 5]), ([6], [6]), ([3, 7], [3, 7]), ([8], [8])])
def laws_eqPairSS.B6 : List Nat := [0, 0, 3, 7, 0, 0, 48, 112, 255, 511]
theorem laws_eqPairSS.tab6 : rtab .any (opsOf Tryd.f30 6) = laws_eqPairSS.T6 := by kernel_rfl
theorem laws_eqPairSS.bits6 : waitsOk laws_eqPairSS.T6.2 laws_eqPairSS.B6 = true := by kernel_rfl
set_option maxHeartbeats 8000000 in
set_option maxRecDepth 100000 in
theorem laws_eqPairSS.calls (k : Nat) (A0 : Option Addr) (c0 : Nat) (l0 : List (List (S94))) (A1 : Option Addr) (c1 : Nat) (l1 : List (List (S94))) (r : Bool) (w : World) (hr0 : Kd.C (Kd.slice 94 k94) w A0 l0.length l0) (hc0 : l0.length ≤ c0) (hr1 : Kd.C (Kd.slice 94 k94) w A1 l1.length l1) (hc1 : l1.length ≤ c1) (h : laws_eqPairSS.f k l0 l1 = some r) :
    Calls Tryd.prog 30 #[.slice A0 l0.length c0, .slice A1 l1.length c1] w fun e w' => e = .returned (.bool r) ∧ Below w.heap.size w w' := by
  have HR0 := Aside0.mk hr0
  have HC0 := Aside0.mk hc0
  clear hr0 hc0
  have HR1 := Aside0.mk hr1
  have HC1 := Aside0.mk hc1
  clear hr1 hc1
  have HB := Aside0.mk (Below.refl w.heap.size w)
  have H : (if (l0.length : Int) = (l1.length : Int) then (laws_eqPairSS.l0 k l0 l1 0) else (some false)) = some r := h
  clear h
  by_cases c3 : (l0.length : Int) = (l1.length : Int)
  · rw [if_pos c3] at H
    have c3b0 : ((l0.length : Int) == (l1.length : Int)) = true := beq_iff_eq.mpr c3
    have c3b1 : ((l0.length : Int) != (l1.length : Int)) = false := bne_eq_false_iff_eq.mpr c3
    have c3b2 : (l0.length == l1.length) = true := by first | simpa using c3 | (simp at c3 ⊢; omega)
    clear c3
    have H' := Aside0.mk H
    clear H
    go_enter Tryd.func30, Tryd.ntmps30
    go_wp2
    go_loopg [5] k (fun kq v5 w' => ∃ (x5_1 : Int), v5 = .int .i64 x5_1 ∧ Aside0 (laws_eqPairSS.l0 kq l0 l1 x5_1 = some r) ∧ Aside0 (kq ≤ k) ∧ Aside0 (Below w.heap.size w w'))
    case atStart => exact ⟨(0), e2_, H', ⟨Nat.le_refl _⟩, ⟨bb HB⟩⟩
    case round =>
      clear H'
      (try clear c1)
      (try clear p2)
      (try clear c3)
      (try clear c3b0)
      (try clear c3b1)
      (try clear c3b2)
      obtain ⟨x5_1, rfl, HA, HK1, HB⟩ := hrel
      cases gk with
      | zero => exact absurd HA.out (by simp [laws_eqPairSS.l0])
      | succ k1 =>
        have H := HA.out
        clear HA
        simp only [laws_eqPairSS.l0] at H
        by_cases c4 : x5_1 < (l0.length : Int)
        · rw [if_pos c4] at H
          have c4b0 : decide (x5_1 < (l0.length : Int)) = true := decide_eq_true c4
          clear c4
          by_cases c5 : 0 ≤ x5_1
          · rw [if_pos c5] at H
            have c5b0 : decide (0 ≤ x5_1) = true := decide_eq_true c5
            clear c5
            by_cases c6 : x5_1 < (l1.length : Int)
            · rw [if_pos c6] at H
              have c6b0 : decide (x5_1 < (l1.length : Int)) = true := decide_eq_true c6
              clear c6
              replace H := Option.bind_eq_some_iff.mp H
              obtain ⟨t317, A70, H⟩ := H
              replace H : (if t317 = true then (laws_eqPairSS.l0 k1 l0 l1 (wrap64 (x5_1 + 1))) else (some false)) = some r := H
              have A7 := Aside0.mk A70
              clear A70
              by_cases c8 : t317 = true
              · subst c8
                have H1 : (laws_eqPairSS.l0 k1 l0 l1 (wrap64 (x5_1 + 1))) = some r := by rw [if_pos rfl] at H; exact H
                clear H
                have H := H1
                clear H1
                have H' := Aside0.mk H
                clear H
                try go_wp2
                replace HB := Aside0.mk (below_drew1 HB.out)
                have p315 : 0 ≤ (x5_1 : Int) := of_decide_eq_true (by first | (with_reducible assumption) | assumption)
                have q315 : x5_1 < (l0.length : Int) := of_decide_eq_true (by first | (with_reducible assumption) | assumption)
                obtain ⟨ad315, A315_0, c315_0, e315, hx315_0, hl315_0, hi315_0⟩ := at_L6 HR0.out x5_1 p315 q315
                have hw315_0 := hx315_0
                cases e315
                replace hx315_0 := (HB.out.cell (World.block_lt_of_cell? w _ hx315_0)).trans hx315_0
                have HR315_0 := Aside0.mk hi315_0
                have HC315_0 := Aside0.mk hl315_0
                clear hi315_0 hl315_0
                replace p315 := eq_true p315
                replace q315 := eq_true q315
                have p316 : 0 ≤ (x5_1 : Int) := of_decide_eq_true (by first | (with_reducible assumption) | assumption)
                have q316 : x5_1 < (l1.length : Int) := of_decide_eq_true (by first | (with_reducible assumption) | assumption)
                obtain ⟨ad316, A316_0, c316_0, e316, hx316_0, hl316_0, hi316_0⟩ := at_L6 HR1.out x5_1 p316 q316
                have hw316_0 := hx316_0
                cases e316
                replace hx316_0 := (HB.out.cell (World.block_lt_of_cell? w _ hx316_0)).trans hx316_0
                have HR316_0 := Aside0.mk hi316_0
                have HC316_0 := Aside0.mk hl316_0
                clear hi316_0 hl316_0
                replace p316 := eq_true p316
                replace q316 := eq_true q316
                refine start_ (n := 10) (S := fun w' => w'.cell? (ad315.add (x5_1).toNat) = some (.slice A315_0 (rd_L6 l0 x5_1).length c315_0) ∧ w'.cell? (ad316.add (x5_1).toNat) = some (.slice A316_0 (rd_L6 l1 x5_1).length c316_0)) (ds := []) #[false, false, false, false, false, false, false, false, false, false] (by kernel_rfl) rfl rfl ⟨((HB.out.cell (World.block_lt_of_cell? w _ hw315_0)).trans hw315_0), ((HB.out.cell (World.block_lt_of_cell? w _ hw316_0)).trans hw316_0)⟩ (fun hHeld => ?_); refine with_tabW laws_eqPairSS.tab6 laws_eqPairSS.bits6 (fun HT_ HW_ => ?_)
                generalize wr.drew = w9 at HB HR315_0 HR316_0 hx315_0 hx316_0 hHeld ⊢
                refine pure_ (i := 0) (N := some 17) (v := ?_) (a' := ?_) #[true, false, false, false, false, false, false, false, false, false] rfl rfl (any_of HT_.out (by kernel_rfl)) (fun _ _ _ h => h) (Or.inl ⟨by rfl, ?_⟩) ?_ ?_
                rotate_left
                · intro w'
                  go_simp
                  with_reducible rfl
                rotate_left
                · simp only [Act.put, List.setIfInBounds_toArray, List.set_cons_zero, List.set_cons_succ, i64_w, i32_w]
                  rfl
                refine pure_ (i := 1) (N := some 18) (v := ?_) (a' := ?_) #[true, true, false, false, false, false, false, false, false, false] rfl rfl (any_of HT_.out (by kernel_rfl)) (fun _ _ _ h => h) (Or.inl ⟨by rfl, ?_⟩) ?_ ?_
                rotate_left
                · intro w'
                  go_simp
                  with_reducible rfl
                rotate_left
                · simp only [Act.put, List.setIfInBounds_toArray, List.set_cons_zero, List.set_cons_succ, i64_w, i32_w]
                  rfl
                refine pure_ (i := 2) (N := some 19) (v := ?_) (a' := ?_) #[true, true, true, false, false, false, false, false, false, false] rfl rfl (any_of HT_.out (by kernel_rfl)) (fun _ _ _ h => h) (Or.inl ⟨by rfl, ?_⟩) ?_ ?_
                rotate_left
                · intro w'
                  go_simp
                  with_reducible rfl
                rotate_left
                · simp only [Act.put, List.setIfInBounds_toArray, List.set_cons_zero, List.set_cons_succ, i64_w, i32_w]
                  rfl
                refine pure_ (i := 4) (N := some 21) (v := ?_) (a' := ?_) #[true, true, true, false, true, false, false, false, false, false] rfl rfl (any_of HT_.out (by kernel_rfl)) (fun _ _ _ h => h) (Or.inl ⟨by rfl, ?_⟩) ?_ ?_
                rotate_left
                · intro w'
                  go_simp
                  with_reducible rfl
                rotate_left
                · simp only [Act.put, List.setIfInBounds_toArray, List.set_cons_zero, List.set_cons_succ, i64_w, i32_w]
                  rfl
                refine pure_ (i := 5) (N := some 22) (v := ?_) (a' := ?_) #[true, true, true, false, true, true, false, false, false, false] rfl rfl (any_of HT_.out (by kernel_rfl)) (fun _ _ _ h => h) (Or.inl ⟨by rfl, ?_⟩) ?_ ?_
                rotate_left
                · intro w'
                  go_simp
                  with_reducible rfl
                rotate_left
                · simp only [Act.put, List.setIfInBounds_toArray, List.set_cons_zero, List.set_cons_succ, i64_w, i32_w]
                  rfl
                refine pure_ (i := 6) (N := some 23) (v := ?_) (a' := ?_) #[true, true, true, false, true, true, true, false, false, false] rfl rfl (any_of HT_.out (by kernel_rfl)) (fun _ _ _ h => h) (Or.inl ⟨by rfl, ?_⟩) ?_ ?_
                rotate_left
                · intro w'
                  go_simp
                  with_reducible rfl
                rotate_left
                · simp only [Act.put, List.setIfInBounds_toArray, List.set_cons_zero, List.set_cons_succ, i64_w, i32_w]
                  rfl
                refine take_ (i := 3) (N := some 20) (v := ?_) (a' := ?_) #[true, true, true, true, true, true, true, false, false, false] rfl rfl (take_ofW HT_.out HW_.out (by kernel_rfl)) (fun _ _ _ h => h) (Or.inl ⟨by rfl, ?_⟩) hHeld ?_ ?_
                rotate_left
                · rintro w' ⟨s0, s1⟩
                  go_simp
                  with_reducible rfl
                rotate_left
                · simp only [Act.put, List.setIfInBounds_toArray, List.set_cons_zero, List.set_cons_succ, i64_w, i32_w]
                  rfl
                refine take_ (i := 7) (N := some 24) (v := ?_) (a' := ?_) #[true, true, true, true, true, true, true, true, false, false] rfl rfl (take_ofW HT_.out HW_.out (by kernel_rfl)) (fun _ _ _ h => h) (Or.inl ⟨by rfl, ?_⟩) hHeld ?_ ?_
                rotate_left
                · rintro w' ⟨s0, s1⟩
                  go_simp
                  with_reducible rfl
                rotate_left
                · simp only [Act.put, List.setIfInBounds_toArray, List.set_cons_zero, List.set_cons_succ, i64_w, i32_w]
                  rfl
                refine one_ (i := 8) (N := some 25) #[true, true, true, true, true, true, true, true, true, false] rfl rfl (one_of HT_.out (by kernel_rfl)) (by decide) (fun K hK => ?_)
                refine goes_ Tryd.func66 (by kernel_rfl) rfl #[.slice A315_0 (rd_L6 l0 x5_1).length c315_0, .slice A316_0 (rd_L6 l1 x5_1).length c316_0] (by rfl) rfl rfl (by (try simp only [List.map_toArray, List.map_cons, List.map_nil]); first | done | rfl | (simp only [List.length_drop, List.length_take]; rfl)) ?_
                with_reducible refine (laws_eqPairS.calls k1 _ _ (rd_L6 l0 x5_1) _ _ (rd_L6 l1 x5_1) true _ ?side1 ?side2 ?side3 ?side4 A7.out).mono ?_
                (case side1 => exact cc HR315_0 HB)
                (case side2 => exact HC315_0.out)
                (case side3 => exact cc HR316_0 HB)
                (case side4 => exact HC316_0.out)
                rintro e w10 ⟨rfl, hb⟩
                refine ⟨_, rfl, ?_⟩
                replace HB := hs_ HB hb
                (try clear hb)
                (try clear hb2)
                (try clear hk)
                (try clear hi)
                refine hK.out _ _ ⟨((HB.out.cell (World.block_lt_of_cell? w _ hw315_0)).trans hw315_0), ((HB.out.cell (World.block_lt_of_cell? w _ hw316_0)).trans hw316_0)⟩ (fun hHeld => ?_)
                clear hK K
                refine norm_ (a' := ?_) ?_ ?_
                rotate_left
                · show Act.put _ (some 25) _ = _
                  simp only [Act.put, List.setIfInBounds_toArray, List.set_cons_zero, List.set_cons_succ, i64_w, i32_w]
                  rfl
                refine pure_ (i := 9) (N := some 26) (v := ?_) (a' := ?_) #[true, true, true, true, true, true, true, true, true, true] rfl rfl (any_of HT_.out (by kernel_rfl)) (fun _ _ _ h => h) (Or.inl ⟨by rfl, ?_⟩) ?_ ?_
                rotate_left
                · intro w'
                  go_simp
                  with_reducible rfl
                rotate_left
                · simp only [Act.put, List.setIfInBounds_toArray, List.set_cons_zero, List.set_cons_succ, i64_w, i32_w]
                  rfl
                refine done_ (done_of HT_.out (by kernel_rfl)) ?_
                try go_wp2
                go_roundg k1
                case measure => have := HK1.out; omega
                case rel => exact ⟨(wrap64 (x5_1 + 1)), e2_, H', ⟨by have := HK1.out; omega⟩, ⟨bb HB⟩⟩
              · replace c8 := Bool.eq_false_iff.mpr c8
                subst c8
                have H1 : (some false) = some r := by rw [if_neg (show ¬ (false = true) by decide)] at H; exact H
                clear H
                have H := H1
                clear H1
                obtain rfl := Option.some.inj H
                try go_wp2
                replace HB := Aside0.mk (below_drew1 HB.out)
                have p315 : 0 ≤ (x5_1 : Int) := of_decide_eq_true (by first | (with_reducible assumption) | assumption)
                have q315 : x5_1 < (l0.length : Int) := of_decide_eq_true (by first | (with_reducible assumption) | assumption)
                obtain ⟨ad315, A315_0, c315_0, e315, hx315_0, hl315_0, hi315_0⟩ := at_L6 HR0.out x5_1 p315 q315
                have hw315_0 := hx315_0
                cases e315
                replace hx315_0 := (HB.out.cell (World.block_lt_of_cell? w _ hx315_0)).trans hx315_0
                have HR315_0 := Aside0.mk hi315_0
                have HC315_0 := Aside0.mk hl315_0
                clear hi315_0 hl315_0
                replace p315 := eq_true p315
                replace q315 := eq_true q315
                have p316 : 0 ≤ (x5_1 : Int) := of_decide_eq_true (by first | (with_reducible assumption) | assumption)
                have q316 : x5_1 < (l1.length : Int) := of_decide_eq_true (by first | (with_reducible assumption) | assumption)
                obtain ⟨ad316, A316_0, c316_0, e316, hx316_0, hl316_0, hi316_0⟩ := at_L6 HR1.out x5_1 p316 q316
                have hw316_0 := hx316_0
                cases e316
                replace hx316_0 := (HB.out.cell (World.block_lt_of_cell? w _ hx316_0)).trans hx316_0
                have HR316_0 := Aside0.mk hi316_0
                have HC316_0 := Aside0.mk hl316_0
                clear hi316_0 hl316_0
                replace p316 := eq_true p316
                replace q316 := eq_true q316
                refine start_ (n := 10) (S := fun w' => w'.cell? (ad315.add (x5_1).toNat) = some (.slice A315_0 (rd_L6 l0 x5_1).length c315_0) ∧ w'.cell? (ad316.add (x5_1).toNat) = some (.slice A316_0 (rd_L6 l1 x5_1).length c316_0)) (ds := []) #[false, false, false, false, false, false, false, false, false, false] (by kernel_rfl) rfl rfl ⟨((HB.out.cell (World.block_lt_of_cell? w _ hw315_0)).trans hw315_0), ((HB.out.cell (World.block_lt_of_cell? w _ hw316_0)).trans hw316_0)⟩ (fun hHeld => ?_); refine with_tabW laws_eqPairSS.tab6 laws_eqPairSS.bits6 (fun HT_ HW_ => ?_)
                generalize wr.drew = w11 at HB HR315_0 HR316_0 hx315_0 hx316_0 hHeld ⊢
                refine pure_ (i := 0) (N := some 17) (v := ?_) (a' := ?_) #[true, false, false, false, false, false, false, false, false, false] rfl rfl (any_of HT_.out (by kernel_rfl)) (fun _ _ _ h => h) (Or.inl ⟨by rfl, ?_⟩) ?_ ?_
                rotate_left
                · intro w'
                  go_simp
                  with_reducible rfl
                rotate_left
                · simp only [Act.put, List.setIfInBounds_toArray, List.set_cons_zero, List.set_cons_succ, i64_w, i32_w]
                  rfl
                refine pure_ (i := 1) (N := some 18) (v := ?_) (a' := ?_) #[true, true, false, false, false, false, false, false, false, false] rfl rfl (any_of HT_.out (by kernel_rfl)) (fun _ _ _ h => h) (Or.inl ⟨by rfl, ?_⟩) ?_ ?_
                rotate_left
                · intro w'
                  go_simp
                  with_reducible rfl
                rotate_left
                · simp only [Act.put, List.setIfInBounds_toArray, List.set_cons_zero, List.set_cons_succ, i64_w, i32_w]
                  rfl
                refine pure_ (i := 2) (N := some 19) (v := ?_) (a' := ?_) #[true, true, true, false, false, false, false, false, false, false] rfl rfl (any_of HT_.out (by kernel_rfl)) (fun _ _ _ h => h) (Or.inl ⟨by rfl, ?_⟩) ?_ ?_
                rotate_left
                · intro w'
                  go_simp
                  with_reducible rfl
                rotate_left
                · simp only [Act.put, List.setIfInBounds_toArray, List.set_cons_zero, List.set_cons_succ, i64_w, i32_w]
                  rfl
                refine pure_ (i := 4) (N := some 21) (v := ?_) (a' := ?_) #[true, true, true, false, true, false, false, false, false, false] rfl rfl (any_of HT_.out (by kernel_rfl)) (fun _ _ _ h => h) (Or.inl ⟨by rfl, ?_⟩) ?_ ?_
                rotate_left
                · intro w'
                  go_simp
                  with_reducible rfl
                rotate_left
                · simp only [Act.put, List.setIfInBounds_toArray, List.set_cons_zero, List.set_cons_succ, i64_w, i32_w]
                  rfl
                refine pure_ (i := 5) (N := some 22) (v := ?_) (a' := ?_) #[true, true, true, false, true, true, false, false, false, false] rfl rfl (any_of HT_.out (by kernel_rfl)) (fun _ _ _ h => h) (Or.inl ⟨by rfl, ?_⟩) ?_ ?_
                rotate_left
                · intro w'
                  go_simp
                  with_reducible rfl
                rotate_left
                · simp only [Act.put, List.setIfInBounds_toArray, List.set_cons_zero, List.set_cons_succ, i64_w, i32_w]
                  rfl
                refine pure_ (i := 6) (N := some 23) (v := ?_) (a' := ?_) #[true, true, true, false, true, true, true, false, false, false] rfl rfl (any_of HT_.out (by kernel_rfl)) (fun _ _ _ h => h) (Or.inl ⟨by rfl, ?_⟩) ?_ ?_
                rotate_left
                · intro w'
                  go_simp
                  with_reducible rfl
                rotate_left
                · simp only [Act.put, List.setIfInBounds_toArray, List.set_cons_zero, List.set_cons_succ, i64_w, i32_w]
                  rfl
                refine take_ (i := 3) (N := some 20) (v := ?_) (a' := ?_) #[true, true, true, true, true, true, true, false, false, false] rfl rfl (take_ofW HT_.out HW_.out (by kernel_rfl)) (fun _ _ _ h => h) (Or.inl ⟨by rfl, ?_⟩) hHeld ?_ ?_
                rotate_left
                · rintro w' ⟨s0, s1⟩
                  go_simp
                  with_reducible rfl
                rotate_left
                · simp only [Act.put, List.setIfInBounds_toArray, List.set_cons_zero, List.set_cons_succ, i64_w, i32_w]
                  rfl
                refine take_ (i := 7) (N := some 24) (v := ?_) (a' := ?_) #[true, true, true, true, true, true, true, true, false, false] rfl rfl (take_ofW HT_.out HW_.out (by kernel_rfl)) (fun _ _ _ h => h) (Or.inl ⟨by rfl, ?_⟩) hHeld ?_ ?_
                rotate_left
                · rintro w' ⟨s0, s1⟩
                  go_simp
                  with_reducible rfl
                rotate_left
                · simp only [Act.put, List.setIfInBounds_toArray, List.set_cons_zero, List.set_cons_succ, i64_w, i32_w]
                  rfl
                refine one_ (i := 8) (N := some 25) #[true, true, true, true, true, true, true, true, true, false] rfl rfl (one_of HT_.out (by kernel_rfl)) (by decide) (fun K hK => ?_)
                refine goes_ Tryd.func66 (by kernel_rfl) rfl #[.slice A315_0 (rd_L6 l0 x5_1).length c315_0, .slice A316_0 (rd_L6 l1 x5_1).length c316_0] (by rfl) rfl rfl (by (try simp only [List.map_toArray, List.map_cons, List.map_nil]); first | done | rfl | (simp only [List.length_drop, List.length_take]; rfl)) ?_
                with_reducible refine (laws_eqPairS.calls k1 _ _ (rd_L6 l0 x5_1) _ _ (rd_L6 l1 x5_1) false _ ?side1 ?side2 ?side3 ?side4 A7.out).mono ?_
                (case side1 => exact cc HR315_0 HB)
                (case side2 => exact HC315_0.out)
                (case side3 => exact cc HR316_0 HB)
                (case side4 => exact HC316_0.out)
                rintro e w12 ⟨rfl, hb⟩
                refine ⟨_, rfl, ?_⟩
                replace HB := hs_ HB hb
                (try clear hb)
                (try clear hb2)
                (try clear hk)
                (try clear hi)
                refine hK.out _ _ ⟨((HB.out.cell (World.block_lt_of_cell? w _ hw315_0)).trans hw315_0), ((HB.out.cell (World.block_lt_of_cell? w _ hw316_0)).trans hw316_0)⟩ (fun hHeld => ?_)
                clear hK K
                refine norm_ (a' := ?_) ?_ ?_
                rotate_left
                · show Act.put _ (some 25) _ = _
                  simp only [Act.put, List.setIfInBounds_toArray, List.set_cons_zero, List.set_cons_succ, i64_w, i32_w]
                  rfl
                refine pure_ (i := 9) (N := some 26) (v := ?_) (a' := ?_) #[true, true, true, true, true, true, true, true, true, true] rfl rfl (any_of HT_.out (by kernel_rfl)) (fun _ _ _ h => h) (Or.inl ⟨by rfl, ?_⟩) ?_ ?_
                rotate_left
                · intro w'
                  go_simp
                  with_reducible rfl
                rotate_left
                · simp only [Act.put, List.setIfInBounds_toArray, List.set_cons_zero, List.set_cons_succ, i64_w, i32_w]
                  rfl
                refine done_ (done_of HT_.out (by kernel_rfl)) ?_
                try go_wp2
                go_ret
                exact ⟨ee, bb HB⟩
            · rw [if_neg c6] at H
              exact absurd H (by simp)
          · rw [if_neg c5] at H
            exact absurd H (by simp)
        · rw [if_neg c4] at H
          have c4b0 : decide (x5_1 < (l0.length : Int)) = false := decide_eq_false c4
          clear c4
          obtain rfl := Option.some.inj H
          go_wp2
          go_ret
          exact ⟨ee, bb HB⟩
  · rw [if_neg c3] at H
    have c3b0 : ((l0.length : Int) == (l1.length : Int)) = false := beq_eq_false_iff_ne.mpr c3
    have c3b1 : ((l0.length : Int) != (l1.length : Int)) = true := bne_iff_ne.mpr c3
    have c3b2 : (l0.length == l1.length) = false := by first | simpa using c3 | (simp at c3 ⊢; omega)
    obtain rfl := Option.some.inj H
    go_enter Tryd.func30, Tryd.ntmps30
    go_wp2
    go_ret
    exact ⟨ee, bb HB⟩
end Go.Proofs.YtibmeomlokigjaaDoor.R
namespace Go.Proofs.YtibmeomlokigjaaDoor.R
open Go.RowKit Go.Proofs.YtibmeomlokigjaaDoorW.PrintWords Go.Proofs.YtibmeomlokigjaaDoorW.PrintLast Go.Proofs.YtibmeomlokigjaaDoorW.PrintMore
attribute [local go_sem] max2_int min2_int max_two min_two max_three min_three max_four min_four
set_option linter.unusedVariables false
set_option linter.unusedSimpArgs false
def laws_markPairS.l0 : Nat → List (S94) → Int → Int → Option (Int × (List (S94)))
  | 0, _, _, _ => none
  | k + 1, x0, x1, x5 => if x5 < (x0.length : Int) then (if 0 ≤ x5 then ((some (x0.set (x5 : Int).toNat (⟨x1, (rd_T94 x0 x5).f1⟩ : S94) : List (S94))).bind fun y318 => (laws_markPairS.l0 k (y318.set (x5 : Int).toNat (⟨(rd_T94 y318 x5).f0, wrap64 (x1 + 1)⟩ : S94)) (wrap64 ((wrap64 (x1 + 1)) + 1)) (wrap64 (x5 + 1)))) else (none)) else (some (x1, x0))
def laws_markPairS.f (k : Nat) (l0 : List (S94)) (a1 : Int) : Option (Int × (List (S94))) := laws_markPairS.l0 k l0 a1 0
set_option maxHeartbeats 8000000 in
set_option maxRecDepth 100000 in
theorem laws_markPairS.calls (k : Nat) (P0_ : Nat → Prop) (u9000_ : Value) (l0 : List (S94)) (a1 : Int) (r1 : Int) (r2 : List (S94)) (w0 w : World) (hB : Below w0.heap.size w0 w) (ho0 : Kd.R k94 94 w w0.heap.size P0_ u9000_ l0) (h : laws_markPairS.f k l0 a1 = some (r1, r2)) :
    Calls Tryd.prog 67 #[u9000_, .int .i64 a1] w fun e w' => e = .returned (.int .i64 r1) ∧ Kd.R k94 94 w' w0.heap.size (fun k_ => (P0_ k_ ∨ w.heap.size ≤ k_)) u9000_ r2 ∧ Below w0.heap.size w0 w' ∧ Kept w w' (fun k_ => P0_ k_) := by
  have HO0 := Aside0.mk (show Kd.R k94 94 w w0.heap.size (fun k_ => (P0_ k_ ∨ w.heap.size ≤ k_)) u9000_ l0 from Kd.R_mono ho0 (fun k_ hk => (.inl hk)))
  have HK := Aside0.mk (Kept.refl w (fun k_ => P0_ k_))
  have HW0 := Aside0.mk hB.size
  have HB := Aside0.mk hB
  clear hB
  have H : (laws_markPairS.l0 k l0 a1 0) = some (r1, r2) := h
  clear h
  have H' := Aside0.mk H
  clear H
  go_enter Tryd.func67, Tryd.ntmps67
  go_wp2
  go_loopg [1, 5] k (fun kq v1 v5 w' => ∃ (x0_1 : List (S94)) (x1_1 : Int) (x5_1 : Int), v1 = .int .i64 x1_1 ∧ v5 = .int .i64 x5_1 ∧ Aside0 (laws_markPairS.l0 kq x0_1 x1_1 x5_1 = some (r1, r2)) ∧ Aside0 (kq ≤ k) ∧ Aside0 (Kd.R k94 94 w' w0.heap.size (fun k_ => (P0_ k_ ∨ w.heap.size ≤ k_)) u9000_ x0_1) ∧ Aside0 (Kept w w' (fun k_ => P0_ k_)) ∧ Aside0 (Below w0.heap.size w0 w'))
  case atStart => exact ⟨(l0), (a1), (0), e2_, e2_, H', ⟨Nat.le_refl _⟩, ⟨rr HO0⟩, ⟨by repeat (first | (with_reducible first | exact HK.out | apply Kept.alloc | apply Kept.drewN | apply Kept.drew) | exact HK.out)⟩, ⟨bb HB⟩⟩
  case round =>
    clear H'
    (try clear p2)
    obtain ⟨x0_1, x1_1, x5_1, rfl, rfl, HA, HK1, HO_0, HK, HB⟩ := hrel
    cases gk with
    | zero => exact absurd HA.out (by simp [laws_markPairS.l0])
    | succ k1 =>
      have H := HA.out
      clear HA
      simp only [laws_markPairS.l0] at H
      by_cases c3 : x5_1 < (x0_1.length : Int)
      · rw [if_pos c3] at H
        have c3b0 : decide (x5_1 < (x0_1.length : Int)) = true := decide_eq_true c3
        clear c3
        by_cases c4 : 0 ≤ x5_1
        · rw [if_pos c4] at H
          have c4b0 : decide (0 ≤ x5_1) = true := decide_eq_true c4
          clear c4
          obtain ⟨y318, hy318⟩ : ∃ y_ : List (S94), y_ = (x0_1.set (x5_1 : Int).toNat (⟨x1_1, (rd_T94 x0_1 x5_1).f1⟩ : S94)) := ⟨_, rfl⟩
          replace H : (laws_markPairS.l0 k1 (y318.set (x5_1 : Int).toNat (⟨(rd_T94 y318 x5_1).f0, wrap64 (x1_1 + 1)⟩ : S94)) (wrap64 ((wrap64 (x1_1 + 1)) + 1)) (wrap64 (x5_1 + 1))) = some (r1, r2) := by first | (rw [hy318]; with_reducible exact H) | (have H2_ := (Option.bind_some _ _).symm.trans H; rw [hy318]; with_reducible exact H2_) | (have H2_ := (Option.bind_some _ _).symm.trans H; with_reducible exact H2_) | with_reducible exact H | (rw [hy318]; exact H) | exact H
          have Ny318 := Aside0.mk hy318
          clear hy318
          obtain ⟨y319, hy319⟩ : ∃ y_ : List (S94), y_ = (y318.set (x5_1 : Int).toNat (⟨(rd_T94 y318 x5_1).f0, wrap64 (x1_1 + 1)⟩ : S94)) := ⟨_, rfl⟩
          replace H : (laws_markPairS.l0 k1 y319 (wrap64 ((wrap64 (x1_1 + 1)) + 1)) (wrap64 (x5_1 + 1))) = some (r1, r2) := by first | (rw [hy319]; with_reducible exact H) | (have H2_ := (Option.bind_some _ _).symm.trans H; rw [hy319]; with_reducible exact H2_) | (have H2_ := (Option.bind_some _ _).symm.trans H; with_reducible exact H2_) | with_reducible exact H | (rw [hy319]; exact H) | exact H
          have Ny319 := Aside0.mk hy319
          clear hy319
          have H' := Aside0.mk H
          clear H
          obtain ⟨Ao7, co7, eo7⟩ := Kd.R_slice HO_0.out
          subst eo7
          have p5 : 0 ≤ (x5_1 : Int) := of_decide_eq_true (by first | (with_reducible assumption) | assumption)
          have q5 : (x5_1 : Int) < ((x0_1.length : Int) : Int) := of_decide_eq_true (by first | (with_reducible assumption) | assumption)
          obtain ⟨go5, co5, eo5, gb5, gl5, cl5, HG5⟩ := Kd.R_form HO_0.out (by omega)
          (first | cases eo5 | (injection eo5 with ea_ en_ ec_; (first | subst ea_ | (injection ea_ with ea_; subst ea_)); subst ec_; clear en_))
          have GB5 := Aside0.mk gb5
          have GG5 := Aside0.mk HG5
          clear gb5 gl5 HG5
          have HMgo5 := Aside0.mk (show (P0_ go5 ∨ w.heap.size ≤ go5) from (HO_0.out.1 _ rfl))
          obtain ⟨ce5, hcl5, hM5, hcc5, hfr5⟩ := Kd.R_elem HO_0.out z94 (x5_1 : Int) p5 q5
          obtain rfl := k94_openM hM5
          have hx5_0 : wr.cell? ⟨go5, (x5_1 : Int).toNat * 2, none⟩ = some (.int .i64 ((rd_T94 x0_1 x5_1).f0)) := hcc5 0 _ rfl
          have hx5_1 : wr.cell? ⟨go5, (x5_1 : Int).toNat * 2 + 1, none⟩ = some (.int .i64 ((rd_T94 x0_1 x5_1).f1)) := hcc5 1 _ rfl
          have hf5_0 : wr.frozen? ⟨go5, (x5_1 : Int).toNat * 2, none⟩ = false := hfr5 0
          have hf5_1 : wr.frozen? ⟨go5, (x5_1 : Int).toNat * 2 + 1, none⟩ = false := hfr5 1
          clear hcl5 hcc5 hfr5; (try clear hM5)
          replace p5 := eq_true p5
          replace q5 := eq_true q5
          have HX8 := Aside0.mk (show Kd.R k94 94 wr w0.heap.size (fun k_ => (P0_ k_ ∨ w.heap.size ≤ k_)) (.slice (some ⟨go5, 0, none⟩) x0_1.length co7) x0_1 from (rr HO_0))
          obtain ⟨ce8, hcl8, hM8, hcc8, hfr8⟩ := Kd.R_elem HX8.out z94 (x5_1 : Int) (of_decide_eq_true (by first | (with_reducible assumption) | assumption)) (by have h_ : (x5_1 : Int) < ((x0_1.length : Int) : Int) := of_decide_eq_true (by first | (with_reducible assumption) | assumption); first | exact h_ | (have e_ := (Kd.R_reads' HO_0.out).1; omega) | simpa using h_)
          obtain rfl := k94_openM hM8
          have HP8 := Kd.R_seg HX8.out (x5_1 : Int) (of_decide_eq_true (by first | (with_reducible assumption) | assumption)) (by have h_ : (x5_1 : Int) < ((x0_1.length : Int) : Int) := of_decide_eq_true (by first | (with_reducible assumption) | assumption); first | exact h_ | (have e_ := (Kd.R_reads' HO_0.out).1; omega) | simpa using h_) (seg := [.int .i64 x1_1]) (j := 0) hcl8 hcc8 (show 1 ≤ 2 from by decide) (x' := (⟨x1_1, (rd_T94 x0_1 x5_1).f1⟩ : S94)) (k94_mkM _ _ _ (⟨x1_1, (rd_T94 x0_1 x5_1).f1⟩ : S94) ) (fun _ hk => hk)
          have hx8_0 := hcc8 0 _ rfl
          (try simp only [show (k94).sz = 2 from rfl, Nat.mul_one, Nat.add_zero] at hx8_0)
          have hf8_0 := hfr8 0
          (try simp only [show (k94).sz = 2 from rfl, Nat.mul_one, Nat.add_zero] at hf8_0)
          clear hcl8 hcc8 hfr8; (try clear hM8)
          go_wp2_with (first | ((with_reducible refine gate_store (t := 3) (p := 16) rfl ?_); refine store_event (t := 3) (p := 16) (v := ?vo_w9) (w1 := (wr.setCell ⟨go5, (x5_1 : Int).toNat * 2, none⟩ (.int .i64 x1_1))) ?hg ?ho ?hn ?hr ?_; (case ho => rfl); (case hg => rfl); (case hn => rfl); (case hr => first | (go_simp; done) | (go_simp; rfl)); intro w9 hw; have hg : wr.grownBy w9 (some go5) := (by rw [hw]; exact HP8.2); have hp_ : Kd.R k94 94 w9 w0.heap.size (fun k_ => (P0_ k_ ∨ w.heap.size ≤ k_)) (.slice (some ⟨go5, 0, none⟩) x0_1.length co7) y318 := (by rw [hw, Ny318.out]; exact HP8.1); clear HP8; replace HB := Aside0.mk (by rw [hw]; exact below_set (HB.out) GB5.out : Below w0.heap.size w0 w9); replace HK := Aside0.mk (Kept.of_grown (S := (fun k_ => P0_ k_)) hg (by repeat (first | (with_reducible first | exact HK.out | apply Kept.alloc | apply Kept.drewN | apply Kept.drew) | exact HK.out)) (fun k_ e_ => (HO_0.out.1 k_ e_))); replace HO_0 := Aside0.mk (hp_); clear hg hw hp_; have p6 : 0 ≤ (x5_1 : Int) := of_decide_eq_true (by first | (with_reducible assumption) | assumption); have q6 : (x5_1 : Int) < ((x0_1.length : Int) : Int) := of_decide_eq_true (by first | (with_reducible assumption) | assumption); obtain ⟨ce6, hcl6, hM6, hcc6, hfr6⟩ := Kd.R_elem HO_0.out z94 (x5_1 : Int) p6 q6; obtain rfl := k94_openM hM6; have hx6_0 : w9.cell? ⟨go5, (x5_1 : Int).toNat * 2, none⟩ = some (.int .i64 ((rd_T94 y318 x5_1).f0)) := hcc6 0 _ rfl; have hx6_1 : w9.cell? ⟨go5, (x5_1 : Int).toNat * 2 + 1, none⟩ = some (.int .i64 ((rd_T94 y318 x5_1).f1)) := hcc6 1 _ rfl; have hf6_0 : w9.frozen? ⟨go5, (x5_1 : Int).toNat * 2, none⟩ = false := hfr6 0; have hf6_1 : w9.frozen? ⟨go5, (x5_1 : Int).toNat * 2 + 1, none⟩ = false := hfr6 1; clear hcl6 hcc6 hfr6; (try clear hM6); replace p6 := eq_true p6; replace q6 := eq_true q6; have HX10 := Aside0.mk (show Kd.R k94 94 w9 w0.heap.size (fun k_ => (P0_ k_ ∨ w.heap.size ≤ k_)) (.slice (some ⟨go5, 0, none⟩) x0_1.length co7) y318 from (rr HO_0)); obtain ⟨ce10, hcl10, hM10, hcc10, hfr10⟩ := Kd.R_elem HX10.out z94 (x5_1 : Int) (of_decide_eq_true (by first | (with_reducible assumption) | assumption)) (by have h_ : (x5_1 : Int) < ((x0_1.length : Int) : Int) := of_decide_eq_true (by first | (with_reducible assumption) | assumption); first | exact h_ | (have e_ := (Kd.R_reads' HO_0.out).1; omega) | simpa using h_); obtain rfl := k94_openM hM10; have HP10 := Kd.R_seg HX10.out (x5_1 : Int) (of_decide_eq_true (by first | (with_reducible assumption) | assumption)) (by have h_ : (x5_1 : Int) < ((x0_1.length : Int) : Int) := of_decide_eq_true (by first | (with_reducible assumption) | assumption); first | exact h_ | (have e_ := (Kd.R_reads' HO_0.out).1; omega) | simpa using h_) (seg := [.int .i64 (wrap64 (x1_1 + 1))]) (j := 1) hcl10 hcc10 (show 2 ≤ 2 from by decide) (x' := (⟨(rd_T94 y318 x5_1).f0, wrap64 (x1_1 + 1)⟩ : S94)) (k94_mkM _ _ _ (⟨(rd_T94 y318 x5_1).f0, wrap64 (x1_1 + 1)⟩ : S94) ) (fun _ hk => hk); have hx10_1 := hcc10 1 _ rfl; (try simp only [show (k94).sz = 2 from rfl, Nat.mul_one, Nat.add_zero] at hx10_1); have hf10_1 := hfr10 1; (try simp only [show (k94).sz = 2 from rfl, Nat.mul_one, Nat.add_zero] at hf10_1); clear hcl10 hcc10 hfr10; (try clear hM10)) | ((with_reducible refine gate_store (t := 3) (p := 23) rfl ?_); refine store_event (t := 3) (p := 23) (v := ?vo_w11) (w1 := (w9.setCell ⟨go5, (x5_1 : Int).toNat * 2 + 1, none⟩ (.int .i64 (wrap64 (x1_1 + 1))))) ?hg ?ho ?hn ?hr ?_; (case ho => rfl); (case hg => rfl); (case hn => rfl); (case hr => first | (go_simp; done) | (go_simp; rfl)); intro w11 hw; have hg : w9.grownBy w11 (some go5) := (by rw [hw]; exact HP10.2); have hp_ : Kd.R k94 94 w11 w0.heap.size (fun k_ => (P0_ k_ ∨ w.heap.size ≤ k_)) (.slice (some ⟨go5, 0, none⟩) x0_1.length co7) y319 := (by rw [hw, Ny319.out]; exact HP10.1); clear HP10; replace HB := Aside0.mk (by rw [hw]; exact below_set (HB.out) GB5.out : Below w0.heap.size w0 w11); replace HK := Aside0.mk (Kept.of_grown (S := (fun k_ => P0_ k_)) hg (by repeat (first | (with_reducible first | exact HK.out | apply Kept.alloc | apply Kept.drewN | apply Kept.drew) | exact HK.out)) (fun k_ e_ => (HO_0.out.1 k_ e_))); replace HO_0 := Aside0.mk (hp_); clear hg hw hp_))
          go_roundg k1
          case measure => have := HK1.out; omega
          case rel => exact ⟨(y319), (wrap64 ((wrap64 (x1_1 + 1)) + 1)), (wrap64 (x5_1 + 1)), e2_, e2_, H', ⟨by have := HK1.out; omega⟩, ⟨rr HO_0⟩, ⟨by repeat (first | (with_reducible first | exact HK.out | apply Kept.alloc | apply Kept.drewN | apply Kept.drew) | exact HK.out)⟩, ⟨bb HB⟩⟩
        · rw [if_neg c4] at H
          exact absurd H (by simp)
      · rw [if_neg c3] at H
        have c3b0 : decide (x5_1 < (x0_1.length : Int)) = false := decide_eq_false c3
        clear c3
        simp only [Option.some.injEq, Prod.mk.injEq] at H
        obtain ⟨rfl, rfl⟩ := H
        obtain ⟨Ao12, co12, eo12⟩ := Kd.R_slice HO_0.out
        subst eo12
        go_wp2
        go_ret
        exact ⟨ee, rr HO_0, bb HB, by repeat (first | (with_reducible first | exact HK.out | apply Kept.alloc | apply Kept.drewN | apply Kept.drew) | exact HK.out)⟩
end Go.Proofs.YtibmeomlokigjaaDoor.R
namespace Go.Proofs.YtibmeomlokigjaaDoor.R
open Go.RowKit Go.Proofs.YtibmeomlokigjaaDoorW.PrintWords Go.Proofs.YtibmeomlokigjaaDoorW.PrintLast Go.Proofs.YtibmeomlokigjaaDoorW.PrintMore
attribute [local go_sem] max2_int min2_int max_two min_two max_three min_three max_four min_four
set_option linter.unusedVariables false
set_option linter.unusedSimpArgs false
def laws_markPairSS.f (k : Nat) : List (List (S94)) → Int → Option Int
  | [], a => some a
  | x :: l, a => (laws_markPairS.f k x a).bind fun b => laws_markPairSS.f k l b.1
theorem keptT_R {α : Type} {d : Kd α} {e base T : Nat} {w w1 : World} {ok : Nat → Prop} {v : Value} {xs : List α} (h : d.R e w base ok v xs) (hk : Kept w w1 (fun k_ => ∃ cells, w.heap[k_]? = some (.cells cells T (0, 0)))) (ht : ∀ q, q ∈ e :: d.E → q ≠ T) : d.R e w1 base ok v xs :=
  Kd.R_mono (Kd.R_move (Kd.R_bound h) (fun k hk2 => hk.2 k hk2.2.2.1 (fun h3 => by
    obtain ⟨_, _, _, q, hq, cells, hc⟩ := hk2
    obtain ⟨cells2, hc2⟩ := h3
    rw [hc] at hc2
    injection hc2 with hc2
    injection hc2 with _ hc2
    exact ht q hq hc2))) (fun _ h2 => h2.1)
set_option maxHeartbeats 4000000 in
set_option maxRecDepth 100000 in
theorem laws_markPairSS.calls (k : Nat) (P0_ : Nat → Prop) (u9000_ : Value) (l0 : List (List (S94))) (a1 : Int) (r : Int) (w0 w : World) (hB : Below w0.heap.size w0 w) (ho0 : Kd.S (Kd.slice 94 k94) 92 w w0.heap.size P0_ u9000_ l0) (h : laws_markPairSS.f k l0 a1 = some r) :
    Calls Tryd.prog 31 #[u9000_, .int .i64 a1] w fun e w' => e = .returned (.int .i64 r) ∧ Below w0.heap.size w0 w' ∧ Kept w w' (fun k_ => ∃ cells, w.heap[k_]? = some (.cells cells 94 (0, 0))) := by
  obtain ⟨A9, c9, rfl⟩ := Kd.S_slice ho0
  have hm : l0.length ≤ 9223372036854775807 := (Kd.S_reads' ho0).2.2.2.1
  have HO := Aside0.mk ho0
  have HB := Aside0.mk hB
  have HF := Aside0.mk h
  have HK := Aside0.mk (Kept.refl w (fun k_ => ∃ cells, w.heap[k_]? = some (.cells cells 94 (0, 0))))
  clear ho0 hB h
  go_enter Tryd.func31, Tryd.ntmps31
  go_wp2
  go_loopg [1, 5] l0.length (fun gg v1 v5 wr => ∃ (kk : Nat) (x : Int) (ys : List (List (S94))), kk ≤ l0.length ∧ l0.length - kk ≤ gg ∧ v1 = .int .i64 x ∧ v5 = .int .i64 kk ∧ Aside0 (laws_markPairSS.f k (l0.drop kk) x = some r) ∧ Aside0 (ys.length = l0.length ∧ ys.drop kk = l0.drop kk) ∧ Aside0 (Kd.S (Kd.slice 94 k94) 92 wr w0.heap.size (fun _ => True) (.slice A9 l0.length c9) ys) ∧ Aside0 (Below w0.heap.size w0 wr) ∧ Aside0 (Kept w wr (fun k_ => ∃ cells, w.heap[k_]? = some (.cells cells 94 (0, 0)))))
  case atStart => exact ⟨0, a1, l0, Nat.zero_le _, by omega, rfl, rfl, HF, ⟨rfl, rfl⟩, ⟨Kd.S_mono HO.out (fun _ _ => trivial)⟩, HB, HK⟩
  case round =>
    clear HF HO HB HK
    obtain ⟨kk, x, ys, hkk, hg, rfl, rfl, HF, HY, HO, HB, HK⟩ := hrel
    by_cases hlt : kk < l0.length
    · have hltz : (kk : Int) < (l0.length : Int) := by omega
      obtain ⟨hy1, hy2⟩ := HY.out
      obtain ⟨g9, cap9, ev9, _, _, _⟩ := Kd.S_form HO.out (by omega)
      injection ev9 with ea9 en9 ec9
      clear en9 ec9
      subst ea9
      obtain ⟨oki, c, hcl, hM, hcc, hoki, hH⟩ := Kd.S_lend HO.out [] (kk : Int) (by omega) (by omega)
      obtain ⟨v, rfl, hR⟩ := hM
      have hcell := hcc 0 v rfl
      simp only [show (Kd.slice 94 k94).sz = 1 from rfl, Nat.mul_one, Nat.add_zero, Int.toNat_natCast] at hcell
      have hel : ys.getD ((kk : Int).toNat) [] = l0[kk] := by
        have h3 : ys[kk]? = l0[kk]? := by
          have := congrArg (fun z => z[0]?) hy2
          simpa using this
        rw [Int.toNat_natCast, List.getD_eq_getElem?_getD, h3, List.getElem?_eq_getElem hlt]
        rfl
      rw [hel] at hR
      have hdrop : l0.drop kk = l0[kk] :: l0.drop (kk + 1) := List.drop_eq_getElem_cons hlt
      have hf := HF.out
      rw [hdrop] at hf
      simp only [laws_markPairSS.f] at hf
      obtain ⟨⟨r1, r2⟩, hf1, hf2⟩ := Option.bind_eq_some_iff.mp hf
      have hT := Kd.R_tight rfl hR
      have hcall := laws_markPairS.calls k (fun k_ => some k_ = v.ownBlock) v l0[kk] x r1 r2 w0 wr HB.out hT hf1
      have HC := Aside0.mk hcall
      have HH := Aside0.mk hH
      have HR := Aside0.mk hR
      have HF2 := Aside0.mk hf2
      clear hcc hcl hoki hy1 hcall hH hR hf hf1 hf2 hT hdrop hel hy2 HF
      go_wp2_with (first | ((with_reducible refine gate_callee (f := 67) rfl ?_); refine gl (some 17) Tryd.func67 #[v, .int .i64 x] ?_; (refine HC.out.mono ?_); rintro e w2 ⟨rfl, ho2, hb2, hk2⟩; refine ⟨_, rfl, ?_⟩; have N1 := Aside0.mk ho2; have N2 := Aside0.mk hb2; have N3 := Aside0.mk hk2; clear ho2 hb2 hk2))
      have ho2 := N1.out
      have hb2 := N2.out
      have hk2 := N3.out
      have own_oki : ∀ k_, some k_ = v.ownBlock → oki k_ := fun k_ e_ => HR.out.1 k_ e_.symm
      have h5 := Kd.H_step (w1 := w2) (Kd.H_widen HH.out) (fun k_ _ hn hlt_ => hk2.2 k_ hlt_ (fun e_ => hn (.inl (own_oki k_ e_))))
      have h6 := Kd.H_back (x' := r2) h5 (okp := fun k_ => (some k_ = v.ownBlock ∨ wr.heap.size ≤ k_)) ⟨v, rfl, ho2⟩ (fun k_ hk_ => hk_.elim (fun e_ => .inl (own_oki k_ e_)) (fun h_ => .inr ⟨trivial, h_⟩))
      simp only [Int.toNat_natCast] at h6
      · have HO2 := Aside0.mk h6
        have HB2 := Aside0.mk hb2
        have HK2 : Aside0 (Kept w w2 (fun k_ => ∃ cells, w.heap[k_]? = some (.cells cells 94 (0, 0)))) := ⟨⟨Nat.le_trans HK.out.1 hk2.1, fun i hi hn => by
          have hw1 := HK.out.2 i hi hn
          have hni : ¬ (some i = v.ownBlock) := fun e_ => by
            obtain ⟨cells, hc⟩ := Kd.R_typed HR.out i e_.symm
            rw [hw1] at hc
            exact hn ⟨cells, hc⟩
          exact (hk2.2 i (Nat.lt_of_lt_of_le hi HK.out.1) hni).trans hw1⟩⟩
        clear h5 h6 ho2 hb2 hk2 own_oki HC HH HR HK HB HO
        go_roundg (l0.length - (kk + 1))
        case measure => omega
        case rel => exact ⟨kk + 1, r1, ys.set kk r2, by omega, by omega, rfl, by go_num, HF2, ⟨by simpa using HY.out.1, by rw [List.drop_set_of_lt (by omega)]; have h7 := congrArg (List.drop 1) HY.out.2; rw [List.drop_drop, List.drop_drop] at h7; exact h7⟩, HO2, HB2, HK2⟩
    · have hd : decide ((kk : Int) < (l0.length : Int)) = false := by simp; omega
      have hd2 : decide (kk < l0.length) = false := by simp; omega
      have hk := Aside0.mk (show kk = l0.length by omega)
      clear hlt hg
      have hr : x = r := by
        have := HF.out
        rw [hk.out, List.drop_length] at this
        exact Option.some.inj this
      subst hr
      go_wp2
      go_ret
      exact ⟨rfl, HB.out, HK.out⟩
end Go.Proofs.YtibmeomlokigjaaDoor.R
namespace Go.Proofs.YtibmeomlokigjaaDoor.R
open Go.RowKit Go.Proofs.YtibmeomlokigjaaDoorW.PrintWords Go.Proofs.YtibmeomlokigjaaDoorW.PrintLast Go.Proofs.YtibmeomlokigjaaDoorW.PrintMore
attribute [local go_sem] max2_int min2_int max_two min_two max_three min_three max_four min_four
set_option linter.unusedVariables false
set_option linter.unusedSimpArgs false
def laws_markText.l0 : Nat → Int → ByteArray → Option (ByteArray)
  | 0, _, _ => none
  | k + 1, x0, x3 => if x0 > 0 then ((some (([(wrap64 (48 + (Int.tmod x0 10))) % 256] : List Int) : List Int)).bind fun y320 => (if (strOfNums y320).size + x3.size ≤ 9223372036854775807 then (laws_markText.l0 k (wrap64 (Int.tdiv x0 10)) ((strOfNums y320) ++ x3)) else (none))) else (if 1 + x3.size ≤ 9223372036854775807 then (some ((⟨#[109]⟩ : ByteArray) ++ x3)) else (none))
def laws_markText.f (k : Nat) (a0 : Int) : Option (ByteArray) := if a0 ≤ 0 then (some (⟨#[109, 48]⟩ : ByteArray)) else (laws_markText.l0 k a0 (⟨#[]⟩ : ByteArray))
set_option maxHeartbeats 8000000 in
set_option maxRecDepth 100000 in
theorem laws_markText.calls (k : Nat) (a0 : Int) (r : ByteArray) (w : World) (h : laws_markText.f k a0 = some r) :
    Calls Tryd.prog 68 #[.int .i64 a0] w fun e w' => e = .returned (.string r) ∧ Below w.heap.size w w' := by
  have HB := Aside0.mk (Below.refl w.heap.size w)
  have H : (if a0 ≤ 0 then (some (⟨#[109, 48]⟩ : ByteArray)) else (laws_markText.l0 k a0 (⟨#[]⟩ : ByteArray))) = some r := h
  clear h
  by_cases c2 : a0 ≤ 0
  · rw [if_pos c2] at H
    have c2b0 : decide (a0 ≤ 0) = true := decide_eq_true c2
    clear c2
    obtain rfl := Option.some.inj H
    go_enter Tryd.func68, Tryd.ntmps68
    go_wp2
    go_ret
    exact ⟨ee, bb HB⟩
  · rw [if_neg c2] at H
    have c2b0 : decide (a0 ≤ 0) = false := decide_eq_false c2
    clear c2
    have H' := Aside0.mk H
    clear H
    go_enter Tryd.func68, Tryd.ntmps68
    go_wp2
    go_loopg [0, 3] k (fun kq v0 v3 w' => ∃ (x0_1 : Int) (x3_1 : ByteArray), v0 = .int .i64 x0_1 ∧ v3 = .string x3_1 ∧ Aside0 (laws_markText.l0 kq x0_1 x3_1 = some r) ∧ Aside0 (kq ≤ k) ∧ Aside0 (Below w.heap.size w w'))
    case atStart => exact ⟨(a0), ((⟨#[]⟩ : ByteArray)), e2_, e2_, H', ⟨Nat.le_refl _⟩, ⟨bb HB⟩⟩
    case round =>
      clear H'
      (try clear c2)
      (try clear c2b0)
      (try clear p2)
      obtain ⟨x0_1, x3_1, rfl, rfl, HA, HK1, HB⟩ := hrel
      cases gk with
      | zero => exact absurd HA.out (by simp [laws_markText.l0])
      | succ k1 =>
        have H := HA.out
        clear HA
        simp only [laws_markText.l0] at H
        by_cases c3 : x0_1 > 0
        · rw [if_pos c3] at H
          have c3b0 : decide (0 < x0_1) = true := decide_eq_true c3
          clear c3
          obtain ⟨y320, hy320⟩ : ∃ y_ : List Int, y_ = (([(wrap64 (48 + (Int.tmod x0_1 10))) % 256] : List Int)) := ⟨_, rfl⟩
          replace H : (if (strOfNums y320).size + x3_1.size ≤ 9223372036854775807 then (laws_markText.l0 k1 (wrap64 (Int.tdiv x0_1 10)) ((strOfNums y320) ++ x3_1)) else (none)) = some r := by first | (rw [hy320]; with_reducible exact H) | (have H2_ := (Option.bind_some _ _).symm.trans H; rw [hy320]; with_reducible exact H2_) | (have H2_ := (Option.bind_some _ _).symm.trans H; with_reducible exact H2_) | with_reducible exact H | (rw [hy320]; exact H) | exact H
          have Ny320 := Aside0.mk hy320
          clear hy320
          by_cases c4 : (strOfNums y320).size + x3_1.size ≤ 9223372036854775807
          · rw [if_pos c4] at H
            have c4b0 := eq_true c4
            have c4b1 : decide ((strOfNums y320).size + x3_1.size ≤ 9223372036854775807) = true := decide_eq_true c4
            try have c4b2 : (9223372036854775807 < (strOfNums y320).size + x3_1.size) = False := eq_false (Nat.not_lt.2 c4)
            have H' := Aside0.mk H
            clear H
            go_wp2_with (first | ((with_reducible refine gate_dst (N := 12) rfl ?_); refine Kd.R_lit (Kd.int .u8) _ 5 ?hg (N := 12) ?hd (xs := ([(wrap64 (48 + (Int.tmod x0_1 10))) % 256] : List Int)) (inner := [.int .u8 ((wrap64 (48 + (Int.tmod x0_1 10))) % 256)]) (ok := fun _ => True) (okp := fun _ => True) ?hr ?hp (fun _ hk => hk) trivial (Below.refl _ _) (Nat.le_refl _) (by simp) ?_; (case hd => rfl); (case hg => rfl); (case hr => first | (go_simp; done) | (go_simp; rfl)); (case hp => exact (Reps.one (show Kd.M (Kd.int .u8) _ _ _ ((wrap64 (48 + (Int.tmod x0_1 10))) % 256) [.int .u8 ((wrap64 (48 + (Int.tmod x0_1 10))) % 256)] from rfl) (Reps.none _ _))); intro v321 w5 ho6 hb hg_ hnew_; clear hg_ hnew_; (first | rw [← Ny320.out] at ho6 | (simp only [Int.reduceToNat] at ho6; rw [← Ny320.out] at ho6)); have HO322 := kl ho6 HB; replace HB := hs_ HB hb; clear hb ho6; have hcv7 := own_string (P := Tryd.prog) Tryd.underlying70 Tryd.underlying5 Tryd.underlying9 (Kd.own_of_R HO322.out)))
            go_roundg k1
            case measure => have := HK1.out; omega
            case rel => exact ⟨(wrap64 (Int.tdiv x0_1 10)), ((strOfNums y320) ++ x3_1), e2_, e2_, H', ⟨by have := HK1.out; omega⟩, ⟨bb HB⟩⟩
          · rw [if_neg c4] at H
            exact absurd H (by simp)
        · rw [if_neg c3] at H
          have c3b0 : decide (0 < x0_1) = false := decide_eq_false c3
          clear c3
          by_cases c8 : 1 + x3_1.size ≤ 9223372036854775807
          · rw [if_pos c8] at H
            have c8b0 := eq_true c8
            have c8b1 : decide (1 + x3_1.size ≤ 9223372036854775807) = true := decide_eq_true c8
            try have c8b2 : (9223372036854775807 < 1 + x3_1.size) = False := eq_false (Nat.not_lt.2 c8)
            obtain rfl := Option.some.inj H
            go_wp2
            go_ret
            exact ⟨ee, bb HB⟩
          · rw [if_neg c8] at H
            exact absurd H (by simp)
end Go.Proofs.YtibmeomlokigjaaDoor.R
namespace Go.Proofs.YtibmeomlokigjaaDoor.R
open Go.RowKit Go.Proofs.YtibmeomlokigjaaDoorW.PrintWords Go.Proofs.YtibmeomlokigjaaDoorW.PrintLast Go.Proofs.YtibmeomlokigjaaDoorW.PrintMore
attribute [local go_sem] max2_int min2_int max_two min_two max_three min_three max_four min_four
set_option linter.unusedVariables false
set_option linter.unusedSimpArgs false
def laws_markStringS.l0 : Nat → List ByteArray → Int → Int → Option (Int × List ByteArray)
  | 0, _, _, _ => none
  | k + 1, x0, x1, x5 => if x5 < (x0.length : Int) then ((laws_markText.f k x1).bind fun t323 => (if 0 ≤ x5 then (laws_markStringS.l0 k (x0.set (x5 : Int).toNat t323) (wrap64 (x1 + 1)) (wrap64 (x5 + 1))) else (none))) else (some (x1, x0))
def laws_markStringS.f (k : Nat) (l0 : List ByteArray) (a1 : Int) : Option (Int × List ByteArray) := laws_markStringS.l0 k l0 a1 0
set_option maxHeartbeats 8000000 in
set_option maxRecDepth 100000 in
theorem laws_markStringS.calls (k : Nat) (P0_ : Nat → Prop) (u9000_ : Value) (l0 : List ByteArray) (a1 : Int) (r1 : Int) (r2 : List ByteArray) (w0 w : World) (hB : Below w0.heap.size w0 w) (ho0 : Kd.R Kd.string 9 w w0.heap.size P0_ u9000_ l0) (h : laws_markStringS.f k l0 a1 = some (r1, r2)) :
    Calls Tryd.prog 32 #[u9000_, .int .i64 a1] w fun e w' => e = .returned (.int .i64 r1) ∧ Kd.R Kd.string 9 w' w0.heap.size (fun k_ => (P0_ k_ ∨ w.heap.size ≤ k_)) u9000_ r2 ∧ Below w0.heap.size w0 w' ∧ Kept w w' (fun k_ => P0_ k_) := by
  have HO0 := Aside0.mk (show Kd.R Kd.string 9 w w0.heap.size (fun k_ => (P0_ k_ ∨ w.heap.size ≤ k_)) u9000_ l0 from Kd.R_mono ho0 (fun k_ hk => (.inl hk)))
  have HK := Aside0.mk (Kept.refl w (fun k_ => P0_ k_))
  have HW0 := Aside0.mk hB.size
  have HB := Aside0.mk hB
  clear hB
  have H : (laws_markStringS.l0 k l0 a1 0) = some (r1, r2) := h
  clear h
  have H' := Aside0.mk H
  clear H
  go_enter Tryd.func32, Tryd.ntmps32
  go_wp2
  go_loopg [1, 5] k (fun kq v1 v5 w' => ∃ (x0_1 : List ByteArray) (x1_1 : Int) (x5_1 : Int), v1 = .int .i64 x1_1 ∧ v5 = .int .i64 x5_1 ∧ Aside0 (laws_markStringS.l0 kq x0_1 x1_1 x5_1 = some (r1, r2)) ∧ Aside0 (kq ≤ k) ∧ Aside0 (Kd.R Kd.string 9 w' w0.heap.size (fun k_ => (P0_ k_ ∨ w.heap.size ≤ k_)) u9000_ x0_1) ∧ Aside0 (Kept w w' (fun k_ => P0_ k_)) ∧ Aside0 (Below w0.heap.size w0 w'))
  case atStart => exact ⟨(l0), (a1), (0), e2_, e2_, H', ⟨Nat.le_refl _⟩, ⟨rr HO0⟩, ⟨by repeat (first | (with_reducible first | exact HK.out | apply Kept.alloc | apply Kept.drewN | apply Kept.drew) | exact HK.out)⟩, ⟨bb HB⟩⟩
  case round =>
    clear H'
    (try clear p2)
    obtain ⟨x0_1, x1_1, x5_1, rfl, rfl, HA, HK1, HO_0, HK, HB⟩ := hrel
    cases gk with
    | zero => exact absurd HA.out (by simp [laws_markStringS.l0])
    | succ k1 =>
      have H := HA.out
      clear HA
      simp only [laws_markStringS.l0] at H
      by_cases c3 : x5_1 < (x0_1.length : Int)
      · rw [if_pos c3] at H
        have c3b0 : decide (x5_1 < (x0_1.length : Int)) = true := decide_eq_true c3
        clear c3
        replace H := Option.bind_eq_some_iff.mp H
        obtain ⟨t323, A40, H⟩ := H
        replace H : (if 0 ≤ x5_1 then (laws_markStringS.l0 k1 (x0_1.set (x5_1 : Int).toNat t323) (wrap64 (x1_1 + 1)) (wrap64 (x5_1 + 1))) else (none)) = some (r1, r2) := H
        have A4 := Aside0.mk A40
        clear A40
        by_cases c5 : 0 ≤ x5_1
        · rw [if_pos c5] at H
          have c5b0 : decide (0 ≤ x5_1) = true := decide_eq_true c5
          clear c5
          obtain ⟨y324, hy324⟩ : ∃ y_ : List ByteArray, y_ = (x0_1.set (x5_1 : Int).toNat t323) := ⟨_, rfl⟩
          replace H : (laws_markStringS.l0 k1 y324 (wrap64 (x1_1 + 1)) (wrap64 (x5_1 + 1))) = some (r1, r2) := by first | (rw [hy324]; with_reducible exact H) | (have H2_ := (Option.bind_some _ _).symm.trans H; rw [hy324]; with_reducible exact H2_) | (have H2_ := (Option.bind_some _ _).symm.trans H; with_reducible exact H2_) | with_reducible exact H | (rw [hy324]; exact H) | exact H
          have Ny324 := Aside0.mk hy324
          clear hy324
          have H' := Aside0.mk H
          clear H
          obtain ⟨Ao7, co7, eo7⟩ := Kd.R_slice HO_0.out
          subst eo7
          go_wp2_with (first | ((with_reducible refine gate_callee (f := 68) rfl ?_); refine gl (some 15) Tryd.func68 #[.int .i64 x1_1] ?_; (with_reducible refine (laws_markText.calls k1 x1_1 t323 _ A4.out).mono ?_); rintro e w8 ⟨rfl, hb⟩; refine ⟨_, rfl, ?_⟩; replace HO_0 := kr HO_0 hb; replace HK := Aside0.mk (Kept.below (S := (fun k_ => P0_ k_)) (by repeat (first | (with_reducible first | exact HK.out | apply Kept.alloc | apply Kept.drewN | apply Kept.drew) | exact HK.out)) hb); replace HB := hs_ HB hb; (try clear hb); (try clear hb2); (try clear hk); (try clear hi); have p6 : 0 ≤ (x5_1 : Int) := of_decide_eq_true (by first | (with_reducible assumption) | assumption); have q6 : (x5_1 : Int) < ((x0_1.length : Int) : Int) := of_decide_eq_true (by first | (with_reducible assumption) | assumption); obtain ⟨go6, co6, eo6, gb6, gl6, cl6, HG6⟩ := Kd.R_form HO_0.out (by omega); (first | cases eo6 | (injection eo6 with ea_ en_ ec_; (first | subst ea_ | (injection ea_ with ea_; subst ea_)); subst ec_; clear en_)); have GB6 := Aside0.mk gb6; have GG6 := Aside0.mk HG6; clear gb6 gl6 HG6; have HMgo6 := Aside0.mk (show (P0_ go6 ∨ w.heap.size ≤ go6) from (HO_0.out.1 _ rfl)); obtain ⟨hx6_0, hf6_0⟩ := Kd.R_celln (⟨#[]⟩ : ByteArray) HO_0.out (x5_1 : Int) p6 q6; replace p6 := eq_true p6; replace q6 := eq_true q6; obtain ⟨hy9_, hz9_⟩ := Kd.R_celln (⟨#[]⟩ : ByteArray) HO_0.out (x5_1 : Int) (of_decide_eq_true (by first | (with_reducible assumption) | assumption)) (of_decide_eq_true (by first | (with_reducible assumption) | assumption)); have HP9 := Kd.R_putg HO_0.out (x5_1 : Int) t323) | ((with_reducible refine gate_store (t := 9) (p := 16) rfl ?_); refine store_event (t := 9) (p := 16) (v := ?vo_w10) (w1 := (w8.setCell ⟨go6, (x5_1 : Int).toNat, none⟩ (.string t323))) ?hg ?ho ?hn ?hr ?_; (case ho => rfl); (case hg => rfl); (case hn => rfl); (case hr => first | (go_simp; done) | (go_simp; rfl)); intro w10 hw; have hg : w8.grownBy w10 (some go6) := (by rw [hw]; exact HP9.2); have hp_ : Kd.R Kd.string 9 w10 w0.heap.size (fun k_ => (P0_ k_ ∨ w.heap.size ≤ k_)) (.slice (some ⟨go6, 0, none⟩) x0_1.length co7) y324 := (by rw [hw, Ny324.out]; exact HP9.1); clear HP9; replace HB := Aside0.mk (by rw [hw]; exact below_set (HB.out) GB6.out : Below w0.heap.size w0 w10); replace HK := Aside0.mk (Kept.of_grown (S := (fun k_ => P0_ k_)) hg (by repeat (first | (with_reducible first | exact HK.out | apply Kept.alloc | apply Kept.drewN | apply Kept.drew) | exact HK.out)) (fun k_ e_ => (HO_0.out.1 k_ e_))); replace HO_0 := Aside0.mk (hp_); clear hg hw hp_))
          go_roundg k1
          case measure => have := HK1.out; omega
          case rel => exact ⟨(y324), (wrap64 (x1_1 + 1)), (wrap64 (x5_1 + 1)), e2_, e2_, H', ⟨by have := HK1.out; omega⟩, ⟨rr HO_0⟩, ⟨by repeat (first | (with_reducible first | exact HK.out | apply Kept.alloc | apply Kept.drewN | apply Kept.drew) | exact HK.out)⟩, ⟨bb HB⟩⟩
        · rw [if_neg c5] at H
          exact absurd H (by simp)
      · rw [if_neg c3] at H
        have c3b0 : decide (x5_1 < (x0_1.length : Int)) = false := decide_eq_false c3
        clear c3
        simp only [Option.some.injEq, Prod.mk.injEq] at H
        obtain ⟨rfl, rfl⟩ := H
        obtain ⟨Ao11, co11, eo11⟩ := Kd.R_slice HO_0.out
        subst eo11
        go_wp2
        go_ret
        exact ⟨ee, rr HO_0, bb HB, by repeat (first | (with_reducible first | exact HK.out | apply Kept.alloc | apply Kept.drewN | apply Kept.drew) | exact HK.out)⟩
end Go.Proofs.YtibmeomlokigjaaDoor.R
namespace Go.Proofs.YtibmeomlokigjaaDoor.R
open Go.RowKit Go.Proofs.YtibmeomlokigjaaDoorW.PrintWords Go.Proofs.YtibmeomlokigjaaDoorW.PrintLast Go.Proofs.YtibmeomlokigjaaDoorW.PrintMore
attribute [local go_sem] max2_int min2_int max_two min_two max_three min_three max_four min_four
set_option linter.unusedVariables false
set_option linter.unusedSimpArgs false
def laws_heldStringS.l0 : Nat → List ByteArray → Int → Int → Option (Int)
  | 0, _, _, _ => none
  | k + 1, x0, x1, x5 => if x5 < (x0.length : Int) then (if 0 ≤ x5 then ((laws_markText.f k x1).bind fun t326 => (if (rdOf ByteArray.empty x0 x5).toList = t326.toList then (laws_heldStringS.l0 k x0 (wrap64 (x1 + 1)) (wrap64 (x5 + 1))) else (some (-1)))) else (none)) else (some x1)
def laws_heldStringS.f (k : Nat) (l0 : List ByteArray) (a1 : Int) : Option (Int) := laws_heldStringS.l0 k l0 a1 0
set_option maxHeartbeats 8000000 in
set_option maxRecDepth 100000 in
theorem laws_heldStringS.calls (k : Nat) (A0 : Option Addr) (c0 : Nat) (l0 : List ByteArray) (a1 : Int) (r : Int) (w : World) (hr0 : Kd.C Kd.string w A0 l0.length l0) (hc0 : l0.length ≤ c0) (h : laws_heldStringS.f k l0 a1 = some r) :
    Calls Tryd.prog 33 #[.slice A0 l0.length c0, .int .i64 a1] w fun e w' => e = .returned (.int .i64 r) ∧ Below w.heap.size w w' := by
  have HR0 := Aside0.mk hr0
  have HC0 := Aside0.mk hc0
  clear hr0 hc0
  have HB := Aside0.mk (Below.refl w.heap.size w)
  have H : (laws_heldStringS.l0 k l0 a1 0) = some r := h
  clear h
  have H' := Aside0.mk H
  clear H
  go_enter Tryd.func33, Tryd.ntmps33
  go_wp2
  go_loopg [1, 5] k (fun kq v1 v5 w' => ∃ (x1_1 : Int) (x5_1 : Int), v1 = .int .i64 x1_1 ∧ v5 = .int .i64 x5_1 ∧ Aside0 (laws_heldStringS.l0 kq l0 x1_1 x5_1 = some r) ∧ Aside0 (kq ≤ k) ∧ Aside0 (Below w.heap.size w w'))
  case atStart => exact ⟨(a1), (0), e2_, e2_, H', ⟨Nat.le_refl _⟩, ⟨bb HB⟩⟩
  case round =>
    clear H'
    (try clear p2)
    obtain ⟨x1_1, x5_1, rfl, rfl, HA, HK1, HB⟩ := hrel
    cases gk with
    | zero => exact absurd HA.out (by simp [laws_heldStringS.l0])
    | succ k1 =>
      have H := HA.out
      clear HA
      simp only [laws_heldStringS.l0] at H
      by_cases c3 : x5_1 < (l0.length : Int)
      · rw [if_pos c3] at H
        have c3b0 : decide (x5_1 < (l0.length : Int)) = true := decide_eq_true c3
        clear c3
        by_cases c4 : 0 ≤ x5_1
        · rw [if_pos c4] at H
          have c4b0 : decide (0 ≤ x5_1) = true := decide_eq_true c4
          clear c4
          replace H := Option.bind_eq_some_iff.mp H
          obtain ⟨t326, A50, H⟩ := H
          replace H : (if (rdOf ByteArray.empty l0 x5_1).toList = t326.toList then (laws_heldStringS.l0 k1 l0 (wrap64 (x1_1 + 1)) (wrap64 (x5_1 + 1))) else (some (-1))) = some r := H
          have A5 := Aside0.mk A50
          clear A50
          by_cases c6 : (rdOf ByteArray.empty l0 x5_1).toList = t326.toList
          · rw [if_pos c6] at H
            have c6b0 : ((rdOf ByteArray.empty l0 x5_1).toList == t326.toList) = true := beq_iff_eq.mpr c6
            have c6b1 : ((rdOf ByteArray.empty l0 x5_1).toList != t326.toList) = false := bne_eq_false_iff_eq.mpr c6
            clear c6
            have H' := Aside0.mk H
            clear H
            try go_wp2
            replace HB := Aside0.mk (below_drew1 HB.out)
            have p325 : 0 ≤ (x5_1 : Int) := of_decide_eq_true (by first | (with_reducible assumption) | assumption)
            have q325 : x5_1 < (l0.length : Int) := of_decide_eq_true (by first | (with_reducible assumption) | assumption)
            obtain ⟨ad325, e325, hx325_0⟩ := Kd.at_string HR0.out x5_1 p325 q325
            have hw325_0 := hx325_0
            cases e325
            replace hx325_0 := (HB.out.cell (World.block_lt_of_cell? w _ hx325_0)).trans hx325_0
            replace p325 := eq_true p325
            replace q325 := eq_true q325
            refine start_ (n := 7) (S := fun w' => w'.cell? (ad325.add (x5_1).toNat) = some (.string (rdOf ByteArray.empty l0 x5_1))) (ds := []) #[false, false, false, false, false, false, false] (by kernel_rfl) rfl rfl (((HB.out.cell (World.block_lt_of_cell? w _ hw325_0)).trans hw325_0)) (fun hHeld => ?_)
            generalize wr.drew = w7 at HB hx325_0 hHeld ⊢
            refine pure_ (i := 0) (N := some 12) (v := ?_) (a' := ?_) #[true, false, false, false, false, false, false] rfl rfl (by kernel_rfl) (fun _ _ _ h => h) (Or.inl ⟨by rfl, ?_⟩) ?_ ?_
            rotate_left
            · intro w'
              go_simp
              with_reducible rfl
            rotate_left
            · simp only [Act.put, List.setIfInBounds_toArray, List.set_cons_zero, List.set_cons_succ, i64_w, i32_w]
              rfl
            refine pure_ (i := 1) (N := some 13) (v := ?_) (a' := ?_) #[true, true, false, false, false, false, false] rfl rfl (by kernel_rfl) (fun _ _ _ h => h) (Or.inl ⟨by rfl, ?_⟩) ?_ ?_
            rotate_left
            · intro w'
              go_simp
              with_reducible rfl
            rotate_left
            · simp only [Act.put, List.setIfInBounds_toArray, List.set_cons_zero, List.set_cons_succ, i64_w, i32_w]
              rfl
            refine pure_ (i := 2) (N := some 14) (v := ?_) (a' := ?_) #[true, true, true, false, false, false, false] rfl rfl (by kernel_rfl) (fun _ _ _ h => h) (Or.inl ⟨by rfl, ?_⟩) ?_ ?_
            rotate_left
            · intro w'
              go_simp
              with_reducible rfl
            rotate_left
            · simp only [Act.put, List.setIfInBounds_toArray, List.set_cons_zero, List.set_cons_succ, i64_w, i32_w]
              rfl
            refine pure_ (i := 4) (N := some 16) (v := ?_) (a' := ?_) #[true, true, true, false, true, false, false] rfl rfl (by kernel_rfl) (fun _ _ _ h => h) (Or.inl ⟨by rfl, ?_⟩) ?_ ?_
            rotate_left
            · intro w'
              go_simp
              with_reducible rfl
            rotate_left
            · simp only [Act.put, List.setIfInBounds_toArray, List.set_cons_zero, List.set_cons_succ, i64_w, i32_w]
              rfl
            refine take_ (i := 3) (N := some 15) (v := ?_) (a' := ?_) #[true, true, true, true, true, false, false] rfl rfl (by kernel_rfl) (fun _ _ _ h => h) (Or.inl ⟨by rfl, ?_⟩) hHeld ?_ ?_
            rotate_left
            · intro w' s0
              go_simp
              with_reducible rfl
            rotate_left
            · simp only [Act.put, List.setIfInBounds_toArray, List.set_cons_zero, List.set_cons_succ, i64_w, i32_w]
              rfl
            refine one_ (i := 5) (N := some 17) #[true, true, true, true, true, true, false] rfl rfl (by kernel_rfl) (by decide) (fun K hK => ?_)
            refine goes_ Tryd.func68 (by kernel_rfl) rfl #[.int .i64 x1_1] (by rfl) rfl rfl (by (try simp only [List.map_toArray, List.map_cons, List.map_nil]); first | done | rfl | (simp only [List.length_drop, List.length_take]; rfl)) ?_
            with_reducible refine (laws_markText.calls k1 x1_1 t326 _ A5.out).mono ?_
            rintro e w8 ⟨rfl, hb⟩
            refine ⟨_, rfl, ?_⟩
            replace HB := hs_ HB hb
            (try clear hb)
            (try clear hb2)
            (try clear hk)
            (try clear hi)
            refine hK.out _ _ (((HB.out.cell (World.block_lt_of_cell? w _ hw325_0)).trans hw325_0)) (fun hHeld => ?_)
            clear hK K
            refine norm_ (a' := ?_) ?_ ?_
            rotate_left
            · show Act.put _ (some 17) _ = _
              simp only [Act.put, List.setIfInBounds_toArray, List.set_cons_zero, List.set_cons_succ, i64_w, i32_w]
              rfl
            refine pure_ (i := 6) (N := some 18) (v := ?_) (a' := ?_) #[true, true, true, true, true, true, true] rfl rfl (by kernel_rfl) (fun _ _ _ h => h) (Or.inl ⟨by rfl, ?_⟩) ?_ ?_
            rotate_left
            · intro w'
              go_simp
              with_reducible rfl
            rotate_left
            · simp only [Act.put, List.setIfInBounds_toArray, List.set_cons_zero, List.set_cons_succ, i64_w, i32_w]
              rfl
            refine done_ (by kernel_rfl) ?_
            try go_wp2
            go_roundg k1
            case measure => have := HK1.out; omega
            case rel => exact ⟨(wrap64 (x1_1 + 1)), (wrap64 (x5_1 + 1)), e2_, e2_, H', ⟨by have := HK1.out; omega⟩, ⟨bb HB⟩⟩
          · rw [if_neg c6] at H
            have c6b0 : ((rdOf ByteArray.empty l0 x5_1).toList == t326.toList) = false := beq_eq_false_iff_ne.mpr c6
            have c6b1 : ((rdOf ByteArray.empty l0 x5_1).toList != t326.toList) = true := bne_iff_ne.mpr c6
            obtain rfl := Option.some.inj H
            try go_wp2
            replace HB := Aside0.mk (below_drew1 HB.out)
            have p325 : 0 ≤ (x5_1 : Int) := of_decide_eq_true (by first | (with_reducible assumption) | assumption)
            have q325 : x5_1 < (l0.length : Int) := of_decide_eq_true (by first | (with_reducible assumption) | assumption)
            obtain ⟨ad325, e325, hx325_0⟩ := Kd.at_string HR0.out x5_1 p325 q325
            have hw325_0 := hx325_0
            cases e325
            replace hx325_0 := (HB.out.cell (World.block_lt_of_cell? w _ hx325_0)).trans hx325_0
            replace p325 := eq_true p325
            replace q325 := eq_true q325
            refine start_ (n := 7) (S := fun w' => w'.cell? (ad325.add (x5_1).toNat) = some (.string (rdOf ByteArray.empty l0 x5_1))) (ds := []) #[false, false, false, false, false, false, false] (by kernel_rfl) rfl rfl (((HB.out.cell (World.block_lt_of_cell? w _ hw325_0)).trans hw325_0)) (fun hHeld => ?_)
            generalize wr.drew = w9 at HB hx325_0 hHeld ⊢
            refine pure_ (i := 0) (N := some 12) (v := ?_) (a' := ?_) #[true, false, false, false, false, false, false] rfl rfl (by kernel_rfl) (fun _ _ _ h => h) (Or.inl ⟨by rfl, ?_⟩) ?_ ?_
            rotate_left
            · intro w'
              go_simp
              with_reducible rfl
            rotate_left
            · simp only [Act.put, List.setIfInBounds_toArray, List.set_cons_zero, List.set_cons_succ, i64_w, i32_w]
              rfl
            refine pure_ (i := 1) (N := some 13) (v := ?_) (a' := ?_) #[true, true, false, false, false, false, false] rfl rfl (by kernel_rfl) (fun _ _ _ h => h) (Or.inl ⟨by rfl, ?_⟩) ?_ ?_
            rotate_left
            · intro w'
              go_simp
              with_reducible rfl
            rotate_left
            · simp only [Act.put, List.setIfInBounds_toArray, List.set_cons_zero, List.set_cons_succ, i64_w, i32_w]
              rfl
            refine pure_ (i := 2) (N := some 14) (v := ?_) (a' := ?_) #[true, true, true, false, false, false, false] rfl rfl (by kernel_rfl) (fun _ _ _ h => h) (Or.inl ⟨by rfl, ?_⟩) ?_ ?_
            rotate_left
            · intro w'
              go_simp
              with_reducible rfl
            rotate_left
            · simp only [Act.put, List.setIfInBounds_toArray, List.set_cons_zero, List.set_cons_succ, i64_w, i32_w]
              rfl
            refine pure_ (i := 4) (N := some 16) (v := ?_) (a' := ?_) #[true, true, true, false, true, false, false] rfl rfl (by kernel_rfl) (fun _ _ _ h => h) (Or.inl ⟨by rfl, ?_⟩) ?_ ?_
            rotate_left
            · intro w'
              go_simp
              with_reducible rfl
            rotate_left
            · simp only [Act.put, List.setIfInBounds_toArray, List.set_cons_zero, List.set_cons_succ, i64_w, i32_w]
              rfl
            refine take_ (i := 3) (N := some 15) (v := ?_) (a' := ?_) #[true, true, true, true, true, false, false] rfl rfl (by kernel_rfl) (fun _ _ _ h => h) (Or.inl ⟨by rfl, ?_⟩) hHeld ?_ ?_
            rotate_left
            · intro w' s0
              go_simp
              with_reducible rfl
            rotate_left
            · simp only [Act.put, List.setIfInBounds_toArray, List.set_cons_zero, List.set_cons_succ, i64_w, i32_w]
              rfl
            refine one_ (i := 5) (N := some 17) #[true, true, true, true, true, true, false] rfl rfl (by kernel_rfl) (by decide) (fun K hK => ?_)
            refine goes_ Tryd.func68 (by kernel_rfl) rfl #[.int .i64 x1_1] (by rfl) rfl rfl (by (try simp only [List.map_toArray, List.map_cons, List.map_nil]); first | done | rfl | (simp only [List.length_drop, List.length_take]; rfl)) ?_
            with_reducible refine (laws_markText.calls k1 x1_1 t326 _ A5.out).mono ?_
            rintro e w10 ⟨rfl, hb⟩
            refine ⟨_, rfl, ?_⟩
            replace HB := hs_ HB hb
            (try clear hb)
            (try clear hb2)
            (try clear hk)
            (try clear hi)
            refine hK.out _ _ (((HB.out.cell (World.block_lt_of_cell? w _ hw325_0)).trans hw325_0)) (fun hHeld => ?_)
            clear hK K
            refine norm_ (a' := ?_) ?_ ?_
            rotate_left
            · show Act.put _ (some 17) _ = _
              simp only [Act.put, List.setIfInBounds_toArray, List.set_cons_zero, List.set_cons_succ, i64_w, i32_w]
              rfl
            refine pure_ (i := 6) (N := some 18) (v := ?_) (a' := ?_) #[true, true, true, true, true, true, true] rfl rfl (by kernel_rfl) (fun _ _ _ h => h) (Or.inl ⟨by rfl, ?_⟩) ?_ ?_
            rotate_left
            · intro w'
              go_simp
              with_reducible rfl
            rotate_left
            · simp only [Act.put, List.setIfInBounds_toArray, List.set_cons_zero, List.set_cons_succ, i64_w, i32_w]
              rfl
            refine done_ (by kernel_rfl) ?_
            try go_wp2
            go_ret
            exact ⟨ee, bb HB⟩
        · rw [if_neg c4] at H
          exact absurd H (by simp)
      · rw [if_neg c3] at H
        have c3b0 : decide (x5_1 < (l0.length : Int)) = false := decide_eq_false c3
        clear c3
        obtain rfl := Option.some.inj H
        go_wp2
        go_ret
        exact ⟨ee, bb HB⟩
end Go.Proofs.YtibmeomlokigjaaDoor.R
namespace Go.Proofs.YtibmeomlokigjaaDoor.R
open Go.RowKit Go.Proofs.YtibmeomlokigjaaDoorW.PrintWords Go.Proofs.YtibmeomlokigjaaDoorW.PrintLast Go.Proofs.YtibmeomlokigjaaDoorW.PrintMore
attribute [local go_sem] max2_int min2_int max_two min_two max_three min_three max_four min_four
set_option linter.unusedVariables false
set_option linter.unusedSimpArgs false
def laws_FnExactRoundLines.j0 : Nat → List (List (S109)) → List ByteArray → List ByteArray → Bool → Option (Bool)
  | 0, _, _, _, _ => none
  | k + 1, x0, x4, x6, x42 => if x42 = true then (some false) else ((laws_markStringS.f k x6 1).bind fun bt347 => ((laws_heldStringS.f k bt347.2 1).bind fun t349 => (if t349 < 0 then (some false) else (if t349 = bt347.1 then ((laws_toPairSS.f k x0).bind fun t350 => ((impl_RoundLines.f k t350).bind fun t353 => ((laws_eqStringS.f k t353 x4).bind fun t356 => (if t356 = true then ((laws_heldStringS.f k bt347.2 1).bind fun t357 => (if t357 < 0 then (some false) else (if t357 = bt347.1 then (some true) else (some false)))) else (some false))))) else (some false)))))
def laws_FnExactRoundLines.f (k : Nat) (l0 : List (List (S109))) : Option (Bool) := (laws_szPairSS.f k l0 1048576).bind fun t327 => (if t327 < 0 then (some true) else ((laws_toPairSS.f k l0).bind fun t328 => ((spec_RoundLines.f k t328).bind fun t331 => ((laws_toPairSS.f k l0).bind fun t334 => ((impl_RoundLines.f k t334).bind fun t337 => ((laws_eqStringS.f k t337 t331).bind fun t340 => (if t340 = true then ((laws_toPairSS.f k l0).bind fun t341 => ((laws_eqPairSS.f k t334 t341).bind fun t344 => (if t344 = true then ((laws_markPairSS.f k t334 1).bind fun t345 => (if t345 < 0 then (laws_FnExactRoundLines.j0 k l0 t331 t337 true) else ((laws_eqStringS.f k t337 t331).bind fun t346 => (laws_FnExactRoundLines.j0 k l0 t331 t337 (!t346))))) else (some false)))) else (some false))))))))
set_option maxHeartbeats 8000000 in
set_option maxRecDepth 100000 in
theorem laws_FnExactRoundLines.calls (k : Nat) (A0 : Option Addr) (c0 : Nat) (l0 : List (List (S109))) (r : Bool) (w : World) (hr0 : Kd.C (Kd.slice 109 k109) w A0 l0.length l0) (hc0 : l0.length ≤ c0) (h : laws_FnExactRoundLines.f k l0 = some r) (ht : TabW w := by first | exact Aside0.out (by assumption) | exact TabW.below (Aside0.out (by assumption)) (bb (by assumption)) | exact TabW.below (Aside0.out (by assumption)) (bb (Aside0.mk (Below.refl _ _)))) :
    Calls Tryd.prog 7 #[.slice A0 l0.length c0] w fun e w' => e = .returned (.bool r) ∧ Below w.heap.size w w' := by
  have HTW := Aside0.mk ht
  clear ht
  have HR0 := Aside0.mk hr0
  have HC0 := Aside0.mk hc0
  clear hr0 hc0
  have HB := Aside0.mk (Below.refl w.heap.size w)
  have H : ((laws_szPairSS.f k l0 1048576).bind fun t327 => (if t327 < 0 then (some true) else ((laws_toPairSS.f k l0).bind fun t328 => ((spec_RoundLines.f k t328).bind fun t331 => ((laws_toPairSS.f k l0).bind fun t334 => ((impl_RoundLines.f k t334).bind fun t337 => ((laws_eqStringS.f k t337 t331).bind fun t340 => (if t340 = true then ((laws_toPairSS.f k l0).bind fun t341 => ((laws_eqPairSS.f k t334 t341).bind fun t344 => (if t344 = true then ((laws_markPairSS.f k t334 1).bind fun t345 => (if t345 < 0 then (laws_FnExactRoundLines.j0 k l0 t331 t337 true) else ((laws_eqStringS.f k t337 t331).bind fun t346 => (laws_FnExactRoundLines.j0 k l0 t331 t337 (!t346))))) else (some false)))) else (some false))))))))) = some r := h
  clear h
  replace H := Option.bind_eq_some_iff.mp H
  obtain ⟨t327, A20, H⟩ := H
  replace H : (if t327 < 0 then (some true) else ((laws_toPairSS.f k l0).bind fun t328 => ((spec_RoundLines.f k t328).bind fun t331 => ((laws_toPairSS.f k l0).bind fun t334 => ((impl_RoundLines.f k t334).bind fun t337 => ((laws_eqStringS.f k t337 t331).bind fun t340 => (if t340 = true then ((laws_toPairSS.f k l0).bind fun t341 => ((laws_eqPairSS.f k t334 t341).bind fun t344 => (if t344 = true then ((laws_markPairSS.f k t334 1).bind fun t345 => (if t345 < 0 then (laws_FnExactRoundLines.j0 k l0 t331 t337 true) else ((laws_eqStringS.f k t337 t331).bind fun t346 => (laws_FnExactRoundLines.j0 k l0 t331 t337 (!t346))))) else (some false)))) else (some false)))))))) = some r := H
  have A2 := Aside0.mk A20
  clear A20
  have HC3 := Aside0.mk H
  clear H
  go_enter Tryd.func7, Tryd.ntmps7
  go_upto_if 15 with (first | ((with_reducible refine gate_callee (f := 25) rfl ?_); refine gl (some 13) Tryd.func25 #[.slice A0 l0.length c0, .int .i64 1048576] ?_; (with_reducible refine (laws_szPairSS.calls k _ _ l0 1048576 t327 _ ?side1 ?side2 A2.out).mono ?_); (case side1 => exact cz_ HR0); (case side2 => exact HC0.out); rintro e w' ⟨rfl, ⟨nd, rfl⟩⟩; refine ⟨_, rfl, ?_⟩))
  (try simp only [Act.put, List.setIfInBounds_toArray, List.set_cons_zero, List.set_cons_succ])
  have H := HC3.out
  clear HC3
  by_cases c4 : t327 < 0
  · rw [if_pos c4] at H
    have c4b0 : decide (t327 < 0) = true := decide_eq_true c4
    clear c4
    (first | rw [c4b0] | rw [c4b1] | (simp only [i64_w, i32_w]; rw [c4b0]) | skip)
    obtain rfl := Option.some.inj H
    go_wp2
    go_ret
    exact ⟨ee, bb HB⟩
  · rw [if_neg c4] at H
    have c4b0 : decide (t327 < 0) = false := decide_eq_false c4
    clear c4
    (first | rw [c4b0] | rw [c4b1] | (simp only [i64_w, i32_w]; rw [c4b0]) | skip)
    replace H := Option.bind_eq_some_iff.mp H
    obtain ⟨t328, A50, H⟩ := H
    replace H : ((spec_RoundLines.f k t328).bind fun t331 => ((laws_toPairSS.f k l0).bind fun t334 => ((impl_RoundLines.f k t334).bind fun t337 => ((laws_eqStringS.f k t337 t331).bind fun t340 => (if t340 = true then ((laws_toPairSS.f k l0).bind fun t341 => ((laws_eqPairSS.f k t334 t341).bind fun t344 => (if t344 = true then ((laws_markPairSS.f k t334 1).bind fun t345 => (if t345 < 0 then (laws_FnExactRoundLines.j0 k l0 t331 t337 true) else ((laws_eqStringS.f k t337 t331).bind fun t346 => (laws_FnExactRoundLines.j0 k l0 t331 t337 (!t346))))) else (some false)))) else (some false)))))) = some r := H
    have A5 := Aside0.mk A50
    clear A50
    replace H := Option.bind_eq_some_iff.mp H
    obtain ⟨t331, A60, H⟩ := H
    replace H : ((laws_toPairSS.f k l0).bind fun t334 => ((impl_RoundLines.f k t334).bind fun t337 => ((laws_eqStringS.f k t337 t331).bind fun t340 => (if t340 = true then ((laws_toPairSS.f k l0).bind fun t341 => ((laws_eqPairSS.f k t334 t341).bind fun t344 => (if t344 = true then ((laws_markPairSS.f k t334 1).bind fun t345 => (if t345 < 0 then (laws_FnExactRoundLines.j0 k l0 t331 t337 true) else ((laws_eqStringS.f k t337 t331).bind fun t346 => (laws_FnExactRoundLines.j0 k l0 t331 t337 (!t346))))) else (some false)))) else (some false))))) = some r := H
    have A6 := Aside0.mk A60
    clear A60
    replace H := Option.bind_eq_some_iff.mp H
    obtain ⟨t334, A70, H⟩ := H
    replace H : ((impl_RoundLines.f k t334).bind fun t337 => ((laws_eqStringS.f k t337 t331).bind fun t340 => (if t340 = true then ((laws_toPairSS.f k l0).bind fun t341 => ((laws_eqPairSS.f k t334 t341).bind fun t344 => (if t344 = true then ((laws_markPairSS.f k t334 1).bind fun t345 => (if t345 < 0 then (laws_FnExactRoundLines.j0 k l0 t331 t337 true) else ((laws_eqStringS.f k t337 t331).bind fun t346 => (laws_FnExactRoundLines.j0 k l0 t331 t337 (!t346))))) else (some false)))) else (some false)))) = some r := H
    have A7 := Aside0.mk A70
    clear A70
    replace H := Option.bind_eq_some_iff.mp H
    obtain ⟨t337, A80, H⟩ := H
    replace H : ((laws_eqStringS.f k t337 t331).bind fun t340 => (if t340 = true then ((laws_toPairSS.f k l0).bind fun t341 => ((laws_eqPairSS.f k t334 t341).bind fun t344 => (if t344 = true then ((laws_markPairSS.f k t334 1).bind fun t345 => (if t345 < 0 then (laws_FnExactRoundLines.j0 k l0 t331 t337 true) else ((laws_eqStringS.f k t337 t331).bind fun t346 => (laws_FnExactRoundLines.j0 k l0 t331 t337 (!t346))))) else (some false)))) else (some false))) = some r := H
    have A8 := Aside0.mk A80
    clear A80
    replace H := Option.bind_eq_some_iff.mp H
    obtain ⟨t340, A90, H⟩ := H
    replace H : (if t340 = true then ((laws_toPairSS.f k l0).bind fun t341 => ((laws_eqPairSS.f k t334 t341).bind fun t344 => (if t344 = true then ((laws_markPairSS.f k t334 1).bind fun t345 => (if t345 < 0 then (laws_FnExactRoundLines.j0 k l0 t331 t337 true) else ((laws_eqStringS.f k t337 t331).bind fun t346 => (laws_FnExactRoundLines.j0 k l0 t331 t337 (!t346))))) else (some false)))) else (some false)) = some r := H
    have A9 := Aside0.mk A90
    clear A90
    have HC10 := Aside0.mk H
    clear H
    go_upto_if 26 with (first | ((with_reducible refine gate_callee (f := 27) rfl ?_); refine gl (some 17) Tryd.func27 #[.slice A0 l0.length c0] ?_; (with_reducible refine (laws_toPairSS.calls k _ _ l0 t328 _ ?side1 ?side2 A5.out).mono ?_); (case side1 => exact cc HR0 HB); (case side2 => exact HC0.out); rintro e w11 ⟨v329, rfl, ho0, hb⟩; refine ⟨_, rfl, ?_⟩; have HO330 := Aside0.mk (Kd.S_lower ho0 (below_size (bb HB))); replace HB := hs_ HB hb; (try clear hb); (try clear hb2); (try clear hk); (try clear hi); (try clear ho0); obtain ⟨Ao12, co12, eo12⟩ := Kd.S_slice HO330.out; subst eo12) | ((with_reducible refine gate_callee (f := 26) rfl ?_); refine gl (some 18) Tryd.func26 #[.slice Ao12 t328.length co12] ?_; (with_reducible refine (spec_RoundLines.calls k _ _ t328 t331 _ ?side1 ?side2 A6.out).mono ?_); (case side1 => repeat (first | exact (Kd.S_reads' HO330.out).2.2 | (with_reducible refine Kd.C_alloc ?_ _) | (with_reducible refine Kd.C_drewN ?_ _) | (with_reducible refine Kd.C_drew ?_))); (case side2 => exact (Kd.S_reads' HO330.out).2.1); rintro e w13 ⟨v332, rfl, ho0, hb⟩; refine ⟨_, rfl, ?_⟩; replace HO330 := Aside0.mk (Kd.S_below (by (with_reducible repeat (first | apply Kd.S_alloc | apply Kd.S_drewN | apply Kd.S_drew)); exact HO330.out) hb); have HO333 := kl ho0 HB; replace HB := hs_ HB hb; (try clear hb); (try clear hb2); (try clear hk); (try clear hi); (try clear ho0)) | ((with_reducible refine gate_callee (f := 27) rfl ?_); refine gl (some 20) Tryd.func27 #[.slice A0 l0.length c0] ?_; (with_reducible refine (laws_toPairSS.calls k _ _ l0 t334 _ ?side1 ?side2 A7.out).mono ?_); (case side1 => exact cc HR0 HB); (case side2 => exact HC0.out); rintro e w14 ⟨v335, rfl, ho0, hb⟩; refine ⟨_, rfl, ?_⟩; replace HO333 := kr HO333 hb; have HO336 := Aside0.mk (Kd.S_lower (Kd.S_new' ho0 (Kd.S_lt (by (with_reducible repeat (first | apply Kd.S_alloc | apply Kd.S_drewN | apply Kd.S_drew)); exact HO330.out))) (below_size (bb HB))); replace HO330 := Aside0.mk (Kd.S_elder' (by (with_reducible repeat (first | apply Kd.S_alloc | apply Kd.S_drewN | apply Kd.S_drew)); exact HO330.out) (Kd.S_base ho0) hb); replace HB := hs_ HB hb; (try clear hb); (try clear hb2); (try clear hk); (try clear hi); (try clear ho0); obtain ⟨Ao15, co15, eo15⟩ := Kd.S_slice HO336.out; subst eo15) | ((with_reducible refine gate_callee (f := 28) rfl ?_); refine gl (some 22) Tryd.func28 #[.slice Ao15 t334.length co15] ?_; (with_reducible refine (impl_RoundLines.calls k _ _ t334 t337 _ ?side1 ?side2 A8.out).mono ?_); (case side1 => repeat (first | exact (Kd.S_reads' HO336.out).2.2 | (with_reducible refine Kd.C_alloc ?_ _) | (with_reducible refine Kd.C_drewN ?_ _) | (with_reducible refine Kd.C_drew ?_))); (case side2 => exact (Kd.S_reads' HO336.out).2.1); rintro e w16 ⟨v338, rfl, ho0, hb⟩; refine ⟨_, rfl, ?_⟩; replace HO330 := Aside0.mk (Kd.S_below (by (with_reducible repeat (first | apply Kd.S_alloc | apply Kd.S_drewN | apply Kd.S_drew)); exact HO330.out) hb); replace HO336 := Aside0.mk (Kd.S_below (by (with_reducible repeat (first | apply Kd.S_alloc | apply Kd.S_drewN | apply Kd.S_drew)); exact HO336.out) hb); have HO339 := Aside0.mk (Kd.R_lower (Kd.R_new' ho0 (rt HO333)) (below_size (bb HB))); replace HO333 := ke HO333 ho0 hb; replace HB := hs_ HB hb; (try clear hb); (try clear hb2); (try clear hk); (try clear hi); (try clear ho0); obtain ⟨Ao17, co17, eo17⟩ := Kd.R_slice HO339.out; subst eo17; obtain ⟨Ao18, co18, eo18⟩ := Kd.R_slice HO333.out; subst eo18) | ((with_reducible refine gate_callee (f := 29) rfl ?_); refine gl (some 25) Tryd.func29 #[.slice Ao17 t337.length co17, .slice Ao18 t331.length co18] ?_; (with_reducible refine (laws_eqStringS.calls k _ _ t337 _ _ t331 t340 _ ?side1 ?side2 ?side3 ?side4 A9.out).mono ?_); (case side1 => exact cr HO339); (case side2 => exact cl HO339); (case side3 => exact cr HO333); (case side4 => exact cl HO333); rintro e w' ⟨rfl, ⟨nd, rfl⟩⟩; refine ⟨_, rfl, ?_⟩))
    (try simp only [Act.put, List.setIfInBounds_toArray, List.set_cons_zero, List.set_cons_succ])
    have H := HC10.out
    clear HC10
    by_cases c19 : t340 = true
    · subst c19
      have H1 : ((laws_toPairSS.f k l0).bind fun t341 => ((laws_eqPairSS.f k t334 t341).bind fun t344 => (if t344 = true then ((laws_markPairSS.f k t334 1).bind fun t345 => (if t345 < 0 then (laws_FnExactRoundLines.j0 k l0 t331 t337 true) else ((laws_eqStringS.f k t337 t331).bind fun t346 => (laws_FnExactRoundLines.j0 k l0 t331 t337 (!t346))))) else (some false)))) = some r := by rw [if_pos rfl] at H; exact H
      clear H
      have H := H1
      clear H1
      replace H := Option.bind_eq_some_iff.mp H
      obtain ⟨t341, A200, H⟩ := H
      replace H : ((laws_eqPairSS.f k t334 t341).bind fun t344 => (if t344 = true then ((laws_markPairSS.f k t334 1).bind fun t345 => (if t345 < 0 then (laws_FnExactRoundLines.j0 k l0 t331 t337 true) else ((laws_eqStringS.f k t337 t331).bind fun t346 => (laws_FnExactRoundLines.j0 k l0 t331 t337 (!t346))))) else (some false))) = some r := H
      have A20 := Aside0.mk A200
      clear A200
      replace H := Option.bind_eq_some_iff.mp H
      obtain ⟨t344, A210, H⟩ := H
      replace H : (if t344 = true then ((laws_markPairSS.f k t334 1).bind fun t345 => (if t345 < 0 then (laws_FnExactRoundLines.j0 k l0 t331 t337 true) else ((laws_eqStringS.f k t337 t331).bind fun t346 => (laws_FnExactRoundLines.j0 k l0 t331 t337 (!t346))))) else (some false)) = some r := H
      have A21 := Aside0.mk A210
      clear A210
      have HC22 := Aside0.mk H
      clear H
      go_upto_if 31 with (first | ((with_reducible refine gate_callee (f := 27) rfl ?_); refine gl (some 29) Tryd.func27 #[.slice A0 l0.length c0] ?_; (with_reducible refine (laws_toPairSS.calls k _ _ l0 t341 _ ?side1 ?side2 A20.out).mono ?_); (case side1 => exact cc HR0 HB); (case side2 => exact HC0.out); rintro e w23 ⟨v342, rfl, ho0, hb⟩; refine ⟨_, rfl, ?_⟩; replace HO333 := kr HO333 hb; replace HO339 := kr HO339 hb; have HO343 := Aside0.mk (Kd.S_lower (Kd.S_new' (Kd.S_new' ho0 (Kd.S_lt (by (with_reducible repeat (first | apply Kd.S_alloc | apply Kd.S_drewN | apply Kd.S_drew)); exact HO330.out))) (Kd.S_lt (by (with_reducible repeat (first | apply Kd.S_alloc | apply Kd.S_drewN | apply Kd.S_drew)); exact HO336.out))) (below_size (bb HB))); replace HO330 := Aside0.mk (Kd.S_elder' (by (with_reducible repeat (first | apply Kd.S_alloc | apply Kd.S_drewN | apply Kd.S_drew)); exact HO330.out) (Kd.S_base ho0) hb); replace HO336 := Aside0.mk (Kd.S_elder' (by (with_reducible repeat (first | apply Kd.S_alloc | apply Kd.S_drewN | apply Kd.S_drew)); exact HO336.out) (Kd.S_base ho0) hb); replace HB := hs_ HB hb; (try clear hb); (try clear hb2); (try clear hk); (try clear hi); (try clear ho0); obtain ⟨Ao24, co24, eo24⟩ := Kd.S_slice HO343.out; subst eo24) | ((with_reducible refine gate_callee (f := 30) rfl ?_); refine gl (some 30) Tryd.func30 #[.slice Ao15 t334.length co15, .slice Ao24 t341.length co24] ?_; (with_reducible refine (laws_eqPairSS.calls k _ _ t334 _ _ t341 t344 _ ?side1 ?side2 ?side3 ?side4 A21.out).mono ?_); (case side1 => repeat (first | exact (Kd.S_reads' HO336.out).2.2 | (with_reducible refine Kd.C_alloc ?_ _) | (with_reducible refine Kd.C_drewN ?_ _) | (with_reducible refine Kd.C_drew ?_))); (case side2 => exact (Kd.S_reads' HO336.out).2.1); (case side3 => repeat (first | exact (Kd.S_reads' HO343.out).2.2 | (with_reducible refine Kd.C_alloc ?_ _) | (with_reducible refine Kd.C_drewN ?_ _) | (with_reducible refine Kd.C_drew ?_))); (case side4 => exact (Kd.S_reads' HO343.out).2.1); rintro e w25 ⟨rfl, hb⟩; refine ⟨_, rfl, ?_⟩; replace HO330 := Aside0.mk (Kd.S_below (by (with_reducible repeat (first | apply Kd.S_alloc | apply Kd.S_drewN | apply Kd.S_drew)); exact HO330.out) hb); replace HO333 := kr HO333 hb; replace HO336 := Aside0.mk (Kd.S_below (by (with_reducible repeat (first | apply Kd.S_alloc | apply Kd.S_drewN | apply Kd.S_drew)); exact HO336.out) hb); replace HO339 := kr HO339 hb; replace HO343 := Aside0.mk (Kd.S_below (by (with_reducible repeat (first | apply Kd.S_alloc | apply Kd.S_drewN | apply Kd.S_drew)); exact HO343.out) hb); replace HB := hs_ HB hb; (try clear hb); (try clear hb2); (try clear hk); (try clear hi)))
      (try simp only [Act.put, List.setIfInBounds_toArray, List.set_cons_zero, List.set_cons_succ])
      have H := HC22.out
      clear HC22
      by_cases c26 : t344 = true
      · subst c26
        have H1 : ((laws_markPairSS.f k t334 1).bind fun t345 => (if t345 < 0 then (laws_FnExactRoundLines.j0 k l0 t331 t337 true) else ((laws_eqStringS.f k t337 t331).bind fun t346 => (laws_FnExactRoundLines.j0 k l0 t331 t337 (!t346))))) = some r := by rw [if_pos rfl] at H; exact H
        clear H
        have H := H1
        clear H1
        replace H := Option.bind_eq_some_iff.mp H
        obtain ⟨t345, A270, H⟩ := H
        replace H : (if t345 < 0 then (laws_FnExactRoundLines.j0 k l0 t331 t337 true) else ((laws_eqStringS.f k t337 t331).bind fun t346 => (laws_FnExactRoundLines.j0 k l0 t331 t337 (!t346)))) = some r := H
        have A27 := Aside0.mk A270
        clear A270
        have HC28 := Aside0.mk H
        clear H
        go_upto_region 14 with (first | ((with_reducible refine gate_callee (f := 31) rfl ?_); refine gl (some 34) Tryd.func31 #[.slice Ao15 t334.length co15, .int .i64 1] ?_; (with_reducible refine (laws_markPairSS.calls k (fun _ => True) (.slice Ao15 t334.length co15) t334 1 t345 w _ ?side1 ?side2 A27.out).mono ?_); (case side1 => exact bb HB); (case side2 => exact Kd.S_mono HO336.out (fun _ _ => trivial)); rintro e w29 ⟨rfl, hb, hkp⟩; refine ⟨_, rfl, ?_⟩; clear HO330; replace HO333 := Aside0.mk (Kd.R_mono (ok' := fun k_ => some k_ ≠ (.slice Ao17 t337.length co17 : Value).ownBlock) (keptT_R HO333.out hkp (by decide)) (fun k_ hk_ => hk_.2)); replace HO339 := Aside0.mk (Kd.R_mono (ok' := fun k_ => some k_ ≠ (.slice Ao18 t331.length co18 : Value).ownBlock) (keptT_R HO339.out hkp (by decide)) (fun k_ hk_ => hk_.2)); replace HB := Aside0.mk (hb); clear HO336; (try clear hb); (try clear hkp)))
        (try simp only [Act.put, List.setIfInBounds_toArray, List.set_cons_zero, List.set_cons_succ])
        go_cut [42] (fun v42 wc => ∃ (kq : Nat) (x42_27 : Bool), v42 = .bool x42_27 ∧ Aside0 (laws_FnExactRoundLines.j0 kq l0 t331 t337 x42_27 = some r) ∧ Aside0 (kq ≤ k) ∧ Aside0 (Kd.R Kd.string 9 wc w.heap.size (fun k_ => some k_ ≠ ((.slice Ao17 t337.length co17) : Value).ownBlock) (.slice Ao18 t331.length co18) t331) ∧ Aside0 (Kd.R Kd.string 9 wc w.heap.size (fun k_ => some k_ ≠ ((.slice Ao18 t331.length co18) : Value).ownBlock) (.slice Ao17 t337.length co17) t337) ∧ Aside0 (Below w.heap.size w wc))
        case first =>
          have H := HC28.out
          clear HC28
          by_cases c30 : t345 < 0
          · rw [if_pos c30] at H
            have c30b0 : decide (t345 < 0) = true := decide_eq_true c30
            clear c30
            (first | rw [c30b0] | rw [c30b1] | (simp only [i64_w, i32_w]; rw [c30b0]) | skip)
            have H' := Aside0.mk H
            clear H
            go_wp2
            go_meet
            case rel => exact ⟨_, (true), e2_, H', ⟨by first | omega | exact Nat.le_refl _⟩, ⟨rr HO333⟩, ⟨rr HO339⟩, ⟨bb HB⟩⟩
          · rw [if_neg c30] at H
            have c30b0 : decide (t345 < 0) = false := decide_eq_false c30
            clear c30
            (first | rw [c30b0] | rw [c30b1] | (simp only [i64_w, i32_w]; rw [c30b0]) | skip)
            replace H := Option.bind_eq_some_iff.mp H
            obtain ⟨t346, A310, H⟩ := H
            replace H : (laws_FnExactRoundLines.j0 k l0 t331 t337 (!t346)) = some r := H
            have A31 := Aside0.mk A310
            clear A310
            have H' := Aside0.mk H
            clear H
            go_wp2_with (first | (go_at_call 29; (with_reducible refine (laws_eqStringS.calls k _ _ t337 _ _ t331 t346 _ ?side1 ?side2 ?side3 ?side4 A31.out).mono ?_); (case side1 => exact cr HO339); (case side2 => exact cl HO339); (case side3 => exact cr HO333); (case side4 => exact cl HO333); rintro e w' ⟨rfl, ⟨nd, rfl⟩⟩))
            go_meet
            case rel => exact ⟨_, (!t346), e2_, H', ⟨by first | omega | exact Nat.le_refl _⟩, ⟨rr HO333⟩, ⟨rr HO339⟩, ⟨bb HB⟩⟩
        case rest =>
          clear HC28
          (try clear c1)
          (try clear c2)
          (try clear p2)
          (try clear c3)
          (try clear c4)
          (try clear c4b0)
          (try clear c4b1)
          (try clear c7)
          (try clear c19)
          (try clear c25)
          (try clear c26)
          (try clear c27)
          (try clear c28)
          (try clear c29)
          (try clear c30)
          (try clear c30b0)
          (try clear c30b1)
          (try clear c31)
          obtain ⟨kq, x42_27, rfl, HA, HJ27, HO_4, HO_6, HB⟩ := hcut
          cases kq with
          | zero => exact absurd HA.out (by simp [laws_FnExactRoundLines.j0])
          | succ kj27 =>
            have H := HA.out
            clear HA
            simp only [laws_FnExactRoundLines.j0] at H
            by_cases c32 : x42_27 = true
            · subst c32
              have H1 : (some false) = some r := by rw [if_pos rfl] at H; exact H
              clear H
              have H := H1
              clear H1
              obtain rfl := Option.some.inj H
              go_wp2
              go_ret
              exact ⟨ee, bb HB⟩
            · replace c32 := Bool.eq_false_iff.mpr c32
              subst c32
              have H1 : ((laws_markStringS.f kj27 t337 1).bind fun bt347 => ((laws_heldStringS.f kj27 bt347.2 1).bind fun t349 => (if t349 < 0 then (some false) else (if t349 = bt347.1 then ((laws_toPairSS.f kj27 l0).bind fun t350 => ((impl_RoundLines.f kj27 t350).bind fun t353 => ((laws_eqStringS.f kj27 t353 t331).bind fun t356 => (if t356 = true then ((laws_heldStringS.f kj27 bt347.2 1).bind fun t357 => (if t357 < 0 then (some false) else (if t357 = bt347.1 then (some true) else (some false)))) else (some false))))) else (some false))))) = some r := by rw [if_neg (show ¬ (false = true) by decide)] at H; exact H
              clear H
              have H := H1
              clear H1
              replace H := Option.bind_eq_some_iff.mp H
              obtain ⟨⟨t347, t348⟩, A330, H⟩ := H
              replace H : ((laws_heldStringS.f kj27 t348 1).bind fun t349 => (if t349 < 0 then (some false) else (if t349 = t347 then ((laws_toPairSS.f kj27 l0).bind fun t350 => ((impl_RoundLines.f kj27 t350).bind fun t353 => ((laws_eqStringS.f kj27 t353 t331).bind fun t356 => (if t356 = true then ((laws_heldStringS.f kj27 t348 1).bind fun t357 => (if t357 < 0 then (some false) else (if t357 = t347 then (some true) else (some false)))) else (some false))))) else (some false)))) = some r := H
              have A33 := Aside0.mk A330
              clear A330
              replace H := Option.bind_eq_some_iff.mp H
              obtain ⟨t349, A340, H⟩ := H
              replace H : (if t349 < 0 then (some false) else (if t349 = t347 then ((laws_toPairSS.f kj27 l0).bind fun t350 => ((impl_RoundLines.f kj27 t350).bind fun t353 => ((laws_eqStringS.f kj27 t353 t331).bind fun t356 => (if t356 = true then ((laws_heldStringS.f kj27 t348 1).bind fun t357 => (if t357 < 0 then (some false) else (if t357 = t347 then (some true) else (some false)))) else (some false))))) else (some false))) = some r := H
              have A34 := Aside0.mk A340
              clear A340
              have HC35 := Aside0.mk H
              clear H
              go_upto_if 50 with (first | ((with_reducible refine gate_callee (f := 32) rfl ?_); refine gl (some 45) Tryd.func32 #[.slice Ao17 t337.length co17, .int .i64 1] ?_; (with_reducible refine (laws_markStringS.calls kj27 (fun k_ => some k_ = (.slice Ao17 t337.length co17 : Value).ownBlock) (.slice Ao17 t337.length co17) t337 1 t347 t348 w _ ?side1 ?side2 A33.out).mono ?_); (case side1 => exact bb HB); (case side2 => exact Kd.R_tight rfl HO_6.out); rintro e w36 ⟨rfl, hy0, hb, hkp⟩; refine ⟨_, rfl, ?_⟩; replace HO_4 := Aside0.mk (Kd.R_mono (ok' := fun k_ => some k_ ≠ (.slice Ao17 t337.length co17 : Value).ownBlock) (Kd.R_keptB (HO_4.out) hkp (fun k_ hk_ hs_ => (hk_) hs_)) (fun k_ hk_ => hk_.1)); replace HO_6 := Aside0.mk (Kd.R_reok rfl hy0 (fun k_ e_ => HO_6.out.1 k_ e_)); replace HB := Aside0.mk (hb); (try clear hb); (try clear hkp); (try clear hy0)) | ((with_reducible refine gate_callee (f := 33) rfl ?_); refine goesL_ (some 48) rfl rfl Tryd.func33 (by kernel_rfl) rfl #[.slice Ao17 t348.length co17, .int .i64 1] rfl (by (try simp only [List.map_toArray, List.map_cons, List.map_nil]); first | done | (rw [show t348.length = t337.length from (Kd.R_reads' HO_6.out).1.symm] <;> rfl) | rfl | (simp only [List.length_drop, List.length_take]; rfl)) ?_; (with_reducible refine (laws_heldStringS.calls kj27 _ _ t348 1 t349 _ ?side1 ?side2 A34.out).mono ?_); (case side1 => exact cr HO_6); (case side2 => rw [show t348.length = t337.length from (Kd.R_reads' HO_6.out).1.symm]; exact (Kd.R_reads' HO_6.out).2.1); rintro e w37 ⟨rfl, hb⟩; refine ⟨_, rfl, ?_⟩; replace HO_4 := kr HO_4 hb; replace HO_6 := kr HO_6 hb; replace HB := hs_ HB hb; (try clear hb); (try clear hb2); (try clear hk); (try clear hi)))
              (try simp only [Act.put, List.setIfInBounds_toArray, List.set_cons_zero, List.set_cons_succ])
              have H := HC35.out
              clear HC35
              by_cases c38 : t349 < 0
              · rw [if_pos c38] at H
                have c38b0 : decide (t349 < 0) = true := decide_eq_true c38
                clear c38
                (first | rw [c38b0] | rw [c38b1] | (simp only [i64_w, i32_w]; rw [c38b0]) | skip)
                obtain rfl := Option.some.inj H
                go_wp2
                go_ret
                exact ⟨ee, bb HB⟩
              · rw [if_neg c38] at H
                have c38b0 : decide (t349 < 0) = false := decide_eq_false c38
                clear c38
                (first | rw [c38b0] | rw [c38b1] | (simp only [i64_w, i32_w]; rw [c38b0]) | skip)
                by_cases c39 : t349 = t347
                · rw [if_pos c39] at H
                  have c39b0 : (t349 == t347) = true := beq_iff_eq.mpr c39
                  have c39b1 : (t349 != t347) = false := bne_eq_false_iff_eq.mpr c39
                  clear c39
                  replace H := Option.bind_eq_some_iff.mp H
                  obtain ⟨t350, A400, H⟩ := H
                  replace H : ((impl_RoundLines.f kj27 t350).bind fun t353 => ((laws_eqStringS.f kj27 t353 t331).bind fun t356 => (if t356 = true then ((laws_heldStringS.f kj27 t348 1).bind fun t357 => (if t357 < 0 then (some false) else (if t357 = t347 then (some true) else (some false)))) else (some false)))) = some r := H
                  have A40 := Aside0.mk A400
                  clear A400
                  replace H := Option.bind_eq_some_iff.mp H
                  obtain ⟨t353, A410, H⟩ := H
                  replace H : ((laws_eqStringS.f kj27 t353 t331).bind fun t356 => (if t356 = true then ((laws_heldStringS.f kj27 t348 1).bind fun t357 => (if t357 < 0 then (some false) else (if t357 = t347 then (some true) else (some false)))) else (some false))) = some r := H
                  have A41 := Aside0.mk A410
                  clear A410
                  replace H := Option.bind_eq_some_iff.mp H
                  obtain ⟨t356, A420, H⟩ := H
                  replace H : (if t356 = true then ((laws_heldStringS.f kj27 t348 1).bind fun t357 => (if t357 < 0 then (some false) else (if t357 = t347 then (some true) else (some false)))) else (some false)) = some r := H
                  have A42 := Aside0.mk A420
                  clear A420
                  have HC43 := Aside0.mk H
                  clear H
                  go_upto_if 60 with (first | ((with_reducible refine gate_callee (f := 27) rfl ?_); refine gl (some 55) Tryd.func27 #[.slice A0 l0.length c0] ?_; (with_reducible refine (laws_toPairSS.calls kj27 _ _ l0 t350 _ ?side1 ?side2 A40.out).mono ?_); (case side1 => exact cc HR0 HB); (case side2 => exact HC0.out); rintro e w44 ⟨v351, rfl, ho0, hb⟩; refine ⟨_, rfl, ?_⟩; replace HO_4 := kr HO_4 hb; replace HO_6 := kr HO_6 hb; have HO352 := Aside0.mk (Kd.S_lower ho0 (below_size (bb HB))); replace HB := hs_ HB hb; (try clear hb); (try clear hb2); (try clear hk); (try clear hi); (try clear ho0); obtain ⟨Ao45, co45, eo45⟩ := Kd.S_slice HO352.out; subst eo45) | ((with_reducible refine gate_callee (f := 28) rfl ?_); refine gl (some 56) Tryd.func28 #[.slice Ao45 t350.length co45] ?_; (with_reducible refine (impl_RoundLines.calls kj27 _ _ t350 t353 _ ?side1 ?side2 A41.out).mono ?_); (case side1 => repeat (first | exact (Kd.S_reads' HO352.out).2.2 | (with_reducible refine Kd.C_alloc ?_ _) | (with_reducible refine Kd.C_drewN ?_ _) | (with_reducible refine Kd.C_drew ?_))); (case side2 => exact (Kd.S_reads' HO352.out).2.1); rintro e w46 ⟨v354, rfl, ho0, hb⟩; refine ⟨_, rfl, ?_⟩; replace HO352 := Aside0.mk (Kd.S_below (by (with_reducible repeat (first | apply Kd.S_alloc | apply Kd.S_drewN | apply Kd.S_drew)); exact HO352.out) hb); have HO355 := Aside0.mk (Kd.R_lower (Kd.R_new' (Kd.R_new' ho0 (rt HO_4)) (rt HO_6)) (below_size (bb HB))); replace HO_4 := ke HO_4 ho0 hb; replace HO_6 := ke HO_6 ho0 hb; replace HB := hs_ HB hb; (try clear hb); (try clear hb2); (try clear hk); (try clear hi); (try clear ho0); obtain ⟨Ao47, co47, eo47⟩ := Kd.R_slice HO355.out; subst eo47) | ((with_reducible refine gate_callee (f := 29) rfl ?_); refine gl (some 59) Tryd.func29 #[.slice Ao47 t353.length co47, .slice Ao18 t331.length co18] ?_; (with_reducible refine (laws_eqStringS.calls kj27 _ _ t353 _ _ t331 t356 _ ?side1 ?side2 ?side3 ?side4 A42.out).mono ?_); (case side1 => exact cr HO355); (case side2 => exact cl HO355); (case side3 => exact cr HO_4); (case side4 => exact cl HO_4); rintro e w' ⟨rfl, ⟨nd, rfl⟩⟩; refine ⟨_, rfl, ?_⟩))
                  (try simp only [Act.put, List.setIfInBounds_toArray, List.set_cons_zero, List.set_cons_succ])
                  have H := HC43.out
                  clear HC43
                  by_cases c48 : t356 = true
                  · subst c48
                    have H1 : ((laws_heldStringS.f kj27 t348 1).bind fun t357 => (if t357 < 0 then (some false) else (if t357 = t347 then (some true) else (some false)))) = some r := by rw [if_pos rfl] at H; exact H
                    clear H
                    have H := H1
                    clear H1
                    replace H := Option.bind_eq_some_iff.mp H
                    obtain ⟨t357, A490, H⟩ := H
                    replace H : (if t357 < 0 then (some false) else (if t357 = t347 then (some true) else (some false))) = some r := H
                    have A49 := Aside0.mk A490
                    clear A490
                    have HC50 := Aside0.mk H
                    clear H
                    go_upto_if 65 with (first | ((with_reducible refine gate_callee (f := 33) rfl ?_); refine goesL_ (some 63) rfl rfl Tryd.func33 (by kernel_rfl) rfl #[.slice Ao17 t348.length co17, .int .i64 1] rfl (by (try simp only [List.map_toArray, List.map_cons, List.map_nil]); first | done | (rw [show t348.length = t337.length from (Kd.R_reads' HO_6.out).1.symm] <;> rfl) | rfl | (simp only [List.length_drop, List.length_take]; rfl)) ?_; (with_reducible refine (laws_heldStringS.calls kj27 _ _ t348 1 t357 _ ?side1 ?side2 A49.out).mono ?_); (case side1 => exact cr HO_6); (case side2 => rw [show t348.length = t337.length from (Kd.R_reads' HO_6.out).1.symm]; exact (Kd.R_reads' HO_6.out).2.1); rintro e w51 ⟨rfl, hb⟩; refine ⟨_, rfl, ?_⟩; replace HO_4 := kr HO_4 hb; replace HO_6 := kr HO_6 hb; replace HO352 := Aside0.mk (Kd.S_below (by (with_reducible repeat (first | apply Kd.S_alloc | apply Kd.S_drewN | apply Kd.S_drew)); exact HO352.out) hb); replace HO355 := kr HO355 hb; replace HB := hs_ HB hb; (try clear hb); (try clear hb2); (try clear hk); (try clear hi)))
                    (try simp only [Act.put, List.setIfInBounds_toArray, List.set_cons_zero, List.set_cons_succ])
                    have H := HC50.out
                    clear HC50
                    by_cases c52 : t357 < 0
                    · rw [if_pos c52] at H
                      have c52b0 : decide (t357 < 0) = true := decide_eq_true c52
                      clear c52
                      (first | rw [c52b0] | rw [c52b1] | (simp only [i64_w, i32_w]; rw [c52b0]) | skip)
                      obtain rfl := Option.some.inj H
                      go_wp2
                      go_ret
                      exact ⟨ee, bb HB⟩
                    · rw [if_neg c52] at H
                      have c52b0 : decide (t357 < 0) = false := decide_eq_false c52
                      clear c52
                      (first | rw [c52b0] | rw [c52b1] | (simp only [i64_w, i32_w]; rw [c52b0]) | skip)
                      by_cases c53 : t357 = t347
                      · rw [if_pos c53] at H
                        have c53b0 : (t357 == t347) = true := beq_iff_eq.mpr c53
                        have c53b1 : (t357 != t347) = false := bne_eq_false_iff_eq.mpr c53
                        clear c53
                        obtain rfl := Option.some.inj H
                        go_wp2
                        go_ret
                        exact ⟨ee, bb HB⟩
                      · rw [if_neg c53] at H
                        have c53b0 : (t357 == t347) = false := beq_eq_false_iff_ne.mpr c53
                        have c53b1 : (t357 != t347) = true := bne_iff_ne.mpr c53
                        obtain rfl := Option.some.inj H
                        go_wp2
                        go_ret
                        exact ⟨ee, bb HB⟩
                  · replace c48 := Bool.eq_false_iff.mpr c48
                    subst c48
                    have H1 : (some false) = some r := by rw [if_neg (show ¬ (false = true) by decide)] at H; exact H
                    clear H
                    have H := H1
                    clear H1
                    obtain rfl := Option.some.inj H
                    go_wp2
                    go_ret
                    exact ⟨ee, bb HB⟩
                · rw [if_neg c39] at H
                  have c39b0 : (t349 == t347) = false := beq_eq_false_iff_ne.mpr c39
                  have c39b1 : (t349 != t347) = true := bne_iff_ne.mpr c39
                  obtain rfl := Option.some.inj H
                  go_wp2
                  go_ret
                  exact ⟨ee, bb HB⟩
      · replace c26 := Bool.eq_false_iff.mpr c26
        subst c26
        have H1 : (some false) = some r := by rw [if_neg (show ¬ (false = true) by decide)] at H; exact H
        clear H
        have H := H1
        clear H1
        obtain rfl := Option.some.inj H
        go_wp2
        go_ret
        exact ⟨ee, bb HB⟩
    · replace c19 := Bool.eq_false_iff.mpr c19
      subst c19
      have H1 : (some false) = some r := by rw [if_neg (show ¬ (false = true) by decide)] at H; exact H
      clear H
      have H := H1
      clear H1
      obtain rfl := Option.some.inj H
      go_wp2
      go_ret
      exact ⟨ee, bb HB⟩
end Go.Proofs.YtibmeomlokigjaaDoor.R
namespace Go.Proofs.YtibmeomlokigjaaDoor.Q
open Go.RowKit Go.Proofs.YtibmeomlokigjaaDoorW.PrintWords Go.Proofs.YtibmeomlokigjaaDoorW.PrintLast Go.Proofs.YtibmeomlokigjaaDoorW.PrintMore
attribute [local go_sem] max2_int min2_int max_two min_two max_three min_three max_four min_four
set_option linter.unusedVariables false
set_option linter.unusedSimpArgs false
def errW : Option Int → Value
  | none => .nilIface
  | some c => .iface 0 (.int .i64 c)
theorem errW_none : errW none = .nilIface := rfl
theorem errW_some (c : Int) : errW (some c) = .iface 0 (.int .i64 c) := rfl
structure S109 where
  f0 : Int
  f1 : Int
def z109 : S109 := ⟨(0 : Int), (0 : Int)⟩
def k109 : Kd S109 := Kd.iso (Kd.pair (Kd.int .i64) (Kd.int .i64)) (fun x : S109 => (x.f0, x.f1))
def rd_T109 (xs : List S109) (i : Int) : S109 := xs.getD i.toNat z109
def rd_L4 (xs : List (List S109)) (i : Int) : (List S109) := xs.getD i.toNat ([] : List S109)
structure S94 where
  f0 : Int
  f1 : Int
def z94 : S94 := ⟨(0 : Int), (0 : Int)⟩
def k94 : Kd S94 := Kd.iso (Kd.pair (Kd.int .i64) (Kd.int .i64)) (fun x : S94 => (x.f0, x.f1))
def rd_T94 (xs : List S94) (i : Int) : S94 := xs.getD i.toNat z94
def rd_L6 (xs : List (List S94)) (i : Int) : (List S94) := xs.getD i.toNat ([] : List S94)
end Go.Proofs.YtibmeomlokigjaaDoor.Q
namespace Go.Proofs.YtibmeomlokigjaaDoor.Opens
open Go.ChangeShapes Go.WideShapes Go.ChangeAt Go.RowKit Go.Proofs.YtibmeomlokigjaaDoor.Q Go.Proofs.YtibmeomlokigjaaDoorW.PrintWords Go.Proofs.YtibmeomlokigjaaDoorW.PrintLast
section
variable {H : Type} (enc : TypeId × Value → H) (P : Program) (W : World)
def Opens {α : Type} (t : TypeId) (d : Kd α) (ok : α → Prop) : Prop := ∀ (fuel : Nat) (cs : List Value) (x : DataW H × List MemPlace), DataW.trod enc P W 0 (fun _ => true) true fuel t cs = some x → ∃ a, d.K W a cs ∧ ok a
def OpensFs {α : Type} (off : Nat) (fs : List Field) (d : Kd α) (ok : α → Prop) : Prop :=
  ∀ (n : Nat) (cs : List Value) (xs : List (DataW H × List MemPlace)), (∀ (i : Nat) (f : Field), fs[i]? = some f → DataW.trod enc P W 0 (fun _ => true) true n f.type ((cs.drop f.offset).take (P.cellsOf f.type)) = xs[i]?) → xs.length = fs.length → cs.length = off + d.sz → ∃ a, d.K W a (cs.drop off) ∧ ok a
variable {enc P W}
variable {α β : Type} {t : TypeId} {d : Kd α} {d2 : Kd β} {ok : α → Prop} {ok2 : β → Prop}
theorem int {k : IntKind} (ht : P.underlying t = some (.int k)) : Opens enc P W t (Kd.int k) (fun n => (Lit.int k n).wf = true) := fun fuel cs x h => by
  obtain ⟨n, rfl, _, hw⟩ := DataW.trod_int ht h
  exact ⟨n, rfl, hw⟩
theorem cells_get {w : World} {base : Nat} {a : Addr} {n : Nat} {cs : List Value} (h : w.cells? base a n = some cs) : cs.length = n ∧ ∀ i u, cs[i]? = some u → w.cell? (a.add i) = some u := by
  unfold World.cells? at h
  split at h
  · have hl := mapM_some_length h
    refine ⟨by simpa using hl, fun i u hi => ?_⟩
    have hlt : i < n := by have := (List.getElem?_eq_some_iff.mp hi).1; simp at hl; omega
    have := mapM_some_get h i i (by simp [hlt])
    rw [this, hi]
  · cases h
theorem add_add (a : Addr) (i j : Nat) : (a.add i).add j = a.add (i + j) := by
  unfold Addr.add
  by_cases hi : i = 0
  · subst hi; simp
  · by_cases hj : j = 0
    · subst hj; simp [hi]
    · simp [hi, hj]; omega
theorem slice {e : TypeId} (ht : P.underlying t = some (.slice e)) (he : Opens enc P W e d ok) (hc : P.cellsOf e = d.sz) (q : Nat) : Opens enc P W t (Kd.slice q d) (fun l => l.length ≤ maxLen ∧ ∀ x ∈ l, ok x) := fun fuel cs x h => by
  rcases DataW.trod_slice ht h with ⟨rfl, _⟩ | ⟨a, len, cap, elems, rest, n, _, rfl, _, _, hl, hm, hlen, hel, _⟩
  · exact ⟨[], ⟨none, 0, rfl, Nat.le_refl _, rfl, Nat.zero_le _, fun h => absurd h (Nat.not_lt_zero _)⟩, Nat.zero_le _, fun x hx => by cases hx⟩
  · have each : ∀ i : Fin len, ∃ p : α, ok p ∧ ∃ c, c.length = d.sz ∧ d.K W p c ∧ ∀ j u, c[j]? = some u → W.cell? (a.add (i.1 * d.sz + j)) = some u := by
      intro i
      have h1 := hel i.1 i.2
      obtain ⟨y, hy⟩ : ∃ y, elems[i.1]? = some y := ⟨elems[i.1]'(by have := i.2; omega), List.getElem?_eq_getElem (by have := i.2; omega)⟩
      rw [hy, Option.bind_eq_some_iff] at h1
      obtain ⟨c, hcs, htr⟩ := h1
      rw [hc] at hcs
      obtain ⟨p, hK, hok⟩ := he _ _ _ htr
      obtain ⟨h2, h3⟩ := cells_get hcs
      exact ⟨p, hok, c, h2, hK, fun j u hj => by rw [← add_add]; exact h3 j u hj⟩
    let f : Fin len → α := fun i => (each i).choose
    have hf : ∀ i : Fin len, ok (f i) ∧ ∃ c, c.length = d.sz ∧ d.K W (f i) c ∧ ∀ j u, c[j]? = some u → W.cell? (a.add (i.1 * d.sz + j)) = some u := fun i => (each i).choose_spec
    have hm' : len ≤ maxLen := Nat.le_trans hl hm
    refine ⟨List.ofFn f, ⟨some a, cap, by simp, by simpa using hl, by simp, by simpa [maxLen] using hm', fun _ => ⟨a, rfl, fun j p hj => ?_⟩⟩, by simpa using hm', fun x hx => ?_⟩
    · have hlt : j < len := by have := (List.getElem?_eq_some_iff.mp hj).1; simpa using this
      have : p = f ⟨j, hlt⟩ := by rw [List.getElem?_eq_getElem (by simpa using hlt)] at hj; simpa using hj.symm
      subst this
      obtain ⟨_, c, h1, h2, h3⟩ := hf ⟨j, hlt⟩
      exact ⟨c, h1, h2, h3⟩
    · obtain ⟨i, hi, rfl⟩ := List.mem_iff_getElem.mp hx
      simp only [List.getElem_ofFn]
      exact (hf _).1
theorem one {f : Field} (off : Nat) (ho : f.offset = off) (he : Opens enc P W f.type d ok) (hc : P.cellsOf f.type = d.sz) : OpensFs enc P W off [f] d ok := fun n cs xs h hx hl => by
  have h0 := h 0 f rfl
  have hz : xs.length = 1 := hx
  obtain ⟨y, rfl⟩ := List.length_eq_one_iff.mp hz
  rw [ho, hc, List.take_of_length_le (by simp; omega)] at h0
  exact he _ _ _ h0
theorem cons {f : Field} {fs : List Field} (off off2 : Nat) (ho : f.offset = off) (he : Opens enc P W f.type d ok) (hc : P.cellsOf f.type = d.sz) (h2 : off + d.sz = off2) (hr : OpensFs enc P W off2 fs d2 ok2) :
    OpensFs enc P W off (f :: fs) (Kd.pair d d2) (fun x => ok x.1 ∧ ok2 x.2) := fun n cs xs h hx hl => by
  cases xs with
  | nil => simp at hx
  | cons y ys =>
    have h0 := h 0 f rfl
    rw [ho, hc] at h0
    obtain ⟨p, hp, hok⟩ := he _ _ _ h0
    have hl' : cs.length = off + (d.sz + d2.sz) := hl
    obtain ⟨q, hq, hok2⟩ := hr n cs ys (fun i g hi => h (i + 1) g hi) (by simpa using hx) (by omega)
    refine ⟨(p, q), ⟨_, _, ?_, hp, hq⟩, hok, hok2⟩
    rw [← h2, ← List.drop_drop, List.take_append_drop]
theorem struct {fs : Array Field} (ht : P.underlying t = some (.struct fs)) (hc : P.cellsOf t = d.sz) (h : OpensFs enc P W 0 fs.toList d ok) : Opens enc P W t d ok := fun fuel cs x hx => by
  obtain ⟨xs, n, _, _, hl, hxs, hf⟩ := DataW.trod_struct ht hx
  have := h n cs xs (fun i f hi => hf i f (by simpa using hi)) (by simpa using hxs) (by omega)
  simpa using this
theorem iso {f : β → α} (g : α → β) (hg : ∀ x, f (g x) = x) (h : Opens enc P W t d ok) : Opens enc P W t (Kd.iso d f) (fun y => ok (f y)) := fun fuel cs x hx => by
  obtain ⟨p, hp, hok⟩ := h _ _ _ hx
  exact ⟨g p, by show d.K W (f (g p)) cs; rw [hg]; exact hp, by show ok (f (g p)); rw [hg]; exact hok⟩
end
theorem trod_slice_val {H : Type} {enc : TypeId × Value → H} {P : Program} {W : World} {r : Reach} {b0 : Nat} {t e : TypeId} {v : Value} {α : Type} {d : Kd α} {ok : List α → Prop} {q : Nat} {dd : DataW H} {ps : List MemPlace} (ht : P.underlying t = some (.slice e)) (hval : Value.okWide P W r b0 t v) (hd : DataW.Trod enc P W 0 (fun _ => true) true t v dd ps) (h : Opens enc P W t (Kd.slice q d) ok) :
    ∃ A c l, v = .slice A l.length c ∧ l.length ≤ c ∧ d.C W A l.length l ∧ ok l := by
  obtain ⟨a0, len0, cap0, rfl⟩ := okWide_slice ht hval
  obtain ⟨fuel, hf⟩ := hd
  obtain ⟨l, ⟨A, c, he, hl, hC⟩, hok⟩ := h _ _ _ hf
  refine ⟨A, c, l, by simpa [Value.cells] using he, hl, hC, hok⟩
end Go.Proofs.YtibmeomlokigjaaDoor.Opens
namespace Go.Proofs.YtibmeomlokigjaaDoor.Laid
open Go.ChangeShapes Go.WideShapes Go.ChangeAt Go.WideMaps Go.WideElems Go.RowKit
noncomputable def laid3 : List (String × DataW Unit) := Rows.fnExactFormatGameRow.laid
theorem door_met (os : Os) (args : Array Value) : laidMetH Tryd.prog laid3 ((World.doorLaid Tryd.prog 400 os).forCall (fun _ _ => 0) ⟨#[], args, []⟩).memory :=
  laidMetH_of_parts3 (fuel := 8) (laidMet_of_run' 8 (by kernel_rfl) (by kernel_rfl)) (by kernel_rfl) (by kernel_rfl)
theorem door_shaped (os : Os) (args : Array Value) : ((World.doorLaid Tryd.prog 400 os).forCall (fun _ _ => 0) ⟨#[], args, []⟩).Shaped Tryd.prog :=
  World.shaped_of_RefB (by kernel_rfl) (by kernel_rfl)
end Go.Proofs.YtibmeomlokigjaaDoor.Laid
namespace Go.Proofs.YtibmeomlokigjaaDoor.Laid
open Go.RowKit
theorem gTab : Tryd.prog.globalNamed "internal/strconv.uint64pow10" = some (Tryd.prog.globalNamed "internal/strconv.uint64pow10" |>.getD 0) := by kernel_rfl
theorem tab {W : World} (h : laidMetH Tryd.prog laid3 W) : R.TabW W := by
  rw [MakeChecks.laidMetH_plain _ _ _ (by kernel_rfl)] at h
  have h2 : laidMet Tryd.prog [("math/bits.deBruijn32tab", Rows.laid_math_bits_deBruijn32tab), ("math/bits.deBruijn64tab", Rows.laid_math_bits_deBruijn64tab), ("internal/strconv.uint64pow10", Lib.tabData .u64 Lib.pow10Tab)] W := h
  exact R.TabW.of_tabIs (Lib.tabIs_of_head (t := 140) (e := 134) (n := 20) gTab (by kernel_rfl) Tryd.underlying140 Tryd.underlying134 (by kernel_rfl) (by kernel_rfl) (laidMet.tail (laidMet.tail h2)))
end Go.Proofs.YtibmeomlokigjaaDoor.Laid
namespace Go.Proofs.YtibmeomlokigjaaDoor.R
open Go.RowKit Go.Proofs.YtibmeomlokigjaaDoorW.PrintWords Go.Proofs.YtibmeomlokigjaaDoorW.PrintLast Go.Proofs.YtibmeomlokigjaaDoorW.PrintMore
attribute [local go_sem] max2_int min2_int max_two min_two max_three min_three max_four min_four
set_option linter.unusedVariables false
set_option linter.unusedSimpArgs false
def spec_l01In.f (a0 : Int) (a1 : Int) (a2 : Int) : Option (Bool) := if a0 ≥ a1 then (some (decide (a0 ≤ a2))) else (some false)
end Go.Proofs.YtibmeomlokigjaaDoor.R
namespace Go.Proofs.YtibmeomlokigjaaDoor.R
open Go.RowKit Go.Proofs.YtibmeomlokigjaaDoorW.PrintWords Go.Proofs.YtibmeomlokigjaaDoorW.PrintLast Go.Proofs.YtibmeomlokigjaaDoorW.PrintMore
attribute [local go_sem] max2_int min2_int max_two min_two max_three min_three max_four min_four
set_option linter.unusedVariables false
set_option linter.unusedSimpArgs false
def impl_within.f (a0 : Int) (a1 : Int) (a2 : Int) : Option (Bool) := if a1 ≤ a0 then (some (decide (a0 ≤ a2))) else (some false)
end Go.Proofs.YtibmeomlokigjaaDoor.R
namespace Go.Proofs.YtibmeomlokigjaaDoor.R
open Go.RowKit Go.Proofs.YtibmeomlokigjaaDoorW.PrintWords Go.Proofs.YtibmeomlokigjaaDoorW.PrintLast Go.Proofs.YtibmeomlokigjaaDoorW.PrintMore
def mk (l : List UInt8) : ByteArray := ⟨l.toArray⟩
theorem mk_append (a b : List UInt8) : mk a ++ mk b = mk (a ++ b) := by
  apply ByteArray.ext
  simp [mk]
theorem mk_size (l : List UInt8) : (mk l).size = l.length := by simp [mk, ByteArray.size]
theorem mk_self (s : ByteArray) : mk s.data.toList = s := rfl
theorem strOfNums_mk (l : List Int) : strOfNums l = mk (l.map fun n => UInt8.ofNat n.toNat) := rfl
theorem digits_len (m : Nat) : ∀ n : Nat, n < 10 ^ (m + 1) → (Lib.decDigits n).length ≤ m + 1 := by
  induction m with
  | zero => intro n h; rw [Lib.decDigits_one (by simpa using h)]; simp
  | succ m ih =>
    intro n h
    rw [Lib.decDigits]
    split
    · simp
    · have := ih (n / 10) (by rw [Nat.pow_succ] at h; omega)
      simp; omega
theorem wrap_id (x : Int) (h0 : -9223372036854775808 ≤ x) (h1 : x ≤ 9223372036854775807) : wrap64 x = x := by unfold wrap64; omega
theorem formatInt_l0 (m : Nat) : ∀ (k : Nat) (n : Int) (s : List UInt8), 0 ≤ n → n.toNat < 10 ^ (m + 1) → n ≤ 9223372036854775807 → s.length + m ≤ 1000 → spec_FormatInt.l0 (k + m + 1) n (mk s) = some (mk (Lib.decDigits n.toNat ++ s)) := by
  induction m with
  | zero =>
    intro k n s h0 h1 h2 hs
    have hn : n.toNat < 10 := by simpa using h1
    rw [spec_FormatInt.l0, if_neg (by omega)]
    simp only [Option.bind_some, strOfNums_mk, List.map_cons, List.map_nil, mk_size, mk_append]
    rw [if_pos (by simp; omega), Lib.decDigits_one hn, wrap_id _ (by omega) (by omega), show ((48 + n) % 256).toNat = 48 + n.toNat by omega]
  | succ m ih =>
    intro k n s h0 h1 h2 hs
    by_cases hn : n > 9
    · rw [show k + (m + 1) + 1 = (k + m + 1) + 1 by omega, spec_FormatInt.l0, if_pos hn]
      have h10 : Int.tdiv n 10 = n / 10 := Int.tdiv_eq_ediv_of_nonneg h0
      have hm10 : Int.tmod n 10 = n % 10 := Int.tmod_eq_emod_of_nonneg h0
      simp only [Option.bind_some, strOfNums_mk, List.map_cons, List.map_nil, mk_size, mk_append, h10, hm10]
      rw [if_pos (by simp; omega), wrap_id (n / 10) (by omega) (by omega)]
      have hlt : (n / 10).toNat < 10 ^ (m + 1) := by
        have : n.toNat < 10 * 10 ^ (m + 1) := by rw [Nat.pow_succ] at h1; omega
        omega
      rw [List.singleton_append, ih k (n / 10) _ (by omega) hlt (by omega) (by simp; omega)]
      congr 2
      rw [wrap_id _ (by omega) (by omega), show ((48 + n % 10) % 256).toNat = 48 + n.toNat % 10 by omega]
      conv => rhs; rw [Lib.decDigits]
      rw [dif_neg (by omega), List.append_assoc, show (n / 10).toNat = n.toNat / 10 by omega]
      rfl
    · rw [show k + (m + 1) + 1 = (k + m + 1) + 1 by omega, spec_FormatInt.l0, if_neg hn]
      simp only [Option.bind_some, strOfNums_mk, List.map_cons, List.map_nil, mk_size, mk_append]
      rw [if_pos (by simp; omega), Lib.decDigits_one (by omega), wrap_id _ (by omega) (by omega), show ((48 + n) % 256).toNat = 48 + n.toNat by omega]
def joinB (l : List ByteArray) (s : ByteArray) : ByteArray := mk (Lib.join (l.map (·.data.toList)) s.data.toList)
theorem join_eq (l : List ByteArray) (s : ByteArray) (h1 : l.length ≤ 100000000) (h2 : (joinB l s).size ≤ 140737488355328) : impl_Join.f l s = some (joinB l s) := by
  unfold joinB at h2
  rw [mk_size] at h2
  unfold impl_Join.f strings_Join.f
  rw [if_pos ⟨by omega, h2⟩]
  rfl
theorem join2 (a b s : ByteArray) : joinB [a, b] s = a ++ s ++ b := by
  simp [joinB, Lib.join, List.intercalate, ← mk_append, mk_self, ByteArray.append_assoc]
theorem join2_sz (a b s : ByteArray) : (joinB [a, b] s).size = a.size + s.size + b.size := by rw [join2]; simp
end Go.Proofs.YtibmeomlokigjaaDoor.R
namespace Go.Proofs.YtibmeomlokigjaaDoor.R
open Go.RowKit Go.Proofs.YtibmeomlokigjaaDoorW.PrintWords Go.Proofs.YtibmeomlokigjaaDoorW.PrintLast Go.Proofs.YtibmeomlokigjaaDoorW.PrintMore
def num (n : Int) : ByteArray := mk (Lib.itoa n)
def Fits (n : Int) : Prop := -9223372036854775808 ≤ n ∧ n ≤ 9223372036854775807
theorem num_size {n : Int} (h : Fits n) : (num n).size ≤ 21 := by
  obtain ⟨h0, h1⟩ := h
  unfold num Lib.itoa
  rw [mk_size]
  split
  · have := digits_len 18 n.natAbs (by omega)
    simp only [List.length_cons]; omega
  · have := digits_len 18 n.toNat (by omega)
    omega
theorem implFormatNum {n : Int} (h : Fits n) : impl_FormatInt.f n = some (num n) := by
  unfold impl_FormatInt.f strconv_Itoa.f
  rw [if_pos (show -9223372036854775808 ≤ n ∧ n ≤ 9223372036854775807 from h)]
  rfl
theorem tdiv_neg (n : Int) (h : n < 0) : Int.tdiv n 10 = -((n.natAbs / 10 : Nat) : Int) := by
  obtain ⟨m, rfl⟩ : ∃ m : Nat, n = -(m : Int) := ⟨n.natAbs, by omega⟩
  rw [Int.neg_tdiv, Int.natAbs_neg, Int.natAbs_natCast]
  rw [show Int.tdiv (m : Int) 10 = ((m / 10 : Nat) : Int) by rw [Int.tdiv_eq_ediv_of_nonneg (by omega)]; omega]
theorem tmod_neg (n : Int) (h : n < 0) : Int.tmod n 10 = -((n.natAbs % 10 : Nat) : Int) := by
  obtain ⟨m, rfl⟩ : ∃ m : Nat, n = -(m : Int) := ⟨n.natAbs, by omega⟩
  rw [Int.neg_tmod, Int.natAbs_neg, Int.natAbs_natCast]
  rw [show Int.tmod (m : Int) 10 = ((m % 10 : Nat) : Int) by rw [Int.tmod_eq_emod_of_nonneg (by omega)]; omega]
theorem specNeg (m : Nat) : ∀ (k : Nat) (n : Int), n < 0 → n.natAbs < 10 ^ (m + 1) → -9223372036854775808 ≤ n → m ≤ 100 → spec_FormatInt.f (k + m + 1) n = some (mk (45 :: Lib.decDigits n.natAbs)) := by
  induction m with
  | zero =>
    intro k n h0 h1 h2 _
    have h9 : n.natAbs < 10 := by simpa using h1
    rw [show k + 0 + 1 = k + 1 by omega, spec_FormatInt.f, if_pos h0, tdiv_neg n h0, show n.natAbs / 10 = 0 by omega, if_pos (by rw [wrap_id _ (by decide) (by decide)]; rfl)]
    simp only [Option.bind_some, strOfNums_mk, List.map_cons, List.map_nil, mk_size]
    rw [if_pos (by simp), show (⟨#[45]⟩ : ByteArray) = mk [45] from rfl, mk_append, wrap_id _ (by omega) (by omega), show ((48 - n) % 256).toNat = 48 + n.natAbs by omega, Lib.decDigits_one h9]
    rfl
  | succ m ih =>
    intro k n h0 h1 h2 hm
    rw [show k + (m + 1) + 1 = (k + m + 1) + 1 by omega, spec_FormatInt.f, if_pos h0, tdiv_neg n h0, tmod_neg n h0, wrap_id (-((n.natAbs / 10 : Nat) : Int)) (by omega) (by omega)]
    by_cases hz : n.natAbs / 10 = 0
    · rw [if_pos (by omega)]
      simp only [Option.bind_some, strOfNums_mk, List.map_cons, List.map_nil, mk_size]
      rw [if_pos (by simp), show (⟨#[45]⟩ : ByteArray) = mk [45] from rfl, mk_append, wrap_id _ (by omega) (by omega), show ((48 - n) % 256).toNat = 48 + n.natAbs by omega, Lib.decDigits_one (by omega)]
      rfl
    · have hlt : (-((n.natAbs / 10 : Nat) : Int)).natAbs < 10 ^ (m + 1) := by
        rw [Int.natAbs_neg, Int.natAbs_natCast]
        rw [Nat.pow_succ] at h1
        omega
      have hl := digits_len m (n.natAbs / 10) (by rw [Int.natAbs_neg, Int.natAbs_natCast] at hlt; exact hlt)
      rw [if_neg (by omega), ih k _ (by omega) hlt (by omega) (by omega), Int.natAbs_neg, Int.natAbs_natCast]
      simp only [Option.bind_some, strOfNums_mk, List.map_cons, List.map_nil, mk_size]
      rw [if_pos (by simp only [List.length_cons, List.length_nil]; omega), mk_append, wrap_id _ (by omega) (by omega), show ((48 - -((n.natAbs % 10 : Nat) : Int)) % 256).toNat = 48 + n.natAbs % 10 by omega]
      congr 2
      conv => rhs; rw [Lib.decDigits]
      rw [dif_neg (by omega)]
      rfl
theorem specFormatNum {n : Int} (h : Fits n) (k : Nat) : spec_FormatInt.f (k + 21) n = some (num n) := by
  obtain ⟨h0, h1⟩ := h
  unfold num Lib.itoa
  by_cases hn : n < 0
  · rw [if_pos hn, show k + 21 = (k + 1) + 19 + 1 by omega, specNeg 19 (k + 1) n hn (by omega) h0 (by decide)]
  · rw [if_neg hn, show k + 21 = (k + 20) + 1 by omega, spec_FormatInt.f, if_neg hn]
    have := formatInt_l0 19 k n [] (by omega) (by omega) h1 (by simp)
    rw [List.append_nil] at this
    exact this
theorem texts_num2 {a b : Int} (ha : Fits a) (hb : Fits b) (k : Nat) : impl_texts.f (k + 3) [a, b] = some [num a, num b] := by
  have l2 : (([a, b] : List Int).length : Int) = 2 := rfl
  unfold impl_texts.f
  rw [l2, show k + 3 = ((k + 1) + 1) + 1 by omega, impl_texts.l0, l2, if_pos (by decide), if_pos (by decide), if_pos (by decide), show rd [a, b] 0 = a from rfl, implFormatNum ha, Option.bind_some, if_pos (by decide), wrap_id _ (by decide) (by decide)]
  rw [impl_texts.l0, l2, if_pos (by decide), if_pos (by decide), if_pos (by decide), show rd [a, b] (0 + 1) = b from rfl, implFormatNum hb, Option.bind_some, if_pos (show (([] : List ByteArray) ++ [num a]).length < 8796093022208 from (by decide : (1 : Nat) < 8796093022208)), wrap_id _ (by decide) (by decide)]
  rw [impl_texts.l0, if_neg (by decide)]
  rfl
end Go.Proofs.YtibmeomlokigjaaDoor.R
namespace Go.Proofs.YtibmeomlokigjaaDoor.R
open Go.RowKit Go.Proofs.YtibmeomlokigjaaDoorW.PrintWords Go.Proofs.YtibmeomlokigjaaDoorW.PrintLast Go.Proofs.YtibmeomlokigjaaDoorW.PrintMore
def jtail (s : ByteArray) : List ByteArray → ByteArray
  | [] => mk []
  | y :: r => s ++ y ++ jtail s r
theorem mk_nil_append (a : ByteArray) : mk [] ++ a = a := by rw [← mk_self a, mk_append]; rfl
theorem append_mk_nil (a : ByteArray) : a ++ mk [] = a := by rw [← mk_self a, mk_append, List.append_nil]
theorem jtail_snoc (s y : ByteArray) (l : List ByteArray) : jtail s (l ++ [y]) = jtail s l ++ (s ++ y) := by
  induction l with
  | nil => simp [jtail, append_mk_nil, mk_nil_append]
  | cons x l ih => simp [jtail, ih, ByteArray.append_assoc]
theorem mk_joinTail (s : ByteArray) (r : List ByteArray) : mk (Lib.joinTail s.data.toList (r.map (·.data.toList))) = jtail s r := by
  induction r with
  | nil => rfl
  | cons y r ih =>
    rw [jtail, ← ih]
    simp [Lib.joinTail, ← mk_append, mk_self, ByteArray.append_assoc]
theorem joinB_cons (x s : ByteArray) (r : List ByteArray) : joinB (x :: r) s = x ++ jtail s r := by
  unfold joinB
  rw [List.map_cons, Lib.join_cons, ← mk_append, mk_self, mk_joinTail]
theorem joinB_nil (s : ByteArray) : joinB [] s = mk [] := rfl
theorem jtail_size (s : ByteArray) (c : Nat) (r : List ByteArray) (h : ∀ x ∈ r, x.size ≤ c) : (jtail s r).size ≤ r.length * (s.size + c) := by
  induction r with
  | nil => simp [jtail, mk_size]
  | cons y r ih =>
    have h1 := ih (fun x hx => h x (List.mem_cons_of_mem _ hx))
    have h2 := h y List.mem_cons_self
    simp only [jtail, ByteArray.size_append, List.length_cons, Nat.succ_mul]
    omega
theorem joinB_size (s : ByteArray) (c : Nat) (r : List ByteArray) (h : ∀ x ∈ r, x.size ≤ c) : (joinB r s).size ≤ r.length * (s.size + c) := by
  cases r with
  | nil => simp [joinB_nil, mk_size]
  | cons y r =>
    have h1 := jtail_size s c r (fun x hx => h x (List.mem_cons_of_mem _ hx))
    have h2 := h y List.mem_cons_self
    rw [joinB_cons]
    simp only [ByteArray.size_append, List.length_cons, Nat.succ_mul]
    omega
theorem rdB_eq (l : List ByteArray) (i : Nat) (h : i < l.length) : rdOf ByteArray.empty l (i : Int) = l[i] := by
  unfold rdOf; simp [h]
theorem specJoin (s : ByteArray) (c : Nat) (l : List ByteArray) (h : ∀ x ∈ l, x.size ≤ c) (hb : (l.length + 1) * (s.size + c) ≤ 9223372036854775807) (hl : l.length ≤ 1000000000) (k : Nat) (hk : l.length < k) : spec_Join.f k l s = some (joinB l s) := by
  cases l with
  | nil =>
    obtain ⟨k, rfl⟩ : ∃ m, k = m + 1 := ⟨k - 1, by omega⟩
    rfl
  | cons x r =>
    have hlr : r.length + 1 ≤ 1000000000 := by simpa using hl
    have key : ∀ (d i : Nat), r.length - i = d → i ≤ r.length → ∀ k, d < k → spec_Join.l0 k s (x ++ jtail s (r.take i)) (x :: r) ((x :: r).length : Int) ((i + 1 : Nat) : Int) = some (x ++ jtail s r) := by
      intro d
      induction d with
      | zero =>
        intro i hd hi k hk
        obtain ⟨k, rfl⟩ : ∃ m, k = m + 1 := ⟨k - 1, by omega⟩
        rw [spec_Join.l0, if_neg (by simp only [List.length_cons]; omega), List.take_of_length_le (by omega)]
      | succ d ih =>
        intro i hd hi k hk
        obtain ⟨k, rfl⟩ : ∃ m, k = m + 1 := ⟨k - 1, by omega⟩
        have hlt : i < r.length := by omega
        have h2 := ih (i + 1) (by omega) (by omega) k (by omega)
        have hx := h x List.mem_cons_self
        have hy := h r[i] (List.mem_cons_of_mem _ (List.getElem_mem hlt))
        have hz := jtail_size s c (r.take i) (fun z hz => h z (List.mem_cons_of_mem _ (List.mem_of_mem_take hz)))
        rw [List.length_take, Nat.min_eq_left (by omega)] at hz
        have hm : i * (s.size + c) + (s.size + c) + (s.size + c) ≤ 9223372036854775807 := by
          have : (i + 2) * (s.size + c) ≤ ((x :: r).length + 1) * (s.size + c) := Nat.mul_le_mul_right _ (by simp only [List.length_cons]; omega)
          have e : (i + 2) * (s.size + c) = i * (s.size + c) + (s.size + c) + (s.size + c) := by rw [Nat.add_mul]; omega
          omega
        rw [spec_Join.l0, if_pos (by simp only [List.length_cons]; omega), if_pos (by omega), if_pos (by simp only [List.length_cons]; omega), if_pos (by omega), rdB_eq _ _ (by simp only [List.length_cons]; omega), wrap_id _ (by omega) (by omega)]
        rw [List.getElem_cons_succ, if_pos (by simp only [ByteArray.size_append]; omega), if_pos (by simp only [ByteArray.size_append]; omega)]
        rw [List.take_succ_eq_append_getElem hlt, jtail_snoc] at h2
        rw [show ((i + 1 : Nat) : Int) + 1 = ((i + 1 + 1 : Nat) : Int) by omega, ← h2]
        simp only [ByteArray.append_assoc]
    obtain ⟨k, rfl⟩ : ∃ m, k = m + 1 := ⟨k - 1, by omega⟩
    have h2 := key r.length 0 (by omega) (by omega) k (by simpa using hk)
    have hx := h x List.mem_cons_self
    have h0 : (⟨#[]⟩ : ByteArray).size = 0 := rfl
    have hm : s.size + c ≤ 9223372036854775807 := Nat.le_trans (by simp only [List.length_cons]; exact Nat.le_mul_of_pos_left _ (by omega)) hb
    unfold spec_Join.f
    rw [spec_Join.l0, if_pos (by simp only [List.length_cons]; omega), if_pos (by omega), if_pos (by simp only [List.length_cons]; omega), if_neg (by omega), show (0 : Int) = ((0 : Nat) : Int) from rfl, rdB_eq _ _ (by simp only [List.length_cons]; omega), List.getElem_cons_zero, if_pos (by rw [h0]; omega), wrap_id _ (by decide) (by decide)]
    rw [joinB_cons]
    rw [List.take_zero, show jtail s [] = mk [] from rfl, append_mk_nil] at h2
    rw [show (⟨#[]⟩ : ByteArray) ++ x = x from mk_nil_append x]
    exact h2
end Go.Proofs.YtibmeomlokigjaaDoor.R
namespace Go.Proofs.YtibmeomlokigjaaDoor.R
open Go.RowKit Go.Proofs.YtibmeomlokigjaaDoorW.PrintWords Go.Proofs.YtibmeomlokigjaaDoorW.PrintLast Go.Proofs.YtibmeomlokigjaaDoorW.PrintMore
abbrev PairT := S94
def lineT (p : PairT) : ByteArray := num p.f0 ++ ⟨#[45]⟩ ++ num p.f1
def FitP (p : PairT) : Prop := Fits p.f0 ∧ Fits p.f1
def wordsT (r : List PairT) : List ByteArray := if r = [] then [⟨#[98, 121, 101]⟩] else r.map lineT
def roundT (r : List PairT) : ByteArray := joinB (wordsT r) ⟨#[32]⟩
theorem one_sizeR (c : UInt8) : (⟨#[c]⟩ : ByteArray).size = 1 := rfl
theorem lineT_size {p : PairT} (h : FitP p) : (lineT p).size ≤ 43 := by
  have h1 := num_size h.1
  have h2 := num_size h.2
  unfold lineT
  simp only [ByteArray.size_append, one_sizeR]
  omega
theorem wordsT_size {r : List PairT} (h : ∀ p ∈ r, FitP p) : ∀ x ∈ wordsT r, x.size ≤ 43 := by
  intro x hx
  unfold wordsT at hx
  split at hx
  · simp only [List.mem_singleton] at hx
    subst hx
    exact (by decide : (3 : Nat) ≤ 43)
  · obtain ⟨p, hp, rfl⟩ := List.mem_map.mp hx
    exact lineT_size (h p hp)
theorem wordsT_len (r : List PairT) : (wordsT r).length ≤ r.length + 1 := by
  unfold wordsT
  split <;> simp
theorem rdP_eq (l : List PairT) (i : Nat) (h : i < l.length) : rd_T94 l (i : Int) = l[i] := by
  unfold rd_T94; simp [h]
theorem rdPP_eq (l : List (List PairT)) (i : Nat) (h : i < l.length) : rd_L6 l (i : Int) = l[i] := by
  unfold rd_L6; simp [h]
theorem wrap_succR (i : Nat) (h : i < 4611686018427387904) : wrap64 ((i : Int) + 1) = ((i + 1 : Nat) : Int) := by unfold wrap64; omega
theorem implWords (x3 : List ByteArray) (x10 : List (List PairT)) (x11 x12 : Int) (r : List PairT) (hr : ∀ p ∈ r, FitP p) (hl : r.length ≤ 1048576) (res : List ByteArray) (ev : Ev (fun k => impl_RoundLines.l1 k x3 (r.map lineT) x10 x11 x12 r (r.length : Int) (r.length : Int)) res) :
    ∀ (d i : Nat) (acc : List ByteArray), i + d = r.length → acc = (r.take i).map lineT → Ev (fun k => impl_RoundLines.l1 k x3 acc x10 x11 x12 r (r.length : Int) (i : Int)) res := by
  intro d
  induction d with
  | zero =>
    intro i acc hi ha
    obtain rfl : i = r.length := by omega
    rw [ha, List.take_length]
    exact ev
  | succ d ih =>
    intro i acc hi ha
    have hlt : i < r.length := by omega
    have hf := hr r[i] (List.getElem_mem hlt)
    have z1 := num_size hf.1
    have z2 := num_size hf.2
    have hal : acc.length ≤ 1048576 := by rw [ha]; simp; omega
    have next := ih (i + 1) (acc ++ [lineT r[i]]) (by omega) (by rw [ha, List.take_succ_eq_append_getElem hlt, List.map_append]; rfl)
    refine Ev.step (f := fun k => (impl_texts.f k (([(rd_T94 r i).f0, (rd_T94 r i).f1] : List Int))).bind fun t290 => ((impl_Join.f t290 (⟨#[45]⟩ : ByteArray)).bind fun t293 => (if acc.length < 8796093022208 then (impl_RoundLines.l1 k x3 (acc ++ [t293]) x10 x11 x12 r (r.length : Int) (wrap64 ((i : Int) + 1))) else (none)))) (fun k => by rw [impl_RoundLines.l1, if_pos (by omega), if_pos (by omega), if_pos (by omega)]) ?_
    rw [rdP_eq r i hlt]
    refine Ev.bind (a := [num r[i].f0, num r[i].f1]) ⟨3, fun k hk => by
      have := texts_num2 hf.1 hf.2 (k - 3)
      rw [show k - 3 + 3 = k by omega] at this
      exact this⟩ ?_
    refine Ev.congr (fun k => ?_) next
    rw [join_eq _ _ (by simp) (by rw [join2_sz, one_sizeR]; omega), Option.bind_some, if_pos (by omega), join2, wrap_succR i (by omega)]
    rfl
theorem specWords (x3 : List ByteArray) (x10 : List (List PairT)) (x11 x12 : Int) (r : List PairT) (hr : ∀ p ∈ r, FitP p) (hl : r.length ≤ 1048576) (res : List ByteArray) (ev : Ev (fun k => spec_RoundLines.l1 k x3 (r.map lineT) x10 x11 x12 r (r.length : Int) (r.length : Int)) res) :
    ∀ (d i : Nat) (acc : List ByteArray), i + d = r.length → acc = (r.take i).map lineT → Ev (fun k => spec_RoundLines.l1 k x3 acc x10 x11 x12 r (r.length : Int) (i : Int)) res := by
  intro d
  induction d with
  | zero =>
    intro i acc hi ha
    obtain rfl : i = r.length := by omega
    rw [ha, List.take_length]
    exact ev
  | succ d ih =>
    intro i acc hi ha
    have hlt : i < r.length := by omega
    have hf := hr r[i] (List.getElem_mem hlt)
    have z1 := num_size hf.1
    have z2 := num_size hf.2
    have hal : acc.length ≤ 1048576 := by rw [ha]; simp; omega
    have next := ih (i + 1) (acc ++ [lineT r[i]]) (by omega) (by rw [ha, List.take_succ_eq_append_getElem hlt, List.map_append]; rfl)
    have numEv : ∀ {n : Int}, Fits n → Ev (fun k => spec_FormatInt.f k n) (num n) := fun {n} h => ⟨21, fun k hk => by
      have := specFormatNum h (k - 21)
      rw [show k - 21 + 21 = k by omega] at this
      exact this⟩
    refine Ev.step (f := fun k => (spec_FormatInt.f k ((rd_T94 r i).f0)).bind fun t244 => (if t244.size + 1 ≤ 9223372036854775807 then ((spec_FormatInt.f k ((rd_T94 r i).f1)).bind fun t245 => (if (t244 ++ (⟨#[45]⟩ : ByteArray)).size + t245.size ≤ 9223372036854775807 then (if acc.length < 8796093022208 then (spec_RoundLines.l1 k x3 (acc ++ [(t244 ++ (⟨#[45]⟩ : ByteArray)) ++ t245]) x10 x11 x12 r (r.length : Int) (wrap64 ((i : Int) + 1))) else (none)) else (none))) else (none))) (fun k => by rw [spec_RoundLines.l1, if_pos (by omega), if_pos (by omega), if_pos (by omega)]) ?_
    rw [rdP_eq r i hlt]
    refine Ev.bind (numEv hf.1) ?_
    refine Ev.congr (f := fun k => (spec_FormatInt.f k r[i].f1).bind fun t245 => (if (num r[i].f0 ++ (⟨#[45]⟩ : ByteArray)).size + t245.size ≤ 9223372036854775807 then (if acc.length < 8796093022208 then (spec_RoundLines.l1 k x3 (acc ++ [(num r[i].f0 ++ (⟨#[45]⟩ : ByteArray)) ++ t245]) x10 x11 x12 r (r.length : Int) (wrap64 ((i : Int) + 1))) else (none)) else (none))) (fun k => by rw [if_pos (by omega)]) ?_
    refine Ev.bind (numEv hf.2) ?_
    refine Ev.congr (fun k => ?_) next
    rw [if_pos (by simp only [ByteArray.size_append, one_sizeR]; omega), if_pos (by omega), wrap_succR i (by omega)]
    rfl
theorem implRound (x3 : List ByteArray) (x10 : List (List PairT)) (x11 : Int) (j : Nat) (hj : j < 1048576) (hx : x3.length ≤ 1048576) (r : List PairT) (hr : ∀ p ∈ r, FitP p) (hl : r.length ≤ 1048576) (res : List ByteArray) (ev : Ev (fun k => impl_RoundLines.l0 k (x3 ++ [roundT r]) x10 x11 ((j + 1 : Nat) : Int)) res) :
    Ev (fun k => impl_RoundLines.l1 k x3 [] x10 x11 (j : Int) r (r.length : Int) 0) res := by
  have z := joinB_size ⟨#[32]⟩ 43 (wordsT r) (wordsT_size hr)
  have zl := wordsT_len r
  rw [one_sizeR] at z
  refine implWords x3 x10 x11 j r hr hl res ?_ r.length 0 [] (by omega) rfl
  refine Ev.step (f := fun k => impl_RoundLines.l0 k (x3 ++ [roundT r]) x10 x11 ((j + 1 : Nat) : Int)) (fun k => ?_) ev
  rw [impl_RoundLines.l1, if_neg (by omega)]
  by_cases h : r = []
  · subst h
    have ej := join_eq (wordsT []) ⟨#[32]⟩ (by decide) (Nat.le_trans z (by decide))
    rw [show wordsT ([] : List PairT) = [(⟨#[98, 121, 101]⟩ : ByteArray)] from rfl] at ej
    rw [if_pos (by simp), ej, Option.bind_some, if_pos (by omega), wrap_succR j (by omega)]
    rfl
  · have hw : wordsT r = r.map lineT := by unfold wordsT; rw [if_neg h]
    rw [hw] at z zl
    rw [if_neg (by simp; exact h), join_eq _ _ (by rw [List.length_map]; omega) (by rw [List.length_map] at z; omega), Option.bind_some, if_pos (by omega), wrap_succR j (by omega)]
    unfold roundT
    rw [hw]
theorem specRound (x3 : List ByteArray) (x10 : List (List PairT)) (x11 : Int) (j : Nat) (hj : j < 1048576) (hx : x3.length ≤ 1048576) (r : List PairT) (hr : ∀ p ∈ r, FitP p) (hl : r.length ≤ 1048576) (res : List ByteArray) (ev : Ev (fun k => spec_RoundLines.l0 k (x3 ++ [roundT r]) x10 x11 ((j + 1 : Nat) : Int)) res) :
    Ev (fun k => spec_RoundLines.l1 k x3 [] x10 x11 (j : Int) r (r.length : Int) 0) res := by
  have zl := wordsT_len r
  refine specWords x3 x10 x11 j r hr hl res ?_ r.length 0 [] (by omega) rfl
  have je : Ev (fun k => spec_Join.f k (wordsT r) ⟨#[32]⟩) (roundT r) := ⟨(wordsT r).length + 1, fun k hk => specJoin ⟨#[32]⟩ 43 (wordsT r) (wordsT_size hr) (by rw [one_sizeR]; omega) (by omega) k (by omega)⟩
  by_cases h : r = []
  · subst h
    refine Ev.step (f := fun k => (spec_Join.f k (wordsT []) ⟨#[32]⟩).bind fun t252 => (if x3.length < 8796093022208 then (spec_RoundLines.l0 k (x3 ++ [t252]) x10 x11 (wrap64 ((j : Int) + 1))) else (none))) (fun k => by rw [spec_RoundLines.l1, if_neg (by omega), if_pos (by simp), if_pos (by simp)]; rfl) ?_
    exact Ev.bind je (Ev.congr (fun k => by rw [if_pos (by omega), wrap_succR j (by omega)]) ev)
  · have hw : wordsT r = r.map lineT := by unfold wordsT; rw [if_neg h]
    refine Ev.step (f := fun k => (spec_Join.f k (wordsT r) ⟨#[32]⟩).bind fun t252 => (if x3.length < 8796093022208 then (spec_RoundLines.l0 k (x3 ++ [t252]) x10 x11 (wrap64 ((j : Int) + 1))) else (none))) (fun k => by rw [spec_RoundLines.l1, if_neg (by omega), if_neg (by simp; exact h), hw]) ?_
    exact Ev.bind je (Ev.congr (fun k => by rw [if_pos (by omega), wrap_succR j (by omega)]) ev)
theorem implRounds (rs : List (List PairT)) (hl : rs.length ≤ 1048576) (hr : ∀ r ∈ rs, r.length ≤ 1048576 ∧ ∀ p ∈ r, FitP p) : Ev (fun k => impl_RoundLines.f k rs) (rs.map roundT) := by
  have key : ∀ (d j : Nat) (acc : List ByteArray), j + d = rs.length → acc = (rs.take j).map roundT → Ev (fun k => impl_RoundLines.l0 k acc rs (rs.length : Int) (j : Int)) (rs.map roundT) := by
    intro d
    induction d with
    | zero =>
      intro j acc hj ha
      obtain rfl : j = rs.length := by omega
      refine Ev.step (f := fun _ => some acc) (fun k => by rw [impl_RoundLines.l0, if_neg (by omega)]) ?_
      rw [ha, List.take_length]
      exact Ev.now _
    | succ d ih =>
      intro j acc hj ha
      have hlt : j < rs.length := by omega
      obtain ⟨h1, h2⟩ := hr rs[j] (List.getElem_mem hlt)
      have hal : acc.length ≤ 1048576 := by rw [ha, List.length_map, List.length_take]; omega
      refine Ev.step (f := fun k => impl_RoundLines.l1 k acc [] rs (rs.length : Int) (j : Int) rs[j] (rs[j].length : Int) 0) (fun k => by rw [impl_RoundLines.l0, if_pos (by omega), if_pos (by omega), if_pos (by omega), rdPP_eq rs j hlt]) ?_
      exact implRound acc rs rs.length j (by omega) hal rs[j] h2 h1 _ (ih (j + 1) _ (by omega) (by rw [ha, List.take_succ_eq_append_getElem hlt, List.map_append]; rfl))
  exact key rs.length 0 [] (by omega) rfl
theorem specRounds (rs : List (List PairT)) (hl : rs.length ≤ 1048576) (hr : ∀ r ∈ rs, r.length ≤ 1048576 ∧ ∀ p ∈ r, FitP p) : Ev (fun k => spec_RoundLines.f k rs) (rs.map roundT) := by
  have key : ∀ (d j : Nat) (acc : List ByteArray), j + d = rs.length → acc = (rs.take j).map roundT → Ev (fun k => spec_RoundLines.l0 k acc rs (rs.length : Int) (j : Int)) (rs.map roundT) := by
    intro d
    induction d with
    | zero =>
      intro j acc hj ha
      obtain rfl : j = rs.length := by omega
      refine Ev.step (f := fun _ => some acc) (fun k => by rw [spec_RoundLines.l0, if_neg (by omega)]) ?_
      rw [ha, List.take_length]
      exact Ev.now _
    | succ d ih =>
      intro j acc hj ha
      have hlt : j < rs.length := by omega
      obtain ⟨h1, h2⟩ := hr rs[j] (List.getElem_mem hlt)
      have hal : acc.length ≤ 1048576 := by rw [ha, List.length_map, List.length_take]; omega
      refine Ev.step (f := fun k => spec_RoundLines.l1 k acc [] rs (rs.length : Int) (j : Int) rs[j] (rs[j].length : Int) 0) (fun k => by rw [spec_RoundLines.l0, if_pos (by omega), if_pos (by omega), if_pos (by omega), rdPP_eq rs j hlt]) ?_
      exact specRound acc rs rs.length j (by omega) hal rs[j] h2 h1 _ (ih (j + 1) _ (by omega) (by rw [ha, List.take_succ_eq_append_getElem hlt, List.map_append]; rfl))
  exact key rs.length 0 [] (by omega) rfl
end Go.Proofs.YtibmeomlokigjaaDoor.R
namespace Go.Proofs.YtibmeomlokigjaaDoor.R
open Go.RowKit Go.Proofs.YtibmeomlokigjaaDoorW.PrintWords Go.Proofs.YtibmeomlokigjaaDoorW.PrintLast Go.Proofs.YtibmeomlokigjaaDoorW.PrintMore
abbrev PairA := S109
def convP (x : PairA) : PairT := ⟨x.f0, x.f1⟩
theorem rdA_eq (l : List PairA) (i : Nat) (h : i < l.length) : rd_T109 l (i : Int) = l[i] := by
  unfold rd_T109; simp [h]
theorem rdAA_eq (l : List (List PairA)) (i : Nat) (h : i < l.length) : rd_L4 l (i : Int) = l[i] := by
  unfold rd_L4; simp [h]
theorem set_next {α β : Type} (f : α → β) (z : β) (l : List α) (i : Nat) (h : i < l.length) (y : β) (hy : y = f l[i]) : ((l.take i).map f ++ List.replicate (l.length - i) z).set i y = (l.take (i + 1)).map f ++ List.replicate (l.length - (i + 1)) z := by
  rw [List.set_append, if_neg (by rw [List.length_map, List.length_take]; omega), List.take_succ_eq_append_getElem h, show l.length - i = (l.length - (i + 1)) + 1 by omega, List.replicate_succ, List.length_map, List.length_take, Nat.min_eq_left (by omega), Nat.sub_self, List.set_cons_zero, List.map_append, List.append_assoc, hy]
  rfl
theorem toPairS_ev (l : List PairA) (hl : l.length ≤ 1048576) : Ev (fun k => laws_toPairS.f k l) (l.map convP) := by
  have key : ∀ (d i : Nat), i + d = l.length → Ev (fun k => laws_toPairS.l0 k l ((l.take i).map convP ++ List.replicate (l.length - i) z94) (i : Int)) (l.map convP) := by
    intro d
    induction d with
    | zero =>
      intro i hi
      obtain rfl : i = l.length := by omega
      refine Ev.step (f := fun _ => some (l.map convP)) (fun k => by rw [laws_toPairS.l0, if_neg (by omega), List.take_length, Nat.sub_self]; simp) (Ev.now _)
    | succ d ih =>
      intro i hi
      have hlt : i < l.length := by omega
      refine Ev.step (fun k => ?_) (ih (i + 1) (by omega))
      rw [laws_toPairS.l0, if_pos (by omega), if_pos (by omega), rdA_eq l i hlt, laws_toPair.f, Option.bind_some, if_pos (by simp; omega), wrap_succR i (by omega), Int.toNat_natCast, set_next convP z94 l i hlt ⟨l[i].f0, l[i].f1⟩ rfl]
  refine Ev.congr (fun k => ?_) (key l.length 0 (by omega))
  unfold laws_toPairS.f
  rw [if_pos (by omega), if_pos (by omega)]
  rfl
theorem toPairSS_ev (l : List (List PairA)) (hl : l.length ≤ 1048576) (hr : ∀ r ∈ l, r.length ≤ 1048576) : Ev (fun k => laws_toPairSS.f k l) (l.map (List.map convP)) := by
  have key : ∀ (d i : Nat), i + d = l.length → Ev (fun k => laws_toPairSS.l0 k l ((l.take i).map (List.map convP) ++ List.replicate (l.length - i) []) (i : Int)) (l.map (List.map convP)) := by
    intro d
    induction d with
    | zero =>
      intro i hi
      obtain rfl : i = l.length := by omega
      refine Ev.step (f := fun _ => some (l.map (List.map convP))) (fun k => by rw [laws_toPairSS.l0, if_neg (by omega), List.take_length, Nat.sub_self]; simp) (Ev.now _)
    | succ d ih =>
      intro i hi
      have hlt : i < l.length := by omega
      refine Ev.step (f := fun k => (laws_toPairS.f k l[i]).bind fun t => laws_toPairSS.l0 k l (((l.take i).map (List.map convP) ++ List.replicate (l.length - i) []).set i t) ((i + 1 : Nat) : Int)) (fun k => ?_) ?_
      · have hlen : (i : Int) < (((l.take i).map (List.map convP) ++ List.replicate (l.length - i) ([] : List PairT)).length : Int) := by simp; omega
        rw [laws_toPairSS.l0, if_pos (by omega), if_pos (by omega), rdAA_eq l i hlt]
        simp only [if_pos hlen, wrap_succR i (show i < 4611686018427387904 by omega), Int.toNat_natCast]
      · refine Ev.bind (toPairS_ev l[i] (hr _ (List.getElem_mem hlt))) ?_
        rw [set_next (List.map convP) [] l i hlt _ rfl]
        exact ih (i + 1) (by omega)
  refine Ev.congr (fun k => ?_) (key l.length 0 (by omega))
  unfold laws_toPairSS.f
  rw [if_pos (by omega), if_pos (by omega)]
  rfl
theorem eqString_ev (l : List ByteArray) (hl : l.length ≤ 1048576) : Ev (fun k => laws_eqStringS.f k l l) true := by
  have key : ∀ (d i : Nat), i + d = l.length → Ev (fun k => laws_eqStringS.l0 k l l (i : Int)) true := by
    intro d
    induction d with
    | zero => intro i hi; exact Ev.step (f := fun _ => some true) (fun k => by rw [laws_eqStringS.l0, if_neg (by omega)]) (Ev.now _)
    | succ d ih =>
      intro i hi
      exact Ev.step (fun k => by rw [laws_eqStringS.l0, if_pos (by omega), if_pos (by omega), if_pos (by omega), if_pos rfl, wrap_succR i (by omega)]) (ih (i + 1) (by omega))
  exact Ev.congr (fun k => by unfold laws_eqStringS.f; rw [if_pos rfl]; rfl) (key l.length 0 (by omega))
theorem eqPairS_ev (l : List PairT) (hl : l.length ≤ 1048576) : Ev (fun k => laws_eqPairS.f k l l) true := by
  have key : ∀ (d i : Nat), i + d = l.length → Ev (fun k => laws_eqPairS.l0 k l l (i : Int)) true := by
    intro d
    induction d with
    | zero => intro i hi; exact Ev.step (f := fun _ => some true) (fun k => by rw [laws_eqPairS.l0, if_neg (by omega)]) (Ev.now _)
    | succ d ih =>
      intro i hi
      exact Ev.step (fun k => by rw [laws_eqPairS.l0, if_pos (by omega), if_pos (by omega), if_pos (by omega), laws_eqPair.f, if_pos rfl, if_pos rfl, Option.bind_some, if_pos rfl, wrap_succR i (by omega)]) (ih (i + 1) (by omega))
  exact Ev.congr (fun k => by unfold laws_eqPairS.f; rw [if_pos rfl]; rfl) (key l.length 0 (by omega))
theorem eqPairSS_ev (l : List (List PairT)) (hl : l.length ≤ 1048576) (hr : ∀ r ∈ l, r.length ≤ 1048576) : Ev (fun k => laws_eqPairSS.f k l l) true := by
  have key : ∀ (d i : Nat), i + d = l.length → Ev (fun k => laws_eqPairSS.l0 k l l (i : Int)) true := by
    intro d
    induction d with
    | zero => intro i hi; exact Ev.step (f := fun _ => some true) (fun k => by rw [laws_eqPairSS.l0, if_neg (by omega)]) (Ev.now _)
    | succ d ih =>
      intro i hi
      have hlt : i < l.length := by omega
      refine Ev.step (f := fun k => (laws_eqPairS.f k l[i] l[i]).bind fun t317 => (if t317 = true then (laws_eqPairSS.l0 k l l ((i + 1 : Nat) : Int)) else (some false))) (fun k => by rw [laws_eqPairSS.l0, if_pos (by omega), if_pos (by omega), if_pos (by omega), rdPP_eq l i hlt, wrap_succR i (by omega)]) ?_
      exact Ev.bind (eqPairS_ev l[i] (hr _ (List.getElem_mem hlt))) (Ev.congr (fun k => by rw [if_pos rfl]) (ih (i + 1) (by omega)))
  exact Ev.congr (fun k => by unfold laws_eqPairSS.f; rw [if_pos rfl]; rfl) (key l.length 0 (by omega))
theorem markPairS_ev (n : Nat) (hn : n ≤ 1048576) (a : Int) (h0 : 0 ≤ a) (ha : a ≤ 1000000000000000) : ∀ (l : List PairT), l.length = n → ∃ l2, Ev (fun k => laws_markPairS.f k l a) (a + 2 * n, l2) := by
  have key : ∀ (d i : Nat) (l : List PairT) (b : Int), i + d = n → l.length = n → b = a + 2 * i → ∃ l2, Ev (fun k => laws_markPairS.l0 k l b (i : Int)) (a + 2 * n, l2) := by
    intro d
    induction d with
    | zero =>
      intro i l b hi hl hb
      refine ⟨l, Ev.step (f := fun _ => some (b, l)) (fun k => by rw [laws_markPairS.l0, if_neg (by omega)]) ?_⟩
      rw [show b = a + 2 * (n : Int) by omega]
      exact Ev.now _
    | succ d ih =>
      intro i l b hi hl hb
      obtain ⟨l2, e⟩ := ih (i + 1) ((l.set i ⟨b, (rd_T94 l (i : Int)).f1⟩).set i ⟨(rd_T94 (l.set i ⟨b, (rd_T94 l (i : Int)).f1⟩) (i : Int)).f0, b + 1⟩) (b + 1 + 1) (by omega) (by simp [hl]) (by omega)
      refine ⟨l2, Ev.step (fun k => ?_) e⟩
      rw [laws_markPairS.l0, if_pos (by omega), if_pos (by omega), Option.bind_some, wrap_id (b + 1) (by omega) (by omega), wrap_id (b + 1 + 1) (by omega) (by omega), wrap_succR i (by omega), Int.toNat_natCast]
  intro l hl
  obtain ⟨l2, e⟩ := key n 0 l a (by omega) hl (by simp)
  exact ⟨l2, e⟩
theorem markPairSS_ev (l : List (List PairT)) (hr : ∀ r ∈ l, r.length ≤ 1048576) : ∀ (a : Int), 0 ≤ a → a + 2097152 * l.length ≤ 1000000000000000 → ∃ b, 0 ≤ b ∧ Ev (fun k => laws_markPairSS.f k l a) b := by
  induction l with
  | nil => intro a h0 _; exact ⟨a, h0, Ev.now a⟩
  | cons x l ih =>
    intro a h0 ha
    have hx := hr x List.mem_cons_self
    simp only [List.length_cons] at ha
    obtain ⟨l2, e⟩ := markPairS_ev x.length hx a h0 (by omega) x rfl
    obtain ⟨b, hb, e2⟩ := ih (fun r h => hr r (List.mem_cons_of_mem _ h)) (a + 2 * x.length) (by omega) (by omega)
    exact ⟨b, hb, Ev.bind e e2⟩
theorem markText_l0 (m : Nat) : ∀ (x : Int) (s : List UInt8), 0 ≤ x → x.toNat < 10 ^ m → x ≤ 9223372036854775807 → s.length + m ≤ 1000 → ∃ t, ∀ k, laws_markText.l0 (k + m + 1) x (mk s) = some t := by
  induction m with
  | zero =>
    intro x s h0 h1 h2 hs
    have hx : x = 0 := by simp at h1; omega
    subst hx
    exact ⟨_, fun k => by rw [show k + 0 + 1 = k + 1 by omega, laws_markText.l0, if_neg (by decide), mk_size, if_pos (by omega)]⟩
  | succ m ih =>
    intro x s h0 h1 h2 hs
    by_cases hx : x > 0
    · have h10 : Int.tdiv x 10 = x / 10 := Int.tdiv_eq_ediv_of_nonneg h0
      have hlt : (x / 10).toNat < 10 ^ m := by
        have : x.toNat < 10 * 10 ^ m := by rw [Nat.pow_succ] at h1; omega
        omega
      obtain ⟨t, ht⟩ := ih (x / 10) ((([(wrap64 (48 + (Int.tmod x 10))) % 256] : List Int).map fun n => UInt8.ofNat n.toNat) ++ s) (by omega) hlt (by omega) (by simp; omega)
      refine ⟨t, fun k => ?_⟩
      rw [show k + (m + 1) + 1 = (k + m + 1) + 1 by omega, laws_markText.l0, if_pos hx, Option.bind_some, strOfNums_mk, mk_size, mk_size, if_pos (by simp; omega), mk_append, h10, wrap_id (x / 10) (by omega) (by omega)]
      exact ht k
    · have hx0 : x = 0 := by omega
      subst hx0
      exact ⟨_, fun k => by rw [show k + (m + 1) + 1 = (k + m + 1) + 1 by omega, laws_markText.l0, if_neg (by decide), mk_size, if_pos (by omega)]⟩
theorem markText_ex (x : Int) : ∃ t, 0 < x → x ≤ 1000000000 → Ev (fun k => laws_markText.f k x) t := by
  by_cases h : 0 < x ∧ x ≤ 1000000000
  · obtain ⟨t, ht⟩ := markText_l0 10 x [] (by omega) (by omega) (by omega) (by simp)
    refine ⟨t, fun _ _ => ⟨11, fun k hk => ?_⟩⟩
    have := ht (k - 11)
    rw [show k - 11 + 10 + 1 = k by omega] at this
    show laws_markText.f k x = some t
    unfold laws_markText.f
    rw [if_neg (by omega)]
    exact this
  · exact ⟨mk [], fun h1 h2 => absurd ⟨h1, h2⟩ h⟩
noncomputable def markT (x : Int) : ByteArray := (markText_ex x).choose
theorem markT_ev {x : Int} (h0 : 0 < x) (h1 : x ≤ 1000000000) : Ev (fun k => laws_markText.f k x) (markT x) := (markText_ex x).choose_spec h0 h1
noncomputable def marksT (n : Nat) : List ByteArray := (List.range n).map fun (j : Nat) => markT ((j + 1 : Nat) : Int)
theorem marksT_succ (n : Nat) : marksT (n + 1) = marksT n ++ [markT ((n + 1 : Nat) : Int)] := by simp [marksT, List.range_succ]
theorem marksT_len (n : Nat) : (marksT n).length = n := by simp [marksT]
theorem markString_ev (l : List ByteArray) (hl : l.length ≤ 1048576) : Ev (fun k => laws_markStringS.f k l 1) ((l.length : Int) + 1, marksT l.length) := by
  have key : ∀ (d i : Nat), i + d = l.length → Ev (fun k => laws_markStringS.l0 k (marksT i ++ l.drop i) ((i + 1 : Nat) : Int) (i : Int)) ((l.length : Int) + 1, marksT l.length) := by
    intro d
    induction d with
    | zero =>
      intro i hi
      obtain rfl : i = l.length := by omega
      refine Ev.step (f := fun _ => some ((l.length : Int) + 1, marksT l.length)) (fun k => by rw [laws_markStringS.l0, if_neg (by rw [List.length_append, marksT_len, List.drop_length]; simp), List.drop_length, List.append_nil]; rfl) (Ev.now _)
    | succ d ih =>
      intro i hi
      have hlt : i < l.length := by omega
      refine Ev.step (f := fun k => (laws_markText.f k ((i + 1 : Nat) : Int)).bind fun t => laws_markStringS.l0 k ((marksT i ++ l.drop i).set i t) ((i + 1 + 1 : Nat) : Int) ((i + 1 : Nat) : Int)) (fun k => ?_) ?_
      · have h0 : (0 : Int) ≤ (i : Int) := by omega
        rw [laws_markStringS.l0, if_pos (by rw [List.length_append, marksT_len, List.length_drop]; omega)]
        simp only [if_pos h0, Int.toNat_natCast, wrap_succR i (show i < 4611686018427387904 by omega), wrap_succR (i + 1) (show i + 1 < 4611686018427387904 by omega)]
      · refine Ev.bind (markT_ev (by omega) (by omega)) ?_
        have e : (marksT i ++ l.drop i).set i (markT ((i + 1 : Nat) : Int)) = marksT (i + 1) ++ l.drop (i + 1) := by
          rw [List.set_append, if_neg (by rw [marksT_len]; omega), marksT_len, Nat.sub_self, List.drop_eq_getElem_cons hlt, List.set_cons_zero, marksT_succ, List.append_assoc]
          rfl
        rw [e]
        exact ih (i + 1) (by omega)
  exact key l.length 0 (by omega)
theorem heldString_ev (n : Nat) (hl : n ≤ 1048576) : Ev (fun k => laws_heldStringS.f k (marksT n) 1) ((n : Int) + 1) := by
  have key : ∀ (d i : Nat), i + d = n → Ev (fun k => laws_heldStringS.l0 k (marksT n) ((i + 1 : Nat) : Int) (i : Int)) ((n : Int) + 1) := by
    intro d
    induction d with
    | zero =>
      intro i hi
      obtain rfl : i = n := by omega
      exact Ev.step (f := fun _ => some ((i : Int) + 1)) (fun k => by rw [laws_heldStringS.l0, if_neg (by rw [marksT_len]; omega)]; rfl) (Ev.now _)
    | succ d ih =>
      intro i hi
      have hlt : i < n := by omega
      have hg : rdOf ByteArray.empty (marksT n) (i : Int) = markT ((i + 1 : Nat) : Int) := by
        rw [rdB_eq _ _ (by rw [marksT_len]; omega)]
        simp [marksT]
      refine Ev.step (f := fun k => (laws_markText.f k ((i + 1 : Nat) : Int)).bind fun t => if (markT ((i + 1 : Nat) : Int)).toList = t.toList then laws_heldStringS.l0 k (marksT n) ((i + 1 + 1 : Nat) : Int) ((i + 1 : Nat) : Int) else some (-1)) (fun k => ?_) ?_
      · rw [laws_heldStringS.l0, if_pos (by rw [marksT_len]; omega), if_pos (by omega), hg, wrap_succR i (by omega), wrap_succR (i + 1) (by omega)]
      · exact Ev.bind (markT_ev (by omega) (by omega)) (Ev.congr (fun k => by rw [if_pos rfl]) (ih (i + 1) (by omega)))
  exact key n 0 (by omega)
theorem szPairS_eq (r : List PairA) (x : Int) (h0 : 0 ≤ x) (h1 : x ≤ 1048576) (hr : r.length ≤ 9223372036854775807) : laws_szPairS.f r x = some (if x - r.length < 0 then -1 else x - r.length) := by
  unfold laws_szPairS.f
  rw [wrap_id _ (by omega) (by omega)]
  split <;> rfl
theorem sz_ev (l : List (List PairA)) (hl : l.length ≤ 9223372036854775807) (hr : ∀ r ∈ l, r.length ≤ 9223372036854775807) : ∃ t, Ev (fun k => laws_szPairSS.f k l 1048576) t ∧ (t < 0 ∨ 0 ≤ t ∧ l.length ≤ 1048576 ∧ ∀ r ∈ l, r.length ≤ 1048576) := by
  have key : l.length ≤ 1048576 → ∀ (d i : Nat) (x : Int), i + d = l.length → 0 ≤ x → x ≤ 1048576 → ∃ t, Ev (fun k => laws_szPairSS.l0 k l x (i : Int)) t ∧ (t < 0 ∨ 0 ≤ t ∧ ∀ r ∈ l.drop i, r.length ≤ 1048576) := by
    intro hl2 d
    induction d with
    | zero =>
      intro i x hi h0 h1
      refine ⟨x, Ev.step (f := fun _ => some x) (fun k => by rw [laws_szPairSS.l0, if_neg (by omega)]) (Ev.now _), .inr ⟨h0, ?_⟩⟩
      rw [List.drop_eq_nil_of_le (by omega)]
      intro r hr; cases hr
    | succ d ih =>
      intro i x hi h0 h1
      have hlt : i < l.length := by omega
      have hs := szPairS_eq l[i] x h0 h1 (hr _ (List.getElem_mem hlt))
      by_cases h : x - (l[i].length : Int) < 0
      · rw [if_pos h] at hs
        exact ⟨-1, Ev.step (f := fun _ => some (-1)) (fun k => by rw [laws_szPairSS.l0, if_pos (by omega), if_pos (by omega), rdAA_eq l i hlt, hs, Option.bind_some, if_pos (by decide)]) (Ev.now _), .inl (by decide)⟩
      · rw [if_neg h] at hs
        obtain ⟨t, e, ht⟩ := ih (i + 1) (x - l[i].length) (by omega) (by omega) (by omega)
        refine ⟨t, Ev.step (fun k => by rw [laws_szPairSS.l0, if_pos (by omega), if_pos (by omega), rdAA_eq l i hlt, hs, Option.bind_some, if_neg h, wrap_succR i (by omega)]) e, ?_⟩
        rcases ht with ht | ⟨ht, hd⟩
        · exact .inl ht
        · refine .inr ⟨ht, ?_⟩
          rw [List.drop_eq_getElem_cons hlt]
          intro r hr
          rcases List.mem_cons.mp hr with rfl | hr
          · omega
          · exact hd r hr
  by_cases h : (1048576 : Int) - l.length < 0
  · exact ⟨-1, Ev.congr (f := fun _ => some (-1)) (fun k => by unfold laws_szPairSS.f; rw [wrap_id _ (by omega) (by omega), if_pos h]) (Ev.now _), .inl (by decide)⟩
  · obtain ⟨t, e, ht⟩ := key (by omega) l.length 0 (1048576 - l.length) (by omega) (by omega) (by omega)
    refine ⟨t, Ev.congr (fun k => by unfold laws_szPairSS.f; rw [wrap_id _ (by omega) (by omega), if_neg h]; rfl) e, ?_⟩
    rcases ht with ht | ⟨ht, hd⟩
    · exact .inl ht
    · exact .inr ⟨ht, by omega, by rw [List.drop_zero] at hd; exact hd⟩
theorem fits_of_wf {n : Int} (h : (Lit.int .i64 n).wf = true) : Fits n := by
  simp only [Lit.wf, Bool.and_eq_true, decide_eq_true_eq] at h
  exact h
end Go.Proofs.YtibmeomlokigjaaDoor.R
namespace Go.Proofs.YtibmeomlokigjaaDoor.Pure
open Go.RowKit Go.Proofs.YtibmeomlokigjaaDoor.R Go.Proofs.YtibmeomlokigjaaDoorW.PrintWords Go.Proofs.YtibmeomlokigjaaDoorW.PrintLast
theorem FnExactRoundLines (l0 : List (List S109)) (ok : l0.length ≤ maxLen ∧ ∀ x ∈ l0, x.length ≤ maxLen ∧ ∀ y ∈ x, (Lit.int .i64 y.f0).wf = true ∧ (Lit.int .i64 y.f1).wf = true) : ∃ k, laws_FnExactRoundLines.f k l0 = some true := by
  refine Ev.rounds ?_
  obtain ⟨t, et, ht⟩ := sz_ev l0 ok.1 (fun r hr => (ok.2 r hr).1)
  rcases ht with ht | ⟨ht, hl, hr⟩
  · exact Ev.bind et (Ev.congr (f := fun _ => some true) (fun k => by rw [if_pos ht]) (Ev.now true))
  · have hA := toPairSS_ev l0 hl hr
    have hrs : ∀ r ∈ l0.map (List.map convP), r.length ≤ 1048576 ∧ ∀ p ∈ r, FitP p := by
      intro r h
      obtain ⟨x, hx, rfl⟩ := List.mem_map.mp h
      refine ⟨by rw [List.length_map]; exact hr x hx, fun p hp => ?_⟩
      obtain ⟨y, hy, rfl⟩ := List.mem_map.mp hp
      have := (ok.2 x hx).2 y hy
      exact ⟨fits_of_wf this.1, fits_of_wf this.2⟩
    have hlm : (l0.map (List.map convP)).length ≤ 1048576 := by rw [List.length_map]; exact hl
    have eI := implRounds _ hlm hrs
    have eS := specRounds _ hlm hrs
    have hL : ((l0.map (List.map convP)).map roundT).length ≤ 1048576 := by rw [List.length_map]; exact hlm
    have eE := eqString_ev _ hL
    have eP := eqPairSS_ev _ hlm (fun r h => (hrs r h).1)
    obtain ⟨b, hb, eM⟩ := markPairSS_ev _ (fun r h => (hrs r h).1) 1 (by decide) (by omega)
    have eK := markString_ev _ hL
    have eH := heldString_ev ((l0.map (List.map convP)).map roundT).length hL
    have ej : Ev (fun k => laws_FnExactRoundLines.j0 k l0 ((l0.map (List.map convP)).map roundT) ((l0.map (List.map convP)).map roundT) false) true := by
      refine Ev.step (fun k => by rw [laws_FnExactRoundLines.j0, if_neg (by simp)]) ?_
      refine Ev.bind eK (Ev.bind eH ?_)
      refine Ev.congr (fun k => by rw [if_neg (by omega), if_pos rfl]) ?_
      refine Ev.bind hA (Ev.bind eI (Ev.bind eE ?_))
      refine Ev.congr (fun k => by rw [if_pos rfl]) ?_
      exact Ev.bind eH (Ev.congr (f := fun _ => some true) (fun k => by rw [if_neg (by omega), if_pos rfl]) (Ev.now true))
    refine Ev.bind et (Ev.congr (fun k => by rw [if_neg (by omega)]) ?_)
    refine Ev.bind hA (Ev.bind eS (Ev.bind hA (Ev.bind eI (Ev.bind eE ?_))))
    refine Ev.congr (fun k => by rw [if_pos rfl]) ?_
    refine Ev.bind hA (Ev.bind eP ?_)
    refine Ev.congr (fun k => by rw [if_pos rfl]) ?_
    refine Ev.bind eM ?_
    refine Ev.congr (fun k => by rw [if_neg (by omega)]) ?_
    exact Ev.bind eE ej
end Go.Proofs.YtibmeomlokigjaaDoor.Pure
namespace Go.Proofs.YtibmeomlokigjaaDoor.fnExactRoundLines
open Go.ChangeShapes Go.WideShapes Go.ChangeAt Go.RowKit
open Go.ChangeMaps (open_string shut_string)
set_option linter.unusedVariables false
theorem own : ownKnob Tryd.prog.godebug = none := by kernel_rfl
theorem laidOut : laidOutB Tryd.prog = true := by kernel_rfl
set_option maxRecDepth 100000 in
set_option maxHeartbeats 4000000 in
theorem lifted (os : Os) (started : os.Started) (H : Type) (enc : TypeId × Value → H) :
    ReturnsInHanded {} Tryd.checked os 7 .any (fun w args => (Rows.fnExactRoundLinesSpec.pre enc Tryd.prog Tryd.f7 [] false w args ∧ laidMetH Tryd.prog Laid.laid3 w) ∧ sizedMet enc Tryd.prog Tryd.f7 (OpenSpec.ofChange Rows.fnExactRoundLinesSpec) false w args)
      (Rows.fnExactRoundLinesSpec.post enc Tryd.prog Tryd.f7 false true false false) := by
  refine returnsInHanded_of_change_and (C := Tryd.checked) (X := fun w _ => laidMetH Tryd.prog Laid.laid3 w) (fun _ _ _ hh h => h.of_heap hh) own started (by kernel_rfl) Tryd.func7
    (ChangeSpec.witness_shaped (enc := enc) (C := Tryd.checked) (os := os) (X := fun w _ => laidMetH Tryd.prog Laid.laid3 w) false (World.doorLaid Tryd.prog 400 os) #[.slice none 0 0] 8 rfl (Laid.door_shaped os _) (by kernel_rfl) (by kernel_rfl) (by kernel_rfl) (Laid.door_met os _)) ?_
  intro W base args ds gs before hval0 hW hcnd hsz0 hL _
  have hval : ∀ (j : Nat) t v, Tryd.f7.params[j]? = some t → args[j]? = some v → Value.okWide Tryd.prog W .any base t v := hval0
  have hW' := hW
  obtain ⟨p, q, hA0, hV, rfl, hfz, hnd⟩ := hW
  have hA : DataW.TrodAll enc Tryd.prog W 0 (fun _ => true) true Tryd.f7.params.toList args.toList ds p := hA0
  rw [Tryd.params7] at hA hval
  obtain ⟨v0, vs0, d0, ds0, p0, q0, hargs0, rfl, rfl, h0, r0⟩ := trodAll_cons hA
  obtain ⟨rfl, rfl, rfl⟩ := trodAll_nil r0
  obtain rfl : args = #[v0] := by cases args; simp_all
  obtain ⟨rfl, rfl⟩ := trodVars_none hV
  have k0 := h0; have lt0 : ∀ x ∈ p0, x.block < W.heap.size := by obtain ⟨m, hm⟩ := k0; exact DataW.trod_lt m _ _ _ hm
  obtain ⟨A0, c0, l0, rfl, hl0, hC0, ok0⟩ := Opens.trod_slice_val Tryd.underlying51 (hval 0 51 v0 rfl rfl) h0 (Opens.slice Tryd.underlying51 (Opens.slice Tryd.underlying91 (Opens.iso (f := fun x : R.S109 => (x.f0, x.f1)) (fun x => ⟨x.1, x.2⟩) (fun _ => rfl) (Opens.struct Tryd.underlying109 (by kernel_rfl) (Opens.cons 0 1 rfl (Opens.int Tryd.underlying3) (by kernel_rfl) rfl (Opens.one 1 rfl (Opens.int Tryd.underlying3) (by kernel_rfl))))) (by kernel_rfl) 109) (by kernel_rfl) 91)
  clear hA0 hval0 hsz0
  obtain ⟨k, hk⟩ := Pure.FnExactRoundLines l0 ok0
  refine (R.laws_FnExactRoundLines.calls k  A0 c0 l0 _ W hC0 hl0 hk (Laid.tab hL)).mono fun e W' ⟨he, bel⟩ => ?_
  subst he
  exact ⟨_, rfl, _, _, _, [], _, [], hW', trodAll_mk1 (shut_bool Tryd.underlying4 _), (trodAll_cons_mk (Below.trod laidOut (by kernel_rfl) (of_decide_eq_true (by kernel_rfl)) k0 bel lt0) trodAll_mk0), rfl, bel.frame _, fun h => by cases h⟩
theorem over : Rows.fnExactRoundLinesRow.holds Tryd.pinned (OpenSpec.ofChange Rows.fnExactRoundLinesSpec) :=
  OpenClaim.holds_of_wide 7 Tryd.f7 rfl rfl rfl rfl rfl rfl rfl ⟨rfl, rfl, rfl, rfl, rfl⟩ rfl rfl rfl rfl rfl (by kernel_rfl) Tryd.func7 (by kernel_rfl)
    (of_decide_eq_true (by kernel_rfl)) (by unfold Func.isWrapper; first | (rw [if_pos (by decide +kernel)]; kernel_rfl) | (rw [if_neg (by decide +kernel)]; exact ⟨rfl, rfl⟩))
    (fun os started H enc _ => lifted os started H enc)
theorem provedCard : Rows.FnExactRoundLinesCardSaid :=
  Claim7.holds_tied_plain_at .later [] [.data, .data, .data] true (true, "a6e8e4b77242bb99ec034f5991610b756a84533526b99ec4e7efdd8f2b96172f") false
    over (fun _ h => by cases h) (by kernel_rfl) (fun _ h => by cases h) fnExactRoundLines_row_tie rfl ⟨rfl, rfl⟩ (by kernel_rfl) rfl
    (fun f fn hf hfn => by
      obtain rfl : f = 7 := (Option.some.inj ((show Tryd.prog.funcNamed "loop.example/g00834/laws.FnExactRoundLines" = some 7 by kernel_rfl).symm.trans hf)).symm
      obtain rfl : fn = Tryd.f7 := (Option.some.inj (Tryd.func7.symm.trans hfn)).symm
      refine ⟨by kernel_rfl, fun j t ht => ?_⟩
      have hm : t ∈ Tryd.f7.params.toList := List.mem_of_getElem? (i := j) (by rw [Array.getElem?_toList]; exact ht)
      have hall := List.all_eq_true.mp (show (Tryd.f7.params.toList.all fun t => !Tryd.prog.wantsStandIn t) = true by kernel_rfl) t hm
      exact Bool.not_eq_true' _ |>.mp hall)
    (by kernel_rfl)
end Go.Proofs.YtibmeomlokigjaaDoor.fnExactRoundLines
namespace Go.Proofs.YtibmeomlokigjaaDoor
theorem fnExactRoundLines_holds : Rows.FnExactRoundLinesCardSaid := fnExactRoundLines.provedCard
end Go.Proofs.YtibmeomlokigjaaDoor
