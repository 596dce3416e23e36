/- A part of the proof of FnExactFormatRules: functions of the program, as plain functions, with the proof that the machine's call does what they say; plain lemmas; and those of the words that print.sh prints which this proof uses. No condition. -/
import Derived.Test.YtibmeomlokigjaaDoorKFnExactFormatRules1
import Derived.Test.YtibmeomlokigjaaDoorProg
import Derived.Below
import Derived.Deep.Draws
import Derived.Deep.AppendLies
import Derived.Maps.AppendAt
import Derived.OwnWalk
import Derived.Laws.BytesArg
import Derived.Laws.MakeOwn
import Derived.Laws.OwnMore
import Derived.Deep.OwnRows
import Derived.Tactics
import Derived.Lib.ConvBytes
import Derived.Laws.Slices
import Derived.WalkKit
import Derived.KernelRfl
import Derived.RowKit3
import Derived.Deep.LoopGhost
import Derived.Deep.QuietTactic
import Derived.BigQuiet
import Derived.WideLaws
import Derived.Deep.DeepCutAuto
import Derived.Deep.CutBlock
import Derived.Deep.RegionHeld3
import Derived.Laws.Rows
import Derived.Lib.AppendStr
import Derived.ArgAppend
import Derived.Laws.IdiomCopy
import Derived.OrdersHeld
import Derived.Laws.BitsLemmas
import Derived.RowKit
import Derived.WalkSpells
import Derived.Shelf.Strings.Builder1
import Derived.Shelf.Strings.Builder2
import Derived.Shelf.Strings.OnBuilder
import Derived.Shelf.Strconv.Itoa0
import Derived.Shelf.Strconv.Itoa1
import Derived.Shelf.LaysM
import Derived.Shelf.Strconv.Itoa2
import Derived.Shelf.Strconv.Itoa3
import Derived.Laws.StructEq
import Derived.Test.YtibmeomlokigjaaDoorRows
import Derived.ProofKit
import Derived.OpenShut
import Derived.ShutString
import Derived.ChangeOld
import Derived.SizedLaws
import Derived.LaidMore
import Derived.LaidHandle
import Derived.Stop.Joined
import Derived.Test.YtibmeomlokigjaaDoorCards
import Derived.Test.YtibmeomlokigjaaDoorTie
import Derived.SevenTiedAt
namespace Go.Proofs.YtibmeomlokigjaaDoor.Q
open Go.RowKit Go.Proofs.YtibmeomlokigjaaDoorW.PrintWords Go.Proofs.YtibmeomlokigjaaDoorW.PrintLast Go.Proofs.YtibmeomlokigjaaDoorW.PrintMore
attribute [local go_sem] max2_int min2_int max_two min_two max_three min_three max_four min_four
set_option linter.unusedVariables false
set_option linter.unusedSimpArgs false
def strings_Join.f (l0 : List ByteArray) (a1 : ByteArray) : Option ByteArray := if l0.length ≤ 140737488355328 ∧ (Lib.join (l0.map (·.data.toList)) a1.data.toList).length ≤ 140737488355328 then some ⟨(Lib.join (l0.map (·.data.toList)) a1.data.toList).toArray⟩ else none
theorem strings_Join.calls (A0 : Option Addr) (c0 : Nat) (l0 : List ByteArray) (a1 : ByteArray) (r : ByteArray) (w : World) (hr0 : Kd.C Kd.string w A0 l0.length l0) (hc0 : l0.length ≤ c0) (h : strings_Join.f l0 a1 = some r) :
    Calls Tryd.prog 77 #[.slice A0 l0.length c0, .string a1] w fun e w' => e = .returned (.string r) ∧ Below w.heap.size w w' := by
  unfold strings_Join.f at h
  by_cases hz : l0.length ≤ 140737488355328 ∧ (Lib.join (l0.map (·.data.toList)) a1.data.toList).length ≤ 140737488355328
  · rw [if_pos hz] at h
    obtain rfl := Option.some.inj h
    rcases Nat.eq_zero_or_pos l0.length with h0 | h0
    · obtain rfl := List.eq_nil_of_length_eq_zero h0
      refine (Tryd.strings_Join_none A0 c0 a1 w).mono ?_
      rintro e w' ⟨rfl, rfl⟩
      exact ⟨rfl, Below.refl _ _⟩
    · obtain ⟨ad, rfl, hc⟩ := Kd.at_string hr0 0 (by omega) (by omega)
      have hcell : ∀ (j : Nat) x, l0[j]? = some x → w.cell? (ad.add j) = some (.string x) := by
        intro j x hj
        have hlt : j < l0.length := (List.getElem?_eq_some_iff.mp hj).1
        obtain ⟨ad', e', hc'⟩ := Kd.at_string hr0 (j : Int) (by omega) (by omega)
        obtain rfl := Option.some.inj e'
        simp only [Int.toNat_natCast] at hc'
        rw [hc']
        simp [rdOf, hj]
      obtain ⟨bk, o, sp⟩ := ad
      have hb : bk < w.heap.size ∧ sp = none := by
        simp only [Int.toNat_zero, Addr.add, if_true] at hc
        unfold World.cell? at hc
        split at hc
        · rename_i heq
          refine ⟨(Array.getElem?_eq_some_iff.mp heq).1, ?_⟩
          cases sp with
          | none => rfl
          | some _ => simp at hc
        · cases hc
      obtain ⟨hb, rfl⟩ := hb
      exact Tryd.strings_Join bk o c0 l0 a1 w (fun j x hj => by
        have := hcell j x hj
        by_cases h0j : j = 0
        · subst h0j; exact this
        · simpa [Addr.add, h0j] using this) hb hz.1 hc0 hz.2
  · rw [if_neg hz] at h
    cases h
end Go.Proofs.YtibmeomlokigjaaDoor.Q
namespace Go.Proofs.YtibmeomlokigjaaDoor.Q
open Go.RowKit Go.Proofs.YtibmeomlokigjaaDoorW.PrintWords Go.Proofs.YtibmeomlokigjaaDoorW.PrintLast Go.Proofs.YtibmeomlokigjaaDoorW.PrintMore
attribute [local go_sem] max2_int min2_int max_two min_two max_three min_three max_four min_four
set_option linter.unusedVariables false
set_option linter.unusedSimpArgs false
def impl_Join.f (l0 : List ByteArray) (a1 : ByteArray) : Option (ByteArray) := (strings_Join.f l0 a1).bind fun t141 => (some t141)
set_option maxHeartbeats 8000000 in
set_option maxRecDepth 100000 in
theorem impl_Join.calls (A0 : Option Addr) (c0 : Nat) (l0 : List ByteArray) (a1 : ByteArray) (r : ByteArray) (w : World) (hr0 : Kd.C Kd.string w A0 l0.length l0) (hc0 : l0.length ≤ c0) (h : impl_Join.f l0 a1 = some r) :
    Calls Tryd.prog 50 #[.slice A0 l0.length c0, .string a1] w fun e w' => e = .returned (.string r) ∧ Below w.heap.size w w' := by
  have HR0 := Aside0.mk hr0
  have HC0 := Aside0.mk hc0
  clear hr0 hc0
  have HB := Aside0.mk (Below.refl w.heap.size w)
  have H : ((strings_Join.f l0 a1).bind fun t141 => (some t141)) = some r := h
  clear h
  replace H := Option.bind_eq_some_iff.mp H
  obtain ⟨t141, A30, H⟩ := H
  replace H : (some t141) = some r := H
  have A3 := Aside0.mk A30
  clear A30
  obtain rfl := Option.some.inj H
  go_enter Tryd.func50, Tryd.ntmps50
  go_wp2_with (first | ((with_reducible refine gate_callee (f := 77) rfl ?_); refine gl (some 7) Tryd.func77 #[.slice A0 l0.length c0, .string a1] ?_; (with_reducible refine (strings_Join.calls _ _ l0 a1 t141 _ ?side1 ?side2 A3.out).mono ?_); (case side1 => exact cz_ HR0); (case side2 => exact HC0.out); rintro e w4 ⟨rfl, hb⟩; refine ⟨_, rfl, ?_⟩; replace HB := hs_ HB hb; (try clear hb); (try clear hb2); (try clear hk); (try clear hi)))
  go_ret
  exact ⟨ee, bb HB⟩
end Go.Proofs.YtibmeomlokigjaaDoor.Q
namespace Go.Proofs.YtibmeomlokigjaaDoor.Q
open Go.RowKit Go.Proofs.YtibmeomlokigjaaDoorW.PrintWords Go.Proofs.YtibmeomlokigjaaDoorW.PrintLast Go.Proofs.YtibmeomlokigjaaDoorW.PrintMore
attribute [local go_sem] max2_int min2_int max_two min_two max_three min_three max_four min_four
set_option linter.unusedVariables false
set_option linter.unusedSimpArgs false
def strconv_Itoa.f (a0 : Int) : Option ByteArray := if 0 ≤ a0 ∧ a0 < 100 then some ⟨(Lib.decDigits a0.toNat).toArray⟩ else none
theorem strconv_Itoa.calls (a0 : Int) (r : ByteArray) (w : World) (h : strconv_Itoa.f a0 = some r) :
    Calls Tryd.prog 89 #[.int .i64 a0] w fun e w' => e = .returned (.string r) ∧ Drawn0 w w' := by
  unfold strconv_Itoa.f at h
  by_cases hz : 0 ≤ a0 ∧ a0 < 100
  · rw [if_pos hz] at h
    obtain rfl := Option.some.inj h
    have hi : ((a0.toNat : Nat) : Int) = a0 := by omega
    have hc := Tryd.strconv_Itoa_small a0.toNat (by omega) w
    rw [hi] at hc
    refine hc.mono ?_
    rintro e w' ⟨rfl, rfl⟩
    exact ⟨rfl, Drawn0.refl _⟩
  · rw [if_neg hz] at h
    cases h
end Go.Proofs.YtibmeomlokigjaaDoor.Q
namespace Go.Proofs.YtibmeomlokigjaaDoor.Q
open Go.RowKit Go.Proofs.YtibmeomlokigjaaDoorW.PrintWords Go.Proofs.YtibmeomlokigjaaDoorW.PrintLast Go.Proofs.YtibmeomlokigjaaDoorW.PrintMore
attribute [local go_sem] max2_int min2_int max_two min_two max_three min_three max_four min_four
set_option linter.unusedVariables false
set_option linter.unusedSimpArgs false
def impl_FormatInt.f (a0 : Int) : Option (ByteArray) := (strconv_Itoa.f a0).bind fun t161 => (some t161)
set_option maxHeartbeats 8000000 in
set_option maxRecDepth 100000 in
theorem impl_FormatInt.calls (a0 : Int) (r : ByteArray) (w : World) (h : impl_FormatInt.f a0 = some r) :
    Calls Tryd.prog 71 #[.int .i64 a0] w fun e w' => e = .returned (.string r) ∧ Drawn0 w w' := by
  have H : ((strconv_Itoa.f a0).bind fun t161 => (some t161)) = some r := h
  clear h
  replace H := Option.bind_eq_some_iff.mp H
  obtain ⟨t161, A20, H⟩ := H
  replace H : (some t161) = some r := H
  have A2 := Aside0.mk A20
  clear A20
  obtain rfl := Option.some.inj H
  go_enter Tryd.func71, Tryd.ntmps71
  go_wp2_with (first | ((with_reducible refine gate_callee (f := 89) rfl ?_); refine gl (some 4) Tryd.func89 #[.int .i64 a0] ?_; (with_reducible refine (strconv_Itoa.calls a0 t161 _ A2.out).mono ?_); rintro e w' ⟨rfl, ⟨nd, rfl⟩⟩; refine ⟨_, rfl, ?_⟩))
  go_ret
  exact ⟨e2_, by repeat (first | exact Drawn0.refl _ | apply Drawn0.step)⟩
end Go.Proofs.YtibmeomlokigjaaDoor.Q
namespace Go.Proofs.YtibmeomlokigjaaDoor.Q
open Go.RowKit Go.Proofs.YtibmeomlokigjaaDoorW.PrintWords Go.Proofs.YtibmeomlokigjaaDoorW.PrintLast Go.Proofs.YtibmeomlokigjaaDoorW.PrintMore
attribute [local go_sem] max2_int min2_int max_two min_two max_three min_three max_four min_four
set_option linter.unusedVariables false
set_option linter.unusedSimpArgs false
def impl_texts.l0 : Nat → List ByteArray → List Int → Int → Int → Option (List ByteArray)
  | 0, _, _, _, _ => none
  | k + 1, x3, x7, x8, x9 => if x9 < x8 then (if 0 ≤ x9 then (if x9 < (x7.length : Int) then ((impl_FormatInt.f (rd x7 x9)).bind fun t166 => (if x3.length < 8796093022208 then (impl_texts.l0 k (x3 ++ [t166]) x7 x8 (wrap64 (x9 + 1))) else (none))) else (none)) else (none)) else (some x3)
def impl_texts.f (k : Nat) (l0 : List Int) : Option (List ByteArray) := impl_texts.l0 k (([] : List ByteArray)) l0 (l0.length : Int) 0
set_option maxHeartbeats 8000000 in
set_option maxRecDepth 100000 in
theorem impl_texts.calls (k : Nat) (A0 : Option Addr) (c0 : Nat) (l0 : List Int) (r : List ByteArray) (w : World) (hr0 : Kd.C (Kd.int .i64) w A0 l0.length l0) (hc0 : l0.length ≤ c0) (h : impl_texts.f k l0 = some r) :
    Calls Tryd.prog 51 #[.slice A0 l0.length c0] w fun e w' => ∃ v0_ : Value, e = .returned (v0_) ∧ Kd.R Kd.string 9 w' w.heap.size (fun _ => True) v0_ r ∧ Below w.heap.size w w' := by
  have HR0 := Aside0.mk hr0
  have HC0 := Aside0.mk hc0
  clear hr0 hc0
  have HB := Aside0.mk (Below.refl w.heap.size w)
  have H : (impl_texts.l0 k (([] : List ByteArray)) l0 (l0.length : Int) 0) = some r := h
  clear h
  obtain ⟨y162, hy162⟩ : ∃ y_ : List ByteArray, y_ = (([] : List ByteArray)) := ⟨_, rfl⟩
  replace H : (impl_texts.l0 k y162 l0 (l0.length : Int) 0) = some r := by first | (rw [hy162]; with_reducible exact H) | (have H2_ := (Option.bind_some _ _).symm.trans H; rw [hy162]; with_reducible exact H2_) | (have H2_ := (Option.bind_some _ _).symm.trans H; with_reducible exact H2_) | with_reducible exact H | (rw [hy162]; exact H) | exact H
  have Ny162 := Aside0.mk hy162
  clear hy162
  have H' := Aside0.mk H
  clear H
  go_enter Tryd.func51, Tryd.ntmps51
  go_wp2_with (first | ((with_reducible refine gate_dst (N := 6) rfl ?_); refine Kd.R_lit Kd.string _ 9 ?hg (N := 6) ?hd (xs := ([] : List ByteArray)) (inner := []) (ok := fun _ => True) (okp := fun _ => True) ?hr ?hp (fun _ hk => hk) trivial (Below.refl _ _) (Nat.le_refl _) (by simp) ?_; (case hd => rfl); (case hg => rfl); (case hr => first | (go_simp; done) | (go_simp; rfl)); (case hp => exact (Reps.none _ _)); intro v163 w2 ho3 hb hg_ hnew_; clear hg_ hnew_; (first | rw [← Ny162.out] at ho3 | (simp only [Int.reduceToNat] at ho3; rw [← Ny162.out] at ho3)); have HO164 := kl ho3 HB; replace HB := hs_ HB hb; clear hb ho3))
  go_loopg [3, 9] k (fun kq v3 v9 w' => ∃ (x3_1 : List ByteArray) (x9_1 : Int), v9 = .int .i64 x9_1 ∧ Aside0 (impl_texts.l0 kq x3_1 l0 (l0.length : Int) x9_1 = some r) ∧ Aside0 (kq ≤ k) ∧ Aside0 (Kd.R Kd.string 9 w' w.heap.size (fun _ => True) v3 x3_1) ∧ Aside0 (Below w.heap.size w w'))
  case atStart => exact ⟨(y162), (0), e2_, H', ⟨Nat.le_refl _⟩, ⟨rr HO164⟩, ⟨bb HB⟩⟩
  case round =>
    clear H'
    (try clear p2)
    obtain ⟨x3_1, x9_1, rfl, HA, HK1, HO_3, HB⟩ := hrel
    cases gk with
    | zero => exact absurd HA.out (by simp [impl_texts.l0])
    | succ k1 =>
      have H := HA.out
      clear HA
      simp only [impl_texts.l0] at H
      by_cases c4 : x9_1 < (l0.length : Int)
      · rw [if_pos c4] at H
        have c4b0 : decide (x9_1 < (l0.length : Int)) = true := decide_eq_true c4
        clear c4
        by_cases c5 : 0 ≤ x9_1
        · rw [if_pos c5] at H
          have c5b0 : decide (0 ≤ x9_1) = true := decide_eq_true c5
          clear c5
          by_cases c6 : x9_1 < (l0.length : Int)
          · rw [if_pos c6] at H
            have c6b0 : decide (x9_1 < (l0.length : Int)) = true := decide_eq_true c6
            clear c6
            replace H := Option.bind_eq_some_iff.mp H
            obtain ⟨t166, A70, H⟩ := H
            replace H : (if x3_1.length < 8796093022208 then (impl_texts.l0 k1 (x3_1 ++ [t166]) l0 (l0.length : Int) (wrap64 (x9_1 + 1))) else (none)) = some r := H
            have A7 := Aside0.mk A70
            clear A70
            by_cases c8 : x3_1.length < 8796093022208
            · rw [if_pos c8] at H
              have LMc8 := Aside0.mk c8
              clear c8
              obtain ⟨y167, hy167⟩ : ∃ y_ : List ByteArray, y_ = (x3_1 ++ [t166]) := ⟨_, rfl⟩
              replace H : (impl_texts.l0 k1 y167 l0 (l0.length : Int) (wrap64 (x9_1 + 1))) = some r := by first | (rw [hy167]; with_reducible exact H) | (have H2_ := (Option.bind_some _ _).symm.trans H; rw [hy167]; with_reducible exact H2_) | (have H2_ := (Option.bind_some _ _).symm.trans H; with_reducible exact H2_) | with_reducible exact H | (rw [hy167]; exact H) | exact H
              have Ny167 := Aside0.mk hy167
              clear hy167
              have H' := Aside0.mk H
              clear H
              have p165 : 0 ≤ (x9_1 : Int) := of_decide_eq_true (by first | (with_reducible assumption) | assumption)
              have q165 : x9_1 < (l0.length : Int) := of_decide_eq_true (by first | (with_reducible assumption) | assumption)
              obtain ⟨ad165, e165, hx165_0⟩ := Kd.at_int HR0.out x9_1 p165 q165
              cases e165
              replace hx165_0 := (HB.out.cell (World.block_lt_of_cell? w _ hx165_0)).trans hx165_0
              replace p165 := eq_true p165
              replace q165 := eq_true q165
              go_wp2_with (first | ((with_reducible refine gate_callee (f := 71) rfl ?_); refine gl (some 15) Tryd.func71 #[.int .i64 (rd l0 x9_1)] ?_; (with_reducible refine (impl_FormatInt.calls (rd l0 x9_1) t166 _ A7.out).mono ?_); rintro e w' ⟨rfl, ⟨nd, rfl⟩⟩; refine ⟨_, rfl, ?_⟩) | ((with_reducible refine gate_builtin (b := .append) (xs := #[.tmp 13, .tmp 16]) rfl ?_); at_builtin; refine Kd.R_append Kd.string (w0 := w) w.heap.size rfl (.tmp 13) (.tmp 16) 53 9 (.string ⟨#[]⟩) 16 rfl Tryd.underlying53 info9 rfl (by decide) (by omega) u3 x3_1 t166 [.string t166] (fun _ => True) (fun _ => False) rfl rfl ?aP (fun _ hk => hk.elim) ?aF ?aO ?aB ?aS ?aL ?_; (case aP => exact rfl); (case aB => exact (bb HB)); (case aF => exact (fun _ _ => trivial)); (case aO => exact (rr HO_3)); (case aS => exact (below_size (bb HB))); (case aL => have := LMc8.out; omega); intro v168 w9 ho hb hg hat; rw [← Ny167.out] at ho; replace HB := Aside0.mk (hb); have HO169 := Aside0.mk (ho); clear HO_3 ho hb hg hat))
              go_roundg k1
              case measure => have := HK1.out; omega
              case rel => exact ⟨(y167), (wrap64 (x9_1 + 1)), e2_, H', ⟨by have := HK1.out; omega⟩, ⟨rr HO169⟩, ⟨bb HB⟩⟩
            · rw [if_neg c8] at H
              exact absurd H (by simp)
          · rw [if_neg c6] at H
            exact absurd H (by simp)
        · rw [if_neg c5] at H
          exact absurd H (by simp)
      · rw [if_neg c4] at H
        have c4b0 : decide (x9_1 < (l0.length : Int)) = false := decide_eq_false c4
        clear c4
        obtain rfl := Option.some.inj H
        go_wp2
        go_ret
        exact ⟨_, ee, rr HO_3, bb HB⟩
end Go.Proofs.YtibmeomlokigjaaDoor.Q
namespace Go.Proofs.YtibmeomlokigjaaDoor.Q
open Go.RowKit Go.Proofs.YtibmeomlokigjaaDoorW.PrintWords Go.Proofs.YtibmeomlokigjaaDoorW.PrintLast Go.Proofs.YtibmeomlokigjaaDoorW.PrintMore
attribute [local go_sem] max2_int min2_int max_two min_two max_three min_three max_four min_four
set_option linter.unusedVariables false
set_option linter.unusedSimpArgs false
def impl_within.f (a0 : Int) (a1 : Int) (a2 : Int) : Option (Bool) := if a1 ≤ a0 then (some (decide (a0 ≤ a2))) else (some false)
set_option maxHeartbeats 8000000 in
set_option maxRecDepth 100000 in
theorem impl_within.calls (a0 : Int) (a1 : Int) (a2 : Int) (r : Bool) (w : World) (h : impl_within.f a0 a1 a2 = some r) :
    Calls Tryd.prog 55 #[.int .i64 a0, .int .i64 a1, .int .i64 a2] w fun e w' => e = .returned (.bool r) ∧ Drawn0 w w' := by
  have H : (if a1 ≤ a0 then (some (decide (a0 ≤ a2))) else (some false)) = some r := h
  clear h
  by_cases c4 : a1 ≤ a0
  · rw [if_pos c4] at H
    have c4b0 : decide (a1 ≤ a0) = true := decide_eq_true c4
    clear c4
    obtain rfl := Option.some.inj H
    go_enter Tryd.func55, Tryd.ntmps55
    go_wp2
    go_ret
    exact ⟨e2_, by repeat (first | exact Drawn0.refl _ | apply Drawn0.step)⟩
  · rw [if_neg c4] at H
    have c4b0 : decide (a1 ≤ a0) = false := decide_eq_false c4
    clear c4
    obtain rfl := Option.some.inj H
    go_enter Tryd.func55, Tryd.ntmps55
    go_wp2
    go_ret
    exact ⟨e2_, by repeat (first | exact Drawn0.refl _ | apply Drawn0.step)⟩
end Go.Proofs.YtibmeomlokigjaaDoor.Q
namespace Go.Proofs.YtibmeomlokigjaaDoor.Q
open Go.RowKit Go.Proofs.YtibmeomlokigjaaDoorW.PrintWords Go.Proofs.YtibmeomlokigjaaDoorW.PrintLast Go.Proofs.YtibmeomlokigjaaDoorW.PrintMore
attribute [local go_sem] max2_int min2_int max_two min_two max_three min_three max_four min_four
set_option linter.unusedVariables false
set_option linter.unusedSimpArgs false
def impl_isKey.f (a0 : Int) : Option (Bool) := (impl_within.f a0 1 8).bind fun t334 => (some t334)
set_option maxHeartbeats 8000000 in
set_option maxRecDepth 100000 in
theorem impl_isKey.calls (a0 : Int) (r : Bool) (w : World) (h : impl_isKey.f a0 = some r) :
    Calls Tryd.prog 82 #[.int .i64 a0] w fun e w' => e = .returned (.bool r) ∧ Drawn0 w w' := by
  have H : ((impl_within.f a0 1 8).bind fun t334 => (some t334)) = some r := h
  clear h
  replace H := Option.bind_eq_some_iff.mp H
  obtain ⟨t334, A20, H⟩ := H
  replace H : (some t334) = some r := H
  have A2 := Aside0.mk A20
  clear A20
  obtain rfl := Option.some.inj H
  go_enter Tryd.func82, Tryd.ntmps82
  go_wp2_with (first | ((with_reducible refine gate_callee (f := 55) rfl ?_); refine gl (some 4) Tryd.func55 #[.int .i64 a0, .int .i64 1, .int .i64 8] ?_; (with_reducible refine (impl_within.calls a0 1 8 t334 _ A2.out).mono ?_); rintro e w' ⟨rfl, ⟨nd, rfl⟩⟩; refine ⟨_, rfl, ?_⟩))
  go_ret
  exact ⟨e2_, by repeat (first | exact Drawn0.refl _ | apply Drawn0.step)⟩
end Go.Proofs.YtibmeomlokigjaaDoor.Q
namespace Go.Proofs.YtibmeomlokigjaaDoor.Q
open Go.RowKit Go.Proofs.YtibmeomlokigjaaDoorW.PrintWords Go.Proofs.YtibmeomlokigjaaDoorW.PrintLast Go.Proofs.YtibmeomlokigjaaDoorW.PrintMore
attribute [local go_sem] max2_int min2_int max_two min_two max_three min_three max_four min_four
set_option linter.unusedVariables false
set_option linter.unusedSimpArgs false
def slices_Index_int_int.l0 : Nat → List Int → Int → Int → Int → Option (Int)
  | 0, _, _, _, _ => none
  | k + 1, x0, x1, x7, x8 => if x8 < x7 then (if 0 ≤ x8 then (if x8 < (x0.length : Int) then (if x1 = (rd x0 x8) then (some x8) else (slices_Index_int_int.l0 k x0 x1 x7 (wrap64 (x8 + 1)))) else (none)) else (none)) else (some (-1))
def slices_Index_int_int.f (k : Nat) (l0 : List Int) (a1 : Int) : Option (Int) := slices_Index_int_int.l0 k l0 a1 (l0.length : Int) 0
set_option maxHeartbeats 8000000 in
set_option maxRecDepth 100000 in
theorem slices_Index_int_int.calls (k : Nat) (A0 : Option Addr) (c0 : Nat) (l0 : List Int) (a1 : Int) (r : Int) (w : World) (hr0 : Kd.C (Kd.int .i64) w A0 l0.length l0) (hc0 : l0.length ≤ c0) (h : slices_Index_int_int.f k l0 a1 = some r) :
    Calls Tryd.prog 76 #[.slice A0 l0.length c0, .int .i64 a1] w fun e w' => e = .returned (.int .i64 r) ∧ Drawn0 w w' := by
  have HR0 := Aside0.mk hr0
  have HC0 := Aside0.mk hc0
  clear hr0 hc0
  have H : (slices_Index_int_int.l0 k l0 a1 (l0.length : Int) 0) = some r := h
  clear h
  have H' := Aside0.mk H
  clear H
  go_enter Tryd.func76, Tryd.ntmps76
  go_wp2
  go_loopg [8] k (fun kq v8 w' => ∃ (x8_1 : Int), v8 = .int .i64 x8_1 ∧ Aside0 (slices_Index_int_int.l0 kq l0 a1 (l0.length : Int) x8_1 = some r) ∧ Aside0 (kq ≤ k) ∧ Drawn0 w w')
  case atStart => exact ⟨(0), e2_, H', ⟨Nat.le_refl _⟩, by repeat (first | exact Drawn0.refl _ | apply Drawn0.step)⟩
  case round =>
    clear H'
    (try clear p2)
    obtain ⟨x8_1, rfl, HA, HK1, ⟨m1, rfl⟩⟩ := hrel
    cases gk with
    | zero => exact absurd HA.out (by simp [slices_Index_int_int.l0])
    | succ k1 =>
      have H := HA.out
      clear HA
      simp only [slices_Index_int_int.l0] at H
      by_cases c3 : x8_1 < (l0.length : Int)
      · rw [if_pos c3] at H
        have c3b0 : decide (x8_1 < (l0.length : Int)) = true := decide_eq_true c3
        clear c3
        by_cases c4 : 0 ≤ x8_1
        · rw [if_pos c4] at H
          have c4b0 : decide (0 ≤ x8_1) = true := decide_eq_true c4
          clear c4
          by_cases c5 : x8_1 < (l0.length : Int)
          · rw [if_pos c5] at H
            have c5b0 : decide (x8_1 < (l0.length : Int)) = true := decide_eq_true c5
            clear c5
            by_cases c6 : a1 = (rd l0 x8_1)
            · rw [if_pos c6] at H
              have c6b0 : (a1 == (rd l0 x8_1)) = true := beq_iff_eq.mpr c6
              have c6b1 : (a1 != (rd l0 x8_1)) = false := bne_eq_false_iff_eq.mpr c6
              clear c6
              obtain rfl := Option.some.inj H
              have p335 : 0 ≤ (x8_1 : Int) := of_decide_eq_true (by first | (with_reducible assumption) | assumption)
              have q335 : x8_1 < (l0.length : Int) := of_decide_eq_true (by first | (with_reducible assumption) | assumption)
              obtain ⟨ad335, e335, hx335_0⟩ := Kd.at_int HR0.out x8_1 p335 q335
              cases e335
              replace p335 := eq_true p335
              replace q335 := eq_true q335
              go_wp2
              go_ret
              exact ⟨e2_, by repeat (first | exact Drawn0.refl _ | apply Drawn0.step)⟩
            · rw [if_neg c6] at H
              have c6b0 : (a1 == (rd l0 x8_1)) = false := beq_eq_false_iff_ne.mpr c6
              have c6b1 : (a1 != (rd l0 x8_1)) = true := bne_iff_ne.mpr c6
              have H' := Aside0.mk H
              clear H
              have p335 : 0 ≤ (x8_1 : Int) := of_decide_eq_true (by first | (with_reducible assumption) | assumption)
              have q335 : x8_1 < (l0.length : Int) := of_decide_eq_true (by first | (with_reducible assumption) | assumption)
              obtain ⟨ad335, e335, hx335_0⟩ := Kd.at_int HR0.out x8_1 p335 q335
              cases e335
              replace p335 := eq_true p335
              replace q335 := eq_true q335
              go_wp2
              go_roundg k1
              case measure => have := HK1.out; omega
              case rel => exact ⟨(wrap64 (x8_1 + 1)), e2_, H', ⟨by have := HK1.out; omega⟩, by repeat (first | exact Drawn0.refl _ | apply Drawn0.step)⟩
          · rw [if_neg c5] at H
            exact absurd H (by simp)
        · rw [if_neg c4] at H
          exact absurd H (by simp)
      · rw [if_neg c3] at H
        have c3b0 : decide (x8_1 < (l0.length : Int)) = false := decide_eq_false c3
        clear c3
        obtain rfl := Option.some.inj H
        go_wp2
        go_ret
        exact ⟨e2_, by repeat (first | exact Drawn0.refl _ | apply Drawn0.step)⟩
end Go.Proofs.YtibmeomlokigjaaDoor.Q
namespace Go.Proofs.YtibmeomlokigjaaDoor.Q
open Go.RowKit Go.Proofs.YtibmeomlokigjaaDoorW.PrintWords Go.Proofs.YtibmeomlokigjaaDoorW.PrintLast Go.Proofs.YtibmeomlokigjaaDoorW.PrintMore
attribute [local go_sem] max2_int min2_int max_two min_two max_three min_three max_four min_four
set_option linter.unusedVariables false
set_option linter.unusedSimpArgs false
def slices_Contains_int_int.f (k : Nat) (l0 : List Int) (a1 : Int) : Option (Bool) := (slices_Index_int_int.f k l0 a1).bind fun t336 => (some (decide (t336 ≥ 0)))
set_option maxHeartbeats 8000000 in
set_option maxRecDepth 100000 in
theorem slices_Contains_int_int.calls (k : Nat) (A0 : Option Addr) (c0 : Nat) (l0 : List Int) (a1 : Int) (r : Bool) (w : World) (hr0 : Kd.C (Kd.int .i64) w A0 l0.length l0) (hc0 : l0.length ≤ c0) (h : slices_Contains_int_int.f k l0 a1 = some r) :
    Calls Tryd.prog 83 #[.slice A0 l0.length c0, .int .i64 a1] w fun e w' => e = .returned (.bool r) ∧ Drawn0 w w' := by
  have HR0 := Aside0.mk hr0
  have HC0 := Aside0.mk hc0
  clear hr0 hc0
  have H : ((slices_Index_int_int.f k l0 a1).bind fun t336 => (some (decide (t336 ≥ 0)))) = some r := h
  clear h
  replace H := Option.bind_eq_some_iff.mp H
  obtain ⟨t336, A30, H⟩ := H
  replace H : (some (decide (t336 ≥ 0))) = some r := H
  have A3 := Aside0.mk A30
  clear A30
  obtain rfl := Option.some.inj H
  go_enter Tryd.func83, Tryd.ntmps83
  go_wp2_with (first | ((with_reducible refine gate_callee (f := 76) rfl ?_); refine gl (some 7) Tryd.func76 #[.slice A0 l0.length c0, .int .i64 a1] ?_; (with_reducible refine (slices_Index_int_int.calls k _ _ l0 a1 t336 _ ?side1 ?side2 A3.out).mono ?_); (case side1 => exact cz_ HR0); (case side2 => exact HC0.out); rintro e w' ⟨rfl, ⟨nd, rfl⟩⟩; refine ⟨_, rfl, ?_⟩))
  go_ret
  exact ⟨e2_, by repeat (first | exact Drawn0.refl _ | apply Drawn0.step)⟩
end Go.Proofs.YtibmeomlokigjaaDoor.Q
namespace Go.Proofs.YtibmeomlokigjaaDoor.Q
open Go.RowKit Go.Proofs.YtibmeomlokigjaaDoorW.PrintWords Go.Proofs.YtibmeomlokigjaaDoorW.PrintLast Go.Proofs.YtibmeomlokigjaaDoorW.PrintMore
attribute [local go_sem] max2_int min2_int max_two min_two max_three min_three max_four min_four
set_option linter.unusedVariables false
set_option linter.unusedSimpArgs false
def impl_RulesOk.l0 : Nat → List Int → Int → Int → Int → Int → Int → List Int → Bool → Option (Bool)
  | 0, _, _, _, _, _, _, _, _ => none
  | k + 1, x6, x7, x8, x338000, x338001, x338002, x338003, x338004 => if x8 < x7 then (if 0 ≤ x8 then (if x8 < (x6.length : Int) then ((impl_isKey.f (rd x6 x8)).bind fun t340 => (if t340 = true then (if x8 ≤ (x338003.length : Int) then ((slices_Contains_int_int.f k (x338003.take (x8 : Int).toNat) (rd x6 x8)).bind fun t342 => (if t342 = true then (some false) else (impl_RulesOk.l0 k x6 x7 (wrap64 (x8 + 1)) x338000 x338001 x338002 x338003 x338004))) else (none)) else (some false))) else (none)) else (none)) else (if 0 ≤ x338002 then (if x338002 ≤ x338001 then (if x338001 ≤ x338000 then (if x338000 ≤ 10 then ((impl_within.f (x338003.length : Int) 1 8).bind fun t338 => (some t338)) else (some false)) else (some false)) else (some false)) else (some false))
def impl_RulesOk.f (k : Nat) (a0_0 : Int) (a0_1 : Int) (a0_2 : Int) (l0_3 : List Int) (a0_4 : Bool) : Option (Bool) := impl_RulesOk.l0 k l0_3 (l0_3.length : Int) 0 a0_0 a0_1 a0_2 l0_3 a0_4
set_option maxHeartbeats 8000000 in
set_option maxRecDepth 100000 in
theorem impl_RulesOk.calls (k : Nat) (a0_0 : Int) (a0_1 : Int) (a0_2 : Int) (A0_3 : Option Addr) (c0_3 : Nat) (l0_3 : List Int) (a0_4 : Bool) (r : Bool) (w : World) (hr0_3 : Kd.C (Kd.int .i64) w A0_3 l0_3.length l0_3) (hc0_3 : l0_3.length ≤ c0_3) (h : impl_RulesOk.f k a0_0 a0_1 a0_2 l0_3 a0_4 = some r) :
    Calls Tryd.prog 61 #[.agg #[.int .i64 a0_0, .int .i64 a0_1, .int .i64 a0_2, .slice A0_3 l0_3.length c0_3, .bool a0_4]] w fun e w' => e = .returned (.bool r) ∧ Below w.heap.size w w' := by
  have hu47 := Tryd.underlying47
  have HR0_3 := Aside0.mk hr0_3
  have HC0_3 := Aside0.mk hc0_3
  clear hr0_3 hc0_3
  have HB := Aside0.mk (Below.refl w.heap.size w)
  have H : (impl_RulesOk.l0 k l0_3 (l0_3.length : Int) 0 a0_0 a0_1 a0_2 l0_3 a0_4) = some r := h
  clear h
  have H' := Aside0.mk H
  clear H
  go_enter Tryd.func61, Tryd.ntmps61
  go_wp2_with (first | ((with_reducible refine gate_dst (N := 1) rfl ?_); (try (refine gate_guard (by rfl) ?_; dsimp only)); refine bx (N := 1) (cs := #[.int .i64 a0_0, .int .i64 a0_1, .int .i64 a0_2, .slice A0_3 l0_3.length c0_3, .bool a0_4]) (t := 47) ?_; intro gb337 hg w2 hbox hb; have BK337 := Aside0.mk (hbox); have GW337 := gs hg HB; have GE337 := gs hg HB; replace HB := hs_ HB hb; clear hb hbox hg; have ⟨hcz3_0, hcz3_1, hcz3_2, hcz3_3, hcz3_4, hfz3_0, hfz3_1, hfz3_2, hfz3_3, hfz3_4⟩ := rz5 BK337))
  go_loopg [8] k (fun kq v8 w' => ∃ (x8_1 : Int), v8 = .int .i64 x8_1 ∧ Aside0 (impl_RulesOk.l0 kq l0_3 (l0_3.length : Int) x8_1 a0_0 a0_1 a0_2 l0_3 a0_4 = some r) ∧ Aside0 (kq ≤ k) ∧ Aside0 (w'.heap[gb337]? = some (.cells #[.int .i64 a0_0, .int .i64 a0_1, .int .i64 a0_2, (.slice A0_3 l0_3.length c0_3), .bool a0_4] 47 (0, 0))) ∧ Aside0 (Below w.heap.size w w'))
  case atStart => exact ⟨(0), e2_, H', ⟨Nat.le_refl _⟩, ⟨bk BK337⟩, ⟨bb HB⟩⟩
  case round =>
    clear H'
    (try clear p2)
    (try clear hcz3_0 hcz3_1 hcz3_2 hcz3_3 hcz3_4)
    (try clear hfz3_0 hfz3_1 hfz3_2 hfz3_3 hfz3_4)
    obtain ⟨x8_1, rfl, HA, HK1, BK337, HB⟩ := hrel
    cases gk with
    | zero => exact absurd HA.out (by simp [impl_RulesOk.l0])
    | succ k1 =>
      have H := HA.out
      clear HA
      simp only [impl_RulesOk.l0] at H
      by_cases c4 : x8_1 < (l0_3.length : Int)
      · rw [if_pos c4] at H
        have c4b0 : decide (x8_1 < (l0_3.length : Int)) = true := decide_eq_true c4
        clear c4
        by_cases c5 : 0 ≤ x8_1
        · rw [if_pos c5] at H
          have c5b0 : decide (0 ≤ x8_1) = true := decide_eq_true c5
          clear c5
          by_cases c6 : x8_1 < (l0_3.length : Int)
          · rw [if_pos c6] at H
            have c6b0 : decide (x8_1 < (l0_3.length : Int)) = true := decide_eq_true c6
            clear c6
            replace H := Option.bind_eq_some_iff.mp H
            obtain ⟨t340, A70, H⟩ := H
            replace H : (if t340 = true then (if x8_1 ≤ (l0_3.length : Int) then ((slices_Contains_int_int.f k1 (l0_3.take (x8_1 : Int).toNat) (rd l0_3 x8_1)).bind fun t342 => (if t342 = true then (some false) else (impl_RulesOk.l0 k1 l0_3 (l0_3.length : Int) (wrap64 (x8_1 + 1)) a0_0 a0_1 a0_2 l0_3 a0_4))) else (none)) else (some false)) = some r := H
            have A7 := Aside0.mk A70
            clear A70
            by_cases c8 : t340 = true
            · subst c8
              have H1 : (if x8_1 ≤ (l0_3.length : Int) then ((slices_Contains_int_int.f k1 (l0_3.take (x8_1 : Int).toNat) (rd l0_3 x8_1)).bind fun t342 => (if t342 = true then (some false) else (impl_RulesOk.l0 k1 l0_3 (l0_3.length : Int) (wrap64 (x8_1 + 1)) a0_0 a0_1 a0_2 l0_3 a0_4))) else (none)) = some r := by rw [if_pos rfl] at H; exact H
              clear H
              have H := H1
              clear H1
              have c9b0 := eq_true (of_decide_eq_true (by first | (with_reducible assumption) | assumption) : 0 ≤ x8_1)
              by_cases c10 : x8_1 ≤ (l0_3.length : Int)
              · rw [if_pos c10] at H
                have c10b0 := eq_true c10
                have c10b1 : decide (x8_1 ≤ (l0_3.length : Int)) = true := decide_eq_true c10
                clear c10
                replace H := Option.bind_eq_some_iff.mp H
                obtain ⟨t342, A110, H⟩ := H
                replace H : (if t342 = true then (some false) else (impl_RulesOk.l0 k1 l0_3 (l0_3.length : Int) (wrap64 (x8_1 + 1)) a0_0 a0_1 a0_2 l0_3 a0_4)) = some r := H
                have A11 := Aside0.mk A110
                clear A110
                by_cases c12 : t342 = true
                · subst c12
                  have H1 : (some false) = some r := by rw [if_pos rfl] at H; exact H
                  clear H
                  have H := H1
                  clear H1
                  obtain rfl := Option.some.inj H
                  have p339 : 0 ≤ (x8_1 : Int) := of_decide_eq_true (by first | (with_reducible assumption) | assumption)
                  have q339 : x8_1 < (l0_3.length : Int) := of_decide_eq_true (by first | (with_reducible assumption) | assumption)
                  obtain ⟨ad339, e339, hx339_0⟩ := Kd.at_int HR0_3.out x8_1 p339 q339
                  cases e339
                  replace hx339_0 := (HB.out.cell (World.block_lt_of_cell? w _ hx339_0)).trans hx339_0
                  replace p339 := eq_true p339
                  replace q339 := eq_true q339
                  go_wp2_with (first | ((with_reducible refine gate_callee (f := 82) rfl ?_); refine gl (some 14) Tryd.func82 #[.int .i64 (rd l0_3 x8_1)] ?_; (with_reducible refine (impl_isKey.calls (rd l0_3 x8_1) true _ A7.out).mono ?_); rintro e w' ⟨rfl, ⟨nd, rfl⟩⟩; refine ⟨_, rfl, ?_⟩; have ⟨hcz13_0, hcz13_1, hcz13_2, hcz13_3, hcz13_4, hfz13_0, hfz13_1, hfz13_2, hfz13_3, hfz13_4⟩ := rz5 BK337; obtain ⟨i014, hi014, _, hsz14, _⟩ := info_parts info3; obtain ⟨hcut14, hA14, hC14⟩ := print_take_of (P := Tryd.prog) (Value.int .i64) 0 42 3 .i64 Tryd.underlying42 hi014 hsz14 (some ad339) c0_3 l0_3 x8_1 (of_decide_eq_true (by first | (with_reducible assumption) | assumption)) (of_decide_eq_true (by first | (with_reducible assumption) | assumption)) HC0_3.out; have HR341 := Aside0.mk (Kd.C_of_reads (h1 := fun _ => rfl) (hA14 _ (Kd.reads_of_C HR0_3.out))); have HC341 := Aside0.mk hC14; clear hA14 hC14 hi014 hsz14) | (go_at_call 83; refine calls_of_args (args' := #[.slice (some ad339) (l0_3.take (x8_1 : Int).toNat).length c0_3, .int .i64 (rd l0_3 x8_1)]) (by first | (rw [show (l0_3.take (x8_1 : Int).toNat).length = x8_1.toNat from (by rw [List.length_take]; have h_ : (x8_1 : Int) ≤ (l0_3.length : Int) := of_decide_eq_true (by first | (with_reducible assumption) | assumption); omega)] <;> rfl) | rfl) ?_; (with_reducible refine (slices_Contains_int_int.calls k1 _ _ (l0_3.take (x8_1 : Int).toNat) (rd l0_3 x8_1) true _ ?side1 ?side2 A11.out).mono ?_); (case side1 => repeat (first | exact (Kd.C_below HR341.out (bb HB)) | (with_reducible refine Kd.C_alloc ?_ _) | (with_reducible refine Kd.C_drewN ?_ _) | (with_reducible refine Kd.C_drew ?_))); (case side2 => exact HC341.out); rintro e w' ⟨rfl, ⟨nd, rfl⟩⟩))
                  go_ret
                  exact ⟨ee, bb HB⟩
                · replace c12 := Bool.eq_false_iff.mpr c12
                  subst c12
                  have H1 : (impl_RulesOk.l0 k1 l0_3 (l0_3.length : Int) (wrap64 (x8_1 + 1)) a0_0 a0_1 a0_2 l0_3 a0_4) = some r := by rw [if_neg (show ¬ (false = true) by decide)] at H; exact H
                  clear H
                  have H := H1
                  clear H1
                  have H' := Aside0.mk H
                  clear H
                  have p339 : 0 ≤ (x8_1 : Int) := of_decide_eq_true (by first | (with_reducible assumption) | assumption)
                  have q339 : x8_1 < (l0_3.length : Int) := of_decide_eq_true (by first | (with_reducible assumption) | assumption)
                  obtain ⟨ad339, e339, hx339_0⟩ := Kd.at_int HR0_3.out x8_1 p339 q339
                  cases e339
                  replace hx339_0 := (HB.out.cell (World.block_lt_of_cell? w _ hx339_0)).trans hx339_0
                  replace p339 := eq_true p339
                  replace q339 := eq_true q339
                  go_wp2_with (first | ((with_reducible refine gate_callee (f := 82) rfl ?_); refine gl (some 14) Tryd.func82 #[.int .i64 (rd l0_3 x8_1)] ?_; (with_reducible refine (impl_isKey.calls (rd l0_3 x8_1) true _ A7.out).mono ?_); rintro e w' ⟨rfl, ⟨nd, rfl⟩⟩; refine ⟨_, rfl, ?_⟩; have ⟨hcz15_0, hcz15_1, hcz15_2, hcz15_3, hcz15_4, hfz15_0, hfz15_1, hfz15_2, hfz15_3, hfz15_4⟩ := rz5 BK337; obtain ⟨i016, hi016, _, hsz16, _⟩ := info_parts info3; obtain ⟨hcut16, hA16, hC16⟩ := print_take_of (P := Tryd.prog) (Value.int .i64) 0 42 3 .i64 Tryd.underlying42 hi016 hsz16 (some ad339) c0_3 l0_3 x8_1 (of_decide_eq_true (by first | (with_reducible assumption) | assumption)) (of_decide_eq_true (by first | (with_reducible assumption) | assumption)) HC0_3.out; have HR341 := Aside0.mk (Kd.C_of_reads (h1 := fun _ => rfl) (hA16 _ (Kd.reads_of_C HR0_3.out))); have HC341 := Aside0.mk hC16; clear hA16 hC16 hi016 hsz16) | (go_at_call 83; refine calls_of_args (args' := #[.slice (some ad339) (l0_3.take (x8_1 : Int).toNat).length c0_3, .int .i64 (rd l0_3 x8_1)]) (by first | (rw [show (l0_3.take (x8_1 : Int).toNat).length = x8_1.toNat from (by rw [List.length_take]; have h_ : (x8_1 : Int) ≤ (l0_3.length : Int) := of_decide_eq_true (by first | (with_reducible assumption) | assumption); omega)] <;> rfl) | rfl) ?_; (with_reducible refine (slices_Contains_int_int.calls k1 _ _ (l0_3.take (x8_1 : Int).toNat) (rd l0_3 x8_1) false _ ?side1 ?side2 A11.out).mono ?_); (case side1 => repeat (first | exact (Kd.C_below HR341.out (bb HB)) | (with_reducible refine Kd.C_alloc ?_ _) | (with_reducible refine Kd.C_drewN ?_ _) | (with_reducible refine Kd.C_drew ?_))); (case side2 => exact HC341.out); rintro e w' ⟨rfl, ⟨nd, rfl⟩⟩))
                  go_roundg k1
                  case measure => have := HK1.out; omega
                  case rel => exact ⟨(wrap64 (x8_1 + 1)), e2_, H', ⟨by have := HK1.out; omega⟩, ⟨bk BK337⟩, ⟨bb HB⟩⟩
              · rw [if_neg c10] at H
                exact absurd H (by simp)
            · replace c8 := Bool.eq_false_iff.mpr c8
              subst c8
              have H1 : (some false) = some r := by rw [if_neg (show ¬ (false = true) by decide)] at H; exact H
              clear H
              have H := H1
              clear H1
              obtain rfl := Option.some.inj H
              have p339 : 0 ≤ (x8_1 : Int) := of_decide_eq_true (by first | (with_reducible assumption) | assumption)
              have q339 : x8_1 < (l0_3.length : Int) := of_decide_eq_true (by first | (with_reducible assumption) | assumption)
              obtain ⟨ad339, e339, hx339_0⟩ := Kd.at_int HR0_3.out x8_1 p339 q339
              cases e339
              replace hx339_0 := (HB.out.cell (World.block_lt_of_cell? w _ hx339_0)).trans hx339_0
              replace p339 := eq_true p339
              replace q339 := eq_true q339
              go_wp2_with (first | ((with_reducible refine gate_callee (f := 82) rfl ?_); refine gl (some 14) Tryd.func82 #[.int .i64 (rd l0_3 x8_1)] ?_; (with_reducible refine (impl_isKey.calls (rd l0_3 x8_1) false _ A7.out).mono ?_); rintro e w' ⟨rfl, ⟨nd, rfl⟩⟩; refine ⟨_, rfl, ?_⟩))
              go_ret
              exact ⟨ee, bb HB⟩
          · rw [if_neg c6] at H
            exact absurd H (by simp)
        · rw [if_neg c5] at H
          exact absurd H (by simp)
      · rw [if_neg c4] at H
        have c4b0 : decide (x8_1 < (l0_3.length : Int)) = false := decide_eq_false c4
        clear c4
        by_cases c17 : 0 ≤ a0_2
        · rw [if_pos c17] at H
          have c17b0 : decide (0 ≤ a0_2) = true := decide_eq_true c17
          clear c17
          by_cases c18 : a0_2 ≤ a0_1
          · rw [if_pos c18] at H
            have c18b0 : decide (a0_2 ≤ a0_1) = true := decide_eq_true c18
            clear c18
            by_cases c19 : a0_1 ≤ a0_0
            · rw [if_pos c19] at H
              have c19b0 : decide (a0_1 ≤ a0_0) = true := decide_eq_true c19
              clear c19
              by_cases c20 : a0_0 ≤ 10
              · rw [if_pos c20] at H
                have c20b0 : decide (a0_0 ≤ 10) = true := decide_eq_true c20
                clear c20
                replace H := Option.bind_eq_some_iff.mp H
                obtain ⟨t338, A210, H⟩ := H
                replace H : (some t338) = some r := H
                have A21 := Aside0.mk A210
                clear A210
                obtain rfl := Option.some.inj H
                have ⟨hcz22_0, hcz22_1, hcz22_2, hcz22_3, hcz22_4, hfz22_0, hfz22_1, hfz22_2, hfz22_3, hfz22_4⟩ := rz5 BK337
                go_wp2_with (first | (go_at_call 55; (with_reducible refine (impl_within.calls (l0_3.length : Int) 1 8 t338 _ A21.out).mono ?_); rintro e w' ⟨rfl, ⟨nd, rfl⟩⟩))
                go_ret
                exact ⟨ee, bb HB⟩
              · rw [if_neg c20] at H
                have c20b0 : decide (a0_0 ≤ 10) = false := decide_eq_false c20
                clear c20
                obtain rfl := Option.some.inj H
                have ⟨hcz23_0, hcz23_1, hcz23_2, hcz23_3, hcz23_4, hfz23_0, hfz23_1, hfz23_2, hfz23_3, hfz23_4⟩ := rz5 BK337
                go_wp2
                go_ret
                exact ⟨ee, bb HB⟩
            · rw [if_neg c19] at H
              have c19b0 : decide (a0_1 ≤ a0_0) = false := decide_eq_false c19
              clear c19
              obtain rfl := Option.some.inj H
              have ⟨hcz24_0, hcz24_1, hcz24_2, hcz24_3, hcz24_4, hfz24_0, hfz24_1, hfz24_2, hfz24_3, hfz24_4⟩ := rz5 BK337
              go_wp2
              go_ret
              exact ⟨ee, bb HB⟩
          · rw [if_neg c18] at H
            have c18b0 : decide (a0_2 ≤ a0_1) = false := decide_eq_false c18
            clear c18
            obtain rfl := Option.some.inj H
            have ⟨hcz25_0, hcz25_1, hcz25_2, hcz25_3, hcz25_4, hfz25_0, hfz25_1, hfz25_2, hfz25_3, hfz25_4⟩ := rz5 BK337
            go_wp2
            go_ret
            exact ⟨ee, bb HB⟩
        · rw [if_neg c17] at H
          have c17b0 : decide (0 ≤ a0_2) = false := decide_eq_false c17
          clear c17
          obtain rfl := Option.some.inj H
          have ⟨hcz26_0, hcz26_1, hcz26_2, hcz26_3, hcz26_4, hfz26_0, hfz26_1, hfz26_2, hfz26_3, hfz26_4⟩ := rz5 BK337
          go_wp2
          go_ret
          exact ⟨ee, bb HB⟩
end Go.Proofs.YtibmeomlokigjaaDoor.Q
namespace Go.Proofs.YtibmeomlokigjaaDoor.Q
open Go.RowKit Go.Proofs.YtibmeomlokigjaaDoorW.PrintWords Go.Proofs.YtibmeomlokigjaaDoorW.PrintLast Go.Proofs.YtibmeomlokigjaaDoorW.PrintMore
attribute [local go_sem] max2_int min2_int max_two min_two max_three min_three max_four min_four
set_option linter.unusedVariables false
set_option linter.unusedSimpArgs false
def impl_keyNames.f  : Option (List ByteArray) := some (([(⟨#[112, 111, 105, 110, 116, 115]⟩ : ByteArray), (⟨#[100, 105, 102, 102, 101, 114, 101, 110, 99, 101]⟩ : ByteArray), (⟨#[115, 99, 111, 114, 101, 100]⟩ : ByteArray), (⟨#[119, 105, 110, 115]⟩ : ByteArray), (⟨#[109, 117, 116, 117, 97, 108]⟩ : ByteArray), (⟨#[109, 117, 116, 117, 97, 108, 100, 105, 102, 102, 101, 114, 101, 110, 99, 101]⟩ : ByteArray), (⟨#[102, 97, 105, 114]⟩ : ByteArray), (⟨#[115, 101, 101, 100]⟩ : ByteArray)] : List ByteArray))
set_option maxHeartbeats 8000000 in
set_option maxRecDepth 100000 in
theorem impl_keyNames.calls  (r : List ByteArray) (w : World) (h : impl_keyNames.f  = some r) :
    Calls Tryd.prog 84 #[] w fun e w' => ∃ v0_ : Value, e = .returned (v0_) ∧ Kd.R Kd.string 9 w' w.heap.size (fun _ => True) v0_ r ∧ Below w.heap.size w w' := by
  have HB := Aside0.mk (Below.refl w.heap.size w)
  have H : (some (([(⟨#[112, 111, 105, 110, 116, 115]⟩ : ByteArray), (⟨#[100, 105, 102, 102, 101, 114, 101, 110, 99, 101]⟩ : ByteArray), (⟨#[115, 99, 111, 114, 101, 100]⟩ : ByteArray), (⟨#[119, 105, 110, 115]⟩ : ByteArray), (⟨#[109, 117, 116, 117, 97, 108]⟩ : ByteArray), (⟨#[109, 117, 116, 117, 97, 108, 100, 105, 102, 102, 101, 114, 101, 110, 99, 101]⟩ : ByteArray), (⟨#[102, 97, 105, 114]⟩ : ByteArray), (⟨#[115, 101, 101, 100]⟩ : ByteArray)] : List ByteArray))) = some r := h
  clear h
  obtain ⟨y343, hy343⟩ : ∃ y_ : List ByteArray, y_ = (([(⟨#[112, 111, 105, 110, 116, 115]⟩ : ByteArray), (⟨#[100, 105, 102, 102, 101, 114, 101, 110, 99, 101]⟩ : ByteArray), (⟨#[115, 99, 111, 114, 101, 100]⟩ : ByteArray), (⟨#[119, 105, 110, 115]⟩ : ByteArray), (⟨#[109, 117, 116, 117, 97, 108]⟩ : ByteArray), (⟨#[109, 117, 116, 117, 97, 108, 100, 105, 102, 102, 101, 114, 101, 110, 99, 101]⟩ : ByteArray), (⟨#[102, 97, 105, 114]⟩ : ByteArray), (⟨#[115, 101, 101, 100]⟩ : ByteArray)] : List ByteArray)) := ⟨_, rfl⟩
  replace H : (some y343) = some r := by first | (rw [hy343]; with_reducible exact H) | (have H2_ := (Option.bind_some _ _).symm.trans H; rw [hy343]; with_reducible exact H2_) | (have H2_ := (Option.bind_some _ _).symm.trans H; with_reducible exact H2_) | with_reducible exact H | (rw [hy343]; exact H) | exact H
  have Ny343 := Aside0.mk hy343
  clear hy343
  obtain rfl := Option.some.inj H
  go_enter Tryd.func84, Tryd.ntmps84
  go_wp2_with (first | ((with_reducible refine gate_dst (N := 1) rfl ?_); refine Kd.R_lit Kd.string _ 9 ?hg (N := 1) ?hd (xs := ([(⟨#[112, 111, 105, 110, 116, 115]⟩ : ByteArray), (⟨#[100, 105, 102, 102, 101, 114, 101, 110, 99, 101]⟩ : ByteArray), (⟨#[115, 99, 111, 114, 101, 100]⟩ : ByteArray), (⟨#[119, 105, 110, 115]⟩ : ByteArray), (⟨#[109, 117, 116, 117, 97, 108]⟩ : ByteArray), (⟨#[109, 117, 116, 117, 97, 108, 100, 105, 102, 102, 101, 114, 101, 110, 99, 101]⟩ : ByteArray), (⟨#[102, 97, 105, 114]⟩ : ByteArray), (⟨#[115, 101, 101, 100]⟩ : ByteArray)] : List ByteArray)) (inner := [.string (⟨#[112, 111, 105, 110, 116, 115]⟩ : ByteArray), .string (⟨#[100, 105, 102, 102, 101, 114, 101, 110, 99, 101]⟩ : ByteArray), .string (⟨#[115, 99, 111, 114, 101, 100]⟩ : ByteArray), .string (⟨#[119, 105, 110, 115]⟩ : ByteArray), .string (⟨#[109, 117, 116, 117, 97, 108]⟩ : ByteArray), .string (⟨#[109, 117, 116, 117, 97, 108, 100, 105, 102, 102, 101, 114, 101, 110, 99, 101]⟩ : ByteArray), .string (⟨#[102, 97, 105, 114]⟩ : ByteArray), .string (⟨#[115, 101, 101, 100]⟩ : ByteArray)]) (ok := fun _ => True) (okp := fun _ => True) ?hr ?hp (fun _ hk => hk) trivial (Below.refl _ _) (Nat.le_refl _) (by simp) ?_; (case hd => rfl); (case hg => rfl); (case hr => first | (go_simp; done) | (go_simp; rfl)); (case hp => exact (Reps.one (show Kd.M Kd.string _ _ _ (⟨#[112, 111, 105, 110, 116, 115]⟩ : ByteArray) [.string (⟨#[112, 111, 105, 110, 116, 115]⟩ : ByteArray)] from rfl) (Reps.one (show Kd.M Kd.string _ _ _ (⟨#[100, 105, 102, 102, 101, 114, 101, 110, 99, 101]⟩ : ByteArray) [.string (⟨#[100, 105, 102, 102, 101, 114, 101, 110, 99, 101]⟩ : ByteArray)] from rfl) (Reps.one (show Kd.M Kd.string _ _ _ (⟨#[115, 99, 111, 114, 101, 100]⟩ : ByteArray) [.string (⟨#[115, 99, 111, 114, 101, 100]⟩ : ByteArray)] from rfl) (Reps.one (show Kd.M Kd.string _ _ _ (⟨#[119, 105, 110, 115]⟩ : ByteArray) [.string (⟨#[119, 105, 110, 115]⟩ : ByteArray)] from rfl) (Reps.one (show Kd.M Kd.string _ _ _ (⟨#[109, 117, 116, 117, 97, 108]⟩ : ByteArray) [.string (⟨#[109, 117, 116, 117, 97, 108]⟩ : ByteArray)] from rfl) (Reps.one (show Kd.M Kd.string _ _ _ (⟨#[109, 117, 116, 117, 97, 108, 100, 105, 102, 102, 101, 114, 101, 110, 99, 101]⟩ : ByteArray) [.string (⟨#[109, 117, 116, 117, 97, 108, 100, 105, 102, 102, 101, 114, 101, 110, 99, 101]⟩ : ByteArray)] from rfl) (Reps.one (show Kd.M Kd.string _ _ _ (⟨#[102, 97, 105, 114]⟩ : ByteArray) [.string (⟨#[102, 97, 105, 114]⟩ : ByteArray)] from rfl) (Reps.one (show Kd.M Kd.string _ _ _ (⟨#[115, 101, 101, 100]⟩ : ByteArray) [.string (⟨#[115, 101, 101, 100]⟩ : ByteArray)] from rfl) (Reps.none _ _)))))))))); intro v344 w1 ho2 hb hg_ hnew_; clear hg_ hnew_; (first | rw [← Ny343.out] at ho2 | (simp only [Int.reduceToNat] at ho2; rw [← Ny343.out] at ho2)); have HO345 := kl ho2 HB; replace HB := hs_ HB hb; clear hb ho2))
  go_ret
  exact ⟨_, ee, rr HO345, bb HB⟩
end Go.Proofs.YtibmeomlokigjaaDoor.Q
namespace Go.Proofs.YtibmeomlokigjaaDoor.Q
open Go.RowKit Go.Proofs.YtibmeomlokigjaaDoorW.PrintWords Go.Proofs.YtibmeomlokigjaaDoorW.PrintLast Go.Proofs.YtibmeomlokigjaaDoorW.PrintMore
attribute [local go_sem] max2_int min2_int max_two min_two max_three min_three max_four min_four
set_option linter.unusedVariables false
set_option linter.unusedSimpArgs false
def impl_KeyName.f (a0 : Int) : Option (ByteArray) := (impl_isKey.f a0).bind fun t346 => (if t346 = true then ((impl_keyNames.f).bind fun t347 => (if 0 ≤ (wrap64 (a0 - 1)) then (if (wrap64 (a0 - 1)) < (t347.length : Int) then (some (rdOf ByteArray.empty t347 (wrap64 (a0 - 1)))) else (none)) else (none))) else (some (⟨#[]⟩ : ByteArray)))
set_option maxHeartbeats 8000000 in
set_option maxRecDepth 100000 in
theorem impl_KeyName.calls (a0 : Int) (r : ByteArray) (w : World) (h : impl_KeyName.f a0 = some r) :
    Calls Tryd.prog 62 #[.int .i64 a0] w fun e w' => e = .returned (.string r) ∧ Below w.heap.size w w' := by
  have HB := Aside0.mk (Below.refl w.heap.size w)
  have H : ((impl_isKey.f a0).bind fun t346 => (if t346 = true then ((impl_keyNames.f).bind fun t347 => (if 0 ≤ (wrap64 (a0 - 1)) then (if (wrap64 (a0 - 1)) < (t347.length : Int) then (some (rdOf ByteArray.empty t347 (wrap64 (a0 - 1)))) else (none)) else (none))) else (some (⟨#[]⟩ : ByteArray)))) = some r := h
  clear h
  replace H := Option.bind_eq_some_iff.mp H
  obtain ⟨t346, A20, H⟩ := H
  replace H : (if t346 = true then ((impl_keyNames.f).bind fun t347 => (if 0 ≤ (wrap64 (a0 - 1)) then (if (wrap64 (a0 - 1)) < (t347.length : Int) then (some (rdOf ByteArray.empty t347 (wrap64 (a0 - 1)))) else (none)) else (none))) else (some (⟨#[]⟩ : ByteArray))) = some r := H
  have A2 := Aside0.mk A20
  clear A20
  by_cases c3 : t346 = true
  · subst c3
    have H1 : ((impl_keyNames.f).bind fun t347 => (if 0 ≤ (wrap64 (a0 - 1)) then (if (wrap64 (a0 - 1)) < (t347.length : Int) then (some (rdOf ByteArray.empty t347 (wrap64 (a0 - 1)))) else (none)) else (none))) = some r := by rw [if_pos rfl] at H; exact H
    clear H
    have H := H1
    clear H1
    replace H := Option.bind_eq_some_iff.mp H
    obtain ⟨t347, A40, H⟩ := H
    replace H : (if 0 ≤ (wrap64 (a0 - 1)) then (if (wrap64 (a0 - 1)) < (t347.length : Int) then (some (rdOf ByteArray.empty t347 (wrap64 (a0 - 1)))) else (none)) else (none)) = some r := H
    have A4 := Aside0.mk A40
    clear A40
    obtain ⟨ji5, hji5⟩ : ∃ j_ : Int, (wrap64 (a0 - 1)) = j_ := ⟨_, rfl⟩
    replace H : (if 0 ≤ (ji5) then (if (ji5) < (t347.length : Int) then (some (rdOf ByteArray.empty t347 (ji5))) else (none)) else (none)) = some r := by first | (rw [hji5] at H; exact H) | (simp only [hji5] at H ⊢; exact H)
    (try rw [hji5] at A2)
    (try rw [hji5] at A4)
    have hji5w : (IntKind.i64.wrap (a0 - 1)) = ji5 := (i64_w _).trans hji5
    by_cases c6 : 0 ≤ (ji5)
    · rw [if_pos c6] at H
      have c6b0 : decide (0 ≤ (ji5)) = true := decide_eq_true c6
      clear c6
      by_cases c7 : (ji5) < (t347.length : Int)
      · rw [if_pos c7] at H
        have c7b0 : decide ((ji5) < (t347.length : Int)) = true := decide_eq_true c7
        clear c7
        obtain rfl := Option.some.inj H
        go_enter Tryd.func62, Tryd.ntmps62
        go_wp2_with (first | ((with_reducible refine gate_callee (f := 82) rfl ?_); refine gl (some 4) Tryd.func82 #[.int .i64 a0] ?_; (with_reducible refine (impl_isKey.calls a0 true _ A2.out).mono ?_); rintro e w' ⟨rfl, ⟨nd, rfl⟩⟩; refine ⟨_, rfl, ?_⟩) | ((with_reducible refine gate_callee (f := 84) rfl ?_); refine gl (some 6) Tryd.func84 #[] ?_; (with_reducible refine (impl_keyNames.calls  t347 _ A4.out).mono ?_); rintro e w8 ⟨v348, rfl, ho0, hb⟩; refine ⟨_, rfl, ?_⟩; have HO349 := kl ho0 HB; replace HB := hs_ HB hb; (try clear hb); (try clear hb2); (try clear hk); (try clear hi); (try clear ho0); obtain ⟨Ao9, co9, eo9⟩ := Kd.R_slice HO349.out; subst eo9; have p350 : 0 ≤ ((ji5) : Int) := of_decide_eq_true (by first | (with_reducible assumption) | assumption); have q350 : (ji5) < (t347.length : Int) := of_decide_eq_true (by first | (with_reducible assumption) | assumption); obtain ⟨ad350, e350, hx350_0⟩ := Kd.at_string (Kd.R_reads' HO349.out).2.2 (ji5) p350 q350; cases e350; replace p350 := eq_true p350; replace q350 := eq_true q350))
        go_ret
        exact ⟨by first | rfl | (simp [errW_none, errW_some] <;> rfl) | (simp only [← hji5]; first | rfl | (simp [errW_none, errW_some] <;> rfl)) | (simp [*, errW_none, errW_some] <;> rfl), bb HB⟩
      · rw [if_neg c7] at H
        exact absurd H (by simp)
    · rw [if_neg c6] at H
      exact absurd H (by simp)
  · replace c3 := Bool.eq_false_iff.mpr c3
    subst c3
    have H1 : (some (⟨#[]⟩ : ByteArray)) = some r := by rw [if_neg (show ¬ (false = true) by decide)] at H; exact H
    clear H
    have H := H1
    clear H1
    obtain rfl := Option.some.inj H
    go_enter Tryd.func62, Tryd.ntmps62
    go_wp2_with (first | ((with_reducible refine gate_callee (f := 82) rfl ?_); refine gl (some 4) Tryd.func82 #[.int .i64 a0] ?_; (with_reducible refine (impl_isKey.calls a0 false _ A2.out).mono ?_); rintro e w' ⟨rfl, ⟨nd, rfl⟩⟩; refine ⟨_, rfl, ?_⟩))
    go_ret
    exact ⟨ee, bb HB⟩
end Go.Proofs.YtibmeomlokigjaaDoor.Q
namespace Go.Proofs.YtibmeomlokigjaaDoor.Q
open Go.RowKit Go.Proofs.YtibmeomlokigjaaDoorW.PrintWords Go.Proofs.YtibmeomlokigjaaDoorW.PrintLast Go.Proofs.YtibmeomlokigjaaDoorW.PrintMore
attribute [local go_sem] max2_int min2_int max_two min_two max_three min_three max_four min_four
set_option linter.unusedVariables false
set_option linter.unusedSimpArgs false
def impl_FormatRules.l0 : Nat → List ByteArray → List Int → Int → Int → Int → Int → Int → List Int → Bool → Option (ByteArray)
  | 0, _, _, _, _, _, _, _, _, _ => none
  | k + 1, x3, x12, x13, x14, x352000, x352001, x352002, x352003, x352004 => if x14 < x13 then (if 0 ≤ x14 then (if x14 < (x12.length : Int) then ((impl_KeyName.f (rd x12 x14)).bind fun t357 => (if x3.length < 8796093022208 then (impl_FormatRules.l0 k (x3 ++ [t357]) x12 x13 (wrap64 (x14 + 1)) x352000 x352001 x352002 x352003 x352004) else (none))) else (none)) else (none)) else ((impl_texts.f k (([x352000, x352001, x352002] : List Int))).bind fun t364 => ((impl_Join.f t364 (⟨#[45]⟩ : ByteArray)).bind fun t367 => (if t367.size + 1 ≤ 9223372036854775807 then ((impl_Join.f x3 (⟨#[62]⟩ : ByteArray)).bind fun t368 => (if (t367 ++ (⟨#[32]⟩ : ByteArray)).size + t368.size ≤ 9223372036854775807 then (if x352004 = true then (if ((t367 ++ (⟨#[32]⟩ : ByteArray)) ++ t368).size + 6 ≤ 9223372036854775807 then (some (((t367 ++ (⟨#[32]⟩ : ByteArray)) ++ t368) ++ (⟨#[32, 97, 103, 97, 105, 110]⟩ : ByteArray))) else (none)) else (some ((t367 ++ (⟨#[32]⟩ : ByteArray)) ++ t368))) else (none))) else (none))))
def impl_FormatRules.f (k : Nat) (a0_0 : Int) (a0_1 : Int) (a0_2 : Int) (l0_3 : List Int) (a0_4 : Bool) : Option (ByteArray) := (impl_RulesOk.f k a0_0 a0_1 a0_2 l0_3 a0_4).bind fun t352 => (if t352 = true then (impl_FormatRules.l0 k (([] : List ByteArray)) l0_3 (l0_3.length : Int) 0 a0_0 a0_1 a0_2 l0_3 a0_4) else (some (⟨#[]⟩ : ByteArray)))
set_option maxHeartbeats 8000000 in
set_option maxRecDepth 100000 in
theorem impl_FormatRules.calls (k : Nat) (a0_0 : Int) (a0_1 : Int) (a0_2 : Int) (A0_3 : Option Addr) (c0_3 : Nat) (l0_3 : List Int) (a0_4 : Bool) (r : ByteArray) (w : World) (hr0_3 : Kd.C (Kd.int .i64) w A0_3 l0_3.length l0_3) (hc0_3 : l0_3.length ≤ c0_3) (h : impl_FormatRules.f k a0_0 a0_1 a0_2 l0_3 a0_4 = some r) :
    Calls Tryd.prog 23 #[.agg #[.int .i64 a0_0, .int .i64 a0_1, .int .i64 a0_2, .slice A0_3 l0_3.length c0_3, .bool a0_4]] w fun e w' => e = .returned (.string r) ∧ Below w.heap.size w w' := by
  have hu47 := Tryd.underlying47
  have HR0_3 := Aside0.mk hr0_3
  have HC0_3 := Aside0.mk hc0_3
  clear hr0_3 hc0_3
  have HB := Aside0.mk (Below.refl w.heap.size w)
  have H : ((impl_RulesOk.f k a0_0 a0_1 a0_2 l0_3 a0_4).bind fun t352 => (if t352 = true then (impl_FormatRules.l0 k (([] : List ByteArray)) l0_3 (l0_3.length : Int) 0 a0_0 a0_1 a0_2 l0_3 a0_4) else (some (⟨#[]⟩ : ByteArray)))) = some r := h
  clear h
  replace H := Option.bind_eq_some_iff.mp H
  obtain ⟨t352, A20, H⟩ := H
  replace H : (if t352 = true then (impl_FormatRules.l0 k (([] : List ByteArray)) l0_3 (l0_3.length : Int) 0 a0_0 a0_1 a0_2 l0_3 a0_4) else (some (⟨#[]⟩ : ByteArray))) = some r := H
  have A2 := Aside0.mk A20
  clear A20
  by_cases c3 : t352 = true
  · subst c3
    have H1 : (impl_FormatRules.l0 k (([] : List ByteArray)) l0_3 (l0_3.length : Int) 0 a0_0 a0_1 a0_2 l0_3 a0_4) = some r := by rw [if_pos rfl] at H; exact H
    clear H
    have H := H1
    clear H1
    obtain ⟨y353, hy353⟩ : ∃ y_ : List ByteArray, y_ = (([] : List ByteArray)) := ⟨_, rfl⟩
    replace H : (impl_FormatRules.l0 k y353 l0_3 (l0_3.length : Int) 0 a0_0 a0_1 a0_2 l0_3 a0_4) = some r := by first | (rw [hy353]; with_reducible exact H) | (have H2_ := (Option.bind_some _ _).symm.trans H; rw [hy353]; with_reducible exact H2_) | (have H2_ := (Option.bind_some _ _).symm.trans H; with_reducible exact H2_) | with_reducible exact H | (rw [hy353]; exact H) | exact H
    have Ny353 := Aside0.mk hy353
    clear hy353
    have H' := Aside0.mk H
    clear H
    go_enter Tryd.func23, Tryd.ntmps23
    go_wp2_with (first | ((with_reducible refine gate_dst (N := 1) rfl ?_); refine bx (N := 1) (cs := #[.int .i64 a0_0, .int .i64 a0_1, .int .i64 a0_2, .slice A0_3 l0_3.length c0_3, .bool a0_4]) (t := 47) ?_; intro gb351 hg w4 hbox hb; have BK351 := Aside0.mk (hbox); have GW351 := gs hg HB; have GE351 := gs hg HB; replace HB := hs_ HB hb; clear hb hbox hg; have ⟨hcz5_0, hcz5_1, hcz5_2, hcz5_3, hcz5_4, hfz5_0, hfz5_1, hfz5_2, hfz5_3, hfz5_4⟩ := rz5 BK351) | ((with_reducible refine gate_callee (f := 61) rfl ?_); refine gl (some 8) Tryd.func61 #[.agg #[.int .i64 a0_0, .int .i64 a0_1, .int .i64 a0_2, .slice A0_3 l0_3.length c0_3, .bool a0_4]] ?_; (with_reducible refine (impl_RulesOk.calls k a0_0 a0_1 a0_2 _ _ l0_3 a0_4 true _ ?side1 ?side2 A2.out).mono ?_); (case side1 => exact cc HR0_3 HB); (case side2 => exact HC0_3.out); rintro e w6 ⟨rfl, hb⟩; refine ⟨_, rfl, ?_⟩; replace BK351 := kb BK351 hb; replace HB := hs_ HB hb; (try clear hb); (try clear hb2); (try clear hk); (try clear hi)) | ((with_reducible refine gate_dst (N := 10) rfl ?_); refine Kd.R_lit Kd.string _ 9 ?hg (N := 10) ?hd (xs := ([] : List ByteArray)) (inner := []) (ok := fun _ => True) (okp := fun _ => True) ?hr ?hp (fun _ hk => hk) trivial (Below.refl _ _) (Nat.le_refl _) (by simp) ?_; (case hd => rfl); (case hg => rfl); (case hr => first | (go_simp; done) | (go_simp; rfl)); (case hp => exact (Reps.none _ _)); intro v354 w7 ho8 hb hg_ hnew_; clear hg_ hnew_; (first | rw [← Ny353.out] at ho8 | (simp only [Int.reduceToNat] at ho8; rw [← Ny353.out] at ho8)); have HO355 := kl ho8 HB; replace BK351 := kb BK351 hb; replace HB := hs_ HB hb; clear hb ho8; have ⟨hcz9_0, hcz9_1, hcz9_2, hcz9_3, hcz9_4, hfz9_0, hfz9_1, hfz9_2, hfz9_3, hfz9_4⟩ := rz5 BK351))
    go_loopg [3, 14] k (fun kq v3 v14 w' => ∃ (x3_1 : List ByteArray) (x14_1 : Int), v14 = .int .i64 x14_1 ∧ Aside0 (impl_FormatRules.l0 kq x3_1 l0_3 (l0_3.length : Int) x14_1 a0_0 a0_1 a0_2 l0_3 a0_4 = some r) ∧ Aside0 (kq ≤ k) ∧ Aside0 (Kd.R Kd.string 9 w' w.heap.size (fun _ => True) v3 x3_1) ∧ Aside0 (w'.heap[gb351]? = some (.cells #[.int .i64 a0_0, .int .i64 a0_1, .int .i64 a0_2, (.slice A0_3 l0_3.length c0_3), .bool a0_4] 47 (0, 0))) ∧ Aside0 (Below w.heap.size w w'))
    case atStart => exact ⟨(y353), (0), e2_, H', ⟨Nat.le_refl _⟩, ⟨rr HO355⟩, ⟨bk BK351⟩, ⟨bb HB⟩⟩
    case round =>
      clear H'
      (try clear c2)
      (try clear p2)
      (try clear c3)
      (try clear c6)
      (try clear hcz5_0 hcz5_1 hcz5_2 hcz5_3 hcz5_4)
      (try clear hcz9_0 hcz9_1 hcz9_2 hcz9_3 hcz9_4)
      (try clear hfz5_0 hfz5_1 hfz5_2 hfz5_3 hfz5_4)
      (try clear hfz9_0 hfz9_1 hfz9_2 hfz9_3 hfz9_4)
      obtain ⟨x3_1, x14_1, rfl, HA, HK1, HO_3, BK351, HB⟩ := hrel
      cases gk with
      | zero => exact absurd HA.out (by simp [impl_FormatRules.l0])
      | succ k1 =>
        have H := HA.out
        clear HA
        simp only [impl_FormatRules.l0] at H
        by_cases c10 : x14_1 < (l0_3.length : Int)
        · rw [if_pos c10] at H
          have c10b0 : decide (x14_1 < (l0_3.length : Int)) = true := decide_eq_true c10
          clear c10
          by_cases c11 : 0 ≤ x14_1
          · rw [if_pos c11] at H
            have c11b0 : decide (0 ≤ x14_1) = true := decide_eq_true c11
            clear c11
            by_cases c12 : x14_1 < (l0_3.length : Int)
            · rw [if_pos c12] at H
              have c12b0 : decide (x14_1 < (l0_3.length : Int)) = true := decide_eq_true c12
              clear c12
              replace H := Option.bind_eq_some_iff.mp H
              obtain ⟨t357, A130, H⟩ := H
              replace H : (if x3_1.length < 8796093022208 then (impl_FormatRules.l0 k1 (x3_1 ++ [t357]) l0_3 (l0_3.length : Int) (wrap64 (x14_1 + 1)) a0_0 a0_1 a0_2 l0_3 a0_4) else (none)) = some r := H
              have A13 := Aside0.mk A130
              clear A130
              by_cases c14 : x3_1.length < 8796093022208
              · rw [if_pos c14] at H
                have LMc14 := Aside0.mk c14
                clear c14
                obtain ⟨y358, hy358⟩ : ∃ y_ : List ByteArray, y_ = (x3_1 ++ [t357]) := ⟨_, rfl⟩
                replace H : (impl_FormatRules.l0 k1 y358 l0_3 (l0_3.length : Int) (wrap64 (x14_1 + 1)) a0_0 a0_1 a0_2 l0_3 a0_4) = some r := by first | (rw [hy358]; with_reducible exact H) | (have H2_ := (Option.bind_some _ _).symm.trans H; rw [hy358]; with_reducible exact H2_) | (have H2_ := (Option.bind_some _ _).symm.trans H; with_reducible exact H2_) | with_reducible exact H | (rw [hy358]; exact H) | exact H
                have Ny358 := Aside0.mk hy358
                clear hy358
                have H' := Aside0.mk H
                clear H
                have p356 : 0 ≤ (x14_1 : Int) := of_decide_eq_true (by first | (with_reducible assumption) | assumption)
                have q356 : x14_1 < (l0_3.length : Int) := of_decide_eq_true (by first | (with_reducible assumption) | assumption)
                obtain ⟨ad356, e356, hx356_0⟩ := Kd.at_int HR0_3.out x14_1 p356 q356
                cases e356
                replace hx356_0 := (HB.out.cell (World.block_lt_of_cell? w _ hx356_0)).trans hx356_0
                replace p356 := eq_true p356
                replace q356 := eq_true q356
                go_wp2_with (first | ((with_reducible refine gate_callee (f := 62) rfl ?_); refine gl (some 20) Tryd.func62 #[.int .i64 (rd l0_3 x14_1)] ?_; (with_reducible refine (impl_KeyName.calls (rd l0_3 x14_1) t357 _ A13.out).mono ?_); rintro e w15 ⟨rfl, hb⟩; refine ⟨_, rfl, ?_⟩; replace HO_3 := kr HO_3 hb; replace BK351 := kb BK351 hb; replace HB := hs_ HB hb; (try clear hb); (try clear hb2); (try clear hk); (try clear hi)) | ((with_reducible refine gate_builtin (b := .append) (xs := #[.tmp 18, .tmp 21]) rfl ?_); at_builtin; refine Kd.R_append Kd.string (w0 := w) w.heap.size rfl (.tmp 18) (.tmp 21) 53 9 (.string ⟨#[]⟩) 16 rfl Tryd.underlying53 info9 rfl (by decide) (by omega) u3 x3_1 t357 [.string t357] (fun _ => True) (fun _ => False) rfl rfl ?aP (fun _ hk => hk.elim) ?aF ?aO ?aB ?aS ?aL ?_; (case aP => exact rfl); (case aB => exact (bb HB)); (case aF => exact (fun _ _ => trivial)); (case aO => exact (rr HO_3)); (case aS => exact (below_size (bb HB))); (case aL => have := LMc14.out; omega); intro v359 w16 ho hb hg hat; rw [← Ny358.out] at ho; replace BK351 := Aside0.mk (blk_grown (g := gb351) (o := .cells #[.int .i64 a0_0, .int .i64 a0_1, .int .i64 a0_2, .slice (some ad356) l0_3.length c0_3, .bool a0_4] 47 (0, 0)) (bk BK351) hg (Kd.R_ne HO_3.out BK351.out (by decide))); replace HB := Aside0.mk (hb); have HO360 := Aside0.mk (ho); clear HO_3 ho hb hg hat))
                go_roundg k1
                case measure => have := HK1.out; omega
                case rel => exact ⟨(y358), (wrap64 (x14_1 + 1)), e2_, H', ⟨by have := HK1.out; omega⟩, ⟨rr HO360⟩, ⟨bk BK351⟩, ⟨bb HB⟩⟩
              · rw [if_neg c14] at H
                exact absurd H (by simp)
            · rw [if_neg c12] at H
              exact absurd H (by simp)
          · rw [if_neg c11] at H
            exact absurd H (by simp)
        · rw [if_neg c10] at H
          have c10b0 : decide (x14_1 < (l0_3.length : Int)) = false := decide_eq_false c10
          clear c10
          obtain ⟨y361, hy361⟩ : ∃ y_ : List Int, y_ = (([a0_0, a0_1, a0_2] : List Int)) := ⟨_, rfl⟩
          replace H : ((impl_texts.f k1 y361).bind fun t364 => ((impl_Join.f t364 (⟨#[45]⟩ : ByteArray)).bind fun t367 => (if t367.size + 1 ≤ 9223372036854775807 then ((impl_Join.f x3_1 (⟨#[62]⟩ : ByteArray)).bind fun t368 => (if (t367 ++ (⟨#[32]⟩ : ByteArray)).size + t368.size ≤ 9223372036854775807 then (if a0_4 = true then (if ((t367 ++ (⟨#[32]⟩ : ByteArray)) ++ t368).size + 6 ≤ 9223372036854775807 then (some (((t367 ++ (⟨#[32]⟩ : ByteArray)) ++ t368) ++ (⟨#[32, 97, 103, 97, 105, 110]⟩ : ByteArray))) else (none)) else (some ((t367 ++ (⟨#[32]⟩ : ByteArray)) ++ t368))) else (none))) else (none)))) = some r := by first | (rw [hy361]; with_reducible exact H) | (have H2_ := (Option.bind_some _ _).symm.trans H; rw [hy361]; with_reducible exact H2_) | (have H2_ := (Option.bind_some _ _).symm.trans H; with_reducible exact H2_) | with_reducible exact H | (rw [hy361]; exact H) | exact H
          have Ny361 := Aside0.mk hy361
          clear hy361
          replace H := Option.bind_eq_some_iff.mp H
          obtain ⟨t364, A170, H⟩ := H
          replace H : ((impl_Join.f t364 (⟨#[45]⟩ : ByteArray)).bind fun t367 => (if t367.size + 1 ≤ 9223372036854775807 then ((impl_Join.f x3_1 (⟨#[62]⟩ : ByteArray)).bind fun t368 => (if (t367 ++ (⟨#[32]⟩ : ByteArray)).size + t368.size ≤ 9223372036854775807 then (if a0_4 = true then (if ((t367 ++ (⟨#[32]⟩ : ByteArray)) ++ t368).size + 6 ≤ 9223372036854775807 then (some (((t367 ++ (⟨#[32]⟩ : ByteArray)) ++ t368) ++ (⟨#[32, 97, 103, 97, 105, 110]⟩ : ByteArray))) else (none)) else (some ((t367 ++ (⟨#[32]⟩ : ByteArray)) ++ t368))) else (none))) else (none))) = some r := H
          have A17 := Aside0.mk A170
          clear A170
          replace H := Option.bind_eq_some_iff.mp H
          obtain ⟨t367, A180, H⟩ := H
          replace H : (if t367.size + 1 ≤ 9223372036854775807 then ((impl_Join.f x3_1 (⟨#[62]⟩ : ByteArray)).bind fun t368 => (if (t367 ++ (⟨#[32]⟩ : ByteArray)).size + t368.size ≤ 9223372036854775807 then (if a0_4 = true then (if ((t367 ++ (⟨#[32]⟩ : ByteArray)) ++ t368).size + 6 ≤ 9223372036854775807 then (some (((t367 ++ (⟨#[32]⟩ : ByteArray)) ++ t368) ++ (⟨#[32, 97, 103, 97, 105, 110]⟩ : ByteArray))) else (none)) else (some ((t367 ++ (⟨#[32]⟩ : ByteArray)) ++ t368))) else (none))) else (none)) = some r := H
          have A18 := Aside0.mk A180
          clear A180
          by_cases c19 : t367.size + 1 ≤ 9223372036854775807
          · rw [if_pos c19] at H
            have c19b0 := eq_true c19
            have c19b1 : decide (t367.size + 1 ≤ 9223372036854775807) = true := decide_eq_true c19
            try have c19b2 : (9223372036854775807 < t367.size + 1) = False := eq_false (Nat.not_lt.2 c19)
            replace H := Option.bind_eq_some_iff.mp H
            obtain ⟨t368, A200, H⟩ := H
            replace H : (if (t367 ++ (⟨#[32]⟩ : ByteArray)).size + t368.size ≤ 9223372036854775807 then (if a0_4 = true then (if ((t367 ++ (⟨#[32]⟩ : ByteArray)) ++ t368).size + 6 ≤ 9223372036854775807 then (some (((t367 ++ (⟨#[32]⟩ : ByteArray)) ++ t368) ++ (⟨#[32, 97, 103, 97, 105, 110]⟩ : ByteArray))) else (none)) else (some ((t367 ++ (⟨#[32]⟩ : ByteArray)) ++ t368))) else (none)) = some r := H
            have A20 := Aside0.mk A200
            clear A200
            by_cases c21 : (t367 ++ (⟨#[32]⟩ : ByteArray)).size + t368.size ≤ 9223372036854775807
            · rw [if_pos c21] at H
              have c21b0 := eq_true c21
              have c21b1 : decide ((t367 ++ (⟨#[32]⟩ : ByteArray)).size + t368.size ≤ 9223372036854775807) = true := decide_eq_true c21
              try have c21b2 : (9223372036854775807 < (t367 ++ (⟨#[32]⟩ : ByteArray)).size + t368.size) = False := eq_false (Nat.not_lt.2 c21)
              have c21b3 : (9223372036854775807 < t367.size + 1 + t368.size) = False := (by have h_ := c21b2; simp only [ByteArray.size_append] at h_; exact h_)
              by_cases c22 : a0_4 = true
              · subst c22
                have H1 : (if ((t367 ++ (⟨#[32]⟩ : ByteArray)) ++ t368).size + 6 ≤ 9223372036854775807 then (some (((t367 ++ (⟨#[32]⟩ : ByteArray)) ++ t368) ++ (⟨#[32, 97, 103, 97, 105, 110]⟩ : ByteArray))) else (none)) = some r := by rw [if_pos rfl] at H; exact H
                clear H
                have H := H1
                clear H1
                by_cases c23 : ((t367 ++ (⟨#[32]⟩ : ByteArray)) ++ t368).size + 6 ≤ 9223372036854775807
                · rw [if_pos c23] at H
                  have c23b0 := eq_true c23
                  have c23b1 : decide (((t367 ++ (⟨#[32]⟩ : ByteArray)) ++ t368).size + 6 ≤ 9223372036854775807) = true := decide_eq_true c23
                  try have c23b2 : (9223372036854775807 < ((t367 ++ (⟨#[32]⟩ : ByteArray)) ++ t368).size + 6) = False := eq_false (Nat.not_lt.2 c23)
                  have c23b3 : (9223372036854775807 < t367.size + 1 + t368.size + 6) = False := (by have h_ := c23b2; simp only [ByteArray.size_append] at h_; exact h_)
                  obtain rfl := Option.some.inj H
                  have ⟨hcz24_0, hcz24_1, hcz24_2, hcz24_3, hcz24_4, hfz24_0, hfz24_1, hfz24_2, hfz24_3, hfz24_4⟩ := rz5 BK351
                  go_wp2_with (first | ((with_reducible refine gate_dst (N := 30) rfl ?_); refine Kd.R_lit (Kd.int .i64) _ 3 ?hg (N := 30) ?hd (xs := ([a0_0, a0_1, a0_2] : List Int)) (inner := [.int .i64 a0_0, .int .i64 a0_1, .int .i64 a0_2]) (ok := fun _ => True) (okp := fun _ => True) ?hr ?hp (fun _ hk => hk) trivial (Below.refl _ _) (Nat.le_refl _) (by simp) ?_; (case hd => rfl); (case hg => rfl); (case hr => first | (go_simp; done) | (go_simp; rfl)); (case hp => exact (Reps.one (show Kd.M (Kd.int .i64) _ _ _ a0_0 [.int .i64 a0_0] from rfl) (Reps.one (show Kd.M (Kd.int .i64) _ _ _ a0_1 [.int .i64 a0_1] from rfl) (Reps.one (show Kd.M (Kd.int .i64) _ _ _ a0_2 [.int .i64 a0_2] from rfl) (Reps.none _ _))))); intro v362 w25 ho26 hb hg_ hnew_; clear hg_ hnew_; (first | rw [← Ny361.out] at ho26 | (simp only [Int.reduceToNat] at ho26; rw [← Ny361.out] at ho26)); replace HO_3 := kr HO_3 hb; have HO363 := kl ho26 HB; replace BK351 := kb BK351 hb; replace HB := hs_ HB hb; clear hb ho26; obtain ⟨Ao27, co27, eo27⟩ := Kd.R_slice HO363.out; subst eo27) | ((with_reducible refine gate_callee (f := 51) rfl ?_); refine gl (some 31) Tryd.func51 #[.slice Ao27 y361.length co27] ?_; (with_reducible refine (impl_texts.calls k1 _ _ y361 t364 _ ?side1 ?side2 A17.out).mono ?_); (case side1 => exact cr HO363); (case side2 => exact cl HO363); rintro e w28 ⟨v365, rfl, ho0, hb⟩; refine ⟨_, rfl, ?_⟩; replace HO363 := kr HO363 hb; have HO366 := Aside0.mk (Kd.R_lower (Kd.R_new' ho0 (rt HO_3)) (below_size (bb HB))); replace HO_3 := ke HO_3 ho0 hb; replace BK351 := kb BK351 hb; replace HB := hs_ HB hb; (try clear hb); (try clear hb2); (try clear hk); (try clear hi); (try clear ho0); obtain ⟨Ao29, co29, eo29⟩ := Kd.R_slice HO366.out; subst eo29) | ((with_reducible refine gate_callee (f := 50) rfl ?_); refine gl (some 32) Tryd.func50 #[.slice Ao29 t364.length co29, .string (⟨#[45]⟩ : ByteArray)] ?_; (with_reducible refine (impl_Join.calls _ _ t364 (⟨#[45]⟩ : ByteArray) t367 _ ?side1 ?side2 A18.out).mono ?_); (case side1 => exact cr HO366); (case side2 => exact cl HO366); rintro e w30 ⟨rfl, hb⟩; refine ⟨_, rfl, ?_⟩; replace HO_3 := kr HO_3 hb; replace HO363 := kr HO363 hb; replace HO366 := kr HO366 hb; replace BK351 := kb BK351 hb; replace HB := hs_ HB hb; (try clear hb); (try clear hb2); (try clear hk); (try clear hi); obtain ⟨Ao31, co31, eo31⟩ := Kd.R_slice HO_3.out; subst eo31) | ((with_reducible refine gate_callee (f := 50) rfl ?_); refine gl (some 35) Tryd.func50 #[.slice Ao31 x3_1.length co31, .string (⟨#[62]⟩ : ByteArray)] ?_; (with_reducible refine (impl_Join.calls _ _ x3_1 (⟨#[62]⟩ : ByteArray) t368 _ ?side1 ?side2 A20.out).mono ?_); (case side1 => exact cr HO_3); (case side2 => exact cl HO_3); rintro e w32 ⟨rfl, hb⟩; refine ⟨_, rfl, ?_⟩; replace HO_3 := kr HO_3 hb; replace HO363 := kr HO363 hb; replace HO366 := kr HO366 hb; replace BK351 := kb BK351 hb; replace HB := hs_ HB hb; (try clear hb); (try clear hb2); (try clear hk); (try clear hi); have ⟨hcz33_0, hcz33_1, hcz33_2, hcz33_3, hcz33_4, hfz33_0, hfz33_1, hfz33_2, hfz33_3, hfz33_4⟩ := rz5 BK351))
                  go_ret
                  exact ⟨ee, bb HB⟩
                · rw [if_neg c23] at H
                  exact absurd H (by simp)
              · replace c22 := Bool.eq_false_iff.mpr c22
                subst c22
                have H1 : (some ((t367 ++ (⟨#[32]⟩ : ByteArray)) ++ t368)) = some r := by rw [if_neg (show ¬ (false = true) by decide)] at H; exact H
                clear H
                have H := H1
                clear H1
                obtain rfl := Option.some.inj H
                have ⟨hcz34_0, hcz34_1, hcz34_2, hcz34_3, hcz34_4, hfz34_0, hfz34_1, hfz34_2, hfz34_3, hfz34_4⟩ := rz5 BK351
                go_wp2_with (first | ((with_reducible refine gate_dst (N := 30) rfl ?_); refine Kd.R_lit (Kd.int .i64) _ 3 ?hg (N := 30) ?hd (xs := ([a0_0, a0_1, a0_2] : List Int)) (inner := [.int .i64 a0_0, .int .i64 a0_1, .int .i64 a0_2]) (ok := fun _ => True) (okp := fun _ => True) ?hr ?hp (fun _ hk => hk) trivial (Below.refl _ _) (Nat.le_refl _) (by simp) ?_; (case hd => rfl); (case hg => rfl); (case hr => first | (go_simp; done) | (go_simp; rfl)); (case hp => exact (Reps.one (show Kd.M (Kd.int .i64) _ _ _ a0_0 [.int .i64 a0_0] from rfl) (Reps.one (show Kd.M (Kd.int .i64) _ _ _ a0_1 [.int .i64 a0_1] from rfl) (Reps.one (show Kd.M (Kd.int .i64) _ _ _ a0_2 [.int .i64 a0_2] from rfl) (Reps.none _ _))))); intro v362 w35 ho36 hb hg_ hnew_; clear hg_ hnew_; (first | rw [← Ny361.out] at ho36 | (simp only [Int.reduceToNat] at ho36; rw [← Ny361.out] at ho36)); replace HO_3 := kr HO_3 hb; have HO363 := kl ho36 HB; replace BK351 := kb BK351 hb; replace HB := hs_ HB hb; clear hb ho36; obtain ⟨Ao37, co37, eo37⟩ := Kd.R_slice HO363.out; subst eo37) | ((with_reducible refine gate_callee (f := 51) rfl ?_); refine gl (some 31) Tryd.func51 #[.slice Ao37 y361.length co37] ?_; (with_reducible refine (impl_texts.calls k1 _ _ y361 t364 _ ?side1 ?side2 A17.out).mono ?_); (case side1 => exact cr HO363); (case side2 => exact cl HO363); rintro e w38 ⟨v365, rfl, ho0, hb⟩; refine ⟨_, rfl, ?_⟩; replace HO363 := kr HO363 hb; have HO366 := Aside0.mk (Kd.R_lower (Kd.R_new' ho0 (rt HO_3)) (below_size (bb HB))); replace HO_3 := ke HO_3 ho0 hb; replace BK351 := kb BK351 hb; replace HB := hs_ HB hb; (try clear hb); (try clear hb2); (try clear hk); (try clear hi); (try clear ho0); obtain ⟨Ao39, co39, eo39⟩ := Kd.R_slice HO366.out; subst eo39) | ((with_reducible refine gate_callee (f := 50) rfl ?_); refine gl (some 32) Tryd.func50 #[.slice Ao39 t364.length co39, .string (⟨#[45]⟩ : ByteArray)] ?_; (with_reducible refine (impl_Join.calls _ _ t364 (⟨#[45]⟩ : ByteArray) t367 _ ?side1 ?side2 A18.out).mono ?_); (case side1 => exact cr HO366); (case side2 => exact cl HO366); rintro e w40 ⟨rfl, hb⟩; refine ⟨_, rfl, ?_⟩; replace HO_3 := kr HO_3 hb; replace HO363 := kr HO363 hb; replace HO366 := kr HO366 hb; replace BK351 := kb BK351 hb; replace HB := hs_ HB hb; (try clear hb); (try clear hb2); (try clear hk); (try clear hi); obtain ⟨Ao41, co41, eo41⟩ := Kd.R_slice HO_3.out; subst eo41) | ((with_reducible refine gate_callee (f := 50) rfl ?_); refine gl (some 35) Tryd.func50 #[.slice Ao41 x3_1.length co41, .string (⟨#[62]⟩ : ByteArray)] ?_; (with_reducible refine (impl_Join.calls _ _ x3_1 (⟨#[62]⟩ : ByteArray) t368 _ ?side1 ?side2 A20.out).mono ?_); (case side1 => exact cr HO_3); (case side2 => exact cl HO_3); rintro e w42 ⟨rfl, hb⟩; refine ⟨_, rfl, ?_⟩; replace HO_3 := kr HO_3 hb; replace HO363 := kr HO363 hb; replace HO366 := kr HO366 hb; replace BK351 := kb BK351 hb; replace HB := hs_ HB hb; (try clear hb); (try clear hb2); (try clear hk); (try clear hi); have ⟨hcz43_0, hcz43_1, hcz43_2, hcz43_3, hcz43_4, hfz43_0, hfz43_1, hfz43_2, hfz43_3, hfz43_4⟩ := rz5 BK351))
                go_ret
                exact ⟨ee, bb HB⟩
            · rw [if_neg c21] at H
              exact absurd H (by simp)
          · rw [if_neg c19] at H
            exact absurd H (by simp)
  · replace c3 := Bool.eq_false_iff.mpr c3
    subst c3
    have H1 : (some (⟨#[]⟩ : ByteArray)) = some r := by rw [if_neg (show ¬ (false = true) by decide)] at H; exact H
    clear H
    have H := H1
    clear H1
    obtain rfl := Option.some.inj H
    go_enter Tryd.func23, Tryd.ntmps23
    go_wp2_with (first | ((with_reducible refine gate_dst (N := 1) rfl ?_); refine bx (N := 1) (cs := #[.int .i64 a0_0, .int .i64 a0_1, .int .i64 a0_2, .slice A0_3 l0_3.length c0_3, .bool a0_4]) (t := 47) ?_; intro gb351 hg w44 hbox hb; have BK351 := Aside0.mk (hbox); have GW351 := gs hg HB; have GE351 := gs hg HB; replace HB := hs_ HB hb; clear hb hbox hg; have ⟨hcz45_0, hcz45_1, hcz45_2, hcz45_3, hcz45_4, hfz45_0, hfz45_1, hfz45_2, hfz45_3, hfz45_4⟩ := rz5 BK351) | ((with_reducible refine gate_callee (f := 61) rfl ?_); refine gl (some 8) Tryd.func61 #[.agg #[.int .i64 a0_0, .int .i64 a0_1, .int .i64 a0_2, .slice A0_3 l0_3.length c0_3, .bool a0_4]] ?_; (with_reducible refine (impl_RulesOk.calls k a0_0 a0_1 a0_2 _ _ l0_3 a0_4 false _ ?side1 ?side2 A2.out).mono ?_); (case side1 => exact cc HR0_3 HB); (case side2 => exact HC0_3.out); rintro e w46 ⟨rfl, hb⟩; refine ⟨_, rfl, ?_⟩; replace BK351 := kb BK351 hb; replace HB := hs_ HB hb; (try clear hb); (try clear hb2); (try clear hk); (try clear hi)))
    go_ret
    exact ⟨ee, bb HB⟩
end Go.Proofs.YtibmeomlokigjaaDoor.Q
namespace Go.Proofs.YtibmeomlokigjaaDoor.Q
open Go.RowKit Go.Proofs.YtibmeomlokigjaaDoorW.PrintWords Go.Proofs.YtibmeomlokigjaaDoorW.PrintLast Go.Proofs.YtibmeomlokigjaaDoorW.PrintMore
attribute [local go_sem] max2_int min2_int max_two min_two max_three min_three max_four min_four
set_option linter.unusedVariables false
set_option linter.unusedSimpArgs false
def laws_eqIntS.l0 : Nat → List Int → List Int → Int → Option (Bool)
  | 0, _, _, _ => none
  | k + 1, x0, x1, x5 => if x5 < (x0.length : Int) then (if 0 ≤ x5 then (if x5 < (x1.length : Int) then (if (rd x0 x5) = (rd x1 x5) then (laws_eqIntS.l0 k x0 x1 (wrap64 (x5 + 1))) else (some false)) else (none)) else (none)) else (some true)
def laws_eqIntS.f (k : Nat) (l0 : List Int) (l1 : List Int) : Option (Bool) := if (l0.length : Int) = (l1.length : Int) then (laws_eqIntS.l0 k l0 l1 0) else (some false)
set_option maxHeartbeats 8000000 in
set_option maxRecDepth 100000 in
theorem laws_eqIntS.calls (k : Nat) (A0 : Option Addr) (c0 : Nat) (l0 : List Int) (A1 : Option Addr) (c1 : Nat) (l1 : List Int) (r : Bool) (w : World) (hr0 : Kd.C (Kd.int .i64) w A0 l0.length l0) (hc0 : l0.length ≤ c0) (hr1 : Kd.C (Kd.int .i64) w A1 l1.length l1) (hc1 : l1.length ≤ c1) (h : laws_eqIntS.f k l0 l1 = some r) :
    Calls Tryd.prog 63 #[.slice A0 l0.length c0, .slice A1 l1.length c1] w fun e w' => e = .returned (.bool r) ∧ Drawn0 w w' := by
  have HR0 := Aside0.mk hr0
  have HC0 := Aside0.mk hc0
  clear hr0 hc0
  have HR1 := Aside0.mk hr1
  have HC1 := Aside0.mk hc1
  clear hr1 hc1
  have H : (if (l0.length : Int) = (l1.length : Int) then (laws_eqIntS.l0 k l0 l1 0) else (some false)) = some r := h
  clear h
  by_cases c3 : (l0.length : Int) = (l1.length : Int)
  · rw [if_pos c3] at H
    have c3b0 : ((l0.length : Int) == (l1.length : Int)) = true := beq_iff_eq.mpr c3
    have c3b1 : ((l0.length : Int) != (l1.length : Int)) = false := bne_eq_false_iff_eq.mpr c3
    have c3b2 : (l0.length == l1.length) = true := by first | simpa using c3 | (simp at c3 ⊢; omega)
    clear c3
    have H' := Aside0.mk H
    clear H
    go_enter Tryd.func63, Tryd.ntmps63
    go_wp2
    repeat (go_quiet (fail); try go_wp2)
    go_loopg [5] k (fun kq v5 w' => ∃ (x5_1 : Int), v5 = .int .i64 x5_1 ∧ Aside0 (laws_eqIntS.l0 kq l0 l1 x5_1 = some r) ∧ Aside0 (kq ≤ k) ∧ Drawn0 w w')
    case atStart => exact ⟨(0), e2_, H', ⟨Nat.le_refl _⟩, by repeat (first | exact Drawn0.refl _ | apply Drawn0.step)⟩
    case round =>
      clear H'
      (try clear c1)
      (try clear p2)
      (try clear c3)
      (try clear c3b0)
      (try clear c3b1)
      (try clear c3b2)
      obtain ⟨x5_1, rfl, HA, HK1, ⟨m1, rfl⟩⟩ := hrel
      cases gk with
      | zero => exact absurd HA.out (by simp [laws_eqIntS.l0])
      | succ k1 =>
        have H := HA.out
        clear HA
        simp only [laws_eqIntS.l0] at H
        by_cases c4 : x5_1 < (l0.length : Int)
        · rw [if_pos c4] at H
          have c4b0 : decide (x5_1 < (l0.length : Int)) = true := decide_eq_true c4
          clear c4
          by_cases c5 : 0 ≤ x5_1
          · rw [if_pos c5] at H
            have c5b0 : decide (0 ≤ x5_1) = true := decide_eq_true c5
            clear c5
            by_cases c6 : x5_1 < (l1.length : Int)
            · rw [if_pos c6] at H
              have c6b0 : decide (x5_1 < (l1.length : Int)) = true := decide_eq_true c6
              clear c6
              by_cases c7 : (rd l0 x5_1) = (rd l1 x5_1)
              · rw [if_pos c7] at H
                have c7b0 : ((rd l0 x5_1) == (rd l1 x5_1)) = true := beq_iff_eq.mpr c7
                have c7b1 : ((rd l0 x5_1) != (rd l1 x5_1)) = false := bne_eq_false_iff_eq.mpr c7
                clear c7
                have H' := Aside0.mk H
                clear H
                have p369 : 0 ≤ (x5_1 : Int) := of_decide_eq_true (by first | (with_reducible assumption) | assumption)
                have q369 : x5_1 < (l0.length : Int) := of_decide_eq_true (by first | (with_reducible assumption) | assumption)
                obtain ⟨ad369, e369, hx369_0⟩ := Kd.at_int HR0.out x5_1 p369 q369
                cases e369
                replace p369 := eq_true p369
                replace q369 := eq_true q369
                have p370 : 0 ≤ (x5_1 : Int) := of_decide_eq_true (by first | (with_reducible assumption) | assumption)
                have q370 : x5_1 < (l1.length : Int) := of_decide_eq_true (by first | (with_reducible assumption) | assumption)
                obtain ⟨ad370, e370, hx370_0⟩ := Kd.at_int HR1.out x5_1 p370 q370
                cases e370
                replace p370 := eq_true p370
                replace q370 := eq_true q370
                go_wp2
                repeat (go_quiet (fail); try go_wp2)
                go_roundg k1
                case measure => have := HK1.out; omega
                case rel => exact ⟨(wrap64 (x5_1 + 1)), e2_, H', ⟨by have := HK1.out; omega⟩, by repeat (first | exact Drawn0.refl _ | apply Drawn0.step)⟩
              · rw [if_neg c7] at H
                have c7b0 : ((rd l0 x5_1) == (rd l1 x5_1)) = false := beq_eq_false_iff_ne.mpr c7
                have c7b1 : ((rd l0 x5_1) != (rd l1 x5_1)) = true := bne_iff_ne.mpr c7
                obtain rfl := Option.some.inj H
                have p369 : 0 ≤ (x5_1 : Int) := of_decide_eq_true (by first | (with_reducible assumption) | assumption)
                have q369 : x5_1 < (l0.length : Int) := of_decide_eq_true (by first | (with_reducible assumption) | assumption)
                obtain ⟨ad369, e369, hx369_0⟩ := Kd.at_int HR0.out x5_1 p369 q369
                cases e369
                replace p369 := eq_true p369
                replace q369 := eq_true q369
                have p370 : 0 ≤ (x5_1 : Int) := of_decide_eq_true (by first | (with_reducible assumption) | assumption)
                have q370 : x5_1 < (l1.length : Int) := of_decide_eq_true (by first | (with_reducible assumption) | assumption)
                obtain ⟨ad370, e370, hx370_0⟩ := Kd.at_int HR1.out x5_1 p370 q370
                cases e370
                replace p370 := eq_true p370
                replace q370 := eq_true q370
                go_wp2
                repeat (go_quiet (fail); try go_wp2)
                go_ret
                exact ⟨e2_, by repeat (first | exact Drawn0.refl _ | apply Drawn0.step)⟩
            · rw [if_neg c6] at H
              exact absurd H (by simp)
          · rw [if_neg c5] at H
            exact absurd H (by simp)
        · rw [if_neg c4] at H
          have c4b0 : decide (x5_1 < (l0.length : Int)) = false := decide_eq_false c4
          clear c4
          obtain rfl := Option.some.inj H
          go_wp2
          repeat (go_quiet (fail); try go_wp2)
          go_ret
          exact ⟨e2_, by repeat (first | exact Drawn0.refl _ | apply Drawn0.step)⟩
  · rw [if_neg c3] at H
    have c3b0 : ((l0.length : Int) == (l1.length : Int)) = false := beq_eq_false_iff_ne.mpr c3
    have c3b1 : ((l0.length : Int) != (l1.length : Int)) = true := bne_iff_ne.mpr c3
    have c3b2 : (l0.length == l1.length) = false := by first | simpa using c3 | (simp at c3 ⊢; omega)
    obtain rfl := Option.some.inj H
    go_enter Tryd.func63, Tryd.ntmps63
    go_wp2
    repeat (go_quiet (fail); try go_wp2)
    go_ret
    exact ⟨e2_, by repeat (first | exact Drawn0.refl _ | apply Drawn0.step)⟩
end Go.Proofs.YtibmeomlokigjaaDoor.Q
namespace Go.Proofs.YtibmeomlokigjaaDoor.Q
open Go.RowKit Go.Proofs.YtibmeomlokigjaaDoorW.PrintWords Go.Proofs.YtibmeomlokigjaaDoorW.PrintLast Go.Proofs.YtibmeomlokigjaaDoorW.PrintMore
attribute [local go_sem] max2_int min2_int max_two min_two max_three min_three max_four min_four
set_option linter.unusedVariables false
set_option linter.unusedSimpArgs false
def laws_eqRules.f (k : Nat) (a0_0 : Int) (a0_1 : Int) (a0_2 : Int) (l0_3 : List Int) (a0_4 : Bool) (a1_0 : Int) (a1_1 : Int) (a1_2 : Int) (l1_3 : List Int) (a1_4 : Bool) : Option (Bool) := if a0_0 = a1_0 then (if a0_1 = a1_1 then (if a0_2 = a1_2 then ((laws_eqIntS.f k l0_3 l1_3).bind fun t373 => (if t373 = true then (if (a0_4 != a1_4) = true then (some false) else (some true)) else (some false))) else (some false)) else (some false)) else (some false)
set_option maxHeartbeats 8000000 in
set_option maxRecDepth 100000 in
theorem laws_eqRules.calls (k : Nat) (a0_0 : Int) (a0_1 : Int) (a0_2 : Int) (A0_3 : Option Addr) (c0_3 : Nat) (l0_3 : List Int) (a0_4 : Bool) (a1_0 : Int) (a1_1 : Int) (a1_2 : Int) (A1_3 : Option Addr) (c1_3 : Nat) (l1_3 : List Int) (a1_4 : Bool) (r : Bool) (w : World) (hr0_3 : Kd.C (Kd.int .i64) w A0_3 l0_3.length l0_3) (hc0_3 : l0_3.length ≤ c0_3) (hr1_3 : Kd.C (Kd.int .i64) w A1_3 l1_3.length l1_3) (hc1_3 : l1_3.length ≤ c1_3) (h : laws_eqRules.f k a0_0 a0_1 a0_2 l0_3 a0_4 a1_0 a1_1 a1_2 l1_3 a1_4 = some r) :
    Calls Tryd.prog 24 #[.agg #[.int .i64 a0_0, .int .i64 a0_1, .int .i64 a0_2, .slice A0_3 l0_3.length c0_3, .bool a0_4], .agg #[.int .i64 a1_0, .int .i64 a1_1, .int .i64 a1_2, .slice A1_3 l1_3.length c1_3, .bool a1_4]] w fun e w' => e = .returned (.bool r) ∧ Below w.heap.size w w' := by
  have hu47 := Tryd.underlying47
  have HR0_3 := Aside0.mk hr0_3
  have HC0_3 := Aside0.mk hc0_3
  clear hr0_3 hc0_3
  have HR1_3 := Aside0.mk hr1_3
  have HC1_3 := Aside0.mk hc1_3
  clear hr1_3 hc1_3
  have HB := Aside0.mk (Below.refl w.heap.size w)
  have H : (if a0_0 = a1_0 then (if a0_1 = a1_1 then (if a0_2 = a1_2 then ((laws_eqIntS.f k l0_3 l1_3).bind fun t373 => (if t373 = true then (if (a0_4 != a1_4) = true then (some false) else (some true)) else (some false))) else (some false)) else (some false)) else (some false)) = some r := h
  clear h
  by_cases c3 : a0_0 = a1_0
  · rw [if_pos c3] at H
    have c3b0 : (a0_0 == a1_0) = true := beq_iff_eq.mpr c3
    have c3b1 : (a0_0 != a1_0) = false := bne_eq_false_iff_eq.mpr c3
    clear c3
    by_cases c4 : a0_1 = a1_1
    · rw [if_pos c4] at H
      have c4b0 : (a0_1 == a1_1) = true := beq_iff_eq.mpr c4
      have c4b1 : (a0_1 != a1_1) = false := bne_eq_false_iff_eq.mpr c4
      clear c4
      by_cases c5 : a0_2 = a1_2
      · rw [if_pos c5] at H
        have c5b0 : (a0_2 == a1_2) = true := beq_iff_eq.mpr c5
        have c5b1 : (a0_2 != a1_2) = false := bne_eq_false_iff_eq.mpr c5
        clear c5
        replace H := Option.bind_eq_some_iff.mp H
        obtain ⟨t373, A60, H⟩ := H
        replace H : (if t373 = true then (if (a0_4 != a1_4) = true then (some false) else (some true)) else (some false)) = some r := H
        have A6 := Aside0.mk A60
        clear A60
        by_cases c7 : t373 = true
        · subst c7
          have H1 : (if (a0_4 != a1_4) = true then (some false) else (some true)) = some r := by rw [if_pos rfl] at H; exact H
          clear H
          have H := H1
          clear H1
          by_cases c8 : (a0_4 != a1_4) = true
          · rw [if_pos c8] at H
            have c8b0 : (a0_4 != a1_4) = true := c8
            (try (have c8b1 : decide (a0_4 = a1_4) = false := by simpa using c8))
            (try (have c8b2 : (a0_4 == a1_4) = false := by simpa using c8))
            (try (have c8b3 : ¬ (a0_4 = a1_4) := by simpa using c8))
            clear c8
            obtain rfl := Option.some.inj H
            go_enter Tryd.func24, Tryd.ntmps24
            go_wp2_with (first | ((with_reducible refine gate_dst (N := 2) rfl ?_); refine bx (N := 2) (cs := #[.int .i64 a0_0, .int .i64 a0_1, .int .i64 a0_2, .slice A0_3 l0_3.length c0_3, .bool a0_4]) (t := 47) ?_; intro gb371 hg w9 hbox hb; have BK371 := Aside0.mk (hbox); have GW371 := gs hg HB; have GE371 := gs hg HB; replace HB := hs_ HB hb; clear hb hbox hg) | ((with_reducible refine gate_dst (N := 3) rfl ?_); refine bx (N := 3) (cs := #[.int .i64 a1_0, .int .i64 a1_1, .int .i64 a1_2, .slice A1_3 l1_3.length c1_3, .bool a1_4]) (t := 47) ?_; intro gb372 hg w10 hbox hb; have BK372 := Aside0.mk (hbox); have GW372 := gs hg HB; have GE372 := gs hg HB; replace HB := hs_ HB hb; have NB371_372 := gn hg BK371; have NB372_371 := gm hg BK371; replace BK371 := kb BK371 hb; clear hb hbox hg; have hnb11 := NB371_372.out; have hnc11 := NB372_371.out; have ⟨hcz12_0, hcz12_1, hcz12_2, hcz12_3, hcz12_4, hfz12_0, hfz12_1, hfz12_2, hfz12_3, hfz12_4⟩ := rz5 BK371; have ⟨hcz13_0, hcz13_1, hcz13_2, hcz13_3, hcz13_4, hfz13_0, hfz13_1, hfz13_2, hfz13_3, hfz13_4⟩ := rz5 BK372) | ((with_reducible refine gate_callee (f := 63) rfl ?_); refine gl (some 24) Tryd.func63 #[.slice A0_3 l0_3.length c0_3, .slice A1_3 l1_3.length c1_3] ?_; (with_reducible refine (laws_eqIntS.calls k _ _ l0_3 _ _ l1_3 true _ ?side1 ?side2 ?side3 ?side4 A6.out).mono ?_); (case side1 => exact cc HR0_3 HB); (case side2 => exact HC0_3.out); (case side3 => exact cc HR1_3 HB); (case side4 => exact HC1_3.out); rintro e w' ⟨rfl, ⟨nd, rfl⟩⟩; refine ⟨_, rfl, ?_⟩))
            go_ret
            exact ⟨ee, bb HB⟩
          · rw [if_neg c8] at H
            have c8b0 : (a0_4 != a1_4) = false := by simpa using c8
            (try (have c8b1 : decide (a0_4 = a1_4) = true := by simpa using c8))
            (try (have c8b2 : (a0_4 == a1_4) = true := by simpa using c8))
            clear c8
            obtain rfl := Option.some.inj H
            go_enter Tryd.func24, Tryd.ntmps24
            go_wp2_with (first | ((with_reducible refine gate_dst (N := 2) rfl ?_); refine bx (N := 2) (cs := #[.int .i64 a0_0, .int .i64 a0_1, .int .i64 a0_2, .slice A0_3 l0_3.length c0_3, .bool a0_4]) (t := 47) ?_; intro gb371 hg w14 hbox hb; have BK371 := Aside0.mk (hbox); have GW371 := gs hg HB; have GE371 := gs hg HB; replace HB := hs_ HB hb; clear hb hbox hg) | ((with_reducible refine gate_dst (N := 3) rfl ?_); refine bx (N := 3) (cs := #[.int .i64 a1_0, .int .i64 a1_1, .int .i64 a1_2, .slice A1_3 l1_3.length c1_3, .bool a1_4]) (t := 47) ?_; intro gb372 hg w15 hbox hb; have BK372 := Aside0.mk (hbox); have GW372 := gs hg HB; have GE372 := gs hg HB; replace HB := hs_ HB hb; have NB371_372 := gn hg BK371; have NB372_371 := gm hg BK371; replace BK371 := kb BK371 hb; clear hb hbox hg; have hnb16 := NB371_372.out; have hnc16 := NB372_371.out; have ⟨hcz17_0, hcz17_1, hcz17_2, hcz17_3, hcz17_4, hfz17_0, hfz17_1, hfz17_2, hfz17_3, hfz17_4⟩ := rz5 BK371; have ⟨hcz18_0, hcz18_1, hcz18_2, hcz18_3, hcz18_4, hfz18_0, hfz18_1, hfz18_2, hfz18_3, hfz18_4⟩ := rz5 BK372) | ((with_reducible refine gate_callee (f := 63) rfl ?_); refine gl (some 24) Tryd.func63 #[.slice A0_3 l0_3.length c0_3, .slice A1_3 l1_3.length c1_3] ?_; (with_reducible refine (laws_eqIntS.calls k _ _ l0_3 _ _ l1_3 true _ ?side1 ?side2 ?side3 ?side4 A6.out).mono ?_); (case side1 => exact cc HR0_3 HB); (case side2 => exact HC0_3.out); (case side3 => exact cc HR1_3 HB); (case side4 => exact HC1_3.out); rintro e w' ⟨rfl, ⟨nd, rfl⟩⟩; refine ⟨_, rfl, ?_⟩))
            go_ret
            exact ⟨ee, bb HB⟩
        · replace c7 := Bool.eq_false_iff.mpr c7
          subst c7
          have H1 : (some false) = some r := by rw [if_neg (show ¬ (false = true) by decide)] at H; exact H
          clear H
          have H := H1
          clear H1
          obtain rfl := Option.some.inj H
          go_enter Tryd.func24, Tryd.ntmps24
          go_wp2_with (first | ((with_reducible refine gate_dst (N := 2) rfl ?_); refine bx (N := 2) (cs := #[.int .i64 a0_0, .int .i64 a0_1, .int .i64 a0_2, .slice A0_3 l0_3.length c0_3, .bool a0_4]) (t := 47) ?_; intro gb371 hg w19 hbox hb; have BK371 := Aside0.mk (hbox); have GW371 := gs hg HB; have GE371 := gs hg HB; replace HB := hs_ HB hb; clear hb hbox hg) | ((with_reducible refine gate_dst (N := 3) rfl ?_); refine bx (N := 3) (cs := #[.int .i64 a1_0, .int .i64 a1_1, .int .i64 a1_2, .slice A1_3 l1_3.length c1_3, .bool a1_4]) (t := 47) ?_; intro gb372 hg w20 hbox hb; have BK372 := Aside0.mk (hbox); have GW372 := gs hg HB; have GE372 := gs hg HB; replace HB := hs_ HB hb; have NB371_372 := gn hg BK371; have NB372_371 := gm hg BK371; replace BK371 := kb BK371 hb; clear hb hbox hg; have hnb21 := NB371_372.out; have hnc21 := NB372_371.out; have ⟨hcz22_0, hcz22_1, hcz22_2, hcz22_3, hcz22_4, hfz22_0, hfz22_1, hfz22_2, hfz22_3, hfz22_4⟩ := rz5 BK371; have ⟨hcz23_0, hcz23_1, hcz23_2, hcz23_3, hcz23_4, hfz23_0, hfz23_1, hfz23_2, hfz23_3, hfz23_4⟩ := rz5 BK372) | ((with_reducible refine gate_callee (f := 63) rfl ?_); refine gl (some 24) Tryd.func63 #[.slice A0_3 l0_3.length c0_3, .slice A1_3 l1_3.length c1_3] ?_; (with_reducible refine (laws_eqIntS.calls k _ _ l0_3 _ _ l1_3 false _ ?side1 ?side2 ?side3 ?side4 A6.out).mono ?_); (case side1 => exact cc HR0_3 HB); (case side2 => exact HC0_3.out); (case side3 => exact cc HR1_3 HB); (case side4 => exact HC1_3.out); rintro e w' ⟨rfl, ⟨nd, rfl⟩⟩; refine ⟨_, rfl, ?_⟩))
          go_ret
          exact ⟨ee, bb HB⟩
      · rw [if_neg c5] at H
        have c5b0 : (a0_2 == a1_2) = false := beq_eq_false_iff_ne.mpr c5
        have c5b1 : (a0_2 != a1_2) = true := bne_iff_ne.mpr c5
        obtain rfl := Option.some.inj H
        go_enter Tryd.func24, Tryd.ntmps24
        go_wp2_with (first | ((with_reducible refine gate_dst (N := 2) rfl ?_); refine bx (N := 2) (cs := #[.int .i64 a0_0, .int .i64 a0_1, .int .i64 a0_2, .slice A0_3 l0_3.length c0_3, .bool a0_4]) (t := 47) ?_; intro gb371 hg w24 hbox hb; have BK371 := Aside0.mk (hbox); have GW371 := gs hg HB; have GE371 := gs hg HB; replace HB := hs_ HB hb; clear hb hbox hg) | ((with_reducible refine gate_dst (N := 3) rfl ?_); refine bx (N := 3) (cs := #[.int .i64 a1_0, .int .i64 a1_1, .int .i64 a1_2, .slice A1_3 l1_3.length c1_3, .bool a1_4]) (t := 47) ?_; intro gb372 hg w25 hbox hb; have BK372 := Aside0.mk (hbox); have GW372 := gs hg HB; have GE372 := gs hg HB; replace HB := hs_ HB hb; have NB371_372 := gn hg BK371; have NB372_371 := gm hg BK371; replace BK371 := kb BK371 hb; clear hb hbox hg; have hnb26 := NB371_372.out; have hnc26 := NB372_371.out; have ⟨hcz27_0, hcz27_1, hcz27_2, hcz27_3, hcz27_4, hfz27_0, hfz27_1, hfz27_2, hfz27_3, hfz27_4⟩ := rz5 BK371; have ⟨hcz28_0, hcz28_1, hcz28_2, hcz28_3, hcz28_4, hfz28_0, hfz28_1, hfz28_2, hfz28_3, hfz28_4⟩ := rz5 BK372))
        go_ret
        exact ⟨ee, bb HB⟩
    · rw [if_neg c4] at H
      have c4b0 : (a0_1 == a1_1) = false := beq_eq_false_iff_ne.mpr c4
      have c4b1 : (a0_1 != a1_1) = true := bne_iff_ne.mpr c4
      obtain rfl := Option.some.inj H
      go_enter Tryd.func24, Tryd.ntmps24
      go_wp2_with (first | ((with_reducible refine gate_dst (N := 2) rfl ?_); refine bx (N := 2) (cs := #[.int .i64 a0_0, .int .i64 a0_1, .int .i64 a0_2, .slice A0_3 l0_3.length c0_3, .bool a0_4]) (t := 47) ?_; intro gb371 hg w29 hbox hb; have BK371 := Aside0.mk (hbox); have GW371 := gs hg HB; have GE371 := gs hg HB; replace HB := hs_ HB hb; clear hb hbox hg) | ((with_reducible refine gate_dst (N := 3) rfl ?_); refine bx (N := 3) (cs := #[.int .i64 a1_0, .int .i64 a1_1, .int .i64 a1_2, .slice A1_3 l1_3.length c1_3, .bool a1_4]) (t := 47) ?_; intro gb372 hg w30 hbox hb; have BK372 := Aside0.mk (hbox); have GW372 := gs hg HB; have GE372 := gs hg HB; replace HB := hs_ HB hb; have NB371_372 := gn hg BK371; have NB372_371 := gm hg BK371; replace BK371 := kb BK371 hb; clear hb hbox hg; have hnb31 := NB371_372.out; have hnc31 := NB372_371.out; have ⟨hcz32_0, hcz32_1, hcz32_2, hcz32_3, hcz32_4, hfz32_0, hfz32_1, hfz32_2, hfz32_3, hfz32_4⟩ := rz5 BK371; have ⟨hcz33_0, hcz33_1, hcz33_2, hcz33_3, hcz33_4, hfz33_0, hfz33_1, hfz33_2, hfz33_3, hfz33_4⟩ := rz5 BK372))
      go_ret
      exact ⟨ee, bb HB⟩
  · rw [if_neg c3] at H
    have c3b0 : (a0_0 == a1_0) = false := beq_eq_false_iff_ne.mpr c3
    have c3b1 : (a0_0 != a1_0) = true := bne_iff_ne.mpr c3
    obtain rfl := Option.some.inj H
    go_enter Tryd.func24, Tryd.ntmps24
    go_wp2_with (first | ((with_reducible refine gate_dst (N := 2) rfl ?_); refine bx (N := 2) (cs := #[.int .i64 a0_0, .int .i64 a0_1, .int .i64 a0_2, .slice A0_3 l0_3.length c0_3, .bool a0_4]) (t := 47) ?_; intro gb371 hg w34 hbox hb; have BK371 := Aside0.mk (hbox); have GW371 := gs hg HB; have GE371 := gs hg HB; replace HB := hs_ HB hb; clear hb hbox hg) | ((with_reducible refine gate_dst (N := 3) rfl ?_); refine bx (N := 3) (cs := #[.int .i64 a1_0, .int .i64 a1_1, .int .i64 a1_2, .slice A1_3 l1_3.length c1_3, .bool a1_4]) (t := 47) ?_; intro gb372 hg w35 hbox hb; have BK372 := Aside0.mk (hbox); have GW372 := gs hg HB; have GE372 := gs hg HB; replace HB := hs_ HB hb; have NB371_372 := gn hg BK371; have NB372_371 := gm hg BK371; replace BK371 := kb BK371 hb; clear hb hbox hg; have hnb36 := NB371_372.out; have hnc36 := NB372_371.out; have ⟨hcz37_0, hcz37_1, hcz37_2, hcz37_3, hcz37_4, hfz37_0, hfz37_1, hfz37_2, hfz37_3, hfz37_4⟩ := rz5 BK371; have ⟨hcz38_0, hcz38_1, hcz38_2, hcz38_3, hcz38_4, hfz38_0, hfz38_1, hfz38_2, hfz38_3, hfz38_4⟩ := rz5 BK372))
    go_ret
    exact ⟨ee, bb HB⟩
end Go.Proofs.YtibmeomlokigjaaDoor.Q
namespace Go.Proofs.YtibmeomlokigjaaDoor.Q
open Go.RowKit Go.Proofs.YtibmeomlokigjaaDoorW.PrintWords Go.Proofs.YtibmeomlokigjaaDoorW.PrintLast Go.Proofs.YtibmeomlokigjaaDoorW.PrintMore
attribute [local go_sem] max2_int min2_int max_two min_two max_three min_three max_four min_four
set_option linter.unusedVariables false
set_option linter.unusedSimpArgs false
def laws_FnExactFormatRules.f (k : Nat) (a0_0 : Int) (a0_1 : Int) (a0_2 : Int) (l0_3 : List Int) (a0_4 : Bool) : Option (Bool) := (laws_szRules.f a0_0 a0_1 a0_2 l0_3 a0_4 1048576).bind fun t375 => (if t375 < 0 then (some true) else ((laws_toRules.f k a0_0 a0_1 a0_2 l0_3 a0_4).bind fun bt376 => ((spec_FormatRules.f k bt376.1 bt376.2.1 bt376.2.2.1 bt376.2.2.2.1 bt376.2.2.2.2).bind fun t383 => ((laws_toRules.f k a0_0 a0_1 a0_2 l0_3 a0_4).bind fun bt384 => ((impl_FormatRules.f k bt384.1 bt384.2.1 bt384.2.2.1 bt384.2.2.2.1 bt384.2.2.2.2).bind fun t392 => (if t392.toList = t383.toList then ((laws_toRules.f k a0_0 a0_1 a0_2 l0_3 a0_4).bind fun bt393 => ((laws_eqRules.f k bt384.1 bt384.2.1 bt384.2.2.1 bt384.2.2.2.1 bt384.2.2.2.2 bt393.1 bt393.2.1 bt393.2.2.1 bt393.2.2.2.1 bt393.2.2.2.2).bind fun t400 => (if t400 = true then (some true) else (some false)))) else (some false)))))))
set_option maxHeartbeats 8000000 in
set_option maxRecDepth 100000 in
theorem laws_FnExactFormatRules.calls (k : Nat) (a0_0 : Int) (a0_1 : Int) (a0_2 : Int) (A0_3 : Option Addr) (c0_3 : Nat) (l0_3 : List Int) (a0_4 : Bool) (r : Bool) (w : World) (hr0_3 : Kd.C (Kd.int .i64) w A0_3 l0_3.length l0_3) (hc0_3 : l0_3.length ≤ c0_3) (h : laws_FnExactFormatRules.f k a0_0 a0_1 a0_2 l0_3 a0_4 = some r) :
    Calls Tryd.prog 6 #[.agg #[.int .i64 a0_0, .int .i64 a0_1, .int .i64 a0_2, .slice A0_3 l0_3.length c0_3, .bool a0_4]] w fun e w' => e = .returned (.bool r) ∧ Below w.heap.size w w' := by
  have hu44 := Tryd.underlying44
  have hu47 := Tryd.underlying47
  have HR0_3 := Aside0.mk hr0_3
  have HC0_3 := Aside0.mk hc0_3
  clear hr0_3 hc0_3
  have HB := Aside0.mk (Below.refl w.heap.size w)
  have H : ((laws_szRules.f a0_0 a0_1 a0_2 l0_3 a0_4 1048576).bind fun t375 => (if t375 < 0 then (some true) else ((laws_toRules.f k a0_0 a0_1 a0_2 l0_3 a0_4).bind fun bt376 => ((spec_FormatRules.f k bt376.1 bt376.2.1 bt376.2.2.1 bt376.2.2.2.1 bt376.2.2.2.2).bind fun t383 => ((laws_toRules.f k a0_0 a0_1 a0_2 l0_3 a0_4).bind fun bt384 => ((impl_FormatRules.f k bt384.1 bt384.2.1 bt384.2.2.1 bt384.2.2.2.1 bt384.2.2.2.2).bind fun t392 => (if t392.toList = t383.toList then ((laws_toRules.f k a0_0 a0_1 a0_2 l0_3 a0_4).bind fun bt393 => ((laws_eqRules.f k bt384.1 bt384.2.1 bt384.2.2.1 bt384.2.2.2.1 bt384.2.2.2.2 bt393.1 bt393.2.1 bt393.2.2.1 bt393.2.2.2.1 bt393.2.2.2.2).bind fun t400 => (if t400 = true then (some true) else (some false)))) else (some false)))))))) = some r := h
  clear h
  replace H := Option.bind_eq_some_iff.mp H
  obtain ⟨t375, A20, H⟩ := H
  replace H : (if t375 < 0 then (some true) else ((laws_toRules.f k a0_0 a0_1 a0_2 l0_3 a0_4).bind fun bt376 => ((spec_FormatRules.f k bt376.1 bt376.2.1 bt376.2.2.1 bt376.2.2.2.1 bt376.2.2.2.2).bind fun t383 => ((laws_toRules.f k a0_0 a0_1 a0_2 l0_3 a0_4).bind fun bt384 => ((impl_FormatRules.f k bt384.1 bt384.2.1 bt384.2.2.1 bt384.2.2.2.1 bt384.2.2.2.2).bind fun t392 => (if t392.toList = t383.toList then ((laws_toRules.f k a0_0 a0_1 a0_2 l0_3 a0_4).bind fun bt393 => ((laws_eqRules.f k bt384.1 bt384.2.1 bt384.2.2.1 bt384.2.2.2.1 bt384.2.2.2.2 bt393.1 bt393.2.1 bt393.2.2.1 bt393.2.2.2.1 bt393.2.2.2.2).bind fun t400 => (if t400 = true then (some true) else (some false)))) else (some false))))))) = some r := H
  have A2 := Aside0.mk A20
  clear A20
  have HC3 := Aside0.mk H
  clear H
  go_enter Tryd.func6, Tryd.ntmps6
  go_upto_if 11 with (first | ((with_reducible refine gate_dst (N := 1) rfl ?_); refine bx (N := 1) (cs := #[.int .i64 a0_0, .int .i64 a0_1, .int .i64 a0_2, .slice A0_3 l0_3.length c0_3, .bool a0_4]) (t := 44) ?_; intro gb374 hg w4 hbox hb; have BK374 := Aside0.mk (hbox); have GW374 := gs hg HB; have GE374 := gs hg HB; replace HB := hs_ HB hb; clear hb hbox hg; have ⟨hcz5_0, hcz5_1, hcz5_2, hcz5_3, hcz5_4, hfz5_0, hfz5_1, hfz5_2, hfz5_3, hfz5_4⟩ := rz5 BK374) | ((with_reducible refine gate_callee (f := 20) rfl ?_); refine gl (some 9) Tryd.func20 #[.agg #[.int .i64 a0_0, .int .i64 a0_1, .int .i64 a0_2, .slice A0_3 l0_3.length c0_3, .bool a0_4], .int .i64 1048576] ?_; (with_reducible refine (laws_szRules.calls a0_0 a0_1 a0_2 _ _ l0_3 a0_4 1048576 t375 _ ?side1 ?side2 A2.out).mono ?_); (case side1 => exact cc HR0_3 HB); (case side2 => exact HC0_3.out); rintro e w6 ⟨rfl, hb⟩; refine ⟨_, rfl, ?_⟩; replace BK374 := kb BK374 hb; replace HB := hs_ HB hb; (try clear hb); (try clear hb2); (try clear hk); (try clear hi)))
  (try simp only [Act.put, List.setIfInBounds_toArray, List.set_cons_zero, List.set_cons_succ])
  have H := HC3.out
  clear HC3
  by_cases c7 : t375 < 0
  · rw [if_pos c7] at H
    have c7b0 : decide (t375 < 0) = true := decide_eq_true c7
    clear c7
    (first | rw [c7b0] | (simp only [i64_w, i32_w]; rw [c7b0]) | skip)
    obtain rfl := Option.some.inj H
    go_wp2
    go_ret
    exact ⟨ee, bb HB⟩
  · rw [if_neg c7] at H
    have c7b0 : decide (t375 < 0) = false := decide_eq_false c7
    clear c7
    (first | rw [c7b0] | (simp only [i64_w, i32_w]; rw [c7b0]) | skip)
    replace H := Option.bind_eq_some_iff.mp H
    obtain ⟨⟨t376, t377, t378, t379, t382⟩, A80, H⟩ := H
    replace H : ((spec_FormatRules.f k t376 t377 t378 t379 t382).bind fun t383 => ((laws_toRules.f k a0_0 a0_1 a0_2 l0_3 a0_4).bind fun bt384 => ((impl_FormatRules.f k bt384.1 bt384.2.1 bt384.2.2.1 bt384.2.2.2.1 bt384.2.2.2.2).bind fun t392 => (if t392.toList = t383.toList then ((laws_toRules.f k a0_0 a0_1 a0_2 l0_3 a0_4).bind fun bt393 => ((laws_eqRules.f k bt384.1 bt384.2.1 bt384.2.2.1 bt384.2.2.2.1 bt384.2.2.2.2 bt393.1 bt393.2.1 bt393.2.2.1 bt393.2.2.2.1 bt393.2.2.2.2).bind fun t400 => (if t400 = true then (some true) else (some false)))) else (some false))))) = some r := H
    have A8 := Aside0.mk A80
    clear A80
    replace H := Option.bind_eq_some_iff.mp H
    obtain ⟨t383, A90, H⟩ := H
    replace H : ((laws_toRules.f k a0_0 a0_1 a0_2 l0_3 a0_4).bind fun bt384 => ((impl_FormatRules.f k bt384.1 bt384.2.1 bt384.2.2.1 bt384.2.2.2.1 bt384.2.2.2.2).bind fun t392 => (if t392.toList = t383.toList then ((laws_toRules.f k a0_0 a0_1 a0_2 l0_3 a0_4).bind fun bt393 => ((laws_eqRules.f k bt384.1 bt384.2.1 bt384.2.2.1 bt384.2.2.2.1 bt384.2.2.2.2 bt393.1 bt393.2.1 bt393.2.2.1 bt393.2.2.2.1 bt393.2.2.2.2).bind fun t400 => (if t400 = true then (some true) else (some false)))) else (some false)))) = some r := H
    have A9 := Aside0.mk A90
    clear A90
    replace H := Option.bind_eq_some_iff.mp H
    obtain ⟨⟨t384, t385, t386, t387, t390⟩, A100, H⟩ := H
    replace H : ((impl_FormatRules.f k t384 t385 t386 t387 t390).bind fun t392 => (if t392.toList = t383.toList then ((laws_toRules.f k a0_0 a0_1 a0_2 l0_3 a0_4).bind fun bt393 => ((laws_eqRules.f k t384 t385 t386 t387 t390 bt393.1 bt393.2.1 bt393.2.2.1 bt393.2.2.2.1 bt393.2.2.2.2).bind fun t400 => (if t400 = true then (some true) else (some false)))) else (some false))) = some r := H
    have A10 := Aside0.mk A100
    clear A100
    replace H := Option.bind_eq_some_iff.mp H
    obtain ⟨t392, A110, H⟩ := H
    replace H : (if t392.toList = t383.toList then ((laws_toRules.f k a0_0 a0_1 a0_2 l0_3 a0_4).bind fun bt393 => ((laws_eqRules.f k t384 t385 t386 t387 t390 bt393.1 bt393.2.1 bt393.2.2.1 bt393.2.2.2.1 bt393.2.2.2.2).bind fun t400 => (if t400 = true then (some true) else (some false)))) else (some false)) = some r := H
    have A11 := Aside0.mk A110
    clear A110
    have HC12 := Aside0.mk H
    clear H
    have ⟨hcz13_0, hcz13_1, hcz13_2, hcz13_3, hcz13_4, hfz13_0, hfz13_1, hfz13_2, hfz13_3, hfz13_4⟩ := rz5 BK374
    go_upto_if 21 with (first | ((with_reducible refine gate_callee (f := 22) rfl ?_); refine gl (some 13) Tryd.func22 #[.agg #[.int .i64 a0_0, .int .i64 a0_1, .int .i64 a0_2, .slice A0_3 l0_3.length c0_3, .bool a0_4]] ?_; (with_reducible refine (laws_toRules.calls k a0_0 a0_1 a0_2 _ _ l0_3 a0_4 t376 t377 t378 t379 t382 _ ?side1 ?side2 A8.out).mono ?_); (case side1 => exact cc HR0_3 HB); (case side2 => exact HC0_3.out); rintro e w14 ⟨v380, rfl, ho0, hb⟩; refine ⟨_, rfl, ?_⟩; have HO381 := kl ho0 HB; replace BK374 := kb BK374 hb; replace HB := hs_ HB hb; (try clear hb); (try clear hb2); (try clear hk); (try clear hi); (try clear ho0); obtain ⟨Ao15, co15, eo15⟩ := Kd.R_slice HO381.out; subst eo15) | ((with_reducible refine gate_callee (f := 21) rfl ?_); refine gl (some 14) Tryd.func21 #[.agg #[.int .i64 t376, .int .i64 t377, .int .i64 t378, .slice Ao15 t379.length co15, .bool t382]] ?_; (with_reducible refine (spec_FormatRules.calls k t376 t377 t378 _ _ t379 t382 t383 _ ?side1 ?side2 A9.out).mono ?_); (case side1 => exact cr HO381); (case side2 => exact cl HO381); rintro e w16 ⟨rfl, hb⟩; refine ⟨_, rfl, ?_⟩; replace HO381 := kr HO381 hb; replace BK374 := kb BK374 hb; replace HB := hs_ HB hb; (try clear hb); (try clear hb2); (try clear hk); (try clear hi); have ⟨hcz17_0, hcz17_1, hcz17_2, hcz17_3, hcz17_4, hfz17_0, hfz17_1, hfz17_2, hfz17_3, hfz17_4⟩ := rz5 BK374) | ((with_reducible refine gate_callee (f := 22) rfl ?_); refine gl (some 16) Tryd.func22 #[.agg #[.int .i64 a0_0, .int .i64 a0_1, .int .i64 a0_2, .slice A0_3 l0_3.length c0_3, .bool a0_4]] ?_; (with_reducible refine (laws_toRules.calls k a0_0 a0_1 a0_2 _ _ l0_3 a0_4 t384 t385 t386 t387 t390 _ ?side1 ?side2 A10.out).mono ?_); (case side1 => exact cc HR0_3 HB); (case side2 => exact HC0_3.out); rintro e w18 ⟨v388, rfl, ho0, hb⟩; refine ⟨_, rfl, ?_⟩; have HO389 := Aside0.mk (Kd.R_lower (Kd.R_new' ho0 (rt HO381)) (below_size (bb HB))); replace HO381 := ke HO381 ho0 hb; replace BK374 := kb BK374 hb; replace HB := hs_ HB hb; (try clear hb); (try clear hb2); (try clear hk); (try clear hi); (try clear ho0)) | ((with_reducible refine gate_dst (N := 5) rfl ?_); refine bx (N := 5) (cs := #[.int .i64 0, .int .i64 0, .int .i64 0, .slice none 0 0, .bool false]) (t := 47) ?_; intro gb391 hg w19 hbox hb; replace HO381 := kr HO381 hb; replace HO389 := kr HO389 hb; have BK391 := Aside0.mk (hbox); have GW391 := gs hg HB; have GE391 := gs hg HB; replace HB := hs_ HB hb; have NB374_391 := gn hg BK374; have NB391_374 := gm hg BK374; replace BK374 := kb BK374 hb; clear hb hbox hg; have hnb20 := NB391_374.out; have hnc20 := NB374_391.out; have ⟨hcz21_0, hcz21_1, hcz21_2, hcz21_3, hcz21_4, hfz21_0, hfz21_1, hfz21_2, hfz21_3, hfz21_4⟩ := rz5 BK391; obtain ⟨Ao22, co22, eo22⟩ := Kd.R_slice HO389.out; subst eo22) | ((with_reducible refine gate_callee (f := 23) rfl ?_); refine gl (some 18) Tryd.func23 #[.agg #[.int .i64 t384, .int .i64 t385, .int .i64 t386, .slice Ao22 t387.length co22, .bool t390]] ?_; (with_reducible refine (impl_FormatRules.calls k t384 t385 t386 _ _ t387 t390 t392 _ ?side1 ?side2 A11.out).mono ?_); (case side1 => refine (Kd.R_reads' (e := 3) (base := w.heap.size) (ok := fun k_ => (True ∧ some k_ ≠ (.slice Ao15 t379.length co15 : Value).ownBlock)) (n := t387.length) (c := co22) ?_).2.2; exact (rf HO389 BK391 (fun _ h_ => h_.1))); (case side2 => exact cl HO389); rintro e w23 ⟨rfl, hb⟩; refine ⟨_, rfl, ?_⟩; replace HO381 := Aside0.mk (Kd.R_below (rf HO381 BK391 (fun _ h_ => h_.1)) hb); replace HO389 := Aside0.mk (Kd.R_below (rf HO389 BK391 (fun _ h_ => h_.1)) hb); replace BK374 := Aside0.mk (blk_below (g := gb374) (o := .cells #[.int .i64 a0_0, .int .i64 a0_1, .int .i64 a0_2, .slice A0_3 l0_3.length c0_3, .bool a0_4] 44 (0, 0)) (by (with_reducible repeat (first | refine blk_drewN ?_ _ | refine blk_drew ?_ | refine blk_alloc ?_ _)); refine blk_far ?_ NB374_391.out _; (with_reducible repeat (first | refine blk_drewN ?_ _ | refine blk_drew ?_ | refine blk_alloc ?_ _)); refine blk_far ?_ NB374_391.out _; (with_reducible repeat (first | refine blk_drewN ?_ _ | refine blk_drew ?_ | refine blk_alloc ?_ _)); refine blk_far ?_ NB374_391.out _; (with_reducible repeat (first | refine blk_drewN ?_ _ | refine blk_drew ?_ | refine blk_alloc ?_ _)); refine blk_far ?_ NB374_391.out _; (with_reducible repeat (first | refine blk_drewN ?_ _ | refine blk_drew ?_ | refine blk_alloc ?_ _)); refine blk_far ?_ NB374_391.out _; (with_reducible repeat (first | refine blk_drewN ?_ _ | refine blk_drew ?_ | refine blk_alloc ?_ _)); exact BK374.out) hb); replace BK391 := Aside0.mk (blk_below (g := gb391) (o := .cells #[.int .i64 t384, .int .i64 t385, .int .i64 t386, .slice Ao22 t387.length co22, .bool t390] 47 (0, 0)) (by (with_reducible repeat (first | refine blk_drewN ?_ _ | refine blk_drew ?_ | refine blk_alloc ?_ _)); refine blk_put (cs := #[.int .i64 t384, .int .i64 t385, .int .i64 t386, .slice Ao22 t387.length co22, .bool false]) ?_ 4 _ rfl; (with_reducible repeat (first | refine blk_drewN ?_ _ | refine blk_drew ?_ | refine blk_alloc ?_ _)); refine blk_put (cs := #[.int .i64 t384, .int .i64 t385, .int .i64 t386, .slice none 0 0, .bool false]) ?_ 3 _ rfl; (with_reducible repeat (first | refine blk_drewN ?_ _ | refine blk_drew ?_ | refine blk_alloc ?_ _)); refine blk_put (cs := #[.int .i64 t384, .int .i64 t385, .int .i64 0, .slice none 0 0, .bool false]) ?_ 2 _ rfl; (with_reducible repeat (first | refine blk_drewN ?_ _ | refine blk_drew ?_ | refine blk_alloc ?_ _)); refine blk_put (cs := #[.int .i64 t384, .int .i64 0, .int .i64 0, .slice none 0 0, .bool false]) ?_ 1 _ rfl; (with_reducible repeat (first | refine blk_drewN ?_ _ | refine blk_drew ?_ | refine blk_alloc ?_ _)); refine blk_put (cs := #[.int .i64 0, .int .i64 0, .int .i64 0, .slice none 0 0, .bool false]) ?_ 0 _ rfl; (with_reducible repeat (first | refine blk_drewN ?_ _ | refine blk_drew ?_ | refine blk_alloc ?_ _)); exact BK391.out) hb); replace HB := hs_ HB hb; (try clear hb); (try clear hb2); (try clear hk); (try clear hi)))
    (try simp only [Act.put, List.setIfInBounds_toArray, List.set_cons_zero, List.set_cons_succ])
    have H := HC12.out
    clear HC12
    by_cases c24 : t392.toList = t383.toList
    · rw [if_pos c24] at H
      have c24b0 : (t392.toList == t383.toList) = true := beq_iff_eq.mpr c24
      have c24b1 : (t392.toList != t383.toList) = false := bne_eq_false_iff_eq.mpr c24
      clear c24
      (first | rw [c24b0] | (simp only [i64_w, i32_w]; rw [c24b0]) | skip)
      replace H := Option.bind_eq_some_iff.mp H
      obtain ⟨⟨t393, t394, t395, t396, t399⟩, A250, H⟩ := H
      replace H : ((laws_eqRules.f k t384 t385 t386 t387 t390 t393 t394 t395 t396 t399).bind fun t400 => (if t400 = true then (some true) else (some false))) = some r := H
      have A25 := Aside0.mk A250
      clear A250
      replace H := Option.bind_eq_some_iff.mp H
      obtain ⟨t400, A260, H⟩ := H
      replace H : (if t400 = true then (some true) else (some false)) = some r := H
      have A26 := Aside0.mk A260
      clear A260
      have HC27 := Aside0.mk H
      clear H
      try go_wp2
      replace HO381 := Aside0.mk (Kd.R_drew HO381.out)
      replace HO389 := Aside0.mk (Kd.R_drew HO389.out)
      replace BK374 := Aside0.mk (blk_drew BK374.out)
      replace BK391 := Aside0.mk (blk_drew BK391.out)
      replace HB := Aside0.mk (below_drew1 HB.out)
      refine start_ (n := 5) (S := fun w' => w'.cell? ⟨gb391, 0, none⟩ = some (.int .i64 t384) ∧ w'.cell? ⟨gb391, 1, none⟩ = some (.int .i64 t385) ∧ w'.cell? ⟨gb391, 2, none⟩ = some (.int .i64 t386) ∧ w'.cell? ⟨gb391, 3, none⟩ = some (.slice Ao22 t387.length co22) ∧ w'.cell? ⟨gb391, 4, none⟩ = some (.bool t390) ∧ w'.cell? ⟨gb374, 0, none⟩ = some (.int .i64 a0_0) ∧ w'.cell? ⟨gb374, 1, none⟩ = some (.int .i64 a0_1) ∧ w'.cell? ⟨gb374, 2, none⟩ = some (.int .i64 a0_2) ∧ w'.cell? ⟨gb374, 3, none⟩ = some (.slice A0_3 l0_3.length c0_3) ∧ w'.cell? ⟨gb374, 4, none⟩ = some (.bool a0_4)) (ds := []) #[false, false, false, false, false] (by kernel_rfl) rfl rfl ⟨(blk_cell BK391.out 0).trans rfl, (blk_cell BK391.out 1).trans rfl, (blk_cell BK391.out 2).trans rfl, (blk_cell BK391.out 3).trans rfl, (blk_cell BK391.out 4).trans rfl, (blk_cell BK374.out 0).trans rfl, (blk_cell BK374.out 1).trans rfl, (blk_cell BK374.out 2).trans rfl, (blk_cell BK374.out 3).trans rfl, (blk_cell BK374.out 4).trans rfl⟩ (fun hHeld => ?_)
      generalize w23.drew = w28 at HO381 HO389 BK374 BK391 HB hHeld ⊢
      refine take_ (i := 0) (N := some 22) (v := ?_) (a' := ?_) #[true, false, false, false, false] rfl rfl (by kernel_rfl) (fun _ _ _ h => h) (Or.inl ⟨by rfl, ?_⟩) hHeld ?_ ?_
      rotate_left
      · rintro w' ⟨s0, s1, s2, s3, s4, s5, s6, s7, s8, s9⟩
        go_simp
        with_reducible rfl
      rotate_left
      · simp only [Act.put, List.setIfInBounds_toArray, List.set_cons_zero, List.set_cons_succ, i64_w, i32_w]
        rfl
      refine take_ (i := 1) (N := some 23) (v := ?_) (a' := ?_) #[true, true, false, false, false] rfl rfl (by kernel_rfl) (fun _ _ _ h => h) (Or.inl ⟨by rfl, ?_⟩) hHeld ?_ ?_
      rotate_left
      · rintro w' ⟨s0, s1, s2, s3, s4, s5, s6, s7, s8, s9⟩
        go_simp
        with_reducible rfl
      rotate_left
      · simp only [Act.put, List.setIfInBounds_toArray, List.set_cons_zero, List.set_cons_succ, i64_w, i32_w]
        rfl
      refine one_ (i := 2) (N := some 24) #[true, true, true, false, false] rfl rfl (by kernel_rfl) (by decide) (fun K hK => ?_)
      refine goes_ Tryd.func22 (by kernel_rfl) rfl #[.agg #[.int .i64 a0_0, .int .i64 a0_1, .int .i64 a0_2, .slice A0_3 l0_3.length c0_3, .bool a0_4]] (by rfl) rfl rfl (by (try simp only [List.map_toArray, List.map_cons, List.map_nil]); first | done | rfl | (simp only [List.length_drop, List.length_take]; rfl)) ?_
      with_reducible refine (laws_toRules.calls k a0_0 a0_1 a0_2 _ _ l0_3 a0_4 t393 t394 t395 t396 t399 _ ?side1 ?side2 A25.out).mono ?_
      (case side1 => exact cc HR0_3 HB)
      (case side2 => exact HC0_3.out)
      rintro e w29 ⟨v397, rfl, ho0, hb⟩
      refine ⟨_, rfl, ?_⟩
      have HO398 := Aside0.mk (Kd.R_lower (Kd.R_new' (Kd.R_new' ho0 (rt HO381)) (rt HO389)) (below_size (bb HB)))
      replace HO381 := ke HO381 ho0 hb
      replace HO389 := ke HO389 ho0 hb
      replace BK374 := kb BK374 hb
      replace BK391 := kb BK391 hb
      replace HB := hs_ HB hb
      (try clear hb)
      (try clear hb2)
      (try clear hk)
      (try clear hi)
      (try clear ho0)
      obtain ⟨Ao30, co30, eo30⟩ := Kd.R_slice HO398.out
      (first | subst eo30 | (injection eo30 with f1_ f2_ f3_; have f4_ := f1_.symm; have f5_ := f3_.symm; clear f1_ f2_ f3_; subst f4_; subst f5_))
      refine hK.out _ _ ⟨(blk_cell BK391.out 0).trans rfl, (blk_cell BK391.out 1).trans rfl, (blk_cell BK391.out 2).trans rfl, (blk_cell BK391.out 3).trans rfl, (blk_cell BK391.out 4).trans rfl, (blk_cell BK374.out 0).trans rfl, (blk_cell BK374.out 1).trans rfl, (blk_cell BK374.out 2).trans rfl, (blk_cell BK374.out 3).trans rfl, (blk_cell BK374.out 4).trans rfl⟩ (fun hHeld => ?_)
      clear hK K
      refine norm_ (a' := ?_) ?_ ?_
      rotate_left
      · show Act.put _ (some 24) _ = _
        simp only [Act.put, List.setIfInBounds_toArray, List.set_cons_zero, List.set_cons_succ, i64_w, i32_w]
        rfl
      refine one_ (i := 3) (N := some 25) #[true, true, true, true, false] rfl rfl (by kernel_rfl) (by decide) (fun K hK => ?_)
      refine goes_ Tryd.func24 (by kernel_rfl) rfl #[.agg #[.int .i64 t384, .int .i64 t385, .int .i64 t386, .slice Ao22 t387.length co22, .bool t390], .agg #[.int .i64 t393, .int .i64 t394, .int .i64 t395, .slice Ao30 t396.length co30, .bool t399]] (by rfl) rfl rfl (by (try simp only [List.map_toArray, List.map_cons, List.map_nil]); first | done | rfl | (simp only [List.length_drop, List.length_take]; rfl)) ?_
      with_reducible refine (laws_eqRules.calls k t384 t385 t386 _ _ t387 t390 t393 t394 t395 _ _ t396 t399 t400 _ ?side1 ?side2 ?side3 ?side4 A26.out).mono ?_
      (case side1 => exact cr HO389)
      (case side2 => exact (Kd.R_reads' HO389.out).2.1)
      (case side3 => exact cr HO398)
      (case side4 => exact (Kd.R_reads' HO398.out).2.1)
      rintro e w31 ⟨rfl, hb⟩
      refine ⟨_, rfl, ?_⟩
      replace HO381 := kr HO381 hb
      replace HO389 := kr HO389 hb
      replace HO398 := kr HO398 hb
      replace BK374 := kb BK374 hb
      replace BK391 := kb BK391 hb
      replace HB := hs_ HB hb
      (try clear hb)
      (try clear hb2)
      (try clear hk)
      (try clear hi)
      refine hK.out _ _ ⟨(blk_cell BK391.out 0).trans rfl, (blk_cell BK391.out 1).trans rfl, (blk_cell BK391.out 2).trans rfl, (blk_cell BK391.out 3).trans rfl, (blk_cell BK391.out 4).trans rfl, (blk_cell BK374.out 0).trans rfl, (blk_cell BK374.out 1).trans rfl, (blk_cell BK374.out 2).trans rfl, (blk_cell BK374.out 3).trans rfl, (blk_cell BK374.out 4).trans rfl⟩ (fun hHeld => ?_)
      clear hK K
      refine norm_ (a' := ?_) ?_ ?_
      rotate_left
      · show Act.put _ (some 25) _ = _
        simp only [Act.put, List.setIfInBounds_toArray, List.set_cons_zero, List.set_cons_succ, i64_w, i32_w]
        rfl
      refine pure_ (i := 4) (N := some 26) (v := ?_) (a' := ?_) #[true, true, true, true, true] rfl rfl (by kernel_rfl) (fun _ _ _ h => h) (Or.inl ⟨by rfl, ?_⟩) ?_ ?_
      rotate_left
      · intro w'
        go_simp
        with_reducible rfl
      rotate_left
      · simp only [Act.put, List.setIfInBounds_toArray, List.set_cons_zero, List.set_cons_succ, i64_w, i32_w]
        rfl
      refine done_ (by kernel_rfl) ?_
      go_upto_if 26 with (fail)
      have H := HC27.out
      clear HC27
      by_cases c32 : t400 = true
      · subst c32
        have H1 : (some true) = some r := by rw [if_pos rfl] at H; exact H
        clear H
        have H := H1
        clear H1
        obtain rfl := Option.some.inj H
        go_wp2
        go_ret
        exact ⟨ee, bb HB⟩
      · replace c32 := Bool.eq_false_iff.mpr c32
        subst c32
        have H1 : (some false) = some r := by rw [if_neg (show ¬ (false = true) by decide)] at H; exact H
        clear H
        have H := H1
        clear H1
        obtain rfl := Option.some.inj H
        go_wp2
        go_ret
        exact ⟨ee, bb HB⟩
    · rw [if_neg c24] at H
      have c24b0 : (t392.toList == t383.toList) = false := beq_eq_false_iff_ne.mpr c24
      have c24b1 : (t392.toList != t383.toList) = true := bne_iff_ne.mpr c24
      (first | rw [c24b0] | (simp only [i64_w, i32_w]; rw [c24b0]) | skip)
      obtain rfl := Option.some.inj H
      go_wp2
      go_ret
      exact ⟨ee, bb HB⟩
end Go.Proofs.YtibmeomlokigjaaDoor.Q
namespace Go.Proofs.YtibmeomlokigjaaDoor.Opens
open Go.ChangeShapes Go.WideShapes Go.ChangeAt Go.RowKit Go.Proofs.YtibmeomlokigjaaDoor.Q Go.Proofs.YtibmeomlokigjaaDoorW.PrintWords Go.Proofs.YtibmeomlokigjaaDoorW.PrintLast
section
variable {H : Type} (enc : TypeId × Value → H) (P : Program) (W : World)
def Opens {α : Type} (t : TypeId) (d : Kd α) (ok : α → Prop) : Prop := ∀ (fuel : Nat) (cs : List Value) (x : DataW H × List MemPlace), DataW.trod enc P W 0 (fun _ => true) true fuel t cs = some x → ∃ a, d.K W a cs ∧ ok a
def OpensFs {α : Type} (off : Nat) (fs : List Field) (d : Kd α) (ok : α → Prop) : Prop :=
  ∀ (n : Nat) (cs : List Value) (xs : List (DataW H × List MemPlace)), (∀ (i : Nat) (f : Field), fs[i]? = some f → DataW.trod enc P W 0 (fun _ => true) true n f.type ((cs.drop f.offset).take (P.cellsOf f.type)) = xs[i]?) → xs.length = fs.length → cs.length = off + d.sz → ∃ a, d.K W a (cs.drop off) ∧ ok a
variable {enc P W}
variable {α β : Type} {t : TypeId} {d : Kd α} {d2 : Kd β} {ok : α → Prop} {ok2 : β → Prop}
theorem int {k : IntKind} (ht : P.underlying t = some (.int k)) : Opens enc P W t (Kd.int k) (fun n => (Lit.int k n).wf = true) := fun fuel cs x h => by
  obtain ⟨n, rfl, _, hw⟩ := DataW.trod_int ht h
  exact ⟨n, rfl, hw⟩
theorem bool (ht : P.underlying t = some .bool) : Opens enc P W t Kd.bool (fun _ => True) := fun fuel cs x h => by
  obtain ⟨b, rfl, _⟩ := DataW.trod_bool ht h
  exact ⟨b, rfl, trivial⟩
theorem cells_get {w : World} {base : Nat} {a : Addr} {n : Nat} {cs : List Value} (h : w.cells? base a n = some cs) : cs.length = n ∧ ∀ i u, cs[i]? = some u → w.cell? (a.add i) = some u := by
  unfold World.cells? at h
  split at h
  · have hl := mapM_some_length h
    refine ⟨by simpa using hl, fun i u hi => ?_⟩
    have hlt : i < n := by have := (List.getElem?_eq_some_iff.mp hi).1; simp at hl; omega
    have := mapM_some_get h i i (by simp [hlt])
    rw [this, hi]
  · cases h
theorem add_add (a : Addr) (i j : Nat) : (a.add i).add j = a.add (i + j) := by
  unfold Addr.add
  by_cases hi : i = 0
  · subst hi; simp
  · by_cases hj : j = 0
    · subst hj; simp [hi]
    · simp [hi, hj]; omega
theorem slice {e : TypeId} (ht : P.underlying t = some (.slice e)) (he : Opens enc P W e d ok) (hc : P.cellsOf e = d.sz) (q : Nat) : Opens enc P W t (Kd.slice q d) (fun l => l.length ≤ maxLen ∧ ∀ x ∈ l, ok x) := fun fuel cs x h => by
  rcases DataW.trod_slice ht h with ⟨rfl, _⟩ | ⟨a, len, cap, elems, rest, n, _, rfl, _, _, hl, hm, hlen, hel, _⟩
  · exact ⟨[], ⟨none, 0, rfl, Nat.le_refl _, rfl, Nat.zero_le _, fun h => absurd h (Nat.not_lt_zero _)⟩, Nat.zero_le _, fun x hx => by cases hx⟩
  · have each : ∀ i : Fin len, ∃ p : α, ok p ∧ ∃ c, c.length = d.sz ∧ d.K W p c ∧ ∀ j u, c[j]? = some u → W.cell? (a.add (i.1 * d.sz + j)) = some u := by
      intro i
      have h1 := hel i.1 i.2
      obtain ⟨y, hy⟩ : ∃ y, elems[i.1]? = some y := ⟨elems[i.1]'(by have := i.2; omega), List.getElem?_eq_getElem (by have := i.2; omega)⟩
      rw [hy, Option.bind_eq_some_iff] at h1
      obtain ⟨c, hcs, htr⟩ := h1
      rw [hc] at hcs
      obtain ⟨p, hK, hok⟩ := he _ _ _ htr
      obtain ⟨h2, h3⟩ := cells_get hcs
      exact ⟨p, hok, c, h2, hK, fun j u hj => by rw [← add_add]; exact h3 j u hj⟩
    let f : Fin len → α := fun i => (each i).choose
    have hf : ∀ i : Fin len, ok (f i) ∧ ∃ c, c.length = d.sz ∧ d.K W (f i) c ∧ ∀ j u, c[j]? = some u → W.cell? (a.add (i.1 * d.sz + j)) = some u := fun i => (each i).choose_spec
    have hm' : len ≤ maxLen := Nat.le_trans hl hm
    refine ⟨List.ofFn f, ⟨some a, cap, by simp, by simpa using hl, by simp, by simpa [maxLen] using hm', fun _ => ⟨a, rfl, fun j p hj => ?_⟩⟩, by simpa using hm', fun x hx => ?_⟩
    · have hlt : j < len := by have := (List.getElem?_eq_some_iff.mp hj).1; simpa using this
      have : p = f ⟨j, hlt⟩ := by rw [List.getElem?_eq_getElem (by simpa using hlt)] at hj; simpa using hj.symm
      subst this
      obtain ⟨_, c, h1, h2, h3⟩ := hf ⟨j, hlt⟩
      exact ⟨c, h1, h2, h3⟩
    · obtain ⟨i, hi, rfl⟩ := List.mem_iff_getElem.mp hx
      simp only [List.getElem_ofFn]
      exact (hf _).1
theorem one {f : Field} (off : Nat) (ho : f.offset = off) (he : Opens enc P W f.type d ok) (hc : P.cellsOf f.type = d.sz) : OpensFs enc P W off [f] d ok := fun n cs xs h hx hl => by
  have h0 := h 0 f rfl
  have hz : xs.length = 1 := hx
  obtain ⟨y, rfl⟩ := List.length_eq_one_iff.mp hz
  rw [ho, hc, List.take_of_length_le (by simp; omega)] at h0
  exact he _ _ _ h0
theorem cons {f : Field} {fs : List Field} (off off2 : Nat) (ho : f.offset = off) (he : Opens enc P W f.type d ok) (hc : P.cellsOf f.type = d.sz) (h2 : off + d.sz = off2) (hr : OpensFs enc P W off2 fs d2 ok2) :
    OpensFs enc P W off (f :: fs) (Kd.pair d d2) (fun x => ok x.1 ∧ ok2 x.2) := fun n cs xs h hx hl => by
  cases xs with
  | nil => simp at hx
  | cons y ys =>
    have h0 := h 0 f rfl
    rw [ho, hc] at h0
    obtain ⟨p, hp, hok⟩ := he _ _ _ h0
    have hl' : cs.length = off + (d.sz + d2.sz) := hl
    obtain ⟨q, hq, hok2⟩ := hr n cs ys (fun i g hi => h (i + 1) g hi) (by simpa using hx) (by omega)
    refine ⟨(p, q), ⟨_, _, ?_, hp, hq⟩, hok, hok2⟩
    rw [← h2, ← List.drop_drop, List.take_append_drop]
theorem struct {fs : Array Field} (ht : P.underlying t = some (.struct fs)) (hc : P.cellsOf t = d.sz) (h : OpensFs enc P W 0 fs.toList d ok) : Opens enc P W t d ok := fun fuel cs x hx => by
  obtain ⟨xs, n, _, _, hl, hxs, hf⟩ := DataW.trod_struct ht hx
  have := h n cs xs (fun i f hi => hf i f (by simpa using hi)) (by simpa using hxs) (by omega)
  simpa using this
end
theorem trod_struct_val {H : Type} {enc : TypeId × Value → H} {P : Program} {W : World} {r : Reach} {b0 : Nat} {t : TypeId} {v : Value} {fs : Array Field} {α : Type} {d : Kd α} {ok : α → Prop} {dd : DataW H} {ps : List MemPlace} (ht : P.underlying t = some (.struct fs)) (hval : Value.okWide P W r b0 t v) (hd : DataW.Trod enc P W 0 (fun _ => true) true t v dd ps) (h : Opens enc P W t d ok) :
    ∃ cs a, v = .agg cs ∧ d.K W a cs.toList ∧ ok a := by
  obtain ⟨cs, rfl, _⟩ := okWide_struct ht hval
  obtain ⟨fuel, hf⟩ := hd
  obtain ⟨a, hK, hok⟩ := h _ _ _ hf
  exact ⟨cs, a, rfl, by simpa [Value.cells] using hK, hok⟩
end Go.Proofs.YtibmeomlokigjaaDoor.Opens
namespace Go.Proofs.YtibmeomlokigjaaDoor.Laid
open Go.ChangeShapes Go.WideShapes Go.ChangeAt Go.WideMaps Go.WideElems Go.RowKit
noncomputable def laid3 : List (String × DataW Unit) := Rows.fnExactFormatGameRow.laid
theorem door_met (os : Os) (args : Array Value) : laidMetH Tryd.prog laid3 ((World.doorLaid Tryd.prog 400 os).forCall (fun _ _ => 0) ⟨#[], args, []⟩).memory :=
  laidMetH_of_parts3 (fuel := 8) (laidMet_of_run' 8 (by kernel_rfl) (by kernel_rfl)) (by kernel_rfl) (by kernel_rfl)
theorem door_shaped (os : Os) (args : Array Value) : ((World.doorLaid Tryd.prog 400 os).forCall (fun _ _ => 0) ⟨#[], args, []⟩).Shaped Tryd.prog :=
  World.shaped_of_RefB (by kernel_rfl) (by kernel_rfl)
end Go.Proofs.YtibmeomlokigjaaDoor.Laid
namespace Go.Proofs.YtibmeomlokigjaaDoor.Q
open Go.RowKit Go.Proofs.YtibmeomlokigjaaDoorW.PrintWords Go.Proofs.YtibmeomlokigjaaDoorW.PrintLast Go.Proofs.YtibmeomlokigjaaDoorW.PrintMore
def mk (l : List UInt8) : ByteArray := ⟨l.toArray⟩
theorem mk_append (a b : List UInt8) : mk a ++ mk b = mk (a ++ b) := by
  apply ByteArray.ext
  simp [mk]
theorem mk_size (l : List UInt8) : (mk l).size = l.length := by simp [mk, ByteArray.size]
theorem mk_self (s : ByteArray) : mk s.data.toList = s := rfl
theorem strOfNums_mk (l : List Int) : strOfNums l = mk (l.map fun n => UInt8.ofNat n.toNat) := rfl
def dec (n : Int) : ByteArray := mk (Lib.decDigits n.toNat)
theorem dec_size (n : Int) (h0 : 0 ≤ n) (h1 : n < 100) : (dec n).size ≤ 2 := by
  unfold dec
  rw [mk_size]
  by_cases h : n.toNat < 10
  · rw [Lib.decDigits_one h]; simp
  · rw [Lib.decDigits_two h (by omega)]; simp
theorem wrap_id (x : Int) (h0 : -9223372036854775808 ≤ x) (h1 : x ≤ 9223372036854775807) : wrap64 x = x := by unfold wrap64; omega
theorem formatInt_l0 (m : Nat) : ∀ (k : Nat) (n : Int) (s : List UInt8), 0 ≤ n → n.toNat < 10 ^ (m + 1) → n ≤ 9223372036854775807 → s.length + m ≤ 1000 → spec_FormatInt.l0 (k + m + 1) n (mk s) = some (mk (Lib.decDigits n.toNat ++ s)) := by
  induction m with
  | zero =>
    intro k n s h0 h1 h2 hs
    have hn : n.toNat < 10 := by simpa using h1
    rw [spec_FormatInt.l0, if_neg (by omega)]
    simp only [Option.bind_some, strOfNums_mk, List.map_cons, List.map_nil, mk_size, mk_append]
    rw [if_pos (by simp; omega), Lib.decDigits_one hn, wrap_id _ (by omega) (by omega), show ((48 + n) % 256).toNat = 48 + n.toNat by omega]
  | succ m ih =>
    intro k n s h0 h1 h2 hs
    by_cases hn : n > 9
    · rw [show k + (m + 1) + 1 = (k + m + 1) + 1 by omega, spec_FormatInt.l0, if_pos hn]
      have h10 : Int.tdiv n 10 = n / 10 := Int.tdiv_eq_ediv_of_nonneg h0
      have hm10 : Int.tmod n 10 = n % 10 := Int.tmod_eq_emod_of_nonneg h0
      simp only [Option.bind_some, strOfNums_mk, List.map_cons, List.map_nil, mk_size, mk_append, h10, hm10]
      rw [if_pos (by simp; omega), wrap_id (n / 10) (by omega) (by omega)]
      have hlt : (n / 10).toNat < 10 ^ (m + 1) := by
        have : n.toNat < 10 * 10 ^ (m + 1) := by rw [Nat.pow_succ] at h1; omega
        omega
      rw [List.singleton_append, ih k (n / 10) _ (by omega) hlt (by omega) (by simp; omega)]
      congr 2
      rw [wrap_id _ (by omega) (by omega), show ((48 + n % 10) % 256).toNat = 48 + n.toNat % 10 by omega]
      conv => rhs; rw [Lib.decDigits]
      rw [dif_neg (by omega), List.append_assoc, show (n / 10).toNat = n.toNat / 10 by omega]
      rfl
    · rw [show k + (m + 1) + 1 = (k + m + 1) + 1 by omega, spec_FormatInt.l0, if_neg hn]
      simp only [Option.bind_some, strOfNums_mk, List.map_cons, List.map_nil, mk_size, mk_append]
      rw [if_pos (by simp; omega), Lib.decDigits_one (by omega), wrap_id _ (by omega) (by omega), show ((48 + n) % 256).toNat = 48 + n.toNat by omega]
theorem specFormatInt (k : Nat) (n : Int) (h0 : 0 ≤ n) (h1 : n < 100) : spec_FormatInt.f (k + 3) n = some (dec n) := by
  rw [show k + 3 = (k + 2) + 1 by omega, spec_FormatInt.f, if_neg (by omega)]
  have := formatInt_l0 1 k n [] h0 (by simp; omega) (by omega) (by simp)
  rw [List.append_nil] at this
  exact this
theorem implFormatInt (n : Int) (h0 : 0 ≤ n) (h1 : n < 100) : impl_FormatInt.f n = some (dec n) := by
  unfold impl_FormatInt.f strconv_Itoa.f
  rw [if_pos ⟨h0, h1⟩]
  rfl
theorem rd_nat (l : List Int) (i : Nat) (h : i < l.length) : rd l (i : Int) = l[i] := by
  simp [rd, h]
theorem texts_l0 (l : List Int) (hl : l.length ≤ 1000000) (hr : ∀ x ∈ l, 0 ≤ x ∧ x < 100) (k : Nat) : ∀ (m i : Nat) (acc : List ByteArray), i + m = l.length → acc.length = i → impl_texts.l0 (k + m + 1) acc l (l.length : Int) (i : Int) = some (acc ++ (l.drop i).map dec) := by
  intro m
  induction m with
  | zero =>
    intro i acc hi ha
    rw [impl_texts.l0, if_neg (by omega), List.drop_eq_nil_of_le (by omega)]
    simp
  | succ m ih =>
    intro i acc hi ha
    have hlt : i < l.length := by omega
    rw [show k + (m + 1) + 1 = (k + m + 1) + 1 by omega, impl_texts.l0, if_pos (by omega), if_pos (by omega), if_pos (by omega), rd_nat l i hlt]
    obtain ⟨r0, r1⟩ := hr l[i] (List.getElem_mem hlt)
    rw [implFormatInt _ r0 r1, Option.bind_some, if_pos (by omega), wrap_id _ (by omega) (by omega)]
    have := ih (i + 1) (acc ++ [dec l[i]]) (by omega) (by simp [ha])
    rw [show ((i : Int) + 1) = ((i + 1 : Nat) : Int) by omega, this, List.drop_eq_getElem_cons hlt, List.map_cons, List.append_assoc]
    rfl
theorem texts_eq (l : List Int) (hl : l.length ≤ 1000000) (hr : ∀ x ∈ l, 0 ≤ x ∧ x < 100) (k : Nat) : impl_texts.f (k + l.length + 1) l = some (l.map dec) := by
  unfold impl_texts.f
  have := texts_l0 l hl hr k l.length 0 [] (by omega) rfl
  simpa using this
def joinB (l : List ByteArray) (s : ByteArray) : ByteArray := mk (Lib.join (l.map (·.data.toList)) s.data.toList)
theorem join_eq (l : List ByteArray) (s : ByteArray) (h1 : l.length ≤ 1000000) (h2 : (joinB l s).size ≤ 140737488355328) : impl_Join.f l s = some (joinB l s) := by
  unfold joinB at h2
  rw [mk_size] at h2
  unfold impl_Join.f strings_Join.f
  rw [if_pos ⟨by omega, h2⟩]
  rfl
theorem join2 (a b s : ByteArray) : joinB [a, b] s = a ++ s ++ b := by
  simp [joinB, Lib.join, List.intercalate, ← mk_append, mk_self, ByteArray.append_assoc]
theorem join3 (a b c s : ByteArray) : joinB [a, b, c] s = a ++ s ++ b ++ s ++ c := by
  simp [joinB, Lib.join, List.intercalate, ← mk_append, mk_self, ByteArray.append_assoc]
theorem join3_sz (a b c s : ByteArray) : (joinB [a, b, c] s).size = a.size + s.size + b.size + s.size + c.size := by rw [join3]; simp
def withinT (n low high : Int) : Bool := decide (low ≤ n) && decide (n ≤ high)
theorem within_eq (n low high : Int) : impl_within.f n low high = some (withinT n low high) := by
  unfold impl_within.f withinT
  split <;> simp_all <;> omega
theorem l01In_eq (n low high : Int) : spec_l01In.f n low high = some (withinT n low high) := by
  unfold spec_l01In.f withinT
  split <;> simp_all <;> omega
theorem texts3 (a b c : Int) (ha : 0 ≤ a ∧ a < 100) (hb : 0 ≤ b ∧ b < 100) (hc : 0 ≤ c ∧ c < 100) (k : Nat) : impl_texts.f (k + 4) [a, b, c] = some [dec a, dec b, dec c] := texts_eq [a, b, c] (by simp) (by simp [ha, hb, hc]) k
end Go.Proofs.YtibmeomlokigjaaDoor.Q
namespace Go.Proofs.YtibmeomlokigjaaDoor.Q
open Go.RowKit Go.Proofs.YtibmeomlokigjaaDoorW.PrintWords Go.Proofs.YtibmeomlokigjaaDoorW.PrintLast Go.Proofs.YtibmeomlokigjaaDoorW.PrintMore
theorem rd_eq (l : List Int) (i : Nat) (h : i < l.length) : rd l (i : Int) = l[i] := by
  unfold rd; simp [h]
theorem wrap_succ (i : Nat) (h : i < 4611686018427387904) : wrap64 ((i : Int) + 1) = ((i + 1 : Nat) : Int) := by unfold wrap64; omega
def indexI (l : List Int) (x : Int) : Int := idxI (fun y => decide (x = y)) l
theorem index_eq (l : List Int) (x : Int) (hl : l.length ≤ 2305843009213693952) (k : Nat) (hk : l.length < k) : slices_Index_int_int.f k l x = some (indexI l x) := by
  have key : ∀ (d i : Nat), l.length - i = d → i ≤ l.length → ∀ k, d < k → slices_Index_int_int.l0 k l x l.length i = some (if idxI (fun y => decide (x = y)) (l.drop i) < 0 then -1 else idxI (fun y => decide (x = y)) (l.drop i) + i) := by
    intro d
    induction d with
    | zero =>
      intro i hd hi k hk
      obtain ⟨k, rfl⟩ : ∃ m, k = m + 1 := ⟨k - 1, by omega⟩
      simp only [slices_Index_int_int.l0]
      rw [if_neg (by omega), List.drop_eq_nil_of_le (by omega)]
      rfl
    | succ d ih =>
      intro i hd hi k hk
      obtain ⟨k, rfl⟩ : ∃ m, k = m + 1 := ⟨k - 1, by omega⟩
      have hlt : i < l.length := by omega
      have := ih (i + 1) (by omega) (by omega) k (by omega)
      simp only [slices_Index_int_int.l0]
      rw [if_pos (by omega), if_pos (by omega), if_pos (by omega), rd_eq l i hlt, wrap_succ i (by omega), this, List.drop_eq_getElem_cons hlt]
      simp only [idxI]
      grind
  unfold slices_Index_int_int.f indexI
  have := key l.length 0 (by omega) (by omega) k hk
  rw [List.drop_zero] at this
  have h2 := idxI_any (fun y => decide (x = y)) l
  refine Eq.trans this ?_
  congr 1
  by_cases h : idxI (fun y => decide (x = y)) l < 0
  · rw [if_pos h]
    have : ∀ l : List Int, idxI (fun y => decide (x = y)) l = -1 ∨ 0 ≤ idxI (fun y => decide (x = y)) l := by
      intro l
      induction l with
      | nil => exact .inl rfl
      | cons y l ih => simp only [idxI]; grind
    rcases this l with h3 | h3
    · exact h3.symm
    · omega
  · rw [if_neg h]; simp
def hasI (l : List Int) (x : Int) : Bool := l.any fun y => decide (x = y)
theorem contains_eq (l : List Int) (x : Int) (hl : l.length ≤ 2305843009213693952) (k : Nat) (hk : l.length < k) : slices_Contains_int_int.f k l x = some (hasI l x) := by
  unfold slices_Contains_int_int.f hasI
  rw [index_eq l x hl k hk, ← idxI_any]
  rfl
theorem isKey_eq (x : Int) : impl_isKey.f x = some (withinT x 1 8) := by unfold impl_isKey.f; rw [within_eq]; rfl
def ladderFrom : List Int → List Int → Bool
  | _, [] => true
  | pre, k :: l => withinT k 1 8 && !hasI pre k && ladderFrom (pre ++ [k]) l
def rulesOkB (win draw loss : Int) (ladder : List Int) : Bool := ladderFrom [] ladder && decide (0 ≤ loss) && decide (loss ≤ draw) && decide (draw ≤ win) && decide (win ≤ 10) && withinT ladder.length 1 8
theorem rulesOk_eq (win draw loss : Int) (l : List Int) (again : Bool) (hl : l.length ≤ 2305843009213693952) (k : Nat) (hk : 2 * l.length + 2 < k) : impl_RulesOk.f k win draw loss l again = some (rulesOkB win draw loss l) := by
  have key : ∀ (d i : Nat), l.length - i = d → i ≤ l.length → ∀ k, l.length + d + 1 < k → impl_RulesOk.l0 k l l.length i win draw loss l again = some (ladderFrom (l.take i) (l.drop i) && decide (0 ≤ loss) && decide (loss ≤ draw) && decide (draw ≤ win) && decide (win ≤ 10) && withinT l.length 1 8) := by
    intro d
    induction d with
    | zero =>
      intro i hd hi k hk
      obtain ⟨k, rfl⟩ : ∃ m, k = m + 1 := ⟨k - 1, by omega⟩
      simp only [impl_RulesOk.l0]
      rw [if_neg (by omega), List.drop_eq_nil_of_le (by omega), ladderFrom, within_eq]
      simp only [Option.bind_some]
      grind
    | succ d ih =>
      intro i hd hi k hk
      obtain ⟨k, rfl⟩ : ∃ m, k = m + 1 := ⟨k - 1, by omega⟩
      have hlt : i < l.length := by omega
      have := ih (i + 1) (by omega) (by omega) k (by omega)
      simp only [impl_RulesOk.l0]
      rw [if_pos (by omega), if_pos (by omega), if_pos (by omega), rd_eq l i hlt, wrap_succ i (by omega), this, List.drop_eq_getElem_cons hlt, isKey_eq, Int.toNat_natCast, contains_eq _ _ (by rw [List.length_take]; omega) k (by rw [List.length_take]; omega)]
      simp only [Option.bind_some, ladderFrom]
      rw [if_pos (show (i : Int) ≤ l.length by omega), List.take_succ_eq_append_getElem hlt]
      cases withinT l[i] 1 8 <;> cases hasI (l.take i) l[i] <;> simp
  unfold impl_RulesOk.f rulesOkB
  have := key l.length 0 (by omega) (by omega) k (by omega)
  simpa using this
theorem specHas (l : List Int) (x : Int) (hl : l.length ≤ 2305843009213693952) (k : Nat) (hk : l.length < k) : spec_l02Has.f k l x = some (hasI l x) := by
  have key : ∀ (d i : Nat), l.length - i = d → i ≤ l.length → ∀ k, d < k → spec_l02Has.l0 k x l l.length i = some (hasI (l.drop i) x) := by
    intro d
    induction d with
    | zero =>
      intro i hd hi k hk
      obtain ⟨k, rfl⟩ : ∃ m, k = m + 1 := ⟨k - 1, by omega⟩
      rw [spec_l02Has.l0, if_neg (by omega), List.drop_eq_nil_of_le (by omega)]
      rfl
    | succ d ih =>
      intro i hd hi k hk
      obtain ⟨k, rfl⟩ : ∃ m, k = m + 1 := ⟨k - 1, by omega⟩
      have hlt : i < l.length := by omega
      have := ih (i + 1) (by omega) (by omega) k (by omega)
      rw [spec_l02Has.l0, if_pos (by omega), if_pos (by omega), if_pos (by omega), rd_eq l i hlt, wrap_succ i (by omega), this, List.drop_eq_getElem_cons hlt]
      unfold hasI
      by_cases h : l[i] = x
      · rw [if_pos h]; simp [h]
      · rw [if_neg h, List.any_cons, decide_eq_false (show ¬ x = l[i] from fun e => h e.symm), Bool.false_or]
  unfold spec_l02Has.f
  simpa using key l.length 0 (by omega) (by omega) k hk
theorem specRulesOk (win draw loss : Int) (l : List Int) (again : Bool) (hl : l.length ≤ 2305843009213693952) (k : Nat) (hk : 2 * l.length + 3 < k) : spec_RulesOk.f k win draw loss l again = some (rulesOkB win draw loss l) := by
  have key : ∀ (d i : Nat), l.length - i = d → i ≤ l.length → ∀ k, l.length + d + 1 < k → spec_RulesOk.l0 k l l.length i win draw loss l again = some (ladderFrom (l.take i) (l.drop i)) := by
    intro d
    induction d with
    | zero =>
      intro i hd hi k hk
      obtain ⟨k, rfl⟩ : ∃ m, k = m + 1 := ⟨k - 1, by omega⟩
      rw [spec_RulesOk.l0, if_neg (by omega), List.drop_eq_nil_of_le (by omega)]
      rfl
    | succ d ih =>
      intro i hd hi k hk
      obtain ⟨k, rfl⟩ : ∃ m, k = m + 1 := ⟨k - 1, by omega⟩
      have hlt : i < l.length := by omega
      have := ih (i + 1) (by omega) (by omega) k (by omega)
      rw [spec_RulesOk.l0, if_pos (by omega), if_pos (by omega), if_pos (by omega), rd_eq l i hlt, wrap_succ i (by omega), this, List.drop_eq_getElem_cons hlt, l01In_eq, Int.toNat_natCast, specHas _ _ (by rw [List.length_take]; omega) k (by rw [List.length_take]; omega)]
      simp only [Option.bind_some, ladderFrom]
      rw [if_pos (show (i : Int) ≤ l.length by omega), List.take_succ_eq_append_getElem hlt]
      cases withinT l[i] 1 8 <;> cases hasI (l.take i) l[i] <;> simp
  have hj : ∀ b, spec_RulesOk.j0 k b win draw loss l again = some (!b && ladderFrom [] l) := by
    intro b
    obtain ⟨k, rfl⟩ : ∃ m, k = m + 1 := ⟨k - 1, by omega⟩
    have := key l.length 0 (by omega) (by omega) k (by omega)
    rw [spec_RulesOk.j0]
    cases b
    · simpa using this
    · rfl
  unfold spec_RulesOk.f rulesOkB
  simp only [l01In_eq, Option.bind_some, hj]
  simp only [withinT]
  by_cases h1 : 0 ≤ win <;> by_cases h2 : win ≤ 10 <;> by_cases h3 : 0 ≤ draw <;> by_cases h4 : draw ≤ win <;> by_cases h5 : 0 ≤ loss <;> by_cases h6 : loss ≤ draw <;> simp [h1, h2, h3, h4, h5, h6] <;> first | omega | (cases ladderFrom [] l <;> simp)
theorem rules_ranges {win draw loss : Int} {l : List Int} (h : rulesOkB win draw loss l = true) : (0 ≤ win ∧ win < 100) ∧ (0 ≤ draw ∧ draw < 100) ∧ (0 ≤ loss ∧ loss < 100) ∧ l.length ≤ 8 := by
  simp only [rulesOkB, withinT, Bool.and_eq_true, decide_eq_true_eq] at h
  omega
theorem toIntS_eq (l : List Int) (hl : l.length ≤ 35184372088832) (k : Nat) (hk : l.length < k) : laws_toIntS.f k l = some l := by
  have key : ∀ (d i : Nat), l.length - i = d → i ≤ l.length → ∀ k, d < k → laws_toIntS.l0 k l (l.take i ++ List.replicate (l.length - i) 0) i = some l := by
    intro d
    induction d with
    | zero =>
      intro i hd hi k hk
      obtain ⟨k, rfl⟩ : ∃ m, k = m + 1 := ⟨k - 1, by omega⟩
      rw [laws_toIntS.l0, if_neg (by omega), List.take_of_length_le (by omega), hd]
      simp
    | succ d ih =>
      intro i hd hi k hk
      obtain ⟨k, rfl⟩ : ∃ m, k = m + 1 := ⟨k - 1, by omega⟩
      have hlt : i < l.length := by omega
      have := ih (i + 1) (by omega) (by omega) k (by omega)
      rw [laws_toIntS.l0, if_pos (by omega), if_pos (by omega), if_pos (by simp; omega), rd_eq l i hlt, wrap_succ i (by omega), Int.toNat_natCast]
      have e : (l.take i ++ List.replicate (l.length - i) 0).set i l[i] = l.take (i + 1) ++ List.replicate (l.length - (i + 1)) 0 := by
        rw [List.set_append, if_neg (by rw [List.length_take]; omega), List.take_succ_eq_append_getElem hlt, show l.length - i = (l.length - (i + 1)) + 1 by omega, List.replicate_succ, List.length_take, Nat.min_eq_left (by omega), Nat.sub_self, List.set_cons_zero, List.append_assoc]
        rfl
      rw [e]
      exact this
  unfold laws_toIntS.f
  rw [if_pos (by omega), if_pos (by omega)]
  simpa using key l.length 0 (by omega) (by omega) k hk
end Go.Proofs.YtibmeomlokigjaaDoor.Q
namespace Go.Proofs.YtibmeomlokigjaaDoor.Q
open Go.RowKit Go.Proofs.YtibmeomlokigjaaDoorW.PrintWords Go.Proofs.YtibmeomlokigjaaDoorW.PrintLast Go.Proofs.YtibmeomlokigjaaDoorW.PrintMore
def jtail (s : ByteArray) : List ByteArray → ByteArray
  | [] => mk []
  | y :: r => s ++ y ++ jtail s r
theorem mk_nil_append (a : ByteArray) : mk [] ++ a = a := by rw [← mk_self a, mk_append]; rfl
theorem append_mk_nil (a : ByteArray) : a ++ mk [] = a := by rw [← mk_self a, mk_append, List.append_nil]
theorem jtail_snoc (s y : ByteArray) (l : List ByteArray) : jtail s (l ++ [y]) = jtail s l ++ (s ++ y) := by
  induction l with
  | nil => simp [jtail, append_mk_nil, mk_nil_append]
  | cons x l ih => simp [jtail, ih, ByteArray.append_assoc]
theorem mk_joinTail (s : ByteArray) (r : List ByteArray) : mk (Lib.joinTail s.data.toList (r.map (·.data.toList))) = jtail s r := by
  induction r with
  | nil => rfl
  | cons y r ih =>
    rw [jtail, ← ih]
    simp [Lib.joinTail, ← mk_append, mk_self, ByteArray.append_assoc]
theorem joinB_cons (x s : ByteArray) (r : List ByteArray) : joinB (x :: r) s = x ++ jtail s r := by
  unfold joinB
  rw [List.map_cons, Lib.join_cons, ← mk_append, mk_self, mk_joinTail]
theorem joinB_nil (s : ByteArray) : joinB [] s = mk [] := rfl
theorem jtail_size (s : ByteArray) (c : Nat) (r : List ByteArray) (h : ∀ x ∈ r, x.size ≤ c) : (jtail s r).size ≤ r.length * (s.size + c) := by
  induction r with
  | nil => simp [jtail, mk_size]
  | cons y r ih =>
    have h1 := ih (fun x hx => h x (List.mem_cons_of_mem _ hx))
    have h2 := h y List.mem_cons_self
    simp only [jtail, ByteArray.size_append, List.length_cons, Nat.succ_mul]
    omega
theorem joinB_size (s : ByteArray) (c : Nat) (r : List ByteArray) (h : ∀ x ∈ r, x.size ≤ c) : (joinB r s).size ≤ r.length * (s.size + c) := by
  cases r with
  | nil => simp [joinB_nil, mk_size]
  | cons y r =>
    have h1 := jtail_size s c r (fun x hx => h x (List.mem_cons_of_mem _ hx))
    have h2 := h y List.mem_cons_self
    rw [joinB_cons]
    simp only [ByteArray.size_append, List.length_cons, Nat.succ_mul]
    omega
theorem rdB_eq (l : List ByteArray) (i : Nat) (h : i < l.length) : rdOf ByteArray.empty l (i : Int) = l[i] := by
  unfold rdOf; simp [h]
theorem specJoin (s : ByteArray) (c : Nat) (l : List ByteArray) (h : ∀ x ∈ l, x.size ≤ c) (hb : (l.length + 1) * (s.size + c) ≤ 9223372036854775807) (hl : l.length ≤ 1000000000) (k : Nat) (hk : l.length < k) : spec_Join.f k l s = some (joinB l s) := by
  cases l with
  | nil =>
    obtain ⟨k, rfl⟩ : ∃ m, k = m + 1 := ⟨k - 1, by omega⟩
    rfl
  | cons x r =>
    have hlr : r.length + 1 ≤ 1000000000 := by simpa using hl
    have key : ∀ (d i : Nat), r.length - i = d → i ≤ r.length → ∀ k, d < k → spec_Join.l0 k s (x ++ jtail s (r.take i)) (x :: r) ((x :: r).length : Int) ((i + 1 : Nat) : Int) = some (x ++ jtail s r) := by
      intro d
      induction d with
      | zero =>
        intro i hd hi k hk
        obtain ⟨k, rfl⟩ : ∃ m, k = m + 1 := ⟨k - 1, by omega⟩
        rw [spec_Join.l0, if_neg (by simp only [List.length_cons]; omega), List.take_of_length_le (by omega)]
      | succ d ih =>
        intro i hd hi k hk
        obtain ⟨k, rfl⟩ : ∃ m, k = m + 1 := ⟨k - 1, by omega⟩
        have hlt : i < r.length := by omega
        have h2 := ih (i + 1) (by omega) (by omega) k (by omega)
        have hx := h x List.mem_cons_self
        have hy := h r[i] (List.mem_cons_of_mem _ (List.getElem_mem hlt))
        have hz := jtail_size s c (r.take i) (fun z hz => h z (List.mem_cons_of_mem _ (List.mem_of_mem_take hz)))
        rw [List.length_take, Nat.min_eq_left (by omega)] at hz
        have hm : i * (s.size + c) + (s.size + c) + (s.size + c) ≤ 9223372036854775807 := by
          have : (i + 2) * (s.size + c) ≤ ((x :: r).length + 1) * (s.size + c) := Nat.mul_le_mul_right _ (by simp only [List.length_cons]; omega)
          have e : (i + 2) * (s.size + c) = i * (s.size + c) + (s.size + c) + (s.size + c) := by rw [Nat.add_mul]; omega
          omega
        rw [spec_Join.l0, if_pos (by simp only [List.length_cons]; omega), if_pos (by omega), if_pos (by simp only [List.length_cons]; omega), if_pos (by omega), rdB_eq _ _ (by simp only [List.length_cons]; omega), wrap_id _ (by omega) (by omega)]
        rw [List.getElem_cons_succ, if_pos (by simp only [ByteArray.size_append]; omega), if_pos (by simp only [ByteArray.size_append]; omega)]
        rw [List.take_succ_eq_append_getElem hlt, jtail_snoc] at h2
        rw [show ((i + 1 : Nat) : Int) + 1 = ((i + 1 + 1 : Nat) : Int) by omega, ← h2]
        simp only [ByteArray.append_assoc]
    obtain ⟨k, rfl⟩ : ∃ m, k = m + 1 := ⟨k - 1, by omega⟩
    have h2 := key r.length 0 (by omega) (by omega) k (by simpa using hk)
    have hx := h x List.mem_cons_self
    have h0 : (⟨#[]⟩ : ByteArray).size = 0 := rfl
    have hm : s.size + c ≤ 9223372036854775807 := Nat.le_trans (by simp only [List.length_cons]; exact Nat.le_mul_of_pos_left _ (by omega)) hb
    unfold spec_Join.f
    rw [spec_Join.l0, if_pos (by simp only [List.length_cons]; omega), if_pos (by omega), if_pos (by simp only [List.length_cons]; omega), if_neg (by omega), show (0 : Int) = ((0 : Nat) : Int) from rfl, rdB_eq _ _ (by simp only [List.length_cons]; omega), List.getElem_cons_zero, if_pos (by rw [h0]; omega), wrap_id _ (by decide) (by decide)]
    rw [joinB_cons]
    rw [List.take_zero, show jtail s [] = mk [] from rfl, append_mk_nil] at h2
    rw [show (⟨#[]⟩ : ByteArray) ++ x = x from mk_nil_append x]
    exact h2
end Go.Proofs.YtibmeomlokigjaaDoor.Q
namespace Go.Proofs.YtibmeomlokigjaaDoor.Q
open Go.RowKit Go.Proofs.YtibmeomlokigjaaDoorW.PrintWords Go.Proofs.YtibmeomlokigjaaDoorW.PrintLast Go.Proofs.YtibmeomlokigjaaDoorW.PrintMore
def keysT : List ByteArray := [⟨#[112, 111, 105, 110, 116, 115]⟩, ⟨#[100, 105, 102, 102, 101, 114, 101, 110, 99, 101]⟩, ⟨#[115, 99, 111, 114, 101, 100]⟩, ⟨#[119, 105, 110, 115]⟩, ⟨#[109, 117, 116, 117, 97, 108]⟩, ⟨#[109, 117, 116, 117, 97, 108, 100, 105, 102, 102, 101, 114, 101, 110, 99, 101]⟩, ⟨#[102, 97, 105, 114]⟩, ⟨#[115, 101, 101, 100]⟩]
def keyT (x : Int) : ByteArray := rdOf ByteArray.empty keysT (x - 1)
theorem keyT_size (x : Int) : (keyT x).size ≤ 16 := by
  unfold keyT rdOf keysT
  rcases (x - 1).toNat with _ | _ | _ | _ | _ | _ | _ | _ | n
  all_goals first | exact (by decide : (4 : Nat) ≤ 16) | exact (by decide : (6 : Nat) ≤ 16) | exact (by decide : (10 : Nat) ≤ 16) | exact (by decide : (16 : Nat) ≤ 16) | exact Nat.zero_le _
theorem implKeyName (x : Int) (h : withinT x 1 8 = true) : impl_KeyName.f x = some (keyT x) := by
  have h2 := h
  simp only [withinT, Bool.and_eq_true, decide_eq_true_eq] at h2
  unfold impl_KeyName.f
  rw [isKey_eq, Option.bind_some, if_pos h]
  unfold impl_keyNames.f
  rw [Option.bind_some, wrap_id _ (by omega) (by omega), if_pos (by omega), if_pos (by simp only [List.length_cons, List.length_nil]; omega)]
  rfl
theorem specKeyName (x : Int) (h : withinT x 1 8 = true) : spec_KeyName.f x = some (keyT x) := by
  have h2 := h
  simp only [withinT, Bool.and_eq_true, decide_eq_true_eq] at h2
  unfold spec_KeyName.f
  rw [l01In_eq, Option.bind_some, if_pos h]
  unfold spec_l03Names.f
  rw [Option.bind_some, wrap_id _ (by omega) (by omega), if_pos (by omega), if_pos (by simp only [List.length_cons, List.length_nil]; omega)]
  rfl
theorem ladder_keys {pre l : List Int} (h : ladderFrom pre l = true) : ∀ x ∈ l, withinT x 1 8 = true := by
  induction l generalizing pre with
  | nil => intro x hx; cases hx
  | cons y l ih =>
    simp only [ladderFrom, Bool.and_eq_true] at h
    intro x hx
    rcases List.mem_cons.mp hx with rfl | hx
    · exact h.1.1
    · exact ih h.2 x hx
theorem implRounds (l : List Int) (hl : l.length ≤ 1000) (hr : ∀ x ∈ l, withinT x 1 8 = true) (a b c : Int) (l2 : List Int) (g : Bool) (j : Nat) : ∀ (m i : Nat) (acc : List ByteArray), i + m = l.length → acc.length = i → impl_FormatRules.l0 (j + m) acc l (l.length : Int) (i : Int) a b c l2 g = impl_FormatRules.l0 j (acc ++ (l.drop i).map keyT) l (l.length : Int) (l.length : Int) a b c l2 g := by
  intro m
  induction m with
  | zero =>
    intro i acc hi ha
    obtain rfl : i = l.length := by omega
    simp
  | succ m ih =>
    intro i acc hi ha
    have hlt : i < l.length := by omega
    have h2 := ih (i + 1) (acc ++ [keyT l[i]]) (by omega) (by simp [ha])
    rw [show j + (m + 1) = (j + m) + 1 by omega, impl_FormatRules.l0, if_pos (by omega), if_pos (by omega), if_pos (by omega), rd_eq l i hlt, implKeyName _ (hr _ (List.getElem_mem hlt)), Option.bind_some, if_pos (by omega), wrap_succ i (by omega), h2, List.drop_eq_getElem_cons hlt, List.map_cons, List.append_assoc]
    rfl
theorem specRounds (l : List Int) (hl : l.length ≤ 1000) (hr : ∀ x ∈ l, withinT x 1 8 = true) (a b c : Int) (l2 : List Int) (g : Bool) (j : Nat) : ∀ (m i : Nat) (acc : List ByteArray), i + m = l.length → acc.length = i → spec_FormatRules.l0 (j + m) acc l (l.length : Int) (i : Int) a b c l2 g = spec_FormatRules.l0 j (acc ++ (l.drop i).map keyT) l (l.length : Int) (l.length : Int) a b c l2 g := by
  intro m
  induction m with
  | zero =>
    intro i acc hi ha
    obtain rfl : i = l.length := by omega
    simp
  | succ m ih =>
    intro i acc hi ha
    have hlt : i < l.length := by omega
    have h2 := ih (i + 1) (acc ++ [keyT l[i]]) (by omega) (by simp [ha])
    rw [show j + (m + 1) = (j + m) + 1 by omega, spec_FormatRules.l0, if_pos (by omega), if_pos (by omega), if_pos (by omega), rd_eq l i hlt, specKeyName _ (hr _ (List.getElem_mem hlt)), Option.bind_some, if_pos (by omega), wrap_succ i (by omega), h2, List.drop_eq_getElem_cons hlt, List.map_cons, List.append_assoc]
    rfl
theorem one_size2 (c : UInt8) : (⟨#[c]⟩ : ByteArray).size = 1 := rfl
theorem formatRules_both (a b c : Int) (l : List Int) (g : Bool) (hl : l.length ≤ 1048576) : ∃ t, impl_FormatRules.f (2 * l.length + 40) a b c l g = some t ∧ spec_FormatRules.f (2 * l.length + 40) a b c l g = some t := by
  unfold impl_FormatRules.f spec_FormatRules.f
  rw [rulesOk_eq a b c l g (by omega) _ (by omega), specRulesOk a b c l g (by omega) _ (by omega)]
  simp only [Option.bind_some]
  by_cases h : rulesOkB a b c l = true
  · rw [if_pos h, if_pos h]
    obtain ⟨h1, h2, h3, h4⟩ := rules_ranges h
    have hr : ∀ x ∈ l, withinT x 1 8 = true := by
      simp only [rulesOkB, Bool.and_eq_true] at h
      exact ladder_keys h.1.1.1.1.1
    have z1 := dec_size a h1.1 h1.2
    have z2 := dec_size b h2.1 h2.2
    have z3 := dec_size c h3.1 h3.2
    have e1 := implRounds l (by omega) hr a b c l g (l.length + 40) l.length 0 [] (by omega) rfl
    have e2 := specRounds l (by omega) hr a b c l g (l.length + 40) l.length 0 [] (by omega) rfl
    rw [show l.length + 40 + l.length = 2 * l.length + 40 by omega, List.drop_zero, List.nil_append] at e1 e2
    have hn : ∀ x ∈ l.map keyT, x.size ≤ 16 := by
      intro x hx
      obtain ⟨y, _, rfl⟩ := List.mem_map.mp hx
      exact keyT_size y
    have z4 := joinB_size ⟨#[62]⟩ 16 (l.map keyT) hn
    rw [List.length_map, one_size2] at z4
    have z5 : (joinB (l.map keyT) ⟨#[62]⟩).size ≤ 136 := by omega
    have z6 := join3_sz (dec a) (dec b) (dec c) ⟨#[45]⟩
    rw [one_size2] at z6
    have s6 : (⟨#[32, 97, 103, 97, 105, 110]⟩ : ByteArray).size = 6 := rfl
    rw [show ((0 : Nat) : Int) = 0 from rfl] at e1 e2
    rw [e1, e2, show l.length + 40 = (l.length + 39) + 1 by omega, impl_FormatRules.l0, spec_FormatRules.l0, if_neg (by omega), if_neg (by omega)]
    rw [show l.length + 39 = (l.length + 35) + 4 by omega, texts3 a b c h1 h2 h3, Option.bind_some, join_eq _ _ (by simp) (by rw [z6]; omega), Option.bind_some, if_pos (by rw [z6]; omega), join_eq _ _ (by simp; omega) (by omega), Option.bind_some, if_pos (by rw [ByteArray.size_append, one_size2, z6]; omega)]
    cases g with
    | true =>
      rw [if_pos rfl, if_pos (by simp only [ByteArray.size_append, one_size2, z6]; omega), join3]
      rw [show l.length + 35 + 4 = (l.length + 36) + 3 by omega, specFormatInt _ a h1.1 h1.2, Option.bind_some, if_pos (by omega), specFormatInt _ b h2.1 h2.2, Option.bind_some, if_pos (by simp only [ByteArray.size_append, one_size2]; omega), if_pos (by simp only [ByteArray.size_append, one_size2]; omega), specFormatInt _ c h3.1 h3.2, Option.bind_some, if_pos (by simp only [ByteArray.size_append, one_size2]; omega), if_pos (by simp only [ByteArray.size_append, one_size2]; omega), specJoin ⟨#[62]⟩ 16 (l.map keyT) hn (by rw [List.length_map, one_size2]; omega) (by rw [List.length_map]; omega) _ (by rw [List.length_map]; omega), Option.bind_some, if_pos (by simp only [ByteArray.size_append, one_size2]; omega), if_pos rfl, if_pos (by simp only [ByteArray.size_append, one_size2]; omega)]
      exact ⟨_, rfl, rfl⟩
    | false =>
      rw [if_neg (show ¬ (false = true) by simp), join3]
      rw [show l.length + 35 + 4 = (l.length + 36) + 3 by omega, specFormatInt _ a h1.1 h1.2, Option.bind_some, if_pos (by omega), specFormatInt _ b h2.1 h2.2, Option.bind_some, if_pos (by simp only [ByteArray.size_append, one_size2]; omega), if_pos (by simp only [ByteArray.size_append, one_size2]; omega), specFormatInt _ c h3.1 h3.2, Option.bind_some, if_pos (by simp only [ByteArray.size_append, one_size2]; omega), if_pos (by simp only [ByteArray.size_append, one_size2]; omega), specJoin ⟨#[62]⟩ 16 (l.map keyT) hn (by rw [List.length_map, one_size2]; omega) (by rw [List.length_map]; omega) _ (by rw [List.length_map]; omega), Option.bind_some, if_pos (by simp only [ByteArray.size_append, one_size2]; omega), if_neg (show ¬ (false = true) by simp)]
      exact ⟨_, rfl, rfl⟩
  · rw [if_neg h, if_neg h]
    exact ⟨_, rfl, rfl⟩
end Go.Proofs.YtibmeomlokigjaaDoor.Q
namespace Go.Proofs.YtibmeomlokigjaaDoor.Pure
open Go.RowKit Go.Proofs.YtibmeomlokigjaaDoor.Q Go.Proofs.YtibmeomlokigjaaDoorW.PrintWords Go.Proofs.YtibmeomlokigjaaDoorW.PrintLast
theorem eqIntS_self (l : List Int) (hl : l.length ≤ 2305843009213693952) (k : Nat) (hk : l.length < k) : laws_eqIntS.f k l l = some true := by
  have key : ∀ (d i : Nat), l.length - i = d → i ≤ l.length → ∀ k, d < k → laws_eqIntS.l0 k l l (i : Int) = some true := by
    intro d
    induction d with
    | zero =>
      intro i hd hi k hk
      obtain ⟨k, rfl⟩ : ∃ m, k = m + 1 := ⟨k - 1, by omega⟩
      rw [laws_eqIntS.l0, if_neg (by omega)]
    | succ d ih =>
      intro i hd hi k hk
      obtain ⟨k, rfl⟩ : ∃ m, k = m + 1 := ⟨k - 1, by omega⟩
      rw [laws_eqIntS.l0, if_pos (by omega), if_pos (by omega), if_pos (by omega), if_pos rfl, wrap_succ i (by omega), ih (i + 1) (by omega) (by omega) k (by omega)]
  unfold laws_eqIntS.f
  rw [if_pos rfl]
  exact key l.length 0 (by omega) (by omega) k hk
theorem FnExactFormatRules (a0 a1 a2 : Int) (l : List Int) (b : Bool) (ok : (Lit.int .i64 a0).wf = true ∧ (Lit.int .i64 a1).wf = true ∧ (Lit.int .i64 a2).wf = true ∧ (l.length ≤ maxLen ∧ ∀ x ∈ l, (Lit.int .i64 x).wf = true) ∧ True) : ∃ k, laws_FnExactFormatRules.f k a0 a1 a2 l b = some true := by
  have hm : l.length ≤ 9223372036854775807 := ok.2.2.2.1.1
  refine ⟨2 * l.length + 40, ?_⟩
  unfold laws_FnExactFormatRules.f laws_szRules.f laws_szIntS.f
  rw [wrap_id _ (by omega) (by omega)]
  by_cases h : (1048576 - (l.length : Int)) < 0
  · rw [if_pos h]; rfl
  · rw [if_neg h, Option.bind_some, if_neg h, Option.bind_some, if_neg h]
    obtain ⟨t, h1, h2⟩ := formatRules_both a0 a1 a2 l b (by omega)
    unfold laws_toRules.f
    rw [toIntS_eq l (by omega) _ (by omega)]
    simp only [Option.bind_some]
    rw [h1, h2, Option.bind_some, Option.bind_some, if_pos rfl]
    unfold laws_eqRules.f
    rw [if_pos rfl, if_pos rfl, if_pos rfl, eqIntS_self l (by omega) _ (by omega), Option.bind_some, if_pos rfl, if_neg (by simp), Option.bind_some, if_pos rfl]
end Go.Proofs.YtibmeomlokigjaaDoor.Pure
namespace Go.Proofs.YtibmeomlokigjaaDoor.fnExactFormatRules
open Go.ChangeShapes Go.WideShapes Go.ChangeAt Go.RowKit
open Go.ChangeMaps (open_string shut_string)
set_option linter.unusedVariables false
theorem own : ownKnob Tryd.prog.godebug = none := by kernel_rfl
theorem laidOut : laidOutB Tryd.prog = true := by kernel_rfl
set_option maxRecDepth 100000 in
set_option maxHeartbeats 4000000 in
theorem lifted (os : Os) (started : os.Started) (H : Type) (enc : TypeId × Value → H) :
    ReturnsInHanded {} Tryd.checked os 6 .any (fun w args => (Rows.fnExactFormatRulesSpec.pre enc Tryd.prog Tryd.f6 [] false w args ∧ laidMetH Tryd.prog Laid.laid3 w) ∧ sizedMet enc Tryd.prog Tryd.f6 (OpenSpec.ofChange Rows.fnExactFormatRulesSpec) false w args)
      (Rows.fnExactFormatRulesSpec.post enc Tryd.prog Tryd.f6 false true false false) := by
  refine returnsInHanded_of_change_and (C := Tryd.checked) (X := fun w _ => laidMetH Tryd.prog Laid.laid3 w) (fun _ _ _ hh h => h.of_heap hh) own started (by kernel_rfl) Tryd.func6
    (ChangeSpec.witness_shaped (enc := enc) (C := Tryd.checked) (os := os) (X := fun w _ => laidMetH Tryd.prog Laid.laid3 w) false (World.doorLaid Tryd.prog 400 os) #[.agg #[.int .i64 0, .int .i64 0, .int .i64 0, .slice none 0 0, .bool false]] 8 rfl (Laid.door_shaped os _) (by kernel_rfl) (by kernel_rfl) (by kernel_rfl) (Laid.door_met os _)) ?_
  intro W base args ds gs before hval0 hW hcnd hsz0 hL _
  have hval : ∀ (j : Nat) t v, Tryd.f6.params[j]? = some t → args[j]? = some v → Value.okWide Tryd.prog W .any base t v := hval0
  have hW' := hW
  obtain ⟨p, q, hA0, hV, rfl, hfz, hnd⟩ := hW
  have hA : DataW.TrodAll enc Tryd.prog W 0 (fun _ => true) true Tryd.f6.params.toList args.toList ds p := hA0
  rw [Tryd.params6] at hA hval
  obtain ⟨v0, vs0, d0, ds0, p0, q0, hargs0, rfl, rfl, h0, r0⟩ := trodAll_cons hA
  obtain ⟨rfl, rfl, rfl⟩ := trodAll_nil r0
  obtain rfl : args = #[v0] := by cases args; simp_all
  obtain ⟨rfl, rfl⟩ := trodVars_none hV
  have k0 := h0; have lt0 : ∀ x ∈ p0, x.block < W.heap.size := by obtain ⟨m, hm⟩ := k0; exact DataW.trod_lt m _ _ _ hm
  obtain ⟨cs0, x0, rfl, hK0, ok0⟩ := Opens.trod_struct_val Tryd.underlying44 (hval 0 44 v0 rfl rfl) h0 (Opens.struct Tryd.underlying44 (by kernel_rfl) (Opens.cons 0 1 rfl (Opens.int Tryd.underlying3) (by kernel_rfl) rfl (Opens.cons 1 2 rfl (Opens.int Tryd.underlying3) (by kernel_rfl) rfl (Opens.cons 2 3 rfl (Opens.int Tryd.underlying3) (by kernel_rfl) rfl (Opens.cons 3 4 rfl (Opens.slice Tryd.underlying42 (Opens.int Tryd.underlying3) (by kernel_rfl) 3) (by kernel_rfl) rfl (Opens.one 4 rfl (Opens.bool Tryd.underlying4) (by kernel_rfl)))))))
  obtain ⟨a0_0, a0_1, a0_2, l0_3, a0_4⟩ := x0
  obtain ⟨_, _, hcs0, rfl, ⟨_, _, rfl, rfl, ⟨_, _, rfl, rfl, ⟨_, _, rfl, ⟨A0_3, c0_3, rfl, hl0_3, hC0_3⟩, rfl⟩⟩⟩⟩ := hK0
  obtain rfl : cs0 = #[.int .i64 a0_0, .int .i64 a0_1, .int .i64 a0_2, .slice A0_3 l0_3.length c0_3, .bool a0_4] := Array.toList_inj.mp hcs0
  clear hA0 hval0 hsz0
  obtain ⟨k, hk⟩ := Pure.FnExactFormatRules a0_0 a0_1 a0_2 l0_3 a0_4 ok0
  refine (Q.laws_FnExactFormatRules.calls k  a0_0 a0_1 a0_2 A0_3 c0_3 l0_3 a0_4 _ W hC0_3 hl0_3 hk).mono fun e W' ⟨he, bel⟩ => ?_
  subst he
  exact ⟨_, rfl, _, _, _, [], _, [], hW', trodAll_mk1 (shut_bool Tryd.underlying4 _), (trodAll_cons_mk (Below.trod laidOut (by kernel_rfl) (of_decide_eq_true (by kernel_rfl)) k0 bel lt0) trodAll_mk0), rfl, bel.frame _, fun h => by cases h⟩
theorem over : Rows.fnExactFormatRulesRow.holds Tryd.pinned (OpenSpec.ofChange Rows.fnExactFormatRulesSpec) :=
  OpenClaim.holds_of_wide 6 Tryd.f6 rfl rfl rfl rfl rfl rfl rfl ⟨rfl, rfl, rfl, rfl, rfl⟩ rfl rfl rfl rfl rfl (by kernel_rfl) Tryd.func6 (by kernel_rfl)
    (of_decide_eq_true (by kernel_rfl)) (by unfold Func.isWrapper; first | (rw [if_pos (by decide +kernel)]; kernel_rfl) | (rw [if_neg (by decide +kernel)]; exact ⟨rfl, rfl⟩))
    (fun os started H enc _ => lifted os started H enc)
theorem provedCard : Rows.FnExactFormatRulesCardSaid :=
  Claim7.holds_tied_plain_at .later [] [.data, .data, .data] true (true, "a6e8e4b77242bb99ec034f5991610b756a84533526b99ec4e7efdd8f2b96172f") false
    over (fun _ h => by cases h) (by kernel_rfl) (fun _ h => by cases h) fnExactFormatRules_row_tie rfl ⟨rfl, rfl⟩ (by kernel_rfl) rfl
    (fun f fn hf hfn => by
      obtain rfl : f = 6 := (Option.some.inj ((show Tryd.prog.funcNamed "loop.example/g00834/laws.FnExactFormatRules" = some 6 by kernel_rfl).symm.trans hf)).symm
      obtain rfl : fn = Tryd.f6 := (Option.some.inj (Tryd.func6.symm.trans hfn)).symm
      refine ⟨by kernel_rfl, fun j t ht => ?_⟩
      have hm : t ∈ Tryd.f6.params.toList := List.mem_of_getElem? (i := j) (by rw [Array.getElem?_toList]; exact ht)
      have hall := List.all_eq_true.mp (show (Tryd.f6.params.toList.all fun t => !Tryd.prog.wantsStandIn t) = true by kernel_rfl) t hm
      exact Bool.not_eq_true' _ |>.mp hall)
    (by kernel_rfl)
end Go.Proofs.YtibmeomlokigjaaDoor.fnExactFormatRules
namespace Go.Proofs.YtibmeomlokigjaaDoor
theorem fnExactFormatRules_holds : Rows.FnExactFormatRulesCardSaid := fnExactFormatRules.provedCard
end Go.Proofs.YtibmeomlokigjaaDoor
