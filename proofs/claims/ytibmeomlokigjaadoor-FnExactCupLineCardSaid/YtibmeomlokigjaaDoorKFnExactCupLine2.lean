/- A part of the proof of FnExactCupLine: functions of the program, as plain functions, with the proof that the machine's call does what they say; plain lemmas; and those of the words that print.sh prints which this proof uses. No condition. -/
import Derived.Test.YtibmeomlokigjaaDoorKFnExactCupLine1
import Derived.Test.YtibmeomlokigjaaDoorProg
import Derived.Below
import Derived.Deep.Draws
import Derived.Deep.AppendLies
import Derived.Maps.AppendAt
import Derived.OwnWalk
import Derived.Laws.BytesArg
import Derived.Laws.MakeOwn
import Derived.Laws.OwnMore
import Derived.Deep.OwnRows
import Derived.Tactics
import Derived.Lib.ConvBytes
import Derived.Laws.Slices
import Derived.WalkKit
import Derived.KernelRfl
import Derived.RowKit3
import Derived.Deep.LoopGhost
import Derived.Deep.QuietTactic
import Derived.BigQuiet
import Derived.WideLaws
import Derived.Deep.DeepCutAuto
import Derived.Deep.CutBlock
import Derived.Deep.RegionHeld3
import Derived.Laws.Rows
import Derived.Lib.AppendStr
import Derived.ArgAppend
import Derived.Laws.IdiomCopy
import Derived.OrdersHeld
import Derived.Laws.BitsLemmas
import Derived.RowKit
import Derived.WalkSpells
import Derived.Shelf.Strings.Builder1
import Derived.Shelf.Strings.Builder2
import Derived.Shelf.Strings.OnBuilder
import Derived.Shelf.Strconv.Itoa0
import Derived.Shelf.Strconv.Itoa1
import Derived.Shelf.LaysM
import Derived.Shelf.Strconv.Itoa2
import Derived.Shelf.Strconv.Itoa3
import Derived.Laws.StructEq
import Derived.Test.YtibmeomlokigjaaDoorRows
import Derived.ProofKit
import Derived.OpenShut
import Derived.ShutString
import Derived.ChangeOld
import Derived.SizedLaws
import Derived.LaidMore
import Derived.LaidHandle
import Derived.Stop.Joined
import Derived.Test.YtibmeomlokigjaaDoorCards
import Derived.Test.YtibmeomlokigjaaDoorTie
import Derived.SevenTiedAt
namespace Go.Proofs.YtibmeomlokigjaaDoor.Q
open Go.RowKit Go.Proofs.YtibmeomlokigjaaDoorW.PrintWords Go.Proofs.YtibmeomlokigjaaDoorW.PrintLast Go.Proofs.YtibmeomlokigjaaDoorW.PrintMore
attribute [local go_sem] max2_int min2_int max_two min_two max_three min_three max_four min_four
set_option linter.unusedVariables false
set_option linter.unusedSimpArgs false
def spec_ChampionOf.f (k : Nat) (a0_0 : Int) (l0_1 : List Int) : Option (Int) := (spec_CupOk.f k a0_0 l0_1).bind fun t556 => (if t556 = true then (if (l0_1.length : Int) = (wrap64 (a0_0 - 1)) then (if 0 ≤ (wrap64 ((l0_1.length : Int) - 1)) then (if (wrap64 ((l0_1.length : Int) - 1)) < (l0_1.length : Int) then (some (rd l0_1 (wrap64 ((l0_1.length : Int) - 1)))) else (none)) else (none)) else (some 0)) else (some 0))
set_option maxHeartbeats 8000000 in
set_option maxRecDepth 100000 in
theorem spec_ChampionOf.calls (k : Nat) (a0_0 : Int) (A0_1 : Option Addr) (c0_1 : Nat) (l0_1 : List Int) (r : Int) (w : World) (hr0_1 : Kd.C (Kd.int .i64) w A0_1 l0_1.length l0_1) (hc0_1 : l0_1.length ≤ c0_1) (h : spec_ChampionOf.f k a0_0 l0_1 = some r) :
    Calls Tryd.prog 70 #[.agg #[.int .i64 a0_0, .slice A0_1 l0_1.length c0_1]] w fun e w' => e = .returned (.int .i64 r) ∧ Below w.heap.size w w' := by
  have hu66 := Tryd.underlying66
  have HR0_1 := Aside0.mk hr0_1
  have HC0_1 := Aside0.mk hc0_1
  clear hr0_1 hc0_1
  have HB := Aside0.mk (Below.refl w.heap.size w)
  have H : ((spec_CupOk.f k a0_0 l0_1).bind fun t556 => (if t556 = true then (if (l0_1.length : Int) = (wrap64 (a0_0 - 1)) then (if 0 ≤ (wrap64 ((l0_1.length : Int) - 1)) then (if (wrap64 ((l0_1.length : Int) - 1)) < (l0_1.length : Int) then (some (rd l0_1 (wrap64 ((l0_1.length : Int) - 1)))) else (none)) else (none)) else (some 0)) else (some 0))) = some r := h
  clear h
  replace H := Option.bind_eq_some_iff.mp H
  obtain ⟨t556, A20, H⟩ := H
  replace H : (if t556 = true then (if (l0_1.length : Int) = (wrap64 (a0_0 - 1)) then (if 0 ≤ (wrap64 ((l0_1.length : Int) - 1)) then (if (wrap64 ((l0_1.length : Int) - 1)) < (l0_1.length : Int) then (some (rd l0_1 (wrap64 ((l0_1.length : Int) - 1)))) else (none)) else (none)) else (some 0)) else (some 0)) = some r := H
  have A2 := Aside0.mk A20
  clear A20
  by_cases c3 : t556 = true
  · subst c3
    have H1 : (if (l0_1.length : Int) = (wrap64 (a0_0 - 1)) then (if 0 ≤ (wrap64 ((l0_1.length : Int) - 1)) then (if (wrap64 ((l0_1.length : Int) - 1)) < (l0_1.length : Int) then (some (rd l0_1 (wrap64 ((l0_1.length : Int) - 1)))) else (none)) else (none)) else (some 0)) = some r := by rw [if_pos rfl] at H; exact H
    clear H
    have H := H1
    clear H1
    by_cases c4 : (l0_1.length : Int) = (wrap64 (a0_0 - 1))
    · rw [if_pos c4] at H
      have c4b0 : ((l0_1.length : Int) == (wrap64 (a0_0 - 1))) = true := beq_iff_eq.mpr c4
      have c4b1 : ((l0_1.length : Int) != (wrap64 (a0_0 - 1))) = false := bne_eq_false_iff_eq.mpr c4
      clear c4
      obtain ⟨ji5, hji5⟩ : ∃ j_ : Int, (wrap64 ((l0_1.length : Int) - 1)) = j_ := ⟨_, rfl⟩
      replace H : (if 0 ≤ (ji5) then (if (ji5) < (l0_1.length : Int) then (some (rd l0_1 (ji5))) else (none)) else (none)) = some r := by first | (rw [hji5] at H; exact H) | (simp only [hji5] at H ⊢; exact H)
      (try rw [hji5] at A2)
      have hji5w : (IntKind.i64.wrap ((l0_1.length : Int) - 1)) = ji5 := (i64_w _).trans hji5
      by_cases c6 : 0 ≤ (ji5)
      · rw [if_pos c6] at H
        have c6b0 : decide (0 ≤ (ji5)) = true := decide_eq_true c6
        clear c6
        by_cases c7 : (ji5) < (l0_1.length : Int)
        · rw [if_pos c7] at H
          have c7b0 : decide ((ji5) < (l0_1.length : Int)) = true := decide_eq_true c7
          clear c7
          obtain rfl := Option.some.inj H
          go_enter Tryd.func70, Tryd.ntmps70
          go_wp2_with (first | ((with_reducible refine gate_dst (N := 1) rfl ?_); (try (refine gate_guard (by rfl) ?_; dsimp only)); refine bx (N := 1) (cs := #[.int .i64 a0_0, .slice A0_1 l0_1.length c0_1]) (t := 66) ?_; intro gb555 hg w8 hbox hb; have BK555 := Aside0.mk (hbox); have GW555 := gs hg HB; have GE555 := gs hg HB; replace HB := hs_ HB hb; clear hb hbox hg; have ⟨hcz9_0, hcz9_1, hfz9_0, hfz9_1⟩ := rz2 BK555) | ((with_reducible refine gate_callee (f := 69) rfl ?_); refine gl (some 4) Tryd.func69 #[.agg #[.int .i64 a0_0, .slice A0_1 l0_1.length c0_1]] ?_; (with_reducible refine (spec_CupOk.calls k a0_0 _ _ l0_1 true _ ?side1 ?side2 A2.out).mono ?_); (case side1 => exact cc HR0_1 HB); (case side2 => exact HC0_1.out); rintro e w10 ⟨rfl, hb⟩; refine ⟨_, rfl, ?_⟩; replace BK555 := kb BK555 hb; replace HB := hs_ HB hb; (try clear hb); (try clear hb2); (try clear hk); (try clear hi); have ⟨hcz11_0, hcz11_1, hfz11_0, hfz11_1⟩ := rz2 BK555; have p557 : 0 ≤ ((ji5) : Int) := of_decide_eq_true (by first | (with_reducible assumption) | assumption); have q557 : (ji5) < (l0_1.length : Int) := of_decide_eq_true (by first | (with_reducible assumption) | assumption); obtain ⟨ad557, e557, hx557_0⟩ := Kd.at_int HR0_1.out (ji5) p557 q557; cases e557; replace hx557_0 := (HB.out.cell (World.block_lt_of_cell? w _ hx557_0)).trans hx557_0; replace p557 := eq_true p557; replace q557 := eq_true q557))
          go_ret
          exact ⟨by first | rfl | (simp [errW_none, errW_some] <;> rfl) | (simp only [← hji5]; first | rfl | (simp [errW_none, errW_some] <;> rfl)) | (simp [*, errW_none, errW_some] <;> rfl), bb HB⟩
        · rw [if_neg c7] at H
          exact absurd H (by simp)
      · rw [if_neg c6] at H
        exact absurd H (by simp)
    · rw [if_neg c4] at H
      have c4b0 : ((l0_1.length : Int) == (wrap64 (a0_0 - 1))) = false := beq_eq_false_iff_ne.mpr c4
      have c4b1 : ((l0_1.length : Int) != (wrap64 (a0_0 - 1))) = true := bne_iff_ne.mpr c4
      obtain rfl := Option.some.inj H
      go_enter Tryd.func70, Tryd.ntmps70
      go_wp2_with (first | ((with_reducible refine gate_dst (N := 1) rfl ?_); (try (refine gate_guard (by rfl) ?_; dsimp only)); refine bx (N := 1) (cs := #[.int .i64 a0_0, .slice A0_1 l0_1.length c0_1]) (t := 66) ?_; intro gb555 hg w12 hbox hb; have BK555 := Aside0.mk (hbox); have GW555 := gs hg HB; have GE555 := gs hg HB; replace HB := hs_ HB hb; clear hb hbox hg; have ⟨hcz13_0, hcz13_1, hfz13_0, hfz13_1⟩ := rz2 BK555) | ((with_reducible refine gate_callee (f := 69) rfl ?_); refine gl (some 4) Tryd.func69 #[.agg #[.int .i64 a0_0, .slice A0_1 l0_1.length c0_1]] ?_; (with_reducible refine (spec_CupOk.calls k a0_0 _ _ l0_1 true _ ?side1 ?side2 A2.out).mono ?_); (case side1 => exact cc HR0_1 HB); (case side2 => exact HC0_1.out); rintro e w14 ⟨rfl, hb⟩; refine ⟨_, rfl, ?_⟩; replace BK555 := kb BK555 hb; replace HB := hs_ HB hb; (try clear hb); (try clear hb2); (try clear hk); (try clear hi); have ⟨hcz15_0, hcz15_1, hfz15_0, hfz15_1⟩ := rz2 BK555))
      go_ret
      exact ⟨ee, bb HB⟩
  · replace c3 := Bool.eq_false_iff.mpr c3
    subst c3
    have H1 : (some 0) = some r := by rw [if_neg (show ¬ (false = true) by decide)] at H; exact H
    clear H
    have H := H1
    clear H1
    obtain rfl := Option.some.inj H
    go_enter Tryd.func70, Tryd.ntmps70
    go_wp2_with (first | ((with_reducible refine gate_dst (N := 1) rfl ?_); (try (refine gate_guard (by rfl) ?_; dsimp only)); refine bx (N := 1) (cs := #[.int .i64 a0_0, .slice A0_1 l0_1.length c0_1]) (t := 66) ?_; intro gb555 hg w16 hbox hb; have BK555 := Aside0.mk (hbox); have GW555 := gs hg HB; have GE555 := gs hg HB; replace HB := hs_ HB hb; clear hb hbox hg; have ⟨hcz17_0, hcz17_1, hfz17_0, hfz17_1⟩ := rz2 BK555) | ((with_reducible refine gate_callee (f := 69) rfl ?_); refine gl (some 4) Tryd.func69 #[.agg #[.int .i64 a0_0, .slice A0_1 l0_1.length c0_1]] ?_; (with_reducible refine (spec_CupOk.calls k a0_0 _ _ l0_1 false _ ?side1 ?side2 A2.out).mono ?_); (case side1 => exact cc HR0_1 HB); (case side2 => exact HC0_1.out); rintro e w18 ⟨rfl, hb⟩; refine ⟨_, rfl, ?_⟩; replace BK555 := kb BK555 hb; replace HB := hs_ HB hb; (try clear hb); (try clear hb2); (try clear hk); (try clear hi)))
    go_ret
    exact ⟨ee, bb HB⟩
end Go.Proofs.YtibmeomlokigjaaDoor.Q
section
namespace Go.Proofs.YtibmeomlokigjaaDoor.Q
open Go.RowKit Go.Proofs.YtibmeomlokigjaaDoorW.PrintWords Go.Proofs.YtibmeomlokigjaaDoorW.PrintLast Go.Proofs.YtibmeomlokigjaaDoorW.PrintMore
attribute [local go_sem] max2_int min2_int max_two min_two max_three min_three max_four min_four
set_option linter.unusedVariables false
set_option linter.unusedSimpArgs false
mutual
def spec_CupLine.l0 : Nat → List ByteArray → List Int → Int → Int → Int → List Int → Option (ByteArray)
  | 0, _, _, _, _, _, _ => none
  | k + 1, x3, x11, x12, x13, x559000, x559001 => if x13 < x12 then (if 0 ≤ x13 then (if x13 < (x11.length : Int) then ((spec_FormatInt.f k (rd x11 x13)).bind fun t564 => (if x3.length < 8796093022208 then (spec_CupLine.l0 k (x3 ++ [t564]) x11 x12 (wrap64 (x13 + 1)) x559000 x559001) else (none))) else (none)) else (none)) else (if (x3.length : Int) = 0 then (if x3.length < 8796093022208 then (spec_CupLine.j1 k (x3 ++ [(⟨#[110, 111, 110, 101]⟩ : ByteArray)]) x559000 x559001) else (none)) else (spec_CupLine.j1 k x3 x559000 x559001))
def spec_CupLine.j1 : Nat → List ByteArray → Int → List Int → Option (ByteArray)
  | 0, _, _, _ => none
  | k + 1, x3, x559000, x559001 => (spec_ChampionOf.f k x559000 x559001).bind fun t571 => (if t571 > 0 then ((spec_ChampionOf.f k x559000 x559001).bind fun t572 => ((spec_FormatInt.f k t572).bind fun t573 => ((some (([(⟨#[99, 104, 97, 109, 112, 105, 111, 110]⟩ : ByteArray), t573] : List ByteArray) : List ByteArray)).bind fun y574 => (if x3.length + y574.length < 8796093022208 then ((spec_Join.f k (x3 ++ y574) (⟨#[32]⟩ : ByteArray)).bind fun t580 => (some t580)) else (none))))) else ((spec_Join.f k x3 (⟨#[32]⟩ : ByteArray)).bind fun t581 => (some t581)))
end
def spec_CupLine.f (k : Nat) (a0_0 : Int) (l0_1 : List Int) : Option (ByteArray) := (spec_CupOk.f k a0_0 l0_1).bind fun t559 => (if t559 = true then (spec_CupLine.l0 k (([] : List ByteArray)) l0_1 (l0_1.length : Int) 0 a0_0 l0_1) else (some (⟨#[]⟩ : ByteArray)))
set_option maxHeartbeats 8000000 in
set_option maxRecDepth 100000 in
theorem spec_CupLine.calls (k : Nat) (a0_0 : Int) (A0_1 : Option Addr) (c0_1 : Nat) (l0_1 : List Int) (r : ByteArray) (w : World) (hr0_1 : Kd.C (Kd.int .i64) w A0_1 l0_1.length l0_1) (hc0_1 : l0_1.length ≤ c0_1) (h : spec_CupLine.f k a0_0 l0_1 = some r) :
    Calls Tryd.prog 35 #[.agg #[.int .i64 a0_0, .slice A0_1 l0_1.length c0_1]] w fun e w' => e = .returned (.string r) ∧ Below w.heap.size w w' := by
  have hu66 := Tryd.underlying66
  have HR0_1 := Aside0.mk hr0_1
  have HC0_1 := Aside0.mk hc0_1
  clear hr0_1 hc0_1
  have HB := Aside0.mk (Below.refl w.heap.size w)
  have H : ((spec_CupOk.f k a0_0 l0_1).bind fun t559 => (if t559 = true then (spec_CupLine.l0 k (([] : List ByteArray)) l0_1 (l0_1.length : Int) 0 a0_0 l0_1) else (some (⟨#[]⟩ : ByteArray)))) = some r := h
  clear h
  replace H := Option.bind_eq_some_iff.mp H
  obtain ⟨t559, A20, H⟩ := H
  replace H : (if t559 = true then (spec_CupLine.l0 k (([] : List ByteArray)) l0_1 (l0_1.length : Int) 0 a0_0 l0_1) else (some (⟨#[]⟩ : ByteArray))) = some r := H
  have A2 := Aside0.mk A20
  clear A20
  by_cases c3 : t559 = true
  · subst c3
    have H1 : (spec_CupLine.l0 k (([] : List ByteArray)) l0_1 (l0_1.length : Int) 0 a0_0 l0_1) = some r := by rw [if_pos rfl] at H; exact H
    clear H
    have H := H1
    clear H1
    obtain ⟨y560, hy560⟩ : ∃ y_ : List ByteArray, y_ = (([] : List ByteArray)) := ⟨_, rfl⟩
    replace H : (spec_CupLine.l0 k y560 l0_1 (l0_1.length : Int) 0 a0_0 l0_1) = some r := by first | (rw [hy560]; with_reducible exact H) | (have H2_ := (Option.bind_some _ _).symm.trans H; rw [hy560]; with_reducible exact H2_) | (have H2_ := (Option.bind_some _ _).symm.trans H; with_reducible exact H2_) | with_reducible exact H | (rw [hy560]; exact H) | exact H
    have Ny560 := Aside0.mk hy560
    clear hy560
    have H' := Aside0.mk H
    clear H
    go_enter Tryd.func35, Tryd.ntmps35
    go_wp2_with (first | ((with_reducible refine gate_dst (N := 1) rfl ?_); refine bx (N := 1) (cs := #[.int .i64 a0_0, .slice A0_1 l0_1.length c0_1]) (t := 66) ?_; intro gb558 hg w4 hbox hb; have BK558 := Aside0.mk (hbox); have GW558 := gs hg HB; have GE558 := gs hg HB; replace HB := hs_ HB hb; clear hb hbox hg; have ⟨hcz5_0, hcz5_1, hfz5_0, hfz5_1⟩ := rz2 BK558) | ((with_reducible refine gate_callee (f := 69) rfl ?_); refine gl (some 7) Tryd.func69 #[.agg #[.int .i64 a0_0, .slice A0_1 l0_1.length c0_1]] ?_; (with_reducible refine (spec_CupOk.calls k a0_0 _ _ l0_1 true _ ?side1 ?side2 A2.out).mono ?_); (case side1 => exact cc HR0_1 HB); (case side2 => exact HC0_1.out); rintro e w6 ⟨rfl, hb⟩; refine ⟨_, rfl, ?_⟩; replace BK558 := kb BK558 hb; replace HB := hs_ HB hb; (try clear hb); (try clear hb2); (try clear hk); (try clear hi)) | ((with_reducible refine gate_dst (N := 9) rfl ?_); refine Kd.R_lit Kd.string _ 9 ?hg (N := 9) ?hd (xs := ([] : List ByteArray)) (inner := []) (ok := fun _ => True) (okp := fun _ => True) ?hr ?hp (fun _ hk => hk) trivial (Below.refl _ _) (Nat.le_refl _) (by simp) ?_; (case hd => rfl); (case hg => rfl); (case hr => first | (go_simp; done) | (go_simp; rfl)); (case hp => exact (Reps.none _ _)); intro v561 w7 ho8 hb hg_ hnew_; clear hg_ hnew_; (first | rw [← Ny560.out] at ho8 | (simp only [Int.reduceToNat] at ho8; rw [← Ny560.out] at ho8)); have HO562 := kl ho8 HB; replace BK558 := kb BK558 hb; replace HB := hs_ HB hb; clear hb ho8; have ⟨hcz9_0, hcz9_1, hfz9_0, hfz9_1⟩ := rz2 BK558))
    go_loopg [3, 13] k (fun kq v3 v13 w' => ∃ (x3_1 : List ByteArray) (x13_1 : Int), v13 = .int .i64 x13_1 ∧ Aside0 (spec_CupLine.l0 kq x3_1 l0_1 (l0_1.length : Int) x13_1 a0_0 l0_1 = some r) ∧ Aside0 (kq ≤ k) ∧ Aside0 (Kd.R Kd.string 9 w' w.heap.size (fun _ => True) v3 x3_1) ∧ Aside0 (w'.heap[gb558]? = some (.cells #[.int .i64 a0_0, (.slice A0_1 l0_1.length c0_1)] 66 (0, 0))) ∧ Aside0 (Below w.heap.size w w'))
    case atStart => exact ⟨(y560), (0), e2_, H', ⟨Nat.le_refl _⟩, ⟨rr HO562⟩, ⟨bk BK558⟩, ⟨bb HB⟩⟩
    case round =>
      clear H'
      (try clear p2)
      (try clear c3)
      (try clear c6)
      (try clear hcz5_0 hcz5_1)
      (try clear hcz9_0 hcz9_1)
      (try clear hfz5_0 hfz5_1)
      (try clear hfz9_0 hfz9_1)
      obtain ⟨x3_1, x13_1, rfl, HA, HK1, HO_3, BK558, HB⟩ := hrel
      cases gk with
      | zero => exact absurd HA.out (by simp [spec_CupLine.l0])
      | succ k1 =>
        have H := HA.out
        clear HA
        simp only [spec_CupLine.l0] at H
        by_cases c10 : x13_1 < (l0_1.length : Int)
        · rw [if_pos c10] at H
          have c10b0 : decide (x13_1 < (l0_1.length : Int)) = true := decide_eq_true c10
          clear c10
          by_cases c11 : 0 ≤ x13_1
          · rw [if_pos c11] at H
            have c11b0 : decide (0 ≤ x13_1) = true := decide_eq_true c11
            clear c11
            by_cases c12 : x13_1 < (l0_1.length : Int)
            · rw [if_pos c12] at H
              have c12b0 : decide (x13_1 < (l0_1.length : Int)) = true := decide_eq_true c12
              clear c12
              replace H := Option.bind_eq_some_iff.mp H
              obtain ⟨t564, A130, H⟩ := H
              replace H : (if x3_1.length < 8796093022208 then (spec_CupLine.l0 k1 (x3_1 ++ [t564]) l0_1 (l0_1.length : Int) (wrap64 (x13_1 + 1)) a0_0 l0_1) else (none)) = some r := H
              have A13 := Aside0.mk A130
              clear A130
              by_cases c14 : x3_1.length < 8796093022208
              · rw [if_pos c14] at H
                have LMc14 := Aside0.mk c14
                clear c14
                obtain ⟨y565, hy565⟩ : ∃ y_ : List ByteArray, y_ = (x3_1 ++ [t564]) := ⟨_, rfl⟩
                replace H : (spec_CupLine.l0 k1 y565 l0_1 (l0_1.length : Int) (wrap64 (x13_1 + 1)) a0_0 l0_1) = some r := by first | (rw [hy565]; with_reducible exact H) | (have H2_ := (Option.bind_some _ _).symm.trans H; rw [hy565]; with_reducible exact H2_) | (have H2_ := (Option.bind_some _ _).symm.trans H; with_reducible exact H2_) | with_reducible exact H | (rw [hy565]; exact H) | exact H
                have Ny565 := Aside0.mk hy565
                clear hy565
                have H' := Aside0.mk H
                clear H
                have p563 : 0 ≤ (x13_1 : Int) := of_decide_eq_true (by first | (with_reducible assumption) | assumption)
                have q563 : x13_1 < (l0_1.length : Int) := of_decide_eq_true (by first | (with_reducible assumption) | assumption)
                obtain ⟨ad563, e563, hx563_0⟩ := Kd.at_int HR0_1.out x13_1 p563 q563
                cases e563
                replace hx563_0 := (HB.out.cell (World.block_lt_of_cell? w _ hx563_0)).trans hx563_0
                replace p563 := eq_true p563
                replace q563 := eq_true q563
                go_wp2_with (first | ((with_reducible refine gate_callee (f := 48) rfl ?_); refine gl (some 19) Tryd.func48 #[.int .i64 (rd l0_1 x13_1)] ?_; (with_reducible refine (spec_FormatInt.calls k1 (rd l0_1 x13_1) t564 _ A13.out).mono ?_); rintro e w15 ⟨rfl, hb⟩; refine ⟨_, rfl, ?_⟩; replace HO_3 := kr HO_3 hb; replace BK558 := kb BK558 hb; replace HB := hs_ HB hb; (try clear hb); (try clear hb2); (try clear hk); (try clear hi)) | ((with_reducible refine gate_builtin (b := .append) (xs := #[.tmp 17, .tmp 20]) rfl ?_); at_builtin; refine Kd.R_append Kd.string (w0 := w) w.heap.size rfl (.tmp 17) (.tmp 20) 53 9 (.string ⟨#[]⟩) 16 rfl Tryd.underlying53 info9 rfl (by decide) (by omega) u3 x3_1 t564 [.string t564] (fun _ => True) (fun _ => False) rfl rfl ?aP (fun _ hk => hk.elim) ?aF ?aO ?aB ?aS ?aL ?_; (case aP => exact rfl); (case aB => exact (bb HB)); (case aF => exact (fun _ _ => trivial)); (case aO => exact (rr HO_3)); (case aS => exact (below_size (bb HB))); (case aL => have := LMc14.out; omega); intro v566 w16 ho hb hg hat; rw [← Ny565.out] at ho; replace BK558 := Aside0.mk (blk_grown (g := gb558) (o := .cells #[.int .i64 a0_0, .slice (some ad563) l0_1.length c0_1] 66 (0, 0)) (bk BK558) hg (Kd.R_ne HO_3.out BK558.out (by decide))); replace HB := Aside0.mk (hb); have HO567 := Aside0.mk (ho); clear HO_3 ho hb hg hat))
                go_roundg k1
                case measure => have := HK1.out; omega
                case rel => exact ⟨(y565), (wrap64 (x13_1 + 1)), e2_, H', ⟨by have := HK1.out; omega⟩, ⟨rr HO567⟩, ⟨bk BK558⟩, ⟨bb HB⟩⟩
              · rw [if_neg c14] at H
                exact absurd H (by simp)
            · rw [if_neg c12] at H
              exact absurd H (by simp)
          · rw [if_neg c11] at H
            exact absurd H (by simp)
        · rw [if_neg c10] at H
          have c10b0 : decide (x13_1 < (l0_1.length : Int)) = false := decide_eq_false c10
          clear c10
          have HC17 := Aside0.mk H
          clear H
          obtain ⟨Ao18, co18, eo18⟩ := Kd.R_slice HO_3.out
          subst eo18
          go_upto_if 25 with (fail)
          go_cut [3] (fun v3 wc => ∃ (kq : Nat) (x3_16 : List ByteArray), Aside0 (spec_CupLine.j1 kq x3_16 a0_0 l0_1 = some r) ∧ Aside0 (kq ≤ k1) ∧ Aside0 (Kd.R Kd.string 9 wc w.heap.size (fun _ => True) v3 x3_16) ∧ Aside0 (wc.heap[gb558]? = some (.cells #[.int .i64 a0_0, (.slice A0_1 l0_1.length c0_1)] 66 (0, 0))) ∧ Aside0 (Below w.heap.size w wc))
          case first =>
            have H := HC17.out
            clear HC17
            by_cases c19 : (x3_1.length : Int) = 0
            · rw [if_pos c19] at H
              have c19b0 : ((x3_1.length : Int) == 0) = true := beq_iff_eq.mpr c19
              have c19b1 : ((x3_1.length : Int) != 0) = false := bne_eq_false_iff_eq.mpr c19
              clear c19
              (first | rw [c19b0] | rw [c19b1] | (simp only [i64_w, i32_w]; rw [c19b0]) | skip)
              by_cases c20 : x3_1.length < 8796093022208
              · rw [if_pos c20] at H
                have LMc20 := Aside0.mk c20
                clear c20
                obtain ⟨y568, hy568⟩ : ∃ y_ : List ByteArray, y_ = (x3_1 ++ [(⟨#[110, 111, 110, 101]⟩ : ByteArray)]) := ⟨_, rfl⟩
                replace H : (spec_CupLine.j1 k1 y568 a0_0 l0_1) = some r := by first | (rw [hy568]; with_reducible exact H) | (have H2_ := (Option.bind_some _ _).symm.trans H; rw [hy568]; with_reducible exact H2_) | (have H2_ := (Option.bind_some _ _).symm.trans H; with_reducible exact H2_) | with_reducible exact H | (rw [hy568]; exact H) | exact H
                have Ny568 := Aside0.mk hy568
                clear hy568
                have H' := Aside0.mk H
                clear H
                go_wp2_with (first | ((with_reducible refine gate_builtin (b := .append) (xs := #[.tmp 26, .tmp 27]) rfl ?_); at_builtin; refine Kd.R_append Kd.string (w0 := w) w.heap.size rfl (.tmp 26) (.tmp 27) 53 9 (.string ⟨#[]⟩) 16 rfl Tryd.underlying53 info9 rfl (by decide) (by omega) (.slice Ao18 x3_1.length co18) x3_1 (⟨#[110, 111, 110, 101]⟩ : ByteArray) [.string (⟨#[110, 111, 110, 101]⟩ : ByteArray)] (fun _ => True) (fun _ => False) rfl rfl ?aP (fun _ hk => hk.elim) ?aF ?aO ?aB ?aS ?aL ?_; (case aP => exact rfl); (case aB => exact (bb HB)); (case aF => exact (fun _ _ => trivial)); (case aO => exact (rr HO_3)); (case aS => exact (below_size (bb HB))); (case aL => have := LMc20.out; omega); intro v569 w21 ho hb hg hat; rw [← Ny568.out] at ho; replace BK558 := Aside0.mk (blk_grown (g := gb558) (o := .cells #[.int .i64 a0_0, .slice A0_1 l0_1.length c0_1] 66 (0, 0)) (bk BK558) hg (Kd.R_ne HO_3.out BK558.out (by decide))); replace HB := Aside0.mk (hb); have HO570 := Aside0.mk (ho); clear HO_3 ho hb hg hat))
                go_meet
                case rel => exact ⟨_, (y568), H', ⟨by have := HK1.out; first | omega | exact Nat.le_refl _⟩, ⟨rr HO570⟩, ⟨bk BK558⟩, ⟨bb HB⟩⟩
              · rw [if_neg c20] at H
                exact absurd H (by simp)
            · rw [if_neg c19] at H
              have c19b0 : ((x3_1.length : Int) == 0) = false := beq_eq_false_iff_ne.mpr c19
              have c19b1 : ((x3_1.length : Int) != 0) = true := bne_iff_ne.mpr c19
              have c19b2 : ¬ (x3_1 = []) := fun h_ => c19 (by rw [h_]; rfl)
              (first | rw [c19b0] | rw [c19b1] | (simp only [i64_w, i32_w]; rw [c19b0]) | skip)
              have H' := Aside0.mk H
              clear H
              go_wp2
              go_meet
              case rel => exact ⟨_, (x3_1), H', ⟨by have := HK1.out; first | omega | exact Nat.le_refl _⟩, ⟨rr HO_3⟩, ⟨bk BK558⟩, ⟨bb HB⟩⟩
          case rest =>
            clear HC17
            (try clear c1)
            (try clear c2)
            (try clear p2)
            (try clear c3)
            (try clear c4)
            (try clear p5)
            (try clear q5)
            (try clear hx5)
            (try clear c6)
            (try clear p6)
            (try clear c10)
            (try clear c10b0)
            (try clear c11)
            (try clear c11b0)
            (try clear c12)
            (try clear c12b0)
            (try clear c14)
            (try clear c19)
            (try clear c19b0)
            (try clear c19b1)
            (try clear c19b2)
            (try clear c20)
            (try clear hcz5_0 hcz5_1)
            (try clear hcz9_0 hcz9_1)
            (try clear hfz5_0 hfz5_1)
            (try clear hfz9_0 hfz9_1)
            (try clear hx563_0)
            (try clear p2)
            (try clear p563)
            (try clear q563)
            obtain ⟨kq, x3_16, HA, HJ16, HO_3, BK558, HB⟩ := hcut
            cases kq with
            | zero => exact absurd HA.out (by simp [spec_CupLine.j1])
            | succ kj16 =>
              have H := HA.out
              clear HA
              simp only [spec_CupLine.j1] at H
              replace H := Option.bind_eq_some_iff.mp H
              obtain ⟨t571, A220, H⟩ := H
              replace H : (if t571 > 0 then ((spec_ChampionOf.f kj16 a0_0 l0_1).bind fun t572 => ((spec_FormatInt.f kj16 t572).bind fun t573 => ((some (([(⟨#[99, 104, 97, 109, 112, 105, 111, 110]⟩ : ByteArray), t573] : List ByteArray) : List ByteArray)).bind fun y574 => (if x3_16.length + y574.length < 8796093022208 then ((spec_Join.f kj16 (x3_16 ++ y574) (⟨#[32]⟩ : ByteArray)).bind fun t580 => (some t580)) else (none))))) else ((spec_Join.f kj16 x3_16 (⟨#[32]⟩ : ByteArray)).bind fun t581 => (some t581))) = some r := H
              have A22 := Aside0.mk A220
              clear A220
              by_cases c23 : t571 > 0
              · rw [if_pos c23] at H
                have c23b0 : decide (0 < t571) = true := decide_eq_true c23
                clear c23
                replace H := Option.bind_eq_some_iff.mp H
                obtain ⟨t572, A240, H⟩ := H
                replace H : ((spec_FormatInt.f kj16 t572).bind fun t573 => ((some (([(⟨#[99, 104, 97, 109, 112, 105, 111, 110]⟩ : ByteArray), t573] : List ByteArray) : List ByteArray)).bind fun y574 => (if x3_16.length + y574.length < 8796093022208 then ((spec_Join.f kj16 (x3_16 ++ y574) (⟨#[32]⟩ : ByteArray)).bind fun t580 => (some t580)) else (none)))) = some r := H
                have A24 := Aside0.mk A240
                clear A240
                replace H := Option.bind_eq_some_iff.mp H
                obtain ⟨t573, A250, H⟩ := H
                replace H : ((some (([(⟨#[99, 104, 97, 109, 112, 105, 111, 110]⟩ : ByteArray), t573] : List ByteArray) : List ByteArray)).bind fun y574 => (if x3_16.length + y574.length < 8796093022208 then ((spec_Join.f kj16 (x3_16 ++ y574) (⟨#[32]⟩ : ByteArray)).bind fun t580 => (some t580)) else (none))) = some r := H
                have A25 := Aside0.mk A250
                clear A250
                obtain ⟨y574, hy574⟩ : ∃ y_ : List ByteArray, y_ = (([(⟨#[99, 104, 97, 109, 112, 105, 111, 110]⟩ : ByteArray), t573] : List ByteArray)) := ⟨_, rfl⟩
                replace H : (if x3_16.length + y574.length < 8796093022208 then ((spec_Join.f kj16 (x3_16 ++ y574) (⟨#[32]⟩ : ByteArray)).bind fun t580 => (some t580)) else (none)) = some r := by first | (rw [hy574]; with_reducible exact H) | (have H2_ := (Option.bind_some _ _).symm.trans H; rw [hy574]; with_reducible exact H2_) | (have H2_ := (Option.bind_some _ _).symm.trans H; with_reducible exact H2_) | with_reducible exact H | (rw [hy574]; exact H) | exact H
                have Ny574 := Aside0.mk hy574
                clear hy574
                by_cases c26 : x3_16.length + y574.length < 8796093022208
                · rw [if_pos c26] at H
                  have LMc26 := Aside0.mk c26
                  clear c26
                  obtain ⟨y577, hy577⟩ : ∃ y_ : List ByteArray, y_ = (x3_16 ++ y574) := ⟨_, rfl⟩
                  replace H : ((spec_Join.f kj16 y577 (⟨#[32]⟩ : ByteArray)).bind fun t580 => (some t580)) = some r := by first | (rw [hy577]; with_reducible exact H) | (have H2_ := (Option.bind_some _ _).symm.trans H; rw [hy577]; with_reducible exact H2_) | (have H2_ := (Option.bind_some _ _).symm.trans H; with_reducible exact H2_) | with_reducible exact H | (rw [hy577]; exact H) | exact H
                  have Ny577 := Aside0.mk hy577
                  clear hy577
                  replace H := Option.bind_eq_some_iff.mp H
                  obtain ⟨t580, A270, H⟩ := H
                  replace H : (some t580) = some r := H
                  have A27 := Aside0.mk A270
                  clear A270
                  obtain rfl := Option.some.inj H
                  have ⟨hcz28_0, hcz28_1, hfz28_0, hfz28_1⟩ := rz2 BK558
                  go_wp2_with (first | ((with_reducible refine gate_callee (f := 70) rfl ?_); refine gl (some 30) Tryd.func70 #[.agg #[.int .i64 a0_0, .slice A0_1 l0_1.length c0_1]] ?_; (with_reducible refine (spec_ChampionOf.calls kj16 a0_0 _ _ l0_1 t571 _ ?side1 ?side2 A22.out).mono ?_); (case side1 => exact cc HR0_1 HB); (case side2 => exact HC0_1.out); rintro e w29 ⟨rfl, hb⟩; refine ⟨_, rfl, ?_⟩; replace HO_3 := kr HO_3 hb; replace BK558 := kb BK558 hb; replace HB := hs_ HB hb; (try clear hb); (try clear hb2); (try clear hk); (try clear hi); have ⟨hcz30_0, hcz30_1, hfz30_0, hfz30_1⟩ := rz2 BK558) | ((with_reducible refine gate_callee (f := 70) rfl ?_); refine gl (some 34) Tryd.func70 #[.agg #[.int .i64 a0_0, .slice A0_1 l0_1.length c0_1]] ?_; (with_reducible refine (spec_ChampionOf.calls kj16 a0_0 _ _ l0_1 t572 _ ?side1 ?side2 A24.out).mono ?_); (case side1 => exact cc HR0_1 HB); (case side2 => exact HC0_1.out); rintro e w31 ⟨rfl, hb⟩; refine ⟨_, rfl, ?_⟩; replace HO_3 := kr HO_3 hb; replace BK558 := kb BK558 hb; replace HB := hs_ HB hb; (try clear hb); (try clear hb2); (try clear hk); (try clear hi)) | ((with_reducible refine gate_callee (f := 48) rfl ?_); refine gl (some 35) Tryd.func48 #[.int .i64 t572] ?_; (with_reducible refine (spec_FormatInt.calls kj16 t572 t573 _ A25.out).mono ?_); rintro e w32 ⟨rfl, hb⟩; refine ⟨_, rfl, ?_⟩; replace HO_3 := kr HO_3 hb; replace BK558 := kb BK558 hb; replace HB := hs_ HB hb; (try clear hb); (try clear hb2); (try clear hk); (try clear hi)) | ((with_reducible refine gate_dst (N := 36) rfl ?_); refine Kd.R_lit Kd.string _ 9 ?hg (N := 36) ?hd (xs := ([(⟨#[99, 104, 97, 109, 112, 105, 111, 110]⟩ : ByteArray), t573] : List ByteArray)) (inner := [.string (⟨#[99, 104, 97, 109, 112, 105, 111, 110]⟩ : ByteArray), .string t573]) (ok := fun _ => True) (okp := fun _ => True) ?hr ?hp (fun _ hk => hk) trivial (Below.refl _ _) (Nat.le_refl _) (by simp) ?_; (case hd => rfl); (case hg => rfl); (case hr => first | (go_simp; done) | (go_simp; rfl)); (case hp => exact (Reps.one (show Kd.M Kd.string _ _ _ (⟨#[99, 104, 97, 109, 112, 105, 111, 110]⟩ : ByteArray) [.string (⟨#[99, 104, 97, 109, 112, 105, 111, 110]⟩ : ByteArray)] from rfl) (Reps.one (show Kd.M Kd.string _ _ _ t573 [.string t573] from rfl) (Reps.none _ _)))); intro v575 w33 ho34 hb hg_ hnew_; clear hg_ hnew_; (first | rw [← Ny574.out] at ho34 | (simp only [Int.reduceToNat] at ho34; rw [← Ny574.out] at ho34)); have HO576 := Aside0.mk (Kd.R_lower (Kd.R_new' ho34 (rt HO_3)) (below_size (bb HB))); replace HO_3 := ke HO_3 ho34 hb; replace BK558 := kb BK558 hb; replace HB := hs_ HB hb; clear hb ho34; obtain ⟨Ao36, co36, eo36⟩ := Kd.R_slice HO576.out; subst eo36) | ((with_reducible refine gate_builtin (b := .append) (xs := #[.tmp 32, .tmp 36]) rfl ?_); at_builtin; refine Kd.R_append_rows Kd.string (w0 := w) w.heap.size rfl (.tmp 32) (.tmp 36) 53 9 (.string ⟨#[]⟩) 16 rfl Tryd.underlying53 info9 rfl (by decide) (by omega) u3 x3_16 y574 _ _ _ (fun k_ => some k_ ≠ (.slice Ao36 y574.length co36 : Value).ownBlock) (fun _ => False) rfl rfl ?aO ?aR (fun _ _ h => h) (fun _ h => h.elim) ?aF ?aB ?aS ?aL ?_; (case aR => exact cr HO576); (case aB => exact (bb HB)); (case aF => exact (fun k_ hk => Kd.fresh' (Kd.R_lt (rr HO576)) k_ hk)); (case aO => exact (ro HO_3 (fun _ hk => hk.2))); (case aS => exact (below_size (bb HB))); (case aL => have := LMc26.out; omega); intro v578 w35 ho hb hg hat; rw [← Ny577.out] at ho; replace BK558 := Aside0.mk (blk_grown (g := gb558) (o := .cells #[.int .i64 a0_0, .slice A0_1 l0_1.length c0_1] 66 (0, 0)) (bk BK558) hg (Kd.R_ne HO_3.out BK558.out (by decide))); replace HO576 := Aside0.mk (Kd.R_after (ok := (fun _ => True)) (rr HO576) hg hat); replace HB := Aside0.mk (hb); have HO579 := Aside0.mk (ho); clear HO_3 ho hb hg hat; obtain ⟨Ao37, co37, eo37⟩ := Kd.R_slice HO579.out; subst eo37) | ((with_reducible refine gate_callee (f := 59) rfl ?_); refine gl (some 39) Tryd.func59 #[.slice Ao37 y577.length co37, .string (⟨#[32]⟩ : ByteArray)] ?_; (with_reducible refine (spec_Join.calls kj16 _ _ y577 (⟨#[32]⟩ : ByteArray) t580 _ ?side1 ?side2 A27.out).mono ?_); (case side1 => exact cr HO579); (case side2 => exact cl HO579); rintro e w' ⟨rfl, ⟨nd, rfl⟩⟩; refine ⟨_, rfl, ?_⟩))
                  go_ret
                  exact ⟨ee, bb HB⟩
                · rw [if_neg c26] at H
                  exact absurd H (by simp)
              · rw [if_neg c23] at H
                have c23b0 : decide (0 < t571) = false := decide_eq_false c23
                clear c23
                replace H := Option.bind_eq_some_iff.mp H
                obtain ⟨t581, A380, H⟩ := H
                replace H : (some t581) = some r := H
                have A38 := Aside0.mk A380
                clear A380
                obtain rfl := Option.some.inj H
                have ⟨hcz39_0, hcz39_1, hfz39_0, hfz39_1⟩ := rz2 BK558
                go_wp2_with (first | ((with_reducible refine gate_callee (f := 70) rfl ?_); refine gl (some 30) Tryd.func70 #[.agg #[.int .i64 a0_0, .slice A0_1 l0_1.length c0_1]] ?_; (with_reducible refine (spec_ChampionOf.calls kj16 a0_0 _ _ l0_1 t571 _ ?side1 ?side2 A22.out).mono ?_); (case side1 => exact cc HR0_1 HB); (case side2 => exact HC0_1.out); rintro e w40 ⟨rfl, hb⟩; refine ⟨_, rfl, ?_⟩; replace HO_3 := kr HO_3 hb; replace BK558 := kb BK558 hb; replace HB := hs_ HB hb; (try clear hb); (try clear hb2); (try clear hk); (try clear hi); obtain ⟨Ao41, co41, eo41⟩ := Kd.R_slice HO_3.out; subst eo41) | ((with_reducible refine gate_callee (f := 59) rfl ?_); refine gl (some 39) Tryd.func59 #[.slice Ao41 x3_16.length co41, .string (⟨#[32]⟩ : ByteArray)] ?_; (with_reducible refine (spec_Join.calls kj16 _ _ x3_16 (⟨#[32]⟩ : ByteArray) t581 _ ?side1 ?side2 A38.out).mono ?_); (case side1 => exact cr HO_3); (case side2 => exact cl HO_3); rintro e w' ⟨rfl, ⟨nd, rfl⟩⟩; refine ⟨_, rfl, ?_⟩))
                go_ret
                exact ⟨ee, bb HB⟩
  · replace c3 := Bool.eq_false_iff.mpr c3
    subst c3
    have H1 : (some (⟨#[]⟩ : ByteArray)) = some r := by rw [if_neg (show ¬ (false = true) by decide)] at H; exact H
    clear H
    have H := H1
    clear H1
    obtain rfl := Option.some.inj H
    go_enter Tryd.func35, Tryd.ntmps35
    go_wp2_with (first | ((with_reducible refine gate_dst (N := 1) rfl ?_); refine bx (N := 1) (cs := #[.int .i64 a0_0, .slice A0_1 l0_1.length c0_1]) (t := 66) ?_; intro gb558 hg w42 hbox hb; have BK558 := Aside0.mk (hbox); have GW558 := gs hg HB; have GE558 := gs hg HB; replace HB := hs_ HB hb; clear hb hbox hg; have ⟨hcz43_0, hcz43_1, hfz43_0, hfz43_1⟩ := rz2 BK558) | ((with_reducible refine gate_callee (f := 69) rfl ?_); refine gl (some 7) Tryd.func69 #[.agg #[.int .i64 a0_0, .slice A0_1 l0_1.length c0_1]] ?_; (with_reducible refine (spec_CupOk.calls k a0_0 _ _ l0_1 false _ ?side1 ?side2 A2.out).mono ?_); (case side1 => exact cc HR0_1 HB); (case side2 => exact HC0_1.out); rintro e w44 ⟨rfl, hb⟩; refine ⟨_, rfl, ?_⟩; replace BK558 := kb BK558 hb; replace HB := hs_ HB hb; (try clear hb); (try clear hb2); (try clear hk); (try clear hi)))
    go_ret
    exact ⟨ee, bb HB⟩
end Go.Proofs.YtibmeomlokigjaaDoor.Q
end
namespace Go.Proofs.YtibmeomlokigjaaDoor.Q
open Go.RowKit Go.Proofs.YtibmeomlokigjaaDoorW.PrintWords Go.Proofs.YtibmeomlokigjaaDoorW.PrintLast Go.Proofs.YtibmeomlokigjaaDoorW.PrintMore
attribute [local go_sem] max2_int min2_int max_two min_two max_three min_three max_four min_four
set_option linter.unusedVariables false
set_option linter.unusedSimpArgs false
def laws_toIntS.l0 : Nat → List Int → List Int → Int → Option (List Int)
  | 0, _, _, _ => none
  | k + 1, x0, x3, x4 => if x4 < (x0.length : Int) then (if 0 ≤ x4 then (if x4 < (x3.length : Int) then (laws_toIntS.l0 k x0 (x3.set (x4 : Int).toNat (rd x0 x4)) (wrap64 (x4 + 1))) else (none)) else (none)) else (some x3)
def laws_toIntS.f (k : Nat) (l0 : List Int) : Option (List Int) := if 0 ≤ (l0.length : Int) then (if ((l0.length : Int) : Int).toNat ≤ 35184372088832 then (laws_toIntS.l0 k l0 (List.replicate ((l0.length : Int) : Int).toNat 0) 0) else (none)) else (none)
set_option maxHeartbeats 8000000 in
set_option maxRecDepth 100000 in
theorem laws_toIntS.calls (k : Nat) (A0 : Option Addr) (c0 : Nat) (l0 : List Int) (r : List Int) (w : World) (hr0 : Kd.C (Kd.int .i64) w A0 l0.length l0) (hc0 : l0.length ≤ c0) (h : laws_toIntS.f k l0 = some r) :
    Calls Tryd.prog 60 #[.slice A0 l0.length c0] w fun e w' => ∃ v0_ : Value, e = .returned (v0_) ∧ Kd.R (Kd.int .i64) 3 w' w.heap.size (fun _ => True) v0_ r ∧ Below w.heap.size w w' := by
  have HR0 := Aside0.mk hr0
  have HC0 := Aside0.mk hc0
  clear hr0 hc0
  have HB := Aside0.mk (Below.refl w.heap.size w)
  have H : (if 0 ≤ (l0.length : Int) then (if ((l0.length : Int) : Int).toNat ≤ 35184372088832 then (laws_toIntS.l0 k l0 (List.replicate ((l0.length : Int) : Int).toNat 0) 0) else (none)) else (none)) = some r := h
  clear h
  by_cases c2 : 0 ≤ (l0.length : Int)
  · rw [if_pos c2] at H
    have c2b0 := eq_true c2
    have c2b1 : decide (0 ≤ (l0.length : Int)) = true := decide_eq_true c2
    clear c2
    by_cases c3 : ((l0.length : Int) : Int).toNat ≤ 35184372088832
    · rw [if_pos c3] at H
      have c3b0 := eq_true c3
      have c3b1 : decide (((l0.length : Int) : Int).toNat ≤ 35184372088832) = true := decide_eq_true c3
      clear c3
      obtain ⟨y323, hy323⟩ : ∃ y_ : List Int, y_ = (List.replicate ((l0.length : Int) : Int).toNat 0) := ⟨_, rfl⟩
      replace H : (laws_toIntS.l0 k l0 y323 0) = some r := by first | (rw [hy323]; with_reducible exact H) | (have H2_ := (Option.bind_some _ _).symm.trans H; rw [hy323]; with_reducible exact H2_) | (have H2_ := (Option.bind_some _ _).symm.trans H; with_reducible exact H2_) | with_reducible exact H | (rw [hy323]; exact H) | exact H
      have Ny323 := Aside0.mk hy323
      clear hy323
      have H' := Aside0.mk H
      clear H
      go_enter Tryd.func60, Tryd.ntmps60
      go_wp2_with (first | ((with_reducible refine gate_dst (N := 7) rfl ?_); refine Kd.R_make (Kd.int .i64) _ 3 rfl (N := 7) rfl 42 _ _ rfl (l0.length : Int) rfl rfl Tryd.underlying42 (.int .i64 0) 8 info3 rfl (by decide) (by omega) 0 (ok := fun _ => True) (okp := fun _ => True) rfl (fun _ hk => hk) trivial (of_decide_eq_true (by first | (with_reducible assumption) | assumption)) (Nat.le_trans (Nat.mul_le_mul_right _ (of_decide_eq_true (by first | (with_reducible assumption) | assumption) : (l0.length : Int).toNat ≤ 35184372088832)) (by omega)) (Below.refl _ _) (Nat.le_refl _) ?_; intro v324 w4 ho5 hb hg_ hnew_; clear hg_ hnew_; (first | rw [← Ny323.out] at ho5 | (simp only [Int.reduceToNat] at ho5; rw [← Ny323.out] at ho5)); have HO325 := kl ho5 HB; replace HB := hs_ HB hb; clear hb ho5))
      go_loopg [4] k (fun kq v4 w' => ∃ (x3_1 : List Int) (x4_1 : Int), v4 = .int .i64 x4_1 ∧ Aside0 (laws_toIntS.l0 kq l0 x3_1 x4_1 = some r) ∧ Aside0 (kq ≤ k) ∧ Aside0 (Kd.R (Kd.int .i64) 3 w' w.heap.size (fun _ => True) v324 x3_1) ∧ Aside0 (Below w.heap.size w w'))
      case atStart => exact ⟨(y323), (0), e2_, H', ⟨Nat.le_refl _⟩, ⟨rr HO325⟩, ⟨bb HB⟩⟩
      case round =>
        clear H'
        (try clear c2)
        (try clear c2b0)
        (try clear c2b1)
        (try clear p2)
        (try clear c3)
        (try clear c3b0)
        (try clear c3b1)
        obtain ⟨x3_1, x4_1, rfl, HA, HK1, HO_3, HB⟩ := hrel
        cases gk with
        | zero => exact absurd HA.out (by simp [laws_toIntS.l0])
        | succ k1 =>
          have H := HA.out
          clear HA
          simp only [laws_toIntS.l0] at H
          by_cases c6 : x4_1 < (l0.length : Int)
          · rw [if_pos c6] at H
            have c6b0 : decide (x4_1 < (l0.length : Int)) = true := decide_eq_true c6
            clear c6
            by_cases c7 : 0 ≤ x4_1
            · rw [if_pos c7] at H
              have c7b0 : decide (0 ≤ x4_1) = true := decide_eq_true c7
              clear c7
              by_cases c8 : x4_1 < (x3_1.length : Int)
              · rw [if_pos c8] at H
                have c8b0 : decide (x4_1 < (x3_1.length : Int)) = true := decide_eq_true c8
                clear c8
                obtain ⟨y327, hy327⟩ : ∃ y_ : List Int, y_ = (x3_1.set (x4_1 : Int).toNat (rd l0 x4_1)) := ⟨_, rfl⟩
                replace H : (laws_toIntS.l0 k1 l0 y327 (wrap64 (x4_1 + 1))) = some r := by first | (rw [hy327]; with_reducible exact H) | (have H2_ := (Option.bind_some _ _).symm.trans H; rw [hy327]; with_reducible exact H2_) | (have H2_ := (Option.bind_some _ _).symm.trans H; with_reducible exact H2_) | with_reducible exact H | (rw [hy327]; exact H) | exact H
                have Ny327 := Aside0.mk hy327
                clear hy327
                have H' := Aside0.mk H
                clear H
                have p326 : 0 ≤ (x4_1 : Int) := of_decide_eq_true (by first | (with_reducible assumption) | assumption)
                have q326 : x4_1 < (l0.length : Int) := of_decide_eq_true (by first | (with_reducible assumption) | assumption)
                obtain ⟨ad326, e326, hx326_0⟩ := Kd.at_int HR0.out x4_1 p326 q326
                cases e326
                replace hx326_0 := (HB.out.cell (World.block_lt_of_cell? w _ hx326_0)).trans hx326_0
                replace p326 := eq_true p326
                replace q326 := eq_true q326
                have p9 : 0 ≤ (x4_1 : Int) := of_decide_eq_true (by first | (with_reducible assumption) | assumption)
                have q9 : (x4_1 : Int) < ((x3_1.length : Int) : Int) := of_decide_eq_true (by first | (with_reducible assumption) | assumption)
                obtain ⟨go9, co9, eo9, gb9, gl9, cl9, HG9⟩ := Kd.R_form HO_3.out (by omega)
                (first | cases eo9 | (injection eo9 with ea_ en_ ec_; (first | subst ea_ | (injection ea_ with ea_; subst ea_)); subst ec_; clear en_))
                have GB9 := Aside0.mk gb9
                have GG9 := Aside0.mk HG9
                clear gb9 gl9 HG9
                obtain ⟨hx9_0, hf9_0⟩ := Kd.R_celln 0 HO_3.out (x4_1 : Int) p9 q9
                replace p9 := eq_true p9
                replace q9 := eq_true q9
                have HP10 := Kd.R_putg HO_3.out (x4_1 : Int) (rd l0 x4_1)
                go_wp2_with (first | ((with_reducible refine gate_store (t := 3) (p := 20) rfl ?_); refine store_event (t := 3) (p := 20) (v := ?vo_w11) (w1 := (wr.setCell ⟨go9, (x4_1 : Int).toNat, none⟩ (.int .i64 (rd l0 x4_1)))) ?hg ?ho ?hn ?hr ?_; (case ho => rfl); (case hg => rfl); (case hn => rfl); (case hr => first | (go_simp; done) | (go_simp; rfl)); intro w11 hw; have hg : wr.grownBy w11 (some go9) := (by rw [hw]; exact HP10.2); have hp_ : Kd.R (Kd.int .i64) 3 w11 w.heap.size (fun _ => True) (.slice (some ⟨go9, 0, none⟩) x3_1.length co9) y327 := (by rw [hw, Ny327.out]; exact HP10.1); clear HP10; replace HO_3 := Aside0.mk (hp_); replace HB := Aside0.mk (by rw [hw]; exact below_set (HB.out) GB9.out : Below w.heap.size w w11); clear hg hw hp_))
                go_roundg k1
                case measure => have := HK1.out; omega
                case rel => exact ⟨(y327), (wrap64 (x4_1 + 1)), e2_, H', ⟨by have := HK1.out; omega⟩, ⟨rr HO_3⟩, ⟨bb HB⟩⟩
              · rw [if_neg c8] at H
                exact absurd H (by simp)
            · rw [if_neg c7] at H
              exact absurd H (by simp)
          · rw [if_neg c6] at H
            have c6b0 : decide (x4_1 < (l0.length : Int)) = false := decide_eq_false c6
            clear c6
            obtain rfl := Option.some.inj H
            go_wp2
            go_ret
            exact ⟨_, ee, rr HO_3, bb HB⟩
    · rw [if_neg c3] at H
      exact absurd H (by simp)
  · rw [if_neg c2] at H
    exact absurd H (by simp)
end Go.Proofs.YtibmeomlokigjaaDoor.Q
namespace Go.Proofs.YtibmeomlokigjaaDoor.Q
open Go.RowKit Go.Proofs.YtibmeomlokigjaaDoorW.PrintWords Go.Proofs.YtibmeomlokigjaaDoorW.PrintLast Go.Proofs.YtibmeomlokigjaaDoorW.PrintMore
attribute [local go_sem] max2_int min2_int max_two min_two max_three min_three max_four min_four
set_option linter.unusedVariables false
set_option linter.unusedSimpArgs false
def laws_toCup.f (k : Nat) (a0_0 : Int) (l0_1 : List Int) : Option (Int × List Int) := (laws_toIntS.f k l0_1).bind fun t585 => (some (a0_0, t585))
set_option maxHeartbeats 8000000 in
set_option maxRecDepth 100000 in
theorem laws_toCup.calls (k : Nat) (a0_0 : Int) (A0_1 : Option Addr) (c0_1 : Nat) (l0_1 : List Int) (r1 : Int) (r2 : List Int) (w : World) (hr0_1 : Kd.C (Kd.int .i64) w A0_1 l0_1.length l0_1) (hc0_1 : l0_1.length ≤ c0_1) (h : laws_toCup.f k a0_0 l0_1 = some (r1, r2)) :
    Calls Tryd.prog 36 #[.agg #[.int .i64 a0_0, .slice A0_1 l0_1.length c0_1]] w fun e w' => ∃ v1_ : Value, e = .returned (.agg #[.int .i64 r1, v1_]) ∧ Kd.R (Kd.int .i64) 3 w' w.heap.size (fun _ => True) v1_ r2 ∧ Below w.heap.size w w' := by
  have hu63 := Tryd.underlying63
  have hu66 := Tryd.underlying66
  have HR0_1 := Aside0.mk hr0_1
  have HC0_1 := Aside0.mk hc0_1
  clear hr0_1 hc0_1
  have HB := Aside0.mk (Below.refl w.heap.size w)
  have H : ((laws_toIntS.f k l0_1).bind fun t585 => (some (a0_0, t585))) = some (r1, r2) := h
  clear h
  replace H := Option.bind_eq_some_iff.mp H
  obtain ⟨t585, A20, H⟩ := H
  replace H : (some (a0_0, t585)) = some (r1, r2) := H
  have A2 := Aside0.mk A20
  clear A20
  simp only [Option.some.injEq, Prod.mk.injEq] at H
  obtain ⟨rfl, rfl⟩ := H
  go_enter Tryd.func36, Tryd.ntmps36
  go_wp2_with (first | ((with_reducible refine gate_dst (N := 1) rfl ?_); refine bx (N := 1) (cs := #[.int .i64 a0_0, .slice A0_1 l0_1.length c0_1]) (t := 63) ?_; intro gb582 hg w3 hbox hb; have BK582 := Aside0.mk (hbox); have GW582 := gs hg HB; have GE582 := gs hg HB; replace HB := hs_ HB hb; clear hb hbox hg) | ((with_reducible refine gate_dst (N := 2) rfl ?_); refine bx (N := 2) (cs := #[.int .i64 0, .slice none 0 0]) (t := 66) ?_; intro gb583 hg w4 hbox hb; have BK583 := Aside0.mk (hbox); have GW583 := gs hg HB; have GE583 := gs hg HB; replace HB := hs_ HB hb; have NB582_583 := gn hg BK582; have NB583_582 := gm hg BK582; replace BK582 := kb BK582 hb; clear hb hbox hg) | ((with_reducible refine gate_dst (N := 3) rfl ?_); refine bx (N := 3) (cs := #[.int .i64 0, .slice none 0 0]) (t := 66) ?_; intro gb584 hg w5 hbox hb; have BK584 := Aside0.mk (hbox); have GW584 := gs hg HB; have GE584 := gs hg HB; replace HB := hs_ HB hb; have NB582_584 := gn hg BK582; have NB584_582 := gm hg BK582; replace BK582 := kb BK582 hb; have NB583_584 := gn hg BK583; have NB584_583 := gm hg BK583; replace BK583 := kb BK583 hb; clear hb hbox hg; have hnb6 := NB582_583.out; have hnc6 := NB583_582.out; have hnb7 := NB582_584.out; have hnc7 := NB584_582.out; have ⟨hcz8_0, hcz8_1, hfz8_0, hfz8_1⟩ := rz2 BK582; have hnb9 := NB584_583.out; have hnc9 := NB583_584.out; have ⟨hcz10_0, hcz10_1, hfz10_0, hfz10_1⟩ := rz2 BK584) | ((with_reducible refine gate_callee (f := 60) rfl ?_); refine gl (some 9) Tryd.func60 #[.slice A0_1 l0_1.length c0_1] ?_; (with_reducible refine (laws_toIntS.calls k _ _ l0_1 t585 _ ?side1 ?side2 A2.out).mono ?_); (case side1 => exact Kd.C_below HR0_1.out (bb HB)); (case side2 => exact HC0_1.out); rintro e w11 ⟨v586, rfl, ho0, hb⟩; refine ⟨_, rfl, ?_⟩; have HO587 := kl ho0 HB; replace BK582 := Aside0.mk (blk_below (g := gb582) (o := .cells #[.int .i64 a0_0, .slice A0_1 l0_1.length c0_1] 63 (0, 0)) (by (with_reducible repeat (first | refine blk_drewN ?_ _ | refine blk_drew ?_ | refine blk_alloc ?_ _)); refine blk_far ?_ NB582_584.out _; (with_reducible repeat (first | refine blk_drewN ?_ _ | refine blk_drew ?_ | refine blk_alloc ?_ _)); exact BK582.out) hb); replace BK583 := Aside0.mk (blk_below (g := gb583) (o := .cells #[.int .i64 0, .slice none 0 0] 66 (0, 0)) (by (with_reducible repeat (first | refine blk_drewN ?_ _ | refine blk_drew ?_ | refine blk_alloc ?_ _)); refine blk_far ?_ NB583_584.out _; (with_reducible repeat (first | refine blk_drewN ?_ _ | refine blk_drew ?_ | refine blk_alloc ?_ _)); exact BK583.out) hb); replace BK584 := Aside0.mk (blk_below (g := gb584) (o := .cells #[.int .i64 a0_0, .slice none 0 0] 66 (0, 0)) (by (with_reducible repeat (first | refine blk_drewN ?_ _ | refine blk_drew ?_ | refine blk_alloc ?_ _)); refine blk_put (cs := #[.int .i64 0, .slice none 0 0]) ?_ 0 _ rfl; (with_reducible repeat (first | refine blk_drewN ?_ _ | refine blk_drew ?_ | refine blk_alloc ?_ _)); exact BK584.out) hb); replace HB := hs_ HB hb; (try clear hb); (try clear hb2); (try clear hk); (try clear hi); (try clear ho0); obtain ⟨Ao12, co12, eo12⟩ := Kd.R_slice HO587.out; subst eo12; have ⟨hcz13_0, hcz13_1, hfz13_0, hfz13_1⟩ := rz2 BK584; have ⟨hcz14_0, hcz14_1, hfz14_0, hfz14_1⟩ := rz2 BK583))
  refine bodyPost_ret (results_cell_row rfl _ _ gb583 66 #[.int .i64 a0_0, .slice Ao12 t585.length co12] (0, 0) _ rfl (by (with_reducible repeat (first | refine blk_drewN ?_ _ | refine blk_drew ?_ | refine blk_alloc ?_ _)); refine blk_put (cs := #[.int .i64 a0_0, .slice none 0 0]) ?_ 1 _ rfl; (with_reducible repeat (first | refine blk_drewN ?_ _ | refine blk_drew ?_ | refine blk_alloc ?_ _)); refine blk_put (cs := #[.int .i64 0, .slice none 0 0]) ?_ 0 _ rfl; (with_reducible repeat (first | refine blk_drewN ?_ _ | refine blk_drew ?_ | refine blk_alloc ?_ _)); refine blk_far ?_ NB583_584.out _; (with_reducible repeat (first | refine blk_drewN ?_ _ | refine blk_drew ?_ | refine blk_alloc ?_ _)); exact BK583.out) Tryd.underlying66 rfl (by kernel_rfl)) rfl ?_
  exact ⟨_, ee, by (with_reducible repeat (first | apply Kd.R_alloc | apply Kd.R_drewN | apply Kd.R_drew)); exact Kd.R_mono (Kd.R_far (p := ⟨gb583, 1, none⟩) (Kd.R_far (p := ⟨gb583, 0, none⟩) (Kd.R_far (p := ⟨gb584, 1, none⟩) (Kd.R_types (Kd.R_types HO587.out BK584.out (by decide)) BK583.out (by decide)) (fun _ hk => hk.1.2) (.slice Ao12 t585.length co12)) (fun _ hk => hk.2) (.int .i64 a0_0)) (fun _ hk => hk.2) (.slice Ao12 t585.length co12)) (fun _ hk => trivial), bb HB⟩
end Go.Proofs.YtibmeomlokigjaaDoor.Q
namespace Go.Proofs.YtibmeomlokigjaaDoor.Q
open Go.RowKit Go.Proofs.YtibmeomlokigjaaDoorW.PrintWords Go.Proofs.YtibmeomlokigjaaDoorW.PrintLast Go.Proofs.YtibmeomlokigjaaDoorW.PrintMore
attribute [local go_sem] max2_int min2_int max_two min_two max_three min_three max_four min_four
set_option linter.unusedVariables false
set_option linter.unusedSimpArgs false
def strings_Join.f (l0 : List ByteArray) (a1 : ByteArray) : Option ByteArray := if l0.length ≤ 140737488355328 ∧ (Lib.join (l0.map (·.data.toList)) a1.data.toList).length ≤ 140737488355328 then some ⟨(Lib.join (l0.map (·.data.toList)) a1.data.toList).toArray⟩ else none
theorem strings_Join.calls (A0 : Option Addr) (c0 : Nat) (l0 : List ByteArray) (a1 : ByteArray) (r : ByteArray) (w : World) (hr0 : Kd.C Kd.string w A0 l0.length l0) (hc0 : l0.length ≤ c0) (h : strings_Join.f l0 a1 = some r) :
    Calls Tryd.prog 77 #[.slice A0 l0.length c0, .string a1] w fun e w' => e = .returned (.string r) ∧ Below w.heap.size w w' := by
  unfold strings_Join.f at h
  by_cases hz : l0.length ≤ 140737488355328 ∧ (Lib.join (l0.map (·.data.toList)) a1.data.toList).length ≤ 140737488355328
  · rw [if_pos hz] at h
    obtain rfl := Option.some.inj h
    rcases Nat.eq_zero_or_pos l0.length with h0 | h0
    · obtain rfl := List.eq_nil_of_length_eq_zero h0
      refine (Tryd.strings_Join_none A0 c0 a1 w).mono ?_
      rintro e w' ⟨rfl, rfl⟩
      exact ⟨rfl, Below.refl _ _⟩
    · obtain ⟨ad, rfl, hc⟩ := Kd.at_string hr0 0 (by omega) (by omega)
      have hcell : ∀ (j : Nat) x, l0[j]? = some x → w.cell? (ad.add j) = some (.string x) := by
        intro j x hj
        have hlt : j < l0.length := (List.getElem?_eq_some_iff.mp hj).1
        obtain ⟨ad', e', hc'⟩ := Kd.at_string hr0 (j : Int) (by omega) (by omega)
        obtain rfl := Option.some.inj e'
        simp only [Int.toNat_natCast] at hc'
        rw [hc']
        simp [rdOf, hj]
      obtain ⟨bk, o, sp⟩ := ad
      have hb : bk < w.heap.size ∧ sp = none := by
        simp only [Int.toNat_zero, Addr.add, if_true] at hc
        unfold World.cell? at hc
        split at hc
        · rename_i heq
          refine ⟨(Array.getElem?_eq_some_iff.mp heq).1, ?_⟩
          cases sp with
          | none => rfl
          | some _ => simp at hc
        · cases hc
      obtain ⟨hb, rfl⟩ := hb
      exact Tryd.strings_Join bk o c0 l0 a1 w (fun j x hj => by
        have := hcell j x hj
        by_cases h0j : j = 0
        · subst h0j; exact this
        · simpa [Addr.add, h0j] using this) hb hz.1 hc0 hz.2
  · rw [if_neg hz] at h
    cases h
end Go.Proofs.YtibmeomlokigjaaDoor.Q
namespace Go.Proofs.YtibmeomlokigjaaDoor.Q
open Go.RowKit Go.Proofs.YtibmeomlokigjaaDoorW.PrintWords Go.Proofs.YtibmeomlokigjaaDoorW.PrintLast Go.Proofs.YtibmeomlokigjaaDoorW.PrintMore
attribute [local go_sem] max2_int min2_int max_two min_two max_three min_three max_four min_four
set_option linter.unusedVariables false
set_option linter.unusedSimpArgs false
def impl_Join.f (l0 : List ByteArray) (a1 : ByteArray) : Option (ByteArray) := (strings_Join.f l0 a1).bind fun t141 => (some t141)
set_option maxHeartbeats 8000000 in
set_option maxRecDepth 100000 in
theorem impl_Join.calls (A0 : Option Addr) (c0 : Nat) (l0 : List ByteArray) (a1 : ByteArray) (r : ByteArray) (w : World) (hr0 : Kd.C Kd.string w A0 l0.length l0) (hc0 : l0.length ≤ c0) (h : impl_Join.f l0 a1 = some r) :
    Calls Tryd.prog 50 #[.slice A0 l0.length c0, .string a1] w fun e w' => e = .returned (.string r) ∧ Below w.heap.size w w' := by
  have HR0 := Aside0.mk hr0
  have HC0 := Aside0.mk hc0
  clear hr0 hc0
  have HB := Aside0.mk (Below.refl w.heap.size w)
  have H : ((strings_Join.f l0 a1).bind fun t141 => (some t141)) = some r := h
  clear h
  replace H := Option.bind_eq_some_iff.mp H
  obtain ⟨t141, A30, H⟩ := H
  replace H : (some t141) = some r := H
  have A3 := Aside0.mk A30
  clear A30
  obtain rfl := Option.some.inj H
  go_enter Tryd.func50, Tryd.ntmps50
  go_wp2_with (first | ((with_reducible refine gate_callee (f := 77) rfl ?_); refine gl (some 7) Tryd.func77 #[.slice A0 l0.length c0, .string a1] ?_; (with_reducible refine (strings_Join.calls _ _ l0 a1 t141 _ ?side1 ?side2 A3.out).mono ?_); (case side1 => exact cz_ HR0); (case side2 => exact HC0.out); rintro e w4 ⟨rfl, hb⟩; refine ⟨_, rfl, ?_⟩; replace HB := hs_ HB hb; (try clear hb); (try clear hb2); (try clear hk); (try clear hi)))
  go_ret
  exact ⟨ee, bb HB⟩
end Go.Proofs.YtibmeomlokigjaaDoor.Q
namespace Go.Proofs.YtibmeomlokigjaaDoor.Q
open Go.RowKit Go.Proofs.YtibmeomlokigjaaDoorW.PrintWords Go.Proofs.YtibmeomlokigjaaDoorW.PrintLast Go.Proofs.YtibmeomlokigjaaDoorW.PrintMore
attribute [local go_sem] max2_int min2_int max_two min_two max_three min_three max_four min_four
set_option linter.unusedVariables false
set_option linter.unusedSimpArgs false
def strconv_Itoa.f (a0 : Int) : Option ByteArray := if 0 ≤ a0 ∧ a0 < 100 then some ⟨(Lib.decDigits a0.toNat).toArray⟩ else none
theorem strconv_Itoa.calls (a0 : Int) (r : ByteArray) (w : World) (h : strconv_Itoa.f a0 = some r) :
    Calls Tryd.prog 89 #[.int .i64 a0] w fun e w' => e = .returned (.string r) ∧ Drawn0 w w' := by
  unfold strconv_Itoa.f at h
  by_cases hz : 0 ≤ a0 ∧ a0 < 100
  · rw [if_pos hz] at h
    obtain rfl := Option.some.inj h
    have hi : ((a0.toNat : Nat) : Int) = a0 := by omega
    have hc := Tryd.strconv_Itoa_small a0.toNat (by omega) w
    rw [hi] at hc
    refine hc.mono ?_
    rintro e w' ⟨rfl, rfl⟩
    exact ⟨rfl, Drawn0.refl _⟩
  · rw [if_neg hz] at h
    cases h
end Go.Proofs.YtibmeomlokigjaaDoor.Q
namespace Go.Proofs.YtibmeomlokigjaaDoor.Q
open Go.RowKit Go.Proofs.YtibmeomlokigjaaDoorW.PrintWords Go.Proofs.YtibmeomlokigjaaDoorW.PrintLast Go.Proofs.YtibmeomlokigjaaDoorW.PrintMore
attribute [local go_sem] max2_int min2_int max_two min_two max_three min_three max_four min_four
set_option linter.unusedVariables false
set_option linter.unusedSimpArgs false
def impl_FormatInt.f (a0 : Int) : Option (ByteArray) := (strconv_Itoa.f a0).bind fun t161 => (some t161)
set_option maxHeartbeats 8000000 in
set_option maxRecDepth 100000 in
theorem impl_FormatInt.calls (a0 : Int) (r : ByteArray) (w : World) (h : impl_FormatInt.f a0 = some r) :
    Calls Tryd.prog 71 #[.int .i64 a0] w fun e w' => e = .returned (.string r) ∧ Drawn0 w w' := by
  have H : ((strconv_Itoa.f a0).bind fun t161 => (some t161)) = some r := h
  clear h
  replace H := Option.bind_eq_some_iff.mp H
  obtain ⟨t161, A20, H⟩ := H
  replace H : (some t161) = some r := H
  have A2 := Aside0.mk A20
  clear A20
  obtain rfl := Option.some.inj H
  go_enter Tryd.func71, Tryd.ntmps71
  go_wp2_with (first | ((with_reducible refine gate_callee (f := 89) rfl ?_); refine gl (some 4) Tryd.func89 #[.int .i64 a0] ?_; (with_reducible refine (strconv_Itoa.calls a0 t161 _ A2.out).mono ?_); rintro e w' ⟨rfl, ⟨nd, rfl⟩⟩; refine ⟨_, rfl, ?_⟩))
  go_ret
  exact ⟨e2_, by repeat (first | exact Drawn0.refl _ | apply Drawn0.step)⟩
end Go.Proofs.YtibmeomlokigjaaDoor.Q
namespace Go.Proofs.YtibmeomlokigjaaDoor.Q
open Go.RowKit Go.Proofs.YtibmeomlokigjaaDoorW.PrintWords Go.Proofs.YtibmeomlokigjaaDoorW.PrintLast Go.Proofs.YtibmeomlokigjaaDoorW.PrintMore
attribute [local go_sem] max2_int min2_int max_two min_two max_three min_three max_four min_four
set_option linter.unusedVariables false
set_option linter.unusedSimpArgs false
def impl_texts.l0 : Nat → List ByteArray → List Int → Int → Int → Option (List ByteArray)
  | 0, _, _, _, _ => none
  | k + 1, x3, x7, x8, x9 => if x9 < x8 then (if 0 ≤ x9 then (if x9 < (x7.length : Int) then ((impl_FormatInt.f (rd x7 x9)).bind fun t166 => (if x3.length < 8796093022208 then (impl_texts.l0 k (x3 ++ [t166]) x7 x8 (wrap64 (x9 + 1))) else (none))) else (none)) else (none)) else (some x3)
def impl_texts.f (k : Nat) (l0 : List Int) : Option (List ByteArray) := impl_texts.l0 k (([] : List ByteArray)) l0 (l0.length : Int) 0
set_option maxHeartbeats 8000000 in
set_option maxRecDepth 100000 in
theorem impl_texts.calls (k : Nat) (A0 : Option Addr) (c0 : Nat) (l0 : List Int) (r : List ByteArray) (w : World) (hr0 : Kd.C (Kd.int .i64) w A0 l0.length l0) (hc0 : l0.length ≤ c0) (h : impl_texts.f k l0 = some r) :
    Calls Tryd.prog 51 #[.slice A0 l0.length c0] w fun e w' => ∃ v0_ : Value, e = .returned (v0_) ∧ Kd.R Kd.string 9 w' w.heap.size (fun _ => True) v0_ r ∧ Below w.heap.size w w' := by
  have HR0 := Aside0.mk hr0
  have HC0 := Aside0.mk hc0
  clear hr0 hc0
  have HB := Aside0.mk (Below.refl w.heap.size w)
  have H : (impl_texts.l0 k (([] : List ByteArray)) l0 (l0.length : Int) 0) = some r := h
  clear h
  obtain ⟨y162, hy162⟩ : ∃ y_ : List ByteArray, y_ = (([] : List ByteArray)) := ⟨_, rfl⟩
  replace H : (impl_texts.l0 k y162 l0 (l0.length : Int) 0) = some r := by first | (rw [hy162]; with_reducible exact H) | (have H2_ := (Option.bind_some _ _).symm.trans H; rw [hy162]; with_reducible exact H2_) | (have H2_ := (Option.bind_some _ _).symm.trans H; with_reducible exact H2_) | with_reducible exact H | (rw [hy162]; exact H) | exact H
  have Ny162 := Aside0.mk hy162
  clear hy162
  have H' := Aside0.mk H
  clear H
  go_enter Tryd.func51, Tryd.ntmps51
  go_wp2_with (first | ((with_reducible refine gate_dst (N := 6) rfl ?_); refine Kd.R_lit Kd.string _ 9 ?hg (N := 6) ?hd (xs := ([] : List ByteArray)) (inner := []) (ok := fun _ => True) (okp := fun _ => True) ?hr ?hp (fun _ hk => hk) trivial (Below.refl _ _) (Nat.le_refl _) (by simp) ?_; (case hd => rfl); (case hg => rfl); (case hr => first | (go_simp; done) | (go_simp; rfl)); (case hp => exact (Reps.none _ _)); intro v163 w2 ho3 hb hg_ hnew_; clear hg_ hnew_; (first | rw [← Ny162.out] at ho3 | (simp only [Int.reduceToNat] at ho3; rw [← Ny162.out] at ho3)); have HO164 := kl ho3 HB; replace HB := hs_ HB hb; clear hb ho3))
  go_loopg [3, 9] k (fun kq v3 v9 w' => ∃ (x3_1 : List ByteArray) (x9_1 : Int), v9 = .int .i64 x9_1 ∧ Aside0 (impl_texts.l0 kq x3_1 l0 (l0.length : Int) x9_1 = some r) ∧ Aside0 (kq ≤ k) ∧ Aside0 (Kd.R Kd.string 9 w' w.heap.size (fun _ => True) v3 x3_1) ∧ Aside0 (Below w.heap.size w w'))
  case atStart => exact ⟨(y162), (0), e2_, H', ⟨Nat.le_refl _⟩, ⟨rr HO164⟩, ⟨bb HB⟩⟩
  case round =>
    clear H'
    (try clear p2)
    obtain ⟨x3_1, x9_1, rfl, HA, HK1, HO_3, HB⟩ := hrel
    cases gk with
    | zero => exact absurd HA.out (by simp [impl_texts.l0])
    | succ k1 =>
      have H := HA.out
      clear HA
      simp only [impl_texts.l0] at H
      by_cases c4 : x9_1 < (l0.length : Int)
      · rw [if_pos c4] at H
        have c4b0 : decide (x9_1 < (l0.length : Int)) = true := decide_eq_true c4
        clear c4
        by_cases c5 : 0 ≤ x9_1
        · rw [if_pos c5] at H
          have c5b0 : decide (0 ≤ x9_1) = true := decide_eq_true c5
          clear c5
          by_cases c6 : x9_1 < (l0.length : Int)
          · rw [if_pos c6] at H
            have c6b0 : decide (x9_1 < (l0.length : Int)) = true := decide_eq_true c6
            clear c6
            replace H := Option.bind_eq_some_iff.mp H
            obtain ⟨t166, A70, H⟩ := H
            replace H : (if x3_1.length < 8796093022208 then (impl_texts.l0 k1 (x3_1 ++ [t166]) l0 (l0.length : Int) (wrap64 (x9_1 + 1))) else (none)) = some r := H
            have A7 := Aside0.mk A70
            clear A70
            by_cases c8 : x3_1.length < 8796093022208
            · rw [if_pos c8] at H
              have LMc8 := Aside0.mk c8
              clear c8
              obtain ⟨y167, hy167⟩ : ∃ y_ : List ByteArray, y_ = (x3_1 ++ [t166]) := ⟨_, rfl⟩
              replace H : (impl_texts.l0 k1 y167 l0 (l0.length : Int) (wrap64 (x9_1 + 1))) = some r := by first | (rw [hy167]; with_reducible exact H) | (have H2_ := (Option.bind_some _ _).symm.trans H; rw [hy167]; with_reducible exact H2_) | (have H2_ := (Option.bind_some _ _).symm.trans H; with_reducible exact H2_) | with_reducible exact H | (rw [hy167]; exact H) | exact H
              have Ny167 := Aside0.mk hy167
              clear hy167
              have H' := Aside0.mk H
              clear H
              have p165 : 0 ≤ (x9_1 : Int) := of_decide_eq_true (by first | (with_reducible assumption) | assumption)
              have q165 : x9_1 < (l0.length : Int) := of_decide_eq_true (by first | (with_reducible assumption) | assumption)
              obtain ⟨ad165, e165, hx165_0⟩ := Kd.at_int HR0.out x9_1 p165 q165
              cases e165
              replace hx165_0 := (HB.out.cell (World.block_lt_of_cell? w _ hx165_0)).trans hx165_0
              replace p165 := eq_true p165
              replace q165 := eq_true q165
              go_wp2_with (first | ((with_reducible refine gate_callee (f := 71) rfl ?_); refine gl (some 15) Tryd.func71 #[.int .i64 (rd l0 x9_1)] ?_; (with_reducible refine (impl_FormatInt.calls (rd l0 x9_1) t166 _ A7.out).mono ?_); rintro e w' ⟨rfl, ⟨nd, rfl⟩⟩; refine ⟨_, rfl, ?_⟩) | ((with_reducible refine gate_builtin (b := .append) (xs := #[.tmp 13, .tmp 16]) rfl ?_); at_builtin; refine Kd.R_append Kd.string (w0 := w) w.heap.size rfl (.tmp 13) (.tmp 16) 53 9 (.string ⟨#[]⟩) 16 rfl Tryd.underlying53 info9 rfl (by decide) (by omega) u3 x3_1 t166 [.string t166] (fun _ => True) (fun _ => False) rfl rfl ?aP (fun _ hk => hk.elim) ?aF ?aO ?aB ?aS ?aL ?_; (case aP => exact rfl); (case aB => exact (bb HB)); (case aF => exact (fun _ _ => trivial)); (case aO => exact (rr HO_3)); (case aS => exact (below_size (bb HB))); (case aL => have := LMc8.out; omega); intro v168 w9 ho hb hg hat; rw [← Ny167.out] at ho; replace HB := Aside0.mk (hb); have HO169 := Aside0.mk (ho); clear HO_3 ho hb hg hat))
              go_roundg k1
              case measure => have := HK1.out; omega
              case rel => exact ⟨(y167), (wrap64 (x9_1 + 1)), e2_, H', ⟨by have := HK1.out; omega⟩, ⟨rr HO169⟩, ⟨bb HB⟩⟩
            · rw [if_neg c8] at H
              exact absurd H (by simp)
          · rw [if_neg c6] at H
            exact absurd H (by simp)
        · rw [if_neg c5] at H
          exact absurd H (by simp)
      · rw [if_neg c4] at H
        have c4b0 : decide (x9_1 < (l0.length : Int)) = false := decide_eq_false c4
        clear c4
        obtain rfl := Option.some.inj H
        go_wp2
        go_ret
        exact ⟨_, ee, rr HO_3, bb HB⟩
end Go.Proofs.YtibmeomlokigjaaDoor.Q
namespace Go.Proofs.YtibmeomlokigjaaDoor.Q
open Go.RowKit Go.Proofs.YtibmeomlokigjaaDoorW.PrintWords Go.Proofs.YtibmeomlokigjaaDoorW.PrintLast Go.Proofs.YtibmeomlokigjaaDoorW.PrintMore
attribute [local go_sem] max2_int min2_int max_two min_two max_three min_three max_four min_four
set_option linter.unusedVariables false
set_option linter.unusedSimpArgs false
def impl_CupSizeOk.f (a0 : Int) : Option (Bool) := if a0 = 2 then (some true) else (if a0 = 4 then (some true) else (some (a0 == 8)))
set_option maxHeartbeats 8000000 in
set_option maxRecDepth 100000 in
theorem impl_CupSizeOk.calls (a0 : Int) (r : Bool) (w : World) (h : impl_CupSizeOk.f a0 = some r) :
    Calls Tryd.prog 41 #[.int .i64 a0] w fun e w' => e = .returned (.bool r) ∧ Drawn0 w w' := by
  have H : (if a0 = 2 then (some true) else (if a0 = 4 then (some true) else (some (a0 == 8)))) = some r := h
  clear h
  by_cases c2 : a0 = 2
  · rw [if_pos c2] at H
    have c2b0 : (a0 == 2) = true := beq_iff_eq.mpr c2
    have c2b1 : (a0 != 2) = false := bne_eq_false_iff_eq.mpr c2
    clear c2
    obtain rfl := Option.some.inj H
    go_enter Tryd.func41, Tryd.ntmps41
    go_wp2
    go_ret
    exact ⟨e2_, by repeat (first | exact Drawn0.refl _ | apply Drawn0.step)⟩
  · rw [if_neg c2] at H
    have c2b0 : (a0 == 2) = false := beq_eq_false_iff_ne.mpr c2
    have c2b1 : (a0 != 2) = true := bne_iff_ne.mpr c2
    by_cases c3 : a0 = 4
    · rw [if_pos c3] at H
      have c3b0 : (a0 == 4) = true := beq_iff_eq.mpr c3
      have c3b1 : (a0 != 4) = false := bne_eq_false_iff_eq.mpr c3
      clear c3
      obtain rfl := Option.some.inj H
      go_enter Tryd.func41, Tryd.ntmps41
      go_wp2
      go_ret
      exact ⟨e2_, by repeat (first | exact Drawn0.refl _ | apply Drawn0.step)⟩
    · rw [if_neg c3] at H
      have c3b0 : (a0 == 4) = false := beq_eq_false_iff_ne.mpr c3
      have c3b1 : (a0 != 4) = true := bne_iff_ne.mpr c3
      obtain rfl := Option.some.inj H
      go_enter Tryd.func41, Tryd.ntmps41
      go_wp2
      go_ret
      exact ⟨e2_, by repeat (first | exact Drawn0.refl _ | apply Drawn0.step)⟩
end Go.Proofs.YtibmeomlokigjaaDoor.Q
namespace Go.Proofs.YtibmeomlokigjaaDoor.Q
open Go.RowKit Go.Proofs.YtibmeomlokigjaaDoorW.PrintWords Go.Proofs.YtibmeomlokigjaaDoorW.PrintLast Go.Proofs.YtibmeomlokigjaaDoorW.PrintMore
attribute [local go_sem] max2_int min2_int max_two min_two max_three min_three max_four min_four
set_option linter.unusedVariables false
set_option linter.unusedSimpArgs false
def impl_within.f (a0 : Int) (a1 : Int) (a2 : Int) : Option (Bool) := if a1 ≤ a0 then (some (decide (a0 ≤ a2))) else (some false)
set_option maxHeartbeats 8000000 in
set_option maxRecDepth 100000 in
theorem impl_within.calls (a0 : Int) (a1 : Int) (a2 : Int) (r : Bool) (w : World) (h : impl_within.f a0 a1 a2 = some r) :
    Calls Tryd.prog 55 #[.int .i64 a0, .int .i64 a1, .int .i64 a2] w fun e w' => e = .returned (.bool r) ∧ Drawn0 w w' := by
  have H : (if a1 ≤ a0 then (some (decide (a0 ≤ a2))) else (some false)) = some r := h
  clear h
  by_cases c4 : a1 ≤ a0
  · rw [if_pos c4] at H
    have c4b0 : decide (a1 ≤ a0) = true := decide_eq_true c4
    clear c4
    obtain rfl := Option.some.inj H
    go_enter Tryd.func55, Tryd.ntmps55
    go_wp2
    go_ret
    exact ⟨e2_, by repeat (first | exact Drawn0.refl _ | apply Drawn0.step)⟩
  · rw [if_neg c4] at H
    have c4b0 : decide (a1 ≤ a0) = false := decide_eq_false c4
    clear c4
    obtain rfl := Option.some.inj H
    go_enter Tryd.func55, Tryd.ntmps55
    go_wp2
    go_ret
    exact ⟨e2_, by repeat (first | exact Drawn0.refl _ | apply Drawn0.step)⟩
end Go.Proofs.YtibmeomlokigjaaDoor.Q
section
namespace Go.Proofs.YtibmeomlokigjaaDoor.Q
open Go.RowKit Go.Proofs.YtibmeomlokigjaaDoorW.PrintWords Go.Proofs.YtibmeomlokigjaaDoorW.PrintLast Go.Proofs.YtibmeomlokigjaaDoorW.PrintMore
attribute [local go_sem] max2_int min2_int max_two min_two max_three min_three max_four min_four
set_option linter.unusedVariables false
set_option linter.unusedSimpArgs false
mutual
def impl_BracketOf.l0 : Nat → Int → List Int → List Int → Int → Int → Option (List Int)
  | 0, _, _, _, _, _ => none
  | k + 1, x0, x3, x15, x16, x17 => if x17 < x16 then (if 0 ≤ x17 then (if x17 < (x15.length : Int) then (if (Int.tmod x17 2) = 0 then ((some (([rd x15 x17, wrap64 ((wrap64 (x0 + 1)) - (rd x15 x17))] : List Int) : List Int)).bind fun y599 => (if x3.length + y599.length < 17592186044416 then (impl_BracketOf.l0 k x0 (x3 ++ y599) x15 x16 (wrap64 (x17 + 1))) else (none))) else ((some (([wrap64 ((wrap64 (x0 + 1)) - (rd x15 x17)), rd x15 x17] : List Int) : List Int)).bind fun y605 => (if x3.length + y605.length < 17592186044416 then (impl_BracketOf.l0 k x0 (x3 ++ y605) x15 x16 (wrap64 (x17 + 1))) else (none)))) else (none)) else (none)) else (some x3)
def impl_BracketOf.f : Nat → Int → Option (List Int)
  | 0, _ => none
  | k + 1, a0 => (impl_CupSizeOk.f a0).bind fun t588 => (if t588 = true then (if a0 = 2 then (some (([1, 2] : List Int))) else ((impl_BracketOf.f k (wrap64 (Int.tdiv a0 2))).bind fun t595 => (impl_BracketOf.l0 k a0 (([] : List Int)) t595 (t595.length : Int) 0))) else (some ([] : List Int)))
end
set_option maxHeartbeats 8000000 in
set_option maxRecDepth 100000 in
theorem impl_BracketOf.calls (k : Nat) : ∀ (a0 : Int) (r : List Int) (w : World) (h : impl_BracketOf.f k a0 = some r),
    Calls Tryd.prog 44 #[.int .i64 a0] w fun e w' => ∃ v0_ : Value, e = .returned (v0_) ∧ Kd.R (Kd.int .i64) 3 w' w.heap.size (fun _ => True) v0_ r ∧ Below w.heap.size w w' := by
  induction k using Nat.strongRecOn with
  | _ k ih =>
  intro a0 r w h
  cases k with
  | zero => exact absurd h (by simp [impl_BracketOf.f])
  | succ k =>
  simp only [impl_BracketOf.f] at h
  have HB := Aside0.mk (Below.refl w.heap.size w)
  have H : ((impl_CupSizeOk.f a0).bind fun t588 => (if t588 = true then (if a0 = 2 then (some (([1, 2] : List Int))) else ((impl_BracketOf.f k (wrap64 (Int.tdiv a0 2))).bind fun t595 => (impl_BracketOf.l0 k a0 (([] : List Int)) t595 (t595.length : Int) 0))) else (some ([] : List Int)))) = some r := h
  clear h
  replace H := Option.bind_eq_some_iff.mp H
  obtain ⟨t588, A20, H⟩ := H
  replace H : (if t588 = true then (if a0 = 2 then (some (([1, 2] : List Int))) else ((impl_BracketOf.f k (wrap64 (Int.tdiv a0 2))).bind fun t595 => (impl_BracketOf.l0 k a0 (([] : List Int)) t595 (t595.length : Int) 0))) else (some ([] : List Int))) = some r := H
  have A2 := Aside0.mk A20
  clear A20
  by_cases c3 : t588 = true
  · subst c3
    have H1 : (if a0 = 2 then (some (([1, 2] : List Int))) else ((impl_BracketOf.f k (wrap64 (Int.tdiv a0 2))).bind fun t595 => (impl_BracketOf.l0 k a0 (([] : List Int)) t595 (t595.length : Int) 0))) = some r := by rw [if_pos rfl] at H; exact H
    clear H
    have H := H1
    clear H1
    by_cases c4 : a0 = 2
    · rw [if_pos c4] at H
      have c4b0 : (a0 == 2) = true := beq_iff_eq.mpr c4
      have c4b1 : (a0 != 2) = false := bne_eq_false_iff_eq.mpr c4
      clear c4
      obtain ⟨y589, hy589⟩ : ∃ y_ : List Int, y_ = (([1, 2] : List Int)) := ⟨_, rfl⟩
      replace H : (some y589) = some r := by first | (rw [hy589]; with_reducible exact H) | (have H2_ := (Option.bind_some _ _).symm.trans H; rw [hy589]; with_reducible exact H2_) | (have H2_ := (Option.bind_some _ _).symm.trans H; with_reducible exact H2_) | with_reducible exact H | (rw [hy589]; exact H) | exact H
      have Ny589 := Aside0.mk hy589
      clear hy589
      obtain rfl := Option.some.inj H
      go_enter Tryd.func44, Tryd.ntmps44
      go_wp2_with (first | ((with_reducible refine gate_callee (f := 41) rfl ?_); refine gl (some 7) Tryd.func41 #[.int .i64 a0] ?_; (with_reducible refine (impl_CupSizeOk.calls a0 true _ A2.out).mono ?_); rintro e w' ⟨rfl, ⟨nd, rfl⟩⟩; refine ⟨_, rfl, ?_⟩) | ((with_reducible refine gate_dst (N := 11) rfl ?_); refine Kd.R_lit (Kd.int .i64) _ 3 ?hg (N := 11) ?hd (xs := ([1, 2] : List Int)) (inner := [.int .i64 1, .int .i64 2]) (ok := fun _ => True) (okp := fun _ => True) ?hr ?hp (fun _ hk => hk) trivial (Below.refl _ _) (Nat.le_refl _) (by simp) ?_; (case hd => rfl); (case hg => rfl); (case hr => first | (go_simp; done) | (go_simp; rfl)); (case hp => exact (Reps.one (show Kd.M (Kd.int .i64) _ _ _ 1 [.int .i64 1] from rfl) (Reps.one (show Kd.M (Kd.int .i64) _ _ _ 2 [.int .i64 2] from rfl) (Reps.none _ _)))); intro v590 w5 ho6 hb hg_ hnew_; clear hg_ hnew_; (first | rw [← Ny589.out] at ho6 | (simp only [Int.reduceToNat] at ho6; rw [← Ny589.out] at ho6)); have HO591 := kl ho6 HB; replace HB := hs_ HB hb; clear hb ho6))
      go_ret
      exact ⟨_, ee, rr HO591, bb HB⟩
    · rw [if_neg c4] at H
      have c4b0 : (a0 == 2) = false := beq_eq_false_iff_ne.mpr c4
      have c4b1 : (a0 != 2) = true := bne_iff_ne.mpr c4
      obtain ⟨y592, hy592⟩ : ∃ y_ : List Int, y_ = (([] : List Int)) := ⟨_, rfl⟩
      replace H : ((impl_BracketOf.f k (wrap64 (Int.tdiv a0 2))).bind fun t595 => (impl_BracketOf.l0 k a0 y592 t595 (t595.length : Int) 0)) = some r := by first | (rw [hy592]; with_reducible exact H) | (have H2_ := (Option.bind_some _ _).symm.trans H; rw [hy592]; with_reducible exact H2_) | (have H2_ := (Option.bind_some _ _).symm.trans H; with_reducible exact H2_) | with_reducible exact H | (rw [hy592]; exact H) | exact H
      have Ny592 := Aside0.mk hy592
      clear hy592
      replace H := Option.bind_eq_some_iff.mp H
      obtain ⟨t595, A70, H⟩ := H
      replace H : (impl_BracketOf.l0 k a0 y592 t595 (t595.length : Int) 0) = some r := H
      have A7 := Aside0.mk A70
      clear A70
      have H' := Aside0.mk H
      clear H
      go_enter Tryd.func44, Tryd.ntmps44
      go_wp2_with (first | ((with_reducible refine gate_callee (f := 41) rfl ?_); refine gl (some 7) Tryd.func41 #[.int .i64 a0] ?_; (with_reducible refine (impl_CupSizeOk.calls a0 true _ A2.out).mono ?_); rintro e w' ⟨rfl, ⟨nd, rfl⟩⟩; refine ⟨_, rfl, ?_⟩) | ((with_reducible refine gate_dst (N := 12) rfl ?_); refine Kd.R_lit (Kd.int .i64) _ 3 ?hg (N := 12) ?hd (xs := ([] : List Int)) (inner := []) (ok := fun _ => True) (okp := fun _ => True) ?hr ?hp (fun _ hk => hk) trivial (Below.refl _ _) (Nat.le_refl _) (by simp) ?_; (case hd => rfl); (case hg => rfl); (case hr => first | (go_simp; done) | (go_simp; rfl)); (case hp => exact (Reps.none _ _)); intro v593 w8 ho9 hb hg_ hnew_; clear hg_ hnew_; (first | rw [← Ny592.out] at ho9 | (simp only [Int.reduceToNat] at ho9; rw [← Ny592.out] at ho9)); have HO594 := kl ho9 HB; replace HB := hs_ HB hb; clear hb ho9) | ((with_reducible refine gate_callee (f := 44) rfl ?_); refine gl (some 15) Tryd.func44 #[.int .i64 (wrap64 (Int.tdiv a0 2))] ?_; (with_reducible refine (ih k (by omega) (wrap64 (Int.tdiv a0 2)) t595 _ A7.out).mono ?_); rintro e w10 ⟨v596, rfl, ho0, hb⟩; refine ⟨_, rfl, ?_⟩; have HO597 := Aside0.mk (Kd.R_lower (Kd.R_new' ho0 (rt HO594)) (below_size (bb HB))); replace HO594 := ke HO594 ho0 hb; replace HB := hs_ HB hb; (try clear hb); (try clear hb2); (try clear hk); (try clear hi); (try clear ho0); obtain ⟨Ao11, co11, eo11⟩ := Kd.R_slice HO597.out; subst eo11))
      go_loopg [3, 17] k (fun kq v3 v17 w' => ∃ (x3_1 : List Int) (x17_1 : Int), v17 = .int .i64 x17_1 ∧ Aside0 (impl_BracketOf.l0 kq a0 x3_1 t595 (t595.length : Int) x17_1 = some r) ∧ Aside0 (kq ≤ k) ∧ Aside0 (Kd.R (Kd.int .i64) 3 w' w.heap.size (fun k_ => some k_ ≠ ((.slice Ao11 t595.length co11) : Value).ownBlock) v3 x3_1) ∧ Aside0 (Kd.R (Kd.int .i64) 3 w' w.heap.size (fun k_ => some k_ ≠ (v3 : Value).ownBlock) (.slice Ao11 t595.length co11) t595) ∧ Aside0 (Below w.heap.size w w'))
      case atStart => exact ⟨(y592), (0), e2_, H', ⟨Nat.le_refl _⟩, ⟨ro HO594 (fun _ hk => hk.2)⟩, ⟨ro HO597 (fun _ hk => hk.2)⟩, ⟨bb HB⟩⟩
      case round =>
        clear H'
        (try clear p2)
        (try clear c3)
        (try clear c4)
        (try clear c4b0)
        (try clear c4b1)
        (try clear p6)
        obtain ⟨x3_1, x17_1, rfl, HA, HK1, HO_3, HO_15, HB⟩ := hrel
        cases gk with
        | zero => exact absurd HA.out (by simp [impl_BracketOf.l0])
        | succ k1 =>
          have H := HA.out
          clear HA
          simp only [impl_BracketOf.l0] at H
          by_cases c12 : x17_1 < (t595.length : Int)
          · rw [if_pos c12] at H
            have c12b0 : decide (x17_1 < (t595.length : Int)) = true := decide_eq_true c12
            clear c12
            by_cases c13 : 0 ≤ x17_1
            · rw [if_pos c13] at H
              have c13b0 : decide (0 ≤ x17_1) = true := decide_eq_true c13
              clear c13
              by_cases c14 : x17_1 < (t595.length : Int)
              · rw [if_pos c14] at H
                have c14b0 : decide (x17_1 < (t595.length : Int)) = true := decide_eq_true c14
                clear c14
                by_cases c15 : (Int.tmod x17_1 2) = 0
                · rw [if_pos c15] at H
                  have c15b0 : ((Int.tmod x17_1 2) == 0) = true := beq_iff_eq.mpr c15
                  have c15b1 : ((Int.tmod x17_1 2) != 0) = false := bne_eq_false_iff_eq.mpr c15
                  clear c15
                  obtain ⟨y599, hy599⟩ : ∃ y_ : List Int, y_ = (([rd t595 x17_1, wrap64 ((wrap64 (a0 + 1)) - (rd t595 x17_1))] : List Int)) := ⟨_, rfl⟩
                  replace H : (if x3_1.length + y599.length < 17592186044416 then (impl_BracketOf.l0 k1 a0 (x3_1 ++ y599) t595 (t595.length : Int) (wrap64 (x17_1 + 1))) else (none)) = some r := by first | (rw [hy599]; with_reducible exact H) | (have H2_ := (Option.bind_some _ _).symm.trans H; rw [hy599]; with_reducible exact H2_) | (have H2_ := (Option.bind_some _ _).symm.trans H; with_reducible exact H2_) | with_reducible exact H | (rw [hy599]; exact H) | exact H
                  have Ny599 := Aside0.mk hy599
                  clear hy599
                  by_cases c16 : x3_1.length + y599.length < 17592186044416
                  · rw [if_pos c16] at H
                    have LMc16 := Aside0.mk c16
                    clear c16
                    obtain ⟨y602, hy602⟩ : ∃ y_ : List Int, y_ = (x3_1 ++ y599) := ⟨_, rfl⟩
                    replace H : (impl_BracketOf.l0 k1 a0 y602 t595 (t595.length : Int) (wrap64 (x17_1 + 1))) = some r := by first | (rw [hy602]; with_reducible exact H) | (have H2_ := (Option.bind_some _ _).symm.trans H; rw [hy602]; with_reducible exact H2_) | (have H2_ := (Option.bind_some _ _).symm.trans H; with_reducible exact H2_) | with_reducible exact H | (rw [hy602]; exact H) | exact H
                    have Ny602 := Aside0.mk hy602
                    clear hy602
                    have H' := Aside0.mk H
                    clear H
                    have p598 : 0 ≤ (x17_1 : Int) := of_decide_eq_true (by first | (with_reducible assumption) | assumption)
                    have q598 : x17_1 < (t595.length : Int) := of_decide_eq_true (by first | (with_reducible assumption) | assumption)
                    obtain ⟨ad598, e598, hx598_0⟩ := Kd.at_int (Kd.R_reads' HO_15.out).2.2 x17_1 p598 q598
                    cases e598
                    replace p598 := eq_true p598
                    replace q598 := eq_true q598
                    go_wp2_with (first | ((with_reducible refine gate_dst (N := 31) rfl ?_); refine Kd.R_lit (Kd.int .i64) _ 3 ?hg (N := 31) ?hd (xs := ([rd t595 x17_1, wrap64 ((wrap64 (a0 + 1)) - (rd t595 x17_1))] : List Int)) (inner := [.int .i64 (rd t595 x17_1), .int .i64 (wrap64 ((wrap64 (a0 + 1)) - (rd t595 x17_1)))]) (ok := fun _ => True) (okp := fun _ => True) ?hr ?hp (fun _ hk => hk) trivial (Below.refl _ _) (Nat.le_refl _) (by simp) ?_; (case hd => rfl); (case hg => rfl); (case hr => first | (go_simp; done) | (go_simp; rfl)); (case hp => exact (Reps.one (show Kd.M (Kd.int .i64) _ _ _ (rd t595 x17_1) [.int .i64 (rd t595 x17_1)] from rfl) (Reps.one (show Kd.M (Kd.int .i64) _ _ _ (wrap64 ((wrap64 (a0 + 1)) - (rd t595 x17_1))) [.int .i64 (wrap64 ((wrap64 (a0 + 1)) - (rd t595 x17_1)))] from rfl) (Reps.none _ _)))); intro v600 w17 ho18 hb hg_ hnew_; clear hg_ hnew_; (first | rw [← Ny599.out] at ho18 | (simp only [Int.reduceToNat] at ho18; rw [← Ny599.out] at ho18)); have HO601 := Aside0.mk (Kd.R_lower (Kd.R_new' (Kd.R_new' ho18 (rt HO_3)) (rt HO_15)) (below_size (bb HB))); replace HO_3 := ke HO_3 ho18 hb; replace HO_15 := ke HO_15 ho18 hb; replace HB := hs_ HB hb; clear hb ho18; obtain ⟨Ao20, co20, eo20⟩ := Kd.R_slice HO601.out; subst eo20) | ((with_reducible refine gate_builtin (b := .append) (xs := #[.tmp 25, .tmp 31]) rfl ?_); at_builtin; refine Kd.R_append_rows (Kd.int .i64) (w0 := w) w.heap.size rfl (.tmp 25) (.tmp 31) 42 3 (.int .i64 0) 8 rfl Tryd.underlying42 info3 rfl (by decide) (by omega) u3 x3_1 y599 _ _ _ (fun k_ => some k_ ≠ (.slice (some ad598) t595.length co11 : Value).ownBlock ∧ some k_ ≠ (.slice Ao20 y599.length co20 : Value).ownBlock) (fun _ => False) rfl rfl ?aO ?aR (fun _ _ h => h) (fun _ h => h.elim) ?aF ?aB ?aS ?aL ?_; (case aR => exact cr HO601); (case aB => exact (bb HB)); (case aF => exact (fun k_ hk => ⟨Kd.fresh' (Kd.R_lt (rr HO_15)) k_ hk, Kd.fresh' (Kd.R_lt (rr HO601)) k_ hk⟩)); (case aO => exact (rr HO_3)); (case aS => exact (below_size (bb HB))); (case aL => have := LMc16.out; omega); intro v603 w19 ho hb hg hat; rw [← Ny602.out] at ho; replace HO_15 := Aside0.mk (Kd.R_after (ok := (fun k_ => some k_ ≠ (.slice Ao20 y599.length co20 : Value).ownBlock)) (ro HO_15 (fun _ hk => ⟨hk.2, hk.1⟩)) hg hat); replace HO601 := Aside0.mk (Kd.R_after (ok := (fun k_ => some k_ ≠ (.slice (some ad598) t595.length co11 : Value).ownBlock)) (ro HO601 (fun _ hk => ⟨hk.2, hk.1.2⟩)) hg hat); replace HB := Aside0.mk (hb); have HO604 := Aside0.mk (ho); clear HO_3 ho hb hg hat))
                    go_roundg k1
                    case measure => have := HK1.out; omega
                    case rel => exact ⟨(y602), (wrap64 (x17_1 + 1)), e2_, H', ⟨by have := HK1.out; omega⟩, ⟨ro HO604 (fun _ hk => hk.1)⟩, ⟨ro HO_15 (fun _ hk => hk.2)⟩, ⟨bb HB⟩⟩
                  · rw [if_neg c16] at H
                    exact absurd H (by simp)
                · rw [if_neg c15] at H
                  have c15b0 : ((Int.tmod x17_1 2) == 0) = false := beq_eq_false_iff_ne.mpr c15
                  have c15b1 : ((Int.tmod x17_1 2) != 0) = true := bne_iff_ne.mpr c15
                  obtain ⟨y605, hy605⟩ : ∃ y_ : List Int, y_ = (([wrap64 ((wrap64 (a0 + 1)) - (rd t595 x17_1)), rd t595 x17_1] : List Int)) := ⟨_, rfl⟩
                  replace H : (if x3_1.length + y605.length < 17592186044416 then (impl_BracketOf.l0 k1 a0 (x3_1 ++ y605) t595 (t595.length : Int) (wrap64 (x17_1 + 1))) else (none)) = some r := by first | (rw [hy605]; with_reducible exact H) | (have H2_ := (Option.bind_some _ _).symm.trans H; rw [hy605]; with_reducible exact H2_) | (have H2_ := (Option.bind_some _ _).symm.trans H; with_reducible exact H2_) | with_reducible exact H | (rw [hy605]; exact H) | exact H
                  have Ny605 := Aside0.mk hy605
                  clear hy605
                  by_cases c21 : x3_1.length + y605.length < 17592186044416
                  · rw [if_pos c21] at H
                    have LMc21 := Aside0.mk c21
                    clear c21
                    obtain ⟨y608, hy608⟩ : ∃ y_ : List Int, y_ = (x3_1 ++ y605) := ⟨_, rfl⟩
                    replace H : (impl_BracketOf.l0 k1 a0 y608 t595 (t595.length : Int) (wrap64 (x17_1 + 1))) = some r := by first | (rw [hy608]; with_reducible exact H) | (have H2_ := (Option.bind_some _ _).symm.trans H; rw [hy608]; with_reducible exact H2_) | (have H2_ := (Option.bind_some _ _).symm.trans H; with_reducible exact H2_) | with_reducible exact H | (rw [hy608]; exact H) | exact H
                    have Ny608 := Aside0.mk hy608
                    clear hy608
                    have H' := Aside0.mk H
                    clear H
                    have p598 : 0 ≤ (x17_1 : Int) := of_decide_eq_true (by first | (with_reducible assumption) | assumption)
                    have q598 : x17_1 < (t595.length : Int) := of_decide_eq_true (by first | (with_reducible assumption) | assumption)
                    obtain ⟨ad598, e598, hx598_0⟩ := Kd.at_int (Kd.R_reads' HO_15.out).2.2 x17_1 p598 q598
                    cases e598
                    replace p598 := eq_true p598
                    replace q598 := eq_true q598
                    go_wp2_with (first | ((with_reducible refine gate_dst (N := 39) rfl ?_); refine Kd.R_lit (Kd.int .i64) _ 3 ?hg (N := 39) ?hd (xs := ([wrap64 ((wrap64 (a0 + 1)) - (rd t595 x17_1)), rd t595 x17_1] : List Int)) (inner := [.int .i64 (wrap64 ((wrap64 (a0 + 1)) - (rd t595 x17_1))), .int .i64 (rd t595 x17_1)]) (ok := fun _ => True) (okp := fun _ => True) ?hr ?hp (fun _ hk => hk) trivial (Below.refl _ _) (Nat.le_refl _) (by simp) ?_; (case hd => rfl); (case hg => rfl); (case hr => first | (go_simp; done) | (go_simp; rfl)); (case hp => exact (Reps.one (show Kd.M (Kd.int .i64) _ _ _ (wrap64 ((wrap64 (a0 + 1)) - (rd t595 x17_1))) [.int .i64 (wrap64 ((wrap64 (a0 + 1)) - (rd t595 x17_1)))] from rfl) (Reps.one (show Kd.M (Kd.int .i64) _ _ _ (rd t595 x17_1) [.int .i64 (rd t595 x17_1)] from rfl) (Reps.none _ _)))); intro v606 w22 ho23 hb hg_ hnew_; clear hg_ hnew_; (first | rw [← Ny605.out] at ho23 | (simp only [Int.reduceToNat] at ho23; rw [← Ny605.out] at ho23)); have HO607 := Aside0.mk (Kd.R_lower (Kd.R_new' (Kd.R_new' ho23 (rt HO_3)) (rt HO_15)) (below_size (bb HB))); replace HO_3 := ke HO_3 ho23 hb; replace HO_15 := ke HO_15 ho23 hb; replace HB := hs_ HB hb; clear hb ho23; obtain ⟨Ao25, co25, eo25⟩ := Kd.R_slice HO607.out; subst eo25) | ((with_reducible refine gate_builtin (b := .append) (xs := #[.tmp 33, .tmp 39]) rfl ?_); at_builtin; refine Kd.R_append_rows (Kd.int .i64) (w0 := w) w.heap.size rfl (.tmp 33) (.tmp 39) 42 3 (.int .i64 0) 8 rfl Tryd.underlying42 info3 rfl (by decide) (by omega) u3 x3_1 y605 _ _ _ (fun k_ => some k_ ≠ (.slice (some ad598) t595.length co11 : Value).ownBlock ∧ some k_ ≠ (.slice Ao25 y605.length co25 : Value).ownBlock) (fun _ => False) rfl rfl ?aO ?aR (fun _ _ h => h) (fun _ h => h.elim) ?aF ?aB ?aS ?aL ?_; (case aR => exact cr HO607); (case aB => exact (bb HB)); (case aF => exact (fun k_ hk => ⟨Kd.fresh' (Kd.R_lt (rr HO_15)) k_ hk, Kd.fresh' (Kd.R_lt (rr HO607)) k_ hk⟩)); (case aO => exact (rr HO_3)); (case aS => exact (below_size (bb HB))); (case aL => have := LMc21.out; omega); intro v609 w24 ho hb hg hat; rw [← Ny608.out] at ho; replace HO_15 := Aside0.mk (Kd.R_after (ok := (fun k_ => some k_ ≠ (.slice Ao25 y605.length co25 : Value).ownBlock)) (ro HO_15 (fun _ hk => ⟨hk.2, hk.1⟩)) hg hat); replace HO607 := Aside0.mk (Kd.R_after (ok := (fun k_ => some k_ ≠ (.slice (some ad598) t595.length co11 : Value).ownBlock)) (ro HO607 (fun _ hk => ⟨hk.2, hk.1.2⟩)) hg hat); replace HB := Aside0.mk (hb); have HO610 := Aside0.mk (ho); clear HO_3 ho hb hg hat))
                    go_roundg k1
                    case measure => have := HK1.out; omega
                    case rel => exact ⟨(y608), (wrap64 (x17_1 + 1)), e2_, H', ⟨by have := HK1.out; omega⟩, ⟨ro HO610 (fun _ hk => hk.1)⟩, ⟨ro HO_15 (fun _ hk => hk.2)⟩, ⟨bb HB⟩⟩
                  · rw [if_neg c21] at H
                    exact absurd H (by simp)
              · rw [if_neg c14] at H
                exact absurd H (by simp)
            · rw [if_neg c13] at H
              exact absurd H (by simp)
          · rw [if_neg c12] at H
            have c12b0 : decide (x17_1 < (t595.length : Int)) = false := decide_eq_false c12
            clear c12
            obtain rfl := Option.some.inj H
            go_wp2
            go_ret
            exact ⟨_, ee, ro HO_3 (fun _ hk => trivial), bb HB⟩
  · replace c3 := Bool.eq_false_iff.mpr c3
    subst c3
    have H1 : (some ([] : List Int)) = some r := by rw [if_neg (show ¬ (false = true) by decide)] at H; exact H
    clear H
    have H := H1
    clear H1
    obtain rfl := Option.some.inj H
    go_enter Tryd.func44, Tryd.ntmps44
    go_wp2_with (first | ((with_reducible refine gate_callee (f := 41) rfl ?_); refine gl (some 7) Tryd.func41 #[.int .i64 a0] ?_; (with_reducible refine (impl_CupSizeOk.calls a0 false _ A2.out).mono ?_); rintro e w' ⟨rfl, ⟨nd, rfl⟩⟩; refine ⟨_, rfl, ?_⟩))
    go_ret
    exact ⟨_, ee, by first | exact Kd.R_nil _ _ _ _ _ | exact Kd.N_nil _ _ _ _ _ | exact Kd.V_nil _ _ _ _ _ | exact Kd.Q_nil _ _ _ _ _ | exact Kd.S_nil _ _ _ _ _, bb HB⟩
end Go.Proofs.YtibmeomlokigjaaDoor.Q
end
section
namespace Go.Proofs.YtibmeomlokigjaaDoor.Q
open Go.RowKit Go.Proofs.YtibmeomlokigjaaDoorW.PrintWords Go.Proofs.YtibmeomlokigjaaDoorW.PrintLast Go.Proofs.YtibmeomlokigjaaDoorW.PrintMore
attribute [local go_sem] max2_int min2_int max_two min_two max_three min_three max_four min_four
set_option linter.unusedVariables false
set_option linter.unusedSimpArgs false
mutual
def impl_OpponentsOf.j0 : Nat → Int → Bool → Int → List Int → Option (Int × Int × Bool)
  | 0, _, _, _, _ => none
  | k + 1, x1, x23, x612000, x612001 => if x23 = true then (some (0, 0, false)) else (if x1 < (wrap64 (Int.tdiv x612000 2)) then ((impl_BracketOf.f k x612000).bind fun t614 => (if 0 ≤ (wrap64 (2 * x1)) then (if (wrap64 (2 * x1)) < (t614.length : Int) then (if 0 ≤ (wrap64 ((wrap64 (2 * x1)) + 1)) then (if (wrap64 ((wrap64 (2 * x1)) + 1)) < (t614.length : Int) then (some (rd t614 (wrap64 (2 * x1)), rd t614 (wrap64 ((wrap64 (2 * x1)) + 1)), true)) else (none)) else (none)) else (none)) else (none))) else (impl_OpponentsOf.l0 k x1 0 (wrap64 (Int.tdiv x612000 2)) (wrap64 (Int.tdiv x612000 2)) x612000 x612001))
def impl_OpponentsOf.l0 : Nat → Int → Int → Int → Int → Int → List Int → Option (Int × Int × Bool)
  | 0, _, _, _, _, _, _ => none
  | k + 1, x1, x8, x9, x10, x612000, x612001 => if x1 ≥ (wrap64 (x9 + (wrap64 (Int.tdiv x10 2)))) then (impl_OpponentsOf.l0 k x1 x9 (wrap64 (x9 + (wrap64 (Int.tdiv x10 2)))) (wrap64 (Int.tdiv x10 2)) x612000 x612001) else (if (wrap64 ((wrap64 (x8 + (wrap64 (2 * (wrap64 (x1 - x9)))))) + 1)) ≥ (x612001.length : Int) then (some (0, 0, false)) else (if 0 ≤ (wrap64 (x8 + (wrap64 (2 * (wrap64 (x1 - x9)))))) then (if (wrap64 (x8 + (wrap64 (2 * (wrap64 (x1 - x9)))))) < (x612001.length : Int) then (if 0 ≤ (wrap64 ((wrap64 (x8 + (wrap64 (2 * (wrap64 (x1 - x9)))))) + 1)) then (if (wrap64 ((wrap64 (x8 + (wrap64 (2 * (wrap64 (x1 - x9)))))) + 1)) < (x612001.length : Int) then (some (rd x612001 (wrap64 (x8 + (wrap64 (2 * (wrap64 (x1 - x9)))))), rd x612001 (wrap64 ((wrap64 (x8 + (wrap64 (2 * (wrap64 (x1 - x9)))))) + 1)), true)) else (none)) else (none)) else (none)) else (none)))
end
def impl_OpponentsOf.f (k : Nat) (a0_0 : Int) (l0_1 : List Int) (a1 : Int) : Option (Int × Int × Bool) := (impl_CupSizeOk.f a0_0).bind fun t612 => (if t612 = true then ((impl_within.f a1 0 (wrap64 (a0_0 - 2))).bind fun t613 => (impl_OpponentsOf.j0 k a1 (!t613) a0_0 l0_1)) else (impl_OpponentsOf.j0 k a1 true a0_0 l0_1))
set_option maxHeartbeats 8000000 in
set_option maxRecDepth 100000 in
theorem impl_OpponentsOf.calls (k : Nat) (a0_0 : Int) (A0_1 : Option Addr) (c0_1 : Nat) (l0_1 : List Int) (a1 : Int) (r1 : Int) (r2 : Int) (r3 : Bool) (w : World) (hr0_1 : Kd.C (Kd.int .i64) w A0_1 l0_1.length l0_1) (hc0_1 : l0_1.length ≤ c0_1) (h : impl_OpponentsOf.f k a0_0 l0_1 a1 = some (r1, r2, r3)) :
    Calls Tryd.prog 74 #[.agg #[.int .i64 a0_0, .slice A0_1 l0_1.length c0_1], .int .i64 a1] w fun e w' => e = .returned (.tuple #[.int .i64 r1, .int .i64 r2, .bool r3]) ∧ Below w.heap.size w w' := by
  have hu66 := Tryd.underlying66
  have HR0_1 := Aside0.mk hr0_1
  have HC0_1 := Aside0.mk hc0_1
  clear hr0_1 hc0_1
  have HB := Aside0.mk (Below.refl w.heap.size w)
  have H : ((impl_CupSizeOk.f a0_0).bind fun t612 => (if t612 = true then ((impl_within.f a1 0 (wrap64 (a0_0 - 2))).bind fun t613 => (impl_OpponentsOf.j0 k a1 (!t613) a0_0 l0_1)) else (impl_OpponentsOf.j0 k a1 true a0_0 l0_1))) = some (r1, r2, r3) := h
  clear h
  have HC3 := Aside0.mk H
  clear H
  go_enter Tryd.func74, Tryd.ntmps74
  go_upto_region 1 with (first | ((with_reducible refine gate_dst (N := 2) rfl ?_); refine bx (N := 2) (cs := #[.int .i64 a0_0, .slice A0_1 l0_1.length c0_1]) (t := 66) ?_; intro gb611 hg w4 hbox hb; have BK611 := Aside0.mk (hbox); have GW611 := gs hg HB; have GE611 := gs hg HB; replace HB := hs_ HB hb; clear hb hbox hg))
  repeat (go_quiet (first | ((with_reducible refine gate_dst (N := 2) rfl ?_); refine bx (N := 2) (cs := #[.int .i64 a0_0, .slice A0_1 l0_1.length c0_1]) (t := 66) ?_; intro gb611 hg w4 hbox hb; have BK611 := Aside0.mk (hbox); have GW611 := gs hg HB; have GE611 := gs hg HB; replace HB := hs_ HB hb; clear hb hbox hg)); go_upto_region 1 with (first | ((with_reducible refine gate_dst (N := 2) rfl ?_); refine bx (N := 2) (cs := #[.int .i64 a0_0, .slice A0_1 l0_1.length c0_1]) (t := 66) ?_; intro gb611 hg w4 hbox hb; have BK611 := Aside0.mk (hbox); have GW611 := gs hg HB; have GE611 := gs hg HB; replace HB := hs_ HB hb; clear hb hbox hg)))
  (try simp only [Act.put, List.setIfInBounds_toArray, List.set_cons_zero, List.set_cons_succ])
  go_cut [23] (fun v23 wc => ∃ (kq : Nat) (x23_2 : Bool), v23 = .bool x23_2 ∧ Aside0 (impl_OpponentsOf.j0 kq a1 x23_2 a0_0 l0_1 = some (r1, r2, r3)) ∧ Aside0 (kq ≤ k) ∧ Aside0 (wc.heap[gb611]? = some (.cells #[.int .i64 a0_0, (.slice A0_1 l0_1.length c0_1)] 66 (0, 0))) ∧ Aside0 (Below w.heap.size w wc))
  case first =>
    have H := HC3.out
    clear HC3
    replace H := Option.bind_eq_some_iff.mp H
    obtain ⟨t612, A50, H⟩ := H
    replace H : (if t612 = true then ((impl_within.f a1 0 (wrap64 (a0_0 - 2))).bind fun t613 => (impl_OpponentsOf.j0 k a1 (!t613) a0_0 l0_1)) else (impl_OpponentsOf.j0 k a1 true a0_0 l0_1)) = some (r1, r2, r3) := H
    have A5 := Aside0.mk A50
    clear A50
    by_cases c6 : t612 = true
    · subst c6
      have H1 : ((impl_within.f a1 0 (wrap64 (a0_0 - 2))).bind fun t613 => (impl_OpponentsOf.j0 k a1 (!t613) a0_0 l0_1)) = some (r1, r2, r3) := by rw [if_pos rfl] at H; exact H
      clear H
      have H := H1
      clear H1
      replace H := Option.bind_eq_some_iff.mp H
      obtain ⟨t613, A70, H⟩ := H
      replace H : (impl_OpponentsOf.j0 k a1 (!t613) a0_0 l0_1) = some (r1, r2, r3) := H
      have A7 := Aside0.mk A70
      clear A70
      have H' := Aside0.mk H
      clear H
      have ⟨hcz8_0, hcz8_1, hfz8_0, hfz8_1⟩ := rz2 BK611
      go_wp2_with (first | (go_at_call 41; (with_reducible refine (impl_CupSizeOk.calls a0_0 true _ A5.out).mono ?_); rintro e w' ⟨rfl, ⟨nd, rfl⟩⟩; (try first | exact ⟨rfl, _, World.drewN_drewN _ _ _⟩ | exact ⟨rfl, _, Eq.trans (World.drewN_drewN _ _ _) (congrArg (World.drewN _) (Nat.add_assoc _ _ _))⟩)) | (go_at_call 55; (with_reducible refine (impl_within.calls a1 0 (wrap64 (a0_0 - 2)) t613 _ A7.out).mono ?_); rintro e w' ⟨rfl, ⟨nd, rfl⟩⟩; (try first | exact ⟨rfl, _, World.drewN_drewN _ _ _⟩ | exact ⟨rfl, _, Eq.trans (World.drewN_drewN _ _ _) (congrArg (World.drewN _) (Nat.add_assoc _ _ _))⟩)))
      repeat (go_quiet (first | (go_at_call 41; (with_reducible refine (impl_CupSizeOk.calls a0_0 true _ A5.out).mono ?_); rintro e w' ⟨rfl, ⟨nd, rfl⟩⟩; (try first | exact ⟨rfl, _, World.drewN_drewN _ _ _⟩ | exact ⟨rfl, _, Eq.trans (World.drewN_drewN _ _ _) (congrArg (World.drewN _) (Nat.add_assoc _ _ _))⟩)) | (go_at_call 55; (with_reducible refine (impl_within.calls a1 0 (wrap64 (a0_0 - 2)) t613 _ A7.out).mono ?_); rintro e w' ⟨rfl, ⟨nd, rfl⟩⟩; (try first | exact ⟨rfl, _, World.drewN_drewN _ _ _⟩ | exact ⟨rfl, _, Eq.trans (World.drewN_drewN _ _ _) (congrArg (World.drewN _) (Nat.add_assoc _ _ _))⟩))); try go_wp2_with (first | (go_at_call 41; (with_reducible refine (impl_CupSizeOk.calls a0_0 true _ A5.out).mono ?_); rintro e w' ⟨rfl, ⟨nd, rfl⟩⟩; (try first | exact ⟨rfl, _, World.drewN_drewN _ _ _⟩ | exact ⟨rfl, _, Eq.trans (World.drewN_drewN _ _ _) (congrArg (World.drewN _) (Nat.add_assoc _ _ _))⟩)) | (go_at_call 55; (with_reducible refine (impl_within.calls a1 0 (wrap64 (a0_0 - 2)) t613 _ A7.out).mono ?_); rintro e w' ⟨rfl, ⟨nd, rfl⟩⟩; (try first | exact ⟨rfl, _, World.drewN_drewN _ _ _⟩ | exact ⟨rfl, _, Eq.trans (World.drewN_drewN _ _ _) (congrArg (World.drewN _) (Nat.add_assoc _ _ _))⟩))))
      go_meet
      case rel => exact ⟨_, (!t613), e2_, H', ⟨by first | omega | exact Nat.le_refl _⟩, ⟨bk BK611⟩, ⟨bb HB⟩⟩
    · replace c6 := Bool.eq_false_iff.mpr c6
      subst c6
      have H1 : (impl_OpponentsOf.j0 k a1 true a0_0 l0_1) = some (r1, r2, r3) := by rw [if_neg (show ¬ (false = true) by decide)] at H; exact H
      clear H
      have H := H1
      clear H1
      have H' := Aside0.mk H
      clear H
      have ⟨hcz9_0, hcz9_1, hfz9_0, hfz9_1⟩ := rz2 BK611
      go_wp2_with (first | (go_at_call 41; (with_reducible refine (impl_CupSizeOk.calls a0_0 false _ A5.out).mono ?_); rintro e w' ⟨rfl, ⟨nd, rfl⟩⟩; (try first | exact ⟨rfl, _, World.drewN_drewN _ _ _⟩ | exact ⟨rfl, _, Eq.trans (World.drewN_drewN _ _ _) (congrArg (World.drewN _) (Nat.add_assoc _ _ _))⟩)))
      repeat (go_quiet (first | (go_at_call 41; (with_reducible refine (impl_CupSizeOk.calls a0_0 false _ A5.out).mono ?_); rintro e w' ⟨rfl, ⟨nd, rfl⟩⟩; (try first | exact ⟨rfl, _, World.drewN_drewN _ _ _⟩ | exact ⟨rfl, _, Eq.trans (World.drewN_drewN _ _ _) (congrArg (World.drewN _) (Nat.add_assoc _ _ _))⟩))); try go_wp2_with (first | (go_at_call 41; (with_reducible refine (impl_CupSizeOk.calls a0_0 false _ A5.out).mono ?_); rintro e w' ⟨rfl, ⟨nd, rfl⟩⟩; (try first | exact ⟨rfl, _, World.drewN_drewN _ _ _⟩ | exact ⟨rfl, _, Eq.trans (World.drewN_drewN _ _ _) (congrArg (World.drewN _) (Nat.add_assoc _ _ _))⟩))))
      go_meet
      case rel => exact ⟨_, (true), e2_, H', ⟨by first | omega | exact Nat.le_refl _⟩, ⟨bk BK611⟩, ⟨bb HB⟩⟩
  case rest =>
    clear HC3
    (try clear p2)
    (try clear c6)
    (try clear p6)
    (try clear c7)
    (try clear hcz8_0 hcz8_1)
    (try clear hcz9_0 hcz9_1)
    (try clear hfz8_0 hfz8_1)
    (try clear hfz9_0 hfz9_1)
    obtain ⟨kq, x23_2, rfl, HA, HJ2, BK611, HB⟩ := hcut
    cases kq with
    | zero => exact absurd HA.out (by simp [impl_OpponentsOf.j0])
    | succ kj2 =>
      have H := HA.out
      clear HA
      simp only [impl_OpponentsOf.j0] at H
      by_cases c10 : x23_2 = true
      · subst c10
        have H1 : (some (0, 0, false)) = some (r1, r2, r3) := by rw [if_pos rfl] at H; exact H
        clear H
        have H := H1
        clear H1
        simp only [Option.some.injEq, Prod.mk.injEq] at H
        obtain ⟨rfl, rfl, rfl⟩ := H
        go_wp2
        repeat (go_quiet (fail); try go_wp2)
        go_ret3
        exact ⟨ee, bb HB⟩
      · replace c10 := Bool.eq_false_iff.mpr c10
        subst c10
        have H1 : (if a1 < (wrap64 (Int.tdiv a0_0 2)) then ((impl_BracketOf.f kj2 a0_0).bind fun t614 => (if 0 ≤ (wrap64 (2 * a1)) then (if (wrap64 (2 * a1)) < (t614.length : Int) then (if 0 ≤ (wrap64 ((wrap64 (2 * a1)) + 1)) then (if (wrap64 ((wrap64 (2 * a1)) + 1)) < (t614.length : Int) then (some (rd t614 (wrap64 (2 * a1)), rd t614 (wrap64 ((wrap64 (2 * a1)) + 1)), true)) else (none)) else (none)) else (none)) else (none))) else (impl_OpponentsOf.l0 kj2 a1 0 (wrap64 (Int.tdiv a0_0 2)) (wrap64 (Int.tdiv a0_0 2)) a0_0 l0_1)) = some (r1, r2, r3) := by rw [if_neg (show ¬ (false = true) by decide)] at H; exact H
        clear H
        have H := H1
        clear H1
        by_cases c11 : a1 < (wrap64 (Int.tdiv a0_0 2))
        · rw [if_pos c11] at H
          have c11b0 : decide (a1 < (wrap64 (Int.tdiv a0_0 2))) = true := decide_eq_true c11
          clear c11
          replace H := Option.bind_eq_some_iff.mp H
          obtain ⟨t614, A120, H⟩ := H
          replace H : (if 0 ≤ (wrap64 (2 * a1)) then (if (wrap64 (2 * a1)) < (t614.length : Int) then (if 0 ≤ (wrap64 ((wrap64 (2 * a1)) + 1)) then (if (wrap64 ((wrap64 (2 * a1)) + 1)) < (t614.length : Int) then (some (rd t614 (wrap64 (2 * a1)), rd t614 (wrap64 ((wrap64 (2 * a1)) + 1)), true)) else (none)) else (none)) else (none)) else (none)) = some (r1, r2, r3) := H
          have A12 := Aside0.mk A120
          clear A120
          obtain ⟨ji13, hji13⟩ : ∃ j_ : Int, (wrap64 (2 * a1)) = j_ := ⟨_, rfl⟩
          replace H : (if 0 ≤ (ji13) then (if (ji13) < (t614.length : Int) then (if 0 ≤ (wrap64 ((ji13) + 1)) then (if (wrap64 ((ji13) + 1)) < (t614.length : Int) then (some (rd t614 (ji13), rd t614 (wrap64 ((ji13) + 1)), true)) else (none)) else (none)) else (none)) else (none)) = some (r1, r2, r3) := by first | (rw [hji13] at H; exact H) | (simp only [hji13] at H ⊢; exact H)
          (try rw [hji13] at A12)
          have hji13w : (IntKind.i64.wrap (2 * a1)) = ji13 := (i64_w _).trans hji13
          by_cases c14 : 0 ≤ (ji13)
          · rw [if_pos c14] at H
            have c14b0 : decide (0 ≤ (ji13)) = true := decide_eq_true c14
            clear c14
            by_cases c15 : (ji13) < (t614.length : Int)
            · rw [if_pos c15] at H
              have c15b0 : decide ((ji13) < (t614.length : Int)) = true := decide_eq_true c15
              clear c15
              obtain ⟨ji16, hji16⟩ : ∃ j_ : Int, (wrap64 ((ji13) + 1)) = j_ := ⟨_, rfl⟩
              replace H : (if 0 ≤ (ji16) then (if (ji16) < (t614.length : Int) then (some (rd t614 (ji13), rd t614 (ji16), true)) else (none)) else (none)) = some (r1, r2, r3) := by first | (rw [hji16] at H; exact H) | (simp only [hji16] at H ⊢; exact H)
              (try rw [hji16] at A12)
              have hji16w : (IntKind.i64.wrap ((ji13) + 1)) = ji16 := (i64_w _).trans hji16
              (try rw [hji16] at c11b0)
              by_cases c17 : 0 ≤ (ji16)
              · rw [if_pos c17] at H
                have c17b0 : decide (0 ≤ (ji16)) = true := decide_eq_true c17
                clear c17
                by_cases c18 : (ji16) < (t614.length : Int)
                · rw [if_pos c18] at H
                  have c18b0 : decide ((ji16) < (t614.length : Int)) = true := decide_eq_true c18
                  clear c18
                  simp only [Option.some.injEq, Prod.mk.injEq] at H
                  obtain ⟨rfl, rfl, rfl⟩ := H
                  have ⟨hcz19_0, hcz19_1, hfz19_0, hfz19_1⟩ := rz2 BK611
                  go_wp2_with (first | (go_at_call 44; (with_reducible refine (impl_BracketOf.calls kj2 a0_0 t614 _ A12.out).mono ?_); rintro e w20 ⟨v615, rfl, ho0, hb⟩; have HO616 := kl ho0 HB; replace BK611 := kb BK611 hb; replace HB := hs_ HB hb; (try clear hb); (try clear hb2); (try clear hk); (try clear hi); (try clear ho0); obtain ⟨Ao21, co21, eo21⟩ := Kd.R_slice HO616.out; subst eo21; have p617 : 0 ≤ ((ji13) : Int) := of_decide_eq_true (by first | (with_reducible assumption) | assumption); have q617 : (ji13) < (t614.length : Int) := of_decide_eq_true (by first | (with_reducible assumption) | assumption); obtain ⟨ad617, e617, hx617_0⟩ := Kd.at_int (Kd.R_reads' HO616.out).2.2 (ji13) p617 q617; cases e617; replace p617 := eq_true p617; replace q617 := eq_true q617; have p618 : 0 ≤ ((ji16) : Int) := of_decide_eq_true (by first | (with_reducible assumption) | assumption); have q618 : (ji16) < (t614.length : Int) := of_decide_eq_true (by first | (with_reducible assumption) | assumption); obtain ⟨ad618, e618, hx618_0⟩ := Kd.at_int (Kd.R_reads' HO616.out).2.2 (ji16) p618 q618; obtain rfl : ad617 = ad618 := (by injection e618); replace p618 := eq_true p618; replace q618 := eq_true q618))
                  repeat (go_quiet (first | (go_at_call 44; (with_reducible refine (impl_BracketOf.calls kj2 a0_0 t614 _ A12.out).mono ?_); rintro e w20 ⟨v615, rfl, ho0, hb⟩; have HO616 := kl ho0 HB; replace BK611 := kb BK611 hb; replace HB := hs_ HB hb; (try clear hb); (try clear hb2); (try clear hk); (try clear hi); (try clear ho0); obtain ⟨Ao21, co21, eo21⟩ := Kd.R_slice HO616.out; subst eo21; have p617 : 0 ≤ ((ji13) : Int) := of_decide_eq_true (by first | (with_reducible assumption) | assumption); have q617 : (ji13) < (t614.length : Int) := of_decide_eq_true (by first | (with_reducible assumption) | assumption); obtain ⟨ad617, e617, hx617_0⟩ := Kd.at_int (Kd.R_reads' HO616.out).2.2 (ji13) p617 q617; cases e617; replace p617 := eq_true p617; replace q617 := eq_true q617; have p618 : 0 ≤ ((ji16) : Int) := of_decide_eq_true (by first | (with_reducible assumption) | assumption); have q618 : (ji16) < (t614.length : Int) := of_decide_eq_true (by first | (with_reducible assumption) | assumption); obtain ⟨ad618, e618, hx618_0⟩ := Kd.at_int (Kd.R_reads' HO616.out).2.2 (ji16) p618 q618; obtain rfl : ad617 = ad618 := (by injection e618); replace p618 := eq_true p618; replace q618 := eq_true q618)); try go_wp2_with (first | (go_at_call 44; (with_reducible refine (impl_BracketOf.calls kj2 a0_0 t614 _ A12.out).mono ?_); rintro e w20 ⟨v615, rfl, ho0, hb⟩; have HO616 := kl ho0 HB; replace BK611 := kb BK611 hb; replace HB := hs_ HB hb; (try clear hb); (try clear hb2); (try clear hk); (try clear hi); (try clear ho0); obtain ⟨Ao21, co21, eo21⟩ := Kd.R_slice HO616.out; subst eo21; have p617 : 0 ≤ ((ji13) : Int) := of_decide_eq_true (by first | (with_reducible assumption) | assumption); have q617 : (ji13) < (t614.length : Int) := of_decide_eq_true (by first | (with_reducible assumption) | assumption); obtain ⟨ad617, e617, hx617_0⟩ := Kd.at_int (Kd.R_reads' HO616.out).2.2 (ji13) p617 q617; cases e617; replace p617 := eq_true p617; replace q617 := eq_true q617; have p618 : 0 ≤ ((ji16) : Int) := of_decide_eq_true (by first | (with_reducible assumption) | assumption); have q618 : (ji16) < (t614.length : Int) := of_decide_eq_true (by first | (with_reducible assumption) | assumption); obtain ⟨ad618, e618, hx618_0⟩ := Kd.at_int (Kd.R_reads' HO616.out).2.2 (ji16) p618 q618; obtain rfl : ad617 = ad618 := (by injection e618); replace p618 := eq_true p618; replace q618 := eq_true q618)))
                  go_ret3
                  exact ⟨by first | rfl | (simp [errW_none, errW_some] <;> rfl) | (simp only [← hji13, ← hji16]; first | rfl | (simp [errW_none, errW_some] <;> rfl)) | (simp [*, errW_none, errW_some] <;> rfl), bb HB⟩
                · rw [if_neg c18] at H
                  exact absurd H (by simp)
              · rw [if_neg c17] at H
                exact absurd H (by simp)
            · rw [if_neg c15] at H
              exact absurd H (by simp)
          · rw [if_neg c14] at H
            exact absurd H (by simp)
        · rw [if_neg c11] at H
          have c11b0 : decide (a1 < (wrap64 (Int.tdiv a0_0 2))) = false := decide_eq_false c11
          clear c11
          have H' := Aside0.mk H
          clear H
          have ⟨hcz22_0, hcz22_1, hfz22_0, hfz22_1⟩ := rz2 BK611
          go_wp2
          repeat (go_quiet (fail); try go_wp2)
          go_loopg [8, 9, 10] kj2 (fun kq v8 v9 v10 w' => ∃ (x8_2 : Int) (x9_2 : Int) (x10_2 : Int), v8 = .int .i64 x8_2 ∧ v9 = .int .i64 x9_2 ∧ v10 = .int .i64 x10_2 ∧ Aside0 (impl_OpponentsOf.l0 kq a1 x8_2 x9_2 x10_2 a0_0 l0_1 = some (r1, r2, r3)) ∧ Aside0 (kq ≤ kj2) ∧ Aside0 (w'.heap[gb611]? = some (.cells #[.int .i64 a0_0, (.slice A0_1 l0_1.length c0_1)] 66 (0, 0))) ∧ Aside0 (Below w.heap.size w w'))
          case atStart => exact ⟨(0), (wrap64 (Int.tdiv a0_0 2)), (wrap64 (Int.tdiv a0_0 2)), e2_, e2_, e2_, H', ⟨Nat.le_refl _⟩, ⟨bk BK611⟩, ⟨bb HB⟩⟩
          case round =>
            clear H'
            (try clear c1)
            (try clear p2)
            (try clear c6)
            (try clear p6)
            (try clear q6)
            (try clear hx6)
            (try clear c7)
            (try clear c10)
            (try clear c11)
            (try clear c11b0)
            (try clear c14)
            (try clear c14b0)
            (try clear c15)
            (try clear c15b0)
            (try clear c17)
            (try clear c17b0)
            (try clear c18)
            (try clear c18b0)
            (try clear hcz19_0 hcz19_1)
            (try clear hcz22_0 hcz22_1)
            (try clear hcz8_0 hcz8_1)
            (try clear hcz9_0 hcz9_1)
            (try clear hfz19_0 hfz19_1)
            (try clear hfz22_0 hfz22_1)
            (try clear hfz8_0 hfz8_1)
            (try clear hfz9_0 hfz9_1)
            (try clear hx617_0)
            (try clear hx618_0)
            (try clear p2)
            (try clear p6)
            (try clear p617)
            (try clear p618)
            (try clear q617)
            (try clear q618)
            obtain ⟨x8_2, x9_2, x10_2, rfl, rfl, rfl, HA, HK2, BK611, HB⟩ := hrel
            cases gk with
            | zero => exact absurd HA.out (by simp [impl_OpponentsOf.l0])
            | succ k2 =>
              have H := HA.out
              clear HA
              simp only [impl_OpponentsOf.l0] at H
              by_cases c23 : a1 ≥ (wrap64 (x9_2 + (wrap64 (Int.tdiv x10_2 2))))
              · rw [if_pos c23] at H
                have c23b0 : decide ((wrap64 (x9_2 + (wrap64 (Int.tdiv x10_2 2)))) ≤ a1) = true := decide_eq_true c23
                clear c23
                have H' := Aside0.mk H
                clear H
                go_wp2
                repeat (go_quiet (fail); try go_wp2)
                go_roundg k2
                case measure => have := HJ2.out; have := HK2.out; omega
                case rel => exact ⟨(x9_2), (wrap64 (x9_2 + (wrap64 (Int.tdiv x10_2 2)))), (wrap64 (Int.tdiv x10_2 2)), e2_, e2_, e2_, H', ⟨by have := HJ2.out; have := HK2.out; omega⟩, ⟨bk BK611⟩, ⟨bb HB⟩⟩
              · rw [if_neg c23] at H
                have c23b0 : decide ((wrap64 (x9_2 + (wrap64 (Int.tdiv x10_2 2)))) ≤ a1) = false := decide_eq_false c23
                clear c23
                by_cases c24 : (wrap64 ((wrap64 (x8_2 + (wrap64 (2 * (wrap64 (a1 - x9_2)))))) + 1)) ≥ (l0_1.length : Int)
                · rw [if_pos c24] at H
                  have c24b0 : decide ((l0_1.length : Int) ≤ (wrap64 ((wrap64 (x8_2 + (wrap64 (2 * (wrap64 (a1 - x9_2)))))) + 1))) = true := decide_eq_true c24
                  clear c24
                  simp only [Option.some.injEq, Prod.mk.injEq] at H
                  obtain ⟨rfl, rfl, rfl⟩ := H
                  have ⟨hcz25_0, hcz25_1, hfz25_0, hfz25_1⟩ := rz2 BK611
                  go_wp2
                  repeat (go_quiet (fail); try go_wp2)
                  go_ret3
                  exact ⟨ee, bb HB⟩
                · rw [if_neg c24] at H
                  have c24b0 : decide ((l0_1.length : Int) ≤ (wrap64 ((wrap64 (x8_2 + (wrap64 (2 * (wrap64 (a1 - x9_2)))))) + 1))) = false := decide_eq_false c24
                  clear c24
                  obtain ⟨ji26, hji26⟩ : ∃ j_ : Int, (wrap64 (x8_2 + (wrap64 (2 * (wrap64 (a1 - x9_2)))))) = j_ := ⟨_, rfl⟩
                  replace H : (if 0 ≤ (ji26) then (if (ji26) < (l0_1.length : Int) then (if 0 ≤ (wrap64 ((ji26) + 1)) then (if (wrap64 ((ji26) + 1)) < (l0_1.length : Int) then (some (rd l0_1 (ji26), rd l0_1 (wrap64 ((ji26) + 1)), true)) else (none)) else (none)) else (none)) else (none)) = some (r1, r2, r3) := by first | (rw [hji26] at H; exact H) | (simp only [hji26] at H ⊢; exact H)
                  (try rw [hji26] at c24b0)
                  have hji26w : (IntKind.i64.wrap (x8_2 + (wrap64 (2 * (wrap64 (a1 - x9_2)))))) = ji26 := (i64_w _).trans hji26
                  by_cases c27 : 0 ≤ (ji26)
                  · rw [if_pos c27] at H
                    have c27b0 : decide (0 ≤ (ji26)) = true := decide_eq_true c27
                    clear c27
                    by_cases c28 : (ji26) < (l0_1.length : Int)
                    · rw [if_pos c28] at H
                      have c28b0 : decide ((ji26) < (l0_1.length : Int)) = true := decide_eq_true c28
                      clear c28
                      obtain ⟨ji29, hji29⟩ : ∃ j_ : Int, (wrap64 ((ji26) + 1)) = j_ := ⟨_, rfl⟩
                      replace H : (if 0 ≤ (ji29) then (if (ji29) < (l0_1.length : Int) then (some (rd l0_1 (ji26), rd l0_1 (ji29), true)) else (none)) else (none)) = some (r1, r2, r3) := by first | (rw [hji29] at H; exact H) | (simp only [hji29] at H ⊢; exact H)
                      have hji29w : (IntKind.i64.wrap ((ji26) + 1)) = ji29 := (i64_w _).trans hji29
                      (try rw [hji29] at c23b0)
                      (try rw [hji29] at c24b0)
                      by_cases c30 : 0 ≤ (ji29)
                      · rw [if_pos c30] at H
                        have c30b0 : decide (0 ≤ (ji29)) = true := decide_eq_true c30
                        clear c30
                        by_cases c31 : (ji29) < (l0_1.length : Int)
                        · rw [if_pos c31] at H
                          have c31b0 : decide ((ji29) < (l0_1.length : Int)) = true := decide_eq_true c31
                          clear c31
                          simp only [Option.some.injEq, Prod.mk.injEq] at H
                          obtain ⟨rfl, rfl, rfl⟩ := H
                          have ⟨hcz32_0, hcz32_1, hfz32_0, hfz32_1⟩ := rz2 BK611
                          have p619 : 0 ≤ ((ji26) : Int) := of_decide_eq_true (by first | (with_reducible assumption) | assumption)
                          have q619 : (ji26) < (l0_1.length : Int) := of_decide_eq_true (by first | (with_reducible assumption) | assumption)
                          obtain ⟨ad619, e619, hx619_0⟩ := Kd.at_int HR0_1.out (ji26) p619 q619
                          cases e619
                          replace hx619_0 := (HB.out.cell (World.block_lt_of_cell? w _ hx619_0)).trans hx619_0
                          replace p619 := eq_true p619
                          replace q619 := eq_true q619
                          have p620 : 0 ≤ ((ji29) : Int) := of_decide_eq_true (by first | (with_reducible assumption) | assumption)
                          have q620 : (ji29) < (l0_1.length : Int) := of_decide_eq_true (by first | (with_reducible assumption) | assumption)
                          obtain ⟨ad620, e620, hx620_0⟩ := Kd.at_int HR0_1.out (ji29) p620 q620
                          obtain rfl : ad619 = ad620 := (by injection e620)
                          replace hx620_0 := (HB.out.cell (World.block_lt_of_cell? w _ hx620_0)).trans hx620_0
                          replace p620 := eq_true p620
                          replace q620 := eq_true q620
                          go_wp2
                          repeat (go_quiet (fail); try go_wp2)
                          go_ret3
                          exact ⟨by first | rfl | (simp [errW_none, errW_some] <;> rfl) | (simp only [← hji26, ← hji29]; first | rfl | (simp [errW_none, errW_some] <;> rfl)) | (simp [*, errW_none, errW_some] <;> rfl), bb HB⟩
                        · rw [if_neg c31] at H
                          exact absurd H (by simp)
                      · rw [if_neg c30] at H
                        exact absurd H (by simp)
                    · rw [if_neg c28] at H
                      exact absurd H (by simp)
                  · rw [if_neg c27] at H
                    exact absurd H (by simp)
end Go.Proofs.YtibmeomlokigjaaDoor.Q
end
namespace Go.Proofs.YtibmeomlokigjaaDoor.Q
open Go.RowKit Go.Proofs.YtibmeomlokigjaaDoorW.PrintWords Go.Proofs.YtibmeomlokigjaaDoorW.PrintLast Go.Proofs.YtibmeomlokigjaaDoorW.PrintMore
attribute [local go_sem] max2_int min2_int max_two min_two max_three min_three max_four min_four
set_option linter.unusedVariables false
set_option linter.unusedSimpArgs false
def impl_CupOk.l0 : Nat → List Int → Int → Int → Int → List Int → Option (Bool)
  | 0, _, _, _, _, _ => none
  | k + 1, x9, x10, x11, x622000, x622001 => if x11 < x10 then (if 0 ≤ x11 then (if x11 < (x9.length : Int) then ((impl_OpponentsOf.f k x622000 x622001 x11).bind fun bt623 => (if bt623.2.2 = true then (if (rd x9 x11) = bt623.1 then (impl_CupOk.l0 k x9 x10 (wrap64 (x11 + 1)) x622000 x622001) else (if (rd x9 x11) = bt623.2.1 then (impl_CupOk.l0 k x9 x10 (wrap64 (x11 + 1)) x622000 x622001) else (some false))) else (some false))) else (none)) else (none)) else ((impl_CupSizeOk.f x622000).bind fun t626 => (some t626))
def impl_CupOk.f (k : Nat) (a0_0 : Int) (l0_1 : List Int) : Option (Bool) := impl_CupOk.l0 k l0_1 (l0_1.length : Int) 0 a0_0 l0_1
set_option maxHeartbeats 8000000 in
set_option maxRecDepth 100000 in
theorem impl_CupOk.calls (k : Nat) (a0_0 : Int) (A0_1 : Option Addr) (c0_1 : Nat) (l0_1 : List Int) (r : Bool) (w : World) (hr0_1 : Kd.C (Kd.int .i64) w A0_1 l0_1.length l0_1) (hc0_1 : l0_1.length ≤ c0_1) (h : impl_CupOk.f k a0_0 l0_1 = some r) :
    Calls Tryd.prog 40 #[.agg #[.int .i64 a0_0, .slice A0_1 l0_1.length c0_1]] w fun e w' => e = .returned (.bool r) ∧ Below w.heap.size w w' := by
  have hu66 := Tryd.underlying66
  have HR0_1 := Aside0.mk hr0_1
  have HC0_1 := Aside0.mk hc0_1
  clear hr0_1 hc0_1
  have HB := Aside0.mk (Below.refl w.heap.size w)
  have H : (impl_CupOk.l0 k l0_1 (l0_1.length : Int) 0 a0_0 l0_1) = some r := h
  clear h
  have H' := Aside0.mk H
  clear H
  go_enter Tryd.func40, Tryd.ntmps40
  go_wp2_with (first | ((with_reducible refine gate_dst (N := 1) rfl ?_); refine bx (N := 1) (cs := #[.int .i64 a0_0, .slice A0_1 l0_1.length c0_1]) (t := 66) ?_; intro gb621 hg w2 hbox hb; have BK621 := Aside0.mk (hbox); have GW621 := gs hg HB; have GE621 := gs hg HB; replace HB := hs_ HB hb; clear hb hbox hg; have ⟨hcz3_0, hcz3_1, hfz3_0, hfz3_1⟩ := rz2 BK621))
  go_loopg [11] k (fun kq v11 w' => ∃ (x11_1 : Int), v11 = .int .i64 x11_1 ∧ Aside0 (impl_CupOk.l0 kq l0_1 (l0_1.length : Int) x11_1 a0_0 l0_1 = some r) ∧ Aside0 (kq ≤ k) ∧ Aside0 (w'.heap[gb621]? = some (.cells #[.int .i64 a0_0, (.slice A0_1 l0_1.length c0_1)] 66 (0, 0))) ∧ Aside0 (Below w.heap.size w w'))
  case atStart => exact ⟨(0), e2_, H', ⟨Nat.le_refl _⟩, ⟨bk BK621⟩, ⟨bb HB⟩⟩
  case round =>
    clear H'
    (try clear p2)
    (try clear hcz3_0 hcz3_1)
    (try clear hfz3_0 hfz3_1)
    obtain ⟨x11_1, rfl, HA, HK1, BK621, HB⟩ := hrel
    cases gk with
    | zero => exact absurd HA.out (by simp [impl_CupOk.l0])
    | succ k1 =>
      have H := HA.out
      clear HA
      simp only [impl_CupOk.l0] at H
      by_cases c4 : x11_1 < (l0_1.length : Int)
      · rw [if_pos c4] at H
        have c4b0 : decide (x11_1 < (l0_1.length : Int)) = true := decide_eq_true c4
        clear c4
        by_cases c5 : 0 ≤ x11_1
        · rw [if_pos c5] at H
          have c5b0 : decide (0 ≤ x11_1) = true := decide_eq_true c5
          clear c5
          by_cases c6 : x11_1 < (l0_1.length : Int)
          · rw [if_pos c6] at H
            have c6b0 : decide (x11_1 < (l0_1.length : Int)) = true := decide_eq_true c6
            clear c6
            replace H := Option.bind_eq_some_iff.mp H
            obtain ⟨⟨t623, t624, t625⟩, A70, H⟩ := H
            replace H : (if t625 = true then (if (rd l0_1 x11_1) = t623 then (impl_CupOk.l0 k1 l0_1 (l0_1.length : Int) (wrap64 (x11_1 + 1)) a0_0 l0_1) else (if (rd l0_1 x11_1) = t624 then (impl_CupOk.l0 k1 l0_1 (l0_1.length : Int) (wrap64 (x11_1 + 1)) a0_0 l0_1) else (some false))) else (some false)) = some r := H
            have A7 := Aside0.mk A70
            clear A70
            by_cases c8 : t625 = true
            · subst c8
              have H1 : (if (rd l0_1 x11_1) = t623 then (impl_CupOk.l0 k1 l0_1 (l0_1.length : Int) (wrap64 (x11_1 + 1)) a0_0 l0_1) else (if (rd l0_1 x11_1) = t624 then (impl_CupOk.l0 k1 l0_1 (l0_1.length : Int) (wrap64 (x11_1 + 1)) a0_0 l0_1) else (some false))) = some r := by rw [if_pos rfl] at H; exact H
              clear H
              have H := H1
              clear H1
              by_cases c9 : (rd l0_1 x11_1) = t623
              · rw [if_pos c9] at H
                have c9b0 : ((rd l0_1 x11_1) == t623) = true := beq_iff_eq.mpr c9
                have c9b1 : ((rd l0_1 x11_1) != t623) = false := bne_eq_false_iff_eq.mpr c9
                clear c9
                have H' := Aside0.mk H
                clear H
                have p622 : 0 ≤ (x11_1 : Int) := of_decide_eq_true (by first | (with_reducible assumption) | assumption)
                have q622 : x11_1 < (l0_1.length : Int) := of_decide_eq_true (by first | (with_reducible assumption) | assumption)
                obtain ⟨ad622, e622, hx622_0⟩ := Kd.at_int HR0_1.out x11_1 p622 q622
                cases e622
                replace hx622_0 := (HB.out.cell (World.block_lt_of_cell? w _ hx622_0)).trans hx622_0
                replace p622 := eq_true p622
                replace q622 := eq_true q622
                have ⟨hcz10_0, hcz10_1, hfz10_0, hfz10_1⟩ := rz2 BK621
                go_wp2_with (first | ((with_reducible refine gate_callee (f := 74) rfl ?_); refine gl (some 19) Tryd.func74 #[.agg #[.int .i64 a0_0, .slice (some ad622) l0_1.length c0_1], .int .i64 x11_1] ?_; (with_reducible refine (impl_OpponentsOf.calls k1 a0_0 _ _ l0_1 x11_1 t623 t624 true _ ?side1 ?side2 A7.out).mono ?_); (case side1 => exact cc HR0_1 HB); (case side2 => exact HC0_1.out); rintro e w11 ⟨rfl, hb⟩; refine ⟨_, rfl, ?_⟩; replace BK621 := kb BK621 hb; replace HB := hs_ HB hb; (try clear hb); (try clear hb2); (try clear hk); (try clear hi)))
                go_roundg k1
                case measure => have := HK1.out; omega
                case rel => exact ⟨(wrap64 (x11_1 + 1)), e2_, H', ⟨by have := HK1.out; omega⟩, ⟨bk BK621⟩, ⟨bb HB⟩⟩
              · rw [if_neg c9] at H
                have c9b0 : ((rd l0_1 x11_1) == t623) = false := beq_eq_false_iff_ne.mpr c9
                have c9b1 : ((rd l0_1 x11_1) != t623) = true := bne_iff_ne.mpr c9
                by_cases c12 : (rd l0_1 x11_1) = t624
                · rw [if_pos c12] at H
                  have c12b0 : ((rd l0_1 x11_1) == t624) = true := beq_iff_eq.mpr c12
                  have c12b1 : ((rd l0_1 x11_1) != t624) = false := bne_eq_false_iff_eq.mpr c12
                  clear c12
                  have H' := Aside0.mk H
                  clear H
                  have p622 : 0 ≤ (x11_1 : Int) := of_decide_eq_true (by first | (with_reducible assumption) | assumption)
                  have q622 : x11_1 < (l0_1.length : Int) := of_decide_eq_true (by first | (with_reducible assumption) | assumption)
                  obtain ⟨ad622, e622, hx622_0⟩ := Kd.at_int HR0_1.out x11_1 p622 q622
                  cases e622
                  replace hx622_0 := (HB.out.cell (World.block_lt_of_cell? w _ hx622_0)).trans hx622_0
                  replace p622 := eq_true p622
                  replace q622 := eq_true q622
                  have ⟨hcz13_0, hcz13_1, hfz13_0, hfz13_1⟩ := rz2 BK621
                  go_wp2_with (first | ((with_reducible refine gate_callee (f := 74) rfl ?_); refine gl (some 19) Tryd.func74 #[.agg #[.int .i64 a0_0, .slice (some ad622) l0_1.length c0_1], .int .i64 x11_1] ?_; (with_reducible refine (impl_OpponentsOf.calls k1 a0_0 _ _ l0_1 x11_1 t623 t624 true _ ?side1 ?side2 A7.out).mono ?_); (case side1 => exact cc HR0_1 HB); (case side2 => exact HC0_1.out); rintro e w14 ⟨rfl, hb⟩; refine ⟨_, rfl, ?_⟩; replace BK621 := kb BK621 hb; replace HB := hs_ HB hb; (try clear hb); (try clear hb2); (try clear hk); (try clear hi)))
                  go_roundg k1
                  case measure => have := HK1.out; omega
                  case rel => exact ⟨(wrap64 (x11_1 + 1)), e2_, H', ⟨by have := HK1.out; omega⟩, ⟨bk BK621⟩, ⟨bb HB⟩⟩
                · rw [if_neg c12] at H
                  have c12b0 : ((rd l0_1 x11_1) == t624) = false := beq_eq_false_iff_ne.mpr c12
                  have c12b1 : ((rd l0_1 x11_1) != t624) = true := bne_iff_ne.mpr c12
                  obtain rfl := Option.some.inj H
                  have p622 : 0 ≤ (x11_1 : Int) := of_decide_eq_true (by first | (with_reducible assumption) | assumption)
                  have q622 : x11_1 < (l0_1.length : Int) := of_decide_eq_true (by first | (with_reducible assumption) | assumption)
                  obtain ⟨ad622, e622, hx622_0⟩ := Kd.at_int HR0_1.out x11_1 p622 q622
                  cases e622
                  replace hx622_0 := (HB.out.cell (World.block_lt_of_cell? w _ hx622_0)).trans hx622_0
                  replace p622 := eq_true p622
                  replace q622 := eq_true q622
                  have ⟨hcz15_0, hcz15_1, hfz15_0, hfz15_1⟩ := rz2 BK621
                  go_wp2_with (first | ((with_reducible refine gate_callee (f := 74) rfl ?_); refine gl (some 19) Tryd.func74 #[.agg #[.int .i64 a0_0, .slice (some ad622) l0_1.length c0_1], .int .i64 x11_1] ?_; (with_reducible refine (impl_OpponentsOf.calls k1 a0_0 _ _ l0_1 x11_1 t623 t624 true _ ?side1 ?side2 A7.out).mono ?_); (case side1 => exact cc HR0_1 HB); (case side2 => exact HC0_1.out); rintro e w16 ⟨rfl, hb⟩; refine ⟨_, rfl, ?_⟩; replace BK621 := kb BK621 hb; replace HB := hs_ HB hb; (try clear hb); (try clear hb2); (try clear hk); (try clear hi)))
                  go_ret
                  exact ⟨ee, bb HB⟩
            · replace c8 := Bool.eq_false_iff.mpr c8
              subst c8
              have H1 : (some false) = some r := by rw [if_neg (show ¬ (false = true) by decide)] at H; exact H
              clear H
              have H := H1
              clear H1
              obtain rfl := Option.some.inj H
              have p622 : 0 ≤ (x11_1 : Int) := of_decide_eq_true (by first | (with_reducible assumption) | assumption)
              have q622 : x11_1 < (l0_1.length : Int) := of_decide_eq_true (by first | (with_reducible assumption) | assumption)
              obtain ⟨ad622, e622, hx622_0⟩ := Kd.at_int HR0_1.out x11_1 p622 q622
              cases e622
              replace hx622_0 := (HB.out.cell (World.block_lt_of_cell? w _ hx622_0)).trans hx622_0
              replace p622 := eq_true p622
              replace q622 := eq_true q622
              have ⟨hcz17_0, hcz17_1, hfz17_0, hfz17_1⟩ := rz2 BK621
              go_wp2_with (first | ((with_reducible refine gate_callee (f := 74) rfl ?_); refine gl (some 19) Tryd.func74 #[.agg #[.int .i64 a0_0, .slice (some ad622) l0_1.length c0_1], .int .i64 x11_1] ?_; (with_reducible refine (impl_OpponentsOf.calls k1 a0_0 _ _ l0_1 x11_1 t623 t624 false _ ?side1 ?side2 A7.out).mono ?_); (case side1 => exact cc HR0_1 HB); (case side2 => exact HC0_1.out); rintro e w18 ⟨rfl, hb⟩; refine ⟨_, rfl, ?_⟩; replace BK621 := kb BK621 hb; replace HB := hs_ HB hb; (try clear hb); (try clear hb2); (try clear hk); (try clear hi)))
              go_ret
              exact ⟨ee, bb HB⟩
          · rw [if_neg c6] at H
            exact absurd H (by simp)
        · rw [if_neg c5] at H
          exact absurd H (by simp)
      · rw [if_neg c4] at H
        have c4b0 : decide (x11_1 < (l0_1.length : Int)) = false := decide_eq_false c4
        clear c4
        replace H := Option.bind_eq_some_iff.mp H
        obtain ⟨t626, A190, H⟩ := H
        replace H : (some t626) = some r := H
        have A19 := Aside0.mk A190
        clear A190
        obtain rfl := Option.some.inj H
        have ⟨hcz20_0, hcz20_1, hfz20_0, hfz20_1⟩ := rz2 BK621
        go_wp2_with (first | ((with_reducible refine gate_callee (f := 41) rfl ?_); refine gl (some 38) Tryd.func41 #[.int .i64 a0_0] ?_; (with_reducible refine (impl_CupSizeOk.calls a0_0 t626 _ A19.out).mono ?_); rintro e w' ⟨rfl, ⟨nd, rfl⟩⟩; refine ⟨_, rfl, ?_⟩))
        go_ret
        exact ⟨ee, bb HB⟩
end Go.Proofs.YtibmeomlokigjaaDoor.Q
namespace Go.Proofs.YtibmeomlokigjaaDoor.Q
open Go.RowKit Go.Proofs.YtibmeomlokigjaaDoorW.PrintWords Go.Proofs.YtibmeomlokigjaaDoorW.PrintLast Go.Proofs.YtibmeomlokigjaaDoorW.PrintMore
attribute [local go_sem] max2_int min2_int max_two min_two max_three min_three max_four min_four
set_option linter.unusedVariables false
set_option linter.unusedSimpArgs false
def impl_ChampionOf.f (k : Nat) (a0_0 : Int) (l0_1 : List Int) : Option (Int) := (impl_CupOk.f k a0_0 l0_1).bind fun t628 => (if t628 = true then (if (l0_1.length : Int) = (wrap64 (a0_0 - 1)) then (if 0 ≤ (wrap64 (a0_0 - 2)) then (if (wrap64 (a0_0 - 2)) < (l0_1.length : Int) then (some (rd l0_1 (wrap64 (a0_0 - 2)))) else (none)) else (none)) else (some 0)) else (some 0))
set_option maxHeartbeats 8000000 in
set_option maxRecDepth 100000 in
theorem impl_ChampionOf.calls (k : Nat) (a0_0 : Int) (A0_1 : Option Addr) (c0_1 : Nat) (l0_1 : List Int) (r : Int) (w : World) (hr0_1 : Kd.C (Kd.int .i64) w A0_1 l0_1.length l0_1) (hc0_1 : l0_1.length ≤ c0_1) (h : impl_ChampionOf.f k a0_0 l0_1 = some r) :
    Calls Tryd.prog 45 #[.agg #[.int .i64 a0_0, .slice A0_1 l0_1.length c0_1]] w fun e w' => e = .returned (.int .i64 r) ∧ Below w.heap.size w w' := by
  have hu66 := Tryd.underlying66
  have HR0_1 := Aside0.mk hr0_1
  have HC0_1 := Aside0.mk hc0_1
  clear hr0_1 hc0_1
  have HB := Aside0.mk (Below.refl w.heap.size w)
  have H : ((impl_CupOk.f k a0_0 l0_1).bind fun t628 => (if t628 = true then (if (l0_1.length : Int) = (wrap64 (a0_0 - 1)) then (if 0 ≤ (wrap64 (a0_0 - 2)) then (if (wrap64 (a0_0 - 2)) < (l0_1.length : Int) then (some (rd l0_1 (wrap64 (a0_0 - 2)))) else (none)) else (none)) else (some 0)) else (some 0))) = some r := h
  clear h
  replace H := Option.bind_eq_some_iff.mp H
  obtain ⟨t628, A20, H⟩ := H
  replace H : (if t628 = true then (if (l0_1.length : Int) = (wrap64 (a0_0 - 1)) then (if 0 ≤ (wrap64 (a0_0 - 2)) then (if (wrap64 (a0_0 - 2)) < (l0_1.length : Int) then (some (rd l0_1 (wrap64 (a0_0 - 2)))) else (none)) else (none)) else (some 0)) else (some 0)) = some r := H
  have A2 := Aside0.mk A20
  clear A20
  by_cases c3 : t628 = true
  · subst c3
    have H1 : (if (l0_1.length : Int) = (wrap64 (a0_0 - 1)) then (if 0 ≤ (wrap64 (a0_0 - 2)) then (if (wrap64 (a0_0 - 2)) < (l0_1.length : Int) then (some (rd l0_1 (wrap64 (a0_0 - 2)))) else (none)) else (none)) else (some 0)) = some r := by rw [if_pos rfl] at H; exact H
    clear H
    have H := H1
    clear H1
    by_cases c4 : (l0_1.length : Int) = (wrap64 (a0_0 - 1))
    · rw [if_pos c4] at H
      have c4b0 : ((l0_1.length : Int) == (wrap64 (a0_0 - 1))) = true := beq_iff_eq.mpr c4
      have c4b1 : ((l0_1.length : Int) != (wrap64 (a0_0 - 1))) = false := bne_eq_false_iff_eq.mpr c4
      clear c4
      obtain ⟨ji5, hji5⟩ : ∃ j_ : Int, (wrap64 (a0_0 - 2)) = j_ := ⟨_, rfl⟩
      replace H : (if 0 ≤ (ji5) then (if (ji5) < (l0_1.length : Int) then (some (rd l0_1 (ji5))) else (none)) else (none)) = some r := by first | (rw [hji5] at H; exact H) | (simp only [hji5] at H ⊢; exact H)
      (try rw [hji5] at A2)
      have hji5w : (IntKind.i64.wrap (a0_0 - 2)) = ji5 := (i64_w _).trans hji5
      by_cases c6 : 0 ≤ (ji5)
      · rw [if_pos c6] at H
        have c6b0 : decide (0 ≤ (ji5)) = true := decide_eq_true c6
        clear c6
        by_cases c7 : (ji5) < (l0_1.length : Int)
        · rw [if_pos c7] at H
          have c7b0 : decide ((ji5) < (l0_1.length : Int)) = true := decide_eq_true c7
          clear c7
          obtain rfl := Option.some.inj H
          go_enter Tryd.func45, Tryd.ntmps45
          go_wp2_with (first | ((with_reducible refine gate_dst (N := 1) rfl ?_); (try (refine gate_guard (by rfl) ?_; dsimp only)); refine bx (N := 1) (cs := #[.int .i64 a0_0, .slice A0_1 l0_1.length c0_1]) (t := 66) ?_; intro gb627 hg w8 hbox hb; have BK627 := Aside0.mk (hbox); have GW627 := gs hg HB; have GE627 := gs hg HB; replace HB := hs_ HB hb; clear hb hbox hg; have ⟨hcz9_0, hcz9_1, hfz9_0, hfz9_1⟩ := rz2 BK627) | ((with_reducible refine gate_callee (f := 40) rfl ?_); refine gl (some 4) Tryd.func40 #[.agg #[.int .i64 a0_0, .slice A0_1 l0_1.length c0_1]] ?_; (with_reducible refine (impl_CupOk.calls k a0_0 _ _ l0_1 true _ ?side1 ?side2 A2.out).mono ?_); (case side1 => exact cc HR0_1 HB); (case side2 => exact HC0_1.out); rintro e w10 ⟨rfl, hb⟩; refine ⟨_, rfl, ?_⟩; replace BK627 := kb BK627 hb; replace HB := hs_ HB hb; (try clear hb); (try clear hb2); (try clear hk); (try clear hi); have ⟨hcz11_0, hcz11_1, hfz11_0, hfz11_1⟩ := rz2 BK627; have p629 : 0 ≤ ((ji5) : Int) := of_decide_eq_true (by first | (with_reducible assumption) | assumption); have q629 : (ji5) < (l0_1.length : Int) := of_decide_eq_true (by first | (with_reducible assumption) | assumption); obtain ⟨ad629, e629, hx629_0⟩ := Kd.at_int HR0_1.out (ji5) p629 q629; cases e629; replace hx629_0 := (HB.out.cell (World.block_lt_of_cell? w _ hx629_0)).trans hx629_0; replace p629 := eq_true p629; replace q629 := eq_true q629))
          go_ret
          exact ⟨by first | rfl | (simp [errW_none, errW_some] <;> rfl) | (simp only [← hji5]; first | rfl | (simp [errW_none, errW_some] <;> rfl)) | (simp [*, errW_none, errW_some] <;> rfl), bb HB⟩
        · rw [if_neg c7] at H
          exact absurd H (by simp)
      · rw [if_neg c6] at H
        exact absurd H (by simp)
    · rw [if_neg c4] at H
      have c4b0 : ((l0_1.length : Int) == (wrap64 (a0_0 - 1))) = false := beq_eq_false_iff_ne.mpr c4
      have c4b1 : ((l0_1.length : Int) != (wrap64 (a0_0 - 1))) = true := bne_iff_ne.mpr c4
      obtain rfl := Option.some.inj H
      go_enter Tryd.func45, Tryd.ntmps45
      go_wp2_with (first | ((with_reducible refine gate_dst (N := 1) rfl ?_); (try (refine gate_guard (by rfl) ?_; dsimp only)); refine bx (N := 1) (cs := #[.int .i64 a0_0, .slice A0_1 l0_1.length c0_1]) (t := 66) ?_; intro gb627 hg w12 hbox hb; have BK627 := Aside0.mk (hbox); have GW627 := gs hg HB; have GE627 := gs hg HB; replace HB := hs_ HB hb; clear hb hbox hg; have ⟨hcz13_0, hcz13_1, hfz13_0, hfz13_1⟩ := rz2 BK627) | ((with_reducible refine gate_callee (f := 40) rfl ?_); refine gl (some 4) Tryd.func40 #[.agg #[.int .i64 a0_0, .slice A0_1 l0_1.length c0_1]] ?_; (with_reducible refine (impl_CupOk.calls k a0_0 _ _ l0_1 true _ ?side1 ?side2 A2.out).mono ?_); (case side1 => exact cc HR0_1 HB); (case side2 => exact HC0_1.out); rintro e w14 ⟨rfl, hb⟩; refine ⟨_, rfl, ?_⟩; replace BK627 := kb BK627 hb; replace HB := hs_ HB hb; (try clear hb); (try clear hb2); (try clear hk); (try clear hi); have ⟨hcz15_0, hcz15_1, hfz15_0, hfz15_1⟩ := rz2 BK627))
      go_ret
      exact ⟨ee, bb HB⟩
  · replace c3 := Bool.eq_false_iff.mpr c3
    subst c3
    have H1 : (some 0) = some r := by rw [if_neg (show ¬ (false = true) by decide)] at H; exact H
    clear H
    have H := H1
    clear H1
    obtain rfl := Option.some.inj H
    go_enter Tryd.func45, Tryd.ntmps45
    go_wp2_with (first | ((with_reducible refine gate_dst (N := 1) rfl ?_); (try (refine gate_guard (by rfl) ?_; dsimp only)); refine bx (N := 1) (cs := #[.int .i64 a0_0, .slice A0_1 l0_1.length c0_1]) (t := 66) ?_; intro gb627 hg w16 hbox hb; have BK627 := Aside0.mk (hbox); have GW627 := gs hg HB; have GE627 := gs hg HB; replace HB := hs_ HB hb; clear hb hbox hg; have ⟨hcz17_0, hcz17_1, hfz17_0, hfz17_1⟩ := rz2 BK627) | ((with_reducible refine gate_callee (f := 40) rfl ?_); refine gl (some 4) Tryd.func40 #[.agg #[.int .i64 a0_0, .slice A0_1 l0_1.length c0_1]] ?_; (with_reducible refine (impl_CupOk.calls k a0_0 _ _ l0_1 false _ ?side1 ?side2 A2.out).mono ?_); (case side1 => exact cc HR0_1 HB); (case side2 => exact HC0_1.out); rintro e w18 ⟨rfl, hb⟩; refine ⟨_, rfl, ?_⟩; replace BK627 := kb BK627 hb; replace HB := hs_ HB hb; (try clear hb); (try clear hb2); (try clear hk); (try clear hi)))
    go_ret
    exact ⟨ee, bb HB⟩
end Go.Proofs.YtibmeomlokigjaaDoor.Q
namespace Go.Proofs.YtibmeomlokigjaaDoor.Q
open Go.RowKit Go.Proofs.YtibmeomlokigjaaDoorW.PrintWords Go.Proofs.YtibmeomlokigjaaDoorW.PrintLast Go.Proofs.YtibmeomlokigjaaDoorW.PrintMore
attribute [local go_sem] max2_int min2_int max_two min_two max_three min_three max_four min_four
set_option linter.unusedVariables false
set_option linter.unusedSimpArgs false
def impl_CupLine.j0 : Nat → ByteArray → Int → List Int → Option (ByteArray)
  | 0, _, _, _ => none
  | k + 1, x3, x631000, x631001 => (impl_ChampionOf.f k x631000 x631001).bind fun t636 => (if t636 > 0 then ((impl_FormatInt.f t636).bind fun t637 => (if 10 + t637.size ≤ 9223372036854775807 then (if x3.size + ((⟨#[32, 99, 104, 97, 109, 112, 105, 111, 110, 32]⟩ : ByteArray) ++ t637).size ≤ 9223372036854775807 then (some (x3 ++ ((⟨#[32, 99, 104, 97, 109, 112, 105, 111, 110, 32]⟩ : ByteArray) ++ t637))) else (none)) else (none))) else (some x3))
def impl_CupLine.f (k : Nat) (a0_0 : Int) (l0_1 : List Int) : Option (ByteArray) := (impl_CupOk.f k a0_0 l0_1).bind fun t631 => (if t631 = true then (if (l0_1.length : Int) > 0 then ((impl_texts.f k l0_1).bind fun t632 => ((impl_Join.f t632 (⟨#[32]⟩ : ByteArray)).bind fun t635 => (impl_CupLine.j0 k t635 a0_0 l0_1))) else (impl_CupLine.j0 k (⟨#[110, 111, 110, 101]⟩ : ByteArray) a0_0 l0_1)) else (some (⟨#[]⟩ : ByteArray)))
set_option maxHeartbeats 8000000 in
set_option maxRecDepth 100000 in
theorem impl_CupLine.calls (k : Nat) (a0_0 : Int) (A0_1 : Option Addr) (c0_1 : Nat) (l0_1 : List Int) (r : ByteArray) (w : World) (hr0_1 : Kd.C (Kd.int .i64) w A0_1 l0_1.length l0_1) (hc0_1 : l0_1.length ≤ c0_1) (h : impl_CupLine.f k a0_0 l0_1 = some r) :
    Calls Tryd.prog 37 #[.agg #[.int .i64 a0_0, .slice A0_1 l0_1.length c0_1]] w fun e w' => e = .returned (.string r) ∧ Below w.heap.size w w' := by
  have hu66 := Tryd.underlying66
  have HR0_1 := Aside0.mk hr0_1
  have HC0_1 := Aside0.mk hc0_1
  clear hr0_1 hc0_1
  have HB := Aside0.mk (Below.refl w.heap.size w)
  have H : ((impl_CupOk.f k a0_0 l0_1).bind fun t631 => (if t631 = true then (if (l0_1.length : Int) > 0 then ((impl_texts.f k l0_1).bind fun t632 => ((impl_Join.f t632 (⟨#[32]⟩ : ByteArray)).bind fun t635 => (impl_CupLine.j0 k t635 a0_0 l0_1))) else (impl_CupLine.j0 k (⟨#[110, 111, 110, 101]⟩ : ByteArray) a0_0 l0_1)) else (some (⟨#[]⟩ : ByteArray)))) = some r := h
  clear h
  replace H := Option.bind_eq_some_iff.mp H
  obtain ⟨t631, A20, H⟩ := H
  replace H : (if t631 = true then (if (l0_1.length : Int) > 0 then ((impl_texts.f k l0_1).bind fun t632 => ((impl_Join.f t632 (⟨#[32]⟩ : ByteArray)).bind fun t635 => (impl_CupLine.j0 k t635 a0_0 l0_1))) else (impl_CupLine.j0 k (⟨#[110, 111, 110, 101]⟩ : ByteArray) a0_0 l0_1)) else (some (⟨#[]⟩ : ByteArray))) = some r := H
  have A2 := Aside0.mk A20
  clear A20
  by_cases c3 : t631 = true
  · subst c3
    have H1 : (if (l0_1.length : Int) > 0 then ((impl_texts.f k l0_1).bind fun t632 => ((impl_Join.f t632 (⟨#[32]⟩ : ByteArray)).bind fun t635 => (impl_CupLine.j0 k t635 a0_0 l0_1))) else (impl_CupLine.j0 k (⟨#[110, 111, 110, 101]⟩ : ByteArray) a0_0 l0_1)) = some r := by rw [if_pos rfl] at H; exact H
    clear H
    have H := H1
    clear H1
    have HC4 := Aside0.mk H
    clear H
    go_enter Tryd.func37, Tryd.ntmps37
    go_upto_if 11 with (first | ((with_reducible refine gate_dst (N := 1) rfl ?_); refine bx (N := 1) (cs := #[.int .i64 a0_0, .slice A0_1 l0_1.length c0_1]) (t := 66) ?_; intro gb630 hg w5 hbox hb; have BK630 := Aside0.mk (hbox); have GW630 := gs hg HB; have GE630 := gs hg HB; replace HB := hs_ HB hb; clear hb hbox hg; have ⟨hcz6_0, hcz6_1, hfz6_0, hfz6_1⟩ := rz2 BK630) | ((with_reducible refine gate_callee (f := 40) rfl ?_); refine gl (some 6) Tryd.func40 #[.agg #[.int .i64 a0_0, .slice A0_1 l0_1.length c0_1]] ?_; (with_reducible refine (impl_CupOk.calls k a0_0 _ _ l0_1 true _ ?side1 ?side2 A2.out).mono ?_); (case side1 => exact cc HR0_1 HB); (case side2 => exact HC0_1.out); rintro e w7 ⟨rfl, hb⟩; refine ⟨_, rfl, ?_⟩; replace BK630 := kb BK630 hb; replace HB := hs_ HB hb; (try clear hb); (try clear hb2); (try clear hk); (try clear hi); have ⟨hcz8_0, hcz8_1, hfz8_0, hfz8_1⟩ := rz2 BK630))
    (try simp only [Act.put, List.setIfInBounds_toArray, List.set_cons_zero, List.set_cons_succ])
    go_cut [3] (fun v3 wc => ∃ (kq : Nat) (x3_3 : ByteArray), v3 = .string x3_3 ∧ Aside0 (impl_CupLine.j0 kq x3_3 a0_0 l0_1 = some r) ∧ Aside0 (kq ≤ k) ∧ Aside0 (wc.heap[gb630]? = some (.cells #[.int .i64 a0_0, (.slice A0_1 l0_1.length c0_1)] 66 (0, 0))) ∧ Aside0 (Below w.heap.size w wc))
    case first =>
      have H := HC4.out
      clear HC4
      by_cases c9 : (l0_1.length : Int) > 0
      · rw [if_pos c9] at H
        have c9b0 : decide (0 < (l0_1.length : Int)) = true := decide_eq_true c9
        have c9b1 : decide (0 < l0_1.length) = true := decide_eq_true (by omega)
        clear c9
        (first | rw [c9b0] | rw [c9b1] | (simp only [i64_w, i32_w]; rw [c9b0]) | skip)
        replace H := Option.bind_eq_some_iff.mp H
        obtain ⟨t632, A100, H⟩ := H
        replace H : ((impl_Join.f t632 (⟨#[32]⟩ : ByteArray)).bind fun t635 => (impl_CupLine.j0 k t635 a0_0 l0_1)) = some r := H
        have A10 := Aside0.mk A100
        clear A100
        replace H := Option.bind_eq_some_iff.mp H
        obtain ⟨t635, A110, H⟩ := H
        replace H : (impl_CupLine.j0 k t635 a0_0 l0_1) = some r := H
        have A11 := Aside0.mk A110
        clear A110
        have H' := Aside0.mk H
        clear H
        have ⟨hcz12_0, hcz12_1, hfz12_0, hfz12_1⟩ := rz2 BK630
        go_wp2_with (first | ((with_reducible refine gate_callee (f := 51) rfl ?_); refine gl (some 14) Tryd.func51 #[.slice A0_1 l0_1.length c0_1] ?_; (with_reducible refine (impl_texts.calls k _ _ l0_1 t632 _ ?side1 ?side2 A10.out).mono ?_); (case side1 => exact cc HR0_1 HB); (case side2 => exact HC0_1.out); rintro e w13 ⟨v633, rfl, ho0, hb⟩; refine ⟨_, rfl, ?_⟩; have HO634 := kl ho0 HB; replace BK630 := kb BK630 hb; replace HB := hs_ HB hb; (try clear hb); (try clear hb2); (try clear hk); (try clear hi); (try clear ho0); obtain ⟨Ao14, co14, eo14⟩ := Kd.R_slice HO634.out; subst eo14) | ((with_reducible refine gate_callee (f := 50) rfl ?_); refine gl (some 15) Tryd.func50 #[.slice Ao14 t632.length co14, .string (⟨#[32]⟩ : ByteArray)] ?_; (with_reducible refine (impl_Join.calls _ _ t632 (⟨#[32]⟩ : ByteArray) t635 _ ?side1 ?side2 A11.out).mono ?_); (case side1 => exact cr HO634); (case side2 => exact cl HO634); rintro e w15 ⟨rfl, hb⟩; refine ⟨_, rfl, ?_⟩; replace HO634 := kr HO634 hb; replace BK630 := kb BK630 hb; replace HB := hs_ HB hb; (try clear hb); (try clear hb2); (try clear hk); (try clear hi)))
        go_meet
        case rel => exact ⟨_, (t635), e2_, H', ⟨by first | omega | exact Nat.le_refl _⟩, ⟨bk BK630⟩, ⟨bb HB⟩⟩
      · rw [if_neg c9] at H
        have c9b0 : decide (0 < (l0_1.length : Int)) = false := decide_eq_false c9
        have c9b1 : decide (0 < l0_1.length) = false := decide_eq_false (by omega)
        clear c9
        (first | rw [c9b0] | rw [c9b1] | (simp only [i64_w, i32_w]; rw [c9b0]) | skip)
        have H' := Aside0.mk H
        clear H
        go_wp2
        go_meet
        case rel => exact ⟨_, ((⟨#[110, 111, 110, 101]⟩ : ByteArray)), e2_, H', ⟨by first | omega | exact Nat.le_refl _⟩, ⟨bk BK630⟩, ⟨bb HB⟩⟩
    case rest =>
      clear HC4
      (try clear p2)
      (try clear c3)
      (try clear c4)
      (try clear c5)
      (try clear c9)
      (try clear c9b0)
      (try clear c9b1)
      (try clear hcz12_0 hcz12_1)
      (try clear hcz6_0 hcz6_1)
      (try clear hcz8_0 hcz8_1)
      (try clear hfz12_0 hfz12_1)
      (try clear hfz6_0 hfz6_1)
      (try clear hfz8_0 hfz8_1)
      obtain ⟨kq, x3_3, rfl, HA, HJ3, BK630, HB⟩ := hcut
      cases kq with
      | zero => exact absurd HA.out (by simp [impl_CupLine.j0])
      | succ kj3 =>
        have H := HA.out
        clear HA
        simp only [impl_CupLine.j0] at H
        replace H := Option.bind_eq_some_iff.mp H
        obtain ⟨t636, A160, H⟩ := H
        replace H : (if t636 > 0 then ((impl_FormatInt.f t636).bind fun t637 => (if 10 + t637.size ≤ 9223372036854775807 then (if x3_3.size + ((⟨#[32, 99, 104, 97, 109, 112, 105, 111, 110, 32]⟩ : ByteArray) ++ t637).size ≤ 9223372036854775807 then (some (x3_3 ++ ((⟨#[32, 99, 104, 97, 109, 112, 105, 111, 110, 32]⟩ : ByteArray) ++ t637))) else (none)) else (none))) else (some x3_3)) = some r := H
        have A16 := Aside0.mk A160
        clear A160
        by_cases c17 : t636 > 0
        · rw [if_pos c17] at H
          have c17b0 : decide (0 < t636) = true := decide_eq_true c17
          clear c17
          replace H := Option.bind_eq_some_iff.mp H
          obtain ⟨t637, A180, H⟩ := H
          replace H : (if 10 + t637.size ≤ 9223372036854775807 then (if x3_3.size + ((⟨#[32, 99, 104, 97, 109, 112, 105, 111, 110, 32]⟩ : ByteArray) ++ t637).size ≤ 9223372036854775807 then (some (x3_3 ++ ((⟨#[32, 99, 104, 97, 109, 112, 105, 111, 110, 32]⟩ : ByteArray) ++ t637))) else (none)) else (none)) = some r := H
          have A18 := Aside0.mk A180
          clear A180
          by_cases c19 : 10 + t637.size ≤ 9223372036854775807
          · rw [if_pos c19] at H
            have c19b0 := eq_true c19
            have c19b1 : decide (10 + t637.size ≤ 9223372036854775807) = true := decide_eq_true c19
            try have c19b2 : (9223372036854775807 < 10 + t637.size) = False := eq_false (Nat.not_lt.2 c19)
            by_cases c20 : x3_3.size + ((⟨#[32, 99, 104, 97, 109, 112, 105, 111, 110, 32]⟩ : ByteArray) ++ t637).size ≤ 9223372036854775807
            · rw [if_pos c20] at H
              have c20b0 := eq_true c20
              have c20b1 : decide (x3_3.size + ((⟨#[32, 99, 104, 97, 109, 112, 105, 111, 110, 32]⟩ : ByteArray) ++ t637).size ≤ 9223372036854775807) = true := decide_eq_true c20
              try have c20b2 : (9223372036854775807 < x3_3.size + ((⟨#[32, 99, 104, 97, 109, 112, 105, 111, 110, 32]⟩ : ByteArray) ++ t637).size) = False := eq_false (Nat.not_lt.2 c20)
              have c20b3 : (9223372036854775807 < x3_3.size + (10 + t637.size)) = False := (by have h_ := c20b2; simp only [ByteArray.size_append] at h_; exact h_)
              obtain rfl := Option.some.inj H
              have ⟨hcz21_0, hcz21_1, hfz21_0, hfz21_1⟩ := rz2 BK630
              go_wp2_with (first | ((with_reducible refine gate_callee (f := 45) rfl ?_); refine gl (some 17) Tryd.func45 #[.agg #[.int .i64 a0_0, .slice A0_1 l0_1.length c0_1]] ?_; (with_reducible refine (impl_ChampionOf.calls kj3 a0_0 _ _ l0_1 t636 _ ?side1 ?side2 A16.out).mono ?_); (case side1 => exact cc HR0_1 HB); (case side2 => exact HC0_1.out); rintro e w22 ⟨rfl, hb⟩; refine ⟨_, rfl, ?_⟩; replace BK630 := kb BK630 hb; replace HB := hs_ HB hb; (try clear hb); (try clear hb2); (try clear hk); (try clear hi)) | ((with_reducible refine gate_callee (f := 71) rfl ?_); refine gl (some 22) Tryd.func71 #[.int .i64 t636] ?_; (with_reducible refine (impl_FormatInt.calls t636 t637 _ A18.out).mono ?_); rintro e w' ⟨rfl, ⟨nd, rfl⟩⟩; refine ⟨_, rfl, ?_⟩))
              go_ret
              exact ⟨ee, bb HB⟩
            · rw [if_neg c20] at H
              exact absurd H (by simp)
          · rw [if_neg c19] at H
            exact absurd H (by simp)
        · rw [if_neg c17] at H
          have c17b0 : decide (0 < t636) = false := decide_eq_false c17
          clear c17
          obtain rfl := Option.some.inj H
          have ⟨hcz23_0, hcz23_1, hfz23_0, hfz23_1⟩ := rz2 BK630
          go_wp2_with (first | ((with_reducible refine gate_callee (f := 45) rfl ?_); refine gl (some 17) Tryd.func45 #[.agg #[.int .i64 a0_0, .slice A0_1 l0_1.length c0_1]] ?_; (with_reducible refine (impl_ChampionOf.calls kj3 a0_0 _ _ l0_1 t636 _ ?side1 ?side2 A16.out).mono ?_); (case side1 => exact cc HR0_1 HB); (case side2 => exact HC0_1.out); rintro e w24 ⟨rfl, hb⟩; refine ⟨_, rfl, ?_⟩; replace BK630 := kb BK630 hb; replace HB := hs_ HB hb; (try clear hb); (try clear hb2); (try clear hk); (try clear hi)))
          go_ret
          exact ⟨ee, bb HB⟩
  · replace c3 := Bool.eq_false_iff.mpr c3
    subst c3
    have H1 : (some (⟨#[]⟩ : ByteArray)) = some r := by rw [if_neg (show ¬ (false = true) by decide)] at H; exact H
    clear H
    have H := H1
    clear H1
    obtain rfl := Option.some.inj H
    go_enter Tryd.func37, Tryd.ntmps37
    go_wp2_with (first | ((with_reducible refine gate_dst (N := 1) rfl ?_); refine bx (N := 1) (cs := #[.int .i64 a0_0, .slice A0_1 l0_1.length c0_1]) (t := 66) ?_; intro gb630 hg w25 hbox hb; have BK630 := Aside0.mk (hbox); have GW630 := gs hg HB; have GE630 := gs hg HB; replace HB := hs_ HB hb; clear hb hbox hg; have ⟨hcz26_0, hcz26_1, hfz26_0, hfz26_1⟩ := rz2 BK630) | ((with_reducible refine gate_callee (f := 40) rfl ?_); refine gl (some 6) Tryd.func40 #[.agg #[.int .i64 a0_0, .slice A0_1 l0_1.length c0_1]] ?_; (with_reducible refine (impl_CupOk.calls k a0_0 _ _ l0_1 false _ ?side1 ?side2 A2.out).mono ?_); (case side1 => exact cc HR0_1 HB); (case side2 => exact HC0_1.out); rintro e w27 ⟨rfl, hb⟩; refine ⟨_, rfl, ?_⟩; replace BK630 := kb BK630 hb; replace HB := hs_ HB hb; (try clear hb); (try clear hb2); (try clear hk); (try clear hi)))
    go_ret
    exact ⟨ee, bb HB⟩
end Go.Proofs.YtibmeomlokigjaaDoor.Q
namespace Go.Proofs.YtibmeomlokigjaaDoor.Q
open Go.RowKit Go.Proofs.YtibmeomlokigjaaDoorW.PrintWords Go.Proofs.YtibmeomlokigjaaDoorW.PrintLast Go.Proofs.YtibmeomlokigjaaDoorW.PrintMore
attribute [local go_sem] max2_int min2_int max_two min_two max_three min_three max_four min_four
set_option linter.unusedVariables false
set_option linter.unusedSimpArgs false
def laws_eqIntS.l0 : Nat → List Int → List Int → Int → Option (Bool)
  | 0, _, _, _ => none
  | k + 1, x0, x1, x5 => if x5 < (x0.length : Int) then (if 0 ≤ x5 then (if x5 < (x1.length : Int) then (if (rd x0 x5) = (rd x1 x5) then (laws_eqIntS.l0 k x0 x1 (wrap64 (x5 + 1))) else (some false)) else (none)) else (none)) else (some true)
def laws_eqIntS.f (k : Nat) (l0 : List Int) (l1 : List Int) : Option (Bool) := if (l0.length : Int) = (l1.length : Int) then (laws_eqIntS.l0 k l0 l1 0) else (some false)
set_option maxHeartbeats 8000000 in
set_option maxRecDepth 100000 in
theorem laws_eqIntS.calls (k : Nat) (A0 : Option Addr) (c0 : Nat) (l0 : List Int) (A1 : Option Addr) (c1 : Nat) (l1 : List Int) (r : Bool) (w : World) (hr0 : Kd.C (Kd.int .i64) w A0 l0.length l0) (hc0 : l0.length ≤ c0) (hr1 : Kd.C (Kd.int .i64) w A1 l1.length l1) (hc1 : l1.length ≤ c1) (h : laws_eqIntS.f k l0 l1 = some r) :
    Calls Tryd.prog 63 #[.slice A0 l0.length c0, .slice A1 l1.length c1] w fun e w' => e = .returned (.bool r) ∧ Drawn0 w w' := by
  have HR0 := Aside0.mk hr0
  have HC0 := Aside0.mk hc0
  clear hr0 hc0
  have HR1 := Aside0.mk hr1
  have HC1 := Aside0.mk hc1
  clear hr1 hc1
  have H : (if (l0.length : Int) = (l1.length : Int) then (laws_eqIntS.l0 k l0 l1 0) else (some false)) = some r := h
  clear h
  by_cases c3 : (l0.length : Int) = (l1.length : Int)
  · rw [if_pos c3] at H
    have c3b0 : ((l0.length : Int) == (l1.length : Int)) = true := beq_iff_eq.mpr c3
    have c3b1 : ((l0.length : Int) != (l1.length : Int)) = false := bne_eq_false_iff_eq.mpr c3
    have c3b2 : (l0.length == l1.length) = true := by first | simpa using c3 | (simp at c3 ⊢; omega)
    clear c3
    have H' := Aside0.mk H
    clear H
    go_enter Tryd.func63, Tryd.ntmps63
    go_wp2
    repeat (go_quiet (fail); try go_wp2)
    go_loopg [5] k (fun kq v5 w' => ∃ (x5_1 : Int), v5 = .int .i64 x5_1 ∧ Aside0 (laws_eqIntS.l0 kq l0 l1 x5_1 = some r) ∧ Aside0 (kq ≤ k) ∧ Drawn0 w w')
    case atStart => exact ⟨(0), e2_, H', ⟨Nat.le_refl _⟩, by repeat (first | exact Drawn0.refl _ | apply Drawn0.step)⟩
    case round =>
      clear H'
      (try clear c1)
      (try clear p2)
      (try clear c3)
      (try clear c3b0)
      (try clear c3b1)
      (try clear c3b2)
      obtain ⟨x5_1, rfl, HA, HK1, ⟨m1, rfl⟩⟩ := hrel
      cases gk with
      | zero => exact absurd HA.out (by simp [laws_eqIntS.l0])
      | succ k1 =>
        have H := HA.out
        clear HA
        simp only [laws_eqIntS.l0] at H
        by_cases c4 : x5_1 < (l0.length : Int)
        · rw [if_pos c4] at H
          have c4b0 : decide (x5_1 < (l0.length : Int)) = true := decide_eq_true c4
          clear c4
          by_cases c5 : 0 ≤ x5_1
          · rw [if_pos c5] at H
            have c5b0 : decide (0 ≤ x5_1) = true := decide_eq_true c5
            clear c5
            by_cases c6 : x5_1 < (l1.length : Int)
            · rw [if_pos c6] at H
              have c6b0 : decide (x5_1 < (l1.length : Int)) = true := decide_eq_true c6
              clear c6
              by_cases c7 : (rd l0 x5_1) = (rd l1 x5_1)
              · rw [if_pos c7] at H
                have c7b0 : ((rd l0 x5_1) == (rd l1 x5_1)) = true := beq_iff_eq.mpr c7
                have c7b1 : ((rd l0 x5_1) != (rd l1 x5_1)) = false := bne_eq_false_iff_eq.mpr c7
                clear c7
                have H' := Aside0.mk H
                clear H
                have p369 : 0 ≤ (x5_1 : Int) := of_decide_eq_true (by first | (with_reducible assumption) | assumption)
                have q369 : x5_1 < (l0.length : Int) := of_decide_eq_true (by first | (with_reducible assumption) | assumption)
                obtain ⟨ad369, e369, hx369_0⟩ := Kd.at_int HR0.out x5_1 p369 q369
                cases e369
                replace p369 := eq_true p369
                replace q369 := eq_true q369
                have p370 : 0 ≤ (x5_1 : Int) := of_decide_eq_true (by first | (with_reducible assumption) | assumption)
                have q370 : x5_1 < (l1.length : Int) := of_decide_eq_true (by first | (with_reducible assumption) | assumption)
                obtain ⟨ad370, e370, hx370_0⟩ := Kd.at_int HR1.out x5_1 p370 q370
                cases e370
                replace p370 := eq_true p370
                replace q370 := eq_true q370
                go_wp2
                repeat (go_quiet (fail); try go_wp2)
                go_roundg k1
                case measure => have := HK1.out; omega
                case rel => exact ⟨(wrap64 (x5_1 + 1)), e2_, H', ⟨by have := HK1.out; omega⟩, by repeat (first | exact Drawn0.refl _ | apply Drawn0.step)⟩
              · rw [if_neg c7] at H
                have c7b0 : ((rd l0 x5_1) == (rd l1 x5_1)) = false := beq_eq_false_iff_ne.mpr c7
                have c7b1 : ((rd l0 x5_1) != (rd l1 x5_1)) = true := bne_iff_ne.mpr c7
                obtain rfl := Option.some.inj H
                have p369 : 0 ≤ (x5_1 : Int) := of_decide_eq_true (by first | (with_reducible assumption) | assumption)
                have q369 : x5_1 < (l0.length : Int) := of_decide_eq_true (by first | (with_reducible assumption) | assumption)
                obtain ⟨ad369, e369, hx369_0⟩ := Kd.at_int HR0.out x5_1 p369 q369
                cases e369
                replace p369 := eq_true p369
                replace q369 := eq_true q369
                have p370 : 0 ≤ (x5_1 : Int) := of_decide_eq_true (by first | (with_reducible assumption) | assumption)
                have q370 : x5_1 < (l1.length : Int) := of_decide_eq_true (by first | (with_reducible assumption) | assumption)
                obtain ⟨ad370, e370, hx370_0⟩ := Kd.at_int HR1.out x5_1 p370 q370
                cases e370
                replace p370 := eq_true p370
                replace q370 := eq_true q370
                go_wp2
                repeat (go_quiet (fail); try go_wp2)
                go_ret
                exact ⟨e2_, by repeat (first | exact Drawn0.refl _ | apply Drawn0.step)⟩
            · rw [if_neg c6] at H
              exact absurd H (by simp)
          · rw [if_neg c5] at H
            exact absurd H (by simp)
        · rw [if_neg c4] at H
          have c4b0 : decide (x5_1 < (l0.length : Int)) = false := decide_eq_false c4
          clear c4
          obtain rfl := Option.some.inj H
          go_wp2
          repeat (go_quiet (fail); try go_wp2)
          go_ret
          exact ⟨e2_, by repeat (first | exact Drawn0.refl _ | apply Drawn0.step)⟩
  · rw [if_neg c3] at H
    have c3b0 : ((l0.length : Int) == (l1.length : Int)) = false := beq_eq_false_iff_ne.mpr c3
    have c3b1 : ((l0.length : Int) != (l1.length : Int)) = true := bne_iff_ne.mpr c3
    have c3b2 : (l0.length == l1.length) = false := by first | simpa using c3 | (simp at c3 ⊢; omega)
    obtain rfl := Option.some.inj H
    go_enter Tryd.func63, Tryd.ntmps63
    go_wp2
    repeat (go_quiet (fail); try go_wp2)
    go_ret
    exact ⟨e2_, by repeat (first | exact Drawn0.refl _ | apply Drawn0.step)⟩
end Go.Proofs.YtibmeomlokigjaaDoor.Q
namespace Go.Proofs.YtibmeomlokigjaaDoor.Q
open Go.RowKit Go.Proofs.YtibmeomlokigjaaDoorW.PrintWords Go.Proofs.YtibmeomlokigjaaDoorW.PrintLast Go.Proofs.YtibmeomlokigjaaDoorW.PrintMore
attribute [local go_sem] max2_int min2_int max_two min_two max_three min_three max_four min_four
set_option linter.unusedVariables false
set_option linter.unusedSimpArgs false
def laws_eqCup.f (k : Nat) (a0_0 : Int) (l0_1 : List Int) (a1_0 : Int) (l1_1 : List Int) : Option (Bool) := if a0_0 = a1_0 then ((laws_eqIntS.f k l0_1 l1_1).bind fun t640 => (if t640 = true then (some true) else (some false))) else (some false)
set_option maxHeartbeats 8000000 in
set_option maxRecDepth 100000 in
theorem laws_eqCup.calls (k : Nat) (a0_0 : Int) (A0_1 : Option Addr) (c0_1 : Nat) (l0_1 : List Int) (a1_0 : Int) (A1_1 : Option Addr) (c1_1 : Nat) (l1_1 : List Int) (r : Bool) (w : World) (hr0_1 : Kd.C (Kd.int .i64) w A0_1 l0_1.length l0_1) (hc0_1 : l0_1.length ≤ c0_1) (hr1_1 : Kd.C (Kd.int .i64) w A1_1 l1_1.length l1_1) (hc1_1 : l1_1.length ≤ c1_1) (h : laws_eqCup.f k a0_0 l0_1 a1_0 l1_1 = some r) :
    Calls Tryd.prog 38 #[.agg #[.int .i64 a0_0, .slice A0_1 l0_1.length c0_1], .agg #[.int .i64 a1_0, .slice A1_1 l1_1.length c1_1]] w fun e w' => e = .returned (.bool r) ∧ Below w.heap.size w w' := by
  have hu66 := Tryd.underlying66
  have HR0_1 := Aside0.mk hr0_1
  have HC0_1 := Aside0.mk hc0_1
  clear hr0_1 hc0_1
  have HR1_1 := Aside0.mk hr1_1
  have HC1_1 := Aside0.mk hc1_1
  clear hr1_1 hc1_1
  have HB := Aside0.mk (Below.refl w.heap.size w)
  have H : (if a0_0 = a1_0 then ((laws_eqIntS.f k l0_1 l1_1).bind fun t640 => (if t640 = true then (some true) else (some false))) else (some false)) = some r := h
  clear h
  by_cases c3 : a0_0 = a1_0
  · rw [if_pos c3] at H
    have c3b0 : (a0_0 == a1_0) = true := beq_iff_eq.mpr c3
    have c3b1 : (a0_0 != a1_0) = false := bne_eq_false_iff_eq.mpr c3
    clear c3
    replace H := Option.bind_eq_some_iff.mp H
    obtain ⟨t640, A40, H⟩ := H
    replace H : (if t640 = true then (some true) else (some false)) = some r := H
    have A4 := Aside0.mk A40
    clear A40
    by_cases c5 : t640 = true
    · subst c5
      have H1 : (some true) = some r := by rw [if_pos rfl] at H; exact H
      clear H
      have H := H1
      clear H1
      obtain rfl := Option.some.inj H
      go_enter Tryd.func38, Tryd.ntmps38
      go_wp2_with (first | ((with_reducible refine gate_dst (N := 2) rfl ?_); refine bx (N := 2) (cs := #[.int .i64 a0_0, .slice A0_1 l0_1.length c0_1]) (t := 66) ?_; intro gb638 hg w6 hbox hb; have BK638 := Aside0.mk (hbox); have GW638 := gs hg HB; have GE638 := gs hg HB; replace HB := hs_ HB hb; clear hb hbox hg) | ((with_reducible refine gate_dst (N := 3) rfl ?_); refine bx (N := 3) (cs := #[.int .i64 a1_0, .slice A1_1 l1_1.length c1_1]) (t := 66) ?_; intro gb639 hg w7 hbox hb; have BK639 := Aside0.mk (hbox); have GW639 := gs hg HB; have GE639 := gs hg HB; replace HB := hs_ HB hb; have NB638_639 := gn hg BK638; have NB639_638 := gm hg BK638; replace BK638 := kb BK638 hb; clear hb hbox hg; have hnb8 := NB638_639.out; have hnc8 := NB639_638.out; have ⟨hcz9_0, hcz9_1, hfz9_0, hfz9_1⟩ := rz2 BK638; have ⟨hcz10_0, hcz10_1, hfz10_0, hfz10_1⟩ := rz2 BK639) | ((with_reducible refine gate_callee (f := 63) rfl ?_); refine gl (some 14) Tryd.func63 #[.slice A0_1 l0_1.length c0_1, .slice A1_1 l1_1.length c1_1] ?_; (with_reducible refine (laws_eqIntS.calls k _ _ l0_1 _ _ l1_1 true _ ?side1 ?side2 ?side3 ?side4 A4.out).mono ?_); (case side1 => exact cc HR0_1 HB); (case side2 => exact HC0_1.out); (case side3 => exact cc HR1_1 HB); (case side4 => exact HC1_1.out); rintro e w' ⟨rfl, ⟨nd, rfl⟩⟩; refine ⟨_, rfl, ?_⟩))
      go_ret
      exact ⟨ee, bb HB⟩
    · replace c5 := Bool.eq_false_iff.mpr c5
      subst c5
      have H1 : (some false) = some r := by rw [if_neg (show ¬ (false = true) by decide)] at H; exact H
      clear H
      have H := H1
      clear H1
      obtain rfl := Option.some.inj H
      go_enter Tryd.func38, Tryd.ntmps38
      go_wp2_with (first | ((with_reducible refine gate_dst (N := 2) rfl ?_); refine bx (N := 2) (cs := #[.int .i64 a0_0, .slice A0_1 l0_1.length c0_1]) (t := 66) ?_; intro gb638 hg w11 hbox hb; have BK638 := Aside0.mk (hbox); have GW638 := gs hg HB; have GE638 := gs hg HB; replace HB := hs_ HB hb; clear hb hbox hg) | ((with_reducible refine gate_dst (N := 3) rfl ?_); refine bx (N := 3) (cs := #[.int .i64 a1_0, .slice A1_1 l1_1.length c1_1]) (t := 66) ?_; intro gb639 hg w12 hbox hb; have BK639 := Aside0.mk (hbox); have GW639 := gs hg HB; have GE639 := gs hg HB; replace HB := hs_ HB hb; have NB638_639 := gn hg BK638; have NB639_638 := gm hg BK638; replace BK638 := kb BK638 hb; clear hb hbox hg; have hnb13 := NB638_639.out; have hnc13 := NB639_638.out; have ⟨hcz14_0, hcz14_1, hfz14_0, hfz14_1⟩ := rz2 BK638; have ⟨hcz15_0, hcz15_1, hfz15_0, hfz15_1⟩ := rz2 BK639) | ((with_reducible refine gate_callee (f := 63) rfl ?_); refine gl (some 14) Tryd.func63 #[.slice A0_1 l0_1.length c0_1, .slice A1_1 l1_1.length c1_1] ?_; (with_reducible refine (laws_eqIntS.calls k _ _ l0_1 _ _ l1_1 false _ ?side1 ?side2 ?side3 ?side4 A4.out).mono ?_); (case side1 => exact cc HR0_1 HB); (case side2 => exact HC0_1.out); (case side3 => exact cc HR1_1 HB); (case side4 => exact HC1_1.out); rintro e w' ⟨rfl, ⟨nd, rfl⟩⟩; refine ⟨_, rfl, ?_⟩))
      go_ret
      exact ⟨ee, bb HB⟩
  · rw [if_neg c3] at H
    have c3b0 : (a0_0 == a1_0) = false := beq_eq_false_iff_ne.mpr c3
    have c3b1 : (a0_0 != a1_0) = true := bne_iff_ne.mpr c3
    obtain rfl := Option.some.inj H
    go_enter Tryd.func38, Tryd.ntmps38
    go_wp2_with (first | ((with_reducible refine gate_dst (N := 2) rfl ?_); refine bx (N := 2) (cs := #[.int .i64 a0_0, .slice A0_1 l0_1.length c0_1]) (t := 66) ?_; intro gb638 hg w16 hbox hb; have BK638 := Aside0.mk (hbox); have GW638 := gs hg HB; have GE638 := gs hg HB; replace HB := hs_ HB hb; clear hb hbox hg) | ((with_reducible refine gate_dst (N := 3) rfl ?_); refine bx (N := 3) (cs := #[.int .i64 a1_0, .slice A1_1 l1_1.length c1_1]) (t := 66) ?_; intro gb639 hg w17 hbox hb; have BK639 := Aside0.mk (hbox); have GW639 := gs hg HB; have GE639 := gs hg HB; replace HB := hs_ HB hb; have NB638_639 := gn hg BK638; have NB639_638 := gm hg BK638; replace BK638 := kb BK638 hb; clear hb hbox hg; have hnb18 := NB638_639.out; have hnc18 := NB639_638.out; have ⟨hcz19_0, hcz19_1, hfz19_0, hfz19_1⟩ := rz2 BK638; have ⟨hcz20_0, hcz20_1, hfz20_0, hfz20_1⟩ := rz2 BK639))
    go_ret
    exact ⟨ee, bb HB⟩
end Go.Proofs.YtibmeomlokigjaaDoor.Q
namespace Go.Proofs.YtibmeomlokigjaaDoor.Q
open Go.RowKit Go.Proofs.YtibmeomlokigjaaDoorW.PrintWords Go.Proofs.YtibmeomlokigjaaDoorW.PrintLast Go.Proofs.YtibmeomlokigjaaDoorW.PrintMore
attribute [local go_sem] max2_int min2_int max_two min_two max_three min_three max_four min_four
set_option linter.unusedVariables false
set_option linter.unusedSimpArgs false
def laws_FnExactCupLine.f (k : Nat) (a0_0 : Int) (l0_1 : List Int) : Option (Bool) := (laws_szCup.f a0_0 l0_1 1048576).bind fun t642 => (if t642 < 0 then (some true) else ((laws_toCup.f k a0_0 l0_1).bind fun bt643 => ((spec_CupLine.f k bt643.1 bt643.2).bind fun t647 => ((laws_toCup.f k a0_0 l0_1).bind fun bt648 => ((impl_CupLine.f k bt648.1 bt648.2).bind fun t653 => (if t653.toList = t647.toList then ((laws_toCup.f k a0_0 l0_1).bind fun bt654 => ((laws_eqCup.f k bt648.1 bt648.2 bt654.1 bt654.2).bind fun t658 => (if t658 = true then (some true) else (some false)))) else (some false)))))))
set_option maxHeartbeats 8000000 in
set_option maxRecDepth 100000 in
theorem laws_FnExactCupLine.calls (k : Nat) (a0_0 : Int) (A0_1 : Option Addr) (c0_1 : Nat) (l0_1 : List Int) (r : Bool) (w : World) (hr0_1 : Kd.C (Kd.int .i64) w A0_1 l0_1.length l0_1) (hc0_1 : l0_1.length ≤ c0_1) (h : laws_FnExactCupLine.f k a0_0 l0_1 = some r) :
    Calls Tryd.prog 8 #[.agg #[.int .i64 a0_0, .slice A0_1 l0_1.length c0_1]] w fun e w' => e = .returned (.bool r) ∧ Below w.heap.size w w' := by
  have hu63 := Tryd.underlying63
  have hu66 := Tryd.underlying66
  have HR0_1 := Aside0.mk hr0_1
  have HC0_1 := Aside0.mk hc0_1
  clear hr0_1 hc0_1
  have HB := Aside0.mk (Below.refl w.heap.size w)
  have H : ((laws_szCup.f a0_0 l0_1 1048576).bind fun t642 => (if t642 < 0 then (some true) else ((laws_toCup.f k a0_0 l0_1).bind fun bt643 => ((spec_CupLine.f k bt643.1 bt643.2).bind fun t647 => ((laws_toCup.f k a0_0 l0_1).bind fun bt648 => ((impl_CupLine.f k bt648.1 bt648.2).bind fun t653 => (if t653.toList = t647.toList then ((laws_toCup.f k a0_0 l0_1).bind fun bt654 => ((laws_eqCup.f k bt648.1 bt648.2 bt654.1 bt654.2).bind fun t658 => (if t658 = true then (some true) else (some false)))) else (some false)))))))) = some r := h
  clear h
  replace H := Option.bind_eq_some_iff.mp H
  obtain ⟨t642, A20, H⟩ := H
  replace H : (if t642 < 0 then (some true) else ((laws_toCup.f k a0_0 l0_1).bind fun bt643 => ((spec_CupLine.f k bt643.1 bt643.2).bind fun t647 => ((laws_toCup.f k a0_0 l0_1).bind fun bt648 => ((impl_CupLine.f k bt648.1 bt648.2).bind fun t653 => (if t653.toList = t647.toList then ((laws_toCup.f k a0_0 l0_1).bind fun bt654 => ((laws_eqCup.f k bt648.1 bt648.2 bt654.1 bt654.2).bind fun t658 => (if t658 = true then (some true) else (some false)))) else (some false))))))) = some r := H
  have A2 := Aside0.mk A20
  clear A20
  have HC3 := Aside0.mk H
  clear H
  go_enter Tryd.func8, Tryd.ntmps8
  go_upto_if 11 with (first | ((with_reducible refine gate_dst (N := 1) rfl ?_); refine bx (N := 1) (cs := #[.int .i64 a0_0, .slice A0_1 l0_1.length c0_1]) (t := 63) ?_; intro gb641 hg w4 hbox hb; have BK641 := Aside0.mk (hbox); have GW641 := gs hg HB; have GE641 := gs hg HB; replace HB := hs_ HB hb; clear hb hbox hg; have ⟨hcz5_0, hcz5_1, hfz5_0, hfz5_1⟩ := rz2 BK641) | ((with_reducible refine gate_callee (f := 34) rfl ?_); refine gl (some 9) Tryd.func34 #[.agg #[.int .i64 a0_0, .slice A0_1 l0_1.length c0_1], .int .i64 1048576] ?_; (with_reducible refine (laws_szCup.calls a0_0 _ _ l0_1 1048576 t642 _ ?side1 ?side2 A2.out).mono ?_); (case side1 => exact cc HR0_1 HB); (case side2 => exact HC0_1.out); rintro e w6 ⟨rfl, hb⟩; refine ⟨_, rfl, ?_⟩; replace BK641 := kb BK641 hb; replace HB := hs_ HB hb; (try clear hb); (try clear hb2); (try clear hk); (try clear hi)))
  (try simp only [Act.put, List.setIfInBounds_toArray, List.set_cons_zero, List.set_cons_succ])
  have H := HC3.out
  clear HC3
  by_cases c7 : t642 < 0
  · rw [if_pos c7] at H
    have c7b0 : decide (t642 < 0) = true := decide_eq_true c7
    clear c7
    (first | rw [c7b0] | rw [c7b1] | (simp only [i64_w, i32_w]; rw [c7b0]) | skip)
    obtain rfl := Option.some.inj H
    go_wp2
    go_ret
    exact ⟨ee, bb HB⟩
  · rw [if_neg c7] at H
    have c7b0 : decide (t642 < 0) = false := decide_eq_false c7
    clear c7
    (first | rw [c7b0] | rw [c7b1] | (simp only [i64_w, i32_w]; rw [c7b0]) | skip)
    replace H := Option.bind_eq_some_iff.mp H
    obtain ⟨⟨t643, t644⟩, A80, H⟩ := H
    replace H : ((spec_CupLine.f k t643 t644).bind fun t647 => ((laws_toCup.f k a0_0 l0_1).bind fun bt648 => ((impl_CupLine.f k bt648.1 bt648.2).bind fun t653 => (if t653.toList = t647.toList then ((laws_toCup.f k a0_0 l0_1).bind fun bt654 => ((laws_eqCup.f k bt648.1 bt648.2 bt654.1 bt654.2).bind fun t658 => (if t658 = true then (some true) else (some false)))) else (some false))))) = some r := H
    have A8 := Aside0.mk A80
    clear A80
    replace H := Option.bind_eq_some_iff.mp H
    obtain ⟨t647, A90, H⟩ := H
    replace H : ((laws_toCup.f k a0_0 l0_1).bind fun bt648 => ((impl_CupLine.f k bt648.1 bt648.2).bind fun t653 => (if t653.toList = t647.toList then ((laws_toCup.f k a0_0 l0_1).bind fun bt654 => ((laws_eqCup.f k bt648.1 bt648.2 bt654.1 bt654.2).bind fun t658 => (if t658 = true then (some true) else (some false)))) else (some false)))) = some r := H
    have A9 := Aside0.mk A90
    clear A90
    replace H := Option.bind_eq_some_iff.mp H
    obtain ⟨⟨t648, t649⟩, A100, H⟩ := H
    replace H : ((impl_CupLine.f k t648 t649).bind fun t653 => (if t653.toList = t647.toList then ((laws_toCup.f k a0_0 l0_1).bind fun bt654 => ((laws_eqCup.f k t648 t649 bt654.1 bt654.2).bind fun t658 => (if t658 = true then (some true) else (some false)))) else (some false))) = some r := H
    have A10 := Aside0.mk A100
    clear A100
    replace H := Option.bind_eq_some_iff.mp H
    obtain ⟨t653, A110, H⟩ := H
    replace H : (if t653.toList = t647.toList then ((laws_toCup.f k a0_0 l0_1).bind fun bt654 => ((laws_eqCup.f k t648 t649 bt654.1 bt654.2).bind fun t658 => (if t658 = true then (some true) else (some false)))) else (some false)) = some r := H
    have A11 := Aside0.mk A110
    clear A110
    have HC12 := Aside0.mk H
    clear H
    have ⟨hcz13_0, hcz13_1, hfz13_0, hfz13_1⟩ := rz2 BK641
    go_upto_if 21 with (first | ((with_reducible refine gate_callee (f := 36) rfl ?_); refine gl (some 13) Tryd.func36 #[.agg #[.int .i64 a0_0, .slice A0_1 l0_1.length c0_1]] ?_; (with_reducible refine (laws_toCup.calls k a0_0 _ _ l0_1 t643 t644 _ ?side1 ?side2 A8.out).mono ?_); (case side1 => exact cc HR0_1 HB); (case side2 => exact HC0_1.out); rintro e w14 ⟨v645, rfl, ho0, hb⟩; refine ⟨_, rfl, ?_⟩; have HO646 := kl ho0 HB; replace BK641 := kb BK641 hb; replace HB := hs_ HB hb; (try clear hb); (try clear hb2); (try clear hk); (try clear hi); (try clear ho0); obtain ⟨Ao15, co15, eo15⟩ := Kd.R_slice HO646.out; subst eo15) | ((with_reducible refine gate_callee (f := 35) rfl ?_); refine gl (some 14) Tryd.func35 #[.agg #[.int .i64 t643, .slice Ao15 t644.length co15]] ?_; (with_reducible refine (spec_CupLine.calls k t643 _ _ t644 t647 _ ?side1 ?side2 A9.out).mono ?_); (case side1 => exact cr HO646); (case side2 => exact cl HO646); rintro e w16 ⟨rfl, hb⟩; refine ⟨_, rfl, ?_⟩; replace HO646 := kr HO646 hb; replace BK641 := kb BK641 hb; replace HB := hs_ HB hb; (try clear hb); (try clear hb2); (try clear hk); (try clear hi); have ⟨hcz17_0, hcz17_1, hfz17_0, hfz17_1⟩ := rz2 BK641) | ((with_reducible refine gate_callee (f := 36) rfl ?_); refine gl (some 16) Tryd.func36 #[.agg #[.int .i64 a0_0, .slice A0_1 l0_1.length c0_1]] ?_; (with_reducible refine (laws_toCup.calls k a0_0 _ _ l0_1 t648 t649 _ ?side1 ?side2 A10.out).mono ?_); (case side1 => exact cc HR0_1 HB); (case side2 => exact HC0_1.out); rintro e w18 ⟨v650, rfl, ho0, hb⟩; refine ⟨_, rfl, ?_⟩; have HO651 := Aside0.mk (Kd.R_lower (Kd.R_new' ho0 (rt HO646)) (below_size (bb HB))); replace HO646 := ke HO646 ho0 hb; replace BK641 := kb BK641 hb; replace HB := hs_ HB hb; (try clear hb); (try clear hb2); (try clear hk); (try clear hi); (try clear ho0)) | ((with_reducible refine gate_dst (N := 5) rfl ?_); refine bx (N := 5) (cs := #[.int .i64 0, .slice none 0 0]) (t := 66) ?_; intro gb652 hg w19 hbox hb; replace HO646 := kr HO646 hb; replace HO651 := kr HO651 hb; have BK652 := Aside0.mk (hbox); have GW652 := gs hg HB; have GE652 := gs hg HB; replace HB := hs_ HB hb; have NB641_652 := gn hg BK641; have NB652_641 := gm hg BK641; replace BK641 := kb BK641 hb; clear hb hbox hg; have hnb20 := NB652_641.out; have hnc20 := NB641_652.out; have ⟨hcz21_0, hcz21_1, hfz21_0, hfz21_1⟩ := rz2 BK652; obtain ⟨Ao22, co22, eo22⟩ := Kd.R_slice HO651.out; subst eo22) | ((with_reducible refine gate_callee (f := 37) rfl ?_); refine gl (some 18) Tryd.func37 #[.agg #[.int .i64 t648, .slice Ao22 t649.length co22]] ?_; (with_reducible refine (impl_CupLine.calls k t648 _ _ t649 t653 _ ?side1 ?side2 A11.out).mono ?_); (case side1 => refine (Kd.R_reads' (e := 3) (base := w.heap.size) (ok := fun k_ => (True ∧ some k_ ≠ (.slice Ao15 t644.length co15 : Value).ownBlock)) (n := t649.length) (c := co22) ?_).2.2; exact (rf HO651 BK652 (fun _ h_ => h_.1))); (case side2 => exact cl HO651); rintro e w23 ⟨rfl, hb⟩; refine ⟨_, rfl, ?_⟩; replace HO646 := Aside0.mk (Kd.R_below (rf HO646 BK652 (fun _ h_ => h_.1)) hb); replace HO651 := Aside0.mk (Kd.R_below (rf HO651 BK652 (fun _ h_ => h_.1)) hb); replace BK641 := Aside0.mk (blk_below (g := gb641) (o := .cells #[.int .i64 a0_0, .slice A0_1 l0_1.length c0_1] 63 (0, 0)) (by (with_reducible repeat (first | refine blk_drewN ?_ _ | refine blk_drew ?_ | refine blk_alloc ?_ _)); refine blk_far ?_ NB641_652.out _; (with_reducible repeat (first | refine blk_drewN ?_ _ | refine blk_drew ?_ | refine blk_alloc ?_ _)); refine blk_far ?_ NB641_652.out _; (with_reducible repeat (first | refine blk_drewN ?_ _ | refine blk_drew ?_ | refine blk_alloc ?_ _)); exact BK641.out) hb); replace BK652 := Aside0.mk (blk_below (g := gb652) (o := .cells #[.int .i64 t648, .slice Ao22 t649.length co22] 66 (0, 0)) (by (with_reducible repeat (first | refine blk_drewN ?_ _ | refine blk_drew ?_ | refine blk_alloc ?_ _)); refine blk_put (cs := #[.int .i64 t648, .slice none 0 0]) ?_ 1 _ rfl; (with_reducible repeat (first | refine blk_drewN ?_ _ | refine blk_drew ?_ | refine blk_alloc ?_ _)); refine blk_put (cs := #[.int .i64 0, .slice none 0 0]) ?_ 0 _ rfl; (with_reducible repeat (first | refine blk_drewN ?_ _ | refine blk_drew ?_ | refine blk_alloc ?_ _)); exact BK652.out) hb); replace HB := hs_ HB hb; (try clear hb); (try clear hb2); (try clear hk); (try clear hi)))
    (try simp only [Act.put, List.setIfInBounds_toArray, List.set_cons_zero, List.set_cons_succ])
    have H := HC12.out
    clear HC12
    by_cases c24 : t653.toList = t647.toList
    · rw [if_pos c24] at H
      have c24b0 : (t653.toList == t647.toList) = true := beq_iff_eq.mpr c24
      have c24b1 : (t653.toList != t647.toList) = false := bne_eq_false_iff_eq.mpr c24
      clear c24
      (first | rw [c24b0] | rw [c24b1] | (simp only [i64_w, i32_w]; rw [c24b0]) | skip)
      replace H := Option.bind_eq_some_iff.mp H
      obtain ⟨⟨t654, t655⟩, A250, H⟩ := H
      replace H : ((laws_eqCup.f k t648 t649 t654 t655).bind fun t658 => (if t658 = true then (some true) else (some false))) = some r := H
      have A25 := Aside0.mk A250
      clear A250
      replace H := Option.bind_eq_some_iff.mp H
      obtain ⟨t658, A260, H⟩ := H
      replace H : (if t658 = true then (some true) else (some false)) = some r := H
      have A26 := Aside0.mk A260
      clear A260
      have HC27 := Aside0.mk H
      clear H
      try go_wp2
      replace HO646 := Aside0.mk (Kd.R_drew HO646.out)
      replace HO651 := Aside0.mk (Kd.R_drew HO651.out)
      replace BK641 := Aside0.mk (blk_drew BK641.out)
      replace BK652 := Aside0.mk (blk_drew BK652.out)
      replace HB := Aside0.mk (below_drew1 HB.out)
      refine start_ (n := 5) (S := fun w' => w'.cell? ⟨gb652, 0, none⟩ = some (.int .i64 t648) ∧ w'.cell? ⟨gb652, 1, none⟩ = some (.slice Ao22 t649.length co22) ∧ w'.cell? ⟨gb641, 0, none⟩ = some (.int .i64 a0_0) ∧ w'.cell? ⟨gb641, 1, none⟩ = some (.slice A0_1 l0_1.length c0_1)) (ds := []) #[false, false, false, false, false] (by kernel_rfl) rfl rfl ⟨(blk_cell BK652.out 0).trans rfl, (blk_cell BK652.out 1).trans rfl, (blk_cell BK641.out 0).trans rfl, (blk_cell BK641.out 1).trans rfl⟩ (fun hHeld => ?_)
      generalize w23.drew = w28 at HO646 HO651 BK641 BK652 HB hHeld ⊢
      refine take_ (i := 0) (N := some 22) (v := ?_) (a' := ?_) #[true, false, false, false, false] rfl rfl (by kernel_rfl) (fun _ _ _ h => h) (Or.inl ⟨by rfl, ?_⟩) hHeld ?_ ?_
      rotate_left
      · rintro w' ⟨s0, s1, s2, s3⟩
        go_simp
        with_reducible rfl
      rotate_left
      · simp only [Act.put, List.setIfInBounds_toArray, List.set_cons_zero, List.set_cons_succ, i64_w, i32_w]
        rfl
      refine take_ (i := 1) (N := some 23) (v := ?_) (a' := ?_) #[true, true, false, false, false] rfl rfl (by kernel_rfl) (fun _ _ _ h => h) (Or.inl ⟨by rfl, ?_⟩) hHeld ?_ ?_
      rotate_left
      · rintro w' ⟨s0, s1, s2, s3⟩
        go_simp
        with_reducible rfl
      rotate_left
      · simp only [Act.put, List.setIfInBounds_toArray, List.set_cons_zero, List.set_cons_succ, i64_w, i32_w]
        rfl
      refine one_ (i := 2) (N := some 24) #[true, true, true, false, false] rfl rfl (by kernel_rfl) (by decide) (fun K hK => ?_)
      refine goes_ Tryd.func36 (by kernel_rfl) rfl #[.agg #[.int .i64 a0_0, .slice A0_1 l0_1.length c0_1]] (by rfl) rfl rfl (by (try simp only [List.map_toArray, List.map_cons, List.map_nil]); first | done | rfl | (simp only [List.length_drop, List.length_take]; rfl)) ?_
      with_reducible refine (laws_toCup.calls k a0_0 _ _ l0_1 t654 t655 _ ?side1 ?side2 A25.out).mono ?_
      (case side1 => exact cc HR0_1 HB)
      (case side2 => exact HC0_1.out)
      rintro e w29 ⟨v656, rfl, ho0, hb⟩
      refine ⟨_, rfl, ?_⟩
      have HO657 := Aside0.mk (Kd.R_lower (Kd.R_new' (Kd.R_new' ho0 (rt HO646)) (rt HO651)) (below_size (bb HB)))
      replace HO646 := ke HO646 ho0 hb
      replace HO651 := ke HO651 ho0 hb
      replace BK641 := kb BK641 hb
      replace BK652 := kb BK652 hb
      replace HB := hs_ HB hb
      (try clear hb)
      (try clear hb2)
      (try clear hk)
      (try clear hi)
      (try clear ho0)
      obtain ⟨Ao30, co30, eo30⟩ := Kd.R_slice HO657.out
      (first | subst eo30 | (injection eo30 with f1_ f2_ f3_; have f4_ := f1_.symm; have f5_ := f3_.symm; clear f1_ f2_ f3_; subst f4_; subst f5_))
      refine hK.out _ _ ⟨(blk_cell BK652.out 0).trans rfl, (blk_cell BK652.out 1).trans rfl, (blk_cell BK641.out 0).trans rfl, (blk_cell BK641.out 1).trans rfl⟩ (fun hHeld => ?_)
      clear hK K
      refine norm_ (a' := ?_) ?_ ?_
      rotate_left
      · show Act.put _ (some 24) _ = _
        simp only [Act.put, List.setIfInBounds_toArray, List.set_cons_zero, List.set_cons_succ, i64_w, i32_w]
        rfl
      refine one_ (i := 3) (N := some 25) #[true, true, true, true, false] rfl rfl (by kernel_rfl) (by decide) (fun K hK => ?_)
      refine goes_ Tryd.func38 (by kernel_rfl) rfl #[.agg #[.int .i64 t648, .slice Ao22 t649.length co22], .agg #[.int .i64 t654, .slice Ao30 t655.length co30]] (by rfl) rfl rfl (by (try simp only [List.map_toArray, List.map_cons, List.map_nil]); first | done | rfl | (simp only [List.length_drop, List.length_take]; rfl)) ?_
      with_reducible refine (laws_eqCup.calls k t648 _ _ t649 t654 _ _ t655 t658 _ ?side1 ?side2 ?side3 ?side4 A26.out).mono ?_
      (case side1 => exact cr HO651)
      (case side2 => exact (Kd.R_reads' HO651.out).2.1)
      (case side3 => exact cr HO657)
      (case side4 => exact (Kd.R_reads' HO657.out).2.1)
      rintro e w31 ⟨rfl, hb⟩
      refine ⟨_, rfl, ?_⟩
      replace HO646 := kr HO646 hb
      replace HO651 := kr HO651 hb
      replace HO657 := kr HO657 hb
      replace BK641 := kb BK641 hb
      replace BK652 := kb BK652 hb
      replace HB := hs_ HB hb
      (try clear hb)
      (try clear hb2)
      (try clear hk)
      (try clear hi)
      refine hK.out _ _ ⟨(blk_cell BK652.out 0).trans rfl, (blk_cell BK652.out 1).trans rfl, (blk_cell BK641.out 0).trans rfl, (blk_cell BK641.out 1).trans rfl⟩ (fun hHeld => ?_)
      clear hK K
      refine norm_ (a' := ?_) ?_ ?_
      rotate_left
      · show Act.put _ (some 25) _ = _
        simp only [Act.put, List.setIfInBounds_toArray, List.set_cons_zero, List.set_cons_succ, i64_w, i32_w]
        rfl
      refine pure_ (i := 4) (N := some 26) (v := ?_) (a' := ?_) #[true, true, true, true, true] rfl rfl (by kernel_rfl) (fun _ _ _ h => h) (Or.inl ⟨by rfl, ?_⟩) ?_ ?_
      rotate_left
      · intro w'
        go_simp
        with_reducible rfl
      rotate_left
      · simp only [Act.put, List.setIfInBounds_toArray, List.set_cons_zero, List.set_cons_succ, i64_w, i32_w]
        rfl
      refine done_ (by kernel_rfl) ?_
      go_upto_if 26 with (fail)
      have H := HC27.out
      clear HC27
      by_cases c32 : t658 = true
      · subst c32
        have H1 : (some true) = some r := by rw [if_pos rfl] at H; exact H
        clear H
        have H := H1
        clear H1
        obtain rfl := Option.some.inj H
        go_wp2
        go_ret
        exact ⟨ee, bb HB⟩
      · replace c32 := Bool.eq_false_iff.mpr c32
        subst c32
        have H1 : (some false) = some r := by rw [if_neg (show ¬ (false = true) by decide)] at H; exact H
        clear H
        have H := H1
        clear H1
        obtain rfl := Option.some.inj H
        go_wp2
        go_ret
        exact ⟨ee, bb HB⟩
    · rw [if_neg c24] at H
      have c24b0 : (t653.toList == t647.toList) = false := beq_eq_false_iff_ne.mpr c24
      have c24b1 : (t653.toList != t647.toList) = true := bne_iff_ne.mpr c24
      (first | rw [c24b0] | rw [c24b1] | (simp only [i64_w, i32_w]; rw [c24b0]) | skip)
      obtain rfl := Option.some.inj H
      go_wp2
      go_ret
      exact ⟨ee, bb HB⟩
end Go.Proofs.YtibmeomlokigjaaDoor.Q
namespace Go.Proofs.YtibmeomlokigjaaDoor.Opens
open Go.ChangeShapes Go.WideShapes Go.ChangeAt Go.RowKit Go.Proofs.YtibmeomlokigjaaDoor.Q Go.Proofs.YtibmeomlokigjaaDoorW.PrintWords Go.Proofs.YtibmeomlokigjaaDoorW.PrintLast
section
variable {H : Type} (enc : TypeId × Value → H) (P : Program) (W : World)
def Opens {α : Type} (t : TypeId) (d : Kd α) (ok : α → Prop) : Prop := ∀ (fuel : Nat) (cs : List Value) (x : DataW H × List MemPlace), DataW.trod enc P W 0 (fun _ => true) true fuel t cs = some x → ∃ a, d.K W a cs ∧ ok a
def OpensFs {α : Type} (off : Nat) (fs : List Field) (d : Kd α) (ok : α → Prop) : Prop :=
  ∀ (n : Nat) (cs : List Value) (xs : List (DataW H × List MemPlace)), (∀ (i : Nat) (f : Field), fs[i]? = some f → DataW.trod enc P W 0 (fun _ => true) true n f.type ((cs.drop f.offset).take (P.cellsOf f.type)) = xs[i]?) → xs.length = fs.length → cs.length = off + d.sz → ∃ a, d.K W a (cs.drop off) ∧ ok a
variable {enc P W}
variable {α β : Type} {t : TypeId} {d : Kd α} {d2 : Kd β} {ok : α → Prop} {ok2 : β → Prop}
theorem int {k : IntKind} (ht : P.underlying t = some (.int k)) : Opens enc P W t (Kd.int k) (fun n => (Lit.int k n).wf = true) := fun fuel cs x h => by
  obtain ⟨n, rfl, _, hw⟩ := DataW.trod_int ht h
  exact ⟨n, rfl, hw⟩
theorem cells_get {w : World} {base : Nat} {a : Addr} {n : Nat} {cs : List Value} (h : w.cells? base a n = some cs) : cs.length = n ∧ ∀ i u, cs[i]? = some u → w.cell? (a.add i) = some u := by
  unfold World.cells? at h
  split at h
  · have hl := mapM_some_length h
    refine ⟨by simpa using hl, fun i u hi => ?_⟩
    have hlt : i < n := by have := (List.getElem?_eq_some_iff.mp hi).1; simp at hl; omega
    have := mapM_some_get h i i (by simp [hlt])
    rw [this, hi]
  · cases h
theorem add_add (a : Addr) (i j : Nat) : (a.add i).add j = a.add (i + j) := by
  unfold Addr.add
  by_cases hi : i = 0
  · subst hi; simp
  · by_cases hj : j = 0
    · subst hj; simp [hi]
    · simp [hi, hj]; omega
theorem slice {e : TypeId} (ht : P.underlying t = some (.slice e)) (he : Opens enc P W e d ok) (hc : P.cellsOf e = d.sz) (q : Nat) : Opens enc P W t (Kd.slice q d) (fun l => l.length ≤ maxLen ∧ ∀ x ∈ l, ok x) := fun fuel cs x h => by
  rcases DataW.trod_slice ht h with ⟨rfl, _⟩ | ⟨a, len, cap, elems, rest, n, _, rfl, _, _, hl, hm, hlen, hel, _⟩
  · exact ⟨[], ⟨none, 0, rfl, Nat.le_refl _, rfl, Nat.zero_le _, fun h => absurd h (Nat.not_lt_zero _)⟩, Nat.zero_le _, fun x hx => by cases hx⟩
  · have each : ∀ i : Fin len, ∃ p : α, ok p ∧ ∃ c, c.length = d.sz ∧ d.K W p c ∧ ∀ j u, c[j]? = some u → W.cell? (a.add (i.1 * d.sz + j)) = some u := by
      intro i
      have h1 := hel i.1 i.2
      obtain ⟨y, hy⟩ : ∃ y, elems[i.1]? = some y := ⟨elems[i.1]'(by have := i.2; omega), List.getElem?_eq_getElem (by have := i.2; omega)⟩
      rw [hy, Option.bind_eq_some_iff] at h1
      obtain ⟨c, hcs, htr⟩ := h1
      rw [hc] at hcs
      obtain ⟨p, hK, hok⟩ := he _ _ _ htr
      obtain ⟨h2, h3⟩ := cells_get hcs
      exact ⟨p, hok, c, h2, hK, fun j u hj => by rw [← add_add]; exact h3 j u hj⟩
    let f : Fin len → α := fun i => (each i).choose
    have hf : ∀ i : Fin len, ok (f i) ∧ ∃ c, c.length = d.sz ∧ d.K W (f i) c ∧ ∀ j u, c[j]? = some u → W.cell? (a.add (i.1 * d.sz + j)) = some u := fun i => (each i).choose_spec
    have hm' : len ≤ maxLen := Nat.le_trans hl hm
    refine ⟨List.ofFn f, ⟨some a, cap, by simp, by simpa using hl, by simp, by simpa [maxLen] using hm', fun _ => ⟨a, rfl, fun j p hj => ?_⟩⟩, by simpa using hm', fun x hx => ?_⟩
    · have hlt : j < len := by have := (List.getElem?_eq_some_iff.mp hj).1; simpa using this
      have : p = f ⟨j, hlt⟩ := by rw [List.getElem?_eq_getElem (by simpa using hlt)] at hj; simpa using hj.symm
      subst this
      obtain ⟨_, c, h1, h2, h3⟩ := hf ⟨j, hlt⟩
      exact ⟨c, h1, h2, h3⟩
    · obtain ⟨i, hi, rfl⟩ := List.mem_iff_getElem.mp hx
      simp only [List.getElem_ofFn]
      exact (hf _).1
theorem one {f : Field} (off : Nat) (ho : f.offset = off) (he : Opens enc P W f.type d ok) (hc : P.cellsOf f.type = d.sz) : OpensFs enc P W off [f] d ok := fun n cs xs h hx hl => by
  have h0 := h 0 f rfl
  have hz : xs.length = 1 := hx
  obtain ⟨y, rfl⟩ := List.length_eq_one_iff.mp hz
  rw [ho, hc, List.take_of_length_le (by simp; omega)] at h0
  exact he _ _ _ h0
theorem cons {f : Field} {fs : List Field} (off off2 : Nat) (ho : f.offset = off) (he : Opens enc P W f.type d ok) (hc : P.cellsOf f.type = d.sz) (h2 : off + d.sz = off2) (hr : OpensFs enc P W off2 fs d2 ok2) :
    OpensFs enc P W off (f :: fs) (Kd.pair d d2) (fun x => ok x.1 ∧ ok2 x.2) := fun n cs xs h hx hl => by
  cases xs with
  | nil => simp at hx
  | cons y ys =>
    have h0 := h 0 f rfl
    rw [ho, hc] at h0
    obtain ⟨p, hp, hok⟩ := he _ _ _ h0
    have hl' : cs.length = off + (d.sz + d2.sz) := hl
    obtain ⟨q, hq, hok2⟩ := hr n cs ys (fun i g hi => h (i + 1) g hi) (by simpa using hx) (by omega)
    refine ⟨(p, q), ⟨_, _, ?_, hp, hq⟩, hok, hok2⟩
    rw [← h2, ← List.drop_drop, List.take_append_drop]
theorem struct {fs : Array Field} (ht : P.underlying t = some (.struct fs)) (hc : P.cellsOf t = d.sz) (h : OpensFs enc P W 0 fs.toList d ok) : Opens enc P W t d ok := fun fuel cs x hx => by
  obtain ⟨xs, n, _, _, hl, hxs, hf⟩ := DataW.trod_struct ht hx
  have := h n cs xs (fun i f hi => hf i f (by simpa using hi)) (by simpa using hxs) (by omega)
  simpa using this
end
theorem trod_struct_val {H : Type} {enc : TypeId × Value → H} {P : Program} {W : World} {r : Reach} {b0 : Nat} {t : TypeId} {v : Value} {fs : Array Field} {α : Type} {d : Kd α} {ok : α → Prop} {dd : DataW H} {ps : List MemPlace} (ht : P.underlying t = some (.struct fs)) (hval : Value.okWide P W r b0 t v) (hd : DataW.Trod enc P W 0 (fun _ => true) true t v dd ps) (h : Opens enc P W t d ok) :
    ∃ cs a, v = .agg cs ∧ d.K W a cs.toList ∧ ok a := by
  obtain ⟨cs, rfl, _⟩ := okWide_struct ht hval
  obtain ⟨fuel, hf⟩ := hd
  obtain ⟨a, hK, hok⟩ := h _ _ _ hf
  exact ⟨cs, a, rfl, by simpa [Value.cells] using hK, hok⟩
end Go.Proofs.YtibmeomlokigjaaDoor.Opens
namespace Go.Proofs.YtibmeomlokigjaaDoor.Laid
open Go.ChangeShapes Go.WideShapes Go.ChangeAt Go.WideMaps Go.WideElems Go.RowKit
noncomputable def laid3 : List (String × DataW Unit) := Rows.fnExactFormatGameRow.laid
theorem door_met (os : Os) (args : Array Value) : laidMetH Tryd.prog laid3 ((World.doorLaid Tryd.prog 400 os).forCall (fun _ _ => 0) ⟨#[], args, []⟩).memory :=
  laidMetH_of_parts3 (fuel := 8) (laidMet_of_run' 8 (by kernel_rfl) (by kernel_rfl)) (by kernel_rfl) (by kernel_rfl)
theorem door_shaped (os : Os) (args : Array Value) : ((World.doorLaid Tryd.prog 400 os).forCall (fun _ _ => 0) ⟨#[], args, []⟩).Shaped Tryd.prog :=
  World.shaped_of_RefB (by kernel_rfl) (by kernel_rfl)
end Go.Proofs.YtibmeomlokigjaaDoor.Laid
namespace Go.Proofs.YtibmeomlokigjaaDoor.Q
open Go.RowKit Go.Proofs.YtibmeomlokigjaaDoorW.PrintWords Go.Proofs.YtibmeomlokigjaaDoorW.PrintLast Go.Proofs.YtibmeomlokigjaaDoorW.PrintMore
attribute [local go_sem] max2_int min2_int max_two min_two max_three min_three max_four min_four
set_option linter.unusedVariables false
set_option linter.unusedSimpArgs false
def spec_l03Names.f  : Option (List ByteArray) := some (([(⟨#[112, 111, 105, 110, 116, 115]⟩ : ByteArray), (⟨#[100, 105, 102, 102, 101, 114, 101, 110, 99, 101]⟩ : ByteArray), (⟨#[115, 99, 111, 114, 101, 100]⟩ : ByteArray), (⟨#[119, 105, 110, 115]⟩ : ByteArray), (⟨#[109, 117, 116, 117, 97, 108]⟩ : ByteArray), (⟨#[109, 117, 116, 117, 97, 108, 100, 105, 102, 102, 101, 114, 101, 110, 99, 101]⟩ : ByteArray), (⟨#[102, 97, 105, 114]⟩ : ByteArray), (⟨#[115, 101, 101, 100]⟩ : ByteArray)] : List ByteArray))
end Go.Proofs.YtibmeomlokigjaaDoor.Q
namespace Go.Proofs.YtibmeomlokigjaaDoor.Q
open Go.RowKit Go.Proofs.YtibmeomlokigjaaDoorW.PrintWords Go.Proofs.YtibmeomlokigjaaDoorW.PrintLast Go.Proofs.YtibmeomlokigjaaDoorW.PrintMore
attribute [local go_sem] max2_int min2_int max_two min_two max_three min_three max_four min_four
set_option linter.unusedVariables false
set_option linter.unusedSimpArgs false
def spec_l01In.f (a0 : Int) (a1 : Int) (a2 : Int) : Option (Bool) := if a0 ≥ a1 then (some (decide (a0 ≤ a2))) else (some false)
end Go.Proofs.YtibmeomlokigjaaDoor.Q
namespace Go.Proofs.YtibmeomlokigjaaDoor.Q
open Go.RowKit Go.Proofs.YtibmeomlokigjaaDoorW.PrintWords Go.Proofs.YtibmeomlokigjaaDoorW.PrintLast Go.Proofs.YtibmeomlokigjaaDoorW.PrintMore
attribute [local go_sem] max2_int min2_int max_two min_two max_three min_three max_four min_four
set_option linter.unusedVariables false
set_option linter.unusedSimpArgs false
def spec_KeyName.f (a0 : Int) : Option (ByteArray) := (spec_l01In.f a0 1 8).bind fun t303 => (if t303 = true then ((spec_l03Names.f).bind fun t304 => (if 0 ≤ (wrap64 (a0 - 1)) then (if (wrap64 (a0 - 1)) < (t304.length : Int) then (some (rdOf ByteArray.empty t304 (wrap64 (a0 - 1)))) else (none)) else (none))) else (some (⟨#[]⟩ : ByteArray)))
end Go.Proofs.YtibmeomlokigjaaDoor.Q
namespace Go.Proofs.YtibmeomlokigjaaDoor.Q
open Go.RowKit Go.Proofs.YtibmeomlokigjaaDoorW.PrintWords Go.Proofs.YtibmeomlokigjaaDoorW.PrintLast Go.Proofs.YtibmeomlokigjaaDoorW.PrintMore
attribute [local go_sem] max2_int min2_int max_two min_two max_three min_three max_four min_four
set_option linter.unusedVariables false
set_option linter.unusedSimpArgs false
def spec_l02Has.l0 : Nat → Int → List Int → Int → Int → Option (Bool)
  | 0, _, _, _, _ => none
  | k + 1, x1, x7, x8, x9 => if x9 < x8 then (if 0 ≤ x9 then (if x9 < (x7.length : Int) then (if (rd x7 x9) = x1 then (some true) else (spec_l02Has.l0 k x1 x7 x8 (wrap64 (x9 + 1)))) else (none)) else (none)) else (some false)
def spec_l02Has.f (k : Nat) (l0 : List Int) (a1 : Int) : Option (Bool) := spec_l02Has.l0 k a1 l0 (l0.length : Int) 0
end Go.Proofs.YtibmeomlokigjaaDoor.Q
namespace Go.Proofs.YtibmeomlokigjaaDoor.Q
open Go.RowKit Go.Proofs.YtibmeomlokigjaaDoorW.PrintWords Go.Proofs.YtibmeomlokigjaaDoorW.PrintLast Go.Proofs.YtibmeomlokigjaaDoorW.PrintMore
attribute [local go_sem] max2_int min2_int max_two min_two max_three min_three max_four min_four
set_option linter.unusedVariables false
set_option linter.unusedSimpArgs false
mutual
def spec_RulesOk.j0 : Nat → Bool → Int → Int → Int → List Int → Bool → Option (Bool)
  | 0, _, _, _, _, _, _ => none
  | k + 1, x31, x292000, x292001, x292002, x292003, x292004 => if x31 = true then (some false) else (spec_RulesOk.l0 k x292003 (x292003.length : Int) 0 x292000 x292001 x292002 x292003 x292004)
def spec_RulesOk.l0 : Nat → List Int → Int → Int → Int → Int → Int → List Int → Bool → Option (Bool)
  | 0, _, _, _, _, _, _, _, _ => none
  | k + 1, x33, x34, x35, x292000, x292001, x292002, x292003, x292004 => if x35 < x34 then (if 0 ≤ x35 then (if x35 < (x33.length : Int) then ((spec_l01In.f (rd x33 x35) 1 8).bind fun t297 => (if t297 = true then (if x35 ≤ (x292003.length : Int) then ((spec_l02Has.f k (x292003.take (x35 : Int).toNat) (rd x33 x35)).bind fun t299 => (if t299 = true then (some false) else (spec_RulesOk.l0 k x33 x34 (wrap64 (x35 + 1)) x292000 x292001 x292002 x292003 x292004))) else (none)) else (some false))) else (none)) else (none)) else (some true)
end
def spec_RulesOk.f (k : Nat) (a0_0 : Int) (a0_1 : Int) (a0_2 : Int) (l0_3 : List Int) (a0_4 : Bool) : Option (Bool) := (spec_l01In.f a0_0 0 10).bind fun t292 => (if t292 = true then ((spec_l01In.f a0_1 0 a0_0).bind fun t293 => (if t293 = true then ((spec_l01In.f a0_2 0 a0_1).bind fun t294 => (if t294 = true then ((spec_l01In.f (l0_3.length : Int) 1 8).bind fun t295 => (spec_RulesOk.j0 k (!t295) a0_0 a0_1 a0_2 l0_3 a0_4)) else (spec_RulesOk.j0 k true a0_0 a0_1 a0_2 l0_3 a0_4))) else (spec_RulesOk.j0 k true a0_0 a0_1 a0_2 l0_3 a0_4))) else (spec_RulesOk.j0 k true a0_0 a0_1 a0_2 l0_3 a0_4))
end Go.Proofs.YtibmeomlokigjaaDoor.Q
namespace Go.Proofs.YtibmeomlokigjaaDoor.Q
open Go.RowKit Go.Proofs.YtibmeomlokigjaaDoorW.PrintWords Go.Proofs.YtibmeomlokigjaaDoorW.PrintLast Go.Proofs.YtibmeomlokigjaaDoorW.PrintMore
attribute [local go_sem] max2_int min2_int max_two min_two max_three min_three max_four min_four
set_option linter.unusedVariables false
set_option linter.unusedSimpArgs false
def spec_FormatRules.l0 : Nat → List ByteArray → List Int → Int → Int → Int → Int → Int → List Int → Bool → Option (ByteArray)
  | 0, _, _, _, _, _, _, _, _, _ => none
  | k + 1, x3, x12, x13, x14, x310000, x310001, x310002, x310003, x310004 => if x14 < x13 then (if 0 ≤ x14 then (if x14 < (x12.length : Int) then ((spec_KeyName.f (rd x12 x14)).bind fun t315 => (if x3.length < 8796093022208 then (spec_FormatRules.l0 k (x3 ++ [t315]) x12 x13 (wrap64 (x14 + 1)) x310000 x310001 x310002 x310003 x310004) else (none))) else (none)) else (none)) else ((spec_FormatInt.f k x310000).bind fun t319 => (if t319.size + 1 ≤ 9223372036854775807 then ((spec_FormatInt.f k x310001).bind fun t320 => (if (t319 ++ (⟨#[45]⟩ : ByteArray)).size + t320.size ≤ 9223372036854775807 then (if ((t319 ++ (⟨#[45]⟩ : ByteArray)) ++ t320).size + 1 ≤ 9223372036854775807 then ((spec_FormatInt.f k x310002).bind fun t321 => (if (((t319 ++ (⟨#[45]⟩ : ByteArray)) ++ t320) ++ (⟨#[45]⟩ : ByteArray)).size + t321.size ≤ 9223372036854775807 then (if ((((t319 ++ (⟨#[45]⟩ : ByteArray)) ++ t320) ++ (⟨#[45]⟩ : ByteArray)) ++ t321).size + 1 ≤ 9223372036854775807 then ((spec_Join.f k x3 (⟨#[62]⟩ : ByteArray)).bind fun t322 => (if (((((t319 ++ (⟨#[45]⟩ : ByteArray)) ++ t320) ++ (⟨#[45]⟩ : ByteArray)) ++ t321) ++ (⟨#[32]⟩ : ByteArray)).size + t322.size ≤ 9223372036854775807 then (if x310004 = true then (if ((((((t319 ++ (⟨#[45]⟩ : ByteArray)) ++ t320) ++ (⟨#[45]⟩ : ByteArray)) ++ t321) ++ (⟨#[32]⟩ : ByteArray)) ++ t322).size + 6 ≤ 9223372036854775807 then (some (((((((t319 ++ (⟨#[45]⟩ : ByteArray)) ++ t320) ++ (⟨#[45]⟩ : ByteArray)) ++ t321) ++ (⟨#[32]⟩ : ByteArray)) ++ t322) ++ (⟨#[32, 97, 103, 97, 105, 110]⟩ : ByteArray))) else (none)) else (some ((((((t319 ++ (⟨#[45]⟩ : ByteArray)) ++ t320) ++ (⟨#[45]⟩ : ByteArray)) ++ t321) ++ (⟨#[32]⟩ : ByteArray)) ++ t322))) else (none))) else (none)) else (none))) else (none)) else (none))) else (none)))
def spec_FormatRules.f (k : Nat) (a0_0 : Int) (a0_1 : Int) (a0_2 : Int) (l0_3 : List Int) (a0_4 : Bool) : Option (ByteArray) := (spec_RulesOk.f k a0_0 a0_1 a0_2 l0_3 a0_4).bind fun t310 => (if t310 = true then (spec_FormatRules.l0 k (([] : List ByteArray)) l0_3 (l0_3.length : Int) 0 a0_0 a0_1 a0_2 l0_3 a0_4) else (some (⟨#[]⟩ : ByteArray)))
end Go.Proofs.YtibmeomlokigjaaDoor.Q
namespace Go.Proofs.YtibmeomlokigjaaDoor.Q
open Go.RowKit Go.Proofs.YtibmeomlokigjaaDoorW.PrintWords Go.Proofs.YtibmeomlokigjaaDoorW.PrintLast Go.Proofs.YtibmeomlokigjaaDoorW.PrintMore
attribute [local go_sem] max2_int min2_int max_two min_two max_three min_three max_four min_four
set_option linter.unusedVariables false
set_option linter.unusedSimpArgs false
def impl_keyNames.f  : Option (List ByteArray) := some (([(⟨#[112, 111, 105, 110, 116, 115]⟩ : ByteArray), (⟨#[100, 105, 102, 102, 101, 114, 101, 110, 99, 101]⟩ : ByteArray), (⟨#[115, 99, 111, 114, 101, 100]⟩ : ByteArray), (⟨#[119, 105, 110, 115]⟩ : ByteArray), (⟨#[109, 117, 116, 117, 97, 108]⟩ : ByteArray), (⟨#[109, 117, 116, 117, 97, 108, 100, 105, 102, 102, 101, 114, 101, 110, 99, 101]⟩ : ByteArray), (⟨#[102, 97, 105, 114]⟩ : ByteArray), (⟨#[115, 101, 101, 100]⟩ : ByteArray)] : List ByteArray))
end Go.Proofs.YtibmeomlokigjaaDoor.Q
namespace Go.Proofs.YtibmeomlokigjaaDoor.Q
open Go.RowKit Go.Proofs.YtibmeomlokigjaaDoorW.PrintWords Go.Proofs.YtibmeomlokigjaaDoorW.PrintLast Go.Proofs.YtibmeomlokigjaaDoorW.PrintMore
attribute [local go_sem] max2_int min2_int max_two min_two max_three min_three max_four min_four
set_option linter.unusedVariables false
set_option linter.unusedSimpArgs false
def impl_isKey.f (a0 : Int) : Option (Bool) := (impl_within.f a0 1 8).bind fun t334 => (some t334)
end Go.Proofs.YtibmeomlokigjaaDoor.Q
namespace Go.Proofs.YtibmeomlokigjaaDoor.Q
open Go.RowKit Go.Proofs.YtibmeomlokigjaaDoorW.PrintWords Go.Proofs.YtibmeomlokigjaaDoorW.PrintLast Go.Proofs.YtibmeomlokigjaaDoorW.PrintMore
attribute [local go_sem] max2_int min2_int max_two min_two max_three min_three max_four min_four
set_option linter.unusedVariables false
set_option linter.unusedSimpArgs false
def impl_KeyName.f (a0 : Int) : Option (ByteArray) := (impl_isKey.f a0).bind fun t346 => (if t346 = true then ((impl_keyNames.f).bind fun t347 => (if 0 ≤ (wrap64 (a0 - 1)) then (if (wrap64 (a0 - 1)) < (t347.length : Int) then (some (rdOf ByteArray.empty t347 (wrap64 (a0 - 1)))) else (none)) else (none))) else (some (⟨#[]⟩ : ByteArray)))
end Go.Proofs.YtibmeomlokigjaaDoor.Q
namespace Go.Proofs.YtibmeomlokigjaaDoor.Q
open Go.RowKit Go.Proofs.YtibmeomlokigjaaDoorW.PrintWords Go.Proofs.YtibmeomlokigjaaDoorW.PrintLast Go.Proofs.YtibmeomlokigjaaDoorW.PrintMore
attribute [local go_sem] max2_int min2_int max_two min_two max_three min_three max_four min_four
set_option linter.unusedVariables false
set_option linter.unusedSimpArgs false
def slices_Index_int_int.l0 : Nat → List Int → Int → Int → Int → Option (Int)
  | 0, _, _, _, _ => none
  | k + 1, x0, x1, x7, x8 => if x8 < x7 then (if 0 ≤ x8 then (if x8 < (x0.length : Int) then (if x1 = (rd x0 x8) then (some x8) else (slices_Index_int_int.l0 k x0 x1 x7 (wrap64 (x8 + 1)))) else (none)) else (none)) else (some (-1))
def slices_Index_int_int.f (k : Nat) (l0 : List Int) (a1 : Int) : Option (Int) := slices_Index_int_int.l0 k l0 a1 (l0.length : Int) 0
end Go.Proofs.YtibmeomlokigjaaDoor.Q
namespace Go.Proofs.YtibmeomlokigjaaDoor.Q
open Go.RowKit Go.Proofs.YtibmeomlokigjaaDoorW.PrintWords Go.Proofs.YtibmeomlokigjaaDoorW.PrintLast Go.Proofs.YtibmeomlokigjaaDoorW.PrintMore
attribute [local go_sem] max2_int min2_int max_two min_two max_three min_three max_four min_four
set_option linter.unusedVariables false
set_option linter.unusedSimpArgs false
def slices_Contains_int_int.f (k : Nat) (l0 : List Int) (a1 : Int) : Option (Bool) := (slices_Index_int_int.f k l0 a1).bind fun t336 => (some (decide (t336 ≥ 0)))
end Go.Proofs.YtibmeomlokigjaaDoor.Q
namespace Go.Proofs.YtibmeomlokigjaaDoor.Q
open Go.RowKit Go.Proofs.YtibmeomlokigjaaDoorW.PrintWords Go.Proofs.YtibmeomlokigjaaDoorW.PrintLast Go.Proofs.YtibmeomlokigjaaDoorW.PrintMore
attribute [local go_sem] max2_int min2_int max_two min_two max_three min_three max_four min_four
set_option linter.unusedVariables false
set_option linter.unusedSimpArgs false
def impl_RulesOk.l0 : Nat → List Int → Int → Int → Int → Int → Int → List Int → Bool → Option (Bool)
  | 0, _, _, _, _, _, _, _, _ => none
  | k + 1, x6, x7, x8, x338000, x338001, x338002, x338003, x338004 => if x8 < x7 then (if 0 ≤ x8 then (if x8 < (x6.length : Int) then ((impl_isKey.f (rd x6 x8)).bind fun t340 => (if t340 = true then (if x8 ≤ (x338003.length : Int) then ((slices_Contains_int_int.f k (x338003.take (x8 : Int).toNat) (rd x6 x8)).bind fun t342 => (if t342 = true then (some false) else (impl_RulesOk.l0 k x6 x7 (wrap64 (x8 + 1)) x338000 x338001 x338002 x338003 x338004))) else (none)) else (some false))) else (none)) else (none)) else (if 0 ≤ x338002 then (if x338002 ≤ x338001 then (if x338001 ≤ x338000 then (if x338000 ≤ 10 then ((impl_within.f (x338003.length : Int) 1 8).bind fun t338 => (some t338)) else (some false)) else (some false)) else (some false)) else (some false))
def impl_RulesOk.f (k : Nat) (a0_0 : Int) (a0_1 : Int) (a0_2 : Int) (l0_3 : List Int) (a0_4 : Bool) : Option (Bool) := impl_RulesOk.l0 k l0_3 (l0_3.length : Int) 0 a0_0 a0_1 a0_2 l0_3 a0_4
end Go.Proofs.YtibmeomlokigjaaDoor.Q
namespace Go.Proofs.YtibmeomlokigjaaDoor.Q
open Go.RowKit Go.Proofs.YtibmeomlokigjaaDoorW.PrintWords Go.Proofs.YtibmeomlokigjaaDoorW.PrintLast Go.Proofs.YtibmeomlokigjaaDoorW.PrintMore
attribute [local go_sem] max2_int min2_int max_two min_two max_three min_three max_four min_four
set_option linter.unusedVariables false
set_option linter.unusedSimpArgs false
def impl_FormatRules.l0 : Nat → List ByteArray → List Int → Int → Int → Int → Int → Int → List Int → Bool → Option (ByteArray)
  | 0, _, _, _, _, _, _, _, _, _ => none
  | k + 1, x3, x12, x13, x14, x352000, x352001, x352002, x352003, x352004 => if x14 < x13 then (if 0 ≤ x14 then (if x14 < (x12.length : Int) then ((impl_KeyName.f (rd x12 x14)).bind fun t357 => (if x3.length < 8796093022208 then (impl_FormatRules.l0 k (x3 ++ [t357]) x12 x13 (wrap64 (x14 + 1)) x352000 x352001 x352002 x352003 x352004) else (none))) else (none)) else (none)) else ((impl_texts.f k (([x352000, x352001, x352002] : List Int))).bind fun t364 => ((impl_Join.f t364 (⟨#[45]⟩ : ByteArray)).bind fun t367 => (if t367.size + 1 ≤ 9223372036854775807 then ((impl_Join.f x3 (⟨#[62]⟩ : ByteArray)).bind fun t368 => (if (t367 ++ (⟨#[32]⟩ : ByteArray)).size + t368.size ≤ 9223372036854775807 then (if x352004 = true then (if ((t367 ++ (⟨#[32]⟩ : ByteArray)) ++ t368).size + 6 ≤ 9223372036854775807 then (some (((t367 ++ (⟨#[32]⟩ : ByteArray)) ++ t368) ++ (⟨#[32, 97, 103, 97, 105, 110]⟩ : ByteArray))) else (none)) else (some ((t367 ++ (⟨#[32]⟩ : ByteArray)) ++ t368))) else (none))) else (none))))
def impl_FormatRules.f (k : Nat) (a0_0 : Int) (a0_1 : Int) (a0_2 : Int) (l0_3 : List Int) (a0_4 : Bool) : Option (ByteArray) := (impl_RulesOk.f k a0_0 a0_1 a0_2 l0_3 a0_4).bind fun t352 => (if t352 = true then (impl_FormatRules.l0 k (([] : List ByteArray)) l0_3 (l0_3.length : Int) 0 a0_0 a0_1 a0_2 l0_3 a0_4) else (some (⟨#[]⟩ : ByteArray)))
end Go.Proofs.YtibmeomlokigjaaDoor.Q
namespace Go.Proofs.YtibmeomlokigjaaDoor.Q
open Go.RowKit Go.Proofs.YtibmeomlokigjaaDoorW.PrintWords Go.Proofs.YtibmeomlokigjaaDoorW.PrintLast Go.Proofs.YtibmeomlokigjaaDoorW.PrintMore
def mk (l : List UInt8) : ByteArray := ⟨l.toArray⟩
theorem mk_append (a b : List UInt8) : mk a ++ mk b = mk (a ++ b) := by
  apply ByteArray.ext
  simp [mk]
theorem mk_size (l : List UInt8) : (mk l).size = l.length := by simp [mk, ByteArray.size]
theorem mk_self (s : ByteArray) : mk s.data.toList = s := rfl
theorem strOfNums_mk (l : List Int) : strOfNums l = mk (l.map fun n => UInt8.ofNat n.toNat) := rfl
def dec (n : Int) : ByteArray := mk (Lib.decDigits n.toNat)
theorem dec_size (n : Int) (h0 : 0 ≤ n) (h1 : n < 100) : (dec n).size ≤ 2 := by
  unfold dec
  rw [mk_size]
  by_cases h : n.toNat < 10
  · rw [Lib.decDigits_one h]; simp
  · rw [Lib.decDigits_two h (by omega)]; simp
theorem wrap_id (x : Int) (h0 : -9223372036854775808 ≤ x) (h1 : x ≤ 9223372036854775807) : wrap64 x = x := by unfold wrap64; omega
theorem formatInt_l0 (m : Nat) : ∀ (k : Nat) (n : Int) (s : List UInt8), 0 ≤ n → n.toNat < 10 ^ (m + 1) → n ≤ 9223372036854775807 → s.length + m ≤ 1000 → spec_FormatInt.l0 (k + m + 1) n (mk s) = some (mk (Lib.decDigits n.toNat ++ s)) := by
  induction m with
  | zero =>
    intro k n s h0 h1 h2 hs
    have hn : n.toNat < 10 := by simpa using h1
    rw [spec_FormatInt.l0, if_neg (by omega)]
    simp only [Option.bind_some, strOfNums_mk, List.map_cons, List.map_nil, mk_size, mk_append]
    rw [if_pos (by simp; omega), Lib.decDigits_one hn, wrap_id _ (by omega) (by omega), show ((48 + n) % 256).toNat = 48 + n.toNat by omega]
  | succ m ih =>
    intro k n s h0 h1 h2 hs
    by_cases hn : n > 9
    · rw [show k + (m + 1) + 1 = (k + m + 1) + 1 by omega, spec_FormatInt.l0, if_pos hn]
      have h10 : Int.tdiv n 10 = n / 10 := Int.tdiv_eq_ediv_of_nonneg h0
      have hm10 : Int.tmod n 10 = n % 10 := Int.tmod_eq_emod_of_nonneg h0
      simp only [Option.bind_some, strOfNums_mk, List.map_cons, List.map_nil, mk_size, mk_append, h10, hm10]
      rw [if_pos (by simp; omega), wrap_id (n / 10) (by omega) (by omega)]
      have hlt : (n / 10).toNat < 10 ^ (m + 1) := by
        have : n.toNat < 10 * 10 ^ (m + 1) := by rw [Nat.pow_succ] at h1; omega
        omega
      rw [List.singleton_append, ih k (n / 10) _ (by omega) hlt (by omega) (by simp; omega)]
      congr 2
      rw [wrap_id _ (by omega) (by omega), show ((48 + n % 10) % 256).toNat = 48 + n.toNat % 10 by omega]
      conv => rhs; rw [Lib.decDigits]
      rw [dif_neg (by omega), List.append_assoc, show (n / 10).toNat = n.toNat / 10 by omega]
      rfl
    · rw [show k + (m + 1) + 1 = (k + m + 1) + 1 by omega, spec_FormatInt.l0, if_neg hn]
      simp only [Option.bind_some, strOfNums_mk, List.map_cons, List.map_nil, mk_size, mk_append]
      rw [if_pos (by simp; omega), Lib.decDigits_one (by omega), wrap_id _ (by omega) (by omega), show ((48 + n) % 256).toNat = 48 + n.toNat by omega]
theorem specFormatInt (k : Nat) (n : Int) (h0 : 0 ≤ n) (h1 : n < 100) : spec_FormatInt.f (k + 3) n = some (dec n) := by
  rw [show k + 3 = (k + 2) + 1 by omega, spec_FormatInt.f, if_neg (by omega)]
  have := formatInt_l0 1 k n [] h0 (by simp; omega) (by omega) (by simp)
  rw [List.append_nil] at this
  exact this
theorem implFormatInt (n : Int) (h0 : 0 ≤ n) (h1 : n < 100) : impl_FormatInt.f n = some (dec n) := by
  unfold impl_FormatInt.f strconv_Itoa.f
  rw [if_pos ⟨h0, h1⟩]
  rfl
theorem rd_nat (l : List Int) (i : Nat) (h : i < l.length) : rd l (i : Int) = l[i] := by
  simp [rd, h]
theorem texts_l0 (l : List Int) (hl : l.length ≤ 1000000) (hr : ∀ x ∈ l, 0 ≤ x ∧ x < 100) (k : Nat) : ∀ (m i : Nat) (acc : List ByteArray), i + m = l.length → acc.length = i → impl_texts.l0 (k + m + 1) acc l (l.length : Int) (i : Int) = some (acc ++ (l.drop i).map dec) := by
  intro m
  induction m with
  | zero =>
    intro i acc hi ha
    rw [impl_texts.l0, if_neg (by omega), List.drop_eq_nil_of_le (by omega)]
    simp
  | succ m ih =>
    intro i acc hi ha
    have hlt : i < l.length := by omega
    rw [show k + (m + 1) + 1 = (k + m + 1) + 1 by omega, impl_texts.l0, if_pos (by omega), if_pos (by omega), if_pos (by omega), rd_nat l i hlt]
    obtain ⟨r0, r1⟩ := hr l[i] (List.getElem_mem hlt)
    rw [implFormatInt _ r0 r1, Option.bind_some, if_pos (by omega), wrap_id _ (by omega) (by omega)]
    have := ih (i + 1) (acc ++ [dec l[i]]) (by omega) (by simp [ha])
    rw [show ((i : Int) + 1) = ((i + 1 : Nat) : Int) by omega, this, List.drop_eq_getElem_cons hlt, List.map_cons, List.append_assoc]
    rfl
theorem texts_eq (l : List Int) (hl : l.length ≤ 1000000) (hr : ∀ x ∈ l, 0 ≤ x ∧ x < 100) (k : Nat) : impl_texts.f (k + l.length + 1) l = some (l.map dec) := by
  unfold impl_texts.f
  have := texts_l0 l hl hr k l.length 0 [] (by omega) rfl
  simpa using this
def joinB (l : List ByteArray) (s : ByteArray) : ByteArray := mk (Lib.join (l.map (·.data.toList)) s.data.toList)
theorem join_eq (l : List ByteArray) (s : ByteArray) (h1 : l.length ≤ 1000000) (h2 : (joinB l s).size ≤ 140737488355328) : impl_Join.f l s = some (joinB l s) := by
  unfold joinB at h2
  rw [mk_size] at h2
  unfold impl_Join.f strings_Join.f
  rw [if_pos ⟨by omega, h2⟩]
  rfl
def withinT (n low high : Int) : Bool := decide (low ≤ n) && decide (n ≤ high)
theorem within_eq (n low high : Int) : impl_within.f n low high = some (withinT n low high) := by
  unfold impl_within.f withinT
  split <;> simp_all <;> omega
end Go.Proofs.YtibmeomlokigjaaDoor.Q
namespace Go.Proofs.YtibmeomlokigjaaDoor.Q
open Go.RowKit Go.Proofs.YtibmeomlokigjaaDoorW.PrintWords Go.Proofs.YtibmeomlokigjaaDoorW.PrintLast Go.Proofs.YtibmeomlokigjaaDoorW.PrintMore
theorem rd_eq (l : List Int) (i : Nat) (h : i < l.length) : rd l (i : Int) = l[i] := by
  unfold rd; simp [h]
theorem wrap_succ (i : Nat) (h : i < 4611686018427387904) : wrap64 ((i : Int) + 1) = ((i + 1 : Nat) : Int) := by unfold wrap64; omega
def indexI (l : List Int) (x : Int) : Int := idxI (fun y => decide (x = y)) l
theorem index_eq (l : List Int) (x : Int) (hl : l.length ≤ 2305843009213693952) (k : Nat) (hk : l.length < k) : slices_Index_int_int.f k l x = some (indexI l x) := by
  have key : ∀ (d i : Nat), l.length - i = d → i ≤ l.length → ∀ k, d < k → slices_Index_int_int.l0 k l x l.length i = some (if idxI (fun y => decide (x = y)) (l.drop i) < 0 then -1 else idxI (fun y => decide (x = y)) (l.drop i) + i) := by
    intro d
    induction d with
    | zero =>
      intro i hd hi k hk
      obtain ⟨k, rfl⟩ : ∃ m, k = m + 1 := ⟨k - 1, by omega⟩
      simp only [slices_Index_int_int.l0]
      rw [if_neg (by omega), List.drop_eq_nil_of_le (by omega)]
      rfl
    | succ d ih =>
      intro i hd hi k hk
      obtain ⟨k, rfl⟩ : ∃ m, k = m + 1 := ⟨k - 1, by omega⟩
      have hlt : i < l.length := by omega
      have := ih (i + 1) (by omega) (by omega) k (by omega)
      simp only [slices_Index_int_int.l0]
      rw [if_pos (by omega), if_pos (by omega), if_pos (by omega), rd_eq l i hlt, wrap_succ i (by omega), this, List.drop_eq_getElem_cons hlt]
      simp only [idxI]
      grind
  unfold slices_Index_int_int.f indexI
  have := key l.length 0 (by omega) (by omega) k hk
  rw [List.drop_zero] at this
  have h2 := idxI_any (fun y => decide (x = y)) l
  refine Eq.trans this ?_
  congr 1
  by_cases h : idxI (fun y => decide (x = y)) l < 0
  · rw [if_pos h]
    have : ∀ l : List Int, idxI (fun y => decide (x = y)) l = -1 ∨ 0 ≤ idxI (fun y => decide (x = y)) l := by
      intro l
      induction l with
      | nil => exact .inl rfl
      | cons y l ih => simp only [idxI]; grind
    rcases this l with h3 | h3
    · exact h3.symm
    · omega
  · rw [if_neg h]; simp
theorem toIntS_eq (l : List Int) (hl : l.length ≤ 35184372088832) (k : Nat) (hk : l.length < k) : laws_toIntS.f k l = some l := by
  have key : ∀ (d i : Nat), l.length - i = d → i ≤ l.length → ∀ k, d < k → laws_toIntS.l0 k l (l.take i ++ List.replicate (l.length - i) 0) i = some l := by
    intro d
    induction d with
    | zero =>
      intro i hd hi k hk
      obtain ⟨k, rfl⟩ : ∃ m, k = m + 1 := ⟨k - 1, by omega⟩
      rw [laws_toIntS.l0, if_neg (by omega), List.take_of_length_le (by omega), hd]
      simp
    | succ d ih =>
      intro i hd hi k hk
      obtain ⟨k, rfl⟩ : ∃ m, k = m + 1 := ⟨k - 1, by omega⟩
      have hlt : i < l.length := by omega
      have := ih (i + 1) (by omega) (by omega) k (by omega)
      rw [laws_toIntS.l0, if_pos (by omega), if_pos (by omega), if_pos (by simp; omega), rd_eq l i hlt, wrap_succ i (by omega), Int.toNat_natCast]
      have e : (l.take i ++ List.replicate (l.length - i) 0).set i l[i] = l.take (i + 1) ++ List.replicate (l.length - (i + 1)) 0 := by
        rw [List.set_append, if_neg (by rw [List.length_take]; omega), List.take_succ_eq_append_getElem hlt, show l.length - i = (l.length - (i + 1)) + 1 by omega, List.replicate_succ, List.length_take, Nat.min_eq_left (by omega), Nat.sub_self, List.set_cons_zero, List.append_assoc]
        rfl
      rw [e]
      exact this
  unfold laws_toIntS.f
  rw [if_pos (by omega), if_pos (by omega)]
  simpa using key l.length 0 (by omega) (by omega) k hk
end Go.Proofs.YtibmeomlokigjaaDoor.Q
namespace Go.Proofs.YtibmeomlokigjaaDoor.Q
open Go.RowKit Go.Proofs.YtibmeomlokigjaaDoorW.PrintWords Go.Proofs.YtibmeomlokigjaaDoorW.PrintLast Go.Proofs.YtibmeomlokigjaaDoorW.PrintMore
def jtail (s : ByteArray) : List ByteArray → ByteArray
  | [] => mk []
  | y :: r => s ++ y ++ jtail s r
theorem mk_nil_append (a : ByteArray) : mk [] ++ a = a := by rw [← mk_self a, mk_append]; rfl
theorem append_mk_nil (a : ByteArray) : a ++ mk [] = a := by rw [← mk_self a, mk_append, List.append_nil]
theorem jtail_snoc (s y : ByteArray) (l : List ByteArray) : jtail s (l ++ [y]) = jtail s l ++ (s ++ y) := by
  induction l with
  | nil => simp [jtail, append_mk_nil, mk_nil_append]
  | cons x l ih => simp [jtail, ih, ByteArray.append_assoc]
theorem mk_joinTail (s : ByteArray) (r : List ByteArray) : mk (Lib.joinTail s.data.toList (r.map (·.data.toList))) = jtail s r := by
  induction r with
  | nil => rfl
  | cons y r ih =>
    rw [jtail, ← ih]
    simp [Lib.joinTail, ← mk_append, mk_self, ByteArray.append_assoc]
theorem joinB_cons (x s : ByteArray) (r : List ByteArray) : joinB (x :: r) s = x ++ jtail s r := by
  unfold joinB
  rw [List.map_cons, Lib.join_cons, ← mk_append, mk_self, mk_joinTail]
theorem joinB_nil (s : ByteArray) : joinB [] s = mk [] := rfl
theorem jtail_size (s : ByteArray) (c : Nat) (r : List ByteArray) (h : ∀ x ∈ r, x.size ≤ c) : (jtail s r).size ≤ r.length * (s.size + c) := by
  induction r with
  | nil => simp [jtail, mk_size]
  | cons y r ih =>
    have h1 := ih (fun x hx => h x (List.mem_cons_of_mem _ hx))
    have h2 := h y List.mem_cons_self
    simp only [jtail, ByteArray.size_append, List.length_cons, Nat.succ_mul]
    omega
theorem joinB_size (s : ByteArray) (c : Nat) (r : List ByteArray) (h : ∀ x ∈ r, x.size ≤ c) : (joinB r s).size ≤ r.length * (s.size + c) := by
  cases r with
  | nil => simp [joinB_nil, mk_size]
  | cons y r =>
    have h1 := jtail_size s c r (fun x hx => h x (List.mem_cons_of_mem _ hx))
    have h2 := h y List.mem_cons_self
    rw [joinB_cons]
    simp only [ByteArray.size_append, List.length_cons, Nat.succ_mul]
    omega
theorem rdB_eq (l : List ByteArray) (i : Nat) (h : i < l.length) : rdOf ByteArray.empty l (i : Int) = l[i] := by
  unfold rdOf; simp [h]
theorem specJoin (s : ByteArray) (c : Nat) (l : List ByteArray) (h : ∀ x ∈ l, x.size ≤ c) (hb : (l.length + 1) * (s.size + c) ≤ 9223372036854775807) (hl : l.length ≤ 1000000000) (k : Nat) (hk : l.length < k) : spec_Join.f k l s = some (joinB l s) := by
  cases l with
  | nil =>
    obtain ⟨k, rfl⟩ : ∃ m, k = m + 1 := ⟨k - 1, by omega⟩
    rfl
  | cons x r =>
    have hlr : r.length + 1 ≤ 1000000000 := by simpa using hl
    have key : ∀ (d i : Nat), r.length - i = d → i ≤ r.length → ∀ k, d < k → spec_Join.l0 k s (x ++ jtail s (r.take i)) (x :: r) ((x :: r).length : Int) ((i + 1 : Nat) : Int) = some (x ++ jtail s r) := by
      intro d
      induction d with
      | zero =>
        intro i hd hi k hk
        obtain ⟨k, rfl⟩ : ∃ m, k = m + 1 := ⟨k - 1, by omega⟩
        rw [spec_Join.l0, if_neg (by simp only [List.length_cons]; omega), List.take_of_length_le (by omega)]
      | succ d ih =>
        intro i hd hi k hk
        obtain ⟨k, rfl⟩ : ∃ m, k = m + 1 := ⟨k - 1, by omega⟩
        have hlt : i < r.length := by omega
        have h2 := ih (i + 1) (by omega) (by omega) k (by omega)
        have hx := h x List.mem_cons_self
        have hy := h r[i] (List.mem_cons_of_mem _ (List.getElem_mem hlt))
        have hz := jtail_size s c (r.take i) (fun z hz => h z (List.mem_cons_of_mem _ (List.mem_of_mem_take hz)))
        rw [List.length_take, Nat.min_eq_left (by omega)] at hz
        have hm : i * (s.size + c) + (s.size + c) + (s.size + c) ≤ 9223372036854775807 := by
          have : (i + 2) * (s.size + c) ≤ ((x :: r).length + 1) * (s.size + c) := Nat.mul_le_mul_right _ (by simp only [List.length_cons]; omega)
          have e : (i + 2) * (s.size + c) = i * (s.size + c) + (s.size + c) + (s.size + c) := by rw [Nat.add_mul]; omega
          omega
        rw [spec_Join.l0, if_pos (by simp only [List.length_cons]; omega), if_pos (by omega), if_pos (by simp only [List.length_cons]; omega), if_pos (by omega), rdB_eq _ _ (by simp only [List.length_cons]; omega), wrap_id _ (by omega) (by omega)]
        rw [List.getElem_cons_succ, if_pos (by simp only [ByteArray.size_append]; omega), if_pos (by simp only [ByteArray.size_append]; omega)]
        rw [List.take_succ_eq_append_getElem hlt, jtail_snoc] at h2
        rw [show ((i + 1 : Nat) : Int) + 1 = ((i + 1 + 1 : Nat) : Int) by omega, ← h2]
        simp only [ByteArray.append_assoc]
    obtain ⟨k, rfl⟩ : ∃ m, k = m + 1 := ⟨k - 1, by omega⟩
    have h2 := key r.length 0 (by omega) (by omega) k (by simpa using hk)
    have hx := h x List.mem_cons_self
    have h0 : (⟨#[]⟩ : ByteArray).size = 0 := rfl
    have hm : s.size + c ≤ 9223372036854775807 := Nat.le_trans (by simp only [List.length_cons]; exact Nat.le_mul_of_pos_left _ (by omega)) hb
    unfold spec_Join.f
    rw [spec_Join.l0, if_pos (by simp only [List.length_cons]; omega), if_pos (by omega), if_pos (by simp only [List.length_cons]; omega), if_neg (by omega), show (0 : Int) = ((0 : Nat) : Int) from rfl, rdB_eq _ _ (by simp only [List.length_cons]; omega), List.getElem_cons_zero, if_pos (by rw [h0]; omega), wrap_id _ (by decide) (by decide)]
    rw [joinB_cons]
    rw [List.take_zero, show jtail s [] = mk [] from rfl, append_mk_nil] at h2
    rw [show (⟨#[]⟩ : ByteArray) ++ x = x from mk_nil_append x]
    exact h2
end Go.Proofs.YtibmeomlokigjaaDoor.Q
namespace Go.Proofs.YtibmeomlokigjaaDoor.Q
open Go.RowKit Go.Proofs.YtibmeomlokigjaaDoorW.PrintWords Go.Proofs.YtibmeomlokigjaaDoorW.PrintLast Go.Proofs.YtibmeomlokigjaaDoorW.PrintMore
theorem one_size2 (c : UInt8) : (⟨#[c]⟩ : ByteArray).size = 1 := rfl
end Go.Proofs.YtibmeomlokigjaaDoor.Q
namespace Go.Proofs.YtibmeomlokigjaaDoor.Q
open Go.RowKit Go.Proofs.YtibmeomlokigjaaDoorW.PrintWords Go.Proofs.YtibmeomlokigjaaDoorW.PrintLast Go.Proofs.YtibmeomlokigjaaDoorW.PrintMore
def oppT (n : Int) (l : List Int) (i : Nat) : Int × Int :=
  if n = 2 then (1, 2)
  else if n = 4 then (if i = 0 then (1, 4) else if i = 1 then (3, 2) else (l.getD 0 0, l.getD 1 0))
  else (if i = 0 then (1, 8) else if i = 1 then (5, 4) else if i = 2 then (3, 6) else if i = 3 then (7, 2) else if i = 4 then (l.getD 0 0, l.getD 1 0) else if i = 5 then (l.getD 2 0, l.getD 3 0) else (l.getD 4 0, l.getD 5 0))
def sizeT (n : Int) : Bool := n == 2 || n == 4 || n == 8
theorem implSize (n : Int) : impl_CupSizeOk.f n = some (sizeT n) := by
  unfold impl_CupSizeOk.f sizeT
  by_cases h1 : n = 2 <;> by_cases h2 : n = 4 <;> by_cases h3 : n = 8 <;> simp_all
theorem specSize (n : Int) : spec_CupSizeOk.f n = some (sizeT n) := by
  unfold spec_CupSizeOk.f sizeT
  by_cases h1 : n = 2 <;> by_cases h2 : n = 4 <;> by_cases h3 : n = 8 <;> simp_all
theorem rd_getD (l : List Int) (i : Nat) : rd l (i : Int) = l.getD i 0 := by simp [rd]
theorem late (k : Nat) (n : Int) (l : List Int) (i a b c : Nat) (hi : i < l.length) (hl : l.length ≤ 1048576) (hc : c / 2 + b ≤ 7) (hb : b ≤ i) (h1 : i < b + c / 2) (h2 : a + 2 * (i - b) + 1 < i) (hi2 : i ≤ 6) : impl_OpponentsOf.l0 (k + 1) (i : Int) (a : Int) (b : Int) (c : Int) n l = some (l.getD (a + 2 * (i - b)) 0, l.getD (a + 2 * (i - b) + 1) 0, true) := by
  have e1 : Int.tdiv (c : Int) 2 = ((c / 2 : Nat) : Int) := by rw [Int.tdiv_eq_ediv_of_nonneg (by omega)]; omega
  rw [impl_OpponentsOf.l0, e1]
  rw [wrap_id ((c / 2 : Nat) : Int) (by omega) (by omega), wrap_id ((b : Int) + ((c / 2 : Nat) : Int)) (by omega) (by omega), if_neg (by omega)]
  rw [wrap_id ((i : Int) - b) (by omega) (by omega), wrap_id (2 * ((i : Int) - b)) (by omega) (by omega), wrap_id ((a : Int) + 2 * ((i : Int) - b)) (by omega) (by omega), wrap_id ((a : Int) + 2 * ((i : Int) - b) + 1) (by omega) (by omega)]
  rw [if_neg (by omega), if_pos (by omega), if_pos (by omega), if_pos (by omega), if_pos (by omega)]
  rw [show (a : Int) + 2 * ((i : Int) - b) = ((a + 2 * (i - b) : Nat) : Int) by omega, show ((a + 2 * (i - b) : Nat) : Int) + 1 = ((a + 2 * (i - b) + 1 : Nat) : Int) by omega, rd_getD, rd_getD]
theorem specOpp2 (k : Nat) (l : List Int) (i : Nat) (hi : i < l.length) (h : i < 1) : spec_l14Teams.f (k + 60) 2 (l.take i) i = some ((oppT 2 l i).1, (oppT 2 l i).2, true) := by
  obtain rfl : i = 0 := by omega
  kernel_rfl
theorem specOpp4 (k : Nat) (l : List Int) (i : Nat) (hi : i < l.length) (h : i < 3) : spec_l14Teams.f (k + 60) 4 (l.take i) i = some ((oppT 4 l i).1, (oppT 4 l i).2, true) := by
  rcases i with _ | _ | _ | i
  · kernel_rfl
  · rcases l with _ | ⟨a0, l⟩
    · simp at hi
    · kernel_rfl
  · rcases l with _ | ⟨a0, _ | ⟨a1, l⟩⟩
    · simp at hi
    · simp at hi
    · kernel_rfl
  · omega
theorem specOpp8 (k : Nat) (l : List Int) (i : Nat) (hi : i < l.length) (h : i < 7) : spec_l14Teams.f (k + 60) 8 (l.take i) i = some ((oppT 8 l i).1, (oppT 8 l i).2, true) := by
  rcases i with _ | _ | _ | _ | _ | _ | _ | i
  · kernel_rfl
  · rcases l with _ | ⟨a0, l⟩
    · simp at hi
    · kernel_rfl
  · rcases l with _ | ⟨a0, _ | ⟨a1, l⟩⟩
    · simp at hi
    · simp at hi
    · kernel_rfl
  · rcases l with _ | ⟨a0, _ | ⟨a1, _ | ⟨a2, l⟩⟩⟩
    · simp at hi
    · simp at hi
    · simp at hi
    · kernel_rfl
  · rcases l with _ | ⟨a0, _ | ⟨a1, _ | ⟨a2, _ | ⟨a3, l⟩⟩⟩⟩
    · simp at hi
    · simp at hi
    · simp at hi
    · simp at hi
    · kernel_rfl
  · rcases l with _ | ⟨a0, _ | ⟨a1, _ | ⟨a2, _ | ⟨a3, _ | ⟨a4, l⟩⟩⟩⟩⟩
    · simp at hi
    · simp at hi
    · simp at hi
    · simp at hi
    · simp at hi
    · kernel_rfl
  · rcases l with _ | ⟨a0, _ | ⟨a1, _ | ⟨a2, _ | ⟨a3, _ | ⟨a4, _ | ⟨a5, l⟩⟩⟩⟩⟩⟩
    · simp at hi
    · simp at hi
    · simp at hi
    · simp at hi
    · simp at hi
    · simp at hi
    · kernel_rfl
  · omega
theorem implOpp2 (k : Nat) (l : List Int) (i : Nat) (_hi : i < l.length) (_hl : l.length ≤ 1048576) (h : i < 1) : impl_OpponentsOf.f (k + 60) 2 l i = some ((oppT 2 l i).1, (oppT 2 l i).2, true) := by
  obtain rfl : i = 0 := by omega
  kernel_rfl
theorem implOpp4 (k : Nat) (l : List Int) (i : Nat) (hi : i < l.length) (hl : l.length ≤ 1048576) (h : i < 3) : impl_OpponentsOf.f (k + 60) 4 l i = some ((oppT 4 l i).1, (oppT 4 l i).2, true) := by
  rcases i with _ | _ | _ | i
  · kernel_rfl
  · kernel_rfl
  · have e : impl_OpponentsOf.f (k + 60) 4 l ((2 : Nat) : Int) = impl_OpponentsOf.l0 (k + 59) ((2 : Nat) : Int) ((0 : Nat) : Int) ((2 : Nat) : Int) ((2 : Nat) : Int) 4 l := by kernel_rfl
    exact e.trans (late (k + 58) 4 l 2 0 2 2 hi hl (by decide) (by decide) (by decide) (by decide) (by decide))
  · omega
theorem implOpp8 (k : Nat) (l : List Int) (i : Nat) (hi : i < l.length) (hl : l.length ≤ 1048576) (h : i < 7) : impl_OpponentsOf.f (k + 60) 8 l i = some ((oppT 8 l i).1, (oppT 8 l i).2, true) := by
  rcases i with _ | _ | _ | _ | _ | _ | _ | i
  · kernel_rfl
  · kernel_rfl
  · kernel_rfl
  · kernel_rfl
  · have e : impl_OpponentsOf.f (k + 60) 8 l ((4 : Nat) : Int) = impl_OpponentsOf.l0 (k + 59) ((4 : Nat) : Int) ((0 : Nat) : Int) ((4 : Nat) : Int) ((4 : Nat) : Int) 8 l := by kernel_rfl
    exact e.trans (late (k + 58) 8 l 4 0 4 4 hi hl (by decide) (by decide) (by decide) (by decide) (by decide))
  · have e : impl_OpponentsOf.f (k + 60) 8 l ((5 : Nat) : Int) = impl_OpponentsOf.l0 (k + 59) ((5 : Nat) : Int) ((0 : Nat) : Int) ((4 : Nat) : Int) ((4 : Nat) : Int) 8 l := by kernel_rfl
    exact e.trans (late (k + 58) 8 l 5 0 4 4 hi hl (by decide) (by decide) (by decide) (by decide) (by decide))
  · have e : impl_OpponentsOf.f (k + 60) 8 l ((6 : Nat) : Int) = impl_OpponentsOf.l0 (k + 58) ((6 : Nat) : Int) ((4 : Nat) : Int) ((6 : Nat) : Int) ((2 : Nat) : Int) 8 l := by kernel_rfl
    exact e.trans (late (k + 57) 8 l 6 4 6 2 hi hl (by decide) (by decide) (by decide) (by decide) (by decide))
  · omega
theorem size_cases {n : Int} (h : sizeT n = true) : n = 2 ∨ n = 4 ∨ n = 8 := by
  simp only [sizeT, Bool.or_eq_true, beq_iff_eq] at h
  omega
theorem specOpp (k : Nat) (n : Int) (h : sizeT n = true) (l : List Int) (i : Nat) (hi : i < l.length) (hn : (i : Int) < n - 1) : spec_l14Teams.f (k + 60) n (l.take i) i = some ((oppT n l i).1, (oppT n l i).2, true) := by
  rcases size_cases h with rfl | rfl | rfl
  · exact specOpp2 k l i hi (by omega)
  · exact specOpp4 k l i hi (by omega)
  · exact specOpp8 k l i hi (by omega)
theorem implOpp (k : Nat) (n : Int) (h : sizeT n = true) (l : List Int) (i : Nat) (hi : i < l.length) (hl : l.length ≤ 1048576) (hn : (i : Int) < n - 1) : impl_OpponentsOf.f (k + 60) n l i = some ((oppT n l i).1, (oppT n l i).2, true) := by
  rcases size_cases h with rfl | rfl | rfl
  · exact implOpp2 k l i hi hl (by omega)
  · exact implOpp4 k l i hi hl (by omega)
  · exact implOpp8 k l i hi hl (by omega)
theorem implOppOut (k : Nat) (n : Int) (l : List Int) (i : Int) (h : sizeT n = false ∨ withinT i 0 (wrap64 (n - 2)) = false) : impl_OpponentsOf.f (k + 1) n l i = some (0, 0, false) := by
  unfold impl_OpponentsOf.f
  rw [implSize, Option.bind_some]
  by_cases hs : sizeT n = true
  · rcases h with h | h
    · rw [h] at hs; cases hs
    · rw [if_pos hs, within_eq, Option.bind_some, h, impl_OpponentsOf.j0]; rfl
  · rw [if_neg hs, impl_OpponentsOf.j0]; rfl
def cupFrom (n : Int) (l : List Int) : Nat → Nat → Bool
  | 0, _ => true
  | d + 1, i => decide ((i : Int) < n - 1) && ((l.getD i 0 == (oppT n l i).1) || (l.getD i 0 == (oppT n l i).2)) && cupFrom n l d (i + 1)
def cupT (n : Int) (l : List Int) : Bool := sizeT n && cupFrom n l l.length 0
theorem cupFrom_le {n : Int} {l : List Int} : ∀ (d i : Nat), cupFrom n l d i = true → d = 0 ∨ ((i + d : Nat) : Int) ≤ n - 1 := by
  intro d
  induction d with
  | zero => intro i _; exact .inl rfl
  | succ d ih =>
    intro i h
    simp only [cupFrom, Bool.and_eq_true, decide_eq_true_eq] at h
    rcases ih (i + 1) h.2 with h2 | h2
    · omega
    · omega
theorem implCupOk (n : Int) (l : List Int) (hl : l.length ≤ 1048576) (k : Nat) : impl_CupOk.f (k + l.length + 62) n l = some (cupT n l) := by
  have key : ∀ (d i : Nat), i + d = l.length → impl_CupOk.l0 (k + d + 62) l (l.length : Int) (i : Int) n l = some (sizeT n && cupFrom n l d i) := by
    intro d
    induction d with
    | zero =>
      intro i hi
      rw [show k + 0 + 62 = (k + 61) + 1 by omega, impl_CupOk.l0, if_neg (by omega), implSize]
      simp [cupFrom]
    | succ d ih =>
      intro i hi
      have h2 := ih (i + 1) (by omega)
      rw [show k + (d + 1) + 62 = (k + d + 62) + 1 by omega, impl_CupOk.l0, if_pos (by omega), if_pos (by omega), if_pos (by omega), wrap_succ i (by omega), h2, rd_getD]
      by_cases hs : sizeT n = true
      · by_cases hn : (i : Int) < n - 1
        · rw [show k + d + 62 = (k + d + 2) + 60 by omega, implOpp _ n hs l i (by omega) hl hn]
          simp only [Option.bind_some, cupFrom, if_true, hs, Bool.true_and, decide_eq_true hn]
          by_cases e1 : l.getD i 0 = (oppT n l i).1
          · rw [if_pos e1, beq_iff_eq.mpr e1]; simp
          · rw [if_neg e1, beq_eq_false_iff_ne.mpr e1]
            by_cases e2 : l.getD i 0 = (oppT n l i).2
            · rw [if_pos e2, beq_iff_eq.mpr e2]; simp
            · rw [if_neg e2, beq_eq_false_iff_ne.mpr e2]; simp
        · rw [show k + d + 62 = (k + d + 61) + 1 by omega, implOppOut _ n l i (.inr (by
            rcases size_cases hs with rfl | rfl | rfl <;> rw [wrap_id _ (by decide) (by decide)] <;> simp only [withinT] <;> rw [decide_eq_false (show ¬ (i : Int) ≤ _ by omega), Bool.and_false]))]
          simp [cupFrom, hn]
      · rw [show k + d + 62 = (k + d + 61) + 1 by omega, implOppOut _ n l i (.inl (by simpa using hs))]
        simp [hs]
  unfold impl_CupOk.f cupT
  have := key l.length 0 (by omega)
  exact this
theorem specCupOk (n : Int) (l : List Int) (hl : l.length ≤ 1048576) (k : Nat) : spec_CupOk.f (k + l.length + 63) n l = some (cupT n l) := by
  have key : sizeT n = true → ∀ (d i : Nat), i + d = l.length → (l.length : Int) ≤ n - 1 → spec_CupOk.l0 (k + d + 62) l (l.length : Int) (i : Int) n l = some (cupFrom n l d i) := by
    intro hs d
    induction d with
    | zero =>
      intro i hi _
      rw [show k + 0 + 62 = (k + 61) + 1 by omega, spec_CupOk.l0, if_neg (by omega)]
      rfl
    | succ d ih =>
      intro i hi hn0
      have h2 := ih (i + 1) (by omega) hn0
      have hn : (i : Int) < n - 1 := by omega
      rw [show k + (d + 1) + 62 = (k + d + 62) + 1 by omega, spec_CupOk.l0, if_pos (by omega), if_pos (by omega), if_pos (by omega), if_pos (by omega), wrap_succ i (by omega), h2, rd_getD, Int.toNat_natCast]
      rw [show k + d + 62 = (k + d + 2) + 60 by omega, specOpp _ n hs l i (by omega) hn]
      simp only [Option.bind_some, cupFrom, if_true, Bool.true_and, decide_eq_true hn]
      by_cases e1 : l.getD i 0 = (oppT n l i).1
      · rw [if_pos e1, beq_iff_eq.mpr e1]; simp
      · rw [if_neg e1, beq_eq_false_iff_ne.mpr e1]
        by_cases e2 : l.getD i 0 = (oppT n l i).2
        · rw [if_pos e2, beq_iff_eq.mpr e2]; simp
        · rw [if_neg e2, beq_eq_false_iff_ne.mpr e2]; simp
  unfold spec_CupOk.f cupT
  rw [specSize, Option.bind_some]
  by_cases hs : sizeT n = true
  · have hw : wrap64 (n - 1) = n - 1 := by rcases size_cases hs with rfl | rfl | rfl <;> exact wrap_id _ (by decide) (by decide)
    rw [if_pos hs, hw, show k + l.length + 63 = (k + l.length + 62) + 1 by omega, spec_CupOk.j0]
    by_cases hn : (l.length : Int) ≤ n - 1
    · have hk := key hs l.length 0 (by omega) hn
      rw [show ((0 : Nat) : Int) = 0 from rfl] at hk
      rw [decide_eq_false (by omega), if_neg (by simp), hk, hs]; rfl
    · rw [decide_eq_true (by omega), if_pos rfl, hs, Bool.true_and]
      cases hc : cupFrom n l l.length 0 with
      | false => rfl
      | true =>
        rcases cupFrom_le _ _ hc with h | h
        · rcases size_cases hs with rfl | rfl | rfl <;> omega
        · omega
  · rw [if_neg hs, show k + l.length + 63 = (k + l.length + 62) + 1 by omega, spec_CupOk.j0, if_pos rfl]
    simp [hs]
end Go.Proofs.YtibmeomlokigjaaDoor.Q
namespace Go.Proofs.YtibmeomlokigjaaDoor.Q
open Go.RowKit Go.Proofs.YtibmeomlokigjaaDoorW.PrintWords Go.Proofs.YtibmeomlokigjaaDoorW.PrintLast Go.Proofs.YtibmeomlokigjaaDoorW.PrintMore
theorem cupFrom_get {n : Int} {l : List Int} : ∀ (d i : Nat), cupFrom n l d i = true → ∀ j, i ≤ j → j < i + d → (j : Int) < n - 1 ∧ (l.getD j 0 = (oppT n l j).1 ∨ l.getD j 0 = (oppT n l j).2) := by
  intro d
  induction d with
  | zero => intro i _ j h1 h2; omega
  | succ d ih =>
    intro i h j h1 h2
    simp only [cupFrom, Bool.and_eq_true, Bool.or_eq_true, decide_eq_true_eq, beq_iff_eq] at h
    by_cases e : j = i
    · subst e; exact h.1
    · exact ih (i + 1) h.2 j (by omega) (by omega)
theorem opp_range {n : Int} {l : List Int} {i : Nat} (hs : sizeT n = true) (hi : (i : Int) < n - 1) (h : ∀ j, j < i → 1 ≤ l.getD j 0 ∧ l.getD j 0 ≤ 8) : (1 ≤ (oppT n l i).1 ∧ (oppT n l i).1 ≤ 8) ∧ 1 ≤ (oppT n l i).2 ∧ (oppT n l i).2 ≤ 8 := by
  rcases size_cases hs with rfl | rfl | rfl
  · simp [oppT]
  · rcases i with _ | _ | _ | i
    · simp [oppT]
    · simp [oppT]
    · exact ⟨h 0 (by omega), h 1 (by omega)⟩
    · omega
  · rcases i with _ | _ | _ | _ | _ | _ | _ | i
    · simp [oppT]
    · simp [oppT]
    · simp [oppT]
    · simp [oppT]
    · exact ⟨h 0 (by omega), h 1 (by omega)⟩
    · exact ⟨h 2 (by omega), h 3 (by omega)⟩
    · exact ⟨h 4 (by omega), h 5 (by omega)⟩
    · omega
theorem winners_range {n : Int} {l : List Int} (h : cupT n l = true) : ∀ j, j < l.length → 1 ≤ l.getD j 0 ∧ l.getD j 0 ≤ 8 := by
  simp only [cupT, Bool.and_eq_true] at h
  intro j
  induction j using Nat.strongRecOn with
  | _ j ih =>
    intro hj
    obtain ⟨h1, h2⟩ := cupFrom_get _ _ h.2 j (by omega) (by omega)
    obtain ⟨h3, h4⟩ := opp_range h.1 h1 (fun i hi => ih i hi (by omega))
    rcases h2 with h2 | h2 <;> rw [h2] <;> assumption
theorem winners_mem {n : Int} {l : List Int} (h : cupT n l = true) : ∀ x ∈ l, 0 ≤ x ∧ x < 100 := by
  intro x hx
  obtain ⟨j, hj, rfl⟩ := List.mem_iff_getElem.mp hx
  have := winners_range h j hj
  rw [List.getD_eq_getElem?_getD, List.getElem?_eq_getElem hj] at this
  simp only [Option.getD_some] at this
  omega
def championT (n : Int) (l : List Int) : Int := if cupT n l = true ∧ (l.length : Int) = n - 1 then l.getD (l.length - 1) 0 else 0
theorem sub_wrap {n : Int} {l : List Int} (h : cupT n l = true) : wrap64 (n - 1) = n - 1 ∧ wrap64 (n - 2) = n - 2 ∧ 2 ≤ n := by
  simp only [cupT, Bool.and_eq_true] at h
  rcases size_cases h.1 with rfl | rfl | rfl <;> exact ⟨wrap_id _ (by decide) (by decide), wrap_id _ (by decide) (by decide), by decide⟩
theorem implChampion (n : Int) (l : List Int) (hl : l.length ≤ 1048576) (k : Nat) : impl_ChampionOf.f (k + l.length + 62) n l = some (championT n l) := by
  unfold impl_ChampionOf.f championT
  rw [implCupOk n l hl k, Option.bind_some]
  by_cases h : cupT n l = true
  · obtain ⟨e1, e2, e3⟩ := sub_wrap h
    rw [if_pos h, e1, e2]
    by_cases hn : (l.length : Int) = n - 1
    · rw [if_pos hn, if_pos (by omega), if_pos (by omega), if_pos ⟨h, hn⟩, show n - 2 = ((l.length - 1 : Nat) : Int) by omega, rd_getD]
    · rw [if_neg hn, if_neg (fun h => hn h.2)]
  · rw [if_neg h, if_neg (fun h2 => h h2.1)]
theorem specChampion (n : Int) (l : List Int) (hl : l.length ≤ 1048576) (k : Nat) : spec_ChampionOf.f (k + l.length + 63) n l = some (championT n l) := by
  unfold spec_ChampionOf.f championT
  rw [specCupOk n l hl k, Option.bind_some]
  by_cases h : cupT n l = true
  · obtain ⟨e1, e2, e3⟩ := sub_wrap h
    rw [if_pos h, e1, wrap_id ((l.length : Int) - 1) (by omega) (by omega)]
    by_cases hn : (l.length : Int) = n - 1
    · rw [if_pos hn, if_pos (by omega), if_pos (by omega), if_pos ⟨h, hn⟩, show (l.length : Int) - 1 = ((l.length - 1 : Nat) : Int) by omega, rd_getD]
    · rw [if_neg hn, if_neg (fun h => hn h.2)]
  · rw [if_neg h, if_neg (fun h2 => h h2.1)]
theorem champion_range (n : Int) (l : List Int) : 0 ≤ championT n l ∧ championT n l < 100 := by
  unfold championT
  split
  · rename_i h
    obtain ⟨_, _, e3⟩ := sub_wrap h.1
    have := winners_range h.1 (l.length - 1) (by omega)
    omega
  · omega
theorem specRoundsCup (l : List Int) (hl : l.length ≤ 1048576) (hr : ∀ x ∈ l, 0 ≤ x ∧ x < 100) (n : Int) (l2 : List Int) (j : Nat) : ∀ (m i : Nat) (acc : List ByteArray), i + m = l.length → acc.length = i → spec_CupLine.l0 (j + 3 + m) acc l (l.length : Int) (i : Int) n l2 = spec_CupLine.l0 (j + 3) (acc ++ (l.drop i).map dec) l (l.length : Int) (l.length : Int) n l2 := by
  intro m
  induction m with
  | zero =>
    intro i acc hi ha
    obtain rfl : i = l.length := by omega
    simp
  | succ m ih =>
    intro i acc hi ha
    have hlt : i < l.length := by omega
    have h2 := ih (i + 1) (acc ++ [dec l[i]]) (by omega) (by simp [ha])
    obtain ⟨r0, r1⟩ := hr _ (List.getElem_mem hlt)
    rw [show j + 3 + (m + 1) = (j + 3 + m) + 1 by omega, spec_CupLine.l0, if_pos (by omega), if_pos (by omega), if_pos (by omega), rd_eq l i hlt, show j + 3 + m = (j + m) + 3 by omega, specFormatInt _ _ r0 r1, Option.bind_some, if_pos (by omega), wrap_succ i (by omega), show j + m + 3 = j + 3 + m by omega, h2, List.drop_eq_getElem_cons hlt, List.map_cons, List.append_assoc]
    rfl
theorem joinB_two (x : ByteArray) (r : List ByteArray) (s a b : ByteArray) : joinB ((x :: r) ++ [a, b]) s = joinB (x :: r) s ++ (s ++ a) ++ (s ++ b) := by
  rw [show (x :: r) ++ [a, b] = x :: ((r ++ [a]) ++ [b]) by simp, joinB_cons, joinB_cons, jtail_snoc, jtail_snoc]
  simp only [ByteArray.append_assoc]
theorem dec_mem_size {l : List Int} (hr : ∀ x ∈ l, 0 ≤ x ∧ x < 100) : ∀ x ∈ l.map dec, x.size ≤ 8 := by
  intro x hx
  obtain ⟨y, hy, rfl⟩ := List.mem_map.mp hx
  have := dec_size y (hr y hy).1 (hr y hy).2
  omega
theorem cupLine_both (n : Int) (l : List Int) (hl : l.length ≤ 1048576) : ∃ t, impl_CupLine.f (2 * l.length + 100) n l = some t ∧ spec_CupLine.f (2 * l.length + 100) n l = some t := by
  unfold impl_CupLine.f spec_CupLine.f
  rw [show 2 * l.length + 100 = (l.length + 38) + l.length + 62 by omega, implCupOk n l hl, show (l.length + 38) + l.length + 62 = (l.length + 37) + l.length + 63 by omega, specCupOk n l hl]
  simp only [Option.bind_some]
  by_cases h : cupT n l = true
  · rw [if_pos h, if_pos h]
    have hr := winners_mem h
    have h7 : l.length ≤ 7 := by
      have h8 := h
      simp only [cupT, Bool.and_eq_true] at h8
      rcases cupFrom_le _ _ h8.2 with h9 | h9
      · omega
      · rcases size_cases h8.1 with rfl | rfl | rfl <;> omega
    obtain ⟨c0, c1⟩ := champion_range n l
    have zc := dec_size _ c0 c1
    have e2 := specRoundsCup l hl hr n l (l.length + 97) l.length 0 [] (by omega) rfl
    rw [show ((0 : Nat) : Int) = 0 from rfl, List.drop_zero, List.nil_append] at e2
    rw [show l.length + 37 + l.length + 63 = l.length + 97 + 3 + l.length by omega, e2, show l.length + 97 + 3 = (l.length + 99) + 1 by omega]
    have s10 : (⟨#[32, 99, 104, 97, 109, 112, 105, 111, 110, 32]⟩ : ByteArray).size = 10 := rfl
    have s8 : (⟨#[99, 104, 97, 109, 112, 105, 111, 110]⟩ : ByteArray).size = 8 := rfl
    have s4 : (⟨#[110, 111, 110, 101]⟩ : ByteArray).size = 4 := rfl
    have hcat : (⟨#[32, 99, 104, 97, 109, 112, 105, 111, 110, 32]⟩ : ByteArray) = ⟨#[32]⟩ ++ ⟨#[99, 104, 97, 109, 112, 105, 111, 110]⟩ ++ ⟨#[32]⟩ := by decide +kernel
 
    have fin : ∀ (x : ByteArray) (r : List ByteArray), (∀ y ∈ x :: r, y.size ≤ 8) → (x :: r).length ≤ 1048576 → ∀ k1 k2, l.length + 64 ≤ k1 → 2 * l.length + 66 + (x :: r).length ≤ k2 → ∃ t, impl_CupLine.j0 k1 (joinB (x :: r) ⟨#[32]⟩) n l = some t ∧ spec_CupLine.j1 k2 (x :: r) n l = some t := by
      intro x r hx hlen k1 k2 hk1 hk2
      obtain ⟨k1, rfl⟩ : ∃ m, k1 = m + l.length + 62 + 1 := ⟨k1 - l.length - 63, by omega⟩
      obtain ⟨k2, rfl⟩ : ∃ m, k2 = m + l.length + 63 + 1 := ⟨k2 - l.length - 64, by omega⟩
      have z := joinB_size ⟨#[32]⟩ 8 (x :: r) hx
      rw [one_size2] at z
      rw [impl_CupLine.j0, spec_CupLine.j1, implChampion n l hl, specChampion n l hl, Option.bind_some, Option.bind_some]
      by_cases hc : championT n l > 0
      · rw [if_pos hc, if_pos hc, implFormatInt _ c0 c1, Option.bind_some, if_pos (by omega), if_pos (by simp only [ByteArray.size_append, s10]; omega), Option.bind_some, show k2 + l.length + 63 = (k2 + l.length + 60) + 3 by omega, specFormatInt _ _ c0 c1, Option.bind_some, Option.bind_some, if_pos (by simp only [List.length_cons, List.length_nil] at *; omega)]
        have hx2 : ∀ y ∈ (x :: r) ++ [(⟨#[99, 104, 97, 109, 112, 105, 111, 110]⟩ : ByteArray), dec (championT n l)], y.size ≤ 8 := by
          intro y hy
          rcases List.mem_append.mp hy with hy | hy
          · exact hx y hy
          · simp only [List.mem_cons, List.not_mem_nil, or_false] at hy
            rcases hy with rfl | rfl
            · exact Nat.le_of_eq s8
            · omega
        rw [specJoin ⟨#[32]⟩ 8 _ hx2 (by rw [one_size2, List.length_append]; simp only [List.length_cons, List.length_nil] at *; omega) (by rw [List.length_append]; simp only [List.length_cons, List.length_nil] at *; omega) _ (by rw [List.length_append]; simp only [List.length_cons, List.length_nil] at *; omega), Option.bind_some, joinB_two, hcat]
        exact ⟨_, rfl, by simp only [ByteArray.append_assoc]⟩
      · rw [if_neg hc, if_neg hc, specJoin ⟨#[32]⟩ 8 _ hx (by rw [one_size2]; simp only [List.length_cons] at *; omega) (by omega) _ (by simp only [List.length_cons] at *; omega), Option.bind_some]
        exact ⟨_, rfl, rfl⟩
    by_cases h0 : (l.length : Int) > 0
    · have z := joinB_size ⟨#[32]⟩ 8 (l.map dec) (dec_mem_size hr)
      rw [one_size2, List.length_map] at z
      rw [if_pos h0, spec_CupLine.l0, if_neg (by omega), if_neg (by rw [List.length_map]; omega), show l.length + 99 + 1 + l.length = (l.length + 99) + l.length + 1 by omega, texts_eq l (by omega) hr, Option.bind_some, join_eq _ _ (by rw [List.length_map]; omega) (by omega), Option.bind_some]
      cases l with
      | nil => simp at h0
      | cons a l =>
        rw [List.map_cons]
        exact fin _ _ (by rw [← List.map_cons]; exact dec_mem_size hr) (by simpa using hl) _ _ (by simp only [List.length_cons]; omega) (by have h9 := h7; simp only [List.length_cons, List.length_map] at h9 ⊢; omega)
    · obtain rfl : l = [] := List.eq_nil_of_length_eq_zero (by omega)
      rw [if_neg (by simp), spec_CupLine.l0, if_neg (by simp), if_pos (by simp), if_pos (by simp)]
      exact fin ⟨#[110, 111, 110, 101]⟩ [] (by simp only [List.mem_singleton, forall_eq]; exact (by decide : (4 : Nat) ≤ 8)) (by simp) _ _ (by simp) (by simp)
  · rw [if_neg h, if_neg h]
    exact ⟨_, rfl, rfl⟩
end Go.Proofs.YtibmeomlokigjaaDoor.Q
namespace Go.Proofs.YtibmeomlokigjaaDoor.Pure
open Go.RowKit Go.Proofs.YtibmeomlokigjaaDoor.Q Go.Proofs.YtibmeomlokigjaaDoorW.PrintWords Go.Proofs.YtibmeomlokigjaaDoorW.PrintLast
theorem eqIntS_self2 (l : List Int) (hl : l.length ≤ 2305843009213693952) (k : Nat) (hk : l.length < k) : laws_eqIntS.f k l l = some true := by
  have key : ∀ (d i : Nat), l.length - i = d → i ≤ l.length → ∀ k, d < k → laws_eqIntS.l0 k l l (i : Int) = some true := by
    intro d
    induction d with
    | zero =>
      intro i hd hi k hk
      obtain ⟨k, rfl⟩ : ∃ m, k = m + 1 := ⟨k - 1, by omega⟩
      rw [laws_eqIntS.l0, if_neg (by omega)]
    | succ d ih =>
      intro i hd hi k hk
      obtain ⟨k, rfl⟩ : ∃ m, k = m + 1 := ⟨k - 1, by omega⟩
      rw [laws_eqIntS.l0, if_pos (by omega), if_pos (by omega), if_pos (by omega), if_pos rfl, wrap_succ i (by omega), ih (i + 1) (by omega) (by omega) k (by omega)]
  unfold laws_eqIntS.f
  rw [if_pos rfl]
  exact key l.length 0 (by omega) (by omega) k hk
theorem FnExactCupLine (n : Int) (l : List Int) (ok : (Lit.int .i64 n).wf = true ∧ (l.length ≤ maxLen ∧ ∀ x ∈ l, (Lit.int .i64 x).wf = true)) : ∃ k, laws_FnExactCupLine.f k n l = some true := by
  have hm : l.length ≤ 9223372036854775807 := ok.2.1
  refine ⟨2 * l.length + 100, ?_⟩
  unfold laws_FnExactCupLine.f laws_szCup.f laws_szIntS.f
  rw [wrap_id _ (by omega) (by omega)]
  by_cases h : (1048576 - (l.length : Int)) < 0
  · rw [if_pos h]; rfl
  · rw [if_neg h, Option.bind_some, if_neg h, Option.bind_some, if_neg h]
    obtain ⟨t, h1, h2⟩ := cupLine_both n l (by omega)
    unfold laws_toCup.f
    rw [toIntS_eq l (by omega) _ (by omega)]
    simp only [Option.bind_some]
    rw [h1, h2, Option.bind_some, Option.bind_some, if_pos rfl]
    unfold laws_eqCup.f
    rw [if_pos rfl, eqIntS_self2 l (by omega) _ (by omega), Option.bind_some, if_pos rfl, Option.bind_some, if_pos rfl]
end Go.Proofs.YtibmeomlokigjaaDoor.Pure
namespace Go.Proofs.YtibmeomlokigjaaDoor.fnExactCupLine
open Go.ChangeShapes Go.WideShapes Go.ChangeAt Go.RowKit
open Go.ChangeMaps (open_string shut_string)
set_option linter.unusedVariables false
theorem own : ownKnob Tryd.prog.godebug = none := by kernel_rfl
theorem laidOut : laidOutB Tryd.prog = true := by kernel_rfl
set_option maxRecDepth 100000 in
set_option maxHeartbeats 4000000 in
theorem lifted (os : Os) (started : os.Started) (H : Type) (enc : TypeId × Value → H) :
    ReturnsInHanded {} Tryd.checked os 8 .any (fun w args => (Rows.fnExactCupLineSpec.pre enc Tryd.prog Tryd.f8 [] false w args ∧ laidMetH Tryd.prog Laid.laid3 w) ∧ sizedMet enc Tryd.prog Tryd.f8 (OpenSpec.ofChange Rows.fnExactCupLineSpec) false w args)
      (Rows.fnExactCupLineSpec.post enc Tryd.prog Tryd.f8 false true false false) := by
  refine returnsInHanded_of_change_and (C := Tryd.checked) (X := fun w _ => laidMetH Tryd.prog Laid.laid3 w) (fun _ _ _ hh h => h.of_heap hh) own started (by kernel_rfl) Tryd.func8
    (ChangeSpec.witness_shaped (enc := enc) (C := Tryd.checked) (os := os) (X := fun w _ => laidMetH Tryd.prog Laid.laid3 w) false (World.doorLaid Tryd.prog 400 os) #[.agg #[.int .i64 0, .slice none 0 0]] 8 rfl (Laid.door_shaped os _) (by kernel_rfl) (by kernel_rfl) (by kernel_rfl) (Laid.door_met os _)) ?_
  intro W base args ds gs before hval0 hW hcnd hsz0 hL _
  have hval : ∀ (j : Nat) t v, Tryd.f8.params[j]? = some t → args[j]? = some v → Value.okWide Tryd.prog W .any base t v := hval0
  have hW' := hW
  obtain ⟨p, q, hA0, hV, rfl, hfz, hnd⟩ := hW
  have hA : DataW.TrodAll enc Tryd.prog W 0 (fun _ => true) true Tryd.f8.params.toList args.toList ds p := hA0
  rw [Tryd.params8] at hA hval
  obtain ⟨v0, vs0, d0, ds0, p0, q0, hargs0, rfl, rfl, h0, r0⟩ := trodAll_cons hA
  obtain ⟨rfl, rfl, rfl⟩ := trodAll_nil r0
  obtain rfl : args = #[v0] := by cases args; simp_all
  obtain ⟨rfl, rfl⟩ := trodVars_none hV
  have k0 := h0; have lt0 : ∀ x ∈ p0, x.block < W.heap.size := by obtain ⟨m, hm⟩ := k0; exact DataW.trod_lt m _ _ _ hm
  obtain ⟨cs0, x0, rfl, hK0, ok0⟩ := Opens.trod_struct_val Tryd.underlying63 (hval 0 63 v0 rfl rfl) h0 (Opens.struct Tryd.underlying63 (by kernel_rfl) (Opens.cons 0 1 rfl (Opens.int Tryd.underlying3) (by kernel_rfl) rfl (Opens.one 1 rfl (Opens.slice Tryd.underlying42 (Opens.int Tryd.underlying3) (by kernel_rfl) 3) (by kernel_rfl))))
  obtain ⟨a0_0, l0_1⟩ := x0
  obtain ⟨_, _, hcs0, rfl, ⟨A0_1, c0_1, rfl, hl0_1, hC0_1⟩⟩ := hK0
  obtain rfl : cs0 = #[.int .i64 a0_0, .slice A0_1 l0_1.length c0_1] := Array.toList_inj.mp hcs0
  clear hA0 hval0 hsz0
  obtain ⟨k, hk⟩ := Pure.FnExactCupLine a0_0 l0_1 ok0
  refine (Q.laws_FnExactCupLine.calls k  a0_0 A0_1 c0_1 l0_1 _ W hC0_1 hl0_1 hk).mono fun e W' ⟨he, bel⟩ => ?_
  subst he
  exact ⟨_, rfl, _, _, _, [], _, [], hW', trodAll_mk1 (shut_bool Tryd.underlying4 _), (trodAll_cons_mk (Below.trod laidOut (by kernel_rfl) (of_decide_eq_true (by kernel_rfl)) k0 bel lt0) trodAll_mk0), rfl, bel.frame _, fun h => by cases h⟩
theorem over : Rows.fnExactCupLineRow.holds Tryd.pinned (OpenSpec.ofChange Rows.fnExactCupLineSpec) :=
  OpenClaim.holds_of_wide 8 Tryd.f8 rfl rfl rfl rfl rfl rfl rfl ⟨rfl, rfl, rfl, rfl, rfl⟩ rfl rfl rfl rfl rfl (by kernel_rfl) Tryd.func8 (by kernel_rfl)
    (of_decide_eq_true (by kernel_rfl)) (by unfold Func.isWrapper; first | (rw [if_pos (by decide +kernel)]; kernel_rfl) | (rw [if_neg (by decide +kernel)]; exact ⟨rfl, rfl⟩))
    (fun os started H enc _ => lifted os started H enc)
theorem provedCard : Rows.FnExactCupLineCardSaid :=
  Claim7.holds_tied_plain_at .later [] [.data, .data, .data] true (true, "a6e8e4b77242bb99ec034f5991610b756a84533526b99ec4e7efdd8f2b96172f") false
    over (fun _ h => by cases h) (by kernel_rfl) (fun _ h => by cases h) fnExactCupLine_row_tie rfl ⟨rfl, rfl⟩ (by kernel_rfl) rfl
    (fun f fn hf hfn => by
      obtain rfl : f = 8 := (Option.some.inj ((show Tryd.prog.funcNamed "loop.example/g00834/laws.FnExactCupLine" = some 8 by kernel_rfl).symm.trans hf)).symm
      obtain rfl : fn = Tryd.f8 := (Option.some.inj (Tryd.func8.symm.trans hfn)).symm
      refine ⟨by kernel_rfl, fun j t ht => ?_⟩
      have hm : t ∈ Tryd.f8.params.toList := List.mem_of_getElem? (i := j) (by rw [Array.getElem?_toList]; exact ht)
      have hall := List.all_eq_true.mp (show (Tryd.f8.params.toList.all fun t => !Tryd.prog.wantsStandIn t) = true by kernel_rfl) t hm
      exact Bool.not_eq_true' _ |>.mp hall)
    (by kernel_rfl)
end Go.Proofs.YtibmeomlokigjaaDoor.fnExactCupLine
namespace Go.Proofs.YtibmeomlokigjaaDoor
theorem fnExactCupLine_holds : Rows.FnExactCupLineCardSaid := fnExactCupLine.provedCard
end Go.Proofs.YtibmeomlokigjaaDoor
