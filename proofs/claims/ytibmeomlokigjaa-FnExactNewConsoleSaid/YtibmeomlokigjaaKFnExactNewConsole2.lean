/- A part of the proof of FnExactNewConsole: functions of the program, as plain functions, with the proof that the machine's call does what they say; plain lemmas; and those of the words that print.sh prints which this proof uses. No condition. -/
import Derived.Test.YtibmeomlokigjaaKFnExactNewConsole1
import Derived.Test.YtibmeomlokigjaaProg
import Derived.Below
import Derived.Deep.Draws
import Derived.Deep.AppendLies
import Derived.Maps.AppendAt
import Derived.OwnWalk
import Derived.Laws.BytesArg
import Derived.Laws.MakeOwn
import Derived.Laws.OwnMore
import Derived.Deep.OwnRows
import Derived.Tactics
import Derived.Lib.ConvBytes
import Derived.Laws.Slices
import Derived.WalkKit
import Derived.KernelRfl
import Derived.RowKit3
import Derived.Deep.LoopGhost
import Derived.Deep.QuietTactic
import Derived.BigQuiet
import Derived.WideLaws
import Derived.Deep.DeepCutAuto
import Derived.Deep.CutBlock
import Derived.Deep.RegionHeld3
import Derived.Laws.Rows
import Derived.Lib.AppendStr
import Derived.ArgAppend
import Derived.Laws.IdiomCopy
import Derived.OrdersHeld
import Derived.Laws.BitsLemmas
import Derived.RowKit
import Derived.WalkSpells
import Derived.Laws.StructEq
namespace Go.Proofs.Ytibmeomlokigjaa.Q
open Go.RowKit Go.Proofs.YtibmeomlokigjaaW.PrintWords Go.Proofs.YtibmeomlokigjaaW.PrintLast Go.Proofs.YtibmeomlokigjaaW.PrintMore
attribute [local go_sem] max2_int min2_int max_two min_two max_three min_three max_four min_four
set_option linter.unusedVariables false
set_option linter.unusedSimpArgs false
def laws_eqBook.f (k : Nat) (l0_0 : List (S132)) (a0_1 : Int) (a0_2 : Int) (a0_3 : Int) (l0_4 : List Int) (a0_5 : Bool) (l0_6 : List (S47)) (l0_7 : List Int) (l0_8 : List Int) (l1_0 : List (S132)) (a1_1 : Int) (a1_2 : Int) (a1_3 : Int) (l1_4 : List Int) (a1_5 : Bool) (l1_6 : List (S47)) (l1_7 : List Int) (l1_8 : List Int) : Option (Bool) := (laws_eqTeamS.f k l0_0 l1_0).bind fun t819 => (if t819 = true then ((laws_eqRules.f k a0_1 a0_2 a0_3 l0_4 a0_5 a1_1 a1_2 a1_3 l1_4 a1_5).bind fun t820 => (if t820 = true then ((laws_eqGameS.f k l0_6 l1_6).bind fun t821 => (if t821 = true then ((laws_eqIntS.f k l0_7 l1_7).bind fun t822 => (if t822 = true then ((laws_eqIntS.f k l0_8 l1_8).bind fun t823 => (if t823 = true then (some true) else (some false))) else (some false))) else (some false))) else (some false))) else (some false))
set_option maxHeartbeats 8000000 in
set_option maxRecDepth 100000 in
theorem laws_eqBook.calls (k : Nat) (A0_0 : Option Addr) (c0_0 : Nat) (l0_0 : List (S132)) (a0_1 : Int) (a0_2 : Int) (a0_3 : Int) (A0_4 : Option Addr) (c0_4 : Nat) (l0_4 : List Int) (a0_5 : Bool) (A0_6 : Option Addr) (c0_6 : Nat) (l0_6 : List (S47)) (A0_7 : Option Addr) (c0_7 : Nat) (l0_7 : List Int) (A0_8 : Option Addr) (c0_8 : Nat) (l0_8 : List Int) (A1_0 : Option Addr) (c1_0 : Nat) (l1_0 : List (S132)) (a1_1 : Int) (a1_2 : Int) (a1_3 : Int) (A1_4 : Option Addr) (c1_4 : Nat) (l1_4 : List Int) (a1_5 : Bool) (A1_6 : Option Addr) (c1_6 : Nat) (l1_6 : List (S47)) (A1_7 : Option Addr) (c1_7 : Nat) (l1_7 : List Int) (A1_8 : Option Addr) (c1_8 : Nat) (l1_8 : List Int) (r : Bool) (w : World) (hr0_0 : Kd.C k132 w A0_0 l0_0.length l0_0) (hc0_0 : l0_0.length ≤ c0_0) (hr0_4 : Kd.C (Kd.int .i64) w A0_4 l0_4.length l0_4) (hc0_4 : l0_4.length ≤ c0_4) (hr0_6 : Kd.C k47 w A0_6 l0_6.length l0_6) (hc0_6 : l0_6.length ≤ c0_6) (hr0_7 : Kd.C (Kd.int .i64) w A0_7 l0_7.length l0_7) (hc0_7 : l0_7.length ≤ c0_7) (hr0_8 : Kd.C (Kd.int .i64) w A0_8 l0_8.length l0_8) (hc0_8 : l0_8.length ≤ c0_8) (hr1_0 : Kd.C k132 w A1_0 l1_0.length l1_0) (hc1_0 : l1_0.length ≤ c1_0) (hr1_4 : Kd.C (Kd.int .i64) w A1_4 l1_4.length l1_4) (hc1_4 : l1_4.length ≤ c1_4) (hr1_6 : Kd.C k47 w A1_6 l1_6.length l1_6) (hc1_6 : l1_6.length ≤ c1_6) (hr1_7 : Kd.C (Kd.int .i64) w A1_7 l1_7.length l1_7) (hc1_7 : l1_7.length ≤ c1_7) (hr1_8 : Kd.C (Kd.int .i64) w A1_8 l1_8.length l1_8) (hc1_8 : l1_8.length ≤ c1_8) (h : laws_eqBook.f k l0_0 a0_1 a0_2 a0_3 l0_4 a0_5 l0_6 l0_7 l0_8 l1_0 a1_1 a1_2 a1_3 l1_4 a1_5 l1_6 l1_7 l1_8 = some r) :
    Calls Try.prog 83 #[.agg #[.slice A0_0 l0_0.length c0_0, .int .i64 a0_1, .int .i64 a0_2, .int .i64 a0_3, .slice A0_4 l0_4.length c0_4, .bool a0_5, .slice A0_6 l0_6.length c0_6, .slice A0_7 l0_7.length c0_7, .slice A0_8 l0_8.length c0_8], .agg #[.slice A1_0 l1_0.length c1_0, .int .i64 a1_1, .int .i64 a1_2, .int .i64 a1_3, .slice A1_4 l1_4.length c1_4, .bool a1_5, .slice A1_6 l1_6.length c1_6, .slice A1_7 l1_7.length c1_7, .slice A1_8 l1_8.length c1_8]] w fun e w' => e = .returned (.bool r) ∧ Below w.heap.size w w' := by
  have hu29 := Try.underlying29
  have hu26 := Try.underlying26
  have HR0_0 := Aside0.mk hr0_0
  have HC0_0 := Aside0.mk hc0_0
  clear hr0_0 hc0_0
  have HR0_4 := Aside0.mk hr0_4
  have HC0_4 := Aside0.mk hc0_4
  clear hr0_4 hc0_4
  have HR0_6 := Aside0.mk hr0_6
  have HC0_6 := Aside0.mk hc0_6
  clear hr0_6 hc0_6
  have HR0_7 := Aside0.mk hr0_7
  have HC0_7 := Aside0.mk hc0_7
  clear hr0_7 hc0_7
  have HR0_8 := Aside0.mk hr0_8
  have HC0_8 := Aside0.mk hc0_8
  clear hr0_8 hc0_8
  have HR1_0 := Aside0.mk hr1_0
  have HC1_0 := Aside0.mk hc1_0
  clear hr1_0 hc1_0
  have HR1_4 := Aside0.mk hr1_4
  have HC1_4 := Aside0.mk hc1_4
  clear hr1_4 hc1_4
  have HR1_6 := Aside0.mk hr1_6
  have HC1_6 := Aside0.mk hc1_6
  clear hr1_6 hc1_6
  have HR1_7 := Aside0.mk hr1_7
  have HC1_7 := Aside0.mk hc1_7
  clear hr1_7 hc1_7
  have HR1_8 := Aside0.mk hr1_8
  have HC1_8 := Aside0.mk hc1_8
  clear hr1_8 hc1_8
  have HB := Aside0.mk (Below.refl w.heap.size w)
  have H : ((laws_eqTeamS.f k l0_0 l1_0).bind fun t819 => (if t819 = true then ((laws_eqRules.f k a0_1 a0_2 a0_3 l0_4 a0_5 a1_1 a1_2 a1_3 l1_4 a1_5).bind fun t820 => (if t820 = true then ((laws_eqGameS.f k l0_6 l1_6).bind fun t821 => (if t821 = true then ((laws_eqIntS.f k l0_7 l1_7).bind fun t822 => (if t822 = true then ((laws_eqIntS.f k l0_8 l1_8).bind fun t823 => (if t823 = true then (some true) else (some false))) else (some false))) else (some false))) else (some false))) else (some false))) = some r := h
  clear h
  replace H := Option.bind_eq_some_iff.mp H
  obtain ⟨t819, A30, H⟩ := H
  replace H : (if t819 = true then ((laws_eqRules.f k a0_1 a0_2 a0_3 l0_4 a0_5 a1_1 a1_2 a1_3 l1_4 a1_5).bind fun t820 => (if t820 = true then ((laws_eqGameS.f k l0_6 l1_6).bind fun t821 => (if t821 = true then ((laws_eqIntS.f k l0_7 l1_7).bind fun t822 => (if t822 = true then ((laws_eqIntS.f k l0_8 l1_8).bind fun t823 => (if t823 = true then (some true) else (some false))) else (some false))) else (some false))) else (some false))) else (some false)) = some r := H
  have A3 := Aside0.mk A30
  clear A30
  by_cases c4 : t819 = true
  · subst c4
    have H1 : ((laws_eqRules.f k a0_1 a0_2 a0_3 l0_4 a0_5 a1_1 a1_2 a1_3 l1_4 a1_5).bind fun t820 => (if t820 = true then ((laws_eqGameS.f k l0_6 l1_6).bind fun t821 => (if t821 = true then ((laws_eqIntS.f k l0_7 l1_7).bind fun t822 => (if t822 = true then ((laws_eqIntS.f k l0_8 l1_8).bind fun t823 => (if t823 = true then (some true) else (some false))) else (some false))) else (some false))) else (some false))) = some r := by rw [if_pos rfl] at H; exact H
    clear H
    have H := H1
    clear H1
    replace H := Option.bind_eq_some_iff.mp H
    obtain ⟨t820, A50, H⟩ := H
    replace H : (if t820 = true then ((laws_eqGameS.f k l0_6 l1_6).bind fun t821 => (if t821 = true then ((laws_eqIntS.f k l0_7 l1_7).bind fun t822 => (if t822 = true then ((laws_eqIntS.f k l0_8 l1_8).bind fun t823 => (if t823 = true then (some true) else (some false))) else (some false))) else (some false))) else (some false)) = some r := H
    have A5 := Aside0.mk A50
    clear A50
    by_cases c6 : t820 = true
    · subst c6
      have H1 : ((laws_eqGameS.f k l0_6 l1_6).bind fun t821 => (if t821 = true then ((laws_eqIntS.f k l0_7 l1_7).bind fun t822 => (if t822 = true then ((laws_eqIntS.f k l0_8 l1_8).bind fun t823 => (if t823 = true then (some true) else (some false))) else (some false))) else (some false))) = some r := by rw [if_pos rfl] at H; exact H
      clear H
      have H := H1
      clear H1
      replace H := Option.bind_eq_some_iff.mp H
      obtain ⟨t821, A70, H⟩ := H
      replace H : (if t821 = true then ((laws_eqIntS.f k l0_7 l1_7).bind fun t822 => (if t822 = true then ((laws_eqIntS.f k l0_8 l1_8).bind fun t823 => (if t823 = true then (some true) else (some false))) else (some false))) else (some false)) = some r := H
      have A7 := Aside0.mk A70
      clear A70
      by_cases c8 : t821 = true
      · subst c8
        have H1 : ((laws_eqIntS.f k l0_7 l1_7).bind fun t822 => (if t822 = true then ((laws_eqIntS.f k l0_8 l1_8).bind fun t823 => (if t823 = true then (some true) else (some false))) else (some false))) = some r := by rw [if_pos rfl] at H; exact H
        clear H
        have H := H1
        clear H1
        replace H := Option.bind_eq_some_iff.mp H
        obtain ⟨t822, A90, H⟩ := H
        replace H : (if t822 = true then ((laws_eqIntS.f k l0_8 l1_8).bind fun t823 => (if t823 = true then (some true) else (some false))) else (some false)) = some r := H
        have A9 := Aside0.mk A90
        clear A90
        by_cases c10 : t822 = true
        · subst c10
          have H1 : ((laws_eqIntS.f k l0_8 l1_8).bind fun t823 => (if t823 = true then (some true) else (some false))) = some r := by rw [if_pos rfl] at H; exact H
          clear H
          have H := H1
          clear H1
          replace H := Option.bind_eq_some_iff.mp H
          obtain ⟨t823, A110, H⟩ := H
          replace H : (if t823 = true then (some true) else (some false)) = some r := H
          have A11 := Aside0.mk A110
          clear A110
          by_cases c12 : t823 = true
          · subst c12
            have H1 : (some true) = some r := by rw [if_pos rfl] at H; exact H
            clear H
            have H := H1
            clear H1
            obtain rfl := Option.some.inj H
            go_enter Try.func83, Try.ntmps83
            go_wp2_with (first | ((with_reducible refine gate_dst (N := 2) rfl ?_); refine bx (N := 2) (cs := #[.slice A0_0 l0_0.length c0_0, .int .i64 a0_1, .int .i64 a0_2, .int .i64 a0_3, .slice A0_4 l0_4.length c0_4, .bool a0_5, .slice A0_6 l0_6.length c0_6, .slice A0_7 l0_7.length c0_7, .slice A0_8 l0_8.length c0_8]) (t := 29) ?_; intro gb817 hg w13 hbox hb; have BK817 := Aside0.mk (hbox); have GW817 := gs hg HB; have GE817 := gs hg HB; replace HB := hs_ HB hb; clear hb hbox hg) | ((with_reducible refine gate_dst (N := 3) rfl ?_); refine bx (N := 3) (cs := #[.slice A1_0 l1_0.length c1_0, .int .i64 a1_1, .int .i64 a1_2, .int .i64 a1_3, .slice A1_4 l1_4.length c1_4, .bool a1_5, .slice A1_6 l1_6.length c1_6, .slice A1_7 l1_7.length c1_7, .slice A1_8 l1_8.length c1_8]) (t := 29) ?_; intro gb818 hg w14 hbox hb; have BK818 := Aside0.mk (hbox); have GW818 := gs hg HB; have GE818 := gs hg HB; replace HB := hs_ HB hb; have NB817_818 := gn hg BK817; have NB818_817 := gm hg BK817; replace BK817 := kb BK817 hb; clear hb hbox hg; have hnb15 := NB817_818.out; have hnc15 := NB818_817.out; have ⟨hcz16_0, hcz16_1, hcz16_2, hcz16_3, hcz16_4, hcz16_5, hcz16_6, hcz16_7, hcz16_8, hfz16_0, hfz16_1, hfz16_2, hfz16_3, hfz16_4, hfz16_5, hfz16_6, hfz16_7, hfz16_8⟩ := rz9 BK817; have ⟨hcz17_0, hcz17_1, hcz17_2, hcz17_3, hcz17_4, hcz17_5, hcz17_6, hcz17_7, hcz17_8, hfz17_0, hfz17_1, hfz17_2, hfz17_3, hfz17_4, hfz17_5, hfz17_6, hfz17_7, hfz17_8⟩ := rz9 BK818) | ((with_reducible refine gate_callee (f := 119) rfl ?_); refine gl (some 9) Try.func119 #[.slice A0_0 l0_0.length c0_0, .slice A1_0 l1_0.length c1_0] ?_; (with_reducible refine (laws_eqTeamS.calls k _ _ l0_0 _ _ l1_0 true _ ?side1 ?side2 ?side3 ?side4 A3.out).mono ?_); (case side1 => exact cc HR0_0 HB); (case side2 => exact HC0_0.out); (case side3 => exact cc HR1_0 HB); (case side4 => exact HC1_0.out); rintro e w18 ⟨rfl, hb⟩; refine ⟨_, rfl, ?_⟩; replace BK817 := kb BK817 hb; replace BK818 := kb BK818 hb; replace HB := hs_ HB hb; (try clear hb); (try clear hb2); (try clear hk); (try clear hi); have ⟨hcz19_0, hcz19_1, hcz19_2, hcz19_3, hcz19_4, hcz19_5, hcz19_6, hcz19_7, hcz19_8, hfz19_0, hfz19_1, hfz19_2, hfz19_3, hfz19_4, hfz19_5, hfz19_6, hfz19_7, hfz19_8⟩ := rz9 BK817; have ⟨hcz20_0, hcz20_1, hcz20_2, hcz20_3, hcz20_4, hcz20_5, hcz20_6, hcz20_7, hcz20_8, hfz20_0, hfz20_1, hfz20_2, hfz20_3, hfz20_4, hfz20_5, hfz20_6, hfz20_7, hfz20_8⟩ := rz9 BK818) | ((with_reducible refine gate_callee (f := 120) rfl ?_); refine gl (some 15) Try.func120 #[.agg #[.int .i64 a0_1, .int .i64 a0_2, .int .i64 a0_3, .slice A0_4 l0_4.length c0_4, .bool a0_5], .agg #[.int .i64 a1_1, .int .i64 a1_2, .int .i64 a1_3, .slice A1_4 l1_4.length c1_4, .bool a1_5]] ?_; (with_reducible refine (laws_eqRules.calls k a0_1 a0_2 a0_3 _ _ l0_4 a0_5 a1_1 a1_2 a1_3 _ _ l1_4 a1_5 true _ ?side1 ?side2 ?side3 ?side4 A5.out).mono ?_); (case side1 => exact cc HR0_4 HB); (case side2 => exact HC0_4.out); (case side3 => exact cc HR1_4 HB); (case side4 => exact HC1_4.out); rintro e w21 ⟨rfl, hb⟩; refine ⟨_, rfl, ?_⟩; replace BK817 := kb BK817 hb; replace BK818 := kb BK818 hb; replace HB := hs_ HB hb; (try clear hb); (try clear hb2); (try clear hk); (try clear hi); have ⟨hcz22_0, hcz22_1, hcz22_2, hcz22_3, hcz22_4, hcz22_5, hcz22_6, hcz22_7, hcz22_8, hfz22_0, hfz22_1, hfz22_2, hfz22_3, hfz22_4, hfz22_5, hfz22_6, hfz22_7, hfz22_8⟩ := rz9 BK817; have ⟨hcz23_0, hcz23_1, hcz23_2, hcz23_3, hcz23_4, hcz23_5, hcz23_6, hcz23_7, hcz23_8, hfz23_0, hfz23_1, hfz23_2, hfz23_3, hfz23_4, hfz23_5, hfz23_6, hfz23_7, hfz23_8⟩ := rz9 BK818) | ((with_reducible refine gate_callee (f := 121) rfl ?_); refine gl (some 21) Try.func121 #[.slice A0_6 l0_6.length c0_6, .slice A1_6 l1_6.length c1_6] ?_; (with_reducible refine (laws_eqGameS.calls k _ _ l0_6 _ _ l1_6 true _ ?side1 ?side2 ?side3 ?side4 A7.out).mono ?_); (case side1 => exact cc HR0_6 HB); (case side2 => exact HC0_6.out); (case side3 => exact cc HR1_6 HB); (case side4 => exact HC1_6.out); rintro e w24 ⟨rfl, hb⟩; refine ⟨_, rfl, ?_⟩; replace BK817 := kb BK817 hb; replace BK818 := kb BK818 hb; replace HB := hs_ HB hb; (try clear hb); (try clear hb2); (try clear hk); (try clear hi); have ⟨hcz25_0, hcz25_1, hcz25_2, hcz25_3, hcz25_4, hcz25_5, hcz25_6, hcz25_7, hcz25_8, hfz25_0, hfz25_1, hfz25_2, hfz25_3, hfz25_4, hfz25_5, hfz25_6, hfz25_7, hfz25_8⟩ := rz9 BK817; have ⟨hcz26_0, hcz26_1, hcz26_2, hcz26_3, hcz26_4, hcz26_5, hcz26_6, hcz26_7, hcz26_8, hfz26_0, hfz26_1, hfz26_2, hfz26_3, hfz26_4, hfz26_5, hfz26_6, hfz26_7, hfz26_8⟩ := rz9 BK818) | ((with_reducible refine gate_callee (f := 122) rfl ?_); refine gl (some 27) Try.func122 #[.slice A0_7 l0_7.length c0_7, .slice A1_7 l1_7.length c1_7] ?_; (with_reducible refine (laws_eqIntS.calls k _ _ l0_7 _ _ l1_7 true _ ?side1 ?side2 ?side3 ?side4 A9.out).mono ?_); (case side1 => exact cc HR0_7 HB); (case side2 => exact HC0_7.out); (case side3 => exact cc HR1_7 HB); (case side4 => exact HC1_7.out); rintro e w' ⟨rfl, ⟨nd, rfl⟩⟩; refine ⟨_, rfl, ?_⟩) | ((with_reducible refine gate_callee (f := 122) rfl ?_); refine gl (some 33) Try.func122 #[.slice A0_8 l0_8.length c0_8, .slice A1_8 l1_8.length c1_8] ?_; (with_reducible refine (laws_eqIntS.calls k _ _ l0_8 _ _ l1_8 true _ ?side1 ?side2 ?side3 ?side4 A11.out).mono ?_); (case side1 => repeat (first | exact (Kd.C_below HR0_8.out (bb HB)) | (with_reducible refine Kd.C_alloc ?_ _) | (with_reducible refine Kd.C_drewN ?_ _) | (with_reducible refine Kd.C_drew ?_))); (case side2 => exact HC0_8.out); (case side3 => repeat (first | exact (Kd.C_below HR1_8.out (bb HB)) | (with_reducible refine Kd.C_alloc ?_ _) | (with_reducible refine Kd.C_drewN ?_ _) | (with_reducible refine Kd.C_drew ?_))); (case side4 => exact HC1_8.out); rintro e w' ⟨rfl, ⟨nd, rfl⟩⟩; refine ⟨_, rfl, ?_⟩))
            go_ret
            exact ⟨ee, bb HB⟩
          · replace c12 := Bool.eq_false_iff.mpr c12
            subst c12
            have H1 : (some false) = some r := by rw [if_neg (show ¬ (false = true) by decide)] at H; exact H
            clear H
            have H := H1
            clear H1
            obtain rfl := Option.some.inj H
            go_enter Try.func83, Try.ntmps83
            go_wp2_with (first | ((with_reducible refine gate_dst (N := 2) rfl ?_); refine bx (N := 2) (cs := #[.slice A0_0 l0_0.length c0_0, .int .i64 a0_1, .int .i64 a0_2, .int .i64 a0_3, .slice A0_4 l0_4.length c0_4, .bool a0_5, .slice A0_6 l0_6.length c0_6, .slice A0_7 l0_7.length c0_7, .slice A0_8 l0_8.length c0_8]) (t := 29) ?_; intro gb817 hg w27 hbox hb; have BK817 := Aside0.mk (hbox); have GW817 := gs hg HB; have GE817 := gs hg HB; replace HB := hs_ HB hb; clear hb hbox hg) | ((with_reducible refine gate_dst (N := 3) rfl ?_); refine bx (N := 3) (cs := #[.slice A1_0 l1_0.length c1_0, .int .i64 a1_1, .int .i64 a1_2, .int .i64 a1_3, .slice A1_4 l1_4.length c1_4, .bool a1_5, .slice A1_6 l1_6.length c1_6, .slice A1_7 l1_7.length c1_7, .slice A1_8 l1_8.length c1_8]) (t := 29) ?_; intro gb818 hg w28 hbox hb; have BK818 := Aside0.mk (hbox); have GW818 := gs hg HB; have GE818 := gs hg HB; replace HB := hs_ HB hb; have NB817_818 := gn hg BK817; have NB818_817 := gm hg BK817; replace BK817 := kb BK817 hb; clear hb hbox hg; have hnb29 := NB817_818.out; have hnc29 := NB818_817.out; have ⟨hcz30_0, hcz30_1, hcz30_2, hcz30_3, hcz30_4, hcz30_5, hcz30_6, hcz30_7, hcz30_8, hfz30_0, hfz30_1, hfz30_2, hfz30_3, hfz30_4, hfz30_5, hfz30_6, hfz30_7, hfz30_8⟩ := rz9 BK817; have ⟨hcz31_0, hcz31_1, hcz31_2, hcz31_3, hcz31_4, hcz31_5, hcz31_6, hcz31_7, hcz31_8, hfz31_0, hfz31_1, hfz31_2, hfz31_3, hfz31_4, hfz31_5, hfz31_6, hfz31_7, hfz31_8⟩ := rz9 BK818) | ((with_reducible refine gate_callee (f := 119) rfl ?_); refine gl (some 9) Try.func119 #[.slice A0_0 l0_0.length c0_0, .slice A1_0 l1_0.length c1_0] ?_; (with_reducible refine (laws_eqTeamS.calls k _ _ l0_0 _ _ l1_0 true _ ?side1 ?side2 ?side3 ?side4 A3.out).mono ?_); (case side1 => exact cc HR0_0 HB); (case side2 => exact HC0_0.out); (case side3 => exact cc HR1_0 HB); (case side4 => exact HC1_0.out); rintro e w32 ⟨rfl, hb⟩; refine ⟨_, rfl, ?_⟩; replace BK817 := kb BK817 hb; replace BK818 := kb BK818 hb; replace HB := hs_ HB hb; (try clear hb); (try clear hb2); (try clear hk); (try clear hi); have ⟨hcz33_0, hcz33_1, hcz33_2, hcz33_3, hcz33_4, hcz33_5, hcz33_6, hcz33_7, hcz33_8, hfz33_0, hfz33_1, hfz33_2, hfz33_3, hfz33_4, hfz33_5, hfz33_6, hfz33_7, hfz33_8⟩ := rz9 BK817; have ⟨hcz34_0, hcz34_1, hcz34_2, hcz34_3, hcz34_4, hcz34_5, hcz34_6, hcz34_7, hcz34_8, hfz34_0, hfz34_1, hfz34_2, hfz34_3, hfz34_4, hfz34_5, hfz34_6, hfz34_7, hfz34_8⟩ := rz9 BK818) | ((with_reducible refine gate_callee (f := 120) rfl ?_); refine gl (some 15) Try.func120 #[.agg #[.int .i64 a0_1, .int .i64 a0_2, .int .i64 a0_3, .slice A0_4 l0_4.length c0_4, .bool a0_5], .agg #[.int .i64 a1_1, .int .i64 a1_2, .int .i64 a1_3, .slice A1_4 l1_4.length c1_4, .bool a1_5]] ?_; (with_reducible refine (laws_eqRules.calls k a0_1 a0_2 a0_3 _ _ l0_4 a0_5 a1_1 a1_2 a1_3 _ _ l1_4 a1_5 true _ ?side1 ?side2 ?side3 ?side4 A5.out).mono ?_); (case side1 => exact cc HR0_4 HB); (case side2 => exact HC0_4.out); (case side3 => exact cc HR1_4 HB); (case side4 => exact HC1_4.out); rintro e w35 ⟨rfl, hb⟩; refine ⟨_, rfl, ?_⟩; replace BK817 := kb BK817 hb; replace BK818 := kb BK818 hb; replace HB := hs_ HB hb; (try clear hb); (try clear hb2); (try clear hk); (try clear hi); have ⟨hcz36_0, hcz36_1, hcz36_2, hcz36_3, hcz36_4, hcz36_5, hcz36_6, hcz36_7, hcz36_8, hfz36_0, hfz36_1, hfz36_2, hfz36_3, hfz36_4, hfz36_5, hfz36_6, hfz36_7, hfz36_8⟩ := rz9 BK817; have ⟨hcz37_0, hcz37_1, hcz37_2, hcz37_3, hcz37_4, hcz37_5, hcz37_6, hcz37_7, hcz37_8, hfz37_0, hfz37_1, hfz37_2, hfz37_3, hfz37_4, hfz37_5, hfz37_6, hfz37_7, hfz37_8⟩ := rz9 BK818) | ((with_reducible refine gate_callee (f := 121) rfl ?_); refine gl (some 21) Try.func121 #[.slice A0_6 l0_6.length c0_6, .slice A1_6 l1_6.length c1_6] ?_; (with_reducible refine (laws_eqGameS.calls k _ _ l0_6 _ _ l1_6 true _ ?side1 ?side2 ?side3 ?side4 A7.out).mono ?_); (case side1 => exact cc HR0_6 HB); (case side2 => exact HC0_6.out); (case side3 => exact cc HR1_6 HB); (case side4 => exact HC1_6.out); rintro e w38 ⟨rfl, hb⟩; refine ⟨_, rfl, ?_⟩; replace BK817 := kb BK817 hb; replace BK818 := kb BK818 hb; replace HB := hs_ HB hb; (try clear hb); (try clear hb2); (try clear hk); (try clear hi); have ⟨hcz39_0, hcz39_1, hcz39_2, hcz39_3, hcz39_4, hcz39_5, hcz39_6, hcz39_7, hcz39_8, hfz39_0, hfz39_1, hfz39_2, hfz39_3, hfz39_4, hfz39_5, hfz39_6, hfz39_7, hfz39_8⟩ := rz9 BK817; have ⟨hcz40_0, hcz40_1, hcz40_2, hcz40_3, hcz40_4, hcz40_5, hcz40_6, hcz40_7, hcz40_8, hfz40_0, hfz40_1, hfz40_2, hfz40_3, hfz40_4, hfz40_5, hfz40_6, hfz40_7, hfz40_8⟩ := rz9 BK818) | ((with_reducible refine gate_callee (f := 122) rfl ?_); refine gl (some 27) Try.func122 #[.slice A0_7 l0_7.length c0_7, .slice A1_7 l1_7.length c1_7] ?_; (with_reducible refine (laws_eqIntS.calls k _ _ l0_7 _ _ l1_7 true _ ?side1 ?side2 ?side3 ?side4 A9.out).mono ?_); (case side1 => exact cc HR0_7 HB); (case side2 => exact HC0_7.out); (case side3 => exact cc HR1_7 HB); (case side4 => exact HC1_7.out); rintro e w' ⟨rfl, ⟨nd, rfl⟩⟩; refine ⟨_, rfl, ?_⟩) | ((with_reducible refine gate_callee (f := 122) rfl ?_); refine gl (some 33) Try.func122 #[.slice A0_8 l0_8.length c0_8, .slice A1_8 l1_8.length c1_8] ?_; (with_reducible refine (laws_eqIntS.calls k _ _ l0_8 _ _ l1_8 false _ ?side1 ?side2 ?side3 ?side4 A11.out).mono ?_); (case side1 => repeat (first | exact (Kd.C_below HR0_8.out (bb HB)) | (with_reducible refine Kd.C_alloc ?_ _) | (with_reducible refine Kd.C_drewN ?_ _) | (with_reducible refine Kd.C_drew ?_))); (case side2 => exact HC0_8.out); (case side3 => repeat (first | exact (Kd.C_below HR1_8.out (bb HB)) | (with_reducible refine Kd.C_alloc ?_ _) | (with_reducible refine Kd.C_drewN ?_ _) | (with_reducible refine Kd.C_drew ?_))); (case side4 => exact HC1_8.out); rintro e w' ⟨rfl, ⟨nd, rfl⟩⟩; refine ⟨_, rfl, ?_⟩))
            go_ret
            exact ⟨ee, bb HB⟩
        · replace c10 := Bool.eq_false_iff.mpr c10
          subst c10
          have H1 : (some false) = some r := by rw [if_neg (show ¬ (false = true) by decide)] at H; exact H
          clear H
          have H := H1
          clear H1
          obtain rfl := Option.some.inj H
          go_enter Try.func83, Try.ntmps83
          go_wp2_with (first | ((with_reducible refine gate_dst (N := 2) rfl ?_); refine bx (N := 2) (cs := #[.slice A0_0 l0_0.length c0_0, .int .i64 a0_1, .int .i64 a0_2, .int .i64 a0_3, .slice A0_4 l0_4.length c0_4, .bool a0_5, .slice A0_6 l0_6.length c0_6, .slice A0_7 l0_7.length c0_7, .slice A0_8 l0_8.length c0_8]) (t := 29) ?_; intro gb817 hg w41 hbox hb; have BK817 := Aside0.mk (hbox); have GW817 := gs hg HB; have GE817 := gs hg HB; replace HB := hs_ HB hb; clear hb hbox hg) | ((with_reducible refine gate_dst (N := 3) rfl ?_); refine bx (N := 3) (cs := #[.slice A1_0 l1_0.length c1_0, .int .i64 a1_1, .int .i64 a1_2, .int .i64 a1_3, .slice A1_4 l1_4.length c1_4, .bool a1_5, .slice A1_6 l1_6.length c1_6, .slice A1_7 l1_7.length c1_7, .slice A1_8 l1_8.length c1_8]) (t := 29) ?_; intro gb818 hg w42 hbox hb; have BK818 := Aside0.mk (hbox); have GW818 := gs hg HB; have GE818 := gs hg HB; replace HB := hs_ HB hb; have NB817_818 := gn hg BK817; have NB818_817 := gm hg BK817; replace BK817 := kb BK817 hb; clear hb hbox hg; have hnb43 := NB817_818.out; have hnc43 := NB818_817.out; have ⟨hcz44_0, hcz44_1, hcz44_2, hcz44_3, hcz44_4, hcz44_5, hcz44_6, hcz44_7, hcz44_8, hfz44_0, hfz44_1, hfz44_2, hfz44_3, hfz44_4, hfz44_5, hfz44_6, hfz44_7, hfz44_8⟩ := rz9 BK817; have ⟨hcz45_0, hcz45_1, hcz45_2, hcz45_3, hcz45_4, hcz45_5, hcz45_6, hcz45_7, hcz45_8, hfz45_0, hfz45_1, hfz45_2, hfz45_3, hfz45_4, hfz45_5, hfz45_6, hfz45_7, hfz45_8⟩ := rz9 BK818) | ((with_reducible refine gate_callee (f := 119) rfl ?_); refine gl (some 9) Try.func119 #[.slice A0_0 l0_0.length c0_0, .slice A1_0 l1_0.length c1_0] ?_; (with_reducible refine (laws_eqTeamS.calls k _ _ l0_0 _ _ l1_0 true _ ?side1 ?side2 ?side3 ?side4 A3.out).mono ?_); (case side1 => exact cc HR0_0 HB); (case side2 => exact HC0_0.out); (case side3 => exact cc HR1_0 HB); (case side4 => exact HC1_0.out); rintro e w46 ⟨rfl, hb⟩; refine ⟨_, rfl, ?_⟩; replace BK817 := kb BK817 hb; replace BK818 := kb BK818 hb; replace HB := hs_ HB hb; (try clear hb); (try clear hb2); (try clear hk); (try clear hi); have ⟨hcz47_0, hcz47_1, hcz47_2, hcz47_3, hcz47_4, hcz47_5, hcz47_6, hcz47_7, hcz47_8, hfz47_0, hfz47_1, hfz47_2, hfz47_3, hfz47_4, hfz47_5, hfz47_6, hfz47_7, hfz47_8⟩ := rz9 BK817; have ⟨hcz48_0, hcz48_1, hcz48_2, hcz48_3, hcz48_4, hcz48_5, hcz48_6, hcz48_7, hcz48_8, hfz48_0, hfz48_1, hfz48_2, hfz48_3, hfz48_4, hfz48_5, hfz48_6, hfz48_7, hfz48_8⟩ := rz9 BK818) | ((with_reducible refine gate_callee (f := 120) rfl ?_); refine gl (some 15) Try.func120 #[.agg #[.int .i64 a0_1, .int .i64 a0_2, .int .i64 a0_3, .slice A0_4 l0_4.length c0_4, .bool a0_5], .agg #[.int .i64 a1_1, .int .i64 a1_2, .int .i64 a1_3, .slice A1_4 l1_4.length c1_4, .bool a1_5]] ?_; (with_reducible refine (laws_eqRules.calls k a0_1 a0_2 a0_3 _ _ l0_4 a0_5 a1_1 a1_2 a1_3 _ _ l1_4 a1_5 true _ ?side1 ?side2 ?side3 ?side4 A5.out).mono ?_); (case side1 => exact cc HR0_4 HB); (case side2 => exact HC0_4.out); (case side3 => exact cc HR1_4 HB); (case side4 => exact HC1_4.out); rintro e w49 ⟨rfl, hb⟩; refine ⟨_, rfl, ?_⟩; replace BK817 := kb BK817 hb; replace BK818 := kb BK818 hb; replace HB := hs_ HB hb; (try clear hb); (try clear hb2); (try clear hk); (try clear hi); have ⟨hcz50_0, hcz50_1, hcz50_2, hcz50_3, hcz50_4, hcz50_5, hcz50_6, hcz50_7, hcz50_8, hfz50_0, hfz50_1, hfz50_2, hfz50_3, hfz50_4, hfz50_5, hfz50_6, hfz50_7, hfz50_8⟩ := rz9 BK817; have ⟨hcz51_0, hcz51_1, hcz51_2, hcz51_3, hcz51_4, hcz51_5, hcz51_6, hcz51_7, hcz51_8, hfz51_0, hfz51_1, hfz51_2, hfz51_3, hfz51_4, hfz51_5, hfz51_6, hfz51_7, hfz51_8⟩ := rz9 BK818) | ((with_reducible refine gate_callee (f := 121) rfl ?_); refine gl (some 21) Try.func121 #[.slice A0_6 l0_6.length c0_6, .slice A1_6 l1_6.length c1_6] ?_; (with_reducible refine (laws_eqGameS.calls k _ _ l0_6 _ _ l1_6 true _ ?side1 ?side2 ?side3 ?side4 A7.out).mono ?_); (case side1 => exact cc HR0_6 HB); (case side2 => exact HC0_6.out); (case side3 => exact cc HR1_6 HB); (case side4 => exact HC1_6.out); rintro e w52 ⟨rfl, hb⟩; refine ⟨_, rfl, ?_⟩; replace BK817 := kb BK817 hb; replace BK818 := kb BK818 hb; replace HB := hs_ HB hb; (try clear hb); (try clear hb2); (try clear hk); (try clear hi); have ⟨hcz53_0, hcz53_1, hcz53_2, hcz53_3, hcz53_4, hcz53_5, hcz53_6, hcz53_7, hcz53_8, hfz53_0, hfz53_1, hfz53_2, hfz53_3, hfz53_4, hfz53_5, hfz53_6, hfz53_7, hfz53_8⟩ := rz9 BK817; have ⟨hcz54_0, hcz54_1, hcz54_2, hcz54_3, hcz54_4, hcz54_5, hcz54_6, hcz54_7, hcz54_8, hfz54_0, hfz54_1, hfz54_2, hfz54_3, hfz54_4, hfz54_5, hfz54_6, hfz54_7, hfz54_8⟩ := rz9 BK818) | ((with_reducible refine gate_callee (f := 122) rfl ?_); refine gl (some 27) Try.func122 #[.slice A0_7 l0_7.length c0_7, .slice A1_7 l1_7.length c1_7] ?_; (with_reducible refine (laws_eqIntS.calls k _ _ l0_7 _ _ l1_7 false _ ?side1 ?side2 ?side3 ?side4 A9.out).mono ?_); (case side1 => exact cc HR0_7 HB); (case side2 => exact HC0_7.out); (case side3 => exact cc HR1_7 HB); (case side4 => exact HC1_7.out); rintro e w' ⟨rfl, ⟨nd, rfl⟩⟩; refine ⟨_, rfl, ?_⟩))
          go_ret
          exact ⟨ee, bb HB⟩
      · replace c8 := Bool.eq_false_iff.mpr c8
        subst c8
        have H1 : (some false) = some r := by rw [if_neg (show ¬ (false = true) by decide)] at H; exact H
        clear H
        have H := H1
        clear H1
        obtain rfl := Option.some.inj H
        go_enter Try.func83, Try.ntmps83
        go_wp2_with (first | ((with_reducible refine gate_dst (N := 2) rfl ?_); refine bx (N := 2) (cs := #[.slice A0_0 l0_0.length c0_0, .int .i64 a0_1, .int .i64 a0_2, .int .i64 a0_3, .slice A0_4 l0_4.length c0_4, .bool a0_5, .slice A0_6 l0_6.length c0_6, .slice A0_7 l0_7.length c0_7, .slice A0_8 l0_8.length c0_8]) (t := 29) ?_; intro gb817 hg w55 hbox hb; have BK817 := Aside0.mk (hbox); have GW817 := gs hg HB; have GE817 := gs hg HB; replace HB := hs_ HB hb; clear hb hbox hg) | ((with_reducible refine gate_dst (N := 3) rfl ?_); refine bx (N := 3) (cs := #[.slice A1_0 l1_0.length c1_0, .int .i64 a1_1, .int .i64 a1_2, .int .i64 a1_3, .slice A1_4 l1_4.length c1_4, .bool a1_5, .slice A1_6 l1_6.length c1_6, .slice A1_7 l1_7.length c1_7, .slice A1_8 l1_8.length c1_8]) (t := 29) ?_; intro gb818 hg w56 hbox hb; have BK818 := Aside0.mk (hbox); have GW818 := gs hg HB; have GE818 := gs hg HB; replace HB := hs_ HB hb; have NB817_818 := gn hg BK817; have NB818_817 := gm hg BK817; replace BK817 := kb BK817 hb; clear hb hbox hg; have hnb57 := NB817_818.out; have hnc57 := NB818_817.out; have ⟨hcz58_0, hcz58_1, hcz58_2, hcz58_3, hcz58_4, hcz58_5, hcz58_6, hcz58_7, hcz58_8, hfz58_0, hfz58_1, hfz58_2, hfz58_3, hfz58_4, hfz58_5, hfz58_6, hfz58_7, hfz58_8⟩ := rz9 BK817; have ⟨hcz59_0, hcz59_1, hcz59_2, hcz59_3, hcz59_4, hcz59_5, hcz59_6, hcz59_7, hcz59_8, hfz59_0, hfz59_1, hfz59_2, hfz59_3, hfz59_4, hfz59_5, hfz59_6, hfz59_7, hfz59_8⟩ := rz9 BK818) | ((with_reducible refine gate_callee (f := 119) rfl ?_); refine gl (some 9) Try.func119 #[.slice A0_0 l0_0.length c0_0, .slice A1_0 l1_0.length c1_0] ?_; (with_reducible refine (laws_eqTeamS.calls k _ _ l0_0 _ _ l1_0 true _ ?side1 ?side2 ?side3 ?side4 A3.out).mono ?_); (case side1 => exact cc HR0_0 HB); (case side2 => exact HC0_0.out); (case side3 => exact cc HR1_0 HB); (case side4 => exact HC1_0.out); rintro e w60 ⟨rfl, hb⟩; refine ⟨_, rfl, ?_⟩; replace BK817 := kb BK817 hb; replace BK818 := kb BK818 hb; replace HB := hs_ HB hb; (try clear hb); (try clear hb2); (try clear hk); (try clear hi); have ⟨hcz61_0, hcz61_1, hcz61_2, hcz61_3, hcz61_4, hcz61_5, hcz61_6, hcz61_7, hcz61_8, hfz61_0, hfz61_1, hfz61_2, hfz61_3, hfz61_4, hfz61_5, hfz61_6, hfz61_7, hfz61_8⟩ := rz9 BK817; have ⟨hcz62_0, hcz62_1, hcz62_2, hcz62_3, hcz62_4, hcz62_5, hcz62_6, hcz62_7, hcz62_8, hfz62_0, hfz62_1, hfz62_2, hfz62_3, hfz62_4, hfz62_5, hfz62_6, hfz62_7, hfz62_8⟩ := rz9 BK818) | ((with_reducible refine gate_callee (f := 120) rfl ?_); refine gl (some 15) Try.func120 #[.agg #[.int .i64 a0_1, .int .i64 a0_2, .int .i64 a0_3, .slice A0_4 l0_4.length c0_4, .bool a0_5], .agg #[.int .i64 a1_1, .int .i64 a1_2, .int .i64 a1_3, .slice A1_4 l1_4.length c1_4, .bool a1_5]] ?_; (with_reducible refine (laws_eqRules.calls k a0_1 a0_2 a0_3 _ _ l0_4 a0_5 a1_1 a1_2 a1_3 _ _ l1_4 a1_5 true _ ?side1 ?side2 ?side3 ?side4 A5.out).mono ?_); (case side1 => exact cc HR0_4 HB); (case side2 => exact HC0_4.out); (case side3 => exact cc HR1_4 HB); (case side4 => exact HC1_4.out); rintro e w63 ⟨rfl, hb⟩; refine ⟨_, rfl, ?_⟩; replace BK817 := kb BK817 hb; replace BK818 := kb BK818 hb; replace HB := hs_ HB hb; (try clear hb); (try clear hb2); (try clear hk); (try clear hi); have ⟨hcz64_0, hcz64_1, hcz64_2, hcz64_3, hcz64_4, hcz64_5, hcz64_6, hcz64_7, hcz64_8, hfz64_0, hfz64_1, hfz64_2, hfz64_3, hfz64_4, hfz64_5, hfz64_6, hfz64_7, hfz64_8⟩ := rz9 BK817; have ⟨hcz65_0, hcz65_1, hcz65_2, hcz65_3, hcz65_4, hcz65_5, hcz65_6, hcz65_7, hcz65_8, hfz65_0, hfz65_1, hfz65_2, hfz65_3, hfz65_4, hfz65_5, hfz65_6, hfz65_7, hfz65_8⟩ := rz9 BK818) | ((with_reducible refine gate_callee (f := 121) rfl ?_); refine gl (some 21) Try.func121 #[.slice A0_6 l0_6.length c0_6, .slice A1_6 l1_6.length c1_6] ?_; (with_reducible refine (laws_eqGameS.calls k _ _ l0_6 _ _ l1_6 false _ ?side1 ?side2 ?side3 ?side4 A7.out).mono ?_); (case side1 => exact cc HR0_6 HB); (case side2 => exact HC0_6.out); (case side3 => exact cc HR1_6 HB); (case side4 => exact HC1_6.out); rintro e w66 ⟨rfl, hb⟩; refine ⟨_, rfl, ?_⟩; replace BK817 := kb BK817 hb; replace BK818 := kb BK818 hb; replace HB := hs_ HB hb; (try clear hb); (try clear hb2); (try clear hk); (try clear hi)))
        go_ret
        exact ⟨ee, bb HB⟩
    · replace c6 := Bool.eq_false_iff.mpr c6
      subst c6
      have H1 : (some false) = some r := by rw [if_neg (show ¬ (false = true) by decide)] at H; exact H
      clear H
      have H := H1
      clear H1
      obtain rfl := Option.some.inj H
      go_enter Try.func83, Try.ntmps83
      go_wp2_with (first | ((with_reducible refine gate_dst (N := 2) rfl ?_); refine bx (N := 2) (cs := #[.slice A0_0 l0_0.length c0_0, .int .i64 a0_1, .int .i64 a0_2, .int .i64 a0_3, .slice A0_4 l0_4.length c0_4, .bool a0_5, .slice A0_6 l0_6.length c0_6, .slice A0_7 l0_7.length c0_7, .slice A0_8 l0_8.length c0_8]) (t := 29) ?_; intro gb817 hg w67 hbox hb; have BK817 := Aside0.mk (hbox); have GW817 := gs hg HB; have GE817 := gs hg HB; replace HB := hs_ HB hb; clear hb hbox hg) | ((with_reducible refine gate_dst (N := 3) rfl ?_); refine bx (N := 3) (cs := #[.slice A1_0 l1_0.length c1_0, .int .i64 a1_1, .int .i64 a1_2, .int .i64 a1_3, .slice A1_4 l1_4.length c1_4, .bool a1_5, .slice A1_6 l1_6.length c1_6, .slice A1_7 l1_7.length c1_7, .slice A1_8 l1_8.length c1_8]) (t := 29) ?_; intro gb818 hg w68 hbox hb; have BK818 := Aside0.mk (hbox); have GW818 := gs hg HB; have GE818 := gs hg HB; replace HB := hs_ HB hb; have NB817_818 := gn hg BK817; have NB818_817 := gm hg BK817; replace BK817 := kb BK817 hb; clear hb hbox hg; have hnb69 := NB817_818.out; have hnc69 := NB818_817.out; have ⟨hcz70_0, hcz70_1, hcz70_2, hcz70_3, hcz70_4, hcz70_5, hcz70_6, hcz70_7, hcz70_8, hfz70_0, hfz70_1, hfz70_2, hfz70_3, hfz70_4, hfz70_5, hfz70_6, hfz70_7, hfz70_8⟩ := rz9 BK817; have ⟨hcz71_0, hcz71_1, hcz71_2, hcz71_3, hcz71_4, hcz71_5, hcz71_6, hcz71_7, hcz71_8, hfz71_0, hfz71_1, hfz71_2, hfz71_3, hfz71_4, hfz71_5, hfz71_6, hfz71_7, hfz71_8⟩ := rz9 BK818) | ((with_reducible refine gate_callee (f := 119) rfl ?_); refine gl (some 9) Try.func119 #[.slice A0_0 l0_0.length c0_0, .slice A1_0 l1_0.length c1_0] ?_; (with_reducible refine (laws_eqTeamS.calls k _ _ l0_0 _ _ l1_0 true _ ?side1 ?side2 ?side3 ?side4 A3.out).mono ?_); (case side1 => exact cc HR0_0 HB); (case side2 => exact HC0_0.out); (case side3 => exact cc HR1_0 HB); (case side4 => exact HC1_0.out); rintro e w72 ⟨rfl, hb⟩; refine ⟨_, rfl, ?_⟩; replace BK817 := kb BK817 hb; replace BK818 := kb BK818 hb; replace HB := hs_ HB hb; (try clear hb); (try clear hb2); (try clear hk); (try clear hi); have ⟨hcz73_0, hcz73_1, hcz73_2, hcz73_3, hcz73_4, hcz73_5, hcz73_6, hcz73_7, hcz73_8, hfz73_0, hfz73_1, hfz73_2, hfz73_3, hfz73_4, hfz73_5, hfz73_6, hfz73_7, hfz73_8⟩ := rz9 BK817; have ⟨hcz74_0, hcz74_1, hcz74_2, hcz74_3, hcz74_4, hcz74_5, hcz74_6, hcz74_7, hcz74_8, hfz74_0, hfz74_1, hfz74_2, hfz74_3, hfz74_4, hfz74_5, hfz74_6, hfz74_7, hfz74_8⟩ := rz9 BK818) | ((with_reducible refine gate_callee (f := 120) rfl ?_); refine gl (some 15) Try.func120 #[.agg #[.int .i64 a0_1, .int .i64 a0_2, .int .i64 a0_3, .slice A0_4 l0_4.length c0_4, .bool a0_5], .agg #[.int .i64 a1_1, .int .i64 a1_2, .int .i64 a1_3, .slice A1_4 l1_4.length c1_4, .bool a1_5]] ?_; (with_reducible refine (laws_eqRules.calls k a0_1 a0_2 a0_3 _ _ l0_4 a0_5 a1_1 a1_2 a1_3 _ _ l1_4 a1_5 false _ ?side1 ?side2 ?side3 ?side4 A5.out).mono ?_); (case side1 => exact cc HR0_4 HB); (case side2 => exact HC0_4.out); (case side3 => exact cc HR1_4 HB); (case side4 => exact HC1_4.out); rintro e w75 ⟨rfl, hb⟩; refine ⟨_, rfl, ?_⟩; replace BK817 := kb BK817 hb; replace BK818 := kb BK818 hb; replace HB := hs_ HB hb; (try clear hb); (try clear hb2); (try clear hk); (try clear hi)))
      go_ret
      exact ⟨ee, bb HB⟩
  · replace c4 := Bool.eq_false_iff.mpr c4
    subst c4
    have H1 : (some false) = some r := by rw [if_neg (show ¬ (false = true) by decide)] at H; exact H
    clear H
    have H := H1
    clear H1
    obtain rfl := Option.some.inj H
    go_enter Try.func83, Try.ntmps83
    go_wp2_with (first | ((with_reducible refine gate_dst (N := 2) rfl ?_); refine bx (N := 2) (cs := #[.slice A0_0 l0_0.length c0_0, .int .i64 a0_1, .int .i64 a0_2, .int .i64 a0_3, .slice A0_4 l0_4.length c0_4, .bool a0_5, .slice A0_6 l0_6.length c0_6, .slice A0_7 l0_7.length c0_7, .slice A0_8 l0_8.length c0_8]) (t := 29) ?_; intro gb817 hg w76 hbox hb; have BK817 := Aside0.mk (hbox); have GW817 := gs hg HB; have GE817 := gs hg HB; replace HB := hs_ HB hb; clear hb hbox hg) | ((with_reducible refine gate_dst (N := 3) rfl ?_); refine bx (N := 3) (cs := #[.slice A1_0 l1_0.length c1_0, .int .i64 a1_1, .int .i64 a1_2, .int .i64 a1_3, .slice A1_4 l1_4.length c1_4, .bool a1_5, .slice A1_6 l1_6.length c1_6, .slice A1_7 l1_7.length c1_7, .slice A1_8 l1_8.length c1_8]) (t := 29) ?_; intro gb818 hg w77 hbox hb; have BK818 := Aside0.mk (hbox); have GW818 := gs hg HB; have GE818 := gs hg HB; replace HB := hs_ HB hb; have NB817_818 := gn hg BK817; have NB818_817 := gm hg BK817; replace BK817 := kb BK817 hb; clear hb hbox hg; have hnb78 := NB817_818.out; have hnc78 := NB818_817.out; have ⟨hcz79_0, hcz79_1, hcz79_2, hcz79_3, hcz79_4, hcz79_5, hcz79_6, hcz79_7, hcz79_8, hfz79_0, hfz79_1, hfz79_2, hfz79_3, hfz79_4, hfz79_5, hfz79_6, hfz79_7, hfz79_8⟩ := rz9 BK817; have ⟨hcz80_0, hcz80_1, hcz80_2, hcz80_3, hcz80_4, hcz80_5, hcz80_6, hcz80_7, hcz80_8, hfz80_0, hfz80_1, hfz80_2, hfz80_3, hfz80_4, hfz80_5, hfz80_6, hfz80_7, hfz80_8⟩ := rz9 BK818) | ((with_reducible refine gate_callee (f := 119) rfl ?_); refine gl (some 9) Try.func119 #[.slice A0_0 l0_0.length c0_0, .slice A1_0 l1_0.length c1_0] ?_; (with_reducible refine (laws_eqTeamS.calls k _ _ l0_0 _ _ l1_0 false _ ?side1 ?side2 ?side3 ?side4 A3.out).mono ?_); (case side1 => exact cc HR0_0 HB); (case side2 => exact HC0_0.out); (case side3 => exact cc HR1_0 HB); (case side4 => exact HC1_0.out); rintro e w81 ⟨rfl, hb⟩; refine ⟨_, rfl, ?_⟩; replace BK817 := kb BK817 hb; replace BK818 := kb BK818 hb; replace HB := hs_ HB hb; (try clear hb); (try clear hb2); (try clear hk); (try clear hi)))
    go_ret
    exact ⟨ee, bb HB⟩
end Go.Proofs.Ytibmeomlokigjaa.Q
namespace Go.Proofs.Ytibmeomlokigjaa.Q
open Go.RowKit Go.Proofs.YtibmeomlokigjaaW.PrintWords Go.Proofs.YtibmeomlokigjaaW.PrintLast Go.Proofs.YtibmeomlokigjaaW.PrintMore
attribute [local go_sem] max2_int min2_int max_two min_two max_three min_three max_four min_four
set_option linter.unusedVariables false
set_option linter.unusedSimpArgs false
def laws_eqNote.f (a0_0 : Int) (a0_1 : Int) (a0_2 : Int) (a0_3 : Int) (a0_4 : Int) (a0_5 : Int) (a0_6 : Int) (a1_0 : Int) (a1_1 : Int) (a1_2 : Int) (a1_3 : Int) (a1_4 : Int) (a1_5 : Int) (a1_6 : Int) : Option (Bool) := if a0_0 = a1_0 then (if a0_1 = a1_1 then ((laws_eqGame.f a0_2 a0_3 a0_4 a0_5 a0_6 a1_2 a1_3 a1_4 a1_5 a1_6).bind fun t826 => (if t826 = true then (some true) else (some false))) else (some false)) else (some false)
set_option maxHeartbeats 8000000 in
set_option maxRecDepth 100000 in
theorem laws_eqNote.calls (a0_0 : Int) (a0_1 : Int) (a0_2 : Int) (a0_3 : Int) (a0_4 : Int) (a0_5 : Int) (a0_6 : Int) (a1_0 : Int) (a1_1 : Int) (a1_2 : Int) (a1_3 : Int) (a1_4 : Int) (a1_5 : Int) (a1_6 : Int) (r : Bool) (w : World) (h : laws_eqNote.f a0_0 a0_1 a0_2 a0_3 a0_4 a0_5 a0_6 a1_0 a1_1 a1_2 a1_3 a1_4 a1_5 a1_6 = some r) :
    Calls Try.prog 123 #[.agg #[.int .i64 a0_0, .int .i64 a0_1, .int .i64 a0_2, .int .i64 a0_3, .int .i64 a0_4, .int .i64 a0_5, .int .i64 a0_6], .agg #[.int .i64 a1_0, .int .i64 a1_1, .int .i64 a1_2, .int .i64 a1_3, .int .i64 a1_4, .int .i64 a1_5, .int .i64 a1_6]] w fun e w' => e = .returned (.bool r) ∧ Below w.heap.size w w' := by
  have hu152 := Try.underlying152
  have hu47 := Try.underlying47
  have HB := Aside0.mk (Below.refl w.heap.size w)
  have H : (if a0_0 = a1_0 then (if a0_1 = a1_1 then ((laws_eqGame.f a0_2 a0_3 a0_4 a0_5 a0_6 a1_2 a1_3 a1_4 a1_5 a1_6).bind fun t826 => (if t826 = true then (some true) else (some false))) else (some false)) else (some false)) = some r := h
  clear h
  by_cases c3 : a0_0 = a1_0
  · rw [if_pos c3] at H
    have c3b0 : (a0_0 == a1_0) = true := beq_iff_eq.mpr c3
    have c3b1 : (a0_0 != a1_0) = false := bne_eq_false_iff_eq.mpr c3
    clear c3
    by_cases c4 : a0_1 = a1_1
    · rw [if_pos c4] at H
      have c4b0 : (a0_1 == a1_1) = true := beq_iff_eq.mpr c4
      have c4b1 : (a0_1 != a1_1) = false := bne_eq_false_iff_eq.mpr c4
      clear c4
      replace H := Option.bind_eq_some_iff.mp H
      obtain ⟨t826, A50, H⟩ := H
      replace H : (if t826 = true then (some true) else (some false)) = some r := H
      have A5 := Aside0.mk A50
      clear A50
      by_cases c6 : t826 = true
      · subst c6
        have H1 : (some true) = some r := by rw [if_pos rfl] at H; exact H
        clear H
        have H := H1
        clear H1
        obtain rfl := Option.some.inj H
        go_enter Try.func123, Try.ntmps123
        go_wp2_with (first | ((with_reducible refine gate_dst (N := 2) rfl ?_); refine bx (N := 2) (cs := #[.int .i64 a0_0, .int .i64 a0_1, .int .i64 a0_2, .int .i64 a0_3, .int .i64 a0_4, .int .i64 a0_5, .int .i64 a0_6]) (t := 152) ?_; intro gb824 hg w7 hbox hb; have BK824 := Aside0.mk (hbox); have GW824 := gs hg HB; have GE824 := gs hg HB; replace HB := hs_ HB hb; clear hb hbox hg) | ((with_reducible refine gate_dst (N := 3) rfl ?_); refine bx (N := 3) (cs := #[.int .i64 a1_0, .int .i64 a1_1, .int .i64 a1_2, .int .i64 a1_3, .int .i64 a1_4, .int .i64 a1_5, .int .i64 a1_6]) (t := 152) ?_; intro gb825 hg w8 hbox hb; have BK825 := Aside0.mk (hbox); have GW825 := gs hg HB; have GE825 := gs hg HB; replace HB := hs_ HB hb; have NB824_825 := gn hg BK824; have NB825_824 := gm hg BK824; replace BK824 := kb BK824 hb; clear hb hbox hg; have hnb9 := NB824_825.out; have hnc9 := NB825_824.out; have ⟨hcz10_0, hcz10_1, hcz10_2, hcz10_3, hcz10_4, hcz10_5, hcz10_6, hfz10_0, hfz10_1, hfz10_2, hfz10_3, hfz10_4, hfz10_5, hfz10_6⟩ := rz7 BK824; have ⟨hcz11_0, hcz11_1, hcz11_2, hcz11_3, hcz11_4, hcz11_5, hcz11_6, hfz11_0, hfz11_1, hfz11_2, hfz11_3, hfz11_4, hfz11_5, hfz11_6⟩ := rz7 BK825) | ((with_reducible refine gate_callee (f := 146) rfl ?_); refine gl (some 19) Try.func146 #[.agg #[.int .i64 a0_2, .int .i64 a0_3, .int .i64 a0_4, .int .i64 a0_5, .int .i64 a0_6], .agg #[.int .i64 a1_2, .int .i64 a1_3, .int .i64 a1_4, .int .i64 a1_5, .int .i64 a1_6]] ?_; (with_reducible refine (laws_eqGame.calls a0_2 a0_3 a0_4 a0_5 a0_6 a1_2 a1_3 a1_4 a1_5 a1_6 true _ A5.out).mono ?_); rintro e w12 ⟨rfl, hb⟩; refine ⟨_, rfl, ?_⟩; replace BK824 := kb BK824 hb; replace BK825 := kb BK825 hb; replace HB := hs_ HB hb; (try clear hb); (try clear hb2); (try clear hk); (try clear hi)))
        go_ret
        exact ⟨ee, bb HB⟩
      · replace c6 := Bool.eq_false_iff.mpr c6
        subst c6
        have H1 : (some false) = some r := by rw [if_neg (show ¬ (false = true) by decide)] at H; exact H
        clear H
        have H := H1
        clear H1
        obtain rfl := Option.some.inj H
        go_enter Try.func123, Try.ntmps123
        go_wp2_with (first | ((with_reducible refine gate_dst (N := 2) rfl ?_); refine bx (N := 2) (cs := #[.int .i64 a0_0, .int .i64 a0_1, .int .i64 a0_2, .int .i64 a0_3, .int .i64 a0_4, .int .i64 a0_5, .int .i64 a0_6]) (t := 152) ?_; intro gb824 hg w13 hbox hb; have BK824 := Aside0.mk (hbox); have GW824 := gs hg HB; have GE824 := gs hg HB; replace HB := hs_ HB hb; clear hb hbox hg) | ((with_reducible refine gate_dst (N := 3) rfl ?_); refine bx (N := 3) (cs := #[.int .i64 a1_0, .int .i64 a1_1, .int .i64 a1_2, .int .i64 a1_3, .int .i64 a1_4, .int .i64 a1_5, .int .i64 a1_6]) (t := 152) ?_; intro gb825 hg w14 hbox hb; have BK825 := Aside0.mk (hbox); have GW825 := gs hg HB; have GE825 := gs hg HB; replace HB := hs_ HB hb; have NB824_825 := gn hg BK824; have NB825_824 := gm hg BK824; replace BK824 := kb BK824 hb; clear hb hbox hg; have hnb15 := NB824_825.out; have hnc15 := NB825_824.out; have ⟨hcz16_0, hcz16_1, hcz16_2, hcz16_3, hcz16_4, hcz16_5, hcz16_6, hfz16_0, hfz16_1, hfz16_2, hfz16_3, hfz16_4, hfz16_5, hfz16_6⟩ := rz7 BK824; have ⟨hcz17_0, hcz17_1, hcz17_2, hcz17_3, hcz17_4, hcz17_5, hcz17_6, hfz17_0, hfz17_1, hfz17_2, hfz17_3, hfz17_4, hfz17_5, hfz17_6⟩ := rz7 BK825) | ((with_reducible refine gate_callee (f := 146) rfl ?_); refine gl (some 19) Try.func146 #[.agg #[.int .i64 a0_2, .int .i64 a0_3, .int .i64 a0_4, .int .i64 a0_5, .int .i64 a0_6], .agg #[.int .i64 a1_2, .int .i64 a1_3, .int .i64 a1_4, .int .i64 a1_5, .int .i64 a1_6]] ?_; (with_reducible refine (laws_eqGame.calls a0_2 a0_3 a0_4 a0_5 a0_6 a1_2 a1_3 a1_4 a1_5 a1_6 false _ A5.out).mono ?_); rintro e w18 ⟨rfl, hb⟩; refine ⟨_, rfl, ?_⟩; replace BK824 := kb BK824 hb; replace BK825 := kb BK825 hb; replace HB := hs_ HB hb; (try clear hb); (try clear hb2); (try clear hk); (try clear hi)))
        go_ret
        exact ⟨ee, bb HB⟩
    · rw [if_neg c4] at H
      have c4b0 : (a0_1 == a1_1) = false := beq_eq_false_iff_ne.mpr c4
      have c4b1 : (a0_1 != a1_1) = true := bne_iff_ne.mpr c4
      obtain rfl := Option.some.inj H
      go_enter Try.func123, Try.ntmps123
      go_wp2_with (first | ((with_reducible refine gate_dst (N := 2) rfl ?_); refine bx (N := 2) (cs := #[.int .i64 a0_0, .int .i64 a0_1, .int .i64 a0_2, .int .i64 a0_3, .int .i64 a0_4, .int .i64 a0_5, .int .i64 a0_6]) (t := 152) ?_; intro gb824 hg w19 hbox hb; have BK824 := Aside0.mk (hbox); have GW824 := gs hg HB; have GE824 := gs hg HB; replace HB := hs_ HB hb; clear hb hbox hg) | ((with_reducible refine gate_dst (N := 3) rfl ?_); refine bx (N := 3) (cs := #[.int .i64 a1_0, .int .i64 a1_1, .int .i64 a1_2, .int .i64 a1_3, .int .i64 a1_4, .int .i64 a1_5, .int .i64 a1_6]) (t := 152) ?_; intro gb825 hg w20 hbox hb; have BK825 := Aside0.mk (hbox); have GW825 := gs hg HB; have GE825 := gs hg HB; replace HB := hs_ HB hb; have NB824_825 := gn hg BK824; have NB825_824 := gm hg BK824; replace BK824 := kb BK824 hb; clear hb hbox hg; have hnb21 := NB824_825.out; have hnc21 := NB825_824.out; have ⟨hcz22_0, hcz22_1, hcz22_2, hcz22_3, hcz22_4, hcz22_5, hcz22_6, hfz22_0, hfz22_1, hfz22_2, hfz22_3, hfz22_4, hfz22_5, hfz22_6⟩ := rz7 BK824; have ⟨hcz23_0, hcz23_1, hcz23_2, hcz23_3, hcz23_4, hcz23_5, hcz23_6, hfz23_0, hfz23_1, hfz23_2, hfz23_3, hfz23_4, hfz23_5, hfz23_6⟩ := rz7 BK825))
      go_ret
      exact ⟨ee, bb HB⟩
  · rw [if_neg c3] at H
    have c3b0 : (a0_0 == a1_0) = false := beq_eq_false_iff_ne.mpr c3
    have c3b1 : (a0_0 != a1_0) = true := bne_iff_ne.mpr c3
    obtain rfl := Option.some.inj H
    go_enter Try.func123, Try.ntmps123
    go_wp2_with (first | ((with_reducible refine gate_dst (N := 2) rfl ?_); refine bx (N := 2) (cs := #[.int .i64 a0_0, .int .i64 a0_1, .int .i64 a0_2, .int .i64 a0_3, .int .i64 a0_4, .int .i64 a0_5, .int .i64 a0_6]) (t := 152) ?_; intro gb824 hg w24 hbox hb; have BK824 := Aside0.mk (hbox); have GW824 := gs hg HB; have GE824 := gs hg HB; replace HB := hs_ HB hb; clear hb hbox hg) | ((with_reducible refine gate_dst (N := 3) rfl ?_); refine bx (N := 3) (cs := #[.int .i64 a1_0, .int .i64 a1_1, .int .i64 a1_2, .int .i64 a1_3, .int .i64 a1_4, .int .i64 a1_5, .int .i64 a1_6]) (t := 152) ?_; intro gb825 hg w25 hbox hb; have BK825 := Aside0.mk (hbox); have GW825 := gs hg HB; have GE825 := gs hg HB; replace HB := hs_ HB hb; have NB824_825 := gn hg BK824; have NB825_824 := gm hg BK824; replace BK824 := kb BK824 hb; clear hb hbox hg; have hnb26 := NB824_825.out; have hnc26 := NB825_824.out; have ⟨hcz27_0, hcz27_1, hcz27_2, hcz27_3, hcz27_4, hcz27_5, hcz27_6, hfz27_0, hfz27_1, hfz27_2, hfz27_3, hfz27_4, hfz27_5, hfz27_6⟩ := rz7 BK824; have ⟨hcz28_0, hcz28_1, hcz28_2, hcz28_3, hcz28_4, hcz28_5, hcz28_6, hfz28_0, hfz28_1, hfz28_2, hfz28_3, hfz28_4, hfz28_5, hfz28_6⟩ := rz7 BK825))
    go_ret
    exact ⟨ee, bb HB⟩
end Go.Proofs.Ytibmeomlokigjaa.Q
namespace Go.Proofs.Ytibmeomlokigjaa.Q
open Go.RowKit Go.Proofs.YtibmeomlokigjaaW.PrintWords Go.Proofs.YtibmeomlokigjaaW.PrintLast Go.Proofs.YtibmeomlokigjaaW.PrintMore
attribute [local go_sem] max2_int min2_int max_two min_two max_three min_three max_four min_four
set_option linter.unusedVariables false
set_option linter.unusedSimpArgs false
def laws_eqNoteS.l0 : Nat → List (S152) → List (S152) → Int → Option (Bool)
  | 0, _, _, _ => none
  | k + 1, x0, x1, x5 => if x5 < (x0.length : Int) then (if 0 ≤ x5 then (if x5 < (x1.length : Int) then ((laws_eqNote.f ((rd_T152 x0 x5).f0) ((rd_T152 x0 x5).f1) ((rd_T152 x0 x5).f2.f0) ((rd_T152 x0 x5).f2.f1) ((rd_T152 x0 x5).f2.f2) ((rd_T152 x0 x5).f2.f3) ((rd_T152 x0 x5).f2.f4) ((rd_T152 x1 x5).f0) ((rd_T152 x1 x5).f1) ((rd_T152 x1 x5).f2.f0) ((rd_T152 x1 x5).f2.f1) ((rd_T152 x1 x5).f2.f2) ((rd_T152 x1 x5).f2.f3) ((rd_T152 x1 x5).f2.f4)).bind fun t829 => (if t829 = true then (laws_eqNoteS.l0 k x0 x1 (wrap64 (x5 + 1))) else (some false))) else (none)) else (none)) else (some true)
def laws_eqNoteS.f (k : Nat) (l0 : List (S152)) (l1 : List (S152)) : Option (Bool) := if (l0.length : Int) = (l1.length : Int) then (laws_eqNoteS.l0 k l0 l1 0) else (some false)
def laws_eqNoteS.T6 : Bool × List (List Nat × List Nat) := (true, [([], []), ([], []), ([0, 1], [0, 1]), ([2], [2]), ([], []), ([], []), ([4, 5], [4, 5]), ([6], [6]), ([3, 7], [3, 7]), ([8], [8])])
def laws_eqNoteS.B6 : List Nat := [0, 0, 3, 7, 0, 0, 48, 112, 255, 511]
theorem laws_eqNoteS.tab6 : rtab .any (opsOf Try.f84 6) = laws_eqNoteS.T6 := by kernel_rfl
theorem laws_eqNoteS.bits6 : waitsOk laws_eqNoteS.T6.2 laws_eqNoteS.B6 = true := by kernel_rfl
set_option maxHeartbeats 8000000 in
set_option maxRecDepth 100000 in
theorem laws_eqNoteS.calls (k : Nat) (A0 : Option Addr) (c0 : Nat) (l0 : List (S152)) (A1 : Option Addr) (c1 : Nat) (l1 : List (S152)) (r : Bool) (w : World) (hr0 : Kd.C k152 w A0 l0.length l0) (hc0 : l0.length ≤ c0) (hr1 : Kd.C k152 w A1 l1.length l1) (hc1 : l1.length ≤ c1) (h : laws_eqNoteS.f k l0 l1 = some r) :
    Calls Try.prog 84 #[.slice A0 l0.length c0, .slice A1 l1.length c1] w fun e w' => e = .returned (.bool r) ∧ Below w.heap.size w w' := by
  have hu152 := Try.underlying152
  have HR0 := Aside0.mk hr0
  have HC0 := Aside0.mk hc0
  clear hr0 hc0
  have HR1 := Aside0.mk hr1
  have HC1 := Aside0.mk hc1
  clear hr1 hc1
  have HB := Aside0.mk (Below.refl w.heap.size w)
  have H : (if (l0.length : Int) = (l1.length : Int) then (laws_eqNoteS.l0 k l0 l1 0) else (some false)) = some r := h
  clear h
  by_cases c3 : (l0.length : Int) = (l1.length : Int)
  · rw [if_pos c3] at H
    have c3b0 : ((l0.length : Int) == (l1.length : Int)) = true := beq_iff_eq.mpr c3
    have c3b1 : ((l0.length : Int) != (l1.length : Int)) = false := bne_eq_false_iff_eq.mpr c3
    have c3b2 : (l0.length == l1.length) = true := by first | simpa using c3 | (simp at c3 ⊢; omega)
    clear c3
    have H' := Aside0.mk H
    clear H
    go_enter Try.func84, Try.ntmps84
    go_wp2
    go_loopg [5] k (fun kq v5 w' => ∃ (x5_1 : Int), v5 = .int .i64 x5_1 ∧ Aside0 (laws_eqNoteS.l0 kq l0 l1 x5_1 = some r) ∧ Aside0 (kq ≤ k) ∧ Aside0 (Below w.heap.size w w'))
    case atStart => exact ⟨(0), e2_, H', ⟨Nat.le_refl _⟩, ⟨bb HB⟩⟩
    case round =>
      clear H'
      (try clear c1)
      (try clear p2)
      (try clear c3)
      (try clear c3b0)
      (try clear c3b1)
      (try clear c3b2)
      obtain ⟨x5_1, rfl, HA, HK1, HB⟩ := hrel
      cases gk with
      | zero => exact absurd HA.out (by simp [laws_eqNoteS.l0])
      | succ k1 =>
        have H := HA.out
        clear HA
        simp only [laws_eqNoteS.l0] at H
        by_cases c4 : x5_1 < (l0.length : Int)
        · rw [if_pos c4] at H
          have c4b0 : decide (x5_1 < (l0.length : Int)) = true := decide_eq_true c4
          clear c4
          by_cases c5 : 0 ≤ x5_1
          · rw [if_pos c5] at H
            have c5b0 : decide (0 ≤ x5_1) = true := decide_eq_true c5
            clear c5
            by_cases c6 : x5_1 < (l1.length : Int)
            · rw [if_pos c6] at H
              have c6b0 : decide (x5_1 < (l1.length : Int)) = true := decide_eq_true c6
              clear c6
              replace H := Option.bind_eq_some_iff.mp H
              obtain ⟨t829, A70, H⟩ := H
              replace H : (if t829 = true then (laws_eqNoteS.l0 k1 l0 l1 (wrap64 (x5_1 + 1))) else (some false)) = some r := H
              have A7 := Aside0.mk A70
              clear A70
              by_cases c8 : t829 = true
              · subst c8
                have H1 : (laws_eqNoteS.l0 k1 l0 l1 (wrap64 (x5_1 + 1))) = some r := by rw [if_pos rfl] at H; exact H
                clear H
                have H := H1
                clear H1
                have H' := Aside0.mk H
                clear H
                try go_wp2
                replace HB := Aside0.mk (below_drew1 HB.out)
                have p827 : 0 ≤ (x5_1 : Int) := of_decide_eq_true (by first | (with_reducible assumption) | assumption)
                have q827 : x5_1 < (l0.length : Int) := of_decide_eq_true (by first | (with_reducible assumption) | assumption)
                obtain ⟨ad827, e827, hx827_0, hx827_1, hx827_2, hx827_3, hx827_4, hx827_5, hx827_6⟩ := at_T152 HR0.out x5_1 p827 q827
                have hw827_6 := hx827_6
                have hw827_5 := hx827_5
                have hw827_4 := hx827_4
                have hw827_3 := hx827_3
                have hw827_2 := hx827_2
                have hw827_1 := hx827_1
                have hw827_0 := hx827_0
                cases e827
                replace hx827_0 := (HB.out.cell (World.block_lt_of_cell? w _ hx827_0)).trans hx827_0
                replace hx827_1 := (HB.out.cell (World.block_lt_of_cell? w _ hx827_1)).trans hx827_1
                replace hx827_2 := (HB.out.cell (World.block_lt_of_cell? w _ hx827_2)).trans hx827_2
                replace hx827_3 := (HB.out.cell (World.block_lt_of_cell? w _ hx827_3)).trans hx827_3
                replace hx827_4 := (HB.out.cell (World.block_lt_of_cell? w _ hx827_4)).trans hx827_4
                replace hx827_5 := (HB.out.cell (World.block_lt_of_cell? w _ hx827_5)).trans hx827_5
                replace hx827_6 := (HB.out.cell (World.block_lt_of_cell? w _ hx827_6)).trans hx827_6
                replace p827 := eq_true p827
                replace q827 := eq_true q827
                have p828 : 0 ≤ (x5_1 : Int) := of_decide_eq_true (by first | (with_reducible assumption) | assumption)
                have q828 : x5_1 < (l1.length : Int) := of_decide_eq_true (by first | (with_reducible assumption) | assumption)
                obtain ⟨ad828, e828, hx828_0, hx828_1, hx828_2, hx828_3, hx828_4, hx828_5, hx828_6⟩ := at_T152 HR1.out x5_1 p828 q828
                have hw828_6 := hx828_6
                have hw828_5 := hx828_5
                have hw828_4 := hx828_4
                have hw828_3 := hx828_3
                have hw828_2 := hx828_2
                have hw828_1 := hx828_1
                have hw828_0 := hx828_0
                cases e828
                replace hx828_0 := (HB.out.cell (World.block_lt_of_cell? w _ hx828_0)).trans hx828_0
                replace hx828_1 := (HB.out.cell (World.block_lt_of_cell? w _ hx828_1)).trans hx828_1
                replace hx828_2 := (HB.out.cell (World.block_lt_of_cell? w _ hx828_2)).trans hx828_2
                replace hx828_3 := (HB.out.cell (World.block_lt_of_cell? w _ hx828_3)).trans hx828_3
                replace hx828_4 := (HB.out.cell (World.block_lt_of_cell? w _ hx828_4)).trans hx828_4
                replace hx828_5 := (HB.out.cell (World.block_lt_of_cell? w _ hx828_5)).trans hx828_5
                replace hx828_6 := (HB.out.cell (World.block_lt_of_cell? w _ hx828_6)).trans hx828_6
                replace p828 := eq_true p828
                replace q828 := eq_true q828
                refine start_ (n := 10) (S := fun w' => w'.cell? (ad827.add ((x5_1).toNat * 7)) = some (.int .i64 ((rd_T152 l0 x5_1).f0)) ∧ w'.cell? ⟨(ad827.add ((x5_1).toNat * 7)).block, (ad827.add ((x5_1).toNat * 7)).off + 1, none⟩ = some (.int .i64 ((rd_T152 l0 x5_1).f1)) ∧ w'.cell? ⟨(ad827.add ((x5_1).toNat * 7)).block, (ad827.add ((x5_1).toNat * 7)).off + 2, none⟩ = some (.int .i64 ((rd_T152 l0 x5_1).f2.f0)) ∧ w'.cell? ⟨(ad827.add ((x5_1).toNat * 7)).block, (ad827.add ((x5_1).toNat * 7)).off + 3, none⟩ = some (.int .i64 ((rd_T152 l0 x5_1).f2.f1)) ∧ w'.cell? ⟨(ad827.add ((x5_1).toNat * 7)).block, (ad827.add ((x5_1).toNat * 7)).off + 4, none⟩ = some (.int .i64 ((rd_T152 l0 x5_1).f2.f2)) ∧ w'.cell? ⟨(ad827.add ((x5_1).toNat * 7)).block, (ad827.add ((x5_1).toNat * 7)).off + 5, none⟩ = some (.int .i64 ((rd_T152 l0 x5_1).f2.f3)) ∧ w'.cell? ⟨(ad827.add ((x5_1).toNat * 7)).block, (ad827.add ((x5_1).toNat * 7)).off + 6, none⟩ = some (.int .i64 ((rd_T152 l0 x5_1).f2.f4)) ∧ w'.cell? (ad828.add ((x5_1).toNat * 7)) = some (.int .i64 ((rd_T152 l1 x5_1).f0)) ∧ w'.cell? ⟨(ad828.add ((x5_1).toNat * 7)).block, (ad828.add ((x5_1).toNat * 7)).off + 1, none⟩ = some (.int .i64 ((rd_T152 l1 x5_1).f1)) ∧ w'.cell? ⟨(ad828.add ((x5_1).toNat * 7)).block, (ad828.add ((x5_1).toNat * 7)).off + 2, none⟩ = some (.int .i64 ((rd_T152 l1 x5_1).f2.f0)) ∧ w'.cell? ⟨(ad828.add ((x5_1).toNat * 7)).block, (ad828.add ((x5_1).toNat * 7)).off + 3, none⟩ = some (.int .i64 ((rd_T152 l1 x5_1).f2.f1)) ∧ w'.cell? ⟨(ad828.add ((x5_1).toNat * 7)).block, (ad828.add ((x5_1).toNat * 7)).off + 4, none⟩ = some (.int .i64 ((rd_T152 l1 x5_1).f2.f2)) ∧ w'.cell? ⟨(ad828.add ((x5_1).toNat * 7)).block, (ad828.add ((x5_1).toNat * 7)).off + 5, none⟩ = some (.int .i64 ((rd_T152 l1 x5_1).f2.f3)) ∧ w'.cell? ⟨(ad828.add ((x5_1).toNat * 7)).block, (ad828.add ((x5_1).toNat * 7)).off + 6, none⟩ = some (.int .i64 ((rd_T152 l1 x5_1).f2.f4))) (ds := []) #[false, false, false, false, false, false, false, false, false, false] (by kernel_rfl) rfl rfl ⟨((HB.out.cell (World.block_lt_of_cell? w _ hw827_0)).trans hw827_0), ((HB.out.cell (World.block_lt_of_cell? w _ hw827_1)).trans hw827_1), ((HB.out.cell (World.block_lt_of_cell? w _ hw827_2)).trans hw827_2), ((HB.out.cell (World.block_lt_of_cell? w _ hw827_3)).trans hw827_3), ((HB.out.cell (World.block_lt_of_cell? w _ hw827_4)).trans hw827_4), ((HB.out.cell (World.block_lt_of_cell? w _ hw827_5)).trans hw827_5), ((HB.out.cell (World.block_lt_of_cell? w _ hw827_6)).trans hw827_6), ((HB.out.cell (World.block_lt_of_cell? w _ hw828_0)).trans hw828_0), ((HB.out.cell (World.block_lt_of_cell? w _ hw828_1)).trans hw828_1), ((HB.out.cell (World.block_lt_of_cell? w _ hw828_2)).trans hw828_2), ((HB.out.cell (World.block_lt_of_cell? w _ hw828_3)).trans hw828_3), ((HB.out.cell (World.block_lt_of_cell? w _ hw828_4)).trans hw828_4), ((HB.out.cell (World.block_lt_of_cell? w _ hw828_5)).trans hw828_5), ((HB.out.cell (World.block_lt_of_cell? w _ hw828_6)).trans hw828_6)⟩ (fun hHeld => ?_); refine with_tabW laws_eqNoteS.tab6 laws_eqNoteS.bits6 (fun HT_ HW_ => ?_)
                generalize wr.drew = w9 at HB hx827_0 hx827_1 hx827_2 hx827_3 hx827_4 hx827_5 hx827_6 hx828_0 hx828_1 hx828_2 hx828_3 hx828_4 hx828_5 hx828_6 hHeld ⊢
                refine pure_ (i := 0) (N := some 17) (v := ?_) (a' := ?_) #[true, false, false, false, false, false, false, false, false, false] rfl rfl (any_of HT_.out (by kernel_rfl)) (fun _ _ _ h => h) (Or.inl ⟨by rfl, ?_⟩) ?_ ?_
                rotate_left
                · intro w'
                  go_simp
                  with_reducible rfl
                rotate_left
                · simp only [Act.put, List.setIfInBounds_toArray, List.set_cons_zero, List.set_cons_succ, i64_w, i32_w]
                  rfl
                refine pure_ (i := 1) (N := some 18) (v := ?_) (a' := ?_) #[true, true, false, false, false, false, false, false, false, false] rfl rfl (any_of HT_.out (by kernel_rfl)) (fun _ _ _ h => h) (Or.inl ⟨by rfl, ?_⟩) ?_ ?_
                rotate_left
                · intro w'
                  go_simp
                  with_reducible rfl
                rotate_left
                · simp only [Act.put, List.setIfInBounds_toArray, List.set_cons_zero, List.set_cons_succ, i64_w, i32_w]
                  rfl
                refine pure_ (i := 2) (N := some 19) (v := ?_) (a' := ?_) #[true, true, true, false, false, false, false, false, false, false] rfl rfl (any_of HT_.out (by kernel_rfl)) (fun _ _ _ h => h) (Or.inl ⟨by rfl, ?_⟩) ?_ ?_
                rotate_left
                · intro w'
                  go_simp
                  with_reducible rfl
                rotate_left
                · simp only [Act.put, List.setIfInBounds_toArray, List.set_cons_zero, List.set_cons_succ, i64_w, i32_w]
                  rfl
                refine pure_ (i := 4) (N := some 21) (v := ?_) (a' := ?_) #[true, true, true, false, true, false, false, false, false, false] rfl rfl (any_of HT_.out (by kernel_rfl)) (fun _ _ _ h => h) (Or.inl ⟨by rfl, ?_⟩) ?_ ?_
                rotate_left
                · intro w'
                  go_simp
                  with_reducible rfl
                rotate_left
                · simp only [Act.put, List.setIfInBounds_toArray, List.set_cons_zero, List.set_cons_succ, i64_w, i32_w]
                  rfl
                refine pure_ (i := 5) (N := some 22) (v := ?_) (a' := ?_) #[true, true, true, false, true, true, false, false, false, false] rfl rfl (any_of HT_.out (by kernel_rfl)) (fun _ _ _ h => h) (Or.inl ⟨by rfl, ?_⟩) ?_ ?_
                rotate_left
                · intro w'
                  go_simp
                  with_reducible rfl
                rotate_left
                · simp only [Act.put, List.setIfInBounds_toArray, List.set_cons_zero, List.set_cons_succ, i64_w, i32_w]
                  rfl
                refine pure_ (i := 6) (N := some 23) (v := ?_) (a' := ?_) #[true, true, true, false, true, true, true, false, false, false] rfl rfl (any_of HT_.out (by kernel_rfl)) (fun _ _ _ h => h) (Or.inl ⟨by rfl, ?_⟩) ?_ ?_
                rotate_left
                · intro w'
                  go_simp
                  with_reducible rfl
                rotate_left
                · simp only [Act.put, List.setIfInBounds_toArray, List.set_cons_zero, List.set_cons_succ, i64_w, i32_w]
                  rfl
                refine take_ (i := 3) (N := some 20) (v := ?_) (a' := ?_) #[true, true, true, true, true, true, true, false, false, false] rfl rfl (take_ofW HT_.out HW_.out (by kernel_rfl)) (fun _ _ _ h => h) (Or.inl ⟨by rfl, ?_⟩) hHeld ?_ ?_
                rotate_left
                · rintro w' ⟨s0, s1, s2, s3, s4, s5, s6, s7, s8, s9, s10, s11, s12, s13⟩
                  go_simp
                  with_reducible rfl
                rotate_left
                · simp only [Act.put, List.setIfInBounds_toArray, List.set_cons_zero, List.set_cons_succ, i64_w, i32_w]
                  rfl
                refine take_ (i := 7) (N := some 24) (v := ?_) (a' := ?_) #[true, true, true, true, true, true, true, true, false, false] rfl rfl (take_ofW HT_.out HW_.out (by kernel_rfl)) (fun _ _ _ h => h) (Or.inl ⟨by rfl, ?_⟩) hHeld ?_ ?_
                rotate_left
                · rintro w' ⟨s0, s1, s2, s3, s4, s5, s6, s7, s8, s9, s10, s11, s12, s13⟩
                  go_simp
                  with_reducible rfl
                rotate_left
                · simp only [Act.put, List.setIfInBounds_toArray, List.set_cons_zero, List.set_cons_succ, i64_w, i32_w]
                  rfl
                refine one_ (i := 8) (N := some 25) #[true, true, true, true, true, true, true, true, true, false] rfl rfl (one_of HT_.out (by kernel_rfl)) (by decide) (fun K hK => ?_)
                refine goes_ Try.func123 (by kernel_rfl) rfl #[.agg #[.int .i64 ((rd_T152 l0 x5_1).f0), .int .i64 ((rd_T152 l0 x5_1).f1), .int .i64 ((rd_T152 l0 x5_1).f2.f0), .int .i64 ((rd_T152 l0 x5_1).f2.f1), .int .i64 ((rd_T152 l0 x5_1).f2.f2), .int .i64 ((rd_T152 l0 x5_1).f2.f3), .int .i64 ((rd_T152 l0 x5_1).f2.f4)], .agg #[.int .i64 ((rd_T152 l1 x5_1).f0), .int .i64 ((rd_T152 l1 x5_1).f1), .int .i64 ((rd_T152 l1 x5_1).f2.f0), .int .i64 ((rd_T152 l1 x5_1).f2.f1), .int .i64 ((rd_T152 l1 x5_1).f2.f2), .int .i64 ((rd_T152 l1 x5_1).f2.f3), .int .i64 ((rd_T152 l1 x5_1).f2.f4)]] (by rfl) rfl rfl (by (try simp only [List.map_toArray, List.map_cons, List.map_nil]); first | done | rfl | (simp only [List.length_drop, List.length_take]; rfl)) ?_
                with_reducible refine (laws_eqNote.calls ((rd_T152 l0 x5_1).f0) ((rd_T152 l0 x5_1).f1) ((rd_T152 l0 x5_1).f2.f0) ((rd_T152 l0 x5_1).f2.f1) ((rd_T152 l0 x5_1).f2.f2) ((rd_T152 l0 x5_1).f2.f3) ((rd_T152 l0 x5_1).f2.f4) ((rd_T152 l1 x5_1).f0) ((rd_T152 l1 x5_1).f1) ((rd_T152 l1 x5_1).f2.f0) ((rd_T152 l1 x5_1).f2.f1) ((rd_T152 l1 x5_1).f2.f2) ((rd_T152 l1 x5_1).f2.f3) ((rd_T152 l1 x5_1).f2.f4) true _ A7.out).mono ?_
                rintro e w10 ⟨rfl, hb⟩
                refine ⟨_, rfl, ?_⟩
                replace HB := hs_ HB hb
                (try clear hb)
                (try clear hb2)
                (try clear hk)
                (try clear hi)
                refine hK.out _ _ ⟨((HB.out.cell (World.block_lt_of_cell? w _ hw827_0)).trans hw827_0), ((HB.out.cell (World.block_lt_of_cell? w _ hw827_1)).trans hw827_1), ((HB.out.cell (World.block_lt_of_cell? w _ hw827_2)).trans hw827_2), ((HB.out.cell (World.block_lt_of_cell? w _ hw827_3)).trans hw827_3), ((HB.out.cell (World.block_lt_of_cell? w _ hw827_4)).trans hw827_4), ((HB.out.cell (World.block_lt_of_cell? w _ hw827_5)).trans hw827_5), ((HB.out.cell (World.block_lt_of_cell? w _ hw827_6)).trans hw827_6), ((HB.out.cell (World.block_lt_of_cell? w _ hw828_0)).trans hw828_0), ((HB.out.cell (World.block_lt_of_cell? w _ hw828_1)).trans hw828_1), ((HB.out.cell (World.block_lt_of_cell? w _ hw828_2)).trans hw828_2), ((HB.out.cell (World.block_lt_of_cell? w _ hw828_3)).trans hw828_3), ((HB.out.cell (World.block_lt_of_cell? w _ hw828_4)).trans hw828_4), ((HB.out.cell (World.block_lt_of_cell? w _ hw828_5)).trans hw828_5), ((HB.out.cell (World.block_lt_of_cell? w _ hw828_6)).trans hw828_6)⟩ (fun hHeld => ?_)
                clear hK K
                refine norm_ (a' := ?_) ?_ ?_
                rotate_left
                · show Act.put _ (some 25) _ = _
                  simp only [Act.put, List.setIfInBounds_toArray, List.set_cons_zero, List.set_cons_succ, i64_w, i32_w]
                  rfl
                refine pure_ (i := 9) (N := some 26) (v := ?_) (a' := ?_) #[true, true, true, true, true, true, true, true, true, true] rfl rfl (any_of HT_.out (by kernel_rfl)) (fun _ _ _ h => h) (Or.inl ⟨by rfl, ?_⟩) ?_ ?_
                rotate_left
                · intro w'
                  go_simp
                  with_reducible rfl
                rotate_left
                · simp only [Act.put, List.setIfInBounds_toArray, List.set_cons_zero, List.set_cons_succ, i64_w, i32_w]
                  rfl
                refine done_ (done_of HT_.out (by kernel_rfl)) ?_
                try go_wp2
                go_roundg k1
                case measure => have := HK1.out; omega
                case rel => exact ⟨(wrap64 (x5_1 + 1)), e2_, H', ⟨by have := HK1.out; omega⟩, ⟨bb HB⟩⟩
              · replace c8 := Bool.eq_false_iff.mpr c8
                subst c8
                have H1 : (some false) = some r := by rw [if_neg (show ¬ (false = true) by decide)] at H; exact H
                clear H
                have H := H1
                clear H1
                obtain rfl := Option.some.inj H
                try go_wp2
                replace HB := Aside0.mk (below_drew1 HB.out)
                have p827 : 0 ≤ (x5_1 : Int) := of_decide_eq_true (by first | (with_reducible assumption) | assumption)
                have q827 : x5_1 < (l0.length : Int) := of_decide_eq_true (by first | (with_reducible assumption) | assumption)
                obtain ⟨ad827, e827, hx827_0, hx827_1, hx827_2, hx827_3, hx827_4, hx827_5, hx827_6⟩ := at_T152 HR0.out x5_1 p827 q827
                have hw827_6 := hx827_6
                have hw827_5 := hx827_5
                have hw827_4 := hx827_4
                have hw827_3 := hx827_3
                have hw827_2 := hx827_2
                have hw827_1 := hx827_1
                have hw827_0 := hx827_0
                cases e827
                replace hx827_0 := (HB.out.cell (World.block_lt_of_cell? w _ hx827_0)).trans hx827_0
                replace hx827_1 := (HB.out.cell (World.block_lt_of_cell? w _ hx827_1)).trans hx827_1
                replace hx827_2 := (HB.out.cell (World.block_lt_of_cell? w _ hx827_2)).trans hx827_2
                replace hx827_3 := (HB.out.cell (World.block_lt_of_cell? w _ hx827_3)).trans hx827_3
                replace hx827_4 := (HB.out.cell (World.block_lt_of_cell? w _ hx827_4)).trans hx827_4
                replace hx827_5 := (HB.out.cell (World.block_lt_of_cell? w _ hx827_5)).trans hx827_5
                replace hx827_6 := (HB.out.cell (World.block_lt_of_cell? w _ hx827_6)).trans hx827_6
                replace p827 := eq_true p827
                replace q827 := eq_true q827
                have p828 : 0 ≤ (x5_1 : Int) := of_decide_eq_true (by first | (with_reducible assumption) | assumption)
                have q828 : x5_1 < (l1.length : Int) := of_decide_eq_true (by first | (with_reducible assumption) | assumption)
                obtain ⟨ad828, e828, hx828_0, hx828_1, hx828_2, hx828_3, hx828_4, hx828_5, hx828_6⟩ := at_T152 HR1.out x5_1 p828 q828
                have hw828_6 := hx828_6
                have hw828_5 := hx828_5
                have hw828_4 := hx828_4
                have hw828_3 := hx828_3
                have hw828_2 := hx828_2
                have hw828_1 := hx828_1
                have hw828_0 := hx828_0
                cases e828
                replace hx828_0 := (HB.out.cell (World.block_lt_of_cell? w _ hx828_0)).trans hx828_0
                replace hx828_1 := (HB.out.cell (World.block_lt_of_cell? w _ hx828_1)).trans hx828_1
                replace hx828_2 := (HB.out.cell (World.block_lt_of_cell? w _ hx828_2)).trans hx828_2
                replace hx828_3 := (HB.out.cell (World.block_lt_of_cell? w _ hx828_3)).trans hx828_3
                replace hx828_4 := (HB.out.cell (World.block_lt_of_cell? w _ hx828_4)).trans hx828_4
                replace hx828_5 := (HB.out.cell (World.block_lt_of_cell? w _ hx828_5)).trans hx828_5
                replace hx828_6 := (HB.out.cell (World.block_lt_of_cell? w _ hx828_6)).trans hx828_6
                replace p828 := eq_true p828
                replace q828 := eq_true q828
                refine start_ (n := 10) (S := fun w' => w'.cell? (ad827.add ((x5_1).toNat * 7)) = some (.int .i64 ((rd_T152 l0 x5_1).f0)) ∧ w'.cell? ⟨(ad827.add ((x5_1).toNat * 7)).block, (ad827.add ((x5_1).toNat * 7)).off + 1, none⟩ = some (.int .i64 ((rd_T152 l0 x5_1).f1)) ∧ w'.cell? ⟨(ad827.add ((x5_1).toNat * 7)).block, (ad827.add ((x5_1).toNat * 7)).off + 2, none⟩ = some (.int .i64 ((rd_T152 l0 x5_1).f2.f0)) ∧ w'.cell? ⟨(ad827.add ((x5_1).toNat * 7)).block, (ad827.add ((x5_1).toNat * 7)).off + 3, none⟩ = some (.int .i64 ((rd_T152 l0 x5_1).f2.f1)) ∧ w'.cell? ⟨(ad827.add ((x5_1).toNat * 7)).block, (ad827.add ((x5_1).toNat * 7)).off + 4, none⟩ = some (.int .i64 ((rd_T152 l0 x5_1).f2.f2)) ∧ w'.cell? ⟨(ad827.add ((x5_1).toNat * 7)).block, (ad827.add ((x5_1).toNat * 7)).off + 5, none⟩ = some (.int .i64 ((rd_T152 l0 x5_1).f2.f3)) ∧ w'.cell? ⟨(ad827.add ((x5_1).toNat * 7)).block, (ad827.add ((x5_1).toNat * 7)).off + 6, none⟩ = some (.int .i64 ((rd_T152 l0 x5_1).f2.f4)) ∧ w'.cell? (ad828.add ((x5_1).toNat * 7)) = some (.int .i64 ((rd_T152 l1 x5_1).f0)) ∧ w'.cell? ⟨(ad828.add ((x5_1).toNat * 7)).block, (ad828.add ((x5_1).toNat * 7)).off + 1, none⟩ = some (.int .i64 ((rd_T152 l1 x5_1).f1)) ∧ w'.cell? ⟨(ad828.add ((x5_1).toNat * 7)).block, (ad828.add ((x5_1).toNat * 7)).off + 2, none⟩ = some (.int .i64 ((rd_T152 l1 x5_1).f2.f0)) ∧ w'.cell? ⟨(ad828.add ((x5_1).toNat * 7)).block, (ad828.add ((x5_1).toNat * 7)).off + 3, none⟩ = some (.int .i64 ((rd_T152 l1 x5_1).f2.f1)) ∧ w'.cell? ⟨(ad828.add ((x5_1).toNat * 7)).block, (ad828.add ((x5_1).toNat * 7)).off + 4, none⟩ = some (.int .i64 ((rd_T152 l1 x5_1).f2.f2)) ∧ w'.cell? ⟨(ad828.add ((x5_1).toNat * 7)).block, (ad828.add ((x5_1).toNat * 7)).off + 5, none⟩ = some (.int .i64 ((rd_T152 l1 x5_1).f2.f3)) ∧ w'.cell? ⟨(ad828.add ((x5_1).toNat * 7)).block, (ad828.add ((x5_1).toNat * 7)).off + 6, none⟩ = some (.int .i64 ((rd_T152 l1 x5_1).f2.f4))) (ds := []) #[false, false, false, false, false, false, false, false, false, false] (by kernel_rfl) rfl rfl ⟨((HB.out.cell (World.block_lt_of_cell? w _ hw827_0)).trans hw827_0), ((HB.out.cell (World.block_lt_of_cell? w _ hw827_1)).trans hw827_1), ((HB.out.cell (World.block_lt_of_cell? w _ hw827_2)).trans hw827_2), ((HB.out.cell (World.block_lt_of_cell? w _ hw827_3)).trans hw827_3), ((HB.out.cell (World.block_lt_of_cell? w _ hw827_4)).trans hw827_4), ((HB.out.cell (World.block_lt_of_cell? w _ hw827_5)).trans hw827_5), ((HB.out.cell (World.block_lt_of_cell? w _ hw827_6)).trans hw827_6), ((HB.out.cell (World.block_lt_of_cell? w _ hw828_0)).trans hw828_0), ((HB.out.cell (World.block_lt_of_cell? w _ hw828_1)).trans hw828_1), ((HB.out.cell (World.block_lt_of_cell? w _ hw828_2)).trans hw828_2), ((HB.out.cell (World.block_lt_of_cell? w _ hw828_3)).trans hw828_3), ((HB.out.cell (World.block_lt_of_cell? w _ hw828_4)).trans hw828_4), ((HB.out.cell (World.block_lt_of_cell? w _ hw828_5)).trans hw828_5), ((HB.out.cell (World.block_lt_of_cell? w _ hw828_6)).trans hw828_6)⟩ (fun hHeld => ?_); refine with_tabW laws_eqNoteS.tab6 laws_eqNoteS.bits6 (fun HT_ HW_ => ?_)
                generalize wr.drew = w11 at HB hx827_0 hx827_1 hx827_2 hx827_3 hx827_4 hx827_5 hx827_6 hx828_0 hx828_1 hx828_2 hx828_3 hx828_4 hx828_5 hx828_6 hHeld ⊢
                refine pure_ (i := 0) (N := some 17) (v := ?_) (a' := ?_) #[true, false, false, false, false, false, false, false, false, false] rfl rfl (any_of HT_.out (by kernel_rfl)) (fun _ _ _ h => h) (Or.inl ⟨by rfl, ?_⟩) ?_ ?_
                rotate_left
                · intro w'
                  go_simp
                  with_reducible rfl
                rotate_left
                · simp only [Act.put, List.setIfInBounds_toArray, List.set_cons_zero, List.set_cons_succ, i64_w, i32_w]
                  rfl
                refine pure_ (i := 1) (N := some 18) (v := ?_) (a' := ?_) #[true, true, false, false, false, false, false, false, false, false] rfl rfl (any_of HT_.out (by kernel_rfl)) (fun _ _ _ h => h) (Or.inl ⟨by rfl, ?_⟩) ?_ ?_
                rotate_left
                · intro w'
                  go_simp
                  with_reducible rfl
                rotate_left
                · simp only [Act.put, List.setIfInBounds_toArray, List.set_cons_zero, List.set_cons_succ, i64_w, i32_w]
                  rfl
                refine pure_ (i := 2) (N := some 19) (v := ?_) (a' := ?_) #[true, true, true, false, false, false, false, false, false, false] rfl rfl (any_of HT_.out (by kernel_rfl)) (fun _ _ _ h => h) (Or.inl ⟨by rfl, ?_⟩) ?_ ?_
                rotate_left
                · intro w'
                  go_simp
                  with_reducible rfl
                rotate_left
                · simp only [Act.put, List.setIfInBounds_toArray, List.set_cons_zero, List.set_cons_succ, i64_w, i32_w]
                  rfl
                refine pure_ (i := 4) (N := some 21) (v := ?_) (a' := ?_) #[true, true, true, false, true, false, false, false, false, false] rfl rfl (any_of HT_.out (by kernel_rfl)) (fun _ _ _ h => h) (Or.inl ⟨by rfl, ?_⟩) ?_ ?_
                rotate_left
                · intro w'
                  go_simp
                  with_reducible rfl
                rotate_left
                · simp only [Act.put, List.setIfInBounds_toArray, List.set_cons_zero, List.set_cons_succ, i64_w, i32_w]
                  rfl
                refine pure_ (i := 5) (N := some 22) (v := ?_) (a' := ?_) #[true, true, true, false, true, true, false, false, false, false] rfl rfl (any_of HT_.out (by kernel_rfl)) (fun _ _ _ h => h) (Or.inl ⟨by rfl, ?_⟩) ?_ ?_
                rotate_left
                · intro w'
                  go_simp
                  with_reducible rfl
                rotate_left
                · simp only [Act.put, List.setIfInBounds_toArray, List.set_cons_zero, List.set_cons_succ, i64_w, i32_w]
                  rfl
                refine pure_ (i := 6) (N := some 23) (v := ?_) (a' := ?_) #[true, true, true, false, true, true, true, false, false, false] rfl rfl (any_of HT_.out (by kernel_rfl)) (fun _ _ _ h => h) (Or.inl ⟨by rfl, ?_⟩) ?_ ?_
                rotate_left
                · intro w'
                  go_simp
                  with_reducible rfl
                rotate_left
                · simp only [Act.put, List.setIfInBounds_toArray, List.set_cons_zero, List.set_cons_succ, i64_w, i32_w]
                  rfl
                refine take_ (i := 3) (N := some 20) (v := ?_) (a' := ?_) #[true, true, true, true, true, true, true, false, false, false] rfl rfl (take_ofW HT_.out HW_.out (by kernel_rfl)) (fun _ _ _ h => h) (Or.inl ⟨by rfl, ?_⟩) hHeld ?_ ?_
                rotate_left
                · rintro w' ⟨s0, s1, s2, s3, s4, s5, s6, s7, s8, s9, s10, s11, s12, s13⟩
                  go_simp
                  with_reducible rfl
                rotate_left
                · simp only [Act.put, List.setIfInBounds_toArray, List.set_cons_zero, List.set_cons_succ, i64_w, i32_w]
                  rfl
                refine take_ (i := 7) (N := some 24) (v := ?_) (a' := ?_) #[true, true, true, true, true, true, true, true, false, false] rfl rfl (take_ofW HT_.out HW_.out (by kernel_rfl)) (fun _ _ _ h => h) (Or.inl ⟨by rfl, ?_⟩) hHeld ?_ ?_
                rotate_left
                · rintro w' ⟨s0, s1, s2, s3, s4, s5, s6, s7, s8, s9, s10, s11, s12, s13⟩
                  go_simp
                  with_reducible rfl
                rotate_left
                · simp only [Act.put, List.setIfInBounds_toArray, List.set_cons_zero, List.set_cons_succ, i64_w, i32_w]
                  rfl
                refine one_ (i := 8) (N := some 25) #[true, true, true, true, true, true, true, true, true, false] rfl rfl (one_of HT_.out (by kernel_rfl)) (by decide) (fun K hK => ?_)
                refine goes_ Try.func123 (by kernel_rfl) rfl #[.agg #[.int .i64 ((rd_T152 l0 x5_1).f0), .int .i64 ((rd_T152 l0 x5_1).f1), .int .i64 ((rd_T152 l0 x5_1).f2.f0), .int .i64 ((rd_T152 l0 x5_1).f2.f1), .int .i64 ((rd_T152 l0 x5_1).f2.f2), .int .i64 ((rd_T152 l0 x5_1).f2.f3), .int .i64 ((rd_T152 l0 x5_1).f2.f4)], .agg #[.int .i64 ((rd_T152 l1 x5_1).f0), .int .i64 ((rd_T152 l1 x5_1).f1), .int .i64 ((rd_T152 l1 x5_1).f2.f0), .int .i64 ((rd_T152 l1 x5_1).f2.f1), .int .i64 ((rd_T152 l1 x5_1).f2.f2), .int .i64 ((rd_T152 l1 x5_1).f2.f3), .int .i64 ((rd_T152 l1 x5_1).f2.f4)]] (by rfl) rfl rfl (by (try simp only [List.map_toArray, List.map_cons, List.map_nil]); first | done | rfl | (simp only [List.length_drop, List.length_take]; rfl)) ?_
                with_reducible refine (laws_eqNote.calls ((rd_T152 l0 x5_1).f0) ((rd_T152 l0 x5_1).f1) ((rd_T152 l0 x5_1).f2.f0) ((rd_T152 l0 x5_1).f2.f1) ((rd_T152 l0 x5_1).f2.f2) ((rd_T152 l0 x5_1).f2.f3) ((rd_T152 l0 x5_1).f2.f4) ((rd_T152 l1 x5_1).f0) ((rd_T152 l1 x5_1).f1) ((rd_T152 l1 x5_1).f2.f0) ((rd_T152 l1 x5_1).f2.f1) ((rd_T152 l1 x5_1).f2.f2) ((rd_T152 l1 x5_1).f2.f3) ((rd_T152 l1 x5_1).f2.f4) false _ A7.out).mono ?_
                rintro e w12 ⟨rfl, hb⟩
                refine ⟨_, rfl, ?_⟩
                replace HB := hs_ HB hb
                (try clear hb)
                (try clear hb2)
                (try clear hk)
                (try clear hi)
                refine hK.out _ _ ⟨((HB.out.cell (World.block_lt_of_cell? w _ hw827_0)).trans hw827_0), ((HB.out.cell (World.block_lt_of_cell? w _ hw827_1)).trans hw827_1), ((HB.out.cell (World.block_lt_of_cell? w _ hw827_2)).trans hw827_2), ((HB.out.cell (World.block_lt_of_cell? w _ hw827_3)).trans hw827_3), ((HB.out.cell (World.block_lt_of_cell? w _ hw827_4)).trans hw827_4), ((HB.out.cell (World.block_lt_of_cell? w _ hw827_5)).trans hw827_5), ((HB.out.cell (World.block_lt_of_cell? w _ hw827_6)).trans hw827_6), ((HB.out.cell (World.block_lt_of_cell? w _ hw828_0)).trans hw828_0), ((HB.out.cell (World.block_lt_of_cell? w _ hw828_1)).trans hw828_1), ((HB.out.cell (World.block_lt_of_cell? w _ hw828_2)).trans hw828_2), ((HB.out.cell (World.block_lt_of_cell? w _ hw828_3)).trans hw828_3), ((HB.out.cell (World.block_lt_of_cell? w _ hw828_4)).trans hw828_4), ((HB.out.cell (World.block_lt_of_cell? w _ hw828_5)).trans hw828_5), ((HB.out.cell (World.block_lt_of_cell? w _ hw828_6)).trans hw828_6)⟩ (fun hHeld => ?_)
                clear hK K
                refine norm_ (a' := ?_) ?_ ?_
                rotate_left
                · show Act.put _ (some 25) _ = _
                  simp only [Act.put, List.setIfInBounds_toArray, List.set_cons_zero, List.set_cons_succ, i64_w, i32_w]
                  rfl
                refine pure_ (i := 9) (N := some 26) (v := ?_) (a' := ?_) #[true, true, true, true, true, true, true, true, true, true] rfl rfl (any_of HT_.out (by kernel_rfl)) (fun _ _ _ h => h) (Or.inl ⟨by rfl, ?_⟩) ?_ ?_
                rotate_left
                · intro w'
                  go_simp
                  with_reducible rfl
                rotate_left
                · simp only [Act.put, List.setIfInBounds_toArray, List.set_cons_zero, List.set_cons_succ, i64_w, i32_w]
                  rfl
                refine done_ (done_of HT_.out (by kernel_rfl)) ?_
                try go_wp2
                go_ret
                exact ⟨ee, bb HB⟩
            · rw [if_neg c6] at H
              exact absurd H (by simp)
          · rw [if_neg c5] at H
            exact absurd H (by simp)
        · rw [if_neg c4] at H
          have c4b0 : decide (x5_1 < (l0.length : Int)) = false := decide_eq_false c4
          clear c4
          obtain rfl := Option.some.inj H
          go_wp2
          go_ret
          exact ⟨ee, bb HB⟩
  · rw [if_neg c3] at H
    have c3b0 : ((l0.length : Int) == (l1.length : Int)) = false := beq_eq_false_iff_ne.mpr c3
    have c3b1 : ((l0.length : Int) != (l1.length : Int)) = true := bne_iff_ne.mpr c3
    have c3b2 : (l0.length == l1.length) = false := by first | simpa using c3 | (simp at c3 ⊢; omega)
    obtain rfl := Option.some.inj H
    go_enter Try.func84, Try.ntmps84
    go_wp2
    go_ret
    exact ⟨ee, bb HB⟩
end Go.Proofs.Ytibmeomlokigjaa.Q
namespace Go.Proofs.Ytibmeomlokigjaa.Q
open Go.RowKit Go.Proofs.YtibmeomlokigjaaW.PrintWords Go.Proofs.YtibmeomlokigjaaW.PrintLast Go.Proofs.YtibmeomlokigjaaW.PrintMore
attribute [local go_sem] max2_int min2_int max_two min_two max_three min_three max_four min_four
set_option linter.unusedVariables false
set_option linter.unusedSimpArgs false
def laws_eqSent.f (k : Nat) (a0_0 : Int) (l0_1 : List Int) (a1_0 : Int) (l1_1 : List Int) : Option (Bool) := if a0_0 = a1_0 then ((laws_eqIntS.f k l0_1 l1_1).bind fun t832 => (if t832 = true then (some true) else (some false))) else (some false)
set_option maxHeartbeats 8000000 in
set_option maxRecDepth 100000 in
theorem laws_eqSent.calls (k : Nat) (a0_0 : Int) (A0_1 : Option Addr) (c0_1 : Nat) (l0_1 : List Int) (a1_0 : Int) (A1_1 : Option Addr) (c1_1 : Nat) (l1_1 : List Int) (r : Bool) (w : World) (hr0_1 : Kd.C (Kd.int .i64) w A0_1 l0_1.length l0_1) (hc0_1 : l0_1.length ≤ c0_1) (hr1_1 : Kd.C (Kd.int .i64) w A1_1 l1_1.length l1_1) (hc1_1 : l1_1.length ≤ c1_1) (h : laws_eqSent.f k a0_0 l0_1 a1_0 l1_1 = some r) :
    Calls Try.prog 124 #[.agg #[.int .i64 a0_0, .slice A0_1 l0_1.length c0_1], .agg #[.int .i64 a1_0, .slice A1_1 l1_1.length c1_1]] w fun e w' => e = .returned (.bool r) ∧ Below w.heap.size w w' := by
  have hu155 := Try.underlying155
  have HR0_1 := Aside0.mk hr0_1
  have HC0_1 := Aside0.mk hc0_1
  clear hr0_1 hc0_1
  have HR1_1 := Aside0.mk hr1_1
  have HC1_1 := Aside0.mk hc1_1
  clear hr1_1 hc1_1
  have HB := Aside0.mk (Below.refl w.heap.size w)
  have H : (if a0_0 = a1_0 then ((laws_eqIntS.f k l0_1 l1_1).bind fun t832 => (if t832 = true then (some true) else (some false))) else (some false)) = some r := h
  clear h
  by_cases c3 : a0_0 = a1_0
  · rw [if_pos c3] at H
    have c3b0 : (a0_0 == a1_0) = true := beq_iff_eq.mpr c3
    have c3b1 : (a0_0 != a1_0) = false := bne_eq_false_iff_eq.mpr c3
    clear c3
    replace H := Option.bind_eq_some_iff.mp H
    obtain ⟨t832, A40, H⟩ := H
    replace H : (if t832 = true then (some true) else (some false)) = some r := H
    have A4 := Aside0.mk A40
    clear A40
    by_cases c5 : t832 = true
    · subst c5
      have H1 : (some true) = some r := by rw [if_pos rfl] at H; exact H
      clear H
      have H := H1
      clear H1
      obtain rfl := Option.some.inj H
      go_enter Try.func124, Try.ntmps124
      go_wp2_with (first | ((with_reducible refine gate_dst (N := 2) rfl ?_); refine bx (N := 2) (cs := #[.int .i64 a0_0, .slice A0_1 l0_1.length c0_1]) (t := 155) ?_; intro gb830 hg w6 hbox hb; have BK830 := Aside0.mk (hbox); have GW830 := gs hg HB; have GE830 := gs hg HB; replace HB := hs_ HB hb; clear hb hbox hg) | ((with_reducible refine gate_dst (N := 3) rfl ?_); refine bx (N := 3) (cs := #[.int .i64 a1_0, .slice A1_1 l1_1.length c1_1]) (t := 155) ?_; intro gb831 hg w7 hbox hb; have BK831 := Aside0.mk (hbox); have GW831 := gs hg HB; have GE831 := gs hg HB; replace HB := hs_ HB hb; have NB830_831 := gn hg BK830; have NB831_830 := gm hg BK830; replace BK830 := kb BK830 hb; clear hb hbox hg; have hnb8 := NB830_831.out; have hnc8 := NB831_830.out; have ⟨hcz9_0, hcz9_1, hfz9_0, hfz9_1⟩ := rz2 BK830; have ⟨hcz10_0, hcz10_1, hfz10_0, hfz10_1⟩ := rz2 BK831) | ((with_reducible refine gate_callee (f := 122) rfl ?_); refine gl (some 14) Try.func122 #[.slice A0_1 l0_1.length c0_1, .slice A1_1 l1_1.length c1_1] ?_; (with_reducible refine (laws_eqIntS.calls k _ _ l0_1 _ _ l1_1 true _ ?side1 ?side2 ?side3 ?side4 A4.out).mono ?_); (case side1 => exact cc HR0_1 HB); (case side2 => exact HC0_1.out); (case side3 => exact cc HR1_1 HB); (case side4 => exact HC1_1.out); rintro e w' ⟨rfl, ⟨nd, rfl⟩⟩; refine ⟨_, rfl, ?_⟩))
      go_ret
      exact ⟨ee, bb HB⟩
    · replace c5 := Bool.eq_false_iff.mpr c5
      subst c5
      have H1 : (some false) = some r := by rw [if_neg (show ¬ (false = true) by decide)] at H; exact H
      clear H
      have H := H1
      clear H1
      obtain rfl := Option.some.inj H
      go_enter Try.func124, Try.ntmps124
      go_wp2_with (first | ((with_reducible refine gate_dst (N := 2) rfl ?_); refine bx (N := 2) (cs := #[.int .i64 a0_0, .slice A0_1 l0_1.length c0_1]) (t := 155) ?_; intro gb830 hg w11 hbox hb; have BK830 := Aside0.mk (hbox); have GW830 := gs hg HB; have GE830 := gs hg HB; replace HB := hs_ HB hb; clear hb hbox hg) | ((with_reducible refine gate_dst (N := 3) rfl ?_); refine bx (N := 3) (cs := #[.int .i64 a1_0, .slice A1_1 l1_1.length c1_1]) (t := 155) ?_; intro gb831 hg w12 hbox hb; have BK831 := Aside0.mk (hbox); have GW831 := gs hg HB; have GE831 := gs hg HB; replace HB := hs_ HB hb; have NB830_831 := gn hg BK830; have NB831_830 := gm hg BK830; replace BK830 := kb BK830 hb; clear hb hbox hg; have hnb13 := NB830_831.out; have hnc13 := NB831_830.out; have ⟨hcz14_0, hcz14_1, hfz14_0, hfz14_1⟩ := rz2 BK830; have ⟨hcz15_0, hcz15_1, hfz15_0, hfz15_1⟩ := rz2 BK831) | ((with_reducible refine gate_callee (f := 122) rfl ?_); refine gl (some 14) Try.func122 #[.slice A0_1 l0_1.length c0_1, .slice A1_1 l1_1.length c1_1] ?_; (with_reducible refine (laws_eqIntS.calls k _ _ l0_1 _ _ l1_1 false _ ?side1 ?side2 ?side3 ?side4 A4.out).mono ?_); (case side1 => exact cc HR0_1 HB); (case side2 => exact HC0_1.out); (case side3 => exact cc HR1_1 HB); (case side4 => exact HC1_1.out); rintro e w' ⟨rfl, ⟨nd, rfl⟩⟩; refine ⟨_, rfl, ?_⟩))
      go_ret
      exact ⟨ee, bb HB⟩
  · rw [if_neg c3] at H
    have c3b0 : (a0_0 == a1_0) = false := beq_eq_false_iff_ne.mpr c3
    have c3b1 : (a0_0 != a1_0) = true := bne_iff_ne.mpr c3
    obtain rfl := Option.some.inj H
    go_enter Try.func124, Try.ntmps124
    go_wp2_with (first | ((with_reducible refine gate_dst (N := 2) rfl ?_); refine bx (N := 2) (cs := #[.int .i64 a0_0, .slice A0_1 l0_1.length c0_1]) (t := 155) ?_; intro gb830 hg w16 hbox hb; have BK830 := Aside0.mk (hbox); have GW830 := gs hg HB; have GE830 := gs hg HB; replace HB := hs_ HB hb; clear hb hbox hg) | ((with_reducible refine gate_dst (N := 3) rfl ?_); refine bx (N := 3) (cs := #[.int .i64 a1_0, .slice A1_1 l1_1.length c1_1]) (t := 155) ?_; intro gb831 hg w17 hbox hb; have BK831 := Aside0.mk (hbox); have GW831 := gs hg HB; have GE831 := gs hg HB; replace HB := hs_ HB hb; have NB830_831 := gn hg BK830; have NB831_830 := gm hg BK830; replace BK830 := kb BK830 hb; clear hb hbox hg; have hnb18 := NB830_831.out; have hnc18 := NB831_830.out; have ⟨hcz19_0, hcz19_1, hfz19_0, hfz19_1⟩ := rz2 BK830; have ⟨hcz20_0, hcz20_1, hfz20_0, hfz20_1⟩ := rz2 BK831))
    go_ret
    exact ⟨ee, bb HB⟩
end Go.Proofs.Ytibmeomlokigjaa.Q
namespace Go.Proofs.Ytibmeomlokigjaa.Q
open Go.RowKit Go.Proofs.YtibmeomlokigjaaW.PrintWords Go.Proofs.YtibmeomlokigjaaW.PrintLast Go.Proofs.YtibmeomlokigjaaW.PrintMore
attribute [local go_sem] max2_int min2_int max_two min_two max_three min_three max_four min_four
set_option linter.unusedVariables false
set_option linter.unusedSimpArgs false
def laws_eqSentS.l0 : Nat → List (S155) → List (S155) → Int → Option (Bool)
  | 0, _, _, _ => none
  | k + 1, x0, x1, x5 => if x5 < (x0.length : Int) then (if 0 ≤ x5 then (if x5 < (x1.length : Int) then ((laws_eqSent.f k ((rd_T155 x0 x5).f0) ((rd_T155 x0 x5).f1) ((rd_T155 x1 x5).f0) ((rd_T155 x1 x5).f1)).bind fun t835 => (if t835 = true then (laws_eqSentS.l0 k x0 x1 (wrap64 (x5 + 1))) else (some false))) else (none)) else (none)) else (some true)
def laws_eqSentS.f (k : Nat) (l0 : List (S155)) (l1 : List (S155)) : Option (Bool) := if (l0.length : Int) = (l1.length : Int) then (laws_eqSentS.l0 k l0 l1 0) else (some false)
def laws_eqSentS.T6 : Bool × List (List Nat × List Nat) := (true, [([], []), ([], []), ([0, 1], [0, 1]), ([2], [2]), ([], []), ([], []), ([4, 5], [4, 5]), ([6], [6]), ([3, 7], [3, 7]), ([8], [8])])
def laws_eqSentS.B6 : List Nat := [0, 0, 3, 7, 0, 0, 48, 112, 255, 511]
theorem laws_eqSentS.tab6 : rtab .any (opsOf Try.f85 6) = laws_eqSentS.T6 := by kernel_rfl
theorem laws_eqSentS.bits6 : waitsOk laws_eqSentS.T6.2 laws_eqSentS.B6 = true := by kernel_rfl
set_option maxHeartbeats 8000000 in
set_option maxRecDepth 100000 in
theorem laws_eqSentS.calls (k : Nat) (A0 : Option Addr) (c0 : Nat) (l0 : List (S155)) (A1 : Option Addr) (c1 : Nat) (l1 : List (S155)) (r : Bool) (w : World) (hr0 : Kd.C k155 w A0 l0.length l0) (hc0 : l0.length ≤ c0) (hr1 : Kd.C k155 w A1 l1.length l1) (hc1 : l1.length ≤ c1) (h : laws_eqSentS.f k l0 l1 = some r) :
    Calls Try.prog 85 #[.slice A0 l0.length c0, .slice A1 l1.length c1] w fun e w' => e = .returned (.bool r) ∧ Below w.heap.size w w' := by
  have hu155 := Try.underlying155
  have HR0 := Aside0.mk hr0
  have HC0 := Aside0.mk hc0
  clear hr0 hc0
  have HR1 := Aside0.mk hr1
  have HC1 := Aside0.mk hc1
  clear hr1 hc1
  have HB := Aside0.mk (Below.refl w.heap.size w)
  have H : (if (l0.length : Int) = (l1.length : Int) then (laws_eqSentS.l0 k l0 l1 0) else (some false)) = some r := h
  clear h
  by_cases c3 : (l0.length : Int) = (l1.length : Int)
  · rw [if_pos c3] at H
    have c3b0 : ((l0.length : Int) == (l1.length : Int)) = true := beq_iff_eq.mpr c3
    have c3b1 : ((l0.length : Int) != (l1.length : Int)) = false := bne_eq_false_iff_eq.mpr c3
    have c3b2 : (l0.length == l1.length) = true := by first | simpa using c3 | (simp at c3 ⊢; omega)
    clear c3
    have H' := Aside0.mk H
    clear H
    go_enter Try.func85, Try.ntmps85
    go_wp2
    go_loopg [5] k (fun kq v5 w' => ∃ (x5_1 : Int), v5 = .int .i64 x5_1 ∧ Aside0 (laws_eqSentS.l0 kq l0 l1 x5_1 = some r) ∧ Aside0 (kq ≤ k) ∧ Aside0 (Below w.heap.size w w'))
    case atStart => exact ⟨(0), e2_, H', ⟨Nat.le_refl _⟩, ⟨bb HB⟩⟩
    case round =>
      clear H'
      (try clear c1)
      (try clear p2)
      (try clear c3)
      (try clear c3b0)
      (try clear c3b1)
      (try clear c3b2)
      obtain ⟨x5_1, rfl, HA, HK1, HB⟩ := hrel
      cases gk with
      | zero => exact absurd HA.out (by simp [laws_eqSentS.l0])
      | succ k1 =>
        have H := HA.out
        clear HA
        simp only [laws_eqSentS.l0] at H
        by_cases c4 : x5_1 < (l0.length : Int)
        · rw [if_pos c4] at H
          have c4b0 : decide (x5_1 < (l0.length : Int)) = true := decide_eq_true c4
          clear c4
          by_cases c5 : 0 ≤ x5_1
          · rw [if_pos c5] at H
            have c5b0 : decide (0 ≤ x5_1) = true := decide_eq_true c5
            clear c5
            by_cases c6 : x5_1 < (l1.length : Int)
            · rw [if_pos c6] at H
              have c6b0 : decide (x5_1 < (l1.length : Int)) = true := decide_eq_true c6
              clear c6
              replace H := Option.bind_eq_some_iff.mp H
              obtain ⟨t835, A70, H⟩ := H
              replace H : (if t835 = true then (laws_eqSentS.l0 k1 l0 l1 (wrap64 (x5_1 + 1))) else (some false)) = some r := H
              have A7 := Aside0.mk A70
              clear A70
              by_cases c8 : t835 = true
              · subst c8
                have H1 : (laws_eqSentS.l0 k1 l0 l1 (wrap64 (x5_1 + 1))) = some r := by rw [if_pos rfl] at H; exact H
                clear H
                have H := H1
                clear H1
                have H' := Aside0.mk H
                clear H
                try go_wp2
                replace HB := Aside0.mk (below_drew1 HB.out)
                have p833 : 0 ≤ (x5_1 : Int) := of_decide_eq_true (by first | (with_reducible assumption) | assumption)
                have q833 : x5_1 < (l0.length : Int) := of_decide_eq_true (by first | (with_reducible assumption) | assumption)
                obtain ⟨ad833, A833_1, c833_1, e833, hx833_0, hx833_1, hl833_1, hi833_1⟩ := at_T155 HR0.out x5_1 p833 q833
                have hw833_1 := hx833_1
                have hw833_0 := hx833_0
                cases e833
                replace hx833_0 := (HB.out.cell (World.block_lt_of_cell? w _ hx833_0)).trans hx833_0
                replace hx833_1 := (HB.out.cell (World.block_lt_of_cell? w _ hx833_1)).trans hx833_1
                have HR833_1 := Aside0.mk hi833_1
                have HC833_1 := Aside0.mk hl833_1
                clear hi833_1 hl833_1
                replace p833 := eq_true p833
                replace q833 := eq_true q833
                have p834 : 0 ≤ (x5_1 : Int) := of_decide_eq_true (by first | (with_reducible assumption) | assumption)
                have q834 : x5_1 < (l1.length : Int) := of_decide_eq_true (by first | (with_reducible assumption) | assumption)
                obtain ⟨ad834, A834_1, c834_1, e834, hx834_0, hx834_1, hl834_1, hi834_1⟩ := at_T155 HR1.out x5_1 p834 q834
                have hw834_1 := hx834_1
                have hw834_0 := hx834_0
                cases e834
                replace hx834_0 := (HB.out.cell (World.block_lt_of_cell? w _ hx834_0)).trans hx834_0
                replace hx834_1 := (HB.out.cell (World.block_lt_of_cell? w _ hx834_1)).trans hx834_1
                have HR834_1 := Aside0.mk hi834_1
                have HC834_1 := Aside0.mk hl834_1
                clear hi834_1 hl834_1
                replace p834 := eq_true p834
                replace q834 := eq_true q834
                refine start_ (n := 10) (S := fun w' => w'.cell? (ad833.add ((x5_1).toNat * 2)) = some (.int .i64 ((rd_T155 l0 x5_1).f0)) ∧ w'.cell? ⟨(ad833.add ((x5_1).toNat * 2)).block, (ad833.add ((x5_1).toNat * 2)).off + 1, none⟩ = some (.slice A833_1 ((rd_T155 l0 x5_1).f1).length c833_1) ∧ w'.cell? (ad834.add ((x5_1).toNat * 2)) = some (.int .i64 ((rd_T155 l1 x5_1).f0)) ∧ w'.cell? ⟨(ad834.add ((x5_1).toNat * 2)).block, (ad834.add ((x5_1).toNat * 2)).off + 1, none⟩ = some (.slice A834_1 ((rd_T155 l1 x5_1).f1).length c834_1)) (ds := []) #[false, false, false, false, false, false, false, false, false, false] (by kernel_rfl) rfl rfl ⟨((HB.out.cell (World.block_lt_of_cell? w _ hw833_0)).trans hw833_0), ((HB.out.cell (World.block_lt_of_cell? w _ hw833_1)).trans hw833_1), ((HB.out.cell (World.block_lt_of_cell? w _ hw834_0)).trans hw834_0), ((HB.out.cell (World.block_lt_of_cell? w _ hw834_1)).trans hw834_1)⟩ (fun hHeld => ?_); refine with_tabW laws_eqSentS.tab6 laws_eqSentS.bits6 (fun HT_ HW_ => ?_)
                generalize wr.drew = w9 at HB HR833_1 HR834_1 hx833_0 hx833_1 hx834_0 hx834_1 hHeld ⊢
                refine pure_ (i := 0) (N := some 17) (v := ?_) (a' := ?_) #[true, false, false, false, false, false, false, false, false, false] rfl rfl (any_of HT_.out (by kernel_rfl)) (fun _ _ _ h => h) (Or.inl ⟨by rfl, ?_⟩) ?_ ?_
                rotate_left
                · intro w'
                  go_simp
                  with_reducible rfl
                rotate_left
                · simp only [Act.put, List.setIfInBounds_toArray, List.set_cons_zero, List.set_cons_succ, i64_w, i32_w]
                  rfl
                refine pure_ (i := 1) (N := some 18) (v := ?_) (a' := ?_) #[true, true, false, false, false, false, false, false, false, false] rfl rfl (any_of HT_.out (by kernel_rfl)) (fun _ _ _ h => h) (Or.inl ⟨by rfl, ?_⟩) ?_ ?_
                rotate_left
                · intro w'
                  go_simp
                  with_reducible rfl
                rotate_left
                · simp only [Act.put, List.setIfInBounds_toArray, List.set_cons_zero, List.set_cons_succ, i64_w, i32_w]
                  rfl
                refine pure_ (i := 2) (N := some 19) (v := ?_) (a' := ?_) #[true, true, true, false, false, false, false, false, false, false] rfl rfl (any_of HT_.out (by kernel_rfl)) (fun _ _ _ h => h) (Or.inl ⟨by rfl, ?_⟩) ?_ ?_
                rotate_left
                · intro w'
                  go_simp
                  with_reducible rfl
                rotate_left
                · simp only [Act.put, List.setIfInBounds_toArray, List.set_cons_zero, List.set_cons_succ, i64_w, i32_w]
                  rfl
                refine pure_ (i := 4) (N := some 21) (v := ?_) (a' := ?_) #[true, true, true, false, true, false, false, false, false, false] rfl rfl (any_of HT_.out (by kernel_rfl)) (fun _ _ _ h => h) (Or.inl ⟨by rfl, ?_⟩) ?_ ?_
                rotate_left
                · intro w'
                  go_simp
                  with_reducible rfl
                rotate_left
                · simp only [Act.put, List.setIfInBounds_toArray, List.set_cons_zero, List.set_cons_succ, i64_w, i32_w]
                  rfl
                refine pure_ (i := 5) (N := some 22) (v := ?_) (a' := ?_) #[true, true, true, false, true, true, false, false, false, false] rfl rfl (any_of HT_.out (by kernel_rfl)) (fun _ _ _ h => h) (Or.inl ⟨by rfl, ?_⟩) ?_ ?_
                rotate_left
                · intro w'
                  go_simp
                  with_reducible rfl
                rotate_left
                · simp only [Act.put, List.setIfInBounds_toArray, List.set_cons_zero, List.set_cons_succ, i64_w, i32_w]
                  rfl
                refine pure_ (i := 6) (N := some 23) (v := ?_) (a' := ?_) #[true, true, true, false, true, true, true, false, false, false] rfl rfl (any_of HT_.out (by kernel_rfl)) (fun _ _ _ h => h) (Or.inl ⟨by rfl, ?_⟩) ?_ ?_
                rotate_left
                · intro w'
                  go_simp
                  with_reducible rfl
                rotate_left
                · simp only [Act.put, List.setIfInBounds_toArray, List.set_cons_zero, List.set_cons_succ, i64_w, i32_w]
                  rfl
                refine take_ (i := 3) (N := some 20) (v := ?_) (a' := ?_) #[true, true, true, true, true, true, true, false, false, false] rfl rfl (take_ofW HT_.out HW_.out (by kernel_rfl)) (fun _ _ _ h => h) (Or.inl ⟨by rfl, ?_⟩) hHeld ?_ ?_
                rotate_left
                · rintro w' ⟨s0, s1, s2, s3⟩
                  go_simp
                  with_reducible rfl
                rotate_left
                · simp only [Act.put, List.setIfInBounds_toArray, List.set_cons_zero, List.set_cons_succ, i64_w, i32_w]
                  rfl
                refine take_ (i := 7) (N := some 24) (v := ?_) (a' := ?_) #[true, true, true, true, true, true, true, true, false, false] rfl rfl (take_ofW HT_.out HW_.out (by kernel_rfl)) (fun _ _ _ h => h) (Or.inl ⟨by rfl, ?_⟩) hHeld ?_ ?_
                rotate_left
                · rintro w' ⟨s0, s1, s2, s3⟩
                  go_simp
                  with_reducible rfl
                rotate_left
                · simp only [Act.put, List.setIfInBounds_toArray, List.set_cons_zero, List.set_cons_succ, i64_w, i32_w]
                  rfl
                refine one_ (i := 8) (N := some 25) #[true, true, true, true, true, true, true, true, true, false] rfl rfl (one_of HT_.out (by kernel_rfl)) (by decide) (fun K hK => ?_)
                refine goes_ Try.func124 (by kernel_rfl) rfl #[.agg #[.int .i64 ((rd_T155 l0 x5_1).f0), .slice A833_1 ((rd_T155 l0 x5_1).f1).length c833_1], .agg #[.int .i64 ((rd_T155 l1 x5_1).f0), .slice A834_1 ((rd_T155 l1 x5_1).f1).length c834_1]] (by rfl) rfl rfl (by (try simp only [List.map_toArray, List.map_cons, List.map_nil]); first | done | rfl | (simp only [List.length_drop, List.length_take]; rfl)) ?_
                with_reducible refine (laws_eqSent.calls k1 ((rd_T155 l0 x5_1).f0) _ _ ((rd_T155 l0 x5_1).f1) ((rd_T155 l1 x5_1).f0) _ _ ((rd_T155 l1 x5_1).f1) true _ ?side1 ?side2 ?side3 ?side4 A7.out).mono ?_
                (case side1 => exact cc HR833_1 HB)
                (case side2 => exact HC833_1.out)
                (case side3 => exact cc HR834_1 HB)
                (case side4 => exact HC834_1.out)
                rintro e w10 ⟨rfl, hb⟩
                refine ⟨_, rfl, ?_⟩
                replace HB := hs_ HB hb
                (try clear hb)
                (try clear hb2)
                (try clear hk)
                (try clear hi)
                refine hK.out _ _ ⟨((HB.out.cell (World.block_lt_of_cell? w _ hw833_0)).trans hw833_0), ((HB.out.cell (World.block_lt_of_cell? w _ hw833_1)).trans hw833_1), ((HB.out.cell (World.block_lt_of_cell? w _ hw834_0)).trans hw834_0), ((HB.out.cell (World.block_lt_of_cell? w _ hw834_1)).trans hw834_1)⟩ (fun hHeld => ?_)
                clear hK K
                refine norm_ (a' := ?_) ?_ ?_
                rotate_left
                · show Act.put _ (some 25) _ = _
                  simp only [Act.put, List.setIfInBounds_toArray, List.set_cons_zero, List.set_cons_succ, i64_w, i32_w]
                  rfl
                refine pure_ (i := 9) (N := some 26) (v := ?_) (a' := ?_) #[true, true, true, true, true, true, true, true, true, true] rfl rfl (any_of HT_.out (by kernel_rfl)) (fun _ _ _ h => h) (Or.inl ⟨by rfl, ?_⟩) ?_ ?_
                rotate_left
                · intro w'
                  go_simp
                  with_reducible rfl
                rotate_left
                · simp only [Act.put, List.setIfInBounds_toArray, List.set_cons_zero, List.set_cons_succ, i64_w, i32_w]
                  rfl
                refine done_ (done_of HT_.out (by kernel_rfl)) ?_
                try go_wp2
                go_roundg k1
                case measure => have := HK1.out; omega
                case rel => exact ⟨(wrap64 (x5_1 + 1)), e2_, H', ⟨by have := HK1.out; omega⟩, ⟨bb HB⟩⟩
              · replace c8 := Bool.eq_false_iff.mpr c8
                subst c8
                have H1 : (some false) = some r := by rw [if_neg (show ¬ (false = true) by decide)] at H; exact H
                clear H
                have H := H1
                clear H1
                obtain rfl := Option.some.inj H
                try go_wp2
                replace HB := Aside0.mk (below_drew1 HB.out)
                have p833 : 0 ≤ (x5_1 : Int) := of_decide_eq_true (by first | (with_reducible assumption) | assumption)
                have q833 : x5_1 < (l0.length : Int) := of_decide_eq_true (by first | (with_reducible assumption) | assumption)
                obtain ⟨ad833, A833_1, c833_1, e833, hx833_0, hx833_1, hl833_1, hi833_1⟩ := at_T155 HR0.out x5_1 p833 q833
                have hw833_1 := hx833_1
                have hw833_0 := hx833_0
                cases e833
                replace hx833_0 := (HB.out.cell (World.block_lt_of_cell? w _ hx833_0)).trans hx833_0
                replace hx833_1 := (HB.out.cell (World.block_lt_of_cell? w _ hx833_1)).trans hx833_1
                have HR833_1 := Aside0.mk hi833_1
                have HC833_1 := Aside0.mk hl833_1
                clear hi833_1 hl833_1
                replace p833 := eq_true p833
                replace q833 := eq_true q833
                have p834 : 0 ≤ (x5_1 : Int) := of_decide_eq_true (by first | (with_reducible assumption) | assumption)
                have q834 : x5_1 < (l1.length : Int) := of_decide_eq_true (by first | (with_reducible assumption) | assumption)
                obtain ⟨ad834, A834_1, c834_1, e834, hx834_0, hx834_1, hl834_1, hi834_1⟩ := at_T155 HR1.out x5_1 p834 q834
                have hw834_1 := hx834_1
                have hw834_0 := hx834_0
                cases e834
                replace hx834_0 := (HB.out.cell (World.block_lt_of_cell? w _ hx834_0)).trans hx834_0
                replace hx834_1 := (HB.out.cell (World.block_lt_of_cell? w _ hx834_1)).trans hx834_1
                have HR834_1 := Aside0.mk hi834_1
                have HC834_1 := Aside0.mk hl834_1
                clear hi834_1 hl834_1
                replace p834 := eq_true p834
                replace q834 := eq_true q834
                refine start_ (n := 10) (S := fun w' => w'.cell? (ad833.add ((x5_1).toNat * 2)) = some (.int .i64 ((rd_T155 l0 x5_1).f0)) ∧ w'.cell? ⟨(ad833.add ((x5_1).toNat * 2)).block, (ad833.add ((x5_1).toNat * 2)).off + 1, none⟩ = some (.slice A833_1 ((rd_T155 l0 x5_1).f1).length c833_1) ∧ w'.cell? (ad834.add ((x5_1).toNat * 2)) = some (.int .i64 ((rd_T155 l1 x5_1).f0)) ∧ w'.cell? ⟨(ad834.add ((x5_1).toNat * 2)).block, (ad834.add ((x5_1).toNat * 2)).off + 1, none⟩ = some (.slice A834_1 ((rd_T155 l1 x5_1).f1).length c834_1)) (ds := []) #[false, false, false, false, false, false, false, false, false, false] (by kernel_rfl) rfl rfl ⟨((HB.out.cell (World.block_lt_of_cell? w _ hw833_0)).trans hw833_0), ((HB.out.cell (World.block_lt_of_cell? w _ hw833_1)).trans hw833_1), ((HB.out.cell (World.block_lt_of_cell? w _ hw834_0)).trans hw834_0), ((HB.out.cell (World.block_lt_of_cell? w _ hw834_1)).trans hw834_1)⟩ (fun hHeld => ?_); refine with_tabW laws_eqSentS.tab6 laws_eqSentS.bits6 (fun HT_ HW_ => ?_)
                generalize wr.drew = w11 at HB HR833_1 HR834_1 hx833_0 hx833_1 hx834_0 hx834_1 hHeld ⊢
                refine pure_ (i := 0) (N := some 17) (v := ?_) (a' := ?_) #[true, false, false, false, false, false, false, false, false, false] rfl rfl (any_of HT_.out (by kernel_rfl)) (fun _ _ _ h => h) (Or.inl ⟨by rfl, ?_⟩) ?_ ?_
                rotate_left
                · intro w'
                  go_simp
                  with_reducible rfl
                rotate_left
                · simp only [Act.put, List.setIfInBounds_toArray, List.set_cons_zero, List.set_cons_succ, i64_w, i32_w]
                  rfl
                refine pure_ (i := 1) (N := some 18) (v := ?_) (a' := ?_) #[true, true, false, false, false, false, false, false, false, false] rfl rfl (any_of HT_.out (by kernel_rfl)) (fun _ _ _ h => h) (Or.inl ⟨by rfl, ?_⟩) ?_ ?_
                rotate_left
                · intro w'
                  go_simp
                  with_reducible rfl
                rotate_left
                · simp only [Act.put, List.setIfInBounds_toArray, List.set_cons_zero, List.set_cons_succ, i64_w, i32_w]
                  rfl
                refine pure_ (i := 2) (N := some 19) (v := ?_) (a' := ?_) #[true, true, true, false, false, false, false, false, false, false] rfl rfl (any_of HT_.out (by kernel_rfl)) (fun _ _ _ h => h) (Or.inl ⟨by rfl, ?_⟩) ?_ ?_
                rotate_left
                · intro w'
                  go_simp
                  with_reducible rfl
                rotate_left
                · simp only [Act.put, List.setIfInBounds_toArray, List.set_cons_zero, List.set_cons_succ, i64_w, i32_w]
                  rfl
                refine pure_ (i := 4) (N := some 21) (v := ?_) (a' := ?_) #[true, true, true, false, true, false, false, false, false, false] rfl rfl (any_of HT_.out (by kernel_rfl)) (fun _ _ _ h => h) (Or.inl ⟨by rfl, ?_⟩) ?_ ?_
                rotate_left
                · intro w'
                  go_simp
                  with_reducible rfl
                rotate_left
                · simp only [Act.put, List.setIfInBounds_toArray, List.set_cons_zero, List.set_cons_succ, i64_w, i32_w]
                  rfl
                refine pure_ (i := 5) (N := some 22) (v := ?_) (a' := ?_) #[true, true, true, false, true, true, false, false, false, false] rfl rfl (any_of HT_.out (by kernel_rfl)) (fun _ _ _ h => h) (Or.inl ⟨by rfl, ?_⟩) ?_ ?_
                rotate_left
                · intro w'
                  go_simp
                  with_reducible rfl
                rotate_left
                · simp only [Act.put, List.setIfInBounds_toArray, List.set_cons_zero, List.set_cons_succ, i64_w, i32_w]
                  rfl
                refine pure_ (i := 6) (N := some 23) (v := ?_) (a' := ?_) #[true, true, true, false, true, true, true, false, false, false] rfl rfl (any_of HT_.out (by kernel_rfl)) (fun _ _ _ h => h) (Or.inl ⟨by rfl, ?_⟩) ?_ ?_
                rotate_left
                · intro w'
                  go_simp
                  with_reducible rfl
                rotate_left
                · simp only [Act.put, List.setIfInBounds_toArray, List.set_cons_zero, List.set_cons_succ, i64_w, i32_w]
                  rfl
                refine take_ (i := 3) (N := some 20) (v := ?_) (a' := ?_) #[true, true, true, true, true, true, true, false, false, false] rfl rfl (take_ofW HT_.out HW_.out (by kernel_rfl)) (fun _ _ _ h => h) (Or.inl ⟨by rfl, ?_⟩) hHeld ?_ ?_
                rotate_left
                · rintro w' ⟨s0, s1, s2, s3⟩
                  go_simp
                  with_reducible rfl
                rotate_left
                · simp only [Act.put, List.setIfInBounds_toArray, List.set_cons_zero, List.set_cons_succ, i64_w, i32_w]
                  rfl
                refine take_ (i := 7) (N := some 24) (v := ?_) (a' := ?_) #[true, true, true, true, true, true, true, true, false, false] rfl rfl (take_ofW HT_.out HW_.out (by kernel_rfl)) (fun _ _ _ h => h) (Or.inl ⟨by rfl, ?_⟩) hHeld ?_ ?_
                rotate_left
                · rintro w' ⟨s0, s1, s2, s3⟩
                  go_simp
                  with_reducible rfl
                rotate_left
                · simp only [Act.put, List.setIfInBounds_toArray, List.set_cons_zero, List.set_cons_succ, i64_w, i32_w]
                  rfl
                refine one_ (i := 8) (N := some 25) #[true, true, true, true, true, true, true, true, true, false] rfl rfl (one_of HT_.out (by kernel_rfl)) (by decide) (fun K hK => ?_)
                refine goes_ Try.func124 (by kernel_rfl) rfl #[.agg #[.int .i64 ((rd_T155 l0 x5_1).f0), .slice A833_1 ((rd_T155 l0 x5_1).f1).length c833_1], .agg #[.int .i64 ((rd_T155 l1 x5_1).f0), .slice A834_1 ((rd_T155 l1 x5_1).f1).length c834_1]] (by rfl) rfl rfl (by (try simp only [List.map_toArray, List.map_cons, List.map_nil]); first | done | rfl | (simp only [List.length_drop, List.length_take]; rfl)) ?_
                with_reducible refine (laws_eqSent.calls k1 ((rd_T155 l0 x5_1).f0) _ _ ((rd_T155 l0 x5_1).f1) ((rd_T155 l1 x5_1).f0) _ _ ((rd_T155 l1 x5_1).f1) false _ ?side1 ?side2 ?side3 ?side4 A7.out).mono ?_
                (case side1 => exact cc HR833_1 HB)
                (case side2 => exact HC833_1.out)
                (case side3 => exact cc HR834_1 HB)
                (case side4 => exact HC834_1.out)
                rintro e w12 ⟨rfl, hb⟩
                refine ⟨_, rfl, ?_⟩
                replace HB := hs_ HB hb
                (try clear hb)
                (try clear hb2)
                (try clear hk)
                (try clear hi)
                refine hK.out _ _ ⟨((HB.out.cell (World.block_lt_of_cell? w _ hw833_0)).trans hw833_0), ((HB.out.cell (World.block_lt_of_cell? w _ hw833_1)).trans hw833_1), ((HB.out.cell (World.block_lt_of_cell? w _ hw834_0)).trans hw834_0), ((HB.out.cell (World.block_lt_of_cell? w _ hw834_1)).trans hw834_1)⟩ (fun hHeld => ?_)
                clear hK K
                refine norm_ (a' := ?_) ?_ ?_
                rotate_left
                · show Act.put _ (some 25) _ = _
                  simp only [Act.put, List.setIfInBounds_toArray, List.set_cons_zero, List.set_cons_succ, i64_w, i32_w]
                  rfl
                refine pure_ (i := 9) (N := some 26) (v := ?_) (a' := ?_) #[true, true, true, true, true, true, true, true, true, true] rfl rfl (any_of HT_.out (by kernel_rfl)) (fun _ _ _ h => h) (Or.inl ⟨by rfl, ?_⟩) ?_ ?_
                rotate_left
                · intro w'
                  go_simp
                  with_reducible rfl
                rotate_left
                · simp only [Act.put, List.setIfInBounds_toArray, List.set_cons_zero, List.set_cons_succ, i64_w, i32_w]
                  rfl
                refine done_ (done_of HT_.out (by kernel_rfl)) ?_
                try go_wp2
                go_ret
                exact ⟨ee, bb HB⟩
            · rw [if_neg c6] at H
              exact absurd H (by simp)
          · rw [if_neg c5] at H
            exact absurd H (by simp)
        · rw [if_neg c4] at H
          have c4b0 : decide (x5_1 < (l0.length : Int)) = false := decide_eq_false c4
          clear c4
          obtain rfl := Option.some.inj H
          go_wp2
          go_ret
          exact ⟨ee, bb HB⟩
  · rw [if_neg c3] at H
    have c3b0 : ((l0.length : Int) == (l1.length : Int)) = false := beq_eq_false_iff_ne.mpr c3
    have c3b1 : ((l0.length : Int) != (l1.length : Int)) = true := bne_iff_ne.mpr c3
    have c3b2 : (l0.length == l1.length) = false := by first | simpa using c3 | (simp at c3 ⊢; omega)
    obtain rfl := Option.some.inj H
    go_enter Try.func85, Try.ntmps85
    go_wp2
    go_ret
    exact ⟨ee, bb HB⟩
end Go.Proofs.Ytibmeomlokigjaa.Q
namespace Go.Proofs.Ytibmeomlokigjaa.Q
open Go.RowKit Go.Proofs.YtibmeomlokigjaaW.PrintWords Go.Proofs.YtibmeomlokigjaaW.PrintLast Go.Proofs.YtibmeomlokigjaaW.PrintMore
attribute [local go_sem] max2_int min2_int max_two min_two max_three min_three max_four min_four
set_option linter.unusedVariables false
set_option linter.unusedSimpArgs false
def laws_eqCup.f (k : Nat) (a0_0 : Int) (l0_1 : List Int) (a1_0 : Int) (l1_1 : List Int) : Option (Bool) := if a0_0 = a1_0 then ((laws_eqIntS.f k l0_1 l1_1).bind fun t838 => (if t838 = true then (some true) else (some false))) else (some false)
set_option maxHeartbeats 8000000 in
set_option maxRecDepth 100000 in
theorem laws_eqCup.calls (k : Nat) (a0_0 : Int) (A0_1 : Option Addr) (c0_1 : Nat) (l0_1 : List Int) (a1_0 : Int) (A1_1 : Option Addr) (c1_1 : Nat) (l1_1 : List Int) (r : Bool) (w : World) (hr0_1 : Kd.C (Kd.int .i64) w A0_1 l0_1.length l0_1) (hc0_1 : l0_1.length ≤ c0_1) (hr1_1 : Kd.C (Kd.int .i64) w A1_1 l1_1.length l1_1) (hc1_1 : l1_1.length ≤ c1_1) (h : laws_eqCup.f k a0_0 l0_1 a1_0 l1_1 = some r) :
    Calls Try.prog 86 #[.agg #[.int .i64 a0_0, .slice A0_1 l0_1.length c0_1], .agg #[.int .i64 a1_0, .slice A1_1 l1_1.length c1_1]] w fun e w' => e = .returned (.bool r) ∧ Below w.heap.size w w' := by
  have hu71 := Try.underlying71
  have HR0_1 := Aside0.mk hr0_1
  have HC0_1 := Aside0.mk hc0_1
  clear hr0_1 hc0_1
  have HR1_1 := Aside0.mk hr1_1
  have HC1_1 := Aside0.mk hc1_1
  clear hr1_1 hc1_1
  have HB := Aside0.mk (Below.refl w.heap.size w)
  have H : (if a0_0 = a1_0 then ((laws_eqIntS.f k l0_1 l1_1).bind fun t838 => (if t838 = true then (some true) else (some false))) else (some false)) = some r := h
  clear h
  by_cases c3 : a0_0 = a1_0
  · rw [if_pos c3] at H
    have c3b0 : (a0_0 == a1_0) = true := beq_iff_eq.mpr c3
    have c3b1 : (a0_0 != a1_0) = false := bne_eq_false_iff_eq.mpr c3
    clear c3
    replace H := Option.bind_eq_some_iff.mp H
    obtain ⟨t838, A40, H⟩ := H
    replace H : (if t838 = true then (some true) else (some false)) = some r := H
    have A4 := Aside0.mk A40
    clear A40
    by_cases c5 : t838 = true
    · subst c5
      have H1 : (some true) = some r := by rw [if_pos rfl] at H; exact H
      clear H
      have H := H1
      clear H1
      obtain rfl := Option.some.inj H
      go_enter Try.func86, Try.ntmps86
      go_wp2_with (first | ((with_reducible refine gate_dst (N := 2) rfl ?_); refine bx (N := 2) (cs := #[.int .i64 a0_0, .slice A0_1 l0_1.length c0_1]) (t := 71) ?_; intro gb836 hg w6 hbox hb; have BK836 := Aside0.mk (hbox); have GW836 := gs hg HB; have GE836 := gs hg HB; replace HB := hs_ HB hb; clear hb hbox hg) | ((with_reducible refine gate_dst (N := 3) rfl ?_); refine bx (N := 3) (cs := #[.int .i64 a1_0, .slice A1_1 l1_1.length c1_1]) (t := 71) ?_; intro gb837 hg w7 hbox hb; have BK837 := Aside0.mk (hbox); have GW837 := gs hg HB; have GE837 := gs hg HB; replace HB := hs_ HB hb; have NB836_837 := gn hg BK836; have NB837_836 := gm hg BK836; replace BK836 := kb BK836 hb; clear hb hbox hg; have hnb8 := NB836_837.out; have hnc8 := NB837_836.out; have ⟨hcz9_0, hcz9_1, hfz9_0, hfz9_1⟩ := rz2 BK836; have ⟨hcz10_0, hcz10_1, hfz10_0, hfz10_1⟩ := rz2 BK837) | ((with_reducible refine gate_callee (f := 122) rfl ?_); refine gl (some 14) Try.func122 #[.slice A0_1 l0_1.length c0_1, .slice A1_1 l1_1.length c1_1] ?_; (with_reducible refine (laws_eqIntS.calls k _ _ l0_1 _ _ l1_1 true _ ?side1 ?side2 ?side3 ?side4 A4.out).mono ?_); (case side1 => exact cc HR0_1 HB); (case side2 => exact HC0_1.out); (case side3 => exact cc HR1_1 HB); (case side4 => exact HC1_1.out); rintro e w' ⟨rfl, ⟨nd, rfl⟩⟩; refine ⟨_, rfl, ?_⟩))
      go_ret
      exact ⟨ee, bb HB⟩
    · replace c5 := Bool.eq_false_iff.mpr c5
      subst c5
      have H1 : (some false) = some r := by rw [if_neg (show ¬ (false = true) by decide)] at H; exact H
      clear H
      have H := H1
      clear H1
      obtain rfl := Option.some.inj H
      go_enter Try.func86, Try.ntmps86
      go_wp2_with (first | ((with_reducible refine gate_dst (N := 2) rfl ?_); refine bx (N := 2) (cs := #[.int .i64 a0_0, .slice A0_1 l0_1.length c0_1]) (t := 71) ?_; intro gb836 hg w11 hbox hb; have BK836 := Aside0.mk (hbox); have GW836 := gs hg HB; have GE836 := gs hg HB; replace HB := hs_ HB hb; clear hb hbox hg) | ((with_reducible refine gate_dst (N := 3) rfl ?_); refine bx (N := 3) (cs := #[.int .i64 a1_0, .slice A1_1 l1_1.length c1_1]) (t := 71) ?_; intro gb837 hg w12 hbox hb; have BK837 := Aside0.mk (hbox); have GW837 := gs hg HB; have GE837 := gs hg HB; replace HB := hs_ HB hb; have NB836_837 := gn hg BK836; have NB837_836 := gm hg BK836; replace BK836 := kb BK836 hb; clear hb hbox hg; have hnb13 := NB836_837.out; have hnc13 := NB837_836.out; have ⟨hcz14_0, hcz14_1, hfz14_0, hfz14_1⟩ := rz2 BK836; have ⟨hcz15_0, hcz15_1, hfz15_0, hfz15_1⟩ := rz2 BK837) | ((with_reducible refine gate_callee (f := 122) rfl ?_); refine gl (some 14) Try.func122 #[.slice A0_1 l0_1.length c0_1, .slice A1_1 l1_1.length c1_1] ?_; (with_reducible refine (laws_eqIntS.calls k _ _ l0_1 _ _ l1_1 false _ ?side1 ?side2 ?side3 ?side4 A4.out).mono ?_); (case side1 => exact cc HR0_1 HB); (case side2 => exact HC0_1.out); (case side3 => exact cc HR1_1 HB); (case side4 => exact HC1_1.out); rintro e w' ⟨rfl, ⟨nd, rfl⟩⟩; refine ⟨_, rfl, ?_⟩))
      go_ret
      exact ⟨ee, bb HB⟩
  · rw [if_neg c3] at H
    have c3b0 : (a0_0 == a1_0) = false := beq_eq_false_iff_ne.mpr c3
    have c3b1 : (a0_0 != a1_0) = true := bne_iff_ne.mpr c3
    obtain rfl := Option.some.inj H
    go_enter Try.func86, Try.ntmps86
    go_wp2_with (first | ((with_reducible refine gate_dst (N := 2) rfl ?_); refine bx (N := 2) (cs := #[.int .i64 a0_0, .slice A0_1 l0_1.length c0_1]) (t := 71) ?_; intro gb836 hg w16 hbox hb; have BK836 := Aside0.mk (hbox); have GW836 := gs hg HB; have GE836 := gs hg HB; replace HB := hs_ HB hb; clear hb hbox hg) | ((with_reducible refine gate_dst (N := 3) rfl ?_); refine bx (N := 3) (cs := #[.int .i64 a1_0, .slice A1_1 l1_1.length c1_1]) (t := 71) ?_; intro gb837 hg w17 hbox hb; have BK837 := Aside0.mk (hbox); have GW837 := gs hg HB; have GE837 := gs hg HB; replace HB := hs_ HB hb; have NB836_837 := gn hg BK836; have NB837_836 := gm hg BK836; replace BK836 := kb BK836 hb; clear hb hbox hg; have hnb18 := NB836_837.out; have hnc18 := NB837_836.out; have ⟨hcz19_0, hcz19_1, hfz19_0, hfz19_1⟩ := rz2 BK836; have ⟨hcz20_0, hcz20_1, hfz20_0, hfz20_1⟩ := rz2 BK837))
    go_ret
    exact ⟨ee, bb HB⟩
end Go.Proofs.Ytibmeomlokigjaa.Q
namespace Go.Proofs.Ytibmeomlokigjaa.Q
open Go.RowKit Go.Proofs.YtibmeomlokigjaaW.PrintWords Go.Proofs.YtibmeomlokigjaaW.PrintLast Go.Proofs.YtibmeomlokigjaaW.PrintMore
attribute [local go_sem] max2_int min2_int max_two min_two max_three min_three max_four min_four
set_option linter.unusedVariables false
set_option linter.unusedSimpArgs false
def laws_eqConsole.f (k : Nat) (l0_0 : List (S132)) (a0_1 : Int) (a0_2 : Int) (a0_3 : Int) (l0_4 : List Int) (a0_5 : Bool) (l0_6 : List (S47)) (l0_7 : List Int) (l0_8 : List Int) (l0_9 : List (S152)) (l0_10 : List (S155)) (a0_11 : Int) (l0_12 : List Int) (l1_0 : List (S132)) (a1_1 : Int) (a1_2 : Int) (a1_3 : Int) (l1_4 : List Int) (a1_5 : Bool) (l1_6 : List (S47)) (l1_7 : List Int) (l1_8 : List Int) (l1_9 : List (S152)) (l1_10 : List (S155)) (a1_11 : Int) (l1_12 : List Int) : Option (Bool) := (laws_eqBook.f k l0_0 a0_1 a0_2 a0_3 l0_4 a0_5 l0_6 l0_7 l0_8 l1_0 a1_1 a1_2 a1_3 l1_4 a1_5 l1_6 l1_7 l1_8).bind fun t841 => (if t841 = true then ((laws_eqNoteS.f k l0_9 l1_9).bind fun t842 => (if t842 = true then ((laws_eqSentS.f k l0_10 l1_10).bind fun t843 => (if t843 = true then ((laws_eqCup.f k a0_11 l0_12 a1_11 l1_12).bind fun t844 => (if t844 = true then (some true) else (some false))) else (some false))) else (some false))) else (some false))
set_option maxHeartbeats 8000000 in
set_option maxRecDepth 100000 in
theorem laws_eqConsole.calls (k : Nat) (A0_0 : Option Addr) (c0_0 : Nat) (l0_0 : List (S132)) (a0_1 : Int) (a0_2 : Int) (a0_3 : Int) (A0_4 : Option Addr) (c0_4 : Nat) (l0_4 : List Int) (a0_5 : Bool) (A0_6 : Option Addr) (c0_6 : Nat) (l0_6 : List (S47)) (A0_7 : Option Addr) (c0_7 : Nat) (l0_7 : List Int) (A0_8 : Option Addr) (c0_8 : Nat) (l0_8 : List Int) (A0_9 : Option Addr) (c0_9 : Nat) (l0_9 : List (S152)) (A0_10 : Option Addr) (c0_10 : Nat) (l0_10 : List (S155)) (a0_11 : Int) (A0_12 : Option Addr) (c0_12 : Nat) (l0_12 : List Int) (A1_0 : Option Addr) (c1_0 : Nat) (l1_0 : List (S132)) (a1_1 : Int) (a1_2 : Int) (a1_3 : Int) (A1_4 : Option Addr) (c1_4 : Nat) (l1_4 : List Int) (a1_5 : Bool) (A1_6 : Option Addr) (c1_6 : Nat) (l1_6 : List (S47)) (A1_7 : Option Addr) (c1_7 : Nat) (l1_7 : List Int) (A1_8 : Option Addr) (c1_8 : Nat) (l1_8 : List Int) (A1_9 : Option Addr) (c1_9 : Nat) (l1_9 : List (S152)) (A1_10 : Option Addr) (c1_10 : Nat) (l1_10 : List (S155)) (a1_11 : Int) (A1_12 : Option Addr) (c1_12 : Nat) (l1_12 : List Int) (r : Bool) (w : World) (hr0_0 : Kd.C k132 w A0_0 l0_0.length l0_0) (hc0_0 : l0_0.length ≤ c0_0) (hr0_4 : Kd.C (Kd.int .i64) w A0_4 l0_4.length l0_4) (hc0_4 : l0_4.length ≤ c0_4) (hr0_6 : Kd.C k47 w A0_6 l0_6.length l0_6) (hc0_6 : l0_6.length ≤ c0_6) (hr0_7 : Kd.C (Kd.int .i64) w A0_7 l0_7.length l0_7) (hc0_7 : l0_7.length ≤ c0_7) (hr0_8 : Kd.C (Kd.int .i64) w A0_8 l0_8.length l0_8) (hc0_8 : l0_8.length ≤ c0_8) (hr0_9 : Kd.C k152 w A0_9 l0_9.length l0_9) (hc0_9 : l0_9.length ≤ c0_9) (hr0_10 : Kd.C k155 w A0_10 l0_10.length l0_10) (hc0_10 : l0_10.length ≤ c0_10) (hr0_12 : Kd.C (Kd.int .i64) w A0_12 l0_12.length l0_12) (hc0_12 : l0_12.length ≤ c0_12) (hr1_0 : Kd.C k132 w A1_0 l1_0.length l1_0) (hc1_0 : l1_0.length ≤ c1_0) (hr1_4 : Kd.C (Kd.int .i64) w A1_4 l1_4.length l1_4) (hc1_4 : l1_4.length ≤ c1_4) (hr1_6 : Kd.C k47 w A1_6 l1_6.length l1_6) (hc1_6 : l1_6.length ≤ c1_6) (hr1_7 : Kd.C (Kd.int .i64) w A1_7 l1_7.length l1_7) (hc1_7 : l1_7.length ≤ c1_7) (hr1_8 : Kd.C (Kd.int .i64) w A1_8 l1_8.length l1_8) (hc1_8 : l1_8.length ≤ c1_8) (hr1_9 : Kd.C k152 w A1_9 l1_9.length l1_9) (hc1_9 : l1_9.length ≤ c1_9) (hr1_10 : Kd.C k155 w A1_10 l1_10.length l1_10) (hc1_10 : l1_10.length ≤ c1_10) (hr1_12 : Kd.C (Kd.int .i64) w A1_12 l1_12.length l1_12) (hc1_12 : l1_12.length ≤ c1_12) (h : laws_eqConsole.f k l0_0 a0_1 a0_2 a0_3 l0_4 a0_5 l0_6 l0_7 l0_8 l0_9 l0_10 a0_11 l0_12 l1_0 a1_1 a1_2 a1_3 l1_4 a1_5 l1_6 l1_7 l1_8 l1_9 l1_10 a1_11 l1_12 = some r) :
    Calls Try.prog 38 #[.agg #[.slice A0_0 l0_0.length c0_0, .int .i64 a0_1, .int .i64 a0_2, .int .i64 a0_3, .slice A0_4 l0_4.length c0_4, .bool a0_5, .slice A0_6 l0_6.length c0_6, .slice A0_7 l0_7.length c0_7, .slice A0_8 l0_8.length c0_8, .slice A0_9 l0_9.length c0_9, .slice A0_10 l0_10.length c0_10, .int .i64 a0_11, .slice A0_12 l0_12.length c0_12], .agg #[.slice A1_0 l1_0.length c1_0, .int .i64 a1_1, .int .i64 a1_2, .int .i64 a1_3, .slice A1_4 l1_4.length c1_4, .bool a1_5, .slice A1_6 l1_6.length c1_6, .slice A1_7 l1_7.length c1_7, .slice A1_8 l1_8.length c1_8, .slice A1_9 l1_9.length c1_9, .slice A1_10 l1_10.length c1_10, .int .i64 a1_11, .slice A1_12 l1_12.length c1_12]] w fun e w' => e = .returned (.bool r) ∧ Below w.heap.size w w' := by
  have hu73 := Try.underlying73
  have hu29 := Try.underlying29
  have hu71 := Try.underlying71
  have HR0_0 := Aside0.mk hr0_0
  have HC0_0 := Aside0.mk hc0_0
  clear hr0_0 hc0_0
  have HR0_4 := Aside0.mk hr0_4
  have HC0_4 := Aside0.mk hc0_4
  clear hr0_4 hc0_4
  have HR0_6 := Aside0.mk hr0_6
  have HC0_6 := Aside0.mk hc0_6
  clear hr0_6 hc0_6
  have HR0_7 := Aside0.mk hr0_7
  have HC0_7 := Aside0.mk hc0_7
  clear hr0_7 hc0_7
  have HR0_8 := Aside0.mk hr0_8
  have HC0_8 := Aside0.mk hc0_8
  clear hr0_8 hc0_8
  have HR0_9 := Aside0.mk hr0_9
  have HC0_9 := Aside0.mk hc0_9
  clear hr0_9 hc0_9
  have HR0_10 := Aside0.mk hr0_10
  have HC0_10 := Aside0.mk hc0_10
  clear hr0_10 hc0_10
  have HR0_12 := Aside0.mk hr0_12
  have HC0_12 := Aside0.mk hc0_12
  clear hr0_12 hc0_12
  have HR1_0 := Aside0.mk hr1_0
  have HC1_0 := Aside0.mk hc1_0
  clear hr1_0 hc1_0
  have HR1_4 := Aside0.mk hr1_4
  have HC1_4 := Aside0.mk hc1_4
  clear hr1_4 hc1_4
  have HR1_6 := Aside0.mk hr1_6
  have HC1_6 := Aside0.mk hc1_6
  clear hr1_6 hc1_6
  have HR1_7 := Aside0.mk hr1_7
  have HC1_7 := Aside0.mk hc1_7
  clear hr1_7 hc1_7
  have HR1_8 := Aside0.mk hr1_8
  have HC1_8 := Aside0.mk hc1_8
  clear hr1_8 hc1_8
  have HR1_9 := Aside0.mk hr1_9
  have HC1_9 := Aside0.mk hc1_9
  clear hr1_9 hc1_9
  have HR1_10 := Aside0.mk hr1_10
  have HC1_10 := Aside0.mk hc1_10
  clear hr1_10 hc1_10
  have HR1_12 := Aside0.mk hr1_12
  have HC1_12 := Aside0.mk hc1_12
  clear hr1_12 hc1_12
  have HB := Aside0.mk (Below.refl w.heap.size w)
  have H : ((laws_eqBook.f k l0_0 a0_1 a0_2 a0_3 l0_4 a0_5 l0_6 l0_7 l0_8 l1_0 a1_1 a1_2 a1_3 l1_4 a1_5 l1_6 l1_7 l1_8).bind fun t841 => (if t841 = true then ((laws_eqNoteS.f k l0_9 l1_9).bind fun t842 => (if t842 = true then ((laws_eqSentS.f k l0_10 l1_10).bind fun t843 => (if t843 = true then ((laws_eqCup.f k a0_11 l0_12 a1_11 l1_12).bind fun t844 => (if t844 = true then (some true) else (some false))) else (some false))) else (some false))) else (some false))) = some r := h
  clear h
  replace H := Option.bind_eq_some_iff.mp H
  obtain ⟨t841, A30, H⟩ := H
  replace H : (if t841 = true then ((laws_eqNoteS.f k l0_9 l1_9).bind fun t842 => (if t842 = true then ((laws_eqSentS.f k l0_10 l1_10).bind fun t843 => (if t843 = true then ((laws_eqCup.f k a0_11 l0_12 a1_11 l1_12).bind fun t844 => (if t844 = true then (some true) else (some false))) else (some false))) else (some false))) else (some false)) = some r := H
  have A3 := Aside0.mk A30
  clear A30
  by_cases c4 : t841 = true
  · subst c4
    have H1 : ((laws_eqNoteS.f k l0_9 l1_9).bind fun t842 => (if t842 = true then ((laws_eqSentS.f k l0_10 l1_10).bind fun t843 => (if t843 = true then ((laws_eqCup.f k a0_11 l0_12 a1_11 l1_12).bind fun t844 => (if t844 = true then (some true) else (some false))) else (some false))) else (some false))) = some r := by rw [if_pos rfl] at H; exact H
    clear H
    have H := H1
    clear H1
    replace H := Option.bind_eq_some_iff.mp H
    obtain ⟨t842, A50, H⟩ := H
    replace H : (if t842 = true then ((laws_eqSentS.f k l0_10 l1_10).bind fun t843 => (if t843 = true then ((laws_eqCup.f k a0_11 l0_12 a1_11 l1_12).bind fun t844 => (if t844 = true then (some true) else (some false))) else (some false))) else (some false)) = some r := H
    have A5 := Aside0.mk A50
    clear A50
    by_cases c6 : t842 = true
    · subst c6
      have H1 : ((laws_eqSentS.f k l0_10 l1_10).bind fun t843 => (if t843 = true then ((laws_eqCup.f k a0_11 l0_12 a1_11 l1_12).bind fun t844 => (if t844 = true then (some true) else (some false))) else (some false))) = some r := by rw [if_pos rfl] at H; exact H
      clear H
      have H := H1
      clear H1
      replace H := Option.bind_eq_some_iff.mp H
      obtain ⟨t843, A70, H⟩ := H
      replace H : (if t843 = true then ((laws_eqCup.f k a0_11 l0_12 a1_11 l1_12).bind fun t844 => (if t844 = true then (some true) else (some false))) else (some false)) = some r := H
      have A7 := Aside0.mk A70
      clear A70
      by_cases c8 : t843 = true
      · subst c8
        have H1 : ((laws_eqCup.f k a0_11 l0_12 a1_11 l1_12).bind fun t844 => (if t844 = true then (some true) else (some false))) = some r := by rw [if_pos rfl] at H; exact H
        clear H
        have H := H1
        clear H1
        replace H := Option.bind_eq_some_iff.mp H
        obtain ⟨t844, A90, H⟩ := H
        replace H : (if t844 = true then (some true) else (some false)) = some r := H
        have A9 := Aside0.mk A90
        clear A90
        by_cases c10 : t844 = true
        · subst c10
          have H1 : (some true) = some r := by rw [if_pos rfl] at H; exact H
          clear H
          have H := H1
          clear H1
          obtain rfl := Option.some.inj H
          go_enter Try.func38, Try.ntmps38
          go_wp2_with (first | ((with_reducible refine gate_dst (N := 2) rfl ?_); refine bx (N := 2) (cs := #[.slice A0_0 l0_0.length c0_0, .int .i64 a0_1, .int .i64 a0_2, .int .i64 a0_3, .slice A0_4 l0_4.length c0_4, .bool a0_5, .slice A0_6 l0_6.length c0_6, .slice A0_7 l0_7.length c0_7, .slice A0_8 l0_8.length c0_8, .slice A0_9 l0_9.length c0_9, .slice A0_10 l0_10.length c0_10, .int .i64 a0_11, .slice A0_12 l0_12.length c0_12]) (t := 73) ?_; intro gb839 hg w11 hbox hb; have BK839 := Aside0.mk (hbox); have GW839 := gs hg HB; have GE839 := gs hg HB; replace HB := hs_ HB hb; clear hb hbox hg) | ((with_reducible refine gate_dst (N := 3) rfl ?_); refine bx (N := 3) (cs := #[.slice A1_0 l1_0.length c1_0, .int .i64 a1_1, .int .i64 a1_2, .int .i64 a1_3, .slice A1_4 l1_4.length c1_4, .bool a1_5, .slice A1_6 l1_6.length c1_6, .slice A1_7 l1_7.length c1_7, .slice A1_8 l1_8.length c1_8, .slice A1_9 l1_9.length c1_9, .slice A1_10 l1_10.length c1_10, .int .i64 a1_11, .slice A1_12 l1_12.length c1_12]) (t := 73) ?_; intro gb840 hg w12 hbox hb; have BK840 := Aside0.mk (hbox); have GW840 := gs hg HB; have GE840 := gs hg HB; replace HB := hs_ HB hb; have NB839_840 := gn hg BK839; have NB840_839 := gm hg BK839; replace BK839 := kb BK839 hb; clear hb hbox hg; have hnb13 := NB839_840.out; have hnc13 := NB840_839.out; have hcz14_0 : w12.cell? ⟨gb839, 0, none⟩ = some (.slice A0_0 l0_0.length c0_0) := (blk_cell BK839.out 0).trans rfl; have hcz14_1 : w12.cell? ⟨gb839, 1, none⟩ = some (.int .i64 a0_1) := (blk_cell BK839.out 1).trans rfl; have hcz14_2 : w12.cell? ⟨gb839, 2, none⟩ = some (.int .i64 a0_2) := (blk_cell BK839.out 2).trans rfl; have hcz14_3 : w12.cell? ⟨gb839, 3, none⟩ = some (.int .i64 a0_3) := (blk_cell BK839.out 3).trans rfl; have hcz14_4 : w12.cell? ⟨gb839, 4, none⟩ = some (.slice A0_4 l0_4.length c0_4) := (blk_cell BK839.out 4).trans rfl; have hcz14_5 : w12.cell? ⟨gb839, 5, none⟩ = some (.bool a0_5) := (blk_cell BK839.out 5).trans rfl; have hcz14_6 : w12.cell? ⟨gb839, 6, none⟩ = some (.slice A0_6 l0_6.length c0_6) := (blk_cell BK839.out 6).trans rfl; have hcz14_7 : w12.cell? ⟨gb839, 7, none⟩ = some (.slice A0_7 l0_7.length c0_7) := (blk_cell BK839.out 7).trans rfl; have hcz14_8 : w12.cell? ⟨gb839, 8, none⟩ = some (.slice A0_8 l0_8.length c0_8) := (blk_cell BK839.out 8).trans rfl; have hcz14_9 : w12.cell? ⟨gb839, 9, none⟩ = some (.slice A0_9 l0_9.length c0_9) := (blk_cell BK839.out 9).trans rfl; have hcz14_10 : w12.cell? ⟨gb839, 10, none⟩ = some (.slice A0_10 l0_10.length c0_10) := (blk_cell BK839.out 10).trans rfl; have hcz14_11 : w12.cell? ⟨gb839, 11, none⟩ = some (.int .i64 a0_11) := (blk_cell BK839.out 11).trans rfl; have hcz14_12 : w12.cell? ⟨gb839, 12, none⟩ = some (.slice A0_12 l0_12.length c0_12) := (blk_cell BK839.out 12).trans rfl; have hfz14_0 := blk_frozen BK839.out 0; have hfz14_1 := blk_frozen BK839.out 1; have hfz14_2 := blk_frozen BK839.out 2; have hfz14_3 := blk_frozen BK839.out 3; have hfz14_4 := blk_frozen BK839.out 4; have hfz14_5 := blk_frozen BK839.out 5; have hfz14_6 := blk_frozen BK839.out 6; have hfz14_7 := blk_frozen BK839.out 7; have hfz14_8 := blk_frozen BK839.out 8; have hfz14_9 := blk_frozen BK839.out 9; have hfz14_10 := blk_frozen BK839.out 10; have hfz14_11 := blk_frozen BK839.out 11; have hfz14_12 := blk_frozen BK839.out 12; have hcz15_0 : w12.cell? ⟨gb840, 0, none⟩ = some (.slice A1_0 l1_0.length c1_0) := (blk_cell BK840.out 0).trans rfl; have hcz15_1 : w12.cell? ⟨gb840, 1, none⟩ = some (.int .i64 a1_1) := (blk_cell BK840.out 1).trans rfl; have hcz15_2 : w12.cell? ⟨gb840, 2, none⟩ = some (.int .i64 a1_2) := (blk_cell BK840.out 2).trans rfl; have hcz15_3 : w12.cell? ⟨gb840, 3, none⟩ = some (.int .i64 a1_3) := (blk_cell BK840.out 3).trans rfl; have hcz15_4 : w12.cell? ⟨gb840, 4, none⟩ = some (.slice A1_4 l1_4.length c1_4) := (blk_cell BK840.out 4).trans rfl; have hcz15_5 : w12.cell? ⟨gb840, 5, none⟩ = some (.bool a1_5) := (blk_cell BK840.out 5).trans rfl; have hcz15_6 : w12.cell? ⟨gb840, 6, none⟩ = some (.slice A1_6 l1_6.length c1_6) := (blk_cell BK840.out 6).trans rfl; have hcz15_7 : w12.cell? ⟨gb840, 7, none⟩ = some (.slice A1_7 l1_7.length c1_7) := (blk_cell BK840.out 7).trans rfl; have hcz15_8 : w12.cell? ⟨gb840, 8, none⟩ = some (.slice A1_8 l1_8.length c1_8) := (blk_cell BK840.out 8).trans rfl; have hcz15_9 : w12.cell? ⟨gb840, 9, none⟩ = some (.slice A1_9 l1_9.length c1_9) := (blk_cell BK840.out 9).trans rfl; have hcz15_10 : w12.cell? ⟨gb840, 10, none⟩ = some (.slice A1_10 l1_10.length c1_10) := (blk_cell BK840.out 10).trans rfl; have hcz15_11 : w12.cell? ⟨gb840, 11, none⟩ = some (.int .i64 a1_11) := (blk_cell BK840.out 11).trans rfl; have hcz15_12 : w12.cell? ⟨gb840, 12, none⟩ = some (.slice A1_12 l1_12.length c1_12) := (blk_cell BK840.out 12).trans rfl; have hfz15_0 := blk_frozen BK840.out 0; have hfz15_1 := blk_frozen BK840.out 1; have hfz15_2 := blk_frozen BK840.out 2; have hfz15_3 := blk_frozen BK840.out 3; have hfz15_4 := blk_frozen BK840.out 4; have hfz15_5 := blk_frozen BK840.out 5; have hfz15_6 := blk_frozen BK840.out 6; have hfz15_7 := blk_frozen BK840.out 7; have hfz15_8 := blk_frozen BK840.out 8; have hfz15_9 := blk_frozen BK840.out 9; have hfz15_10 := blk_frozen BK840.out 10; have hfz15_11 := blk_frozen BK840.out 11; have hfz15_12 := blk_frozen BK840.out 12) | ((with_reducible refine gate_callee (f := 83) rfl ?_); refine gl (some 9) Try.func83 #[.agg #[.slice A0_0 l0_0.length c0_0, .int .i64 a0_1, .int .i64 a0_2, .int .i64 a0_3, .slice A0_4 l0_4.length c0_4, .bool a0_5, .slice A0_6 l0_6.length c0_6, .slice A0_7 l0_7.length c0_7, .slice A0_8 l0_8.length c0_8], .agg #[.slice A1_0 l1_0.length c1_0, .int .i64 a1_1, .int .i64 a1_2, .int .i64 a1_3, .slice A1_4 l1_4.length c1_4, .bool a1_5, .slice A1_6 l1_6.length c1_6, .slice A1_7 l1_7.length c1_7, .slice A1_8 l1_8.length c1_8]] ?_; (with_reducible refine (laws_eqBook.calls k _ _ l0_0 a0_1 a0_2 a0_3 _ _ l0_4 a0_5 _ _ l0_6 _ _ l0_7 _ _ l0_8 _ _ l1_0 a1_1 a1_2 a1_3 _ _ l1_4 a1_5 _ _ l1_6 _ _ l1_7 _ _ l1_8 true _ ?side1 ?side2 ?side3 ?side4 ?side5 ?side6 ?side7 ?side8 ?side9 ?side10 ?side11 ?side12 ?side13 ?side14 ?side15 ?side16 ?side17 ?side18 ?side19 ?side20 A3.out).mono ?_); (case side1 => exact cc HR0_0 HB); (case side2 => exact HC0_0.out); (case side3 => exact cc HR0_4 HB); (case side4 => exact HC0_4.out); (case side5 => exact cc HR0_6 HB); (case side6 => exact HC0_6.out); (case side7 => exact cc HR0_7 HB); (case side8 => exact HC0_7.out); (case side9 => exact cc HR0_8 HB); (case side10 => exact HC0_8.out); (case side11 => exact cc HR1_0 HB); (case side12 => exact HC1_0.out); (case side13 => exact cc HR1_4 HB); (case side14 => exact HC1_4.out); (case side15 => exact cc HR1_6 HB); (case side16 => exact HC1_6.out); (case side17 => exact cc HR1_7 HB); (case side18 => exact HC1_7.out); (case side19 => exact cc HR1_8 HB); (case side20 => exact HC1_8.out); rintro e w16 ⟨rfl, hb⟩; refine ⟨_, rfl, ?_⟩; replace BK839 := kb BK839 hb; replace BK840 := kb BK840 hb; replace HB := hs_ HB hb; (try clear hb); (try clear hb2); (try clear hk); (try clear hi); have hcz17_0 : w16.cell? ⟨gb839, 0, none⟩ = some (.slice A0_0 l0_0.length c0_0) := (blk_cell BK839.out 0).trans rfl; have hcz17_1 : w16.cell? ⟨gb839, 1, none⟩ = some (.int .i64 a0_1) := (blk_cell BK839.out 1).trans rfl; have hcz17_2 : w16.cell? ⟨gb839, 2, none⟩ = some (.int .i64 a0_2) := (blk_cell BK839.out 2).trans rfl; have hcz17_3 : w16.cell? ⟨gb839, 3, none⟩ = some (.int .i64 a0_3) := (blk_cell BK839.out 3).trans rfl; have hcz17_4 : w16.cell? ⟨gb839, 4, none⟩ = some (.slice A0_4 l0_4.length c0_4) := (blk_cell BK839.out 4).trans rfl; have hcz17_5 : w16.cell? ⟨gb839, 5, none⟩ = some (.bool a0_5) := (blk_cell BK839.out 5).trans rfl; have hcz17_6 : w16.cell? ⟨gb839, 6, none⟩ = some (.slice A0_6 l0_6.length c0_6) := (blk_cell BK839.out 6).trans rfl; have hcz17_7 : w16.cell? ⟨gb839, 7, none⟩ = some (.slice A0_7 l0_7.length c0_7) := (blk_cell BK839.out 7).trans rfl; have hcz17_8 : w16.cell? ⟨gb839, 8, none⟩ = some (.slice A0_8 l0_8.length c0_8) := (blk_cell BK839.out 8).trans rfl; have hcz17_9 : w16.cell? ⟨gb839, 9, none⟩ = some (.slice A0_9 l0_9.length c0_9) := (blk_cell BK839.out 9).trans rfl; have hcz17_10 : w16.cell? ⟨gb839, 10, none⟩ = some (.slice A0_10 l0_10.length c0_10) := (blk_cell BK839.out 10).trans rfl; have hcz17_11 : w16.cell? ⟨gb839, 11, none⟩ = some (.int .i64 a0_11) := (blk_cell BK839.out 11).trans rfl; have hcz17_12 : w16.cell? ⟨gb839, 12, none⟩ = some (.slice A0_12 l0_12.length c0_12) := (blk_cell BK839.out 12).trans rfl; have hfz17_0 := blk_frozen BK839.out 0; have hfz17_1 := blk_frozen BK839.out 1; have hfz17_2 := blk_frozen BK839.out 2; have hfz17_3 := blk_frozen BK839.out 3; have hfz17_4 := blk_frozen BK839.out 4; have hfz17_5 := blk_frozen BK839.out 5; have hfz17_6 := blk_frozen BK839.out 6; have hfz17_7 := blk_frozen BK839.out 7; have hfz17_8 := blk_frozen BK839.out 8; have hfz17_9 := blk_frozen BK839.out 9; have hfz17_10 := blk_frozen BK839.out 10; have hfz17_11 := blk_frozen BK839.out 11; have hfz17_12 := blk_frozen BK839.out 12; have hcz18_0 : w16.cell? ⟨gb840, 0, none⟩ = some (.slice A1_0 l1_0.length c1_0) := (blk_cell BK840.out 0).trans rfl; have hcz18_1 : w16.cell? ⟨gb840, 1, none⟩ = some (.int .i64 a1_1) := (blk_cell BK840.out 1).trans rfl; have hcz18_2 : w16.cell? ⟨gb840, 2, none⟩ = some (.int .i64 a1_2) := (blk_cell BK840.out 2).trans rfl; have hcz18_3 : w16.cell? ⟨gb840, 3, none⟩ = some (.int .i64 a1_3) := (blk_cell BK840.out 3).trans rfl; have hcz18_4 : w16.cell? ⟨gb840, 4, none⟩ = some (.slice A1_4 l1_4.length c1_4) := (blk_cell BK840.out 4).trans rfl; have hcz18_5 : w16.cell? ⟨gb840, 5, none⟩ = some (.bool a1_5) := (blk_cell BK840.out 5).trans rfl; have hcz18_6 : w16.cell? ⟨gb840, 6, none⟩ = some (.slice A1_6 l1_6.length c1_6) := (blk_cell BK840.out 6).trans rfl; have hcz18_7 : w16.cell? ⟨gb840, 7, none⟩ = some (.slice A1_7 l1_7.length c1_7) := (blk_cell BK840.out 7).trans rfl; have hcz18_8 : w16.cell? ⟨gb840, 8, none⟩ = some (.slice A1_8 l1_8.length c1_8) := (blk_cell BK840.out 8).trans rfl; have hcz18_9 : w16.cell? ⟨gb840, 9, none⟩ = some (.slice A1_9 l1_9.length c1_9) := (blk_cell BK840.out 9).trans rfl; have hcz18_10 : w16.cell? ⟨gb840, 10, none⟩ = some (.slice A1_10 l1_10.length c1_10) := (blk_cell BK840.out 10).trans rfl; have hcz18_11 : w16.cell? ⟨gb840, 11, none⟩ = some (.int .i64 a1_11) := (blk_cell BK840.out 11).trans rfl; have hcz18_12 : w16.cell? ⟨gb840, 12, none⟩ = some (.slice A1_12 l1_12.length c1_12) := (blk_cell BK840.out 12).trans rfl; have hfz18_0 := blk_frozen BK840.out 0; have hfz18_1 := blk_frozen BK840.out 1; have hfz18_2 := blk_frozen BK840.out 2; have hfz18_3 := blk_frozen BK840.out 3; have hfz18_4 := blk_frozen BK840.out 4; have hfz18_5 := blk_frozen BK840.out 5; have hfz18_6 := blk_frozen BK840.out 6; have hfz18_7 := blk_frozen BK840.out 7; have hfz18_8 := blk_frozen BK840.out 8; have hfz18_9 := blk_frozen BK840.out 9; have hfz18_10 := blk_frozen BK840.out 10; have hfz18_11 := blk_frozen BK840.out 11; have hfz18_12 := blk_frozen BK840.out 12) | ((with_reducible refine gate_callee (f := 84) rfl ?_); refine gl (some 15) Try.func84 #[.slice A0_9 l0_9.length c0_9, .slice A1_9 l1_9.length c1_9] ?_; (with_reducible refine (laws_eqNoteS.calls k _ _ l0_9 _ _ l1_9 true _ ?side1 ?side2 ?side3 ?side4 A5.out).mono ?_); (case side1 => exact cc HR0_9 HB); (case side2 => exact HC0_9.out); (case side3 => exact cc HR1_9 HB); (case side4 => exact HC1_9.out); rintro e w19 ⟨rfl, hb⟩; refine ⟨_, rfl, ?_⟩; replace BK839 := kb BK839 hb; replace BK840 := kb BK840 hb; replace HB := hs_ HB hb; (try clear hb); (try clear hb2); (try clear hk); (try clear hi); have hcz20_0 : w19.cell? ⟨gb839, 0, none⟩ = some (.slice A0_0 l0_0.length c0_0) := (blk_cell BK839.out 0).trans rfl; have hcz20_1 : w19.cell? ⟨gb839, 1, none⟩ = some (.int .i64 a0_1) := (blk_cell BK839.out 1).trans rfl; have hcz20_2 : w19.cell? ⟨gb839, 2, none⟩ = some (.int .i64 a0_2) := (blk_cell BK839.out 2).trans rfl; have hcz20_3 : w19.cell? ⟨gb839, 3, none⟩ = some (.int .i64 a0_3) := (blk_cell BK839.out 3).trans rfl; have hcz20_4 : w19.cell? ⟨gb839, 4, none⟩ = some (.slice A0_4 l0_4.length c0_4) := (blk_cell BK839.out 4).trans rfl; have hcz20_5 : w19.cell? ⟨gb839, 5, none⟩ = some (.bool a0_5) := (blk_cell BK839.out 5).trans rfl; have hcz20_6 : w19.cell? ⟨gb839, 6, none⟩ = some (.slice A0_6 l0_6.length c0_6) := (blk_cell BK839.out 6).trans rfl; have hcz20_7 : w19.cell? ⟨gb839, 7, none⟩ = some (.slice A0_7 l0_7.length c0_7) := (blk_cell BK839.out 7).trans rfl; have hcz20_8 : w19.cell? ⟨gb839, 8, none⟩ = some (.slice A0_8 l0_8.length c0_8) := (blk_cell BK839.out 8).trans rfl; have hcz20_9 : w19.cell? ⟨gb839, 9, none⟩ = some (.slice A0_9 l0_9.length c0_9) := (blk_cell BK839.out 9).trans rfl; have hcz20_10 : w19.cell? ⟨gb839, 10, none⟩ = some (.slice A0_10 l0_10.length c0_10) := (blk_cell BK839.out 10).trans rfl; have hcz20_11 : w19.cell? ⟨gb839, 11, none⟩ = some (.int .i64 a0_11) := (blk_cell BK839.out 11).trans rfl; have hcz20_12 : w19.cell? ⟨gb839, 12, none⟩ = some (.slice A0_12 l0_12.length c0_12) := (blk_cell BK839.out 12).trans rfl; have hfz20_0 := blk_frozen BK839.out 0; have hfz20_1 := blk_frozen BK839.out 1; have hfz20_2 := blk_frozen BK839.out 2; have hfz20_3 := blk_frozen BK839.out 3; have hfz20_4 := blk_frozen BK839.out 4; have hfz20_5 := blk_frozen BK839.out 5; have hfz20_6 := blk_frozen BK839.out 6; have hfz20_7 := blk_frozen BK839.out 7; have hfz20_8 := blk_frozen BK839.out 8; have hfz20_9 := blk_frozen BK839.out 9; have hfz20_10 := blk_frozen BK839.out 10; have hfz20_11 := blk_frozen BK839.out 11; have hfz20_12 := blk_frozen BK839.out 12; have hcz21_0 : w19.cell? ⟨gb840, 0, none⟩ = some (.slice A1_0 l1_0.length c1_0) := (blk_cell BK840.out 0).trans rfl; have hcz21_1 : w19.cell? ⟨gb840, 1, none⟩ = some (.int .i64 a1_1) := (blk_cell BK840.out 1).trans rfl; have hcz21_2 : w19.cell? ⟨gb840, 2, none⟩ = some (.int .i64 a1_2) := (blk_cell BK840.out 2).trans rfl; have hcz21_3 : w19.cell? ⟨gb840, 3, none⟩ = some (.int .i64 a1_3) := (blk_cell BK840.out 3).trans rfl; have hcz21_4 : w19.cell? ⟨gb840, 4, none⟩ = some (.slice A1_4 l1_4.length c1_4) := (blk_cell BK840.out 4).trans rfl; have hcz21_5 : w19.cell? ⟨gb840, 5, none⟩ = some (.bool a1_5) := (blk_cell BK840.out 5).trans rfl; have hcz21_6 : w19.cell? ⟨gb840, 6, none⟩ = some (.slice A1_6 l1_6.length c1_6) := (blk_cell BK840.out 6).trans rfl; have hcz21_7 : w19.cell? ⟨gb840, 7, none⟩ = some (.slice A1_7 l1_7.length c1_7) := (blk_cell BK840.out 7).trans rfl; have hcz21_8 : w19.cell? ⟨gb840, 8, none⟩ = some (.slice A1_8 l1_8.length c1_8) := (blk_cell BK840.out 8).trans rfl; have hcz21_9 : w19.cell? ⟨gb840, 9, none⟩ = some (.slice A1_9 l1_9.length c1_9) := (blk_cell BK840.out 9).trans rfl; have hcz21_10 : w19.cell? ⟨gb840, 10, none⟩ = some (.slice A1_10 l1_10.length c1_10) := (blk_cell BK840.out 10).trans rfl; have hcz21_11 : w19.cell? ⟨gb840, 11, none⟩ = some (.int .i64 a1_11) := (blk_cell BK840.out 11).trans rfl; have hcz21_12 : w19.cell? ⟨gb840, 12, none⟩ = some (.slice A1_12 l1_12.length c1_12) := (blk_cell BK840.out 12).trans rfl; have hfz21_0 := blk_frozen BK840.out 0; have hfz21_1 := blk_frozen BK840.out 1; have hfz21_2 := blk_frozen BK840.out 2; have hfz21_3 := blk_frozen BK840.out 3; have hfz21_4 := blk_frozen BK840.out 4; have hfz21_5 := blk_frozen BK840.out 5; have hfz21_6 := blk_frozen BK840.out 6; have hfz21_7 := blk_frozen BK840.out 7; have hfz21_8 := blk_frozen BK840.out 8; have hfz21_9 := blk_frozen BK840.out 9; have hfz21_10 := blk_frozen BK840.out 10; have hfz21_11 := blk_frozen BK840.out 11; have hfz21_12 := blk_frozen BK840.out 12) | ((with_reducible refine gate_callee (f := 85) rfl ?_); refine gl (some 21) Try.func85 #[.slice A0_10 l0_10.length c0_10, .slice A1_10 l1_10.length c1_10] ?_; (with_reducible refine (laws_eqSentS.calls k _ _ l0_10 _ _ l1_10 true _ ?side1 ?side2 ?side3 ?side4 A7.out).mono ?_); (case side1 => exact cc HR0_10 HB); (case side2 => exact HC0_10.out); (case side3 => exact cc HR1_10 HB); (case side4 => exact HC1_10.out); rintro e w22 ⟨rfl, hb⟩; refine ⟨_, rfl, ?_⟩; replace BK839 := kb BK839 hb; replace BK840 := kb BK840 hb; replace HB := hs_ HB hb; (try clear hb); (try clear hb2); (try clear hk); (try clear hi); have hcz23_0 : w22.cell? ⟨gb839, 0, none⟩ = some (.slice A0_0 l0_0.length c0_0) := (blk_cell BK839.out 0).trans rfl; have hcz23_1 : w22.cell? ⟨gb839, 1, none⟩ = some (.int .i64 a0_1) := (blk_cell BK839.out 1).trans rfl; have hcz23_2 : w22.cell? ⟨gb839, 2, none⟩ = some (.int .i64 a0_2) := (blk_cell BK839.out 2).trans rfl; have hcz23_3 : w22.cell? ⟨gb839, 3, none⟩ = some (.int .i64 a0_3) := (blk_cell BK839.out 3).trans rfl; have hcz23_4 : w22.cell? ⟨gb839, 4, none⟩ = some (.slice A0_4 l0_4.length c0_4) := (blk_cell BK839.out 4).trans rfl; have hcz23_5 : w22.cell? ⟨gb839, 5, none⟩ = some (.bool a0_5) := (blk_cell BK839.out 5).trans rfl; have hcz23_6 : w22.cell? ⟨gb839, 6, none⟩ = some (.slice A0_6 l0_6.length c0_6) := (blk_cell BK839.out 6).trans rfl; have hcz23_7 : w22.cell? ⟨gb839, 7, none⟩ = some (.slice A0_7 l0_7.length c0_7) := (blk_cell BK839.out 7).trans rfl; have hcz23_8 : w22.cell? ⟨gb839, 8, none⟩ = some (.slice A0_8 l0_8.length c0_8) := (blk_cell BK839.out 8).trans rfl; have hcz23_9 : w22.cell? ⟨gb839, 9, none⟩ = some (.slice A0_9 l0_9.length c0_9) := (blk_cell BK839.out 9).trans rfl; have hcz23_10 : w22.cell? ⟨gb839, 10, none⟩ = some (.slice A0_10 l0_10.length c0_10) := (blk_cell BK839.out 10).trans rfl; have hcz23_11 : w22.cell? ⟨gb839, 11, none⟩ = some (.int .i64 a0_11) := (blk_cell BK839.out 11).trans rfl; have hcz23_12 : w22.cell? ⟨gb839, 12, none⟩ = some (.slice A0_12 l0_12.length c0_12) := (blk_cell BK839.out 12).trans rfl; have hfz23_0 := blk_frozen BK839.out 0; have hfz23_1 := blk_frozen BK839.out 1; have hfz23_2 := blk_frozen BK839.out 2; have hfz23_3 := blk_frozen BK839.out 3; have hfz23_4 := blk_frozen BK839.out 4; have hfz23_5 := blk_frozen BK839.out 5; have hfz23_6 := blk_frozen BK839.out 6; have hfz23_7 := blk_frozen BK839.out 7; have hfz23_8 := blk_frozen BK839.out 8; have hfz23_9 := blk_frozen BK839.out 9; have hfz23_10 := blk_frozen BK839.out 10; have hfz23_11 := blk_frozen BK839.out 11; have hfz23_12 := blk_frozen BK839.out 12; have hcz24_0 : w22.cell? ⟨gb840, 0, none⟩ = some (.slice A1_0 l1_0.length c1_0) := (blk_cell BK840.out 0).trans rfl; have hcz24_1 : w22.cell? ⟨gb840, 1, none⟩ = some (.int .i64 a1_1) := (blk_cell BK840.out 1).trans rfl; have hcz24_2 : w22.cell? ⟨gb840, 2, none⟩ = some (.int .i64 a1_2) := (blk_cell BK840.out 2).trans rfl; have hcz24_3 : w22.cell? ⟨gb840, 3, none⟩ = some (.int .i64 a1_3) := (blk_cell BK840.out 3).trans rfl; have hcz24_4 : w22.cell? ⟨gb840, 4, none⟩ = some (.slice A1_4 l1_4.length c1_4) := (blk_cell BK840.out 4).trans rfl; have hcz24_5 : w22.cell? ⟨gb840, 5, none⟩ = some (.bool a1_5) := (blk_cell BK840.out 5).trans rfl; have hcz24_6 : w22.cell? ⟨gb840, 6, none⟩ = some (.slice A1_6 l1_6.length c1_6) := (blk_cell BK840.out 6).trans rfl; have hcz24_7 : w22.cell? ⟨gb840, 7, none⟩ = some (.slice A1_7 l1_7.length c1_7) := (blk_cell BK840.out 7).trans rfl; have hcz24_8 : w22.cell? ⟨gb840, 8, none⟩ = some (.slice A1_8 l1_8.length c1_8) := (blk_cell BK840.out 8).trans rfl; have hcz24_9 : w22.cell? ⟨gb840, 9, none⟩ = some (.slice A1_9 l1_9.length c1_9) := (blk_cell BK840.out 9).trans rfl; have hcz24_10 : w22.cell? ⟨gb840, 10, none⟩ = some (.slice A1_10 l1_10.length c1_10) := (blk_cell BK840.out 10).trans rfl; have hcz24_11 : w22.cell? ⟨gb840, 11, none⟩ = some (.int .i64 a1_11) := (blk_cell BK840.out 11).trans rfl; have hcz24_12 : w22.cell? ⟨gb840, 12, none⟩ = some (.slice A1_12 l1_12.length c1_12) := (blk_cell BK840.out 12).trans rfl; have hfz24_0 := blk_frozen BK840.out 0; have hfz24_1 := blk_frozen BK840.out 1; have hfz24_2 := blk_frozen BK840.out 2; have hfz24_3 := blk_frozen BK840.out 3; have hfz24_4 := blk_frozen BK840.out 4; have hfz24_5 := blk_frozen BK840.out 5; have hfz24_6 := blk_frozen BK840.out 6; have hfz24_7 := blk_frozen BK840.out 7; have hfz24_8 := blk_frozen BK840.out 8; have hfz24_9 := blk_frozen BK840.out 9; have hfz24_10 := blk_frozen BK840.out 10; have hfz24_11 := blk_frozen BK840.out 11; have hfz24_12 := blk_frozen BK840.out 12) | ((with_reducible refine gate_callee (f := 86) rfl ?_); refine gl (some 27) Try.func86 #[.agg #[.int .i64 a0_11, .slice A0_12 l0_12.length c0_12], .agg #[.int .i64 a1_11, .slice A1_12 l1_12.length c1_12]] ?_; (with_reducible refine (laws_eqCup.calls k a0_11 _ _ l0_12 a1_11 _ _ l1_12 true _ ?side1 ?side2 ?side3 ?side4 A9.out).mono ?_); (case side1 => exact cc HR0_12 HB); (case side2 => exact HC0_12.out); (case side3 => exact cc HR1_12 HB); (case side4 => exact HC1_12.out); rintro e w25 ⟨rfl, hb⟩; refine ⟨_, rfl, ?_⟩; replace BK839 := kb BK839 hb; replace BK840 := kb BK840 hb; replace HB := hs_ HB hb; (try clear hb); (try clear hb2); (try clear hk); (try clear hi)))
          go_ret
          exact ⟨ee, bb HB⟩
        · replace c10 := Bool.eq_false_iff.mpr c10
          subst c10
          have H1 : (some false) = some r := by rw [if_neg (show ¬ (false = true) by decide)] at H; exact H
          clear H
          have H := H1
          clear H1
          obtain rfl := Option.some.inj H
          go_enter Try.func38, Try.ntmps38
          go_wp2_with (first | ((with_reducible refine gate_dst (N := 2) rfl ?_); refine bx (N := 2) (cs := #[.slice A0_0 l0_0.length c0_0, .int .i64 a0_1, .int .i64 a0_2, .int .i64 a0_3, .slice A0_4 l0_4.length c0_4, .bool a0_5, .slice A0_6 l0_6.length c0_6, .slice A0_7 l0_7.length c0_7, .slice A0_8 l0_8.length c0_8, .slice A0_9 l0_9.length c0_9, .slice A0_10 l0_10.length c0_10, .int .i64 a0_11, .slice A0_12 l0_12.length c0_12]) (t := 73) ?_; intro gb839 hg w26 hbox hb; have BK839 := Aside0.mk (hbox); have GW839 := gs hg HB; have GE839 := gs hg HB; replace HB := hs_ HB hb; clear hb hbox hg) | ((with_reducible refine gate_dst (N := 3) rfl ?_); refine bx (N := 3) (cs := #[.slice A1_0 l1_0.length c1_0, .int .i64 a1_1, .int .i64 a1_2, .int .i64 a1_3, .slice A1_4 l1_4.length c1_4, .bool a1_5, .slice A1_6 l1_6.length c1_6, .slice A1_7 l1_7.length c1_7, .slice A1_8 l1_8.length c1_8, .slice A1_9 l1_9.length c1_9, .slice A1_10 l1_10.length c1_10, .int .i64 a1_11, .slice A1_12 l1_12.length c1_12]) (t := 73) ?_; intro gb840 hg w27 hbox hb; have BK840 := Aside0.mk (hbox); have GW840 := gs hg HB; have GE840 := gs hg HB; replace HB := hs_ HB hb; have NB839_840 := gn hg BK839; have NB840_839 := gm hg BK839; replace BK839 := kb BK839 hb; clear hb hbox hg; have hnb28 := NB839_840.out; have hnc28 := NB840_839.out; have hcz29_0 : w27.cell? ⟨gb839, 0, none⟩ = some (.slice A0_0 l0_0.length c0_0) := (blk_cell BK839.out 0).trans rfl; have hcz29_1 : w27.cell? ⟨gb839, 1, none⟩ = some (.int .i64 a0_1) := (blk_cell BK839.out 1).trans rfl; have hcz29_2 : w27.cell? ⟨gb839, 2, none⟩ = some (.int .i64 a0_2) := (blk_cell BK839.out 2).trans rfl; have hcz29_3 : w27.cell? ⟨gb839, 3, none⟩ = some (.int .i64 a0_3) := (blk_cell BK839.out 3).trans rfl; have hcz29_4 : w27.cell? ⟨gb839, 4, none⟩ = some (.slice A0_4 l0_4.length c0_4) := (blk_cell BK839.out 4).trans rfl; have hcz29_5 : w27.cell? ⟨gb839, 5, none⟩ = some (.bool a0_5) := (blk_cell BK839.out 5).trans rfl; have hcz29_6 : w27.cell? ⟨gb839, 6, none⟩ = some (.slice A0_6 l0_6.length c0_6) := (blk_cell BK839.out 6).trans rfl; have hcz29_7 : w27.cell? ⟨gb839, 7, none⟩ = some (.slice A0_7 l0_7.length c0_7) := (blk_cell BK839.out 7).trans rfl; have hcz29_8 : w27.cell? ⟨gb839, 8, none⟩ = some (.slice A0_8 l0_8.length c0_8) := (blk_cell BK839.out 8).trans rfl; have hcz29_9 : w27.cell? ⟨gb839, 9, none⟩ = some (.slice A0_9 l0_9.length c0_9) := (blk_cell BK839.out 9).trans rfl; have hcz29_10 : w27.cell? ⟨gb839, 10, none⟩ = some (.slice A0_10 l0_10.length c0_10) := (blk_cell BK839.out 10).trans rfl; have hcz29_11 : w27.cell? ⟨gb839, 11, none⟩ = some (.int .i64 a0_11) := (blk_cell BK839.out 11).trans rfl; have hcz29_12 : w27.cell? ⟨gb839, 12, none⟩ = some (.slice A0_12 l0_12.length c0_12) := (blk_cell BK839.out 12).trans rfl; have hfz29_0 := blk_frozen BK839.out 0; have hfz29_1 := blk_frozen BK839.out 1; have hfz29_2 := blk_frozen BK839.out 2; have hfz29_3 := blk_frozen BK839.out 3; have hfz29_4 := blk_frozen BK839.out 4; have hfz29_5 := blk_frozen BK839.out 5; have hfz29_6 := blk_frozen BK839.out 6; have hfz29_7 := blk_frozen BK839.out 7; have hfz29_8 := blk_frozen BK839.out 8; have hfz29_9 := blk_frozen BK839.out 9; have hfz29_10 := blk_frozen BK839.out 10; have hfz29_11 := blk_frozen BK839.out 11; have hfz29_12 := blk_frozen BK839.out 12; have hcz30_0 : w27.cell? ⟨gb840, 0, none⟩ = some (.slice A1_0 l1_0.length c1_0) := (blk_cell BK840.out 0).trans rfl; have hcz30_1 : w27.cell? ⟨gb840, 1, none⟩ = some (.int .i64 a1_1) := (blk_cell BK840.out 1).trans rfl; have hcz30_2 : w27.cell? ⟨gb840, 2, none⟩ = some (.int .i64 a1_2) := (blk_cell BK840.out 2).trans rfl; have hcz30_3 : w27.cell? ⟨gb840, 3, none⟩ = some (.int .i64 a1_3) := (blk_cell BK840.out 3).trans rfl; have hcz30_4 : w27.cell? ⟨gb840, 4, none⟩ = some (.slice A1_4 l1_4.length c1_4) := (blk_cell BK840.out 4).trans rfl; have hcz30_5 : w27.cell? ⟨gb840, 5, none⟩ = some (.bool a1_5) := (blk_cell BK840.out 5).trans rfl; have hcz30_6 : w27.cell? ⟨gb840, 6, none⟩ = some (.slice A1_6 l1_6.length c1_6) := (blk_cell BK840.out 6).trans rfl; have hcz30_7 : w27.cell? ⟨gb840, 7, none⟩ = some (.slice A1_7 l1_7.length c1_7) := (blk_cell BK840.out 7).trans rfl; have hcz30_8 : w27.cell? ⟨gb840, 8, none⟩ = some (.slice A1_8 l1_8.length c1_8) := (blk_cell BK840.out 8).trans rfl; have hcz30_9 : w27.cell? ⟨gb840, 9, none⟩ = some (.slice A1_9 l1_9.length c1_9) := (blk_cell BK840.out 9).trans rfl; have hcz30_10 : w27.cell? ⟨gb840, 10, none⟩ = some (.slice A1_10 l1_10.length c1_10) := (blk_cell BK840.out 10).trans rfl; have hcz30_11 : w27.cell? ⟨gb840, 11, none⟩ = some (.int .i64 a1_11) := (blk_cell BK840.out 11).trans rfl; have hcz30_12 : w27.cell? ⟨gb840, 12, none⟩ = some (.slice A1_12 l1_12.length c1_12) := (blk_cell BK840.out 12).trans rfl; have hfz30_0 := blk_frozen BK840.out 0; have hfz30_1 := blk_frozen BK840.out 1; have hfz30_2 := blk_frozen BK840.out 2; have hfz30_3 := blk_frozen BK840.out 3; have hfz30_4 := blk_frozen BK840.out 4; have hfz30_5 := blk_frozen BK840.out 5; have hfz30_6 := blk_frozen BK840.out 6; have hfz30_7 := blk_frozen BK840.out 7; have hfz30_8 := blk_frozen BK840.out 8; have hfz30_9 := blk_frozen BK840.out 9; have hfz30_10 := blk_frozen BK840.out 10; have hfz30_11 := blk_frozen BK840.out 11; have hfz30_12 := blk_frozen BK840.out 12) | ((with_reducible refine gate_callee (f := 83) rfl ?_); refine gl (some 9) Try.func83 #[.agg #[.slice A0_0 l0_0.length c0_0, .int .i64 a0_1, .int .i64 a0_2, .int .i64 a0_3, .slice A0_4 l0_4.length c0_4, .bool a0_5, .slice A0_6 l0_6.length c0_6, .slice A0_7 l0_7.length c0_7, .slice A0_8 l0_8.length c0_8], .agg #[.slice A1_0 l1_0.length c1_0, .int .i64 a1_1, .int .i64 a1_2, .int .i64 a1_3, .slice A1_4 l1_4.length c1_4, .bool a1_5, .slice A1_6 l1_6.length c1_6, .slice A1_7 l1_7.length c1_7, .slice A1_8 l1_8.length c1_8]] ?_; (with_reducible refine (laws_eqBook.calls k _ _ l0_0 a0_1 a0_2 a0_3 _ _ l0_4 a0_5 _ _ l0_6 _ _ l0_7 _ _ l0_8 _ _ l1_0 a1_1 a1_2 a1_3 _ _ l1_4 a1_5 _ _ l1_6 _ _ l1_7 _ _ l1_8 true _ ?side1 ?side2 ?side3 ?side4 ?side5 ?side6 ?side7 ?side8 ?side9 ?side10 ?side11 ?side12 ?side13 ?side14 ?side15 ?side16 ?side17 ?side18 ?side19 ?side20 A3.out).mono ?_); (case side1 => exact cc HR0_0 HB); (case side2 => exact HC0_0.out); (case side3 => exact cc HR0_4 HB); (case side4 => exact HC0_4.out); (case side5 => exact cc HR0_6 HB); (case side6 => exact HC0_6.out); (case side7 => exact cc HR0_7 HB); (case side8 => exact HC0_7.out); (case side9 => exact cc HR0_8 HB); (case side10 => exact HC0_8.out); (case side11 => exact cc HR1_0 HB); (case side12 => exact HC1_0.out); (case side13 => exact cc HR1_4 HB); (case side14 => exact HC1_4.out); (case side15 => exact cc HR1_6 HB); (case side16 => exact HC1_6.out); (case side17 => exact cc HR1_7 HB); (case side18 => exact HC1_7.out); (case side19 => exact cc HR1_8 HB); (case side20 => exact HC1_8.out); rintro e w31 ⟨rfl, hb⟩; refine ⟨_, rfl, ?_⟩; replace BK839 := kb BK839 hb; replace BK840 := kb BK840 hb; replace HB := hs_ HB hb; (try clear hb); (try clear hb2); (try clear hk); (try clear hi); have hcz32_0 : w31.cell? ⟨gb839, 0, none⟩ = some (.slice A0_0 l0_0.length c0_0) := (blk_cell BK839.out 0).trans rfl; have hcz32_1 : w31.cell? ⟨gb839, 1, none⟩ = some (.int .i64 a0_1) := (blk_cell BK839.out 1).trans rfl; have hcz32_2 : w31.cell? ⟨gb839, 2, none⟩ = some (.int .i64 a0_2) := (blk_cell BK839.out 2).trans rfl; have hcz32_3 : w31.cell? ⟨gb839, 3, none⟩ = some (.int .i64 a0_3) := (blk_cell BK839.out 3).trans rfl; have hcz32_4 : w31.cell? ⟨gb839, 4, none⟩ = some (.slice A0_4 l0_4.length c0_4) := (blk_cell BK839.out 4).trans rfl; have hcz32_5 : w31.cell? ⟨gb839, 5, none⟩ = some (.bool a0_5) := (blk_cell BK839.out 5).trans rfl; have hcz32_6 : w31.cell? ⟨gb839, 6, none⟩ = some (.slice A0_6 l0_6.length c0_6) := (blk_cell BK839.out 6).trans rfl; have hcz32_7 : w31.cell? ⟨gb839, 7, none⟩ = some (.slice A0_7 l0_7.length c0_7) := (blk_cell BK839.out 7).trans rfl; have hcz32_8 : w31.cell? ⟨gb839, 8, none⟩ = some (.slice A0_8 l0_8.length c0_8) := (blk_cell BK839.out 8).trans rfl; have hcz32_9 : w31.cell? ⟨gb839, 9, none⟩ = some (.slice A0_9 l0_9.length c0_9) := (blk_cell BK839.out 9).trans rfl; have hcz32_10 : w31.cell? ⟨gb839, 10, none⟩ = some (.slice A0_10 l0_10.length c0_10) := (blk_cell BK839.out 10).trans rfl; have hcz32_11 : w31.cell? ⟨gb839, 11, none⟩ = some (.int .i64 a0_11) := (blk_cell BK839.out 11).trans rfl; have hcz32_12 : w31.cell? ⟨gb839, 12, none⟩ = some (.slice A0_12 l0_12.length c0_12) := (blk_cell BK839.out 12).trans rfl; have hfz32_0 := blk_frozen BK839.out 0; have hfz32_1 := blk_frozen BK839.out 1; have hfz32_2 := blk_frozen BK839.out 2; have hfz32_3 := blk_frozen BK839.out 3; have hfz32_4 := blk_frozen BK839.out 4; have hfz32_5 := blk_frozen BK839.out 5; have hfz32_6 := blk_frozen BK839.out 6; have hfz32_7 := blk_frozen BK839.out 7; have hfz32_8 := blk_frozen BK839.out 8; have hfz32_9 := blk_frozen BK839.out 9; have hfz32_10 := blk_frozen BK839.out 10; have hfz32_11 := blk_frozen BK839.out 11; have hfz32_12 := blk_frozen BK839.out 12; have hcz33_0 : w31.cell? ⟨gb840, 0, none⟩ = some (.slice A1_0 l1_0.length c1_0) := (blk_cell BK840.out 0).trans rfl; have hcz33_1 : w31.cell? ⟨gb840, 1, none⟩ = some (.int .i64 a1_1) := (blk_cell BK840.out 1).trans rfl; have hcz33_2 : w31.cell? ⟨gb840, 2, none⟩ = some (.int .i64 a1_2) := (blk_cell BK840.out 2).trans rfl; have hcz33_3 : w31.cell? ⟨gb840, 3, none⟩ = some (.int .i64 a1_3) := (blk_cell BK840.out 3).trans rfl; have hcz33_4 : w31.cell? ⟨gb840, 4, none⟩ = some (.slice A1_4 l1_4.length c1_4) := (blk_cell BK840.out 4).trans rfl; have hcz33_5 : w31.cell? ⟨gb840, 5, none⟩ = some (.bool a1_5) := (blk_cell BK840.out 5).trans rfl; have hcz33_6 : w31.cell? ⟨gb840, 6, none⟩ = some (.slice A1_6 l1_6.length c1_6) := (blk_cell BK840.out 6).trans rfl; have hcz33_7 : w31.cell? ⟨gb840, 7, none⟩ = some (.slice A1_7 l1_7.length c1_7) := (blk_cell BK840.out 7).trans rfl; have hcz33_8 : w31.cell? ⟨gb840, 8, none⟩ = some (.slice A1_8 l1_8.length c1_8) := (blk_cell BK840.out 8).trans rfl; have hcz33_9 : w31.cell? ⟨gb840, 9, none⟩ = some (.slice A1_9 l1_9.length c1_9) := (blk_cell BK840.out 9).trans rfl; have hcz33_10 : w31.cell? ⟨gb840, 10, none⟩ = some (.slice A1_10 l1_10.length c1_10) := (blk_cell BK840.out 10).trans rfl; have hcz33_11 : w31.cell? ⟨gb840, 11, none⟩ = some (.int .i64 a1_11) := (blk_cell BK840.out 11).trans rfl; have hcz33_12 : w31.cell? ⟨gb840, 12, none⟩ = some (.slice A1_12 l1_12.length c1_12) := (blk_cell BK840.out 12).trans rfl; have hfz33_0 := blk_frozen BK840.out 0; have hfz33_1 := blk_frozen BK840.out 1; have hfz33_2 := blk_frozen BK840.out 2; have hfz33_3 := blk_frozen BK840.out 3; have hfz33_4 := blk_frozen BK840.out 4; have hfz33_5 := blk_frozen BK840.out 5; have hfz33_6 := blk_frozen BK840.out 6; have hfz33_7 := blk_frozen BK840.out 7; have hfz33_8 := blk_frozen BK840.out 8; have hfz33_9 := blk_frozen BK840.out 9; have hfz33_10 := blk_frozen BK840.out 10; have hfz33_11 := blk_frozen BK840.out 11; have hfz33_12 := blk_frozen BK840.out 12) | ((with_reducible refine gate_callee (f := 84) rfl ?_); refine gl (some 15) Try.func84 #[.slice A0_9 l0_9.length c0_9, .slice A1_9 l1_9.length c1_9] ?_; (with_reducible refine (laws_eqNoteS.calls k _ _ l0_9 _ _ l1_9 true _ ?side1 ?side2 ?side3 ?side4 A5.out).mono ?_); (case side1 => exact cc HR0_9 HB); (case side2 => exact HC0_9.out); (case side3 => exact cc HR1_9 HB); (case side4 => exact HC1_9.out); rintro e w34 ⟨rfl, hb⟩; refine ⟨_, rfl, ?_⟩; replace BK839 := kb BK839 hb; replace BK840 := kb BK840 hb; replace HB := hs_ HB hb; (try clear hb); (try clear hb2); (try clear hk); (try clear hi); have hcz35_0 : w34.cell? ⟨gb839, 0, none⟩ = some (.slice A0_0 l0_0.length c0_0) := (blk_cell BK839.out 0).trans rfl; have hcz35_1 : w34.cell? ⟨gb839, 1, none⟩ = some (.int .i64 a0_1) := (blk_cell BK839.out 1).trans rfl; have hcz35_2 : w34.cell? ⟨gb839, 2, none⟩ = some (.int .i64 a0_2) := (blk_cell BK839.out 2).trans rfl; have hcz35_3 : w34.cell? ⟨gb839, 3, none⟩ = some (.int .i64 a0_3) := (blk_cell BK839.out 3).trans rfl; have hcz35_4 : w34.cell? ⟨gb839, 4, none⟩ = some (.slice A0_4 l0_4.length c0_4) := (blk_cell BK839.out 4).trans rfl; have hcz35_5 : w34.cell? ⟨gb839, 5, none⟩ = some (.bool a0_5) := (blk_cell BK839.out 5).trans rfl; have hcz35_6 : w34.cell? ⟨gb839, 6, none⟩ = some (.slice A0_6 l0_6.length c0_6) := (blk_cell BK839.out 6).trans rfl; have hcz35_7 : w34.cell? ⟨gb839, 7, none⟩ = some (.slice A0_7 l0_7.length c0_7) := (blk_cell BK839.out 7).trans rfl; have hcz35_8 : w34.cell? ⟨gb839, 8, none⟩ = some (.slice A0_8 l0_8.length c0_8) := (blk_cell BK839.out 8).trans rfl; have hcz35_9 : w34.cell? ⟨gb839, 9, none⟩ = some (.slice A0_9 l0_9.length c0_9) := (blk_cell BK839.out 9).trans rfl; have hcz35_10 : w34.cell? ⟨gb839, 10, none⟩ = some (.slice A0_10 l0_10.length c0_10) := (blk_cell BK839.out 10).trans rfl; have hcz35_11 : w34.cell? ⟨gb839, 11, none⟩ = some (.int .i64 a0_11) := (blk_cell BK839.out 11).trans rfl; have hcz35_12 : w34.cell? ⟨gb839, 12, none⟩ = some (.slice A0_12 l0_12.length c0_12) := (blk_cell BK839.out 12).trans rfl; have hfz35_0 := blk_frozen BK839.out 0; have hfz35_1 := blk_frozen BK839.out 1; have hfz35_2 := blk_frozen BK839.out 2; have hfz35_3 := blk_frozen BK839.out 3; have hfz35_4 := blk_frozen BK839.out 4; have hfz35_5 := blk_frozen BK839.out 5; have hfz35_6 := blk_frozen BK839.out 6; have hfz35_7 := blk_frozen BK839.out 7; have hfz35_8 := blk_frozen BK839.out 8; have hfz35_9 := blk_frozen BK839.out 9; have hfz35_10 := blk_frozen BK839.out 10; have hfz35_11 := blk_frozen BK839.out 11; have hfz35_12 := blk_frozen BK839.out 12; have hcz36_0 : w34.cell? ⟨gb840, 0, none⟩ = some (.slice A1_0 l1_0.length c1_0) := (blk_cell BK840.out 0).trans rfl; have hcz36_1 : w34.cell? ⟨gb840, 1, none⟩ = some (.int .i64 a1_1) := (blk_cell BK840.out 1).trans rfl; have hcz36_2 : w34.cell? ⟨gb840, 2, none⟩ = some (.int .i64 a1_2) := (blk_cell BK840.out 2).trans rfl; have hcz36_3 : w34.cell? ⟨gb840, 3, none⟩ = some (.int .i64 a1_3) := (blk_cell BK840.out 3).trans rfl; have hcz36_4 : w34.cell? ⟨gb840, 4, none⟩ = some (.slice A1_4 l1_4.length c1_4) := (blk_cell BK840.out 4).trans rfl; have hcz36_5 : w34.cell? ⟨gb840, 5, none⟩ = some (.bool a1_5) := (blk_cell BK840.out 5).trans rfl; have hcz36_6 : w34.cell? ⟨gb840, 6, none⟩ = some (.slice A1_6 l1_6.length c1_6) := (blk_cell BK840.out 6).trans rfl; have hcz36_7 : w34.cell? ⟨gb840, 7, none⟩ = some (.slice A1_7 l1_7.length c1_7) := (blk_cell BK840.out 7).trans rfl; have hcz36_8 : w34.cell? ⟨gb840, 8, none⟩ = some (.slice A1_8 l1_8.length c1_8) := (blk_cell BK840.out 8).trans rfl; have hcz36_9 : w34.cell? ⟨gb840, 9, none⟩ = some (.slice A1_9 l1_9.length c1_9) := (blk_cell BK840.out 9).trans rfl; have hcz36_10 : w34.cell? ⟨gb840, 10, none⟩ = some (.slice A1_10 l1_10.length c1_10) := (blk_cell BK840.out 10).trans rfl; have hcz36_11 : w34.cell? ⟨gb840, 11, none⟩ = some (.int .i64 a1_11) := (blk_cell BK840.out 11).trans rfl; have hcz36_12 : w34.cell? ⟨gb840, 12, none⟩ = some (.slice A1_12 l1_12.length c1_12) := (blk_cell BK840.out 12).trans rfl; have hfz36_0 := blk_frozen BK840.out 0; have hfz36_1 := blk_frozen BK840.out 1; have hfz36_2 := blk_frozen BK840.out 2; have hfz36_3 := blk_frozen BK840.out 3; have hfz36_4 := blk_frozen BK840.out 4; have hfz36_5 := blk_frozen BK840.out 5; have hfz36_6 := blk_frozen BK840.out 6; have hfz36_7 := blk_frozen BK840.out 7; have hfz36_8 := blk_frozen BK840.out 8; have hfz36_9 := blk_frozen BK840.out 9; have hfz36_10 := blk_frozen BK840.out 10; have hfz36_11 := blk_frozen BK840.out 11; have hfz36_12 := blk_frozen BK840.out 12) | ((with_reducible refine gate_callee (f := 85) rfl ?_); refine gl (some 21) Try.func85 #[.slice A0_10 l0_10.length c0_10, .slice A1_10 l1_10.length c1_10] ?_; (with_reducible refine (laws_eqSentS.calls k _ _ l0_10 _ _ l1_10 true _ ?side1 ?side2 ?side3 ?side4 A7.out).mono ?_); (case side1 => exact cc HR0_10 HB); (case side2 => exact HC0_10.out); (case side3 => exact cc HR1_10 HB); (case side4 => exact HC1_10.out); rintro e w37 ⟨rfl, hb⟩; refine ⟨_, rfl, ?_⟩; replace BK839 := kb BK839 hb; replace BK840 := kb BK840 hb; replace HB := hs_ HB hb; (try clear hb); (try clear hb2); (try clear hk); (try clear hi); have hcz38_0 : w37.cell? ⟨gb839, 0, none⟩ = some (.slice A0_0 l0_0.length c0_0) := (blk_cell BK839.out 0).trans rfl; have hcz38_1 : w37.cell? ⟨gb839, 1, none⟩ = some (.int .i64 a0_1) := (blk_cell BK839.out 1).trans rfl; have hcz38_2 : w37.cell? ⟨gb839, 2, none⟩ = some (.int .i64 a0_2) := (blk_cell BK839.out 2).trans rfl; have hcz38_3 : w37.cell? ⟨gb839, 3, none⟩ = some (.int .i64 a0_3) := (blk_cell BK839.out 3).trans rfl; have hcz38_4 : w37.cell? ⟨gb839, 4, none⟩ = some (.slice A0_4 l0_4.length c0_4) := (blk_cell BK839.out 4).trans rfl; have hcz38_5 : w37.cell? ⟨gb839, 5, none⟩ = some (.bool a0_5) := (blk_cell BK839.out 5).trans rfl; have hcz38_6 : w37.cell? ⟨gb839, 6, none⟩ = some (.slice A0_6 l0_6.length c0_6) := (blk_cell BK839.out 6).trans rfl; have hcz38_7 : w37.cell? ⟨gb839, 7, none⟩ = some (.slice A0_7 l0_7.length c0_7) := (blk_cell BK839.out 7).trans rfl; have hcz38_8 : w37.cell? ⟨gb839, 8, none⟩ = some (.slice A0_8 l0_8.length c0_8) := (blk_cell BK839.out 8).trans rfl; have hcz38_9 : w37.cell? ⟨gb839, 9, none⟩ = some (.slice A0_9 l0_9.length c0_9) := (blk_cell BK839.out 9).trans rfl; have hcz38_10 : w37.cell? ⟨gb839, 10, none⟩ = some (.slice A0_10 l0_10.length c0_10) := (blk_cell BK839.out 10).trans rfl; have hcz38_11 : w37.cell? ⟨gb839, 11, none⟩ = some (.int .i64 a0_11) := (blk_cell BK839.out 11).trans rfl; have hcz38_12 : w37.cell? ⟨gb839, 12, none⟩ = some (.slice A0_12 l0_12.length c0_12) := (blk_cell BK839.out 12).trans rfl; have hfz38_0 := blk_frozen BK839.out 0; have hfz38_1 := blk_frozen BK839.out 1; have hfz38_2 := blk_frozen BK839.out 2; have hfz38_3 := blk_frozen BK839.out 3; have hfz38_4 := blk_frozen BK839.out 4; have hfz38_5 := blk_frozen BK839.out 5; have hfz38_6 := blk_frozen BK839.out 6; have hfz38_7 := blk_frozen BK839.out 7; have hfz38_8 := blk_frozen BK839.out 8; have hfz38_9 := blk_frozen BK839.out 9; have hfz38_10 := blk_frozen BK839.out 10; have hfz38_11 := blk_frozen BK839.out 11; have hfz38_12 := blk_frozen BK839.out 12; have hcz39_0 : w37.cell? ⟨gb840, 0, none⟩ = some (.slice A1_0 l1_0.length c1_0) := (blk_cell BK840.out 0).trans rfl; have hcz39_1 : w37.cell? ⟨gb840, 1, none⟩ = some (.int .i64 a1_1) := (blk_cell BK840.out 1).trans rfl; have hcz39_2 : w37.cell? ⟨gb840, 2, none⟩ = some (.int .i64 a1_2) := (blk_cell BK840.out 2).trans rfl; have hcz39_3 : w37.cell? ⟨gb840, 3, none⟩ = some (.int .i64 a1_3) := (blk_cell BK840.out 3).trans rfl; have hcz39_4 : w37.cell? ⟨gb840, 4, none⟩ = some (.slice A1_4 l1_4.length c1_4) := (blk_cell BK840.out 4).trans rfl; have hcz39_5 : w37.cell? ⟨gb840, 5, none⟩ = some (.bool a1_5) := (blk_cell BK840.out 5).trans rfl; have hcz39_6 : w37.cell? ⟨gb840, 6, none⟩ = some (.slice A1_6 l1_6.length c1_6) := (blk_cell BK840.out 6).trans rfl; have hcz39_7 : w37.cell? ⟨gb840, 7, none⟩ = some (.slice A1_7 l1_7.length c1_7) := (blk_cell BK840.out 7).trans rfl; have hcz39_8 : w37.cell? ⟨gb840, 8, none⟩ = some (.slice A1_8 l1_8.length c1_8) := (blk_cell BK840.out 8).trans rfl; have hcz39_9 : w37.cell? ⟨gb840, 9, none⟩ = some (.slice A1_9 l1_9.length c1_9) := (blk_cell BK840.out 9).trans rfl; have hcz39_10 : w37.cell? ⟨gb840, 10, none⟩ = some (.slice A1_10 l1_10.length c1_10) := (blk_cell BK840.out 10).trans rfl; have hcz39_11 : w37.cell? ⟨gb840, 11, none⟩ = some (.int .i64 a1_11) := (blk_cell BK840.out 11).trans rfl; have hcz39_12 : w37.cell? ⟨gb840, 12, none⟩ = some (.slice A1_12 l1_12.length c1_12) := (blk_cell BK840.out 12).trans rfl; have hfz39_0 := blk_frozen BK840.out 0; have hfz39_1 := blk_frozen BK840.out 1; have hfz39_2 := blk_frozen BK840.out 2; have hfz39_3 := blk_frozen BK840.out 3; have hfz39_4 := blk_frozen BK840.out 4; have hfz39_5 := blk_frozen BK840.out 5; have hfz39_6 := blk_frozen BK840.out 6; have hfz39_7 := blk_frozen BK840.out 7; have hfz39_8 := blk_frozen BK840.out 8; have hfz39_9 := blk_frozen BK840.out 9; have hfz39_10 := blk_frozen BK840.out 10; have hfz39_11 := blk_frozen BK840.out 11; have hfz39_12 := blk_frozen BK840.out 12) | ((with_reducible refine gate_callee (f := 86) rfl ?_); refine gl (some 27) Try.func86 #[.agg #[.int .i64 a0_11, .slice A0_12 l0_12.length c0_12], .agg #[.int .i64 a1_11, .slice A1_12 l1_12.length c1_12]] ?_; (with_reducible refine (laws_eqCup.calls k a0_11 _ _ l0_12 a1_11 _ _ l1_12 false _ ?side1 ?side2 ?side3 ?side4 A9.out).mono ?_); (case side1 => exact cc HR0_12 HB); (case side2 => exact HC0_12.out); (case side3 => exact cc HR1_12 HB); (case side4 => exact HC1_12.out); rintro e w40 ⟨rfl, hb⟩; refine ⟨_, rfl, ?_⟩; replace BK839 := kb BK839 hb; replace BK840 := kb BK840 hb; replace HB := hs_ HB hb; (try clear hb); (try clear hb2); (try clear hk); (try clear hi)))
          go_ret
          exact ⟨ee, bb HB⟩
      · replace c8 := Bool.eq_false_iff.mpr c8
        subst c8
        have H1 : (some false) = some r := by rw [if_neg (show ¬ (false = true) by decide)] at H; exact H
        clear H
        have H := H1
        clear H1
        obtain rfl := Option.some.inj H
        go_enter Try.func38, Try.ntmps38
        go_wp2_with (first | ((with_reducible refine gate_dst (N := 2) rfl ?_); refine bx (N := 2) (cs := #[.slice A0_0 l0_0.length c0_0, .int .i64 a0_1, .int .i64 a0_2, .int .i64 a0_3, .slice A0_4 l0_4.length c0_4, .bool a0_5, .slice A0_6 l0_6.length c0_6, .slice A0_7 l0_7.length c0_7, .slice A0_8 l0_8.length c0_8, .slice A0_9 l0_9.length c0_9, .slice A0_10 l0_10.length c0_10, .int .i64 a0_11, .slice A0_12 l0_12.length c0_12]) (t := 73) ?_; intro gb839 hg w41 hbox hb; have BK839 := Aside0.mk (hbox); have GW839 := gs hg HB; have GE839 := gs hg HB; replace HB := hs_ HB hb; clear hb hbox hg) | ((with_reducible refine gate_dst (N := 3) rfl ?_); refine bx (N := 3) (cs := #[.slice A1_0 l1_0.length c1_0, .int .i64 a1_1, .int .i64 a1_2, .int .i64 a1_3, .slice A1_4 l1_4.length c1_4, .bool a1_5, .slice A1_6 l1_6.length c1_6, .slice A1_7 l1_7.length c1_7, .slice A1_8 l1_8.length c1_8, .slice A1_9 l1_9.length c1_9, .slice A1_10 l1_10.length c1_10, .int .i64 a1_11, .slice A1_12 l1_12.length c1_12]) (t := 73) ?_; intro gb840 hg w42 hbox hb; have BK840 := Aside0.mk (hbox); have GW840 := gs hg HB; have GE840 := gs hg HB; replace HB := hs_ HB hb; have NB839_840 := gn hg BK839; have NB840_839 := gm hg BK839; replace BK839 := kb BK839 hb; clear hb hbox hg; have hnb43 := NB839_840.out; have hnc43 := NB840_839.out; have hcz44_0 : w42.cell? ⟨gb839, 0, none⟩ = some (.slice A0_0 l0_0.length c0_0) := (blk_cell BK839.out 0).trans rfl; have hcz44_1 : w42.cell? ⟨gb839, 1, none⟩ = some (.int .i64 a0_1) := (blk_cell BK839.out 1).trans rfl; have hcz44_2 : w42.cell? ⟨gb839, 2, none⟩ = some (.int .i64 a0_2) := (blk_cell BK839.out 2).trans rfl; have hcz44_3 : w42.cell? ⟨gb839, 3, none⟩ = some (.int .i64 a0_3) := (blk_cell BK839.out 3).trans rfl; have hcz44_4 : w42.cell? ⟨gb839, 4, none⟩ = some (.slice A0_4 l0_4.length c0_4) := (blk_cell BK839.out 4).trans rfl; have hcz44_5 : w42.cell? ⟨gb839, 5, none⟩ = some (.bool a0_5) := (blk_cell BK839.out 5).trans rfl; have hcz44_6 : w42.cell? ⟨gb839, 6, none⟩ = some (.slice A0_6 l0_6.length c0_6) := (blk_cell BK839.out 6).trans rfl; have hcz44_7 : w42.cell? ⟨gb839, 7, none⟩ = some (.slice A0_7 l0_7.length c0_7) := (blk_cell BK839.out 7).trans rfl; have hcz44_8 : w42.cell? ⟨gb839, 8, none⟩ = some (.slice A0_8 l0_8.length c0_8) := (blk_cell BK839.out 8).trans rfl; have hcz44_9 : w42.cell? ⟨gb839, 9, none⟩ = some (.slice A0_9 l0_9.length c0_9) := (blk_cell BK839.out 9).trans rfl; have hcz44_10 : w42.cell? ⟨gb839, 10, none⟩ = some (.slice A0_10 l0_10.length c0_10) := (blk_cell BK839.out 10).trans rfl; have hcz44_11 : w42.cell? ⟨gb839, 11, none⟩ = some (.int .i64 a0_11) := (blk_cell BK839.out 11).trans rfl; have hcz44_12 : w42.cell? ⟨gb839, 12, none⟩ = some (.slice A0_12 l0_12.length c0_12) := (blk_cell BK839.out 12).trans rfl; have hfz44_0 := blk_frozen BK839.out 0; have hfz44_1 := blk_frozen BK839.out 1; have hfz44_2 := blk_frozen BK839.out 2; have hfz44_3 := blk_frozen BK839.out 3; have hfz44_4 := blk_frozen BK839.out 4; have hfz44_5 := blk_frozen BK839.out 5; have hfz44_6 := blk_frozen BK839.out 6; have hfz44_7 := blk_frozen BK839.out 7; have hfz44_8 := blk_frozen BK839.out 8; have hfz44_9 := blk_frozen BK839.out 9; have hfz44_10 := blk_frozen BK839.out 10; have hfz44_11 := blk_frozen BK839.out 11; have hfz44_12 := blk_frozen BK839.out 12; have hcz45_0 : w42.cell? ⟨gb840, 0, none⟩ = some (.slice A1_0 l1_0.length c1_0) := (blk_cell BK840.out 0).trans rfl; have hcz45_1 : w42.cell? ⟨gb840, 1, none⟩ = some (.int .i64 a1_1) := (blk_cell BK840.out 1).trans rfl; have hcz45_2 : w42.cell? ⟨gb840, 2, none⟩ = some (.int .i64 a1_2) := (blk_cell BK840.out 2).trans rfl; have hcz45_3 : w42.cell? ⟨gb840, 3, none⟩ = some (.int .i64 a1_3) := (blk_cell BK840.out 3).trans rfl; have hcz45_4 : w42.cell? ⟨gb840, 4, none⟩ = some (.slice A1_4 l1_4.length c1_4) := (blk_cell BK840.out 4).trans rfl; have hcz45_5 : w42.cell? ⟨gb840, 5, none⟩ = some (.bool a1_5) := (blk_cell BK840.out 5).trans rfl; have hcz45_6 : w42.cell? ⟨gb840, 6, none⟩ = some (.slice A1_6 l1_6.length c1_6) := (blk_cell BK840.out 6).trans rfl; have hcz45_7 : w42.cell? ⟨gb840, 7, none⟩ = some (.slice A1_7 l1_7.length c1_7) := (blk_cell BK840.out 7).trans rfl; have hcz45_8 : w42.cell? ⟨gb840, 8, none⟩ = some (.slice A1_8 l1_8.length c1_8) := (blk_cell BK840.out 8).trans rfl; have hcz45_9 : w42.cell? ⟨gb840, 9, none⟩ = some (.slice A1_9 l1_9.length c1_9) := (blk_cell BK840.out 9).trans rfl; have hcz45_10 : w42.cell? ⟨gb840, 10, none⟩ = some (.slice A1_10 l1_10.length c1_10) := (blk_cell BK840.out 10).trans rfl; have hcz45_11 : w42.cell? ⟨gb840, 11, none⟩ = some (.int .i64 a1_11) := (blk_cell BK840.out 11).trans rfl; have hcz45_12 : w42.cell? ⟨gb840, 12, none⟩ = some (.slice A1_12 l1_12.length c1_12) := (blk_cell BK840.out 12).trans rfl; have hfz45_0 := blk_frozen BK840.out 0; have hfz45_1 := blk_frozen BK840.out 1; have hfz45_2 := blk_frozen BK840.out 2; have hfz45_3 := blk_frozen BK840.out 3; have hfz45_4 := blk_frozen BK840.out 4; have hfz45_5 := blk_frozen BK840.out 5; have hfz45_6 := blk_frozen BK840.out 6; have hfz45_7 := blk_frozen BK840.out 7; have hfz45_8 := blk_frozen BK840.out 8; have hfz45_9 := blk_frozen BK840.out 9; have hfz45_10 := blk_frozen BK840.out 10; have hfz45_11 := blk_frozen BK840.out 11; have hfz45_12 := blk_frozen BK840.out 12) | ((with_reducible refine gate_callee (f := 83) rfl ?_); refine gl (some 9) Try.func83 #[.agg #[.slice A0_0 l0_0.length c0_0, .int .i64 a0_1, .int .i64 a0_2, .int .i64 a0_3, .slice A0_4 l0_4.length c0_4, .bool a0_5, .slice A0_6 l0_6.length c0_6, .slice A0_7 l0_7.length c0_7, .slice A0_8 l0_8.length c0_8], .agg #[.slice A1_0 l1_0.length c1_0, .int .i64 a1_1, .int .i64 a1_2, .int .i64 a1_3, .slice A1_4 l1_4.length c1_4, .bool a1_5, .slice A1_6 l1_6.length c1_6, .slice A1_7 l1_7.length c1_7, .slice A1_8 l1_8.length c1_8]] ?_; (with_reducible refine (laws_eqBook.calls k _ _ l0_0 a0_1 a0_2 a0_3 _ _ l0_4 a0_5 _ _ l0_6 _ _ l0_7 _ _ l0_8 _ _ l1_0 a1_1 a1_2 a1_3 _ _ l1_4 a1_5 _ _ l1_6 _ _ l1_7 _ _ l1_8 true _ ?side1 ?side2 ?side3 ?side4 ?side5 ?side6 ?side7 ?side8 ?side9 ?side10 ?side11 ?side12 ?side13 ?side14 ?side15 ?side16 ?side17 ?side18 ?side19 ?side20 A3.out).mono ?_); (case side1 => exact cc HR0_0 HB); (case side2 => exact HC0_0.out); (case side3 => exact cc HR0_4 HB); (case side4 => exact HC0_4.out); (case side5 => exact cc HR0_6 HB); (case side6 => exact HC0_6.out); (case side7 => exact cc HR0_7 HB); (case side8 => exact HC0_7.out); (case side9 => exact cc HR0_8 HB); (case side10 => exact HC0_8.out); (case side11 => exact cc HR1_0 HB); (case side12 => exact HC1_0.out); (case side13 => exact cc HR1_4 HB); (case side14 => exact HC1_4.out); (case side15 => exact cc HR1_6 HB); (case side16 => exact HC1_6.out); (case side17 => exact cc HR1_7 HB); (case side18 => exact HC1_7.out); (case side19 => exact cc HR1_8 HB); (case side20 => exact HC1_8.out); rintro e w46 ⟨rfl, hb⟩; refine ⟨_, rfl, ?_⟩; replace BK839 := kb BK839 hb; replace BK840 := kb BK840 hb; replace HB := hs_ HB hb; (try clear hb); (try clear hb2); (try clear hk); (try clear hi); have hcz47_0 : w46.cell? ⟨gb839, 0, none⟩ = some (.slice A0_0 l0_0.length c0_0) := (blk_cell BK839.out 0).trans rfl; have hcz47_1 : w46.cell? ⟨gb839, 1, none⟩ = some (.int .i64 a0_1) := (blk_cell BK839.out 1).trans rfl; have hcz47_2 : w46.cell? ⟨gb839, 2, none⟩ = some (.int .i64 a0_2) := (blk_cell BK839.out 2).trans rfl; have hcz47_3 : w46.cell? ⟨gb839, 3, none⟩ = some (.int .i64 a0_3) := (blk_cell BK839.out 3).trans rfl; have hcz47_4 : w46.cell? ⟨gb839, 4, none⟩ = some (.slice A0_4 l0_4.length c0_4) := (blk_cell BK839.out 4).trans rfl; have hcz47_5 : w46.cell? ⟨gb839, 5, none⟩ = some (.bool a0_5) := (blk_cell BK839.out 5).trans rfl; have hcz47_6 : w46.cell? ⟨gb839, 6, none⟩ = some (.slice A0_6 l0_6.length c0_6) := (blk_cell BK839.out 6).trans rfl; have hcz47_7 : w46.cell? ⟨gb839, 7, none⟩ = some (.slice A0_7 l0_7.length c0_7) := (blk_cell BK839.out 7).trans rfl; have hcz47_8 : w46.cell? ⟨gb839, 8, none⟩ = some (.slice A0_8 l0_8.length c0_8) := (blk_cell BK839.out 8).trans rfl; have hcz47_9 : w46.cell? ⟨gb839, 9, none⟩ = some (.slice A0_9 l0_9.length c0_9) := (blk_cell BK839.out 9).trans rfl; have hcz47_10 : w46.cell? ⟨gb839, 10, none⟩ = some (.slice A0_10 l0_10.length c0_10) := (blk_cell BK839.out 10).trans rfl; have hcz47_11 : w46.cell? ⟨gb839, 11, none⟩ = some (.int .i64 a0_11) := (blk_cell BK839.out 11).trans rfl; have hcz47_12 : w46.cell? ⟨gb839, 12, none⟩ = some (.slice A0_12 l0_12.length c0_12) := (blk_cell BK839.out 12).trans rfl; have hfz47_0 := blk_frozen BK839.out 0; have hfz47_1 := blk_frozen BK839.out 1; have hfz47_2 := blk_frozen BK839.out 2; have hfz47_3 := blk_frozen BK839.out 3; have hfz47_4 := blk_frozen BK839.out 4; have hfz47_5 := blk_frozen BK839.out 5; have hfz47_6 := blk_frozen BK839.out 6; have hfz47_7 := blk_frozen BK839.out 7; have hfz47_8 := blk_frozen BK839.out 8; have hfz47_9 := blk_frozen BK839.out 9; have hfz47_10 := blk_frozen BK839.out 10; have hfz47_11 := blk_frozen BK839.out 11; have hfz47_12 := blk_frozen BK839.out 12; have hcz48_0 : w46.cell? ⟨gb840, 0, none⟩ = some (.slice A1_0 l1_0.length c1_0) := (blk_cell BK840.out 0).trans rfl; have hcz48_1 : w46.cell? ⟨gb840, 1, none⟩ = some (.int .i64 a1_1) := (blk_cell BK840.out 1).trans rfl; have hcz48_2 : w46.cell? ⟨gb840, 2, none⟩ = some (.int .i64 a1_2) := (blk_cell BK840.out 2).trans rfl; have hcz48_3 : w46.cell? ⟨gb840, 3, none⟩ = some (.int .i64 a1_3) := (blk_cell BK840.out 3).trans rfl; have hcz48_4 : w46.cell? ⟨gb840, 4, none⟩ = some (.slice A1_4 l1_4.length c1_4) := (blk_cell BK840.out 4).trans rfl; have hcz48_5 : w46.cell? ⟨gb840, 5, none⟩ = some (.bool a1_5) := (blk_cell BK840.out 5).trans rfl; have hcz48_6 : w46.cell? ⟨gb840, 6, none⟩ = some (.slice A1_6 l1_6.length c1_6) := (blk_cell BK840.out 6).trans rfl; have hcz48_7 : w46.cell? ⟨gb840, 7, none⟩ = some (.slice A1_7 l1_7.length c1_7) := (blk_cell BK840.out 7).trans rfl; have hcz48_8 : w46.cell? ⟨gb840, 8, none⟩ = some (.slice A1_8 l1_8.length c1_8) := (blk_cell BK840.out 8).trans rfl; have hcz48_9 : w46.cell? ⟨gb840, 9, none⟩ = some (.slice A1_9 l1_9.length c1_9) := (blk_cell BK840.out 9).trans rfl; have hcz48_10 : w46.cell? ⟨gb840, 10, none⟩ = some (.slice A1_10 l1_10.length c1_10) := (blk_cell BK840.out 10).trans rfl; have hcz48_11 : w46.cell? ⟨gb840, 11, none⟩ = some (.int .i64 a1_11) := (blk_cell BK840.out 11).trans rfl; have hcz48_12 : w46.cell? ⟨gb840, 12, none⟩ = some (.slice A1_12 l1_12.length c1_12) := (blk_cell BK840.out 12).trans rfl; have hfz48_0 := blk_frozen BK840.out 0; have hfz48_1 := blk_frozen BK840.out 1; have hfz48_2 := blk_frozen BK840.out 2; have hfz48_3 := blk_frozen BK840.out 3; have hfz48_4 := blk_frozen BK840.out 4; have hfz48_5 := blk_frozen BK840.out 5; have hfz48_6 := blk_frozen BK840.out 6; have hfz48_7 := blk_frozen BK840.out 7; have hfz48_8 := blk_frozen BK840.out 8; have hfz48_9 := blk_frozen BK840.out 9; have hfz48_10 := blk_frozen BK840.out 10; have hfz48_11 := blk_frozen BK840.out 11; have hfz48_12 := blk_frozen BK840.out 12) | ((with_reducible refine gate_callee (f := 84) rfl ?_); refine gl (some 15) Try.func84 #[.slice A0_9 l0_9.length c0_9, .slice A1_9 l1_9.length c1_9] ?_; (with_reducible refine (laws_eqNoteS.calls k _ _ l0_9 _ _ l1_9 true _ ?side1 ?side2 ?side3 ?side4 A5.out).mono ?_); (case side1 => exact cc HR0_9 HB); (case side2 => exact HC0_9.out); (case side3 => exact cc HR1_9 HB); (case side4 => exact HC1_9.out); rintro e w49 ⟨rfl, hb⟩; refine ⟨_, rfl, ?_⟩; replace BK839 := kb BK839 hb; replace BK840 := kb BK840 hb; replace HB := hs_ HB hb; (try clear hb); (try clear hb2); (try clear hk); (try clear hi); have hcz50_0 : w49.cell? ⟨gb839, 0, none⟩ = some (.slice A0_0 l0_0.length c0_0) := (blk_cell BK839.out 0).trans rfl; have hcz50_1 : w49.cell? ⟨gb839, 1, none⟩ = some (.int .i64 a0_1) := (blk_cell BK839.out 1).trans rfl; have hcz50_2 : w49.cell? ⟨gb839, 2, none⟩ = some (.int .i64 a0_2) := (blk_cell BK839.out 2).trans rfl; have hcz50_3 : w49.cell? ⟨gb839, 3, none⟩ = some (.int .i64 a0_3) := (blk_cell BK839.out 3).trans rfl; have hcz50_4 : w49.cell? ⟨gb839, 4, none⟩ = some (.slice A0_4 l0_4.length c0_4) := (blk_cell BK839.out 4).trans rfl; have hcz50_5 : w49.cell? ⟨gb839, 5, none⟩ = some (.bool a0_5) := (blk_cell BK839.out 5).trans rfl; have hcz50_6 : w49.cell? ⟨gb839, 6, none⟩ = some (.slice A0_6 l0_6.length c0_6) := (blk_cell BK839.out 6).trans rfl; have hcz50_7 : w49.cell? ⟨gb839, 7, none⟩ = some (.slice A0_7 l0_7.length c0_7) := (blk_cell BK839.out 7).trans rfl; have hcz50_8 : w49.cell? ⟨gb839, 8, none⟩ = some (.slice A0_8 l0_8.length c0_8) := (blk_cell BK839.out 8).trans rfl; have hcz50_9 : w49.cell? ⟨gb839, 9, none⟩ = some (.slice A0_9 l0_9.length c0_9) := (blk_cell BK839.out 9).trans rfl; have hcz50_10 : w49.cell? ⟨gb839, 10, none⟩ = some (.slice A0_10 l0_10.length c0_10) := (blk_cell BK839.out 10).trans rfl; have hcz50_11 : w49.cell? ⟨gb839, 11, none⟩ = some (.int .i64 a0_11) := (blk_cell BK839.out 11).trans rfl; have hcz50_12 : w49.cell? ⟨gb839, 12, none⟩ = some (.slice A0_12 l0_12.length c0_12) := (blk_cell BK839.out 12).trans rfl; have hfz50_0 := blk_frozen BK839.out 0; have hfz50_1 := blk_frozen BK839.out 1; have hfz50_2 := blk_frozen BK839.out 2; have hfz50_3 := blk_frozen BK839.out 3; have hfz50_4 := blk_frozen BK839.out 4; have hfz50_5 := blk_frozen BK839.out 5; have hfz50_6 := blk_frozen BK839.out 6; have hfz50_7 := blk_frozen BK839.out 7; have hfz50_8 := blk_frozen BK839.out 8; have hfz50_9 := blk_frozen BK839.out 9; have hfz50_10 := blk_frozen BK839.out 10; have hfz50_11 := blk_frozen BK839.out 11; have hfz50_12 := blk_frozen BK839.out 12; have hcz51_0 : w49.cell? ⟨gb840, 0, none⟩ = some (.slice A1_0 l1_0.length c1_0) := (blk_cell BK840.out 0).trans rfl; have hcz51_1 : w49.cell? ⟨gb840, 1, none⟩ = some (.int .i64 a1_1) := (blk_cell BK840.out 1).trans rfl; have hcz51_2 : w49.cell? ⟨gb840, 2, none⟩ = some (.int .i64 a1_2) := (blk_cell BK840.out 2).trans rfl; have hcz51_3 : w49.cell? ⟨gb840, 3, none⟩ = some (.int .i64 a1_3) := (blk_cell BK840.out 3).trans rfl; have hcz51_4 : w49.cell? ⟨gb840, 4, none⟩ = some (.slice A1_4 l1_4.length c1_4) := (blk_cell BK840.out 4).trans rfl; have hcz51_5 : w49.cell? ⟨gb840, 5, none⟩ = some (.bool a1_5) := (blk_cell BK840.out 5).trans rfl; have hcz51_6 : w49.cell? ⟨gb840, 6, none⟩ = some (.slice A1_6 l1_6.length c1_6) := (blk_cell BK840.out 6).trans rfl; have hcz51_7 : w49.cell? ⟨gb840, 7, none⟩ = some (.slice A1_7 l1_7.length c1_7) := (blk_cell BK840.out 7).trans rfl; have hcz51_8 : w49.cell? ⟨gb840, 8, none⟩ = some (.slice A1_8 l1_8.length c1_8) := (blk_cell BK840.out 8).trans rfl; have hcz51_9 : w49.cell? ⟨gb840, 9, none⟩ = some (.slice A1_9 l1_9.length c1_9) := (blk_cell BK840.out 9).trans rfl; have hcz51_10 : w49.cell? ⟨gb840, 10, none⟩ = some (.slice A1_10 l1_10.length c1_10) := (blk_cell BK840.out 10).trans rfl; have hcz51_11 : w49.cell? ⟨gb840, 11, none⟩ = some (.int .i64 a1_11) := (blk_cell BK840.out 11).trans rfl; have hcz51_12 : w49.cell? ⟨gb840, 12, none⟩ = some (.slice A1_12 l1_12.length c1_12) := (blk_cell BK840.out 12).trans rfl; have hfz51_0 := blk_frozen BK840.out 0; have hfz51_1 := blk_frozen BK840.out 1; have hfz51_2 := blk_frozen BK840.out 2; have hfz51_3 := blk_frozen BK840.out 3; have hfz51_4 := blk_frozen BK840.out 4; have hfz51_5 := blk_frozen BK840.out 5; have hfz51_6 := blk_frozen BK840.out 6; have hfz51_7 := blk_frozen BK840.out 7; have hfz51_8 := blk_frozen BK840.out 8; have hfz51_9 := blk_frozen BK840.out 9; have hfz51_10 := blk_frozen BK840.out 10; have hfz51_11 := blk_frozen BK840.out 11; have hfz51_12 := blk_frozen BK840.out 12) | ((with_reducible refine gate_callee (f := 85) rfl ?_); refine gl (some 21) Try.func85 #[.slice A0_10 l0_10.length c0_10, .slice A1_10 l1_10.length c1_10] ?_; (with_reducible refine (laws_eqSentS.calls k _ _ l0_10 _ _ l1_10 false _ ?side1 ?side2 ?side3 ?side4 A7.out).mono ?_); (case side1 => exact cc HR0_10 HB); (case side2 => exact HC0_10.out); (case side3 => exact cc HR1_10 HB); (case side4 => exact HC1_10.out); rintro e w52 ⟨rfl, hb⟩; refine ⟨_, rfl, ?_⟩; replace BK839 := kb BK839 hb; replace BK840 := kb BK840 hb; replace HB := hs_ HB hb; (try clear hb); (try clear hb2); (try clear hk); (try clear hi)))
        go_ret
        exact ⟨ee, bb HB⟩
    · replace c6 := Bool.eq_false_iff.mpr c6
      subst c6
      have H1 : (some false) = some r := by rw [if_neg (show ¬ (false = true) by decide)] at H; exact H
      clear H
      have H := H1
      clear H1
      obtain rfl := Option.some.inj H
      go_enter Try.func38, Try.ntmps38
      go_wp2_with (first | ((with_reducible refine gate_dst (N := 2) rfl ?_); refine bx (N := 2) (cs := #[.slice A0_0 l0_0.length c0_0, .int .i64 a0_1, .int .i64 a0_2, .int .i64 a0_3, .slice A0_4 l0_4.length c0_4, .bool a0_5, .slice A0_6 l0_6.length c0_6, .slice A0_7 l0_7.length c0_7, .slice A0_8 l0_8.length c0_8, .slice A0_9 l0_9.length c0_9, .slice A0_10 l0_10.length c0_10, .int .i64 a0_11, .slice A0_12 l0_12.length c0_12]) (t := 73) ?_; intro gb839 hg w53 hbox hb; have BK839 := Aside0.mk (hbox); have GW839 := gs hg HB; have GE839 := gs hg HB; replace HB := hs_ HB hb; clear hb hbox hg) | ((with_reducible refine gate_dst (N := 3) rfl ?_); refine bx (N := 3) (cs := #[.slice A1_0 l1_0.length c1_0, .int .i64 a1_1, .int .i64 a1_2, .int .i64 a1_3, .slice A1_4 l1_4.length c1_4, .bool a1_5, .slice A1_6 l1_6.length c1_6, .slice A1_7 l1_7.length c1_7, .slice A1_8 l1_8.length c1_8, .slice A1_9 l1_9.length c1_9, .slice A1_10 l1_10.length c1_10, .int .i64 a1_11, .slice A1_12 l1_12.length c1_12]) (t := 73) ?_; intro gb840 hg w54 hbox hb; have BK840 := Aside0.mk (hbox); have GW840 := gs hg HB; have GE840 := gs hg HB; replace HB := hs_ HB hb; have NB839_840 := gn hg BK839; have NB840_839 := gm hg BK839; replace BK839 := kb BK839 hb; clear hb hbox hg; have hnb55 := NB839_840.out; have hnc55 := NB840_839.out; have hcz56_0 : w54.cell? ⟨gb839, 0, none⟩ = some (.slice A0_0 l0_0.length c0_0) := (blk_cell BK839.out 0).trans rfl; have hcz56_1 : w54.cell? ⟨gb839, 1, none⟩ = some (.int .i64 a0_1) := (blk_cell BK839.out 1).trans rfl; have hcz56_2 : w54.cell? ⟨gb839, 2, none⟩ = some (.int .i64 a0_2) := (blk_cell BK839.out 2).trans rfl; have hcz56_3 : w54.cell? ⟨gb839, 3, none⟩ = some (.int .i64 a0_3) := (blk_cell BK839.out 3).trans rfl; have hcz56_4 : w54.cell? ⟨gb839, 4, none⟩ = some (.slice A0_4 l0_4.length c0_4) := (blk_cell BK839.out 4).trans rfl; have hcz56_5 : w54.cell? ⟨gb839, 5, none⟩ = some (.bool a0_5) := (blk_cell BK839.out 5).trans rfl; have hcz56_6 : w54.cell? ⟨gb839, 6, none⟩ = some (.slice A0_6 l0_6.length c0_6) := (blk_cell BK839.out 6).trans rfl; have hcz56_7 : w54.cell? ⟨gb839, 7, none⟩ = some (.slice A0_7 l0_7.length c0_7) := (blk_cell BK839.out 7).trans rfl; have hcz56_8 : w54.cell? ⟨gb839, 8, none⟩ = some (.slice A0_8 l0_8.length c0_8) := (blk_cell BK839.out 8).trans rfl; have hcz56_9 : w54.cell? ⟨gb839, 9, none⟩ = some (.slice A0_9 l0_9.length c0_9) := (blk_cell BK839.out 9).trans rfl; have hcz56_10 : w54.cell? ⟨gb839, 10, none⟩ = some (.slice A0_10 l0_10.length c0_10) := (blk_cell BK839.out 10).trans rfl; have hcz56_11 : w54.cell? ⟨gb839, 11, none⟩ = some (.int .i64 a0_11) := (blk_cell BK839.out 11).trans rfl; have hcz56_12 : w54.cell? ⟨gb839, 12, none⟩ = some (.slice A0_12 l0_12.length c0_12) := (blk_cell BK839.out 12).trans rfl; have hfz56_0 := blk_frozen BK839.out 0; have hfz56_1 := blk_frozen BK839.out 1; have hfz56_2 := blk_frozen BK839.out 2; have hfz56_3 := blk_frozen BK839.out 3; have hfz56_4 := blk_frozen BK839.out 4; have hfz56_5 := blk_frozen BK839.out 5; have hfz56_6 := blk_frozen BK839.out 6; have hfz56_7 := blk_frozen BK839.out 7; have hfz56_8 := blk_frozen BK839.out 8; have hfz56_9 := blk_frozen BK839.out 9; have hfz56_10 := blk_frozen BK839.out 10; have hfz56_11 := blk_frozen BK839.out 11; have hfz56_12 := blk_frozen BK839.out 12; have hcz57_0 : w54.cell? ⟨gb840, 0, none⟩ = some (.slice A1_0 l1_0.length c1_0) := (blk_cell BK840.out 0).trans rfl; have hcz57_1 : w54.cell? ⟨gb840, 1, none⟩ = some (.int .i64 a1_1) := (blk_cell BK840.out 1).trans rfl; have hcz57_2 : w54.cell? ⟨gb840, 2, none⟩ = some (.int .i64 a1_2) := (blk_cell BK840.out 2).trans rfl; have hcz57_3 : w54.cell? ⟨gb840, 3, none⟩ = some (.int .i64 a1_3) := (blk_cell BK840.out 3).trans rfl; have hcz57_4 : w54.cell? ⟨gb840, 4, none⟩ = some (.slice A1_4 l1_4.length c1_4) := (blk_cell BK840.out 4).trans rfl; have hcz57_5 : w54.cell? ⟨gb840, 5, none⟩ = some (.bool a1_5) := (blk_cell BK840.out 5).trans rfl; have hcz57_6 : w54.cell? ⟨gb840, 6, none⟩ = some (.slice A1_6 l1_6.length c1_6) := (blk_cell BK840.out 6).trans rfl; have hcz57_7 : w54.cell? ⟨gb840, 7, none⟩ = some (.slice A1_7 l1_7.length c1_7) := (blk_cell BK840.out 7).trans rfl; have hcz57_8 : w54.cell? ⟨gb840, 8, none⟩ = some (.slice A1_8 l1_8.length c1_8) := (blk_cell BK840.out 8).trans rfl; have hcz57_9 : w54.cell? ⟨gb840, 9, none⟩ = some (.slice A1_9 l1_9.length c1_9) := (blk_cell BK840.out 9).trans rfl; have hcz57_10 : w54.cell? ⟨gb840, 10, none⟩ = some (.slice A1_10 l1_10.length c1_10) := (blk_cell BK840.out 10).trans rfl; have hcz57_11 : w54.cell? ⟨gb840, 11, none⟩ = some (.int .i64 a1_11) := (blk_cell BK840.out 11).trans rfl; have hcz57_12 : w54.cell? ⟨gb840, 12, none⟩ = some (.slice A1_12 l1_12.length c1_12) := (blk_cell BK840.out 12).trans rfl; have hfz57_0 := blk_frozen BK840.out 0; have hfz57_1 := blk_frozen BK840.out 1; have hfz57_2 := blk_frozen BK840.out 2; have hfz57_3 := blk_frozen BK840.out 3; have hfz57_4 := blk_frozen BK840.out 4; have hfz57_5 := blk_frozen BK840.out 5; have hfz57_6 := blk_frozen BK840.out 6; have hfz57_7 := blk_frozen BK840.out 7; have hfz57_8 := blk_frozen BK840.out 8; have hfz57_9 := blk_frozen BK840.out 9; have hfz57_10 := blk_frozen BK840.out 10; have hfz57_11 := blk_frozen BK840.out 11; have hfz57_12 := blk_frozen BK840.out 12) | ((with_reducible refine gate_callee (f := 83) rfl ?_); refine gl (some 9) Try.func83 #[.agg #[.slice A0_0 l0_0.length c0_0, .int .i64 a0_1, .int .i64 a0_2, .int .i64 a0_3, .slice A0_4 l0_4.length c0_4, .bool a0_5, .slice A0_6 l0_6.length c0_6, .slice A0_7 l0_7.length c0_7, .slice A0_8 l0_8.length c0_8], .agg #[.slice A1_0 l1_0.length c1_0, .int .i64 a1_1, .int .i64 a1_2, .int .i64 a1_3, .slice A1_4 l1_4.length c1_4, .bool a1_5, .slice A1_6 l1_6.length c1_6, .slice A1_7 l1_7.length c1_7, .slice A1_8 l1_8.length c1_8]] ?_; (with_reducible refine (laws_eqBook.calls k _ _ l0_0 a0_1 a0_2 a0_3 _ _ l0_4 a0_5 _ _ l0_6 _ _ l0_7 _ _ l0_8 _ _ l1_0 a1_1 a1_2 a1_3 _ _ l1_4 a1_5 _ _ l1_6 _ _ l1_7 _ _ l1_8 true _ ?side1 ?side2 ?side3 ?side4 ?side5 ?side6 ?side7 ?side8 ?side9 ?side10 ?side11 ?side12 ?side13 ?side14 ?side15 ?side16 ?side17 ?side18 ?side19 ?side20 A3.out).mono ?_); (case side1 => exact cc HR0_0 HB); (case side2 => exact HC0_0.out); (case side3 => exact cc HR0_4 HB); (case side4 => exact HC0_4.out); (case side5 => exact cc HR0_6 HB); (case side6 => exact HC0_6.out); (case side7 => exact cc HR0_7 HB); (case side8 => exact HC0_7.out); (case side9 => exact cc HR0_8 HB); (case side10 => exact HC0_8.out); (case side11 => exact cc HR1_0 HB); (case side12 => exact HC1_0.out); (case side13 => exact cc HR1_4 HB); (case side14 => exact HC1_4.out); (case side15 => exact cc HR1_6 HB); (case side16 => exact HC1_6.out); (case side17 => exact cc HR1_7 HB); (case side18 => exact HC1_7.out); (case side19 => exact cc HR1_8 HB); (case side20 => exact HC1_8.out); rintro e w58 ⟨rfl, hb⟩; refine ⟨_, rfl, ?_⟩; replace BK839 := kb BK839 hb; replace BK840 := kb BK840 hb; replace HB := hs_ HB hb; (try clear hb); (try clear hb2); (try clear hk); (try clear hi); have hcz59_0 : w58.cell? ⟨gb839, 0, none⟩ = some (.slice A0_0 l0_0.length c0_0) := (blk_cell BK839.out 0).trans rfl; have hcz59_1 : w58.cell? ⟨gb839, 1, none⟩ = some (.int .i64 a0_1) := (blk_cell BK839.out 1).trans rfl; have hcz59_2 : w58.cell? ⟨gb839, 2, none⟩ = some (.int .i64 a0_2) := (blk_cell BK839.out 2).trans rfl; have hcz59_3 : w58.cell? ⟨gb839, 3, none⟩ = some (.int .i64 a0_3) := (blk_cell BK839.out 3).trans rfl; have hcz59_4 : w58.cell? ⟨gb839, 4, none⟩ = some (.slice A0_4 l0_4.length c0_4) := (blk_cell BK839.out 4).trans rfl; have hcz59_5 : w58.cell? ⟨gb839, 5, none⟩ = some (.bool a0_5) := (blk_cell BK839.out 5).trans rfl; have hcz59_6 : w58.cell? ⟨gb839, 6, none⟩ = some (.slice A0_6 l0_6.length c0_6) := (blk_cell BK839.out 6).trans rfl; have hcz59_7 : w58.cell? ⟨gb839, 7, none⟩ = some (.slice A0_7 l0_7.length c0_7) := (blk_cell BK839.out 7).trans rfl; have hcz59_8 : w58.cell? ⟨gb839, 8, none⟩ = some (.slice A0_8 l0_8.length c0_8) := (blk_cell BK839.out 8).trans rfl; have hcz59_9 : w58.cell? ⟨gb839, 9, none⟩ = some (.slice A0_9 l0_9.length c0_9) := (blk_cell BK839.out 9).trans rfl; have hcz59_10 : w58.cell? ⟨gb839, 10, none⟩ = some (.slice A0_10 l0_10.length c0_10) := (blk_cell BK839.out 10).trans rfl; have hcz59_11 : w58.cell? ⟨gb839, 11, none⟩ = some (.int .i64 a0_11) := (blk_cell BK839.out 11).trans rfl; have hcz59_12 : w58.cell? ⟨gb839, 12, none⟩ = some (.slice A0_12 l0_12.length c0_12) := (blk_cell BK839.out 12).trans rfl; have hfz59_0 := blk_frozen BK839.out 0; have hfz59_1 := blk_frozen BK839.out 1; have hfz59_2 := blk_frozen BK839.out 2; have hfz59_3 := blk_frozen BK839.out 3; have hfz59_4 := blk_frozen BK839.out 4; have hfz59_5 := blk_frozen BK839.out 5; have hfz59_6 := blk_frozen BK839.out 6; have hfz59_7 := blk_frozen BK839.out 7; have hfz59_8 := blk_frozen BK839.out 8; have hfz59_9 := blk_frozen BK839.out 9; have hfz59_10 := blk_frozen BK839.out 10; have hfz59_11 := blk_frozen BK839.out 11; have hfz59_12 := blk_frozen BK839.out 12; have hcz60_0 : w58.cell? ⟨gb840, 0, none⟩ = some (.slice A1_0 l1_0.length c1_0) := (blk_cell BK840.out 0).trans rfl; have hcz60_1 : w58.cell? ⟨gb840, 1, none⟩ = some (.int .i64 a1_1) := (blk_cell BK840.out 1).trans rfl; have hcz60_2 : w58.cell? ⟨gb840, 2, none⟩ = some (.int .i64 a1_2) := (blk_cell BK840.out 2).trans rfl; have hcz60_3 : w58.cell? ⟨gb840, 3, none⟩ = some (.int .i64 a1_3) := (blk_cell BK840.out 3).trans rfl; have hcz60_4 : w58.cell? ⟨gb840, 4, none⟩ = some (.slice A1_4 l1_4.length c1_4) := (blk_cell BK840.out 4).trans rfl; have hcz60_5 : w58.cell? ⟨gb840, 5, none⟩ = some (.bool a1_5) := (blk_cell BK840.out 5).trans rfl; have hcz60_6 : w58.cell? ⟨gb840, 6, none⟩ = some (.slice A1_6 l1_6.length c1_6) := (blk_cell BK840.out 6).trans rfl; have hcz60_7 : w58.cell? ⟨gb840, 7, none⟩ = some (.slice A1_7 l1_7.length c1_7) := (blk_cell BK840.out 7).trans rfl; have hcz60_8 : w58.cell? ⟨gb840, 8, none⟩ = some (.slice A1_8 l1_8.length c1_8) := (blk_cell BK840.out 8).trans rfl; have hcz60_9 : w58.cell? ⟨gb840, 9, none⟩ = some (.slice A1_9 l1_9.length c1_9) := (blk_cell BK840.out 9).trans rfl; have hcz60_10 : w58.cell? ⟨gb840, 10, none⟩ = some (.slice A1_10 l1_10.length c1_10) := (blk_cell BK840.out 10).trans rfl; have hcz60_11 : w58.cell? ⟨gb840, 11, none⟩ = some (.int .i64 a1_11) := (blk_cell BK840.out 11).trans rfl; have hcz60_12 : w58.cell? ⟨gb840, 12, none⟩ = some (.slice A1_12 l1_12.length c1_12) := (blk_cell BK840.out 12).trans rfl; have hfz60_0 := blk_frozen BK840.out 0; have hfz60_1 := blk_frozen BK840.out 1; have hfz60_2 := blk_frozen BK840.out 2; have hfz60_3 := blk_frozen BK840.out 3; have hfz60_4 := blk_frozen BK840.out 4; have hfz60_5 := blk_frozen BK840.out 5; have hfz60_6 := blk_frozen BK840.out 6; have hfz60_7 := blk_frozen BK840.out 7; have hfz60_8 := blk_frozen BK840.out 8; have hfz60_9 := blk_frozen BK840.out 9; have hfz60_10 := blk_frozen BK840.out 10; have hfz60_11 := blk_frozen BK840.out 11; have hfz60_12 := blk_frozen BK840.out 12) | ((with_reducible refine gate_callee (f := 84) rfl ?_); refine gl (some 15) Try.func84 #[.slice A0_9 l0_9.length c0_9, .slice A1_9 l1_9.length c1_9] ?_; (with_reducible refine (laws_eqNoteS.calls k _ _ l0_9 _ _ l1_9 false _ ?side1 ?side2 ?side3 ?side4 A5.out).mono ?_); (case side1 => exact cc HR0_9 HB); (case side2 => exact HC0_9.out); (case side3 => exact cc HR1_9 HB); (case side4 => exact HC1_9.out); rintro e w61 ⟨rfl, hb⟩; refine ⟨_, rfl, ?_⟩; replace BK839 := kb BK839 hb; replace BK840 := kb BK840 hb; replace HB := hs_ HB hb; (try clear hb); (try clear hb2); (try clear hk); (try clear hi)))
      go_ret
      exact ⟨ee, bb HB⟩
  · replace c4 := Bool.eq_false_iff.mpr c4
    subst c4
    have H1 : (some false) = some r := by rw [if_neg (show ¬ (false = true) by decide)] at H; exact H
    clear H
    have H := H1
    clear H1
    obtain rfl := Option.some.inj H
    go_enter Try.func38, Try.ntmps38
    go_wp2_with (first | ((with_reducible refine gate_dst (N := 2) rfl ?_); refine bx (N := 2) (cs := #[.slice A0_0 l0_0.length c0_0, .int .i64 a0_1, .int .i64 a0_2, .int .i64 a0_3, .slice A0_4 l0_4.length c0_4, .bool a0_5, .slice A0_6 l0_6.length c0_6, .slice A0_7 l0_7.length c0_7, .slice A0_8 l0_8.length c0_8, .slice A0_9 l0_9.length c0_9, .slice A0_10 l0_10.length c0_10, .int .i64 a0_11, .slice A0_12 l0_12.length c0_12]) (t := 73) ?_; intro gb839 hg w62 hbox hb; have BK839 := Aside0.mk (hbox); have GW839 := gs hg HB; have GE839 := gs hg HB; replace HB := hs_ HB hb; clear hb hbox hg) | ((with_reducible refine gate_dst (N := 3) rfl ?_); refine bx (N := 3) (cs := #[.slice A1_0 l1_0.length c1_0, .int .i64 a1_1, .int .i64 a1_2, .int .i64 a1_3, .slice A1_4 l1_4.length c1_4, .bool a1_5, .slice A1_6 l1_6.length c1_6, .slice A1_7 l1_7.length c1_7, .slice A1_8 l1_8.length c1_8, .slice A1_9 l1_9.length c1_9, .slice A1_10 l1_10.length c1_10, .int .i64 a1_11, .slice A1_12 l1_12.length c1_12]) (t := 73) ?_; intro gb840 hg w63 hbox hb; have BK840 := Aside0.mk (hbox); have GW840 := gs hg HB; have GE840 := gs hg HB; replace HB := hs_ HB hb; have NB839_840 := gn hg BK839; have NB840_839 := gm hg BK839; replace BK839 := kb BK839 hb; clear hb hbox hg; have hnb64 := NB839_840.out; have hnc64 := NB840_839.out; have hcz65_0 : w63.cell? ⟨gb839, 0, none⟩ = some (.slice A0_0 l0_0.length c0_0) := (blk_cell BK839.out 0).trans rfl; have hcz65_1 : w63.cell? ⟨gb839, 1, none⟩ = some (.int .i64 a0_1) := (blk_cell BK839.out 1).trans rfl; have hcz65_2 : w63.cell? ⟨gb839, 2, none⟩ = some (.int .i64 a0_2) := (blk_cell BK839.out 2).trans rfl; have hcz65_3 : w63.cell? ⟨gb839, 3, none⟩ = some (.int .i64 a0_3) := (blk_cell BK839.out 3).trans rfl; have hcz65_4 : w63.cell? ⟨gb839, 4, none⟩ = some (.slice A0_4 l0_4.length c0_4) := (blk_cell BK839.out 4).trans rfl; have hcz65_5 : w63.cell? ⟨gb839, 5, none⟩ = some (.bool a0_5) := (blk_cell BK839.out 5).trans rfl; have hcz65_6 : w63.cell? ⟨gb839, 6, none⟩ = some (.slice A0_6 l0_6.length c0_6) := (blk_cell BK839.out 6).trans rfl; have hcz65_7 : w63.cell? ⟨gb839, 7, none⟩ = some (.slice A0_7 l0_7.length c0_7) := (blk_cell BK839.out 7).trans rfl; have hcz65_8 : w63.cell? ⟨gb839, 8, none⟩ = some (.slice A0_8 l0_8.length c0_8) := (blk_cell BK839.out 8).trans rfl; have hcz65_9 : w63.cell? ⟨gb839, 9, none⟩ = some (.slice A0_9 l0_9.length c0_9) := (blk_cell BK839.out 9).trans rfl; have hcz65_10 : w63.cell? ⟨gb839, 10, none⟩ = some (.slice A0_10 l0_10.length c0_10) := (blk_cell BK839.out 10).trans rfl; have hcz65_11 : w63.cell? ⟨gb839, 11, none⟩ = some (.int .i64 a0_11) := (blk_cell BK839.out 11).trans rfl; have hcz65_12 : w63.cell? ⟨gb839, 12, none⟩ = some (.slice A0_12 l0_12.length c0_12) := (blk_cell BK839.out 12).trans rfl; have hfz65_0 := blk_frozen BK839.out 0; have hfz65_1 := blk_frozen BK839.out 1; have hfz65_2 := blk_frozen BK839.out 2; have hfz65_3 := blk_frozen BK839.out 3; have hfz65_4 := blk_frozen BK839.out 4; have hfz65_5 := blk_frozen BK839.out 5; have hfz65_6 := blk_frozen BK839.out 6; have hfz65_7 := blk_frozen BK839.out 7; have hfz65_8 := blk_frozen BK839.out 8; have hfz65_9 := blk_frozen BK839.out 9; have hfz65_10 := blk_frozen BK839.out 10; have hfz65_11 := blk_frozen BK839.out 11; have hfz65_12 := blk_frozen BK839.out 12; have hcz66_0 : w63.cell? ⟨gb840, 0, none⟩ = some (.slice A1_0 l1_0.length c1_0) := (blk_cell BK840.out 0).trans rfl; have hcz66_1 : w63.cell? ⟨gb840, 1, none⟩ = some (.int .i64 a1_1) := (blk_cell BK840.out 1).trans rfl; have hcz66_2 : w63.cell? ⟨gb840, 2, none⟩ = some (.int .i64 a1_2) := (blk_cell BK840.out 2).trans rfl; have hcz66_3 : w63.cell? ⟨gb840, 3, none⟩ = some (.int .i64 a1_3) := (blk_cell BK840.out 3).trans rfl; have hcz66_4 : w63.cell? ⟨gb840, 4, none⟩ = some (.slice A1_4 l1_4.length c1_4) := (blk_cell BK840.out 4).trans rfl; have hcz66_5 : w63.cell? ⟨gb840, 5, none⟩ = some (.bool a1_5) := (blk_cell BK840.out 5).trans rfl; have hcz66_6 : w63.cell? ⟨gb840, 6, none⟩ = some (.slice A1_6 l1_6.length c1_6) := (blk_cell BK840.out 6).trans rfl; have hcz66_7 : w63.cell? ⟨gb840, 7, none⟩ = some (.slice A1_7 l1_7.length c1_7) := (blk_cell BK840.out 7).trans rfl; have hcz66_8 : w63.cell? ⟨gb840, 8, none⟩ = some (.slice A1_8 l1_8.length c1_8) := (blk_cell BK840.out 8).trans rfl; have hcz66_9 : w63.cell? ⟨gb840, 9, none⟩ = some (.slice A1_9 l1_9.length c1_9) := (blk_cell BK840.out 9).trans rfl; have hcz66_10 : w63.cell? ⟨gb840, 10, none⟩ = some (.slice A1_10 l1_10.length c1_10) := (blk_cell BK840.out 10).trans rfl; have hcz66_11 : w63.cell? ⟨gb840, 11, none⟩ = some (.int .i64 a1_11) := (blk_cell BK840.out 11).trans rfl; have hcz66_12 : w63.cell? ⟨gb840, 12, none⟩ = some (.slice A1_12 l1_12.length c1_12) := (blk_cell BK840.out 12).trans rfl; have hfz66_0 := blk_frozen BK840.out 0; have hfz66_1 := blk_frozen BK840.out 1; have hfz66_2 := blk_frozen BK840.out 2; have hfz66_3 := blk_frozen BK840.out 3; have hfz66_4 := blk_frozen BK840.out 4; have hfz66_5 := blk_frozen BK840.out 5; have hfz66_6 := blk_frozen BK840.out 6; have hfz66_7 := blk_frozen BK840.out 7; have hfz66_8 := blk_frozen BK840.out 8; have hfz66_9 := blk_frozen BK840.out 9; have hfz66_10 := blk_frozen BK840.out 10; have hfz66_11 := blk_frozen BK840.out 11; have hfz66_12 := blk_frozen BK840.out 12) | ((with_reducible refine gate_callee (f := 83) rfl ?_); refine gl (some 9) Try.func83 #[.agg #[.slice A0_0 l0_0.length c0_0, .int .i64 a0_1, .int .i64 a0_2, .int .i64 a0_3, .slice A0_4 l0_4.length c0_4, .bool a0_5, .slice A0_6 l0_6.length c0_6, .slice A0_7 l0_7.length c0_7, .slice A0_8 l0_8.length c0_8], .agg #[.slice A1_0 l1_0.length c1_0, .int .i64 a1_1, .int .i64 a1_2, .int .i64 a1_3, .slice A1_4 l1_4.length c1_4, .bool a1_5, .slice A1_6 l1_6.length c1_6, .slice A1_7 l1_7.length c1_7, .slice A1_8 l1_8.length c1_8]] ?_; (with_reducible refine (laws_eqBook.calls k _ _ l0_0 a0_1 a0_2 a0_3 _ _ l0_4 a0_5 _ _ l0_6 _ _ l0_7 _ _ l0_8 _ _ l1_0 a1_1 a1_2 a1_3 _ _ l1_4 a1_5 _ _ l1_6 _ _ l1_7 _ _ l1_8 false _ ?side1 ?side2 ?side3 ?side4 ?side5 ?side6 ?side7 ?side8 ?side9 ?side10 ?side11 ?side12 ?side13 ?side14 ?side15 ?side16 ?side17 ?side18 ?side19 ?side20 A3.out).mono ?_); (case side1 => exact cc HR0_0 HB); (case side2 => exact HC0_0.out); (case side3 => exact cc HR0_4 HB); (case side4 => exact HC0_4.out); (case side5 => exact cc HR0_6 HB); (case side6 => exact HC0_6.out); (case side7 => exact cc HR0_7 HB); (case side8 => exact HC0_7.out); (case side9 => exact cc HR0_8 HB); (case side10 => exact HC0_8.out); (case side11 => exact cc HR1_0 HB); (case side12 => exact HC1_0.out); (case side13 => exact cc HR1_4 HB); (case side14 => exact HC1_4.out); (case side15 => exact cc HR1_6 HB); (case side16 => exact HC1_6.out); (case side17 => exact cc HR1_7 HB); (case side18 => exact HC1_7.out); (case side19 => exact cc HR1_8 HB); (case side20 => exact HC1_8.out); rintro e w67 ⟨rfl, hb⟩; refine ⟨_, rfl, ?_⟩; replace BK839 := kb BK839 hb; replace BK840 := kb BK840 hb; replace HB := hs_ HB hb; (try clear hb); (try clear hb2); (try clear hk); (try clear hi)))
    go_ret
    exact ⟨ee, bb HB⟩
end Go.Proofs.Ytibmeomlokigjaa.Q
namespace Go.Proofs.Ytibmeomlokigjaa.Q
open Go.RowKit Go.Proofs.YtibmeomlokigjaaW.PrintWords Go.Proofs.YtibmeomlokigjaaW.PrintLast Go.Proofs.YtibmeomlokigjaaW.PrintMore
attribute [local go_sem] max2_int min2_int max_two min_two max_three min_three max_four min_four
set_option linter.unusedVariables false
set_option linter.unusedSimpArgs false
def laws_markText.l0 : Nat → Int → ByteArray → Option (ByteArray)
  | 0, _, _ => none
  | k + 1, x0, x3 => if x0 > 0 then ((some (([(wrap64 (48 + (Int.tmod x0 10))) % 256] : List Int) : List Int)).bind fun y845 => (if (strOfNums y845).size + x3.size ≤ 9223372036854775807 then (laws_markText.l0 k (wrap64 (Int.tdiv x0 10)) ((strOfNums y845) ++ x3)) else (none))) else (if 1 + x3.size ≤ 9223372036854775807 then (some ((⟨#[109]⟩ : ByteArray) ++ x3)) else (none))
def laws_markText.f (k : Nat) (a0 : Int) : Option (ByteArray) := if a0 ≤ 0 then (some (⟨#[109, 48]⟩ : ByteArray)) else (laws_markText.l0 k a0 (⟨#[]⟩ : ByteArray))
set_option maxHeartbeats 8000000 in
set_option maxRecDepth 100000 in
theorem laws_markText.calls (k : Nat) (a0 : Int) (r : ByteArray) (w : World) (h : laws_markText.f k a0 = some r) :
    Calls Try.prog 147 #[.int .i64 a0] w fun e w' => e = .returned (.string r) ∧ Below w.heap.size w w' := by
  have HB := Aside0.mk (Below.refl w.heap.size w)
  have H : (if a0 ≤ 0 then (some (⟨#[109, 48]⟩ : ByteArray)) else (laws_markText.l0 k a0 (⟨#[]⟩ : ByteArray))) = some r := h
  clear h
  by_cases c2 : a0 ≤ 0
  · rw [if_pos c2] at H
    have c2b0 : decide (a0 ≤ 0) = true := decide_eq_true c2
    clear c2
    obtain rfl := Option.some.inj H
    go_enter Try.func147, Try.ntmps147
    go_wp2
    go_ret
    exact ⟨ee, bb HB⟩
  · rw [if_neg c2] at H
    have c2b0 : decide (a0 ≤ 0) = false := decide_eq_false c2
    clear c2
    have H' := Aside0.mk H
    clear H
    go_enter Try.func147, Try.ntmps147
    go_wp2
    go_loopg [0, 3] k (fun kq v0 v3 w' => ∃ (x0_1 : Int) (x3_1 : ByteArray), v0 = .int .i64 x0_1 ∧ v3 = .string x3_1 ∧ Aside0 (laws_markText.l0 kq x0_1 x3_1 = some r) ∧ Aside0 (kq ≤ k) ∧ Aside0 (Below w.heap.size w w'))
    case atStart => exact ⟨(a0), ((⟨#[]⟩ : ByteArray)), e2_, e2_, H', ⟨Nat.le_refl _⟩, ⟨bb HB⟩⟩
    case round =>
      clear H'
      (try clear c1)
      (try clear c2)
      (try clear c2b0)
      (try clear p2)
      obtain ⟨x0_1, x3_1, rfl, rfl, HA, HK1, HB⟩ := hrel
      cases gk with
      | zero => exact absurd HA.out (by simp [laws_markText.l0])
      | succ k1 =>
        have H := HA.out
        clear HA
        simp only [laws_markText.l0] at H
        by_cases c3 : x0_1 > 0
        · rw [if_pos c3] at H
          have c3b0 : decide (0 < x0_1) = true := decide_eq_true c3
          clear c3
          obtain ⟨y845, hy845⟩ : ∃ y_ : List Int, y_ = (([(wrap64 (48 + (Int.tmod x0_1 10))) % 256] : List Int)) := ⟨_, rfl⟩
          replace H : (if (strOfNums y845).size + x3_1.size ≤ 9223372036854775807 then (laws_markText.l0 k1 (wrap64 (Int.tdiv x0_1 10)) ((strOfNums y845) ++ x3_1)) else (none)) = some r := by first | (rw [hy845]; with_reducible exact H) | (have H2_ := (Option.bind_some _ _).symm.trans H; rw [hy845]; with_reducible exact H2_) | (have H2_ := (Option.bind_some _ _).symm.trans H; with_reducible exact H2_) | with_reducible exact H | (rw [hy845]; exact H) | exact H
          have Ny845 := Aside0.mk hy845
          clear hy845
          by_cases c4 : (strOfNums y845).size + x3_1.size ≤ 9223372036854775807
          · rw [if_pos c4] at H
            have c4b0 := eq_true c4
            have c4b1 : decide ((strOfNums y845).size + x3_1.size ≤ 9223372036854775807) = true := decide_eq_true c4
            try have c4b2 : (9223372036854775807 < (strOfNums y845).size + x3_1.size) = False := eq_false (Nat.not_lt.2 c4)
            have H' := Aside0.mk H
            clear H
            go_wp2_with (first | ((with_reducible refine gate_dst (N := 12) rfl ?_); refine Kd.R_lit (Kd.int .u8) _ 5 ?hg (N := 12) ?hd (xs := ([(wrap64 (48 + (Int.tmod x0_1 10))) % 256] : List Int)) (inner := [.int .u8 ((wrap64 (48 + (Int.tmod x0_1 10))) % 256)]) (ok := fun _ => True) (okp := fun _ => True) ?hr ?hp (fun _ hk => hk) trivial (Below.refl _ _) (Nat.le_refl _) (by simp) ?_; (case hd => rfl); (case hg => rfl); (case hr => first | (go_simp; done) | (go_simp; rfl)); (case hp => exact (Reps.one (show Kd.M (Kd.int .u8) _ _ _ ((wrap64 (48 + (Int.tmod x0_1 10))) % 256) [.int .u8 ((wrap64 (48 + (Int.tmod x0_1 10))) % 256)] from rfl) (Reps.none _ _))); intro v846 w5 ho6 hb hg_ hnew_; clear hg_ hnew_; (first | rw [← Ny845.out] at ho6 | (simp only [Int.reduceToNat] at ho6; rw [← Ny845.out] at ho6)); have HO847 := kl ho6 HB; replace HB := hs_ HB hb; clear hb ho6; have hcv7 := own_string (P := Try.prog) Try.underlying22 Try.underlying5 Try.underlying9 (Kd.own_of_R HO847.out)))
            go_roundg k1
            case measure => have := HK1.out; omega
            case rel => exact ⟨(wrap64 (Int.tdiv x0_1 10)), ((strOfNums y845) ++ x3_1), e2_, e2_, H', ⟨by have := HK1.out; omega⟩, ⟨bb HB⟩⟩
          · rw [if_neg c4] at H
            exact absurd H (by simp)
        · rw [if_neg c3] at H
          have c3b0 : decide (0 < x0_1) = false := decide_eq_false c3
          clear c3
          by_cases c8 : 1 + x3_1.size ≤ 9223372036854775807
          · rw [if_pos c8] at H
            have c8b0 := eq_true c8
            have c8b1 : decide (1 + x3_1.size ≤ 9223372036854775807) = true := decide_eq_true c8
            try have c8b2 : (9223372036854775807 < 1 + x3_1.size) = False := eq_false (Nat.not_lt.2 c8)
            obtain rfl := Option.some.inj H
            go_wp2
            go_ret
            exact ⟨ee, bb HB⟩
          · rw [if_neg c8] at H
            exact absurd H (by simp)
end Go.Proofs.Ytibmeomlokigjaa.Q
namespace Go.Proofs.Ytibmeomlokigjaa.Q
open Go.RowKit Go.Proofs.YtibmeomlokigjaaW.PrintWords Go.Proofs.YtibmeomlokigjaaW.PrintLast Go.Proofs.YtibmeomlokigjaaW.PrintMore
attribute [local go_sem] max2_int min2_int max_two min_two max_three min_three max_four min_four
set_option linter.unusedVariables false
set_option linter.unusedSimpArgs false
def laws_markTeamS.l0 : Nat → List (S132) → Int → Int → Option (Int × (List (S132)))
  | 0, _, _, _ => none
  | k + 1, x0, x1, x5 => if x5 < (x0.length : Int) then ((laws_markText.f k x1).bind fun t848 => (if 0 ≤ x5 then ((some (x0.set (x5 : Int).toNat (⟨t848, (rd_T132 x0 x5).f1, (rd_T132 x0 x5).f2⟩ : S132) : List (S132))).bind fun y849 => ((some (y849.set (x5 : Int).toNat (⟨(rd_T132 y849 x5).f0, wrap64 (x1 + 1), (rd_T132 y849 x5).f2⟩ : S132) : List (S132))).bind fun y850 => (laws_markTeamS.l0 k (y850.set (x5 : Int).toNat (⟨(rd_T132 y850 x5).f0, (rd_T132 y850 x5).f1, wrap64 ((wrap64 (x1 + 1)) + 1)⟩ : S132)) (wrap64 ((wrap64 ((wrap64 (x1 + 1)) + 1)) + 1)) (wrap64 (x5 + 1))))) else (none))) else (some (x1, x0))
def laws_markTeamS.f (k : Nat) (l0 : List (S132)) (a1 : Int) : Option (Int × (List (S132))) := laws_markTeamS.l0 k l0 a1 0
set_option maxHeartbeats 8000000 in
set_option maxRecDepth 100000 in
theorem laws_markTeamS.calls (k : Nat) (P0_ : Nat → Prop) (u9000_ : Value) (l0 : List (S132)) (a1 : Int) (r1 : Int) (r2 : List (S132)) (w0 w : World) (hB : Below w0.heap.size w0 w) (ho0 : Kd.R k132 132 w w0.heap.size P0_ u9000_ l0) (h : laws_markTeamS.f k l0 a1 = some (r1, r2)) :
    Calls Try.prog 125 #[u9000_, .int .i64 a1] w fun e w' => e = .returned (.int .i64 r1) ∧ Kd.R k132 132 w' w0.heap.size (fun k_ => (P0_ k_ ∨ w.heap.size ≤ k_)) u9000_ r2 ∧ Below w0.heap.size w0 w' ∧ Kept w w' (fun k_ => P0_ k_) := by
  have HO0 := Aside0.mk (show Kd.R k132 132 w w0.heap.size (fun k_ => (P0_ k_ ∨ w.heap.size ≤ k_)) u9000_ l0 from Kd.R_mono ho0 (fun k_ hk => (.inl hk)))
  have HK := Aside0.mk (Kept.refl w (fun k_ => P0_ k_))
  have HW0 := Aside0.mk hB.size
  have HB := Aside0.mk hB
  clear hB
  have H : (laws_markTeamS.l0 k l0 a1 0) = some (r1, r2) := h
  clear h
  have H' := Aside0.mk H
  clear H
  go_enter Try.func125, Try.ntmps125
  go_wp2
  go_loopg [1, 5] k (fun kq v1 v5 w' => ∃ (x0_1 : List (S132)) (x1_1 : Int) (x5_1 : Int), v1 = .int .i64 x1_1 ∧ v5 = .int .i64 x5_1 ∧ Aside0 (laws_markTeamS.l0 kq x0_1 x1_1 x5_1 = some (r1, r2)) ∧ Aside0 (kq ≤ k) ∧ Aside0 (Kd.R k132 132 w' w0.heap.size (fun k_ => (P0_ k_ ∨ w.heap.size ≤ k_)) u9000_ x0_1) ∧ Aside0 (Kept w w' (fun k_ => P0_ k_)) ∧ Aside0 (Below w0.heap.size w0 w'))
  case atStart => exact ⟨(l0), (a1), (0), e2_, e2_, H', ⟨Nat.le_refl _⟩, ⟨rr HO0⟩, ⟨by repeat (first | (with_reducible first | exact HK.out | apply Kept.alloc | apply Kept.drewN | apply Kept.drew) | exact HK.out)⟩, ⟨bb HB⟩⟩
  case round =>
    clear H'
    (try clear c1)
    (try clear p2)
    obtain ⟨x0_1, x1_1, x5_1, rfl, rfl, HA, HK1, HO_0, HK, HB⟩ := hrel
    cases gk with
    | zero => exact absurd HA.out (by simp [laws_markTeamS.l0])
    | succ k1 =>
      have H := HA.out
      clear HA
      simp only [laws_markTeamS.l0] at H
      by_cases c3 : x5_1 < (x0_1.length : Int)
      · rw [if_pos c3] at H
        have c3b0 : decide (x5_1 < (x0_1.length : Int)) = true := decide_eq_true c3
        clear c3
        replace H := Option.bind_eq_some_iff.mp H
        obtain ⟨t848, A40, H⟩ := H
        replace H : (if 0 ≤ x5_1 then ((some (x0_1.set (x5_1 : Int).toNat (⟨t848, (rd_T132 x0_1 x5_1).f1, (rd_T132 x0_1 x5_1).f2⟩ : S132) : List (S132))).bind fun y849 => ((some (y849.set (x5_1 : Int).toNat (⟨(rd_T132 y849 x5_1).f0, wrap64 (x1_1 + 1), (rd_T132 y849 x5_1).f2⟩ : S132) : List (S132))).bind fun y850 => (laws_markTeamS.l0 k1 (y850.set (x5_1 : Int).toNat (⟨(rd_T132 y850 x5_1).f0, (rd_T132 y850 x5_1).f1, wrap64 ((wrap64 (x1_1 + 1)) + 1)⟩ : S132)) (wrap64 ((wrap64 ((wrap64 (x1_1 + 1)) + 1)) + 1)) (wrap64 (x5_1 + 1))))) else (none)) = some (r1, r2) := H
        have A4 := Aside0.mk A40
        clear A40
        by_cases c5 : 0 ≤ x5_1
        · rw [if_pos c5] at H
          have c5b0 : decide (0 ≤ x5_1) = true := decide_eq_true c5
          clear c5
          obtain ⟨y849, hy849⟩ : ∃ y_ : List (S132), y_ = (x0_1.set (x5_1 : Int).toNat (⟨t848, (rd_T132 x0_1 x5_1).f1, (rd_T132 x0_1 x5_1).f2⟩ : S132)) := ⟨_, rfl⟩
          replace H : ((some (y849.set (x5_1 : Int).toNat (⟨(rd_T132 y849 x5_1).f0, wrap64 (x1_1 + 1), (rd_T132 y849 x5_1).f2⟩ : S132) : List (S132))).bind fun y850 => (laws_markTeamS.l0 k1 (y850.set (x5_1 : Int).toNat (⟨(rd_T132 y850 x5_1).f0, (rd_T132 y850 x5_1).f1, wrap64 ((wrap64 (x1_1 + 1)) + 1)⟩ : S132)) (wrap64 ((wrap64 ((wrap64 (x1_1 + 1)) + 1)) + 1)) (wrap64 (x5_1 + 1)))) = some (r1, r2) := by first | (rw [hy849]; with_reducible exact H) | (have H2_ := (Option.bind_some _ _).symm.trans H; rw [hy849]; with_reducible exact H2_) | (have H2_ := (Option.bind_some _ _).symm.trans H; with_reducible exact H2_) | with_reducible exact H | (rw [hy849]; exact H) | exact H
          have Ny849 := Aside0.mk hy849
          clear hy849
          obtain ⟨y850, hy850⟩ : ∃ y_ : List (S132), y_ = (y849.set (x5_1 : Int).toNat (⟨(rd_T132 y849 x5_1).f0, wrap64 (x1_1 + 1), (rd_T132 y849 x5_1).f2⟩ : S132)) := ⟨_, rfl⟩
          replace H : (laws_markTeamS.l0 k1 (y850.set (x5_1 : Int).toNat (⟨(rd_T132 y850 x5_1).f0, (rd_T132 y850 x5_1).f1, wrap64 ((wrap64 (x1_1 + 1)) + 1)⟩ : S132)) (wrap64 ((wrap64 ((wrap64 (x1_1 + 1)) + 1)) + 1)) (wrap64 (x5_1 + 1))) = some (r1, r2) := by first | (rw [hy850]; with_reducible exact H) | (have H2_ := (Option.bind_some _ _).symm.trans H; rw [hy850]; with_reducible exact H2_) | (have H2_ := (Option.bind_some _ _).symm.trans H; with_reducible exact H2_) | with_reducible exact H | (rw [hy850]; exact H) | exact H
          have Ny850 := Aside0.mk hy850
          clear hy850
          obtain ⟨y851, hy851⟩ : ∃ y_ : List (S132), y_ = (y850.set (x5_1 : Int).toNat (⟨(rd_T132 y850 x5_1).f0, (rd_T132 y850 x5_1).f1, wrap64 ((wrap64 (x1_1 + 1)) + 1)⟩ : S132)) := ⟨_, rfl⟩
          replace H : (laws_markTeamS.l0 k1 y851 (wrap64 ((wrap64 ((wrap64 (x1_1 + 1)) + 1)) + 1)) (wrap64 (x5_1 + 1))) = some (r1, r2) := by first | (rw [hy851]; with_reducible exact H) | (have H2_ := (Option.bind_some _ _).symm.trans H; rw [hy851]; with_reducible exact H2_) | (have H2_ := (Option.bind_some _ _).symm.trans H; with_reducible exact H2_) | with_reducible exact H | (rw [hy851]; exact H) | exact H
          have Ny851 := Aside0.mk hy851
          clear hy851
          have H' := Aside0.mk H
          clear H
          obtain ⟨Ao9, co9, eo9⟩ := Kd.R_slice HO_0.out
          subst eo9
          go_wp2_with (first | ((with_reducible refine gate_callee (f := 147) rfl ?_); refine gl (some 15) Try.func147 #[.int .i64 x1_1] ?_; (with_reducible refine (laws_markText.calls k1 x1_1 t848 _ A4.out).mono ?_); rintro e w10 ⟨rfl, hb⟩; refine ⟨_, rfl, ?_⟩; replace HO_0 := kr HO_0 hb; replace HK := Aside0.mk (Kept.below (S := (fun k_ => P0_ k_)) (by repeat (first | (with_reducible first | exact HK.out | apply Kept.alloc | apply Kept.drewN | apply Kept.drew) | exact HK.out)) hb); replace HB := hs_ HB hb; (try clear hb); (try clear hb2); (try clear hk); (try clear hi); have p6 : 0 ≤ (x5_1 : Int) := of_decide_eq_true (by first | (with_reducible assumption) | assumption); have q6 : (x5_1 : Int) < ((x0_1.length : Int) : Int) := of_decide_eq_true (by first | (with_reducible assumption) | assumption); obtain ⟨go6, co6, eo6, gb6, gl6, cl6, HG6⟩ := Kd.R_form HO_0.out (by omega); (first | cases eo6 | (injection eo6 with ea_ en_ ec_; (first | subst ea_ | (injection ea_ with ea_; subst ea_)); subst ec_; clear en_)); have GB6 := Aside0.mk gb6; have GG6 := Aside0.mk HG6; clear gb6 gl6 HG6; have HMgo6 := Aside0.mk (show (P0_ go6 ∨ w.heap.size ≤ go6) from (HO_0.out.1 _ rfl)); obtain ⟨ce6, hcl6, hM6, hcc6, hfr6⟩ := Kd.R_elem HO_0.out z132 (x5_1 : Int) p6 q6; obtain rfl := k132_openM hM6; have hx6_0 : w10.cell? ⟨go6, (x5_1 : Int).toNat * 3, none⟩ = some (.string ((rd_T132 x0_1 x5_1).f0)) := hcc6 0 _ rfl; have hx6_1 : w10.cell? ⟨go6, (x5_1 : Int).toNat * 3 + 1, none⟩ = some (.int .i64 ((rd_T132 x0_1 x5_1).f1)) := hcc6 1 _ rfl; have hx6_2 : w10.cell? ⟨go6, (x5_1 : Int).toNat * 3 + 2, none⟩ = some (.int .i64 ((rd_T132 x0_1 x5_1).f2)) := hcc6 2 _ rfl; have hf6_0 : w10.frozen? ⟨go6, (x5_1 : Int).toNat * 3, none⟩ = false := hfr6 0; have hf6_1 : w10.frozen? ⟨go6, (x5_1 : Int).toNat * 3 + 1, none⟩ = false := hfr6 1; have hf6_2 : w10.frozen? ⟨go6, (x5_1 : Int).toNat * 3 + 2, none⟩ = false := hfr6 2; clear hcl6 hcc6 hfr6 hM6; replace p6 := eq_true p6; replace q6 := eq_true q6; have HX11 := Aside0.mk (show Kd.R k132 132 w10 w0.heap.size (fun k_ => (P0_ k_ ∨ w.heap.size ≤ k_)) (.slice (some ⟨go6, 0, none⟩) x0_1.length co9) x0_1 from (rr HO_0)); obtain ⟨ce11, hcl11, hM11, hcc11, hfr11⟩ := Kd.R_elem HX11.out z132 (x5_1 : Int) (of_decide_eq_true (by first | (with_reducible assumption) | assumption)) (by have h_ : (x5_1 : Int) < ((x0_1.length : Int) : Int) := of_decide_eq_true (by first | (with_reducible assumption) | assumption); first | exact h_ | (have e_ := (Kd.R_reads' HO_0.out).1; omega) | simpa using h_); obtain rfl := k132_openM hM11; have HP11 := Kd.R_seg HX11.out (x5_1 : Int) (of_decide_eq_true (by first | (with_reducible assumption) | assumption)) (by have h_ : (x5_1 : Int) < ((x0_1.length : Int) : Int) := of_decide_eq_true (by first | (with_reducible assumption) | assumption); first | exact h_ | (have e_ := (Kd.R_reads' HO_0.out).1; omega) | simpa using h_) (seg := [.string t848]) (j := 0) hcl11 hcc11 (show 1 ≤ 3 from by decide) (x' := (⟨t848, (rd_T132 x0_1 x5_1).f1, (rd_T132 x0_1 x5_1).f2⟩ : S132)) (k132_mkM _ _ _ (⟨t848, (rd_T132 x0_1 x5_1).f1, (rd_T132 x0_1 x5_1).f2⟩ : S132) ) (fun _ hk => hk); have hx11_0 := hcc11 0 _ rfl; (try simp only [show (k132).sz = 3 from rfl, Nat.mul_one, Nat.add_zero] at hx11_0); have hf11_0 := hfr11 0; (try simp only [show (k132).sz = 3 from rfl, Nat.mul_one, Nat.add_zero] at hf11_0); clear hcl11 hcc11 hfr11 hM11) | ((with_reducible refine gate_store (t := 9) (p := 17) rfl ?_); refine store_event (t := 9) (p := 17) (v := ?vo_w12) (w1 := (w10.setCell ⟨go6, (x5_1 : Int).toNat * 3, none⟩ (.string t848))) ?hg ?ho ?hn ?hr ?_; (case ho => rfl); (case hg => rfl); (case hn => rfl); (case hr => first | (go_simp; done) | (go_simp; rfl)); intro w12 hw; have hg : w10.grownBy w12 (some go6) := (by rw [hw]; exact HP11.2); have hp_ : Kd.R k132 132 w12 w0.heap.size (fun k_ => (P0_ k_ ∨ w.heap.size ≤ k_)) (.slice (some ⟨go6, 0, none⟩) x0_1.length co9) y849 := (by rw [hw, Ny849.out]; exact HP11.1); clear HP11; replace HB := Aside0.mk (by rw [hw]; exact below_set (HB.out) GB6.out : Below w0.heap.size w0 w12); replace HK := Aside0.mk (Kept.of_grown (S := (fun k_ => P0_ k_)) hg (by repeat (first | (with_reducible first | exact HK.out | apply Kept.alloc | apply Kept.drewN | apply Kept.drew) | exact HK.out)) (fun k_ e_ => (HO_0.out.1 k_ e_))); replace HO_0 := Aside0.mk (hp_); clear hg hw hp_; have p7 : 0 ≤ (x5_1 : Int) := of_decide_eq_true (by first | (with_reducible assumption) | assumption); have q7 : (x5_1 : Int) < ((x0_1.length : Int) : Int) := of_decide_eq_true (by first | (with_reducible assumption) | assumption); obtain ⟨ce7, hcl7, hM7, hcc7, hfr7⟩ := Kd.R_elem HO_0.out z132 (x5_1 : Int) p7 q7; obtain rfl := k132_openM hM7; have hx7_0 : w12.cell? ⟨go6, (x5_1 : Int).toNat * 3, none⟩ = some (.string ((rd_T132 y849 x5_1).f0)) := hcc7 0 _ rfl; have hx7_1 : w12.cell? ⟨go6, (x5_1 : Int).toNat * 3 + 1, none⟩ = some (.int .i64 ((rd_T132 y849 x5_1).f1)) := hcc7 1 _ rfl; have hx7_2 : w12.cell? ⟨go6, (x5_1 : Int).toNat * 3 + 2, none⟩ = some (.int .i64 ((rd_T132 y849 x5_1).f2)) := hcc7 2 _ rfl; have hf7_0 : w12.frozen? ⟨go6, (x5_1 : Int).toNat * 3, none⟩ = false := hfr7 0; have hf7_1 : w12.frozen? ⟨go6, (x5_1 : Int).toNat * 3 + 1, none⟩ = false := hfr7 1; have hf7_2 : w12.frozen? ⟨go6, (x5_1 : Int).toNat * 3 + 2, none⟩ = false := hfr7 2; clear hcl7 hcc7 hfr7 hM7; replace p7 := eq_true p7; replace q7 := eq_true q7; have HX13 := Aside0.mk (show Kd.R k132 132 w12 w0.heap.size (fun k_ => (P0_ k_ ∨ w.heap.size ≤ k_)) (.slice (some ⟨go6, 0, none⟩) x0_1.length co9) y849 from (rr HO_0)); obtain ⟨ce13, hcl13, hM13, hcc13, hfr13⟩ := Kd.R_elem HX13.out z132 (x5_1 : Int) (of_decide_eq_true (by first | (with_reducible assumption) | assumption)) (by have h_ : (x5_1 : Int) < ((x0_1.length : Int) : Int) := of_decide_eq_true (by first | (with_reducible assumption) | assumption); first | exact h_ | (have e_ := (Kd.R_reads' HO_0.out).1; omega) | simpa using h_); obtain rfl := k132_openM hM13; have HP13 := Kd.R_seg HX13.out (x5_1 : Int) (of_decide_eq_true (by first | (with_reducible assumption) | assumption)) (by have h_ : (x5_1 : Int) < ((x0_1.length : Int) : Int) := of_decide_eq_true (by first | (with_reducible assumption) | assumption); first | exact h_ | (have e_ := (Kd.R_reads' HO_0.out).1; omega) | simpa using h_) (seg := [.int .i64 (wrap64 (x1_1 + 1))]) (j := 1) hcl13 hcc13 (show 2 ≤ 3 from by decide) (x' := (⟨(rd_T132 y849 x5_1).f0, wrap64 (x1_1 + 1), (rd_T132 y849 x5_1).f2⟩ : S132)) (k132_mkM _ _ _ (⟨(rd_T132 y849 x5_1).f0, wrap64 (x1_1 + 1), (rd_T132 y849 x5_1).f2⟩ : S132) ) (fun _ hk => hk); have hx13_1 := hcc13 1 _ rfl; (try simp only [show (k132).sz = 3 from rfl, Nat.mul_one, Nat.add_zero] at hx13_1); have hf13_1 := hfr13 1; (try simp only [show (k132).sz = 3 from rfl, Nat.mul_one, Nat.add_zero] at hf13_1); clear hcl13 hcc13 hfr13 hM13) | ((with_reducible refine gate_store (t := 3) (p := 24) rfl ?_); refine store_event (t := 3) (p := 24) (v := ?vo_w14) (w1 := (w12.setCell ⟨go6, (x5_1 : Int).toNat * 3 + 1, none⟩ (.int .i64 (wrap64 (x1_1 + 1))))) ?hg ?ho ?hn ?hr ?_; (case ho => rfl); (case hg => rfl); (case hn => rfl); (case hr => first | (go_simp; done) | (go_simp; rfl)); intro w14 hw; have hg : w12.grownBy w14 (some go6) := (by rw [hw]; exact HP13.2); have hp_ : Kd.R k132 132 w14 w0.heap.size (fun k_ => (P0_ k_ ∨ w.heap.size ≤ k_)) (.slice (some ⟨go6, 0, none⟩) x0_1.length co9) y850 := (by rw [hw, Ny850.out]; exact HP13.1); clear HP13; replace HB := Aside0.mk (by rw [hw]; exact below_set (HB.out) GB6.out : Below w0.heap.size w0 w14); replace HK := Aside0.mk (Kept.of_grown (S := (fun k_ => P0_ k_)) hg (by repeat (first | (with_reducible first | exact HK.out | apply Kept.alloc | apply Kept.drewN | apply Kept.drew) | exact HK.out)) (fun k_ e_ => (HO_0.out.1 k_ e_))); replace HO_0 := Aside0.mk (hp_); clear hg hw hp_; have p8 : 0 ≤ (x5_1 : Int) := of_decide_eq_true (by first | (with_reducible assumption) | assumption); have q8 : (x5_1 : Int) < ((x0_1.length : Int) : Int) := of_decide_eq_true (by first | (with_reducible assumption) | assumption); obtain ⟨ce8, hcl8, hM8, hcc8, hfr8⟩ := Kd.R_elem HO_0.out z132 (x5_1 : Int) p8 q8; obtain rfl := k132_openM hM8; have hx8_0 : w14.cell? ⟨go6, (x5_1 : Int).toNat * 3, none⟩ = some (.string ((rd_T132 y850 x5_1).f0)) := hcc8 0 _ rfl; have hx8_1 : w14.cell? ⟨go6, (x5_1 : Int).toNat * 3 + 1, none⟩ = some (.int .i64 ((rd_T132 y850 x5_1).f1)) := hcc8 1 _ rfl; have hx8_2 : w14.cell? ⟨go6, (x5_1 : Int).toNat * 3 + 2, none⟩ = some (.int .i64 ((rd_T132 y850 x5_1).f2)) := hcc8 2 _ rfl; have hf8_0 : w14.frozen? ⟨go6, (x5_1 : Int).toNat * 3, none⟩ = false := hfr8 0; have hf8_1 : w14.frozen? ⟨go6, (x5_1 : Int).toNat * 3 + 1, none⟩ = false := hfr8 1; have hf8_2 : w14.frozen? ⟨go6, (x5_1 : Int).toNat * 3 + 2, none⟩ = false := hfr8 2; clear hcl8 hcc8 hfr8 hM8; replace p8 := eq_true p8; replace q8 := eq_true q8; have HX15 := Aside0.mk (show Kd.R k132 132 w14 w0.heap.size (fun k_ => (P0_ k_ ∨ w.heap.size ≤ k_)) (.slice (some ⟨go6, 0, none⟩) x0_1.length co9) y850 from (rr HO_0)); obtain ⟨ce15, hcl15, hM15, hcc15, hfr15⟩ := Kd.R_elem HX15.out z132 (x5_1 : Int) (of_decide_eq_true (by first | (with_reducible assumption) | assumption)) (by have h_ : (x5_1 : Int) < ((x0_1.length : Int) : Int) := of_decide_eq_true (by first | (with_reducible assumption) | assumption); first | exact h_ | (have e_ := (Kd.R_reads' HO_0.out).1; omega) | simpa using h_); obtain rfl := k132_openM hM15; have HP15 := Kd.R_seg HX15.out (x5_1 : Int) (of_decide_eq_true (by first | (with_reducible assumption) | assumption)) (by have h_ : (x5_1 : Int) < ((x0_1.length : Int) : Int) := of_decide_eq_true (by first | (with_reducible assumption) | assumption); first | exact h_ | (have e_ := (Kd.R_reads' HO_0.out).1; omega) | simpa using h_) (seg := [.int .i64 (wrap64 ((wrap64 (x1_1 + 1)) + 1))]) (j := 2) hcl15 hcc15 (show 3 ≤ 3 from by decide) (x' := (⟨(rd_T132 y850 x5_1).f0, (rd_T132 y850 x5_1).f1, wrap64 ((wrap64 (x1_1 + 1)) + 1)⟩ : S132)) (k132_mkM _ _ _ (⟨(rd_T132 y850 x5_1).f0, (rd_T132 y850 x5_1).f1, wrap64 ((wrap64 (x1_1 + 1)) + 1)⟩ : S132) ) (fun _ hk => hk); have hx15_2 := hcc15 2 _ rfl; (try simp only [show (k132).sz = 3 from rfl, Nat.mul_one, Nat.add_zero] at hx15_2); have hf15_2 := hfr15 2; (try simp only [show (k132).sz = 3 from rfl, Nat.mul_one, Nat.add_zero] at hf15_2); clear hcl15 hcc15 hfr15 hM15) | ((with_reducible refine gate_store (t := 3) (p := 31) rfl ?_); refine store_event (t := 3) (p := 31) (v := ?vo_w16) (w1 := (w14.setCell ⟨go6, (x5_1 : Int).toNat * 3 + 2, none⟩ (.int .i64 (wrap64 ((wrap64 (x1_1 + 1)) + 1))))) ?hg ?ho ?hn ?hr ?_; (case ho => rfl); (case hg => rfl); (case hn => rfl); (case hr => first | (go_simp; done) | (go_simp; rfl)); intro w16 hw; have hg : w14.grownBy w16 (some go6) := (by rw [hw]; exact HP15.2); have hp_ : Kd.R k132 132 w16 w0.heap.size (fun k_ => (P0_ k_ ∨ w.heap.size ≤ k_)) (.slice (some ⟨go6, 0, none⟩) x0_1.length co9) y851 := (by rw [hw, Ny851.out]; exact HP15.1); clear HP15; replace HB := Aside0.mk (by rw [hw]; exact below_set (HB.out) GB6.out : Below w0.heap.size w0 w16); replace HK := Aside0.mk (Kept.of_grown (S := (fun k_ => P0_ k_)) hg (by repeat (first | (with_reducible first | exact HK.out | apply Kept.alloc | apply Kept.drewN | apply Kept.drew) | exact HK.out)) (fun k_ e_ => (HO_0.out.1 k_ e_))); replace HO_0 := Aside0.mk (hp_); clear hg hw hp_))
          go_roundg k1
          case measure => have := HK1.out; omega
          case rel => exact ⟨(y851), (wrap64 ((wrap64 ((wrap64 (x1_1 + 1)) + 1)) + 1)), (wrap64 (x5_1 + 1)), e2_, e2_, H', ⟨by have := HK1.out; omega⟩, ⟨rr HO_0⟩, ⟨by repeat (first | (with_reducible first | exact HK.out | apply Kept.alloc | apply Kept.drewN | apply Kept.drew) | exact HK.out)⟩, ⟨bb HB⟩⟩
        · rw [if_neg c5] at H
          exact absurd H (by simp)
      · rw [if_neg c3] at H
        have c3b0 : decide (x5_1 < (x0_1.length : Int)) = false := decide_eq_false c3
        clear c3
        simp only [Option.some.injEq, Prod.mk.injEq] at H
        obtain ⟨rfl, rfl⟩ := H
        obtain ⟨Ao17, co17, eo17⟩ := Kd.R_slice HO_0.out
        subst eo17
        go_wp2
        go_ret
        exact ⟨ee, rr HO_0, bb HB, by repeat (first | (with_reducible first | exact HK.out | apply Kept.alloc | apply Kept.drewN | apply Kept.drew) | exact HK.out)⟩
end Go.Proofs.Ytibmeomlokigjaa.Q
namespace Go.Proofs.Ytibmeomlokigjaa.Q
open Go.RowKit Go.Proofs.YtibmeomlokigjaaW.PrintWords Go.Proofs.YtibmeomlokigjaaW.PrintLast Go.Proofs.YtibmeomlokigjaaW.PrintMore
attribute [local go_sem] max2_int min2_int max_two min_two max_three min_three max_four min_four
set_option linter.unusedVariables false
set_option linter.unusedSimpArgs false
def laws_markIntS.l0 : Nat → List Int → Int → Int → Option (Int × List Int)
  | 0, _, _, _ => none
  | k + 1, x0, x1, x5 => if x5 < (x0.length : Int) then (if 0 ≤ x5 then (laws_markIntS.l0 k (x0.set (x5 : Int).toNat x1) (wrap64 (x1 + 1)) (wrap64 (x5 + 1))) else (none)) else (some (x1, x0))
def laws_markIntS.f (k : Nat) (l0 : List Int) (a1 : Int) : Option (Int × List Int) := laws_markIntS.l0 k l0 a1 0
set_option maxHeartbeats 8000000 in
set_option maxRecDepth 100000 in
theorem laws_markIntS.calls (k : Nat) (P0_ : Nat → Prop) (u9000_ : Value) (l0 : List Int) (a1 : Int) (r1 : Int) (r2 : List Int) (w0 w : World) (hB : Below w0.heap.size w0 w) (ho0 : Kd.R (Kd.int .i64) 3 w w0.heap.size P0_ u9000_ l0) (h : laws_markIntS.f k l0 a1 = some (r1, r2)) :
    Calls Try.prog 128 #[u9000_, .int .i64 a1] w fun e w' => e = .returned (.int .i64 r1) ∧ Kd.R (Kd.int .i64) 3 w' w0.heap.size (fun k_ => (P0_ k_ ∨ w.heap.size ≤ k_)) u9000_ r2 ∧ Below w0.heap.size w0 w' ∧ Kept w w' (fun k_ => P0_ k_) := by
  have HO0 := Aside0.mk (show Kd.R (Kd.int .i64) 3 w w0.heap.size (fun k_ => (P0_ k_ ∨ w.heap.size ≤ k_)) u9000_ l0 from Kd.R_mono ho0 (fun k_ hk => (.inl hk)))
  have HK := Aside0.mk (Kept.refl w (fun k_ => P0_ k_))
  have HW0 := Aside0.mk hB.size
  have HB := Aside0.mk hB
  clear hB
  have H : (laws_markIntS.l0 k l0 a1 0) = some (r1, r2) := h
  clear h
  have H' := Aside0.mk H
  clear H
  go_enter Try.func128, Try.ntmps128
  go_wp2
  go_loopg [1, 5] k (fun kq v1 v5 w' => ∃ (x0_1 : List Int) (x1_1 : Int) (x5_1 : Int), v1 = .int .i64 x1_1 ∧ v5 = .int .i64 x5_1 ∧ Aside0 (laws_markIntS.l0 kq x0_1 x1_1 x5_1 = some (r1, r2)) ∧ Aside0 (kq ≤ k) ∧ Aside0 (Kd.R (Kd.int .i64) 3 w' w0.heap.size (fun k_ => (P0_ k_ ∨ w.heap.size ≤ k_)) u9000_ x0_1) ∧ Aside0 (Kept w w' (fun k_ => P0_ k_)) ∧ Aside0 (Below w0.heap.size w0 w'))
  case atStart => exact ⟨(l0), (a1), (0), e2_, e2_, H', ⟨Nat.le_refl _⟩, ⟨rr HO0⟩, ⟨by repeat (first | (with_reducible first | exact HK.out | apply Kept.alloc | apply Kept.drewN | apply Kept.drew) | exact HK.out)⟩, ⟨bb HB⟩⟩
  case round =>
    clear H'
    (try clear c1)
    (try clear p2)
    obtain ⟨x0_1, x1_1, x5_1, rfl, rfl, HA, HK1, HO_0, HK, HB⟩ := hrel
    cases gk with
    | zero => exact absurd HA.out (by simp [laws_markIntS.l0])
    | succ k1 =>
      have H := HA.out
      clear HA
      simp only [laws_markIntS.l0] at H
      by_cases c3 : x5_1 < (x0_1.length : Int)
      · rw [if_pos c3] at H
        have c3b0 : decide (x5_1 < (x0_1.length : Int)) = true := decide_eq_true c3
        clear c3
        by_cases c4 : 0 ≤ x5_1
        · rw [if_pos c4] at H
          have c4b0 : decide (0 ≤ x5_1) = true := decide_eq_true c4
          clear c4
          obtain ⟨y852, hy852⟩ : ∃ y_ : List Int, y_ = (x0_1.set (x5_1 : Int).toNat x1_1) := ⟨_, rfl⟩
          replace H : (laws_markIntS.l0 k1 y852 (wrap64 (x1_1 + 1)) (wrap64 (x5_1 + 1))) = some (r1, r2) := by first | (rw [hy852]; with_reducible exact H) | (have H2_ := (Option.bind_some _ _).symm.trans H; rw [hy852]; with_reducible exact H2_) | (have H2_ := (Option.bind_some _ _).symm.trans H; with_reducible exact H2_) | with_reducible exact H | (rw [hy852]; exact H) | exact H
          have Ny852 := Aside0.mk hy852
          clear hy852
          have H' := Aside0.mk H
          clear H
          obtain ⟨Ao6, co6, eo6⟩ := Kd.R_slice HO_0.out
          subst eo6
          have p5 : 0 ≤ (x5_1 : Int) := of_decide_eq_true (by first | (with_reducible assumption) | assumption)
          have q5 : (x5_1 : Int) < ((x0_1.length : Int) : Int) := of_decide_eq_true (by first | (with_reducible assumption) | assumption)
          obtain ⟨go5, co5, eo5, gb5, gl5, cl5, HG5⟩ := Kd.R_form HO_0.out (by omega)
          (first | cases eo5 | (injection eo5 with ea_ en_ ec_; (first | subst ea_ | (injection ea_ with ea_; subst ea_)); subst ec_; clear en_))
          have GB5 := Aside0.mk gb5
          have GG5 := Aside0.mk HG5
          clear gb5 gl5 HG5
          have HMgo5 := Aside0.mk (show (P0_ go5 ∨ w.heap.size ≤ go5) from (HO_0.out.1 _ rfl))
          obtain ⟨hx5_0, hf5_0⟩ := Kd.R_celln 0 HO_0.out (x5_1 : Int) p5 q5
          replace p5 := eq_true p5
          replace q5 := eq_true q5
          have HP7 := Kd.R_putg HO_0.out (x5_1 : Int) x1_1
          go_wp2_with (first | ((with_reducible refine gate_store (t := 3) (p := 15) rfl ?_); refine store_event (t := 3) (p := 15) (v := ?vo_w8) (w1 := (wr.setCell ⟨go5, (x5_1 : Int).toNat, none⟩ (.int .i64 x1_1))) ?hg ?ho ?hn ?hr ?_; (case ho => rfl); (case hg => rfl); (case hn => rfl); (case hr => first | (go_simp; done) | (go_simp; rfl)); intro w8 hw; have hg : wr.grownBy w8 (some go5) := (by rw [hw]; exact HP7.2); have hp_ : Kd.R (Kd.int .i64) 3 w8 w0.heap.size (fun k_ => (P0_ k_ ∨ w.heap.size ≤ k_)) (.slice (some ⟨go5, 0, none⟩) x0_1.length co6) y852 := (by rw [hw, Ny852.out]; exact HP7.1); clear HP7; replace HB := Aside0.mk (by rw [hw]; exact below_set (HB.out) GB5.out : Below w0.heap.size w0 w8); replace HK := Aside0.mk (Kept.of_grown (S := (fun k_ => P0_ k_)) hg (by repeat (first | (with_reducible first | exact HK.out | apply Kept.alloc | apply Kept.drewN | apply Kept.drew) | exact HK.out)) (fun k_ e_ => (HO_0.out.1 k_ e_))); replace HO_0 := Aside0.mk (hp_); clear hg hw hp_))
          go_roundg k1
          case measure => have := HK1.out; omega
          case rel => exact ⟨(y852), (wrap64 (x1_1 + 1)), (wrap64 (x5_1 + 1)), e2_, e2_, H', ⟨by have := HK1.out; omega⟩, ⟨rr HO_0⟩, ⟨by repeat (first | (with_reducible first | exact HK.out | apply Kept.alloc | apply Kept.drewN | apply Kept.drew) | exact HK.out)⟩, ⟨bb HB⟩⟩
        · rw [if_neg c4] at H
          exact absurd H (by simp)
      · rw [if_neg c3] at H
        have c3b0 : decide (x5_1 < (x0_1.length : Int)) = false := decide_eq_false c3
        clear c3
        simp only [Option.some.injEq, Prod.mk.injEq] at H
        obtain ⟨rfl, rfl⟩ := H
        obtain ⟨Ao9, co9, eo9⟩ := Kd.R_slice HO_0.out
        subst eo9
        go_wp2
        go_ret
        exact ⟨ee, rr HO_0, bb HB, by repeat (first | (with_reducible first | exact HK.out | apply Kept.alloc | apply Kept.drewN | apply Kept.drew) | exact HK.out)⟩
end Go.Proofs.Ytibmeomlokigjaa.Q
namespace Go.Proofs.Ytibmeomlokigjaa.Q
open Go.RowKit Go.Proofs.YtibmeomlokigjaaW.PrintWords Go.Proofs.YtibmeomlokigjaaW.PrintLast Go.Proofs.YtibmeomlokigjaaW.PrintMore
attribute [local go_sem] max2_int min2_int max_two min_two max_three min_three max_four min_four
set_option linter.unusedVariables false
set_option linter.unusedSimpArgs false
def laws_markRules.f (k : Nat) (a0_0 : Int) (a0_1 : Int) (a0_2 : Int) (l0_3 : List Int) (a0_4 : Bool) (a1 : Int) : Option (Int × List Int) := (laws_markIntS.f k l0_3 a1).bind fun bt854 => (some (bt854.1, bt854.2))
set_option maxHeartbeats 8000000 in
set_option maxRecDepth 100000 in
theorem laws_markRules.calls (k : Nat) (a0_0 : Int) (a0_1 : Int) (a0_2 : Int) (P0_3_ : Nat → Prop) (u9000_ : Value) (l0_3 : List Int) (a0_4 : Bool) (a1 : Int) (r1 : Int) (r2 : List Int) (w0 w : World) (hB : Below w0.heap.size w0 w) (ho0_3 : Kd.R (Kd.int .i64) 3 w w0.heap.size P0_3_ u9000_ l0_3) (h : laws_markRules.f k a0_0 a0_1 a0_2 l0_3 a0_4 a1 = some (r1, r2)) :
    Calls Try.prog 126 #[.agg #[.int .i64 a0_0, .int .i64 a0_1, .int .i64 a0_2, u9000_, .bool a0_4], .int .i64 a1] w fun e w' => e = .returned (.int .i64 r1) ∧ Kd.R (Kd.int .i64) 3 w' w0.heap.size (fun k_ => (P0_3_ k_ ∨ w.heap.size ≤ k_)) u9000_ r2 ∧ Below w0.heap.size w0 w' ∧ Kept w w' (fun k_ => P0_3_ k_) := by
  have hu26 := Try.underlying26
  have HO0_3 := Aside0.mk (show Kd.R (Kd.int .i64) 3 w w0.heap.size (fun k_ => (P0_3_ k_ ∨ w.heap.size ≤ k_)) u9000_ l0_3 from Kd.R_mono ho0_3 (fun k_ hk => (.inl hk)))
  have HK := Aside0.mk (Kept.refl w (fun k_ => P0_3_ k_))
  have HW0 := Aside0.mk hB.size
  have HB := Aside0.mk hB
  clear hB
  have H : ((laws_markIntS.f k l0_3 a1).bind fun bt854 => (some (bt854.1, bt854.2))) = some (r1, r2) := h
  clear h
  replace H := Option.bind_eq_some_iff.mp H
  obtain ⟨⟨t854, t855⟩, A30, H⟩ := H
  replace H : (some (t854, t855)) = some (r1, r2) := H
  have A3 := Aside0.mk A30
  clear A30
  simp only [Option.some.injEq, Prod.mk.injEq] at H
  obtain ⟨rfl, rfl⟩ := H
  obtain ⟨Ao4, co4, eo4⟩ := Kd.R_slice HO0_3.out
  subst eo4
  go_enter Try.func126, Try.ntmps126
  go_wp2_with (first | ((with_reducible refine gate_dst (N := 2) rfl ?_); refine bx (N := 2) (cs := #[.int .i64 a0_0, .int .i64 a0_1, .int .i64 a0_2, .slice Ao4 l0_3.length co4, .bool a0_4]) (t := 26) ?_; intro gb853 hg w5 hbox hb; replace HO0_3 := kr HO0_3 hb; have BK853 := Aside0.mk (hbox); have GW853 := Aside0.mk (by rw [hg]; exact (by first | exact HK.out.1 | exact (show Kept w _ (fun k_ => P0_3_ k_) from by repeat (first | (with_reducible first | exact HK.out | apply Kept.alloc | apply Kept.drewN | apply Kept.drew) | exact HK.out)).1) : w.heap.size ≤ gb853); replace HK := Aside0.mk (Kept.below (S := (fun k_ => P0_3_ k_)) (by repeat (first | (with_reducible first | exact HK.out | apply Kept.alloc | apply Kept.drewN | apply Kept.drew) | exact HK.out)) hb); have GE853 := gs hg HB; replace HB := hs_ HB hb; clear hb hbox hg; have ⟨hcz6_0, hcz6_1, hcz6_2, hcz6_3, hcz6_4, hfz6_0, hfz6_1, hfz6_2, hfz6_3, hfz6_4⟩ := rz5 BK853) | ((with_reducible refine gate_callee (f := 128) rfl ?_); refine gl (some 8) Try.func128 #[.slice Ao4 l0_3.length co4, .int .i64 a1] ?_; (with_reducible refine (laws_markIntS.calls k (fun k_ => some k_ = (.slice Ao4 l0_3.length co4 : Value).ownBlock) (.slice Ao4 l0_3.length co4) l0_3 a1 t854 t855 w0 _ ?side1 ?side2 A3.out).mono ?_); (case side1 => exact bb HB); (case side2 => exact Kd.R_tight rfl HO0_3.out); rintro e w7 ⟨rfl, hy0, hb, hkp⟩; refine ⟨_, rfl, ?_⟩; replace BK853 := Aside0.mk (blk_kept (bk BK853) hkp (fun hs_ => (fun e_ => (Kd.R_ne HO0_3.out BK853.out (by decide)) e_) hs_)); replace HK := Aside0.mk (Kept.then_ (S := (fun k_ => P0_3_ k_)) (by repeat (first | (with_reducible first | exact HK.out | apply Kept.alloc | apply Kept.drewN | apply Kept.drew | refine Kept.setCell ?_ (.inr GW853.out) _) | exact HK.out)) hkp (fun k_ hs_ => (fun e_ => (HO0_3.out.1 k_ e_.symm)) hs_)); replace HO0_3 := Aside0.mk (Kd.R_reok rfl hy0 (fun k_ e_ => HO0_3.out.1 k_ e_)); replace HB := Aside0.mk (hb); (try clear hb); (try clear hkp); (try clear hy0)))
  go_ret
  exact ⟨ee, rr HO0_3, bb HB, by repeat (first | (with_reducible first | exact HK.out | apply Kept.alloc | apply Kept.drewN | apply Kept.drew | refine Kept.setCell ?_ (.inr GW853.out) _) | exact HK.out)⟩
end Go.Proofs.Ytibmeomlokigjaa.Q
namespace Go.Proofs.Ytibmeomlokigjaa.Q
open Go.RowKit Go.Proofs.YtibmeomlokigjaaW.PrintWords Go.Proofs.YtibmeomlokigjaaW.PrintLast Go.Proofs.YtibmeomlokigjaaW.PrintMore
attribute [local go_sem] max2_int min2_int max_two min_two max_three min_three max_four min_four
set_option linter.unusedVariables false
set_option linter.unusedSimpArgs false
def laws_markGameS.l0 : Nat → List (S47) → Int → Int → Option (Int × (List (S47)))
  | 0, _, _, _ => none
  | k + 1, x0, x1, x5 => if x5 < (x0.length : Int) then (if 0 ≤ x5 then ((some (x0.set (x5 : Int).toNat (⟨x1, (rd_T47 x0 x5).f1, (rd_T47 x0 x5).f2, (rd_T47 x0 x5).f3, (rd_T47 x0 x5).f4⟩ : S47) : List (S47))).bind fun y856 => ((some (y856.set (x5 : Int).toNat (⟨(rd_T47 y856 x5).f0, wrap64 (x1 + 1), (rd_T47 y856 x5).f2, (rd_T47 y856 x5).f3, (rd_T47 y856 x5).f4⟩ : S47) : List (S47))).bind fun y857 => ((some (y857.set (x5 : Int).toNat (⟨(rd_T47 y857 x5).f0, (rd_T47 y857 x5).f1, wrap64 ((wrap64 (x1 + 1)) + 1), (rd_T47 y857 x5).f3, (rd_T47 y857 x5).f4⟩ : S47) : List (S47))).bind fun y858 => ((some (y858.set (x5 : Int).toNat (⟨(rd_T47 y858 x5).f0, (rd_T47 y858 x5).f1, (rd_T47 y858 x5).f2, wrap64 ((wrap64 ((wrap64 (x1 + 1)) + 1)) + 1), (rd_T47 y858 x5).f4⟩ : S47) : List (S47))).bind fun y859 => (laws_markGameS.l0 k (y859.set (x5 : Int).toNat (⟨(rd_T47 y859 x5).f0, (rd_T47 y859 x5).f1, (rd_T47 y859 x5).f2, (rd_T47 y859 x5).f3, wrap64 ((wrap64 ((wrap64 ((wrap64 (x1 + 1)) + 1)) + 1)) + 1)⟩ : S47)) (wrap64 ((wrap64 ((wrap64 ((wrap64 ((wrap64 (x1 + 1)) + 1)) + 1)) + 1)) + 1)) (wrap64 (x5 + 1))))))) else (none)) else (some (x1, x0))
def laws_markGameS.f (k : Nat) (l0 : List (S47)) (a1 : Int) : Option (Int × (List (S47))) := laws_markGameS.l0 k l0 a1 0
set_option maxHeartbeats 8000000 in
set_option maxRecDepth 100000 in
theorem laws_markGameS.calls (k : Nat) (P0_ : Nat → Prop) (u9000_ : Value) (l0 : List (S47)) (a1 : Int) (r1 : Int) (r2 : List (S47)) (w0 w : World) (hB : Below w0.heap.size w0 w) (ho0 : Kd.R k47 47 w w0.heap.size P0_ u9000_ l0) (h : laws_markGameS.f k l0 a1 = some (r1, r2)) :
    Calls Try.prog 127 #[u9000_, .int .i64 a1] w fun e w' => e = .returned (.int .i64 r1) ∧ Kd.R k47 47 w' w0.heap.size (fun k_ => (P0_ k_ ∨ w.heap.size ≤ k_)) u9000_ r2 ∧ Below w0.heap.size w0 w' ∧ Kept w w' (fun k_ => P0_ k_) := by
  have HO0 := Aside0.mk (show Kd.R k47 47 w w0.heap.size (fun k_ => (P0_ k_ ∨ w.heap.size ≤ k_)) u9000_ l0 from Kd.R_mono ho0 (fun k_ hk => (.inl hk)))
  have HK := Aside0.mk (Kept.refl w (fun k_ => P0_ k_))
  have HW0 := Aside0.mk hB.size
  have HB := Aside0.mk hB
  clear hB
  have H : (laws_markGameS.l0 k l0 a1 0) = some (r1, r2) := h
  clear h
  have H' := Aside0.mk H
  clear H
  go_enter Try.func127, Try.ntmps127
  go_wp2
  go_loopg [1, 5] k (fun kq v1 v5 w' => ∃ (x0_1 : List (S47)) (x1_1 : Int) (x5_1 : Int), v1 = .int .i64 x1_1 ∧ v5 = .int .i64 x5_1 ∧ Aside0 (laws_markGameS.l0 kq x0_1 x1_1 x5_1 = some (r1, r2)) ∧ Aside0 (kq ≤ k) ∧ Aside0 (Kd.R k47 47 w' w0.heap.size (fun k_ => (P0_ k_ ∨ w.heap.size ≤ k_)) u9000_ x0_1) ∧ Aside0 (Kept w w' (fun k_ => P0_ k_)) ∧ Aside0 (Below w0.heap.size w0 w'))
  case atStart => exact ⟨(l0), (a1), (0), e2_, e2_, H', ⟨Nat.le_refl _⟩, ⟨rr HO0⟩, ⟨by repeat (first | (with_reducible first | exact HK.out | apply Kept.alloc | apply Kept.drewN | apply Kept.drew) | exact HK.out)⟩, ⟨bb HB⟩⟩
  case round =>
    clear H'
    (try clear c1)
    (try clear p2)
    obtain ⟨x0_1, x1_1, x5_1, rfl, rfl, HA, HK1, HO_0, HK, HB⟩ := hrel
    cases gk with
    | zero => exact absurd HA.out (by simp [laws_markGameS.l0])
    | succ k1 =>
      have H := HA.out
      clear HA
      simp only [laws_markGameS.l0] at H
      by_cases c3 : x5_1 < (x0_1.length : Int)
      · rw [if_pos c3] at H
        have c3b0 : decide (x5_1 < (x0_1.length : Int)) = true := decide_eq_true c3
        clear c3
        by_cases c4 : 0 ≤ x5_1
        · rw [if_pos c4] at H
          have c4b0 : decide (0 ≤ x5_1) = true := decide_eq_true c4
          clear c4
          obtain ⟨y856, hy856⟩ : ∃ y_ : List (S47), y_ = (x0_1.set (x5_1 : Int).toNat (⟨x1_1, (rd_T47 x0_1 x5_1).f1, (rd_T47 x0_1 x5_1).f2, (rd_T47 x0_1 x5_1).f3, (rd_T47 x0_1 x5_1).f4⟩ : S47)) := ⟨_, rfl⟩
          replace H : ((some (y856.set (x5_1 : Int).toNat (⟨(rd_T47 y856 x5_1).f0, wrap64 (x1_1 + 1), (rd_T47 y856 x5_1).f2, (rd_T47 y856 x5_1).f3, (rd_T47 y856 x5_1).f4⟩ : S47) : List (S47))).bind fun y857 => ((some (y857.set (x5_1 : Int).toNat (⟨(rd_T47 y857 x5_1).f0, (rd_T47 y857 x5_1).f1, wrap64 ((wrap64 (x1_1 + 1)) + 1), (rd_T47 y857 x5_1).f3, (rd_T47 y857 x5_1).f4⟩ : S47) : List (S47))).bind fun y858 => ((some (y858.set (x5_1 : Int).toNat (⟨(rd_T47 y858 x5_1).f0, (rd_T47 y858 x5_1).f1, (rd_T47 y858 x5_1).f2, wrap64 ((wrap64 ((wrap64 (x1_1 + 1)) + 1)) + 1), (rd_T47 y858 x5_1).f4⟩ : S47) : List (S47))).bind fun y859 => (laws_markGameS.l0 k1 (y859.set (x5_1 : Int).toNat (⟨(rd_T47 y859 x5_1).f0, (rd_T47 y859 x5_1).f1, (rd_T47 y859 x5_1).f2, (rd_T47 y859 x5_1).f3, wrap64 ((wrap64 ((wrap64 ((wrap64 (x1_1 + 1)) + 1)) + 1)) + 1)⟩ : S47)) (wrap64 ((wrap64 ((wrap64 ((wrap64 ((wrap64 (x1_1 + 1)) + 1)) + 1)) + 1)) + 1)) (wrap64 (x5_1 + 1)))))) = some (r1, r2) := by first | (rw [hy856]; with_reducible exact H) | (have H2_ := (Option.bind_some _ _).symm.trans H; rw [hy856]; with_reducible exact H2_) | (have H2_ := (Option.bind_some _ _).symm.trans H; with_reducible exact H2_) | with_reducible exact H | (rw [hy856]; exact H) | exact H
          have Ny856 := Aside0.mk hy856
          clear hy856
          obtain ⟨y857, hy857⟩ : ∃ y_ : List (S47), y_ = (y856.set (x5_1 : Int).toNat (⟨(rd_T47 y856 x5_1).f0, wrap64 (x1_1 + 1), (rd_T47 y856 x5_1).f2, (rd_T47 y856 x5_1).f3, (rd_T47 y856 x5_1).f4⟩ : S47)) := ⟨_, rfl⟩
          replace H : ((some (y857.set (x5_1 : Int).toNat (⟨(rd_T47 y857 x5_1).f0, (rd_T47 y857 x5_1).f1, wrap64 ((wrap64 (x1_1 + 1)) + 1), (rd_T47 y857 x5_1).f3, (rd_T47 y857 x5_1).f4⟩ : S47) : List (S47))).bind fun y858 => ((some (y858.set (x5_1 : Int).toNat (⟨(rd_T47 y858 x5_1).f0, (rd_T47 y858 x5_1).f1, (rd_T47 y858 x5_1).f2, wrap64 ((wrap64 ((wrap64 (x1_1 + 1)) + 1)) + 1), (rd_T47 y858 x5_1).f4⟩ : S47) : List (S47))).bind fun y859 => (laws_markGameS.l0 k1 (y859.set (x5_1 : Int).toNat (⟨(rd_T47 y859 x5_1).f0, (rd_T47 y859 x5_1).f1, (rd_T47 y859 x5_1).f2, (rd_T47 y859 x5_1).f3, wrap64 ((wrap64 ((wrap64 ((wrap64 (x1_1 + 1)) + 1)) + 1)) + 1)⟩ : S47)) (wrap64 ((wrap64 ((wrap64 ((wrap64 ((wrap64 (x1_1 + 1)) + 1)) + 1)) + 1)) + 1)) (wrap64 (x5_1 + 1))))) = some (r1, r2) := by first | (rw [hy857]; with_reducible exact H) | (have H2_ := (Option.bind_some _ _).symm.trans H; rw [hy857]; with_reducible exact H2_) | (have H2_ := (Option.bind_some _ _).symm.trans H; with_reducible exact H2_) | with_reducible exact H | (rw [hy857]; exact H) | exact H
          have Ny857 := Aside0.mk hy857
          clear hy857
          obtain ⟨y858, hy858⟩ : ∃ y_ : List (S47), y_ = (y857.set (x5_1 : Int).toNat (⟨(rd_T47 y857 x5_1).f0, (rd_T47 y857 x5_1).f1, wrap64 ((wrap64 (x1_1 + 1)) + 1), (rd_T47 y857 x5_1).f3, (rd_T47 y857 x5_1).f4⟩ : S47)) := ⟨_, rfl⟩
          replace H : ((some (y858.set (x5_1 : Int).toNat (⟨(rd_T47 y858 x5_1).f0, (rd_T47 y858 x5_1).f1, (rd_T47 y858 x5_1).f2, wrap64 ((wrap64 ((wrap64 (x1_1 + 1)) + 1)) + 1), (rd_T47 y858 x5_1).f4⟩ : S47) : List (S47))).bind fun y859 => (laws_markGameS.l0 k1 (y859.set (x5_1 : Int).toNat (⟨(rd_T47 y859 x5_1).f0, (rd_T47 y859 x5_1).f1, (rd_T47 y859 x5_1).f2, (rd_T47 y859 x5_1).f3, wrap64 ((wrap64 ((wrap64 ((wrap64 (x1_1 + 1)) + 1)) + 1)) + 1)⟩ : S47)) (wrap64 ((wrap64 ((wrap64 ((wrap64 ((wrap64 (x1_1 + 1)) + 1)) + 1)) + 1)) + 1)) (wrap64 (x5_1 + 1)))) = some (r1, r2) := by first | (rw [hy858]; with_reducible exact H) | (have H2_ := (Option.bind_some _ _).symm.trans H; rw [hy858]; with_reducible exact H2_) | (have H2_ := (Option.bind_some _ _).symm.trans H; with_reducible exact H2_) | with_reducible exact H | (rw [hy858]; exact H) | exact H
          have Ny858 := Aside0.mk hy858
          clear hy858
          obtain ⟨y859, hy859⟩ : ∃ y_ : List (S47), y_ = (y858.set (x5_1 : Int).toNat (⟨(rd_T47 y858 x5_1).f0, (rd_T47 y858 x5_1).f1, (rd_T47 y858 x5_1).f2, wrap64 ((wrap64 ((wrap64 (x1_1 + 1)) + 1)) + 1), (rd_T47 y858 x5_1).f4⟩ : S47)) := ⟨_, rfl⟩
          replace H : (laws_markGameS.l0 k1 (y859.set (x5_1 : Int).toNat (⟨(rd_T47 y859 x5_1).f0, (rd_T47 y859 x5_1).f1, (rd_T47 y859 x5_1).f2, (rd_T47 y859 x5_1).f3, wrap64 ((wrap64 ((wrap64 ((wrap64 (x1_1 + 1)) + 1)) + 1)) + 1)⟩ : S47)) (wrap64 ((wrap64 ((wrap64 ((wrap64 ((wrap64 (x1_1 + 1)) + 1)) + 1)) + 1)) + 1)) (wrap64 (x5_1 + 1))) = some (r1, r2) := by first | (rw [hy859]; with_reducible exact H) | (have H2_ := (Option.bind_some _ _).symm.trans H; rw [hy859]; with_reducible exact H2_) | (have H2_ := (Option.bind_some _ _).symm.trans H; with_reducible exact H2_) | with_reducible exact H | (rw [hy859]; exact H) | exact H
          have Ny859 := Aside0.mk hy859
          clear hy859
          obtain ⟨y860, hy860⟩ : ∃ y_ : List (S47), y_ = (y859.set (x5_1 : Int).toNat (⟨(rd_T47 y859 x5_1).f0, (rd_T47 y859 x5_1).f1, (rd_T47 y859 x5_1).f2, (rd_T47 y859 x5_1).f3, wrap64 ((wrap64 ((wrap64 ((wrap64 (x1_1 + 1)) + 1)) + 1)) + 1)⟩ : S47)) := ⟨_, rfl⟩
          replace H : (laws_markGameS.l0 k1 y860 (wrap64 ((wrap64 ((wrap64 ((wrap64 ((wrap64 (x1_1 + 1)) + 1)) + 1)) + 1)) + 1)) (wrap64 (x5_1 + 1))) = some (r1, r2) := by first | (rw [hy860]; with_reducible exact H) | (have H2_ := (Option.bind_some _ _).symm.trans H; rw [hy860]; with_reducible exact H2_) | (have H2_ := (Option.bind_some _ _).symm.trans H; with_reducible exact H2_) | with_reducible exact H | (rw [hy860]; exact H) | exact H
          have Ny860 := Aside0.mk hy860
          clear hy860
          have H' := Aside0.mk H
          clear H
          obtain ⟨Ao10, co10, eo10⟩ := Kd.R_slice HO_0.out
          subst eo10
          have p5 : 0 ≤ (x5_1 : Int) := of_decide_eq_true (by first | (with_reducible assumption) | assumption)
          have q5 : (x5_1 : Int) < ((x0_1.length : Int) : Int) := of_decide_eq_true (by first | (with_reducible assumption) | assumption)
          obtain ⟨go5, co5, eo5, gb5, gl5, cl5, HG5⟩ := Kd.R_form HO_0.out (by omega)
          (first | cases eo5 | (injection eo5 with ea_ en_ ec_; (first | subst ea_ | (injection ea_ with ea_; subst ea_)); subst ec_; clear en_))
          have GB5 := Aside0.mk gb5
          have GG5 := Aside0.mk HG5
          clear gb5 gl5 HG5
          have HMgo5 := Aside0.mk (show (P0_ go5 ∨ w.heap.size ≤ go5) from (HO_0.out.1 _ rfl))
          obtain ⟨ce5, hcl5, hM5, hcc5, hfr5⟩ := Kd.R_elem HO_0.out z47 (x5_1 : Int) p5 q5
          obtain rfl := k47_openM hM5
          have hx5_0 : wr.cell? ⟨go5, (x5_1 : Int).toNat * 5, none⟩ = some (.int .i64 ((rd_T47 x0_1 x5_1).f0)) := hcc5 0 _ rfl
          have hx5_1 : wr.cell? ⟨go5, (x5_1 : Int).toNat * 5 + 1, none⟩ = some (.int .i64 ((rd_T47 x0_1 x5_1).f1)) := hcc5 1 _ rfl
          have hx5_2 : wr.cell? ⟨go5, (x5_1 : Int).toNat * 5 + 2, none⟩ = some (.int .i64 ((rd_T47 x0_1 x5_1).f2)) := hcc5 2 _ rfl
          have hx5_3 : wr.cell? ⟨go5, (x5_1 : Int).toNat * 5 + 3, none⟩ = some (.int .i64 ((rd_T47 x0_1 x5_1).f3)) := hcc5 3 _ rfl
          have hx5_4 : wr.cell? ⟨go5, (x5_1 : Int).toNat * 5 + 4, none⟩ = some (.int .i64 ((rd_T47 x0_1 x5_1).f4)) := hcc5 4 _ rfl
          have hf5_0 : wr.frozen? ⟨go5, (x5_1 : Int).toNat * 5, none⟩ = false := hfr5 0
          have hf5_1 : wr.frozen? ⟨go5, (x5_1 : Int).toNat * 5 + 1, none⟩ = false := hfr5 1
          have hf5_2 : wr.frozen? ⟨go5, (x5_1 : Int).toNat * 5 + 2, none⟩ = false := hfr5 2
          have hf5_3 : wr.frozen? ⟨go5, (x5_1 : Int).toNat * 5 + 3, none⟩ = false := hfr5 3
          have hf5_4 : wr.frozen? ⟨go5, (x5_1 : Int).toNat * 5 + 4, none⟩ = false := hfr5 4
          clear hcl5 hcc5 hfr5 hM5
          replace p5 := eq_true p5
          replace q5 := eq_true q5
          have HX11 := Aside0.mk (show Kd.R k47 47 wr w0.heap.size (fun k_ => (P0_ k_ ∨ w.heap.size ≤ k_)) (.slice (some ⟨go5, 0, none⟩) x0_1.length co10) x0_1 from (rr HO_0))
          obtain ⟨ce11, hcl11, hM11, hcc11, hfr11⟩ := Kd.R_elem HX11.out z47 (x5_1 : Int) (of_decide_eq_true (by first | (with_reducible assumption) | assumption)) (by have h_ : (x5_1 : Int) < ((x0_1.length : Int) : Int) := of_decide_eq_true (by first | (with_reducible assumption) | assumption); first | exact h_ | (have e_ := (Kd.R_reads' HO_0.out).1; omega) | simpa using h_)
          obtain rfl := k47_openM hM11
          have HP11 := Kd.R_seg HX11.out (x5_1 : Int) (of_decide_eq_true (by first | (with_reducible assumption) | assumption)) (by have h_ : (x5_1 : Int) < ((x0_1.length : Int) : Int) := of_decide_eq_true (by first | (with_reducible assumption) | assumption); first | exact h_ | (have e_ := (Kd.R_reads' HO_0.out).1; omega) | simpa using h_) (seg := [.int .i64 x1_1]) (j := 0) hcl11 hcc11 (show 1 ≤ 5 from by decide) (x' := (⟨x1_1, (rd_T47 x0_1 x5_1).f1, (rd_T47 x0_1 x5_1).f2, (rd_T47 x0_1 x5_1).f3, (rd_T47 x0_1 x5_1).f4⟩ : S47)) (k47_mkM _ _ _ (⟨x1_1, (rd_T47 x0_1 x5_1).f1, (rd_T47 x0_1 x5_1).f2, (rd_T47 x0_1 x5_1).f3, (rd_T47 x0_1 x5_1).f4⟩ : S47) ) (fun _ hk => hk)
          have hx11_0 := hcc11 0 _ rfl
          (try simp only [show (k47).sz = 5 from rfl, Nat.mul_one, Nat.add_zero] at hx11_0)
          have hf11_0 := hfr11 0
          (try simp only [show (k47).sz = 5 from rfl, Nat.mul_one, Nat.add_zero] at hf11_0)
          clear hcl11 hcc11 hfr11 hM11
          go_wp2_with (first | ((with_reducible refine gate_store (t := 3) (p := 16) rfl ?_); refine store_event (t := 3) (p := 16) (v := ?vo_w12) (w1 := (wr.setCell ⟨go5, (x5_1 : Int).toNat * 5, none⟩ (.int .i64 x1_1))) ?hg ?ho ?hn ?hr ?_; (case ho => rfl); (case hg => rfl); (case hn => rfl); (case hr => first | (go_simp; done) | (go_simp; rfl)); intro w12 hw; have hg : wr.grownBy w12 (some go5) := (by rw [hw]; exact HP11.2); have hp_ : Kd.R k47 47 w12 w0.heap.size (fun k_ => (P0_ k_ ∨ w.heap.size ≤ k_)) (.slice (some ⟨go5, 0, none⟩) x0_1.length co10) y856 := (by rw [hw, Ny856.out]; exact HP11.1); clear HP11; replace HB := Aside0.mk (by rw [hw]; exact below_set (HB.out) GB5.out : Below w0.heap.size w0 w12); replace HK := Aside0.mk (Kept.of_grown (S := (fun k_ => P0_ k_)) hg (by repeat (first | (with_reducible first | exact HK.out | apply Kept.alloc | apply Kept.drewN | apply Kept.drew) | exact HK.out)) (fun k_ e_ => (HO_0.out.1 k_ e_))); replace HO_0 := Aside0.mk (hp_); clear hg hw hp_; have p6 : 0 ≤ (x5_1 : Int) := of_decide_eq_true (by first | (with_reducible assumption) | assumption); have q6 : (x5_1 : Int) < ((x0_1.length : Int) : Int) := of_decide_eq_true (by first | (with_reducible assumption) | assumption); obtain ⟨ce6, hcl6, hM6, hcc6, hfr6⟩ := Kd.R_elem HO_0.out z47 (x5_1 : Int) p6 q6; obtain rfl := k47_openM hM6; have hx6_0 : w12.cell? ⟨go5, (x5_1 : Int).toNat * 5, none⟩ = some (.int .i64 ((rd_T47 y856 x5_1).f0)) := hcc6 0 _ rfl; have hx6_1 : w12.cell? ⟨go5, (x5_1 : Int).toNat * 5 + 1, none⟩ = some (.int .i64 ((rd_T47 y856 x5_1).f1)) := hcc6 1 _ rfl; have hx6_2 : w12.cell? ⟨go5, (x5_1 : Int).toNat * 5 + 2, none⟩ = some (.int .i64 ((rd_T47 y856 x5_1).f2)) := hcc6 2 _ rfl; have hx6_3 : w12.cell? ⟨go5, (x5_1 : Int).toNat * 5 + 3, none⟩ = some (.int .i64 ((rd_T47 y856 x5_1).f3)) := hcc6 3 _ rfl; have hx6_4 : w12.cell? ⟨go5, (x5_1 : Int).toNat * 5 + 4, none⟩ = some (.int .i64 ((rd_T47 y856 x5_1).f4)) := hcc6 4 _ rfl; have hf6_0 : w12.frozen? ⟨go5, (x5_1 : Int).toNat * 5, none⟩ = false := hfr6 0; have hf6_1 : w12.frozen? ⟨go5, (x5_1 : Int).toNat * 5 + 1, none⟩ = false := hfr6 1; have hf6_2 : w12.frozen? ⟨go5, (x5_1 : Int).toNat * 5 + 2, none⟩ = false := hfr6 2; have hf6_3 : w12.frozen? ⟨go5, (x5_1 : Int).toNat * 5 + 3, none⟩ = false := hfr6 3; have hf6_4 : w12.frozen? ⟨go5, (x5_1 : Int).toNat * 5 + 4, none⟩ = false := hfr6 4; clear hcl6 hcc6 hfr6 hM6; replace p6 := eq_true p6; replace q6 := eq_true q6; have HX13 := Aside0.mk (show Kd.R k47 47 w12 w0.heap.size (fun k_ => (P0_ k_ ∨ w.heap.size ≤ k_)) (.slice (some ⟨go5, 0, none⟩) x0_1.length co10) y856 from (rr HO_0)); obtain ⟨ce13, hcl13, hM13, hcc13, hfr13⟩ := Kd.R_elem HX13.out z47 (x5_1 : Int) (of_decide_eq_true (by first | (with_reducible assumption) | assumption)) (by have h_ : (x5_1 : Int) < ((x0_1.length : Int) : Int) := of_decide_eq_true (by first | (with_reducible assumption) | assumption); first | exact h_ | (have e_ := (Kd.R_reads' HO_0.out).1; omega) | simpa using h_); obtain rfl := k47_openM hM13; have HP13 := Kd.R_seg HX13.out (x5_1 : Int) (of_decide_eq_true (by first | (with_reducible assumption) | assumption)) (by have h_ : (x5_1 : Int) < ((x0_1.length : Int) : Int) := of_decide_eq_true (by first | (with_reducible assumption) | assumption); first | exact h_ | (have e_ := (Kd.R_reads' HO_0.out).1; omega) | simpa using h_) (seg := [.int .i64 (wrap64 (x1_1 + 1))]) (j := 1) hcl13 hcc13 (show 2 ≤ 5 from by decide) (x' := (⟨(rd_T47 y856 x5_1).f0, wrap64 (x1_1 + 1), (rd_T47 y856 x5_1).f2, (rd_T47 y856 x5_1).f3, (rd_T47 y856 x5_1).f4⟩ : S47)) (k47_mkM _ _ _ (⟨(rd_T47 y856 x5_1).f0, wrap64 (x1_1 + 1), (rd_T47 y856 x5_1).f2, (rd_T47 y856 x5_1).f3, (rd_T47 y856 x5_1).f4⟩ : S47) ) (fun _ hk => hk); have hx13_1 := hcc13 1 _ rfl; (try simp only [show (k47).sz = 5 from rfl, Nat.mul_one, Nat.add_zero] at hx13_1); have hf13_1 := hfr13 1; (try simp only [show (k47).sz = 5 from rfl, Nat.mul_one, Nat.add_zero] at hf13_1); clear hcl13 hcc13 hfr13 hM13) | ((with_reducible refine gate_store (t := 3) (p := 23) rfl ?_); refine store_event (t := 3) (p := 23) (v := ?vo_w14) (w1 := (w12.setCell ⟨go5, (x5_1 : Int).toNat * 5 + 1, none⟩ (.int .i64 (wrap64 (x1_1 + 1))))) ?hg ?ho ?hn ?hr ?_; (case ho => rfl); (case hg => rfl); (case hn => rfl); (case hr => first | (go_simp; done) | (go_simp; rfl)); intro w14 hw; have hg : w12.grownBy w14 (some go5) := (by rw [hw]; exact HP13.2); have hp_ : Kd.R k47 47 w14 w0.heap.size (fun k_ => (P0_ k_ ∨ w.heap.size ≤ k_)) (.slice (some ⟨go5, 0, none⟩) x0_1.length co10) y857 := (by rw [hw, Ny857.out]; exact HP13.1); clear HP13; replace HB := Aside0.mk (by rw [hw]; exact below_set (HB.out) GB5.out : Below w0.heap.size w0 w14); replace HK := Aside0.mk (Kept.of_grown (S := (fun k_ => P0_ k_)) hg (by repeat (first | (with_reducible first | exact HK.out | apply Kept.alloc | apply Kept.drewN | apply Kept.drew) | exact HK.out)) (fun k_ e_ => (HO_0.out.1 k_ e_))); replace HO_0 := Aside0.mk (hp_); clear hg hw hp_; have p7 : 0 ≤ (x5_1 : Int) := of_decide_eq_true (by first | (with_reducible assumption) | assumption); have q7 : (x5_1 : Int) < ((x0_1.length : Int) : Int) := of_decide_eq_true (by first | (with_reducible assumption) | assumption); obtain ⟨ce7, hcl7, hM7, hcc7, hfr7⟩ := Kd.R_elem HO_0.out z47 (x5_1 : Int) p7 q7; obtain rfl := k47_openM hM7; have hx7_0 : w14.cell? ⟨go5, (x5_1 : Int).toNat * 5, none⟩ = some (.int .i64 ((rd_T47 y857 x5_1).f0)) := hcc7 0 _ rfl; have hx7_1 : w14.cell? ⟨go5, (x5_1 : Int).toNat * 5 + 1, none⟩ = some (.int .i64 ((rd_T47 y857 x5_1).f1)) := hcc7 1 _ rfl; have hx7_2 : w14.cell? ⟨go5, (x5_1 : Int).toNat * 5 + 2, none⟩ = some (.int .i64 ((rd_T47 y857 x5_1).f2)) := hcc7 2 _ rfl; have hx7_3 : w14.cell? ⟨go5, (x5_1 : Int).toNat * 5 + 3, none⟩ = some (.int .i64 ((rd_T47 y857 x5_1).f3)) := hcc7 3 _ rfl; have hx7_4 : w14.cell? ⟨go5, (x5_1 : Int).toNat * 5 + 4, none⟩ = some (.int .i64 ((rd_T47 y857 x5_1).f4)) := hcc7 4 _ rfl; have hf7_0 : w14.frozen? ⟨go5, (x5_1 : Int).toNat * 5, none⟩ = false := hfr7 0; have hf7_1 : w14.frozen? ⟨go5, (x5_1 : Int).toNat * 5 + 1, none⟩ = false := hfr7 1; have hf7_2 : w14.frozen? ⟨go5, (x5_1 : Int).toNat * 5 + 2, none⟩ = false := hfr7 2; have hf7_3 : w14.frozen? ⟨go5, (x5_1 : Int).toNat * 5 + 3, none⟩ = false := hfr7 3; have hf7_4 : w14.frozen? ⟨go5, (x5_1 : Int).toNat * 5 + 4, none⟩ = false := hfr7 4; clear hcl7 hcc7 hfr7 hM7; replace p7 := eq_true p7; replace q7 := eq_true q7; have HX15 := Aside0.mk (show Kd.R k47 47 w14 w0.heap.size (fun k_ => (P0_ k_ ∨ w.heap.size ≤ k_)) (.slice (some ⟨go5, 0, none⟩) x0_1.length co10) y857 from (rr HO_0)); obtain ⟨ce15, hcl15, hM15, hcc15, hfr15⟩ := Kd.R_elem HX15.out z47 (x5_1 : Int) (of_decide_eq_true (by first | (with_reducible assumption) | assumption)) (by have h_ : (x5_1 : Int) < ((x0_1.length : Int) : Int) := of_decide_eq_true (by first | (with_reducible assumption) | assumption); first | exact h_ | (have e_ := (Kd.R_reads' HO_0.out).1; omega) | simpa using h_); obtain rfl := k47_openM hM15; have HP15 := Kd.R_seg HX15.out (x5_1 : Int) (of_decide_eq_true (by first | (with_reducible assumption) | assumption)) (by have h_ : (x5_1 : Int) < ((x0_1.length : Int) : Int) := of_decide_eq_true (by first | (with_reducible assumption) | assumption); first | exact h_ | (have e_ := (Kd.R_reads' HO_0.out).1; omega) | simpa using h_) (seg := [.int .i64 (wrap64 ((wrap64 (x1_1 + 1)) + 1))]) (j := 2) hcl15 hcc15 (show 3 ≤ 5 from by decide) (x' := (⟨(rd_T47 y857 x5_1).f0, (rd_T47 y857 x5_1).f1, wrap64 ((wrap64 (x1_1 + 1)) + 1), (rd_T47 y857 x5_1).f3, (rd_T47 y857 x5_1).f4⟩ : S47)) (k47_mkM _ _ _ (⟨(rd_T47 y857 x5_1).f0, (rd_T47 y857 x5_1).f1, wrap64 ((wrap64 (x1_1 + 1)) + 1), (rd_T47 y857 x5_1).f3, (rd_T47 y857 x5_1).f4⟩ : S47) ) (fun _ hk => hk); have hx15_2 := hcc15 2 _ rfl; (try simp only [show (k47).sz = 5 from rfl, Nat.mul_one, Nat.add_zero] at hx15_2); have hf15_2 := hfr15 2; (try simp only [show (k47).sz = 5 from rfl, Nat.mul_one, Nat.add_zero] at hf15_2); clear hcl15 hcc15 hfr15 hM15) | ((with_reducible refine gate_store (t := 3) (p := 30) rfl ?_); refine store_event (t := 3) (p := 30) (v := ?vo_w16) (w1 := (w14.setCell ⟨go5, (x5_1 : Int).toNat * 5 + 2, none⟩ (.int .i64 (wrap64 ((wrap64 (x1_1 + 1)) + 1))))) ?hg ?ho ?hn ?hr ?_; (case ho => rfl); (case hg => rfl); (case hn => rfl); (case hr => first | (go_simp; done) | (go_simp; rfl)); intro w16 hw; have hg : w14.grownBy w16 (some go5) := (by rw [hw]; exact HP15.2); have hp_ : Kd.R k47 47 w16 w0.heap.size (fun k_ => (P0_ k_ ∨ w.heap.size ≤ k_)) (.slice (some ⟨go5, 0, none⟩) x0_1.length co10) y858 := (by rw [hw, Ny858.out]; exact HP15.1); clear HP15; replace HB := Aside0.mk (by rw [hw]; exact below_set (HB.out) GB5.out : Below w0.heap.size w0 w16); replace HK := Aside0.mk (Kept.of_grown (S := (fun k_ => P0_ k_)) hg (by repeat (first | (with_reducible first | exact HK.out | apply Kept.alloc | apply Kept.drewN | apply Kept.drew) | exact HK.out)) (fun k_ e_ => (HO_0.out.1 k_ e_))); replace HO_0 := Aside0.mk (hp_); clear hg hw hp_; have p8 : 0 ≤ (x5_1 : Int) := of_decide_eq_true (by first | (with_reducible assumption) | assumption); have q8 : (x5_1 : Int) < ((x0_1.length : Int) : Int) := of_decide_eq_true (by first | (with_reducible assumption) | assumption); obtain ⟨ce8, hcl8, hM8, hcc8, hfr8⟩ := Kd.R_elem HO_0.out z47 (x5_1 : Int) p8 q8; obtain rfl := k47_openM hM8; have hx8_0 : w16.cell? ⟨go5, (x5_1 : Int).toNat * 5, none⟩ = some (.int .i64 ((rd_T47 y858 x5_1).f0)) := hcc8 0 _ rfl; have hx8_1 : w16.cell? ⟨go5, (x5_1 : Int).toNat * 5 + 1, none⟩ = some (.int .i64 ((rd_T47 y858 x5_1).f1)) := hcc8 1 _ rfl; have hx8_2 : w16.cell? ⟨go5, (x5_1 : Int).toNat * 5 + 2, none⟩ = some (.int .i64 ((rd_T47 y858 x5_1).f2)) := hcc8 2 _ rfl; have hx8_3 : w16.cell? ⟨go5, (x5_1 : Int).toNat * 5 + 3, none⟩ = some (.int .i64 ((rd_T47 y858 x5_1).f3)) := hcc8 3 _ rfl; have hx8_4 : w16.cell? ⟨go5, (x5_1 : Int).toNat * 5 + 4, none⟩ = some (.int .i64 ((rd_T47 y858 x5_1).f4)) := hcc8 4 _ rfl; have hf8_0 : w16.frozen? ⟨go5, (x5_1 : Int).toNat * 5, none⟩ = false := hfr8 0; have hf8_1 : w16.frozen? ⟨go5, (x5_1 : Int).toNat * 5 + 1, none⟩ = false := hfr8 1; have hf8_2 : w16.frozen? ⟨go5, (x5_1 : Int).toNat * 5 + 2, none⟩ = false := hfr8 2; have hf8_3 : w16.frozen? ⟨go5, (x5_1 : Int).toNat * 5 + 3, none⟩ = false := hfr8 3; have hf8_4 : w16.frozen? ⟨go5, (x5_1 : Int).toNat * 5 + 4, none⟩ = false := hfr8 4; clear hcl8 hcc8 hfr8 hM8; replace p8 := eq_true p8; replace q8 := eq_true q8; have HX17 := Aside0.mk (show Kd.R k47 47 w16 w0.heap.size (fun k_ => (P0_ k_ ∨ w.heap.size ≤ k_)) (.slice (some ⟨go5, 0, none⟩) x0_1.length co10) y858 from (rr HO_0)); obtain ⟨ce17, hcl17, hM17, hcc17, hfr17⟩ := Kd.R_elem HX17.out z47 (x5_1 : Int) (of_decide_eq_true (by first | (with_reducible assumption) | assumption)) (by have h_ : (x5_1 : Int) < ((x0_1.length : Int) : Int) := of_decide_eq_true (by first | (with_reducible assumption) | assumption); first | exact h_ | (have e_ := (Kd.R_reads' HO_0.out).1; omega) | simpa using h_); obtain rfl := k47_openM hM17; have HP17 := Kd.R_seg HX17.out (x5_1 : Int) (of_decide_eq_true (by first | (with_reducible assumption) | assumption)) (by have h_ : (x5_1 : Int) < ((x0_1.length : Int) : Int) := of_decide_eq_true (by first | (with_reducible assumption) | assumption); first | exact h_ | (have e_ := (Kd.R_reads' HO_0.out).1; omega) | simpa using h_) (seg := [.int .i64 (wrap64 ((wrap64 ((wrap64 (x1_1 + 1)) + 1)) + 1))]) (j := 3) hcl17 hcc17 (show 4 ≤ 5 from by decide) (x' := (⟨(rd_T47 y858 x5_1).f0, (rd_T47 y858 x5_1).f1, (rd_T47 y858 x5_1).f2, wrap64 ((wrap64 ((wrap64 (x1_1 + 1)) + 1)) + 1), (rd_T47 y858 x5_1).f4⟩ : S47)) (k47_mkM _ _ _ (⟨(rd_T47 y858 x5_1).f0, (rd_T47 y858 x5_1).f1, (rd_T47 y858 x5_1).f2, wrap64 ((wrap64 ((wrap64 (x1_1 + 1)) + 1)) + 1), (rd_T47 y858 x5_1).f4⟩ : S47) ) (fun _ hk => hk); have hx17_3 := hcc17 3 _ rfl; (try simp only [show (k47).sz = 5 from rfl, Nat.mul_one, Nat.add_zero] at hx17_3); have hf17_3 := hfr17 3; (try simp only [show (k47).sz = 5 from rfl, Nat.mul_one, Nat.add_zero] at hf17_3); clear hcl17 hcc17 hfr17 hM17) | ((with_reducible refine gate_store (t := 3) (p := 37) rfl ?_); refine store_event (t := 3) (p := 37) (v := ?vo_w18) (w1 := (w16.setCell ⟨go5, (x5_1 : Int).toNat * 5 + 3, none⟩ (.int .i64 (wrap64 ((wrap64 ((wrap64 (x1_1 + 1)) + 1)) + 1))))) ?hg ?ho ?hn ?hr ?_; (case ho => rfl); (case hg => rfl); (case hn => rfl); (case hr => first | (go_simp; done) | (go_simp; rfl)); intro w18 hw; have hg : w16.grownBy w18 (some go5) := (by rw [hw]; exact HP17.2); have hp_ : Kd.R k47 47 w18 w0.heap.size (fun k_ => (P0_ k_ ∨ w.heap.size ≤ k_)) (.slice (some ⟨go5, 0, none⟩) x0_1.length co10) y859 := (by rw [hw, Ny859.out]; exact HP17.1); clear HP17; replace HB := Aside0.mk (by rw [hw]; exact below_set (HB.out) GB5.out : Below w0.heap.size w0 w18); replace HK := Aside0.mk (Kept.of_grown (S := (fun k_ => P0_ k_)) hg (by repeat (first | (with_reducible first | exact HK.out | apply Kept.alloc | apply Kept.drewN | apply Kept.drew) | exact HK.out)) (fun k_ e_ => (HO_0.out.1 k_ e_))); replace HO_0 := Aside0.mk (hp_); clear hg hw hp_; have p9 : 0 ≤ (x5_1 : Int) := of_decide_eq_true (by first | (with_reducible assumption) | assumption); have q9 : (x5_1 : Int) < ((x0_1.length : Int) : Int) := of_decide_eq_true (by first | (with_reducible assumption) | assumption); obtain ⟨ce9, hcl9, hM9, hcc9, hfr9⟩ := Kd.R_elem HO_0.out z47 (x5_1 : Int) p9 q9; obtain rfl := k47_openM hM9; have hx9_0 : w18.cell? ⟨go5, (x5_1 : Int).toNat * 5, none⟩ = some (.int .i64 ((rd_T47 y859 x5_1).f0)) := hcc9 0 _ rfl; have hx9_1 : w18.cell? ⟨go5, (x5_1 : Int).toNat * 5 + 1, none⟩ = some (.int .i64 ((rd_T47 y859 x5_1).f1)) := hcc9 1 _ rfl; have hx9_2 : w18.cell? ⟨go5, (x5_1 : Int).toNat * 5 + 2, none⟩ = some (.int .i64 ((rd_T47 y859 x5_1).f2)) := hcc9 2 _ rfl; have hx9_3 : w18.cell? ⟨go5, (x5_1 : Int).toNat * 5 + 3, none⟩ = some (.int .i64 ((rd_T47 y859 x5_1).f3)) := hcc9 3 _ rfl; have hx9_4 : w18.cell? ⟨go5, (x5_1 : Int).toNat * 5 + 4, none⟩ = some (.int .i64 ((rd_T47 y859 x5_1).f4)) := hcc9 4 _ rfl; have hf9_0 : w18.frozen? ⟨go5, (x5_1 : Int).toNat * 5, none⟩ = false := hfr9 0; have hf9_1 : w18.frozen? ⟨go5, (x5_1 : Int).toNat * 5 + 1, none⟩ = false := hfr9 1; have hf9_2 : w18.frozen? ⟨go5, (x5_1 : Int).toNat * 5 + 2, none⟩ = false := hfr9 2; have hf9_3 : w18.frozen? ⟨go5, (x5_1 : Int).toNat * 5 + 3, none⟩ = false := hfr9 3; have hf9_4 : w18.frozen? ⟨go5, (x5_1 : Int).toNat * 5 + 4, none⟩ = false := hfr9 4; clear hcl9 hcc9 hfr9 hM9; replace p9 := eq_true p9; replace q9 := eq_true q9; have HX19 := Aside0.mk (show Kd.R k47 47 w18 w0.heap.size (fun k_ => (P0_ k_ ∨ w.heap.size ≤ k_)) (.slice (some ⟨go5, 0, none⟩) x0_1.length co10) y859 from (rr HO_0)); obtain ⟨ce19, hcl19, hM19, hcc19, hfr19⟩ := Kd.R_elem HX19.out z47 (x5_1 : Int) (of_decide_eq_true (by first | (with_reducible assumption) | assumption)) (by have h_ : (x5_1 : Int) < ((x0_1.length : Int) : Int) := of_decide_eq_true (by first | (with_reducible assumption) | assumption); first | exact h_ | (have e_ := (Kd.R_reads' HO_0.out).1; omega) | simpa using h_); obtain rfl := k47_openM hM19; have HP19 := Kd.R_seg HX19.out (x5_1 : Int) (of_decide_eq_true (by first | (with_reducible assumption) | assumption)) (by have h_ : (x5_1 : Int) < ((x0_1.length : Int) : Int) := of_decide_eq_true (by first | (with_reducible assumption) | assumption); first | exact h_ | (have e_ := (Kd.R_reads' HO_0.out).1; omega) | simpa using h_) (seg := [.int .i64 (wrap64 ((wrap64 ((wrap64 ((wrap64 (x1_1 + 1)) + 1)) + 1)) + 1))]) (j := 4) hcl19 hcc19 (show 5 ≤ 5 from by decide) (x' := (⟨(rd_T47 y859 x5_1).f0, (rd_T47 y859 x5_1).f1, (rd_T47 y859 x5_1).f2, (rd_T47 y859 x5_1).f3, wrap64 ((wrap64 ((wrap64 ((wrap64 (x1_1 + 1)) + 1)) + 1)) + 1)⟩ : S47)) (k47_mkM _ _ _ (⟨(rd_T47 y859 x5_1).f0, (rd_T47 y859 x5_1).f1, (rd_T47 y859 x5_1).f2, (rd_T47 y859 x5_1).f3, wrap64 ((wrap64 ((wrap64 ((wrap64 (x1_1 + 1)) + 1)) + 1)) + 1)⟩ : S47) ) (fun _ hk => hk); have hx19_4 := hcc19 4 _ rfl; (try simp only [show (k47).sz = 5 from rfl, Nat.mul_one, Nat.add_zero] at hx19_4); have hf19_4 := hfr19 4; (try simp only [show (k47).sz = 5 from rfl, Nat.mul_one, Nat.add_zero] at hf19_4); clear hcl19 hcc19 hfr19 hM19) | ((with_reducible refine gate_store (t := 3) (p := 44) rfl ?_); refine store_event (t := 3) (p := 44) (v := ?vo_w20) (w1 := (w18.setCell ⟨go5, (x5_1 : Int).toNat * 5 + 4, none⟩ (.int .i64 (wrap64 ((wrap64 ((wrap64 ((wrap64 (x1_1 + 1)) + 1)) + 1)) + 1))))) ?hg ?ho ?hn ?hr ?_; (case ho => rfl); (case hg => rfl); (case hn => rfl); (case hr => first | (go_simp; done) | (go_simp; rfl)); intro w20 hw; have hg : w18.grownBy w20 (some go5) := (by rw [hw]; exact HP19.2); have hp_ : Kd.R k47 47 w20 w0.heap.size (fun k_ => (P0_ k_ ∨ w.heap.size ≤ k_)) (.slice (some ⟨go5, 0, none⟩) x0_1.length co10) y860 := (by rw [hw, Ny860.out]; exact HP19.1); clear HP19; replace HB := Aside0.mk (by rw [hw]; exact below_set (HB.out) GB5.out : Below w0.heap.size w0 w20); replace HK := Aside0.mk (Kept.of_grown (S := (fun k_ => P0_ k_)) hg (by repeat (first | (with_reducible first | exact HK.out | apply Kept.alloc | apply Kept.drewN | apply Kept.drew) | exact HK.out)) (fun k_ e_ => (HO_0.out.1 k_ e_))); replace HO_0 := Aside0.mk (hp_); clear hg hw hp_))
          go_roundg k1
          case measure => have := HK1.out; omega
          case rel => exact ⟨(y860), (wrap64 ((wrap64 ((wrap64 ((wrap64 ((wrap64 (x1_1 + 1)) + 1)) + 1)) + 1)) + 1)), (wrap64 (x5_1 + 1)), e2_, e2_, H', ⟨by have := HK1.out; omega⟩, ⟨rr HO_0⟩, ⟨by repeat (first | (with_reducible first | exact HK.out | apply Kept.alloc | apply Kept.drewN | apply Kept.drew) | exact HK.out)⟩, ⟨bb HB⟩⟩
        · rw [if_neg c4] at H
          exact absurd H (by simp)
      · rw [if_neg c3] at H
        have c3b0 : decide (x5_1 < (x0_1.length : Int)) = false := decide_eq_false c3
        clear c3
        simp only [Option.some.injEq, Prod.mk.injEq] at H
        obtain ⟨rfl, rfl⟩ := H
        obtain ⟨Ao21, co21, eo21⟩ := Kd.R_slice HO_0.out
        subst eo21
        go_wp2
        go_ret
        exact ⟨ee, rr HO_0, bb HB, by repeat (first | (with_reducible first | exact HK.out | apply Kept.alloc | apply Kept.drewN | apply Kept.drew) | exact HK.out)⟩
end Go.Proofs.Ytibmeomlokigjaa.Q
