/- A part of the proof of FnExactDecide: functions of the program, as plain functions, with the proof that the machine's call does what they say; plain lemmas; and those of the words that print.sh prints which this proof uses. No condition. -/
import Derived.Test.YthfefanapneocaaKFnExactDecide1
import Derived.Test.YthfefanapneocaaProg
import Derived.Below
import Derived.Deep.Draws
import Derived.Deep.AppendLies
import Derived.Maps.AppendAt
import Derived.OwnWalk
import Derived.Laws.BytesArg
import Derived.Laws.MakeOwn
import Derived.Laws.OwnMore
import Derived.Deep.OwnRows
import Derived.Tactics
import Derived.Lib.ConvBytes
import Derived.Laws.Slices
import Derived.WalkKit
import Derived.KernelRfl
import Derived.RowKit3
import Derived.Deep.LoopGhost
import Derived.Deep.QuietTactic
import Derived.BigQuiet
import Derived.WideLaws
import Derived.Deep.DeepCutAuto
import Derived.Deep.CutBlock
import Derived.Deep.RegionHeld3
import Derived.Laws.Rows
import Derived.Lib.AppendStr
import Derived.ArgAppend
import Derived.Laws.IdiomCopy
import Derived.OrdersHeld
import Derived.Laws.BitsLemmas
import Derived.RowKit
import Derived.WalkSpells
import Derived.Laws.StructEq
import Derived.Test.YthfefanapneocaaKFnExactDecide2
namespace Go.Proofs.Ythfefanapneocaa.Q
open Go.RowKit Go.Proofs.YthfefanapneocaaW.PrintWords Go.Proofs.YthfefanapneocaaW.PrintLast Go.Proofs.YthfefanapneocaaW.PrintMore
attribute [local go_sem] max2_int min2_int max_two min_two max_three min_three max_four min_four
set_option linter.unusedVariables false
set_option linter.unusedSimpArgs false
set_option maxRecDepth 100000
set_option maxHeartbeats 8000000
def laws_toBook.f (k : Nat) (l0_0 : List (S133)) (a0_1 : Int) (a0_2 : Int) (a0_3 : Int) (l0_4 : List Int) (a0_5 : Bool) (l0_6 : List (S147)) (l0_7 : List Int) (l0_8 : List Int) : Option ((List (S139)) × Int × Int × Int × List Int × Bool × (List (S95)) × List Int × List Int) := (laws_toTeamS.f k l0_0).bind fun t272 => ((laws_toRules.f k a0_1 a0_2 a0_3 l0_4 a0_5).bind fun bt275 => ((laws_toGameS.f k l0_6).bind fun t282 => ((laws_toIntS.f k l0_7).bind fun t285 => ((laws_toIntS.f k l0_8).bind fun t288 => (some (t272, bt275.1, bt275.2.1, bt275.2.2.1, bt275.2.2.2.1, bt275.2.2.2.2, t282, t285, t288))))))
theorem laws_toBook.calls (k : Nat) (A0_0 : Option Addr) (c0_0 : Nat) (l0_0 : List (S133)) (a0_1 : Int) (a0_2 : Int) (a0_3 : Int) (A0_4 : Option Addr) (c0_4 : Nat) (l0_4 : List Int) (a0_5 : Bool) (A0_6 : Option Addr) (c0_6 : Nat) (l0_6 : List (S147)) (A0_7 : Option Addr) (c0_7 : Nat) (l0_7 : List Int) (A0_8 : Option Addr) (c0_8 : Nat) (l0_8 : List Int) (r1 : List (S139)) (r2 : Int) (r3 : Int) (r4 : Int) (r5 : List Int) (r6 : Bool) (r7 : List (S95)) (r8 : List Int) (r9 : List Int) (w : World) (hr0_0 : Kd.C k133 w A0_0 l0_0.length l0_0) (hc0_0 : l0_0.length ≤ c0_0) (hr0_4 : Kd.C (Kd.int .i64) w A0_4 l0_4.length l0_4) (hc0_4 : l0_4.length ≤ c0_4) (hr0_6 : Kd.C k147 w A0_6 l0_6.length l0_6) (hc0_6 : l0_6.length ≤ c0_6) (hr0_7 : Kd.C (Kd.int .i64) w A0_7 l0_7.length l0_7) (hc0_7 : l0_7.length ≤ c0_7) (hr0_8 : Kd.C (Kd.int .i64) w A0_8 l0_8.length l0_8) (hc0_8 : l0_8.length ≤ c0_8) (h : laws_toBook.f k l0_0 a0_1 a0_2 a0_3 l0_4 a0_5 l0_6 l0_7 l0_8 = some (r1, r2, r3, r4, r5, r6, r7, r8, r9)) :
  Calls Try.prog 13 #[.agg #[.slice A0_0 l0_0.length c0_0, .int .i64 a0_1, .int .i64 a0_2, .int .i64 a0_3, .slice A0_4 l0_4.length c0_4, .bool a0_5, .slice A0_6 l0_6.length c0_6, .slice A0_7 l0_7.length c0_7, .slice A0_8 l0_8.length c0_8]] w fun e w' => ∃ v0_ v4_ v6_ v7_ v8_ : Value, e = .returned (.agg #[v0_, .int .i64 r2, .int .i64 r3, .int .i64 r4, v4_, .bool r6, v6_, v7_, v8_]) ∧ Kd.R k139 139 w' w.heap.size (fun _ => True) v0_ r1 ∧ Kd.R (Kd.int .i64) 3 w' w.heap.size (fun k_ => some k_ ≠ (v7_ : Value).ownBlock ∧ some k_ ≠ (v8_ : Value).ownBlock) v4_ r5 ∧ Kd.R k95 95 w' w.heap.size (fun _ => True) v6_ r7 ∧ Kd.R (Kd.int .i64) 3 w' w.heap.size (fun k_ => some k_ ≠ (v4_ : Value).ownBlock ∧ some k_ ≠ (v8_ : Value).ownBlock) v7_ r8 ∧ Kd.R (Kd.int .i64) 3 w' w.heap.size (fun k_ => some k_ ≠ (v4_ : Value).ownBlock ∧ some k_ ≠ (v7_ : Value).ownBlock) v8_ r9 ∧ Below w.heap.size w w' := by
 have hu28 := Try.underlying28
 have hu36 := Try.underlying36
 have hu25 := Try.underlying25
 have hu33 := Try.underlying33
 have HR0_0 := dk hr0_0
 have HC0_0 := dk hc0_0
 clear hr0_0 hc0_0
 have HR0_4 := dk hr0_4
 have HC0_4 := dk hc0_4
 clear hr0_4 hc0_4
 have HR0_6 := dk hr0_6
 have HC0_6 := dk hc0_6
 clear hr0_6 hc0_6
 have HR0_7 := dk hr0_7
 have HC0_7 := dk hc0_7
 clear hr0_7 hc0_7
 have HR0_8 := dk hr0_8
 have HC0_8 := dk hc0_8
 clear hr0_8 hc0_8
 have HB := dk (Below.refl w.heap.size w)
 have H : ((laws_toTeamS.f k l0_0).bind fun t272 => ((laws_toRules.f k a0_1 a0_2 a0_3 l0_4 a0_5).bind fun bt275 => ((laws_toGameS.f k l0_6).bind fun t282 => ((laws_toIntS.f k l0_7).bind fun t285 => ((laws_toIntS.f k l0_8).bind fun t288 => (some (t272, bt275.1, bt275.2.1, bt275.2.2.1, bt275.2.2.2.1, bt275.2.2.2.2, t282, t285, t288))))))) = some (r1, r2, r3, r4, r5, r6, r7, r8, r9) := h
 clear h
 replace H := Option.bind_eq_some_iff.mp H
 obtain ⟨t272, A20, H⟩ := H
 replace H : ((laws_toRules.f k a0_1 a0_2 a0_3 l0_4 a0_5).bind fun bt275 => ((laws_toGameS.f k l0_6).bind fun t282 => ((laws_toIntS.f k l0_7).bind fun t285 => ((laws_toIntS.f k l0_8).bind fun t288 => (some (t272, bt275.1, bt275.2.1, bt275.2.2.1, bt275.2.2.2.1, bt275.2.2.2.2, t282, t285, t288)))))) = some (r1, r2, r3, r4, r5, r6, r7, r8, r9) := H
 have A2 := dk A20
 clear A20
 replace H := Option.bind_eq_some_iff.mp H
 obtain ⟨⟨t275, t276, t277, t278, t281⟩, A30, H⟩ := H
 replace H : ((laws_toGameS.f k l0_6).bind fun t282 => ((laws_toIntS.f k l0_7).bind fun t285 => ((laws_toIntS.f k l0_8).bind fun t288 => (some (t272, t275, t276, t277, t278, t281, t282, t285, t288))))) = some (r1, r2, r3, r4, r5, r6, r7, r8, r9) := H
 have A3 := dk A30
 clear A30
 replace H := Option.bind_eq_some_iff.mp H
 obtain ⟨t282, A40, H⟩ := H
 replace H : ((laws_toIntS.f k l0_7).bind fun t285 => ((laws_toIntS.f k l0_8).bind fun t288 => (some (t272, t275, t276, t277, t278, t281, t282, t285, t288)))) = some (r1, r2, r3, r4, r5, r6, r7, r8, r9) := H
 have A4 := dk A40
 clear A40
 replace H := Option.bind_eq_some_iff.mp H
 obtain ⟨t285, A50, H⟩ := H
 replace H : ((laws_toIntS.f k l0_8).bind fun t288 => (some (t272, t275, t276, t277, t278, t281, t282, t285, t288))) = some (r1, r2, r3, r4, r5, r6, r7, r8, r9) := H
 have A5 := dk A50
 clear A50
 replace H := Option.bind_eq_some_iff.mp H
 obtain ⟨t288, A60, H⟩ := H
 replace H : (some (t272, t275, t276, t277, t278, t281, t282, t285, t288)) = some (r1, r2, r3, r4, r5, r6, r7, r8, r9) := H
 have A6 := dk A60
 clear A60
 simp only [Option.some.injEq, Prod.mk.injEq] at H
 obtain ⟨rfl, rfl, rfl, rfl, rfl, rfl, rfl, rfl, rfl⟩ := H
 go_enter Try.func13, Try.ntmps13
 go_wp2_with (first | ((with_reducible refine gate_dst (N := 1) rfl ?_); refine bx (N := 1) (cs := #[.slice A0_0 l0_0.length c0_0, .int .i64 a0_1, .int .i64 a0_2, .int .i64 a0_3, .slice A0_4 l0_4.length c0_4, .bool a0_5, .slice A0_6 l0_6.length c0_6, .slice A0_7 l0_7.length c0_7, .slice A0_8 l0_8.length c0_8]) (t := 28) ?_; intro gb269 hg w7 hbox hb; have BK269 := dk (hbox); have GW269 := gs hg HB; have GE269 := gs hg HB; replace HB := hs_ HB hb; clear hb hbox hg) | ((with_reducible refine gate_dst (N := 2) rfl ?_); refine bx (N := 2) (cs := #[.slice none 0 0, .int .i64 0, .int .i64 0, .int .i64 0, .slice none 0 0, .bool false, .slice none 0 0, .slice none 0 0, .slice none 0 0]) (t := 36) ?_; intro gb270 hg w8 hbox hb; have BK270 := dk (hbox); have GW270 := gs hg HB; have GE270 := gs hg HB; replace HB := hs_ HB hb; have NB269_270 := gn hg BK269; have NB270_269 := gm hg BK269; replace BK269 := kb BK269 hb; clear hb hbox hg) | ((with_reducible refine gate_dst (N := 3) rfl ?_); refine bx (N := 3) (cs := #[.slice none 0 0, .int .i64 0, .int .i64 0, .int .i64 0, .slice none 0 0, .bool false, .slice none 0 0, .slice none 0 0, .slice none 0 0]) (t := 36) ?_; intro gb271 hg w9 hbox hb; have BK271 := dk (hbox); have GW271 := gs hg HB; have GE271 := gs hg HB; replace HB := hs_ HB hb; have NB269_271 := gn hg BK269; have NB271_269 := gm hg BK269; replace BK269 := kb BK269 hb; have NB270_271 := gn hg BK270; have NB271_270 := gm hg BK270; replace BK270 := kb BK270 hb; clear hb hbox hg; have hnb10 := NB269_270.out; have hnc10 := NB270_269.out; have hnb11 := NB269_271.out; have hnc11 := NB271_269.out; have ⟨z12_0, z12_1, z12_2, z12_3, z12_4, z12_5, z12_6, z12_7, z12_8, v12_0, v12_1, v12_2, v12_3, v12_4, v12_5, v12_6, v12_7, v12_8⟩ := rz9 BK269) | ((with_reducible refine gate_callee (f := 47) rfl ?_); refine gl (some 6) Try.func47 #[.slice A0_0 l0_0.length c0_0] ?_; (with_reducible refine (laws_toTeamS.calls k _ _ l0_0 t272 _ ?side1 ?side2 A2.out).mono ?_); (case side1 => exact cc HR0_0 HB); (case side2 => exact HC0_0.out); rintro e w13 ⟨v273, rfl, ho0, hb⟩; refine ⟨_, rfl, ?_⟩; have HO274 := kl ho0 HB; replace BK269 := kb BK269 hb; replace BK270 := kb BK270 hb; replace BK271 := kb BK271 hb; replace HB := hs_ HB hb; (try clear hb hb2 hk hi ho0); obtain ⟨Ao14, co14, eo14⟩ := Kd.R_slice HO274.out; subst eo14; have hnb15 := NB271_270.out; have hnc15 := NB270_271.out; have ⟨z16_0, z16_1, z16_2, z16_3, z16_4, z16_5, z16_6, z16_7, z16_8, v16_0, v16_1, v16_2, v16_3, v16_4, v16_5, v16_6, v16_7, v16_8⟩ := rz9 BK271; have ⟨z17_0, z17_1, z17_2, z17_3, z17_4, z17_5, z17_6, z17_7, z17_8, v17_0, v17_1, v17_2, v17_3, v17_4, v17_5, v17_6, v17_7, v17_8⟩ := rz9 BK269) | ((with_reducible refine gate_callee (f := 59) rfl ?_); refine gl (some 10) Try.func59 #[.agg #[.int .i64 a0_1, .int .i64 a0_2, .int .i64 a0_3, .slice A0_4 l0_4.length c0_4, .bool a0_5]] ?_; (with_reducible refine (laws_toRules.calls k a0_1 a0_2 a0_3 _ _ l0_4 a0_5 t275 t276 t277 t278 t281 _ ?side1 ?side2 A3.out).mono ?_); (case side1 => exact Kd.C_below HR0_4.out (bb HB)); (case side2 => exact HC0_4.out); rintro e w18 ⟨v279, rfl, ho0, hb⟩; refine ⟨_, rfl, ?_⟩; replace HO274 := kf HO274 BK271 hb; have HO280 := kl ho0 HB; replace BK269 := dk (blk_below (bf NB269_271.out BK269) hb); replace BK270 := dk (blk_below (bf NB270_271.out BK270) hb); replace BK271 := dk (blk_below (g := gb271) (o := .cells #[.slice Ao14 t272.length co14, .int .i64 0, .int .i64 0, .int .i64 0, .slice none 0 0, .bool false, .slice none 0 0, .slice none 0 0, .slice none 0 0] 36 (0, 0)) (bp BK271) hb); replace HB := hs_ HB hb; (try clear hb hb2 hk hi ho0); have ⟨z19_0, z19_1, z19_2, z19_3, z19_4, z19_5, z19_6, z19_7, z19_8, v19_0, v19_1, v19_2, v19_3, v19_4, v19_5, v19_6, v19_7, v19_8⟩ := rz9 BK271; obtain ⟨Ao20, co20, eo20⟩ := Kd.R_slice HO280.out; subst eo20; have ⟨z21_0, z21_1, z21_2, z21_3, z21_4, z21_5, z21_6, z21_7, z21_8, v21_0, v21_1, v21_2, v21_3, v21_4, v21_5, v21_6, v21_7, v21_8⟩ := rz9 BK269) | ((with_reducible refine gate_callee (f := 60) rfl ?_); refine gl (some 14) Try.func60 #[.slice A0_6 l0_6.length c0_6] ?_; (with_reducible refine (laws_toGameS.calls k _ _ l0_6 t282 _ ?side1 ?side2 A4.out).mono ?_); (case side1 => exact Kd.C_below HR0_6.out (bb HB)); (case side2 => exact HC0_6.out); rintro e w22 ⟨v283, rfl, ho0, hb⟩; refine ⟨_, rfl, ?_⟩; replace HO274 := kf HO274 BK271 hb; replace HO280 := kf HO280 BK271 hb; have HO284 := kl ho0 HB; replace BK269 := dk (blk_below (bf NB269_271.out BK269) hb); replace BK270 := dk (blk_below (bf NB270_271.out BK270) hb); replace BK271 := dk (blk_below (g := gb271) (o := .cells #[.slice Ao14 t272.length co14, .int .i64 t275, .int .i64 t276, .int .i64 t277, .slice Ao20 t278.length co20, .bool t281, .slice none 0 0, .slice none 0 0, .slice none 0 0] 36 (0, 0)) (bp BK271) hb); replace HB := hs_ HB hb; (try clear hb hb2 hk hi ho0); obtain ⟨Ao23, co23, eo23⟩ := Kd.R_slice HO284.out; subst eo23; have ⟨z24_0, z24_1, z24_2, z24_3, z24_4, z24_5, z24_6, z24_7, z24_8, v24_0, v24_1, v24_2, v24_3, v24_4, v24_5, v24_6, v24_7, v24_8⟩ := rz9 BK271; have ⟨z25_0, z25_1, z25_2, z25_3, z25_4, z25_5, z25_6, z25_7, z25_8, v25_0, v25_1, v25_2, v25_3, v25_4, v25_5, v25_6, v25_7, v25_8⟩ := rz9 BK269) | ((with_reducible refine gate_callee (f := 39) rfl ?_); refine gl (some 18) Try.func39 #[.slice A0_7 l0_7.length c0_7] ?_; (with_reducible refine (laws_toIntS.calls k _ _ l0_7 t285 _ ?side1 ?side2 A5.out).mono ?_); (case side1 => exact Kd.C_below HR0_7.out (bb HB)); (case side2 => exact HC0_7.out); rintro e w26 ⟨v286, rfl, ho0, hb⟩; refine ⟨_, rfl, ?_⟩; replace HO274 := kf HO274 BK271 hb; replace HO284 := kf HO284 BK271 hb; have HO287 := dk (Kd.R_lower (Kd.R_new' ho0 (Kd.R_lt (rf HO280 BK271 (fun _ h_ => h_.1)))) (below_size (bb HB))); replace HO280 := dk (Kd.R_elder' (rf HO280 BK271 (fun _ h_ => h_.1)) (Kd.R_base ho0) hb); replace BK269 := dk (blk_below (bf NB269_271.out BK269) hb); replace BK270 := dk (blk_below (bf NB270_271.out BK270) hb); replace BK271 := dk (blk_below (g := gb271) (o := .cells #[.slice Ao14 t272.length co14, .int .i64 t275, .int .i64 t276, .int .i64 t277, .slice Ao20 t278.length co20, .bool t281, .slice Ao23 t282.length co23, .slice none 0 0, .slice none 0 0] 36 (0, 0)) (bp BK271) hb); replace HB := hs_ HB hb; (try clear hb hb2 hk hi ho0); obtain ⟨Ao27, co27, eo27⟩ := Kd.R_slice HO287.out; subst eo27; have ⟨z28_0, z28_1, z28_2, z28_3, z28_4, z28_5, z28_6, z28_7, z28_8, v28_0, v28_1, v28_2, v28_3, v28_4, v28_5, v28_6, v28_7, v28_8⟩ := rz9 BK271; have ⟨z29_0, z29_1, z29_2, z29_3, z29_4, z29_5, z29_6, z29_7, z29_8, v29_0, v29_1, v29_2, v29_3, v29_4, v29_5, v29_6, v29_7, v29_8⟩ := rz9 BK269) | ((with_reducible refine gate_callee (f := 39) rfl ?_); refine gl (some 22) Try.func39 #[.slice A0_8 l0_8.length c0_8] ?_; (with_reducible refine (laws_toIntS.calls k _ _ l0_8 t288 _ ?side1 ?side2 A6.out).mono ?_); (case side1 => exact Kd.C_below HR0_8.out (bb HB)); (case side2 => exact HC0_8.out); rintro e w30 ⟨v289, rfl, ho0, hb⟩; refine ⟨_, rfl, ?_⟩; replace HO274 := kf HO274 BK271 hb; replace HO284 := kf HO284 BK271 hb; have HO290 := dk (Kd.R_lower (Kd.R_new' (Kd.R_new' ho0 (Kd.R_lt (rf HO280 BK271 (fun _ h_ => h_.1)))) (Kd.R_lt (rf HO287 BK271 (fun _ h_ => h_.1)))) (below_size (bb HB))); replace HO280 := dk (Kd.R_elder' (rf HO280 BK271 (fun _ h_ => h_.1)) (Kd.R_base ho0) hb); replace HO287 := dk (Kd.R_elder' (rf HO287 BK271 (fun _ h_ => h_.1)) (Kd.R_base ho0) hb); replace BK269 := dk (blk_below (bf NB269_271.out BK269) hb); replace BK270 := dk (blk_below (bf NB270_271.out BK270) hb); replace BK271 := dk (blk_below (g := gb271) (o := .cells #[.slice Ao14 t272.length co14, .int .i64 t275, .int .i64 t276, .int .i64 t277, .slice Ao20 t278.length co20, .bool t281, .slice Ao23 t282.length co23, .slice Ao27 t285.length co27, .slice none 0 0] 36 (0, 0)) (bp BK271) hb); replace HB := hs_ HB hb; (try clear hb hb2 hk hi ho0); obtain ⟨Ao31, co31, eo31⟩ := Kd.R_slice HO290.out; subst eo31; have ⟨z32_0, z32_1, z32_2, z32_3, z32_4, z32_5, z32_6, z32_7, z32_8, v32_0, v32_1, v32_2, v32_3, v32_4, v32_5, v32_6, v32_7, v32_8⟩ := rz9 BK271; have ⟨z33_0, z33_1, z33_2, z33_3, z33_4, z33_5, z33_6, z33_7, z33_8, v33_0, v33_1, v33_2, v33_3, v33_4, v33_5, v33_6, v33_7, v33_8⟩ := rz9 BK270))
 refine bodyPost_ret (results_cell_row rfl _ _ gb270 36 #[.slice Ao14 t272.length co14, .int .i64 t275, .int .i64 t276, .int .i64 t277, .slice Ao20 t278.length co20, .bool t281, .slice Ao23 t282.length co23, .slice Ao27 t285.length co27, .slice Ao31 t288.length co31] (0, 0) _ rfl (by (with_reducible repeat (first | refine blk_drewN ?_ _ | refine blk_drew ?_ | refine blk_alloc ?_ _)); refine blk_put (cs := #[.slice Ao14 t272.length co14, .int .i64 t275, .int .i64 t276, .int .i64 t277, .slice Ao20 t278.length co20, .bool t281, .slice Ao23 t282.length co23, .slice Ao27 t285.length co27, .slice none 0 0]) ?_ 8 _ rfl; (with_reducible repeat (first | refine blk_drewN ?_ _ | refine blk_drew ?_ | refine blk_alloc ?_ _)); refine blk_put (cs := #[.slice Ao14 t272.length co14, .int .i64 t275, .int .i64 t276, .int .i64 t277, .slice Ao20 t278.length co20, .bool t281, .slice Ao23 t282.length co23, .slice none 0 0, .slice none 0 0]) ?_ 7 _ rfl; (with_reducible repeat (first | refine blk_drewN ?_ _ | refine blk_drew ?_ | refine blk_alloc ?_ _)); refine blk_put (cs := #[.slice Ao14 t272.length co14, .int .i64 t275, .int .i64 t276, .int .i64 t277, .slice Ao20 t278.length co20, .bool t281, .slice none 0 0, .slice none 0 0, .slice none 0 0]) ?_ 6 _ rfl; (with_reducible repeat (first | refine blk_drewN ?_ _ | refine blk_drew ?_ | refine blk_alloc ?_ _)); refine blk_put (cs := #[.slice Ao14 t272.length co14, .int .i64 t275, .int .i64 t276, .int .i64 t277, .slice Ao20 t278.length co20, .bool false, .slice none 0 0, .slice none 0 0, .slice none 0 0]) ?_ 5 _ rfl; (with_reducible repeat (first | refine blk_drewN ?_ _ | refine blk_drew ?_ | refine blk_alloc ?_ _)); refine blk_put (cs := #[.slice Ao14 t272.length co14, .int .i64 t275, .int .i64 t276, .int .i64 t277, .slice none 0 0, .bool false, .slice none 0 0, .slice none 0 0, .slice none 0 0]) ?_ 4 _ rfl; (with_reducible repeat (first | refine blk_drewN ?_ _ | refine blk_drew ?_ | refine blk_alloc ?_ _)); refine blk_put (cs := #[.slice Ao14 t272.length co14, .int .i64 t275, .int .i64 t276, .int .i64 0, .slice none 0 0, .bool false, .slice none 0 0, .slice none 0 0, .slice none 0 0]) ?_ 3 _ rfl; (with_reducible repeat (first | refine blk_drewN ?_ _ | refine blk_drew ?_ | refine blk_alloc ?_ _)); refine blk_put (cs := #[.slice Ao14 t272.length co14, .int .i64 t275, .int .i64 0, .int .i64 0, .slice none 0 0, .bool false, .slice none 0 0, .slice none 0 0, .slice none 0 0]) ?_ 2 _ rfl; (with_reducible repeat (first | refine blk_drewN ?_ _ | refine blk_drew ?_ | refine blk_alloc ?_ _)); refine blk_put (cs := #[.slice Ao14 t272.length co14, .int .i64 0, .int .i64 0, .int .i64 0, .slice none 0 0, .bool false, .slice none 0 0, .slice none 0 0, .slice none 0 0]) ?_ 1 _ rfl; (with_reducible repeat (first | refine blk_drewN ?_ _ | refine blk_drew ?_ | refine blk_alloc ?_ _)); refine blk_put (cs := #[.slice none 0 0, .int .i64 0, .int .i64 0, .int .i64 0, .slice none 0 0, .bool false, .slice none 0 0, .slice none 0 0, .slice none 0 0]) ?_ 0 _ rfl; exact bf NB270_271.out BK270) Try.underlying36 rfl (by kernel_rfl)) rfl ?_
 exact ⟨_, _, _, _, _, ee, by (with_reducible repeat (first | apply Kd.R_alloc | apply Kd.R_drewN | apply Kd.R_drew)); exact Kd.R_mono (Kd.R_far (p := ⟨gb270, 8, none⟩) (Kd.R_far (p := ⟨gb270, 7, none⟩) (Kd.R_far (p := ⟨gb270, 6, none⟩) (Kd.R_far (p := ⟨gb270, 5, none⟩) (Kd.R_far (p := ⟨gb270, 4, none⟩) (Kd.R_far (p := ⟨gb270, 3, none⟩) (Kd.R_far (p := ⟨gb270, 2, none⟩) (Kd.R_far (p := ⟨gb270, 1, none⟩) (Kd.R_far (p := ⟨gb270, 0, none⟩) (Kd.R_far (p := ⟨gb271, 8, none⟩) (Kd.R_types (Kd.R_types HO274.out BK271.out (by decide)) BK270.out (by decide)) (fun _ hk => hk.1.2) (.slice Ao31 t288.length co31)) (fun _ hk => hk.2) (.slice Ao14 t272.length co14)) (fun _ hk => hk.2) (.int .i64 t275)) (fun _ hk => hk.2) (.int .i64 t276)) (fun _ hk => hk.2) (.int .i64 t277)) (fun _ hk => hk.2) (.slice Ao20 t278.length co20)) (fun _ hk => hk.2) (.bool t281)) (fun _ hk => hk.2) (.slice Ao23 t282.length co23)) (fun _ hk => hk.2) (.slice Ao27 t285.length co27)) (fun _ hk => hk.2) (.slice Ao31 t288.length co31)) (fun _ hk => trivial), by (with_reducible repeat (first | apply Kd.R_alloc | apply Kd.R_drewN | apply Kd.R_drew)); exact Kd.R_mono (Kd.R_far (p := ⟨gb270, 8, none⟩) (Kd.R_far (p := ⟨gb270, 7, none⟩) (Kd.R_far (p := ⟨gb270, 6, none⟩) (Kd.R_far (p := ⟨gb270, 5, none⟩) (Kd.R_far (p := ⟨gb270, 4, none⟩) (Kd.R_far (p := ⟨gb270, 3, none⟩) (Kd.R_far (p := ⟨gb270, 2, none⟩) (Kd.R_far (p := ⟨gb270, 1, none⟩) (Kd.R_far (p := ⟨gb270, 0, none⟩) (Kd.R_far (p := ⟨gb271, 8, none⟩) (Kd.R_types (Kd.R_types HO280.out BK271.out (by decide)) BK270.out (by decide)) (fun _ hk => hk.1.2) (.slice Ao31 t288.length co31)) (fun _ hk => hk.2) (.slice Ao14 t272.length co14)) (fun _ hk => hk.2) (.int .i64 t275)) (fun _ hk => hk.2) (.int .i64 t276)) (fun _ hk => hk.2) (.int .i64 t277)) (fun _ hk => hk.2) (.slice Ao20 t278.length co20)) (fun _ hk => hk.2) (.bool t281)) (fun _ hk => hk.2) (.slice Ao23 t282.length co23)) (fun _ hk => hk.2) (.slice Ao27 t285.length co27)) (fun _ hk => hk.2) (.slice Ao31 t288.length co31)) (fun _ hk => ⟨hk.1.1.1.2, hk.1.1.2⟩), by (with_reducible repeat (first | apply Kd.R_alloc | apply Kd.R_drewN | apply Kd.R_drew)); exact Kd.R_mono (Kd.R_far (p := ⟨gb270, 8, none⟩) (Kd.R_far (p := ⟨gb270, 7, none⟩) (Kd.R_far (p := ⟨gb270, 6, none⟩) (Kd.R_far (p := ⟨gb270, 5, none⟩) (Kd.R_far (p := ⟨gb270, 4, none⟩) (Kd.R_far (p := ⟨gb270, 3, none⟩) (Kd.R_far (p := ⟨gb270, 2, none⟩) (Kd.R_far (p := ⟨gb270, 1, none⟩) (Kd.R_far (p := ⟨gb270, 0, none⟩) (Kd.R_far (p := ⟨gb271, 8, none⟩) (Kd.R_types (Kd.R_types HO284.out BK271.out (by decide)) BK270.out (by decide)) (fun _ hk => hk.1.2) (.slice Ao31 t288.length co31)) (fun _ hk => hk.2) (.slice Ao14 t272.length co14)) (fun _ hk => hk.2) (.int .i64 t275)) (fun _ hk => hk.2) (.int .i64 t276)) (fun _ hk => hk.2) (.int .i64 t277)) (fun _ hk => hk.2) (.slice Ao20 t278.length co20)) (fun _ hk => hk.2) (.bool t281)) (fun _ hk => hk.2) (.slice Ao23 t282.length co23)) (fun _ hk => hk.2) (.slice Ao27 t285.length co27)) (fun _ hk => hk.2) (.slice Ao31 t288.length co31)) (fun _ hk => trivial), by (with_reducible repeat (first | apply Kd.R_alloc | apply Kd.R_drewN | apply Kd.R_drew)); exact Kd.R_mono (Kd.R_far (p := ⟨gb270, 8, none⟩) (Kd.R_far (p := ⟨gb270, 7, none⟩) (Kd.R_far (p := ⟨gb270, 6, none⟩) (Kd.R_far (p := ⟨gb270, 5, none⟩) (Kd.R_far (p := ⟨gb270, 4, none⟩) (Kd.R_far (p := ⟨gb270, 3, none⟩) (Kd.R_far (p := ⟨gb270, 2, none⟩) (Kd.R_far (p := ⟨gb270, 1, none⟩) (Kd.R_far (p := ⟨gb270, 0, none⟩) (Kd.R_far (p := ⟨gb271, 8, none⟩) (Kd.R_types (Kd.R_types HO287.out BK271.out (by decide)) BK270.out (by decide)) (fun _ hk => hk.1.2) (.slice Ao31 t288.length co31)) (fun _ hk => hk.2) (.slice Ao14 t272.length co14)) (fun _ hk => hk.2) (.int .i64 t275)) (fun _ hk => hk.2) (.int .i64 t276)) (fun _ hk => hk.2) (.int .i64 t277)) (fun _ hk => hk.2) (.slice Ao20 t278.length co20)) (fun _ hk => hk.2) (.bool t281)) (fun _ hk => hk.2) (.slice Ao23 t282.length co23)) (fun _ hk => hk.2) (.slice Ao27 t285.length co27)) (fun _ hk => hk.2) (.slice Ao31 t288.length co31)) (fun _ hk => ⟨hk.1.1.1.2, hk.1.1.2⟩), by (with_reducible repeat (first | apply Kd.R_alloc | apply Kd.R_drewN | apply Kd.R_drew)); exact Kd.R_mono (Kd.R_far (p := ⟨gb270, 8, none⟩) (Kd.R_far (p := ⟨gb270, 7, none⟩) (Kd.R_far (p := ⟨gb270, 6, none⟩) (Kd.R_far (p := ⟨gb270, 5, none⟩) (Kd.R_far (p := ⟨gb270, 4, none⟩) (Kd.R_far (p := ⟨gb270, 3, none⟩) (Kd.R_far (p := ⟨gb270, 2, none⟩) (Kd.R_far (p := ⟨gb270, 1, none⟩) (Kd.R_far (p := ⟨gb270, 0, none⟩) (Kd.R_far (p := ⟨gb271, 8, none⟩) (Kd.R_types (Kd.R_types HO290.out BK271.out (by decide)) BK270.out (by decide)) (fun _ hk => hk.1.2) (.slice Ao31 t288.length co31)) (fun _ hk => hk.2) (.slice Ao14 t272.length co14)) (fun _ hk => hk.2) (.int .i64 t275)) (fun _ hk => hk.2) (.int .i64 t276)) (fun _ hk => hk.2) (.int .i64 t277)) (fun _ hk => hk.2) (.slice Ao20 t278.length co20)) (fun _ hk => hk.2) (.bool t281)) (fun _ hk => hk.2) (.slice Ao23 t282.length co23)) (fun _ hk => hk.2) (.slice Ao27 t285.length co27)) (fun _ hk => hk.2) (.slice Ao31 t288.length co31)) (fun _ hk => ⟨hk.1.1.1.2, hk.1.1.2⟩), bb HB⟩
def laws_toProtest.f (a0_0 : Int) (a0_1 : Int) (a0_2 : Bool) : Option (Int × Int × Bool) := some (a0_0, a0_1, a0_2)
theorem laws_toProtest.calls (a0_0 : Int) (a0_1 : Int) (a0_2 : Bool) (r1 : Int) (r2 : Int) (r3 : Bool) (w : World) (h : laws_toProtest.f a0_0 a0_1 a0_2 = some (r1, r2, r3)) :
  Calls Try.prog 22 #[.agg #[.int .i64 a0_0, .int .i64 a0_1, .bool a0_2]] w fun e w' => e = .returned (.agg #[.int .i64 r1, .int .i64 r2, .bool r3]) ∧ Below w.heap.size w w' := by
 have hu48 := Try.underlying48
 have hu50 := Try.underlying50
 have HB := dk (Below.refl w.heap.size w)
 have H : (some (a0_0, a0_1, a0_2)) = some (r1, r2, r3) := h
 clear h
 simp only [Option.some.injEq, Prod.mk.injEq] at H
 obtain ⟨rfl, rfl, rfl⟩ := H
 go_enter Try.func22, Try.ntmps22
 go_wp2_with (first | ((with_reducible refine gate_dst (N := 1) rfl ?_); refine bx (N := 1) (cs := #[.int .i64 a0_0, .int .i64 a0_1, .bool a0_2]) (t := 48) ?_; intro gb291 hg w2 hbox hb; have BK291 := dk (hbox); have GW291 := gs hg HB; have GE291 := gs hg HB; replace HB := hs_ HB hb; clear hb hbox hg) | ((with_reducible refine gate_dst (N := 2) rfl ?_); refine bx (N := 2) (cs := #[.int .i64 0, .int .i64 0, .bool false]) (t := 50) ?_; intro gb292 hg w3 hbox hb; have BK292 := dk (hbox); have GW292 := gs hg HB; have GE292 := gs hg HB; replace HB := hs_ HB hb; have NB291_292 := gn hg BK291; have NB292_291 := gm hg BK291; replace BK291 := kb BK291 hb; clear hb hbox hg) | ((with_reducible refine gate_dst (N := 3) rfl ?_); refine bx (N := 3) (cs := #[.int .i64 0, .int .i64 0, .bool false]) (t := 50) ?_; intro gb293 hg w4 hbox hb; have BK293 := dk (hbox); have GW293 := gs hg HB; have GE293 := gs hg HB; replace HB := hs_ HB hb; have NB291_293 := gn hg BK291; have NB293_291 := gm hg BK291; replace BK291 := kb BK291 hb; have NB292_293 := gn hg BK292; have NB293_292 := gm hg BK292; replace BK292 := kb BK292 hb; clear hb hbox hg; have hnb5 := NB291_292.out; have hnc5 := NB292_291.out; have hnb6 := NB291_293.out; have hnc6 := NB293_291.out; have ⟨z7_0, z7_1, z7_2, v7_0, v7_1, v7_2⟩ := rz3 BK291; have hnb8 := NB293_292.out; have hnc8 := NB292_293.out; have ⟨z9_0, z9_1, z9_2, v9_0, v9_1, v9_2⟩ := rz3 BK293; have ⟨z10_0, z10_1, z10_2, v10_0, v10_1, v10_2⟩ := rz3 BK292))
 refine bodyPost_ret (results_cell_row rfl _ _ gb292 50 #[.int .i64 a0_0, .int .i64 a0_1, .bool a0_2] (0, 0) _ rfl (by (with_reducible repeat (first | refine blk_drewN ?_ _ | refine blk_drew ?_ | refine blk_alloc ?_ _)); refine blk_put (cs := #[.int .i64 a0_0, .int .i64 a0_1, .bool false]) ?_ 2 _ rfl; (with_reducible repeat (first | refine blk_drewN ?_ _ | refine blk_drew ?_ | refine blk_alloc ?_ _)); refine blk_put (cs := #[.int .i64 a0_0, .int .i64 0, .bool false]) ?_ 1 _ rfl; (with_reducible repeat (first | refine blk_drewN ?_ _ | refine blk_drew ?_ | refine blk_alloc ?_ _)); refine blk_put (cs := #[.int .i64 0, .int .i64 0, .bool false]) ?_ 0 _ rfl; exact bf NB292_293.out BK292) Try.underlying50 rfl (by kernel_rfl)) rfl ?_
 exact ⟨ee, bb HB⟩
def laws_toProtestS.l0 : Nat → List (S48) → List (S50) → Int → Option ((List (S50)))
 | 0, _, _, _ => none
 | k + 1, x0, x3, x4 => if x4 < (x0.length : Int) then (if 0 ≤ x4 then ((laws_toProtest.f ((rd_T48 x0 x4).f0) ((rd_T48 x0 x4).f1) ((rd_T48 x0 x4).f2)).bind fun bt298 => (if x4 < (x3.length : Int) then (laws_toProtestS.l0 k x0 (x3.set (x4 : Int).toNat (⟨bt298.1, bt298.2.1, bt298.2.2⟩ : S50)) (wrap64 (x4 + 1))) else (none))) else (none)) else (some x3)
def laws_toProtestS.f (k : Nat) (l0 : List (S48)) : Option ((List (S50))) := if 0 ≤ (l0.length : Int) then (if ((l0.length : Int) : Int).toNat ≤ 11728124029610 then (laws_toProtestS.l0 k l0 (List.replicate ((l0.length : Int) : Int).toNat z50) 0) else (none)) else (none)
theorem laws_toProtestS.calls (k : Nat) (A0 : Option Addr) (c0 : Nat) (l0 : List (S48)) (r : List (S50)) (w : World) (hr0 : Kd.C k48 w A0 l0.length l0) (hc0 : l0.length ≤ c0) (h : laws_toProtestS.f k l0 = some r) :
  Calls Try.prog 14 #[.slice A0 l0.length c0] w fun e w' => ∃ v0_ : Value, e = .returned (v0_) ∧ Kd.R k50 50 w' w.heap.size (fun _ => True) v0_ r ∧ Below w.heap.size w w' := by
 have hu48 := Try.underlying48
 have hu50 := Try.underlying50
 have HR0 := dk hr0
 have HC0 := dk hc0
 clear hr0 hc0
 have HB := dk (Below.refl w.heap.size w)
 have H : (if 0 ≤ (l0.length : Int) then (if ((l0.length : Int) : Int).toNat ≤ 11728124029610 then (laws_toProtestS.l0 k l0 (List.replicate ((l0.length : Int) : Int).toNat z50) 0) else (none)) else (none)) = some r := h
 clear h
 by_cases c2 : 0 ≤ (l0.length : Int)
 ·rw [if_pos c2] at H
  have c2b0 := eq_true c2
  have c2b1 : decide (0 ≤ (l0.length : Int)) = true := decide_eq_true c2
  clear c2
  by_cases c3 : ((l0.length : Int) : Int).toNat ≤ 11728124029610
  ·rw [if_pos c3] at H
   have c3b0 := eq_true c3
   have c3b1 : decide (((l0.length : Int) : Int).toNat ≤ 11728124029610) = true := decide_eq_true c3
   clear c3
   obtain ⟨y294, hy294⟩ : ∃ y_ : List (S50), y_ = (List.replicate ((l0.length : Int) : Int).toNat z50) := ⟨_, rfl⟩
   replace H : (laws_toProtestS.l0 k l0 y294 0) = some r := by first | (rw [hy294]; with_reducible exact H) | (have H2_ := (Option.bind_some _ _).symm.trans H; rw [hy294]; with_reducible exact H2_) | (have H2_ := (Option.bind_some _ _).symm.trans H; with_reducible exact H2_) | with_reducible exact H | (rw [hy294]; exact H) | exact H
   have Ny294 := dk hy294
   clear hy294
   have H' := dk H
   clear H
   go_enter Try.func14, Try.ntmps14
   go_wp2_with (first | ((with_reducible refine gate_dst (N := 7) rfl ?_); refine Kd.R_make k50 _ 50 rfl (N := 7) rfl 40 _ _ rfl (l0.length : Int) rfl rfl Try.underlying40 (.agg #[(.int .i64 0), (.int .i64 0), (.bool false)]) 24 info50 rfl (by decide) (by omega) z50 (ok := fun _ => True) (okp := fun _ => True) (k50_mkM _ _ _ z50 ) (fun _ hk => hk) trivial (oa) (Nat.le_trans (Nat.mul_le_mul_right _ (oa : (l0.length : Int).toNat ≤ 11728124029610)) (by omega)) (Below.refl _ _) (Nat.le_refl _) ?_; intro v295 w4 ho5 hb hg_ hnew_; clear hg_ hnew_; (first | rw [← Ny294.out] at ho5 | (simp only [Int.reduceToNat] at ho5; rw [← Ny294.out] at ho5)); have HO296 := kl ho5 HB; replace HB := hs_ HB hb; clear hb ho5))
   go_loopg [4] k (fun kq v4 w' => ∃ (x3_1 : List (S50)) (x4_1 : Int), v4 = .int .i64 x4_1 ∧ Aside0 (laws_toProtestS.l0 kq l0 x3_1 x4_1 = some r) ∧ Aside0 (kq ≤ k) ∧ Aside0 (Kd.R k50 50 w' w.heap.size (fun _ => True) v295 x3_1) ∧ Aside0 (Below w.heap.size w w'))
   case atStart => exact ⟨(y294), (0), e2_, H', ⟨Nat.le_refl _⟩, ⟨rr HO296⟩, ⟨bb HB⟩⟩
   case round =>
    clear H'
    (try clear c1)
    (try clear c2)
    (try clear c2b0)
    (try clear c2b1)
    (try clear p2)
    (try clear c3)
    (try clear c3b0)
    (try clear c3b1)
    obtain ⟨x3_1, x4_1, rfl, HA, HK1, HO_3, HB⟩ := hrel
    cases gk with
    | zero => exact absurd HA.out (by simp [laws_toProtestS.l0])
    | succ k1 =>
     have H := HA.out
     clear HA
     simp only [laws_toProtestS.l0] at H
     by_cases c6 : x4_1 < (l0.length : Int)
     ·rw [if_pos c6] at H
      have c6b0 : decide (x4_1 < (l0.length : Int)) = true := decide_eq_true c6
      clear c6
      by_cases c7 : 0 ≤ x4_1
      ·rw [if_pos c7] at H
       have c7b0 : decide (0 ≤ x4_1) = true := decide_eq_true c7
       clear c7
       replace H := Option.bind_eq_some_iff.mp H
       obtain ⟨⟨t298, t299, t300⟩, A80, H⟩ := H
       try dsimp only at H
       have A8 := dk A80
       clear A80
       by_cases c9 : x4_1 < (x3_1.length : Int)
       ·rw [if_pos c9] at H
        have c9b0 : decide (x4_1 < (x3_1.length : Int)) = true := decide_eq_true c9
        clear c9
        obtain ⟨y301, hy301⟩ : ∃ y_ : List (S50), y_ = (x3_1.set (x4_1 : Int).toNat (⟨t298, t299, t300⟩ : S50)) := ⟨_, rfl⟩
        replace H : (laws_toProtestS.l0 k1 l0 y301 (wrap64 (x4_1 + 1))) = some r := by first | (rw [hy301]; with_reducible exact H) | (have H2_ := (Option.bind_some _ _).symm.trans H; rw [hy301]; with_reducible exact H2_) | (have H2_ := (Option.bind_some _ _).symm.trans H; with_reducible exact H2_) | with_reducible exact H | (rw [hy301]; exact H) | exact H
        have Ny301 := dk hy301
        clear hy301
        have H' := dk H
        clear H
        have p297 : 0 ≤ (x4_1 : Int) := oa
        have q297 : x4_1 < (l0.length : Int) := oa
        obtain ⟨ad297, e297, hx297_0, hx297_1, hx297_2⟩ := at_T48 HR0.out x4_1 p297 q297
        cases e297
        replace hx297_0 := hc HB hx297_0
        replace hx297_1 := hc HB hx297_1
        replace hx297_2 := hc HB hx297_2
        replace p297 := eq_true p297
        replace q297 := eq_true q297
        go_wp2_with (first | ((with_reducible refine gate_callee (f := 22) rfl ?_); refine gl (some 20) Try.func22 #[.agg #[.int .i64 ((rd_T48 l0 x4_1).f0), .int .i64 ((rd_T48 l0 x4_1).f1), .bool ((rd_T48 l0 x4_1).f2)]] ?_; (with_reducible refine (laws_toProtest.calls ((rd_T48 l0 x4_1).f0) ((rd_T48 l0 x4_1).f1) ((rd_T48 l0 x4_1).f2) t298 t299 t300 _ A8.out).mono ?_); rintro e w11 ⟨rfl, hb⟩; refine ⟨_, rfl, ?_⟩; replace HO_3 := kr HO_3 hb; replace HB := hs_ HB hb; (try clear hb hb2 hk hi); have p10 : 0 ≤ (x4_1 : Int) := oa; have q10 : (x4_1 : Int) < ((x3_1.length : Int) : Int) := oa; obtain ⟨go10, co10, eo10, gb10, gl10, cl10, HG10⟩ := Kd.R_form HO_3.out (by omega); (first | cases eo10 | (injection eo10 with ea_ en_ ec_; (first | subst ea_ | (injection ea_ with ea_; subst ea_)); subst ec_; clear en_)); have GB10 := dk gb10; have GG10 := dk HG10; clear gb10 gl10 HG10; obtain ⟨ce10, hcl10, hM10, hcc10, hfr10⟩ := Kd.R_elem HO_3.out z50 (x4_1 : Int) p10 q10; obtain rfl := k50_openM hM10; have hx10_0 : w11.cell? ⟨go10, (x4_1 : Int).toNat * 3, none⟩ = some (.int .i64 ((rd_T50 x3_1 x4_1).f0)) := hcc10 0 _ rfl; have hx10_1 : w11.cell? ⟨go10, (x4_1 : Int).toNat * 3 + 1, none⟩ = some (.int .i64 ((rd_T50 x3_1 x4_1).f1)) := hcc10 1 _ rfl; have hx10_2 : w11.cell? ⟨go10, (x4_1 : Int).toNat * 3 + 2, none⟩ = some (.bool ((rd_T50 x3_1 x4_1).f2)) := hcc10 2 _ rfl; have hf10_0 : w11.frozen? ⟨go10, (x4_1 : Int).toNat * 3, none⟩ = false := hfr10 0; have hf10_1 : w11.frozen? ⟨go10, (x4_1 : Int).toNat * 3 + 1, none⟩ = false := hfr10 1; have hf10_2 : w11.frozen? ⟨go10, (x4_1 : Int).toNat * 3 + 2, none⟩ = false := hfr10 2; clear hcl10 hcc10 hfr10; (try clear hM10); replace p10 := eq_true p10; replace q10 := eq_true q10; have HX12 := dk (show Kd.R k50 50 w11 w.heap.size (fun _ => True) (.slice (some ⟨go10, 0, none⟩) x3_1.length co10) x3_1 from (rr HO_3)); obtain ⟨ce12, hcl12, hM12, hcc12, hfr12⟩ := Kd.R_elem HX12.out z50 (x4_1 : Int) (oa) (by have h_ : (x4_1 : Int) < ((x3_1.length : Int) : Int) := oa; first | exact h_ | (have e_ := (Kd.R_reads' HO_3.out).1; omega) | simpa using h_); obtain rfl := k50_openM hM12; have HP12 := Kd.R_seg HX12.out (x4_1 : Int) (oa) (by have h_ : (x4_1 : Int) < ((x3_1.length : Int) : Int) := oa; first | exact h_ | (have e_ := (Kd.R_reads' HO_3.out).1; omega) | simpa using h_) (seg := [.int .i64 t298, .int .i64 t299, .bool t300]) (j := 0) hcl12 hcc12 (show 3 ≤ 3 from by decide) (x' := (⟨t298, t299, t300⟩ : S50)) (k50_mkM _ _ _ (⟨t298, t299, t300⟩ : S50) ) (fun _ hk => hk); have hx12_0 := hcc12 0 _ rfl; (try simp only [show (k50).sz = 3 from rfl, Nat.mul_one, Nat.add_zero] at hx12_0); have hf12_0 := hfr12 0; (try simp only [show (k50).sz = 3 from rfl, Nat.mul_one, Nat.add_zero] at hf12_0); have hx12_1 := hcc12 1 _ rfl; (try simp only [show (k50).sz = 3 from rfl, Nat.mul_one, Nat.add_zero] at hx12_1); have hf12_1 := hfr12 1; (try simp only [show (k50).sz = 3 from rfl, Nat.mul_one, Nat.add_zero] at hf12_1); have hx12_2 := hcc12 2 _ rfl; (try simp only [show (k50).sz = 3 from rfl, Nat.mul_one, Nat.add_zero] at hx12_2); have hf12_2 := hfr12 2; (try simp only [show (k50).sz = 3 from rfl, Nat.mul_one, Nat.add_zero] at hf12_2); clear hcl12 hcc12 hfr12; (try clear hM12)) | ((with_reducible refine gate_store (t := 50) (p := 21) rfl ?_); refine store_event (t := 50) (p := 21) (v := ?vo_w13) (w1 := (((w11.setCell ⟨go10, (x4_1 : Int).toNat * 3, none⟩ (.int .i64 t298)).setCell ⟨go10, (x4_1 : Int).toNat * 3 + 1, none⟩ (.int .i64 t299)).setCell ⟨go10, (x4_1 : Int).toNat * 3 + 2, none⟩ (.bool t300))) ?hg ?ho ?hn ?hr ?_; (case ho => rfl); (case hg => rfl); (case hn => rfl); (case hr => first | (go_simp; done) | (go_simp; rfl)); intro w13 hw; have hg : w11.grownBy w13 (some go10) := (by rw [hw]; exact HP12.2); have hp_ : Kd.R k50 50 w13 w.heap.size (fun _ => True) (.slice (some ⟨go10, 0, none⟩) x3_1.length co10) y301 := (by rw [hw, Ny301.out]; exact HP12.1); clear HP12; replace HO_3 := dk (hp_); replace HB := dk (by rw [hw]; exact below_set (below_set (below_set (HB.out) GB10.out) GB10.out) GB10.out : Below w.heap.size w w13); clear hg hw hp_))
        go_roundg k1
        case measure => have := HK1.out; omega
        case rel => exact ⟨(y301), (wrap64 (x4_1 + 1)), e2_, H', ⟨by have := HK1.out; omega⟩, ⟨rr HO_3⟩, ⟨bb HB⟩⟩
       ·rw [if_neg c9] at H
        exact absurd H (by simp)
      ·rw [if_neg c7] at H
       exact absurd H (by simp)
     ·rw [if_neg c6] at H
      have c6b0 : decide (x4_1 < (l0.length : Int)) = false := decide_eq_false c6
      clear c6
      obtain rfl := Option.some.inj H
      go_wp2
      go_ret
      exact ⟨_, ee, rr HO_3, bb HB⟩
  ·rw [if_neg c3] at H
   exact absurd H (by simp)
 ·rw [if_neg c2] at H
  exact absurd H (by simp)
def impl_within.f (a0 : Int) (a1 : Int) (a2 : Int) : Option (Bool) := if a1 ≤ a0 then (some (decide (a0 ≤ a2))) else (some false)
theorem impl_within.calls (a0 : Int) (a1 : Int) (a2 : Int) (r : Bool) (w : World) (h : impl_within.f a0 a1 a2 = some r) :
  Calls Try.prog 128 #[.int .i64 a0, .int .i64 a1, .int .i64 a2] w fun e w' => e = .returned (.bool r) ∧ Drawn0 w w' := by
 have H : (if a1 ≤ a0 then (some (decide (a0 ≤ a2))) else (some false)) = some r := h
 clear h
 by_cases c4 : a1 ≤ a0
 ·rw [if_pos c4] at H
  have c4b0 : decide (a1 ≤ a0) = true := decide_eq_true c4
  clear c4
  obtain rfl := Option.some.inj H
  go_enter Try.func128, Try.ntmps128
  go_wp2
  go_ret
  exact ⟨e2_, by repeat (first | exact Drawn0.refl _ | apply Drawn0.step)⟩
 ·rw [if_neg c4] at H
  have c4b0 : decide (a1 ≤ a0) = false := decide_eq_false c4
  clear c4
  obtain rfl := Option.some.inj H
  go_enter Try.func128, Try.ntmps128
  go_wp2
  go_ret
  exact ⟨e2_, by repeat (first | exact Drawn0.refl _ | apply Drawn0.step)⟩
def impl_IsName.l0 : Nat → ByteArray → Int → Int → Option (Bool)
 | 0, _, _, _ => none
 | k + 1, x0, x6, x7 => if x7 < x6 then (if 0 ≤ x7 then (if x7 < (x0.size : Int) then (if (bt x0 x7) ≥ 97 then (if ((bt x0 x7) ≤ 122) then (impl_IsName.l0 k x0 x6 (wrap64 (x7 + 1))) else (if x7 = 0 then (some false) else (if (bt x0 x7) < 48 then (some false) else (if (bt x0 x7) > 57 then (some false) else (impl_IsName.l0 k x0 x6 (wrap64 (x7 + 1))))))) else (if x7 = 0 then (some false) else (if (bt x0 x7) < 48 then (some false) else (if (bt x0 x7) > 57 then (some false) else (impl_IsName.l0 k x0 x6 (wrap64 (x7 + 1))))))) else (none)) else (none)) else ((impl_within.f (x0.size : Int) 1 8).bind fun t302 => (some t302))
def impl_IsName.f (k : Nat) (a0 : ByteArray) : Option (Bool) := impl_IsName.l0 k a0 (a0.size : Int) 0
theorem impl_IsName.calls (k : Nat) (a0 : ByteArray) (r : Bool) (w : World) (h : impl_IsName.f k a0 = some r) :
  Calls Try.prog 184 #[.string a0] w fun e w' => e = .returned (.bool r) ∧ Drawn0 w w' := by
 have H : (impl_IsName.l0 k a0 (a0.size : Int) 0) = some r := h
 clear h
 have H' := dk H
 clear H
 go_enter Try.func184, Try.ntmps184
 go_wp2
 go_loopg [7] k (fun kq v7 w' => ∃ (x7_1 : Int), v7 = .int .i64 x7_1 ∧ Aside0 (impl_IsName.l0 kq a0 (a0.size : Int) x7_1 = some r) ∧ Aside0 (kq ≤ k) ∧ Drawn0 w w')
 case atStart => exact ⟨(0), e2_, H', ⟨Nat.le_refl _⟩, by repeat (first | exact Drawn0.refl _ | apply Drawn0.step)⟩
 case round =>
  clear H'
  (try clear c1)
  obtain ⟨x7_1, rfl, HA, HK1, ⟨m1, rfl⟩⟩ := hrel
  cases gk with
  | zero => exact absurd HA.out (by simp [impl_IsName.l0])
  | succ k1 =>
   have H := HA.out
   clear HA
   simp only [impl_IsName.l0] at H
   by_cases c2 : x7_1 < (a0.size : Int)
   ·rw [if_pos c2] at H
    have c2b0 : decide (x7_1 < (a0.size : Int)) = true := decide_eq_true c2
    clear c2
    by_cases c3 : 0 ≤ x7_1
    ·rw [if_pos c3] at H
     have c3b0 : decide (0 ≤ x7_1) = true := decide_eq_true c3
     clear c3
     by_cases c4 : x7_1 < (a0.size : Int)
     ·rw [if_pos c4] at H
      have c4b0 : decide (x7_1 < (a0.size : Int)) = true := decide_eq_true c4
      clear c4
      by_cases c6 : (bt a0 x7_1) ≥ 97
      ·rw [if_pos c6] at H
       have c6b0 : decide (97 ≤ (bt a0 x7_1)) = true := decide_eq_true c6
       clear c6
       by_cases c8 : ((bt a0 x7_1) ≤ 122)
       ·rw [if_pos c8] at H
        have c8b0 : decide ((bt a0 x7_1) ≤ 122) = true := decide_eq_true c8
        clear c8
        have H' := dk H
        clear H
        have p5 : 0 ≤ (x7_1 : Int) := oa
        have q5 : x7_1 < (a0.size : Int) := oa
        have hx5 := bt_at a0 x7_1
        replace p5 := eq_true p5
        replace q5 := eq_true q5
        have p7 : 0 ≤ (x7_1 : Int) := oa
        have q7 : x7_1 < (a0.size : Int) := oa
        have hx7 := bt_at a0 x7_1
        replace p7 := eq_true p7
        replace q7 := eq_true q7
        go_wp2
        go_roundg k1
        case measure => have := HK1.out; omega
        case rel => exact ⟨(wrap64 (x7_1 + 1)), e2_, H', ⟨by have := HK1.out; omega⟩, by repeat (first | exact Drawn0.refl _ | apply Drawn0.step)⟩
       ·rw [if_neg c8] at H
        have c8b0 : decide ((bt a0 x7_1) ≤ 122) = false := decide_eq_false c8
        clear c8
        by_cases c9 : x7_1 = 0
        ·rw [if_pos c9] at H
         have c9b0 : (x7_1 == 0) = true := beq_iff_eq.mpr c9
         have c9b1 : (x7_1 != 0) = false := bne_eq_false_iff_eq.mpr c9
         clear c9
         obtain rfl := Option.some.inj H
         have p5 : 0 ≤ (x7_1 : Int) := oa
         have q5 : x7_1 < (a0.size : Int) := oa
         have hx5 := bt_at a0 x7_1
         replace p5 := eq_true p5
         replace q5 := eq_true q5
         have p7 : 0 ≤ (x7_1 : Int) := oa
         have q7 : x7_1 < (a0.size : Int) := oa
         have hx7 := bt_at a0 x7_1
         replace p7 := eq_true p7
         replace q7 := eq_true q7
         go_wp2
         go_ret
         exact ⟨e2_, by repeat (first | exact Drawn0.refl _ | apply Drawn0.step)⟩
        ·rw [if_neg c9] at H
         have c9b0 : (x7_1 == 0) = false := beq_eq_false_iff_ne.mpr c9
         have c9b1 : (x7_1 != 0) = true := bne_iff_ne.mpr c9
         by_cases c11 : (bt a0 x7_1) < 48
         ·rw [if_pos c11] at H
          have c11b0 : decide ((bt a0 x7_1) < 48) = true := decide_eq_true c11
          clear c11
          obtain rfl := Option.some.inj H
          have p5 : 0 ≤ (x7_1 : Int) := oa
          have q5 : x7_1 < (a0.size : Int) := oa
          have hx5 := bt_at a0 x7_1
          replace p5 := eq_true p5
          replace q5 := eq_true q5
          have p7 : 0 ≤ (x7_1 : Int) := oa
          have q7 : x7_1 < (a0.size : Int) := oa
          have hx7 := bt_at a0 x7_1
          replace p7 := eq_true p7
          replace q7 := eq_true q7
          have p10 : 0 ≤ (x7_1 : Int) := oa
          have q10 : x7_1 < (a0.size : Int) := oa
          have hx10 := bt_at a0 x7_1
          replace p10 := eq_true p10
          replace q10 := eq_true q10
          go_wp2
          go_ret
          exact ⟨e2_, by repeat (first | exact Drawn0.refl _ | apply Drawn0.step)⟩
         ·rw [if_neg c11] at H
          have c11b0 : decide ((bt a0 x7_1) < 48) = false := decide_eq_false c11
          clear c11
          by_cases c13 : (bt a0 x7_1) > 57
          ·rw [if_pos c13] at H
           have c13b0 : decide (57 < (bt a0 x7_1)) = true := decide_eq_true c13
           clear c13
           obtain rfl := Option.some.inj H
           have p5 : 0 ≤ (x7_1 : Int) := oa
           have q5 : x7_1 < (a0.size : Int) := oa
           have hx5 := bt_at a0 x7_1
           replace p5 := eq_true p5
           replace q5 := eq_true q5
           have p7 : 0 ≤ (x7_1 : Int) := oa
           have q7 : x7_1 < (a0.size : Int) := oa
           have hx7 := bt_at a0 x7_1
           replace p7 := eq_true p7
           replace q7 := eq_true q7
           have p10 : 0 ≤ (x7_1 : Int) := oa
           have q10 : x7_1 < (a0.size : Int) := oa
           have hx10 := bt_at a0 x7_1
           replace p10 := eq_true p10
           replace q10 := eq_true q10
           have p12 : 0 ≤ (x7_1 : Int) := oa
           have q12 : x7_1 < (a0.size : Int) := oa
           have hx12 := bt_at a0 x7_1
           replace p12 := eq_true p12
           replace q12 := eq_true q12
           go_wp2
           go_ret
           exact ⟨e2_, by repeat (first | exact Drawn0.refl _ | apply Drawn0.step)⟩
          ·rw [if_neg c13] at H
           have c13b0 : decide (57 < (bt a0 x7_1)) = false := decide_eq_false c13
           clear c13
           have H' := dk H
           clear H
           have p5 : 0 ≤ (x7_1 : Int) := oa
           have q5 : x7_1 < (a0.size : Int) := oa
           have hx5 := bt_at a0 x7_1
           replace p5 := eq_true p5
           replace q5 := eq_true q5
           have p7 : 0 ≤ (x7_1 : Int) := oa
           have q7 : x7_1 < (a0.size : Int) := oa
           have hx7 := bt_at a0 x7_1
           replace p7 := eq_true p7
           replace q7 := eq_true q7
           have p10 : 0 ≤ (x7_1 : Int) := oa
           have q10 : x7_1 < (a0.size : Int) := oa
           have hx10 := bt_at a0 x7_1
           replace p10 := eq_true p10
           replace q10 := eq_true q10
           have p12 : 0 ≤ (x7_1 : Int) := oa
           have q12 : x7_1 < (a0.size : Int) := oa
           have hx12 := bt_at a0 x7_1
           replace p12 := eq_true p12
           replace q12 := eq_true q12
           go_wp2
           go_roundg k1
           case measure => have := HK1.out; omega
           case rel => exact ⟨(wrap64 (x7_1 + 1)), e2_, H', ⟨by have := HK1.out; omega⟩, by repeat (first | exact Drawn0.refl _ | apply Drawn0.step)⟩
      ·rw [if_neg c6] at H
       have c6b0 : decide (97 ≤ (bt a0 x7_1)) = false := decide_eq_false c6
       clear c6
       by_cases c14 : x7_1 = 0
       ·rw [if_pos c14] at H
        have c14b0 : (x7_1 == 0) = true := beq_iff_eq.mpr c14
        have c14b1 : (x7_1 != 0) = false := bne_eq_false_iff_eq.mpr c14
        clear c14
        obtain rfl := Option.some.inj H
        have p5 : 0 ≤ (x7_1 : Int) := oa
        have q5 : x7_1 < (a0.size : Int) := oa
        have hx5 := bt_at a0 x7_1
        replace p5 := eq_true p5
        replace q5 := eq_true q5
        go_wp2
        go_ret
        exact ⟨e2_, by repeat (first | exact Drawn0.refl _ | apply Drawn0.step)⟩
       ·rw [if_neg c14] at H
        have c14b0 : (x7_1 == 0) = false := beq_eq_false_iff_ne.mpr c14
        have c14b1 : (x7_1 != 0) = true := bne_iff_ne.mpr c14
        by_cases c16 : (bt a0 x7_1) < 48
        ·rw [if_pos c16] at H
         have c16b0 : decide ((bt a0 x7_1) < 48) = true := decide_eq_true c16
         clear c16
         obtain rfl := Option.some.inj H
         have p5 : 0 ≤ (x7_1 : Int) := oa
         have q5 : x7_1 < (a0.size : Int) := oa
         have hx5 := bt_at a0 x7_1
         replace p5 := eq_true p5
         replace q5 := eq_true q5
         have p15 : 0 ≤ (x7_1 : Int) := oa
         have q15 : x7_1 < (a0.size : Int) := oa
         have hx15 := bt_at a0 x7_1
         replace p15 := eq_true p15
         replace q15 := eq_true q15
         go_wp2
         go_ret
         exact ⟨e2_, by repeat (first | exact Drawn0.refl _ | apply Drawn0.step)⟩
        ·rw [if_neg c16] at H
         have c16b0 : decide ((bt a0 x7_1) < 48) = false := decide_eq_false c16
         clear c16
         by_cases c18 : (bt a0 x7_1) > 57
         ·rw [if_pos c18] at H
          have c18b0 : decide (57 < (bt a0 x7_1)) = true := decide_eq_true c18
          clear c18
          obtain rfl := Option.some.inj H
          have p5 : 0 ≤ (x7_1 : Int) := oa
          have q5 : x7_1 < (a0.size : Int) := oa
          have hx5 := bt_at a0 x7_1
          replace p5 := eq_true p5
          replace q5 := eq_true q5
          have p15 : 0 ≤ (x7_1 : Int) := oa
          have q15 : x7_1 < (a0.size : Int) := oa
          have hx15 := bt_at a0 x7_1
          replace p15 := eq_true p15
          replace q15 := eq_true q15
          have p17 : 0 ≤ (x7_1 : Int) := oa
          have q17 : x7_1 < (a0.size : Int) := oa
          have hx17 := bt_at a0 x7_1
          replace p17 := eq_true p17
          replace q17 := eq_true q17
          go_wp2
          go_ret
          exact ⟨e2_, by repeat (first | exact Drawn0.refl _ | apply Drawn0.step)⟩
         ·rw [if_neg c18] at H
          have c18b0 : decide (57 < (bt a0 x7_1)) = false := decide_eq_false c18
          clear c18
          have H' := dk H
          clear H
          have p5 : 0 ≤ (x7_1 : Int) := oa
          have q5 : x7_1 < (a0.size : Int) := oa
          have hx5 := bt_at a0 x7_1
          replace p5 := eq_true p5
          replace q5 := eq_true q5
          have p15 : 0 ≤ (x7_1 : Int) := oa
          have q15 : x7_1 < (a0.size : Int) := oa
          have hx15 := bt_at a0 x7_1
          replace p15 := eq_true p15
          replace q15 := eq_true q15
          have p17 : 0 ≤ (x7_1 : Int) := oa
          have q17 : x7_1 < (a0.size : Int) := oa
          have hx17 := bt_at a0 x7_1
          replace p17 := eq_true p17
          replace q17 := eq_true q17
          go_wp2
          go_roundg k1
          case measure => have := HK1.out; omega
          case rel => exact ⟨(wrap64 (x7_1 + 1)), e2_, H', ⟨by have := HK1.out; omega⟩, by repeat (first | exact Drawn0.refl _ | apply Drawn0.step)⟩
     ·rw [if_neg c4] at H
      exact absurd H (by simp)
    ·rw [if_neg c3] at H
     exact absurd H (by simp)
   ·rw [if_neg c2] at H
    have c2b0 : decide (x7_1 < (a0.size : Int)) = false := decide_eq_false c2
    clear c2
    replace H := Option.bind_eq_some_iff.mp H
    obtain ⟨t302, A190, H⟩ := H
    try dsimp only at H
    have A19 := dk A190
    clear A190
    obtain rfl := Option.some.inj H
    go_wp2_with (first | ((with_reducible refine gate_callee (f := 128) rfl ?_); refine gl (some 41) Try.func128 #[.int .i64 (a0.size : Int), .int .i64 1, .int .i64 8] ?_; (with_reducible refine (impl_within.calls (a0.size : Int) 1 8 t302 _ A19.out).mono ?_); rintro e w' ⟨rfl, ⟨nd, rfl⟩⟩; refine ⟨_, rfl, ?_⟩))
    go_ret
    exact ⟨e2_, by repeat (first | exact Drawn0.refl _ | apply Drawn0.step)⟩
def impl_TeamOk.f (k : Nat) (a0_0 : ByteArray) (a0_1 : Int) (a0_2 : Int) : Option (Bool) := (impl_IsName.f k a0_0).bind fun t304 => (if t304 = true then ((impl_within.f a0_1 0 5).bind fun t305 => (if t305 = true then ((impl_within.f a0_2 1 8).bind fun t306 => (some t306)) else (some false))) else (some false))
theorem impl_TeamOk.calls (k : Nat) (a0_0 : ByteArray) (a0_1 : Int) (a0_2 : Int) (r : Bool) (w : World) (h : impl_TeamOk.f k a0_0 a0_1 a0_2 = some r) :
  Calls Try.prog 160 #[.agg #[.string a0_0, .int .i64 a0_1, .int .i64 a0_2]] w fun e w' => e = .returned (.bool r) ∧ Below w.heap.size w w' := by
 have hu139 := Try.underlying139
 have HB := dk (Below.refl w.heap.size w)
 have H : ((impl_IsName.f k a0_0).bind fun t304 => (if t304 = true then ((impl_within.f a0_1 0 5).bind fun t305 => (if t305 = true then ((impl_within.f a0_2 1 8).bind fun t306 => (some t306)) else (some false))) else (some false))) = some r := h
 clear h
 replace H := Option.bind_eq_some_iff.mp H
 obtain ⟨t304, A20, H⟩ := H
 try dsimp only at H
 have A2 := dk A20
 clear A20
 by_cases c3 : t304 = true
 ·subst c3
  rw [if_pos rfl] at H
  replace H := Option.bind_eq_some_iff.mp H
  obtain ⟨t305, A40, H⟩ := H
  try dsimp only at H
  have A4 := dk A40
  clear A40
  by_cases c5 : t305 = true
  ·subst c5
   rw [if_pos rfl] at H
   replace H := Option.bind_eq_some_iff.mp H
   obtain ⟨t306, A60, H⟩ := H
   try dsimp only at H
   have A6 := dk A60
   clear A60
   obtain rfl := Option.some.inj H
   go_enter Try.func160, Try.ntmps160
   go_wp2_with (first | ((with_reducible refine gate_dst (N := 1) rfl ?_); refine bx (N := 1) (cs := #[.string a0_0, .int .i64 a0_1, .int .i64 a0_2]) (t := 139) ?_; intro gb303 hg w7 hbox hb; have BK303 := dk (hbox); have GW303 := gs hg HB; have GE303 := gs hg HB; replace HB := hs_ HB hb; clear hb hbox hg; have ⟨z8_0, z8_1, z8_2, v8_0, v8_1, v8_2⟩ := rz3 BK303) | ((with_reducible refine gate_callee (f := 184) rfl ?_); refine gl (some 5) Try.func184 #[.string a0_0] ?_; (with_reducible refine (impl_IsName.calls k a0_0 true _ A2.out).mono ?_); rintro e w' ⟨rfl, ⟨nd, rfl⟩⟩; refine ⟨_, rfl, ?_⟩) | (go_at_call 128; (with_reducible refine (impl_within.calls a0_1 0 5 true _ A4.out).mono ?_); rintro e w' ⟨rfl, ⟨nd, rfl⟩⟩) | (go_at_call 128; (with_reducible refine (impl_within.calls a0_2 1 8 t306 _ A6.out).mono ?_); rintro e w' ⟨rfl, ⟨nd, rfl⟩⟩))
   go_ret
   exact ⟨ee, bb HB⟩
  ·replace c5 := Bool.eq_false_iff.mpr c5
   subst c5
   rw [if_neg (show ¬ (false = true) by decide)] at H
   obtain rfl := Option.some.inj H
   go_enter Try.func160, Try.ntmps160
   go_wp2_with (first | ((with_reducible refine gate_dst (N := 1) rfl ?_); refine bx (N := 1) (cs := #[.string a0_0, .int .i64 a0_1, .int .i64 a0_2]) (t := 139) ?_; intro gb303 hg w9 hbox hb; have BK303 := dk (hbox); have GW303 := gs hg HB; have GE303 := gs hg HB; replace HB := hs_ HB hb; clear hb hbox hg; have ⟨z10_0, z10_1, z10_2, v10_0, v10_1, v10_2⟩ := rz3 BK303) | ((with_reducible refine gate_callee (f := 184) rfl ?_); refine gl (some 5) Try.func184 #[.string a0_0] ?_; (with_reducible refine (impl_IsName.calls k a0_0 true _ A2.out).mono ?_); rintro e w' ⟨rfl, ⟨nd, rfl⟩⟩; refine ⟨_, rfl, ?_⟩) | (go_at_call 128; (with_reducible refine (impl_within.calls a0_1 0 5 false _ A4.out).mono ?_); rintro e w' ⟨rfl, ⟨nd, rfl⟩⟩))
   go_ret
   exact ⟨ee, bb HB⟩
 ·replace c3 := Bool.eq_false_iff.mpr c3
  subst c3
  rw [if_neg (show ¬ (false = true) by decide)] at H
  obtain rfl := Option.some.inj H
  go_enter Try.func160, Try.ntmps160
  go_wp2_with (first | ((with_reducible refine gate_dst (N := 1) rfl ?_); refine bx (N := 1) (cs := #[.string a0_0, .int .i64 a0_1, .int .i64 a0_2]) (t := 139) ?_; intro gb303 hg w11 hbox hb; have BK303 := dk (hbox); have GW303 := gs hg HB; have GE303 := gs hg HB; replace HB := hs_ HB hb; clear hb hbox hg; have ⟨z12_0, z12_1, z12_2, v12_0, v12_1, v12_2⟩ := rz3 BK303) | ((with_reducible refine gate_callee (f := 184) rfl ?_); refine gl (some 5) Try.func184 #[.string a0_0] ?_; (with_reducible refine (impl_IsName.calls k a0_0 false _ A2.out).mono ?_); rintro e w' ⟨rfl, ⟨nd, rfl⟩⟩; refine ⟨_, rfl, ?_⟩))
  go_ret
  exact ⟨ee, bb HB⟩
set_option maxHeartbeats 4000000 in
theorem slices_IndexFunc_impl_Team_impl_Team.calls (g : Nat) (lb : Array Value) (eg : ∀ args w, (callFunc g args).run Try.prog w = .ok (.enter g args) w) (p : S139 → Bool) (A0 : Option Addr) (c0 n0 : Nat) (l0 : List (S139)) (w0 w : World) (hB : Below w0.heap.size w0 w) (hr0 : Kd.C k139 w0 A0 n0 l0)
    (hp : ∀ (W : World) (x : S139), Below w.heap.size w W → x ∈ l0 → Calls Try.prog g (#[.agg #[.string x.f0, .int .i64 x.f1, .int .i64 x.f2]] ++ lb) W fun e w' => e = .returned (.bool (p x)) ∧ Below W.heap.size W w') :
    Calls Try.prog 185 #[.slice A0 n0 c0, .func (.func g) #[] lb] w fun e w' => e = .returned (.int .i64 (idxI p l0)) ∧ Below w.heap.size w w' := by
  obtain rfl := Kd.C_len hr0
  have hm : l0.length ≤ 9223372036854775807 := hr0.2.1
  have HR0 := dk hr0
  have HP := dk hp
  have HW := dk hB.size
  have HB0 := dk hB
  clear hr0 hp hB
  go_enter Try.func185, Try.ntmps185
  go_wp2
  go_loopg [5, 8] l0.length (fun gg _ s8 wr => ∃ kk : Nat, kk ≤ l0.length ∧ l0.length - kk ≤ gg ∧ s8 = .int .i64 kk ∧ Aside0 (Below w.heap.size w wr) ∧ Aside0 (∀ j, j < kk → p (rd_T139 l0 j) = false))
  case atStart => exact ⟨0, Nat.zero_le _, by omega, rfl, ⟨Below.refl _ w⟩, ⟨fun j hj => absurd hj (Nat.not_lt_zero _)⟩⟩
  case round =>
    obtain ⟨kk, hkk, hg, rfl, BW, HA⟩ := hrel
    by_cases hlt : kk < l0.length
    · have hltz : (kk : Int) < (l0.length : Int) := by omega
      obtain ⟨ad, ead, h0, h1, h2⟩ := at_T139 HR0.out kk (by omega) hltz
      subst ead
      have hb1 : Below w0.heap.size w0 wr := below_then HB0.out HW.out BW.out
      have hcall := HP.out wr (rd_T139 l0 kk) BW.out (by unfold rd_T139; simp [hlt])
      replace h0 := pw_cell_below hb1 h0
      replace h1 := pw_cell_below hb1 h1
      replace h2 := pw_cell_below hb1 h2
      simp only [Int.toNat_natCast] at h0 h1 h2
      have HB1 := dk hb1
      clear hb1
      generalize hy : rd_T139 l0 kk = y at h0 h1 h2 hcall
      have B := dk hy
      clear hy
      cases hq : p y with
      | true =>
        rw [hq] at hcall
        have Q := dk hq
        have HC := dk hcall
        clear hq hcall
        go_wp2_with fail
        refine HC.out.mono ?_
        rintro e w' ⟨rfl, hb'⟩
        go_wp2_with fail
        go_ret
        refine ⟨?_, below_step BW.out hb'⟩
        rw [idxI_hit p l0 kk hlt z139 (by have := B.out; unfold rd_T139 at this; simp only [Int.toNat_natCast] at this; rw [this]; exact Q.out) (fun j hj => by have := HA.out j hj; unfold rd_T139 at this; simpa using this)]
        rfl
      | false =>
        rw [hq] at hcall
        have Q := dk hq
        have HC := dk hcall
        clear hq hcall
        go_wp2_with fail
        refine HC.out.mono ?_
        rintro e w' ⟨rfl, hb'⟩
        go_wp2_with fail
        go_roundg (l0.length - (kk + 1))
        case measure => omega
        case rel =>
          refine ⟨kk + 1, by omega, by omega, by go_num, ⟨below_step BW.out hb'⟩, ⟨fun j hj => ?_⟩⟩
          by_cases e : j = kk
          · subst e
            rw [B.out]; exact Q.out
          · exact HA.out j (by omega)
    · have hltz : ¬ (kk : Int) < (l0.length : Int) := by omega
      have hd : decide ((kk : Int) < (l0.length : Int)) = false := by simp; omega
      have hd2 : decide (kk < l0.length) = false := by simp; omega
      have hk := dk (show kk = l0.length by omega)
      clear hlt hltz hg
      go_wp2_with fail
      go_ret
      obtain rfl := hk.out
      refine ⟨?_, BW.out⟩
      rw [idxI_miss p l0 z139 (fun j hj => by have := HA.out j hj; unfold rd_T139 at this; simpa using this)]
      rfl
set_option maxHeartbeats 4000000 in
theorem slices_ContainsFunc_impl_Team_impl_Team.calls (g : Nat) (lb : Array Value) (eg : ∀ args w, (callFunc g args).run Try.prog w = .ok (.enter g args) w) (p : S139 → Bool) (A0 : Option Addr) (c0 n0 : Nat) (l0 : List (S139)) (w0 w : World) (hB : Below w0.heap.size w0 w) (hr0 : Kd.C k139 w0 A0 n0 l0)
    (hp : ∀ (W : World) (x : S139), Below w.heap.size w W → x ∈ l0 → Calls Try.prog g (#[.agg #[.string x.f0, .int .i64 x.f1, .int .i64 x.f2]] ++ lb) W fun e w' => e = .returned (.bool (p x)) ∧ Below W.heap.size W w') :
    Calls Try.prog 161 #[.slice A0 n0 c0, .func (.func g) #[] lb] w fun e w' => e = .returned (.bool (l0.any p)) ∧ Below w.heap.size w w' := by
  rw [← idxI_any p l0]
  have HC := dk (slices_IndexFunc_impl_Team_impl_Team.calls g lb eg p A0 c0 n0 l0 w0 w hB hr0 hp)
  clear hr0 hp hB eg
  generalize hy : idxI p l0 = y at HC
  have HY := dk hy
  clear hy
  go_enter Try.func161, Try.ntmps161
  go_wp2_with fail
  refine HC.out.mono ?_
  rintro e w' ⟨rfl, hb'⟩
  go_wp2_with fail
  go_ret
  exact ⟨rfl, hb'⟩
def withinB (a lo hi : Int) : Bool := decide (lo ≤ a) && decide (a ≤ hi)
theorem within_eq (a lo hi : Int) : impl_within.f a lo hi = some (withinB a lo hi) := by
  unfold impl_within.f withinB
  by_cases h : lo ≤ a <;> simp [h]
def nameAt (i c : Int) : Bool := (decide (97 ≤ c) && decide (c ≤ 122)) || (!(decide (i = 0)) && decide (48 ≤ c) && decide (c ≤ 57))
def nameFrom (s : ByteArray) (i : Nat) : Bool := (List.range (s.size - i)).all fun j => nameAt (i + j : Nat) (bt s ((i + j : Nat) : Int))
def isNameB (s : ByteArray) : Bool := nameFrom s 0 && withinB s.size 1 8
theorem nameFrom_end (s : ByteArray) (i : Nat) (h : s.size ≤ i) : nameFrom s i = true := by
  unfold nameFrom; rw [show s.size - i = 0 by omega]; rfl
theorem nameFrom_step (s : ByteArray) (i : Nat) (h : i < s.size) : nameFrom s i = (nameAt i (bt s i) && nameFrom s (i + 1)) := by
  unfold nameFrom
  obtain ⟨d, hd⟩ : ∃ d, s.size - i = d + 1 := ⟨s.size - i - 1, by omega⟩
  rw [hd, show s.size - (i + 1) = d by omega, List.range_succ_eq_map, List.all_cons, List.all_map]
  congr 1
  congr 1
  funext j
  simp only [Function.comp, Nat.succ_eq_add_one]
  rw [show i + (j + 1) = i + 1 + j by omega]
theorem isName_loop (s : ByteArray) (hs : s.size ≤ 4611686018427387904) (d : Nat) : ∀ (k i : Nat), s.size - i = d → i ≤ s.size → d < k → impl_IsName.l0 k s s.size i = some (nameFrom s i && withinB s.size 1 8) := by
  induction d with
  | zero =>
    intro k i hd hi hk
    obtain ⟨k, rfl⟩ : ∃ m, k = m + 1 := ⟨k - 1, by omega⟩
    simp only [impl_IsName.l0]
    rw [if_neg (by omega), within_eq, nameFrom_end s i (by omega)]
    simp
  | succ d ih =>
    intro k i hd hi hk
    obtain ⟨k, rfl⟩ : ∃ m, k = m + 1 := ⟨k - 1, by omega⟩
    have hlt : i < s.size := by omega
    have hw : wrap64 ((i : Int) + 1) = ((i + 1 : Nat) : Int) := by unfold wrap64; omega
    have h := ih k (i + 1) (by omega) (by omega) (by omega)
    simp only [impl_IsName.l0]
    rw [if_pos (show (i : Int) < s.size by omega), if_pos (show 0 ≤ (i : Int) by omega), if_pos (show (i : Int) < s.size by omega), hw, h, nameFrom_step s i hlt]
    unfold nameAt
    generalize bt s i = c
    rw [Bool.and_assoc]
    generalize (nameFrom s (i + 1) && withinB s.size 1 8) = z
    grind
theorem isName_eq (s : ByteArray) (hs : s.size ≤ 4611686018427387904) (k : Nat) (hk : s.size < k) : impl_IsName.f k s = some (isNameB s) := by
  unfold impl_IsName.f
  have := isName_loop s hs s.size k 0 (by omega) (by omega) hk
  simpa [isNameB] using this
def teamOkB (t : S139) : Bool := isNameB t.f0 && withinB t.f1 0 5 && withinB t.f2 1 8
theorem teamOk_eq (t : S139) (hs : t.f0.size ≤ 4611686018427387904) (k : Nat) (hk : t.f0.size < k) : impl_TeamOk.f k t.f0 t.f1 t.f2 = some (teamOkB t) := by
  unfold impl_TeamOk.f teamOkB
  rw [isName_eq _ hs k hk]
  simp only [Option.bind_some, within_eq]
  cases isNameB t.f0 <;> cases withinB t.f1 0 5 <;> simp
def teamClash (t x : S139) : Bool := (x.f0.toList == t.f0.toList) || (x.f2 == t.f2)
def fieldFrom : List (S139) → List (S139) → Bool
  | _, [] => true
  | pre, t :: l => teamOkB t && !pre.any (teamClash t) && fieldFrom (pre ++ [t]) l
def fieldOkB (l : List (S139)) : Bool := fieldFrom [] l && withinB l.length 2 8
def impl_FieldOk.f (l0 : List (S139)) : Option Bool := if l0.all (fun t => decide (t.f0.size ≤ 4611686018427387904)) then some (fieldOkB l0) else none
set_option maxHeartbeats 4000000 in
theorem impl_FieldOk_1.calls (gb : Nat) (t x : S139) (W : World) (hb : W.heap[gb]? = some (.cells #[.string t.f0, .int .i64 t.f1, .int .i64 t.f2] 139 (0, 0))) :
    Calls Try.prog 162 #[.agg #[.string x.f0, .int .i64 x.f1, .int .i64 x.f2], .pointer (some ⟨gb, 0, none⟩)] W fun e w' => e = .returned (.bool (teamClash t x)) ∧ Below W.heap.size W w' := by
  have h0 : W.cell? ⟨gb, 0, none⟩ = some (.string t.f0) := (blk_cell hb 0).trans rfl
  have h2 : W.cell? ⟨gb, 2, none⟩ = some (.int .i64 t.f2) := (blk_cell hb 2).trans rfl
  have hlt : gb < W.heap.size := blk_lt hb
  clear hb
  have hT : ∀ b, teamClash t x = b → ((x.f0.toList == t.f0.toList) || (x.f2 == t.f2)) = b := fun b h => h
  generalize teamClash t x = b at hT
  have HT := dk (hT b rfl)
  clear hT
  cases h3 : x.f0.toList == t.f0.toList with
  | true =>
    have hb : b = true := by rw [← HT.out, h3]; rfl
    subst hb
    clear HT
    go_enter Try.func162, Try.ntmps162
    go_wp2
    go_ret
    exact ⟨rfl, below_alloc (Below.refl _ _) _⟩
  | false =>
    have hb : b = (x.f2 == t.f2) := by rw [← HT.out, h3]; rfl
    subst hb
    clear HT
    go_enter Try.func162, Try.ntmps162
    go_wp2
    go_ret
    exact ⟨rfl, below_alloc (Below.refl _ _) _⟩
set_option maxHeartbeats 4000000 in
theorem impl_FieldOk.calls (A0 : Option Addr) (c0 : Nat) (l0 : List (S139)) (r : Bool) (w : World) (hr0 : Kd.C k139 w A0 l0.length l0) (hc0 : l0.length ≤ c0) (h : impl_FieldOk.f l0 = some r) :
    Calls Try.prog 122 #[.slice A0 l0.length c0] w fun e w' => e = .returned (.bool r) ∧ Below w.heap.size w w' := by
  unfold impl_FieldOk.f at h
  by_cases hz : l0.all (fun t => decide (t.f0.size ≤ 4611686018427387904)) = true
  · rw [if_pos hz] at h
    have HZ := dk hz
    clear hz
    have HR := dk (Option.some.inj h)
    clear h
    have hm : l0.length ≤ 9223372036854775807 := hr0.2.1
    have HR0 := dk hr0
    have HC0 := dk hc0
    clear hr0 hc0
    have eg := my_enters Try.func162 (by kernel_rfl) rfl
    go_enter Try.func122, Try.ntmps122
    go_wp2
    go_loopg [3, 7] l0.length (fun gg _ s7 wr => ∃ kk : Nat, kk ≤ l0.length ∧ l0.length - kk ≤ gg ∧ s7 = .int .i64 kk ∧ Aside0 (Below w.heap.size w wr) ∧ Aside0 (fieldFrom (l0.take kk) (l0.drop kk) = fieldFrom [] l0))
    case atStart => exact ⟨0, Nat.zero_le _, by omega, rfl, ⟨Below.refl _ w⟩, ⟨by simp⟩⟩
    case round =>
      obtain ⟨kk, hkk, hg, rfl, BW, HA⟩ := hrel
      by_cases hlt : kk < l0.length
      · have hltz : (kk : Int) < (l0.length : Int) := by omega
        obtain ⟨ad, ead, h0, h1, h2⟩ := at_T139 HR0.out kk (by omega) hltz
        subst ead
        replace h0 := pw_cell_below BW.out h0
        replace h1 := pw_cell_below BW.out h1
        replace h2 := pw_cell_below BW.out h2
        simp only [Int.toNat_natCast] at h0 h1 h2
        have hd : l0.drop kk = rd_T139 l0 kk :: l0.drop (kk + 1) := by
          unfold rd_T139
          simp only [Int.toNat_natCast]
          rw [List.drop_eq_getElem_cons hlt]
          simp [hlt]
        have ht : l0.take kk ++ [rd_T139 l0 kk] = l0.take (kk + 1) := by
          unfold rd_T139
          simp only [Int.toNat_natCast]
          rw [List.take_succ_eq_append_getElem hlt]
          simp [hlt]
        have hsz : (rd_T139 l0 kk).f0.size ≤ 4611686018427387904 := by
          have := List.all_eq_true.mp HZ.out (rd_T139 l0 kk) (by unfold rd_T139; simp [hlt])
          simpa using this
        have HA1 := dk (show fieldFrom (l0.take kk) (l0.drop kk) = (teamOkB (rd_T139 l0 kk) && !(l0.take kk).any (teamClash (rd_T139 l0 kk)) && fieldFrom (l0.take (kk + 1)) (l0.drop (kk + 1))) by rw [hd, fieldFrom, ht])
        have HT := dk (teamOk_eq (rd_T139 l0 kk) hsz ((rd_T139 l0 kk).f0.size + 1) (by omega))
        clear hd ht hsz
        generalize rd_T139 l0 kk = t at h0 h1 h2 HA1 HT
        have hkc : kk ≤ c0 := by have := HC0.out; omega
        go_wp2_with fail
        refine (impl_TeamOk.calls _ _ _ _ _ _ HT.out).mono ?_
        rintro e w1 ⟨rfl, hb1⟩
        have hbox := hb1.block wr.heap.size (by simp)
        have hbx := my_blk_new wr (Obj.cells #[Value.string t.f0, Value.int IntKind.i64 t.f1, Value.int IntKind.i64 t.f2] 139 (0, 0))
        have HBX := dk (hbox.trans hbx)
        have HB1 := dk (below_step (below_alloc (Below.refl wr.heap.size wr) _) hb1)
        clear hbox hbx hb1
        cases hq : teamOkB t with
        | false =>
          have HQ := dk hq
          have HF : Aside0 (fieldOkB l0 = false) := ⟨by unfold fieldOkB; rw [← HA.out, HA1.out, hq]; simp⟩
          clear hq
          go_wp2_with fail
          go_ret
          exact ⟨by rw [← HR.out, HF.out]; rfl, below_step BW.out HB1.out⟩
        | true =>
          have HQ := dk hq
          clear hq
          have HG := dk eg
          clear eg
          go_wp2_with fail
          refine ((slices_ContainsFunc_impl_Team_impl_Team.calls 162 #[.pointer (some ⟨wr.heap.size, 0, none⟩)] HG.out (teamClash t) (some ad) c0 kk (l0.take kk) w w1 (below_step BW.out HB1.out) (Kd.C_take' HR0.out kk hkk) (fun W x hW _ => impl_FieldOk_1.calls wr.heap.size t x W ((hW.block _ (blk_lt HBX.out)).trans HBX.out))).mono ?_)
          rintro e w2 ⟨rfl, hb2⟩
          have HB2 := dk (below_step HB1.out hb2)
          clear hb2
          cases hc : (l0.take kk).any (teamClash t) with
          | true =>
            have HF : Aside0 (fieldOkB l0 = false) := ⟨by unfold fieldOkB; rw [← HA.out, HA1.out, hc]; simp⟩
            clear hc
            go_wp2_with fail
            go_ret
            exact ⟨by rw [← HR.out, HF.out]; rfl, below_step BW.out HB2.out⟩
          | false =>
            have HA2 : Aside0 (fieldFrom (l0.take (kk + 1)) (l0.drop (kk + 1)) = fieldFrom [] l0) := ⟨by rw [← HA.out, HA1.out, hc, HQ.out]; simp⟩
            have HE := dk HG.out
            clear hc
            go_wp2_with fail
            go_roundg (l0.length - (kk + 1))
            case measure => omega
            case rel => exact ⟨kk + 1, by omega, by omega, by go_num, ⟨below_step BW.out HB2.out⟩, HA2⟩
      · have hd : decide ((kk : Int) < (l0.length : Int)) = false := by simp; omega
        have hd2 : decide (kk < l0.length) = false := by simp; omega
        have hk := dk (show kk = l0.length by omega)
        clear hlt hg
        have HW := dk (within_eq l0.length 2 8)
        go_wp2_with fail
        refine (impl_within.calls _ _ _ _ _ HW.out).mono ?_
        rintro e w' ⟨rfl, ⟨nd, rfl⟩⟩
        go_wp2_with fail
        go_ret
        refine ⟨?_, pw_below_drewN BW.out _⟩
        have h1 := HA.out
        rw [hk.out, List.drop_length, fieldFrom] at h1
        rw [← HR.out, fieldOkB, ← h1]
        rfl
  · rw [if_neg hz] at h
    cases h
def slices_Index_int_int.l0 : Nat → List Int → Int → Int → Int → Option (Int)
 | 0, _, _, _, _ => none
 | k + 1, x0, x1, x7, x8 => if x8 < x7 then (if 0 ≤ x8 then (if x8 < (x0.length : Int) then (if x1 = (rd x0 x8) then (some x8) else (slices_Index_int_int.l0 k x0 x1 x7 (wrap64 (x8 + 1)))) else (none)) else (none)) else (some (-1))
def slices_Index_int_int.f (k : Nat) (l0 : List Int) (a1 : Int) : Option (Int) := slices_Index_int_int.l0 k l0 a1 (l0.length : Int) 0
theorem slices_Index_int_int.calls (k : Nat) (A0 : Option Addr) (c0 : Nat) (l0 : List Int) (a1 : Int) (r : Int) (w : World) (hr0 : Kd.C (Kd.int .i64) w A0 l0.length l0) (hc0 : l0.length ≤ c0) (h : slices_Index_int_int.f k l0 a1 = some r) :
  Calls Try.prog 145 #[.slice A0 l0.length c0, .int .i64 a1] w fun e w' => e = .returned (.int .i64 r) ∧ Drawn0 w w' := by
 have HR0 := dk hr0
 have HC0 := dk hc0
 clear hr0 hc0
 have H : (slices_Index_int_int.l0 k l0 a1 (l0.length : Int) 0) = some r := h
 clear h
 have H' := dk H
 clear H
 go_enter Try.func145, Try.ntmps145
 go_wp2
 go_loopg [8] k (fun kq v8 w' => ∃ (x8_1 : Int), v8 = .int .i64 x8_1 ∧ Aside0 (slices_Index_int_int.l0 kq l0 a1 (l0.length : Int) x8_1 = some r) ∧ Aside0 (kq ≤ k) ∧ Drawn0 w w')
 case atStart => exact ⟨(0), e2_, H', ⟨Nat.le_refl _⟩, by repeat (first | exact Drawn0.refl _ | apply Drawn0.step)⟩
 case round =>
  clear H'
  (try clear c1)
  (try clear p2)
  obtain ⟨x8_1, rfl, HA, HK1, ⟨m1, rfl⟩⟩ := hrel
  cases gk with
  | zero => exact absurd HA.out (by simp [slices_Index_int_int.l0])
  | succ k1 =>
   have H := HA.out
   clear HA
   simp only [slices_Index_int_int.l0] at H
   by_cases c3 : x8_1 < (l0.length : Int)
   ·rw [if_pos c3] at H
    have c3b0 : decide (x8_1 < (l0.length : Int)) = true := decide_eq_true c3
    clear c3
    by_cases c4 : 0 ≤ x8_1
    ·rw [if_pos c4] at H
     have c4b0 : decide (0 ≤ x8_1) = true := decide_eq_true c4
     clear c4
     by_cases c5 : x8_1 < (l0.length : Int)
     ·rw [if_pos c5] at H
      have c5b0 : decide (x8_1 < (l0.length : Int)) = true := decide_eq_true c5
      clear c5
      by_cases c6 : a1 = (rd l0 x8_1)
      ·rw [if_pos c6] at H
       have c6b0 : (a1 == (rd l0 x8_1)) = true := beq_iff_eq.mpr c6
       have c6b1 : (a1 != (rd l0 x8_1)) = false := bne_eq_false_iff_eq.mpr c6
       clear c6
       obtain rfl := Option.some.inj H
       have p307 : 0 ≤ (x8_1 : Int) := oa
       have q307 : x8_1 < (l0.length : Int) := oa
       obtain ⟨ad307, e307, hx307_0⟩ := Kd.at_int HR0.out x8_1 p307 q307
       cases e307
       replace p307 := eq_true p307
       replace q307 := eq_true q307
       go_wp2
       go_ret
       exact ⟨e2_, by repeat (first | exact Drawn0.refl _ | apply Drawn0.step)⟩
      ·rw [if_neg c6] at H
       have c6b0 : (a1 == (rd l0 x8_1)) = false := beq_eq_false_iff_ne.mpr c6
       have c6b1 : (a1 != (rd l0 x8_1)) = true := bne_iff_ne.mpr c6
       have H' := dk H
       clear H
       have p307 : 0 ≤ (x8_1 : Int) := oa
       have q307 : x8_1 < (l0.length : Int) := oa
       obtain ⟨ad307, e307, hx307_0⟩ := Kd.at_int HR0.out x8_1 p307 q307
       cases e307
       replace p307 := eq_true p307
       replace q307 := eq_true q307
       go_wp2
       go_roundg k1
       case measure => have := HK1.out; omega
       case rel => exact ⟨(wrap64 (x8_1 + 1)), e2_, H', ⟨by have := HK1.out; omega⟩, by repeat (first | exact Drawn0.refl _ | apply Drawn0.step)⟩
     ·rw [if_neg c5] at H
      exact absurd H (by simp)
    ·rw [if_neg c4] at H
     exact absurd H (by simp)
   ·rw [if_neg c3] at H
    have c3b0 : decide (x8_1 < (l0.length : Int)) = false := decide_eq_false c3
    clear c3
    obtain rfl := Option.some.inj H
    go_wp2
    go_ret
    exact ⟨e2_, by repeat (first | exact Drawn0.refl _ | apply Drawn0.step)⟩
def slices_Contains_int_int.f (k : Nat) (l0 : List Int) (a1 : Int) : Option (Bool) := (slices_Index_int_int.f k l0 a1).bind fun t308 => (some (decide (t308 ≥ 0)))
theorem slices_Contains_int_int.calls (k : Nat) (A0 : Option Addr) (c0 : Nat) (l0 : List Int) (a1 : Int) (r : Bool) (w : World) (hr0 : Kd.C (Kd.int .i64) w A0 l0.length l0) (hc0 : l0.length ≤ c0) (h : slices_Contains_int_int.f k l0 a1 = some r) :
  Calls Try.prog 95 #[.slice A0 l0.length c0, .int .i64 a1] w fun e w' => e = .returned (.bool r) ∧ Drawn0 w w' := by
 have HR0 := dk hr0
 have HC0 := dk hc0
 clear hr0 hc0
 have H : ((slices_Index_int_int.f k l0 a1).bind fun t308 => (some (decide (t308 ≥ 0)))) = some r := h
 clear h
 replace H := Option.bind_eq_some_iff.mp H
 obtain ⟨t308, A30, H⟩ := H
 try dsimp only at H
 have A3 := dk A30
 clear A30
 obtain rfl := Option.some.inj H
 go_enter Try.func95, Try.ntmps95
 go_wp2_with (first | ((with_reducible refine gate_callee (f := 145) rfl ?_); refine gl (some 7) Try.func145 #[.slice A0 l0.length c0, .int .i64 a1] ?_; (with_reducible refine (slices_Index_int_int.calls k _ _ l0 a1 t308 _ ?side1 ?side2 A3.out).mono ?_); (case side1 => exact cz_ HR0); (case side2 => exact HC0.out); rintro e w' ⟨rfl, ⟨nd, rfl⟩⟩; refine ⟨_, rfl, ?_⟩))
 go_ret
 exact ⟨e2_, by repeat (first | exact Drawn0.refl _ | apply Drawn0.step)⟩
def impl_isKey.f (a0 : Int) : Option (Bool) := (impl_within.f a0 1 8).bind fun t309 => (some t309)
theorem impl_isKey.calls (a0 : Int) (r : Bool) (w : World) (h : impl_isKey.f a0 = some r) :
  Calls Try.prog 163 #[.int .i64 a0] w fun e w' => e = .returned (.bool r) ∧ Drawn0 w w' := by
 have H : ((impl_within.f a0 1 8).bind fun t309 => (some t309)) = some r := h
 clear h
 replace H := Option.bind_eq_some_iff.mp H
 obtain ⟨t309, A20, H⟩ := H
 try dsimp only at H
 have A2 := dk A20
 clear A20
 obtain rfl := Option.some.inj H
 go_enter Try.func163, Try.ntmps163
 go_wp2_with (first | ((with_reducible refine gate_callee (f := 128) rfl ?_); refine gl (some 4) Try.func128 #[.int .i64 a0, .int .i64 1, .int .i64 8] ?_; (with_reducible refine (impl_within.calls a0 1 8 t309 _ A2.out).mono ?_); rintro e w' ⟨rfl, ⟨nd, rfl⟩⟩; refine ⟨_, rfl, ?_⟩))
 go_ret
 exact ⟨e2_, by repeat (first | exact Drawn0.refl _ | apply Drawn0.step)⟩
def impl_RulesOk.l0 : Nat → List Int → Int → Int → Int → Int → Int → List Int → Bool → Option (Bool)
 | 0, _, _, _, _, _, _, _, _ => none
 | k + 1, x6, x7, x8, x311000, x311001, x311002, x311003, x311004 => if x8 < x7 then (if 0 ≤ x8 then (if x8 < (x6.length : Int) then ((impl_isKey.f (rd x6 x8)).bind fun t313 => (if t313 = true then (if x8 ≤ (x311003.length : Int) then ((slices_Contains_int_int.f k (x311003.take (x8 : Int).toNat) (rd x6 x8)).bind fun t315 => (if t315 = true then (some false) else (impl_RulesOk.l0 k x6 x7 (wrap64 (x8 + 1)) x311000 x311001 x311002 x311003 x311004))) else (none)) else (some false))) else (none)) else (none)) else (if 0 ≤ x311002 then (if x311002 ≤ x311001 then (if x311001 ≤ x311000 then (if x311000 ≤ 10 then ((impl_within.f (x311003.length : Int) 1 8).bind fun t311 => (some t311)) else (some false)) else (some false)) else (some false)) else (some false))
def impl_RulesOk.f (k : Nat) (a0_0 : Int) (a0_1 : Int) (a0_2 : Int) (l0_3 : List Int) (a0_4 : Bool) : Option (Bool) := impl_RulesOk.l0 k l0_3 (l0_3.length : Int) 0 a0_0 a0_1 a0_2 l0_3 a0_4
theorem impl_RulesOk.calls (k : Nat) (a0_0 : Int) (a0_1 : Int) (a0_2 : Int) (A0_3 : Option Addr) (c0_3 : Nat) (l0_3 : List Int) (a0_4 : Bool) (r : Bool) (w : World) (hr0_3 : Kd.C (Kd.int .i64) w A0_3 l0_3.length l0_3) (hc0_3 : l0_3.length ≤ c0_3) (h : impl_RulesOk.f k a0_0 a0_1 a0_2 l0_3 a0_4 = some r) :
  Calls Try.prog 123 #[.agg #[.int .i64 a0_0, .int .i64 a0_1, .int .i64 a0_2, .slice A0_3 l0_3.length c0_3, .bool a0_4]] w fun e w' => e = .returned (.bool r) ∧ Below w.heap.size w w' := by
 have hu33 := Try.underlying33
 have HR0_3 := dk hr0_3
 have HC0_3 := dk hc0_3
 clear hr0_3 hc0_3
 have HB := dk (Below.refl w.heap.size w)
 have H : (impl_RulesOk.l0 k l0_3 (l0_3.length : Int) 0 a0_0 a0_1 a0_2 l0_3 a0_4) = some r := h
 clear h
 have H' := dk H
 clear H
 go_enter Try.func123, Try.ntmps123
 go_wp2_with (first | ((with_reducible refine gate_dst (N := 1) rfl ?_); (try (refine gate_guard (by rfl) ?_; dsimp only)); refine bx (N := 1) (cs := #[.int .i64 a0_0, .int .i64 a0_1, .int .i64 a0_2, .slice A0_3 l0_3.length c0_3, .bool a0_4]) (t := 33) ?_; intro gb310 hg w2 hbox hb; have BK310 := dk (hbox); have GW310 := gs hg HB; have GE310 := gs hg HB; replace HB := hs_ HB hb; clear hb hbox hg; have ⟨z3_0, z3_1, z3_2, z3_3, z3_4, v3_0, v3_1, v3_2, v3_3, v3_4⟩ := rz5 BK310))
 go_loopg [8] k (fun kq v8 w' => ∃ (x8_1 : Int), v8 = .int .i64 x8_1 ∧ Aside0 (impl_RulesOk.l0 kq l0_3 (l0_3.length : Int) x8_1 a0_0 a0_1 a0_2 l0_3 a0_4 = some r) ∧ Aside0 (kq ≤ k) ∧ Aside0 (w'.heap[gb310]? = some (.cells #[.int .i64 a0_0, .int .i64 a0_1, .int .i64 a0_2, (.slice A0_3 l0_3.length c0_3), .bool a0_4] 33 (0, 0))) ∧ Aside0 (Below w.heap.size w w'))
 case atStart => exact ⟨(0), e2_, H', ⟨Nat.le_refl _⟩, ⟨bk BK310⟩, ⟨bb HB⟩⟩
 case round =>
  clear H'
  (try clear c1)
  (try clear p2)
  (try clear z3_0 z3_1 z3_2 z3_3 z3_4)
  (try clear v3_0 v3_1 v3_2 v3_3 v3_4)
  obtain ⟨x8_1, rfl, HA, HK1, BK310, HB⟩ := hrel
  cases gk with
  | zero => exact absurd HA.out (by simp [impl_RulesOk.l0])
  | succ k1 =>
   have H := HA.out
   clear HA
   simp only [impl_RulesOk.l0] at H
   by_cases c4 : x8_1 < (l0_3.length : Int)
   ·rw [if_pos c4] at H
    have c4b0 : decide (x8_1 < (l0_3.length : Int)) = true := decide_eq_true c4
    clear c4
    by_cases c5 : 0 ≤ x8_1
    ·rw [if_pos c5] at H
     have c5b0 : decide (0 ≤ x8_1) = true := decide_eq_true c5
     clear c5
     by_cases c6 : x8_1 < (l0_3.length : Int)
     ·rw [if_pos c6] at H
      have c6b0 : decide (x8_1 < (l0_3.length : Int)) = true := decide_eq_true c6
      clear c6
      replace H := Option.bind_eq_some_iff.mp H
      obtain ⟨t313, A70, H⟩ := H
      try dsimp only at H
      have A7 := dk A70
      clear A70
      by_cases c8 : t313 = true
      ·subst c8
       rw [if_pos rfl] at H
       have c9b0 := eq_true (oa : 0 ≤ x8_1)
       by_cases c10 : x8_1 ≤ (l0_3.length : Int)
       ·rw [if_pos c10] at H
        have c10b0 := eq_true c10
        have c10b1 : decide (x8_1 ≤ (l0_3.length : Int)) = true := decide_eq_true c10
        clear c10
        replace H := Option.bind_eq_some_iff.mp H
        obtain ⟨t315, A110, H⟩ := H
        try dsimp only at H
        have A11 := dk A110
        clear A110
        by_cases c12 : t315 = true
        ·subst c12
         rw [if_pos rfl] at H
         obtain rfl := Option.some.inj H
         have p312 : 0 ≤ (x8_1 : Int) := oa
         have q312 : x8_1 < (l0_3.length : Int) := oa
         obtain ⟨ad312, e312, hx312_0⟩ := Kd.at_int HR0_3.out x8_1 p312 q312
         cases e312
         replace hx312_0 := hc HB hx312_0
         replace p312 := eq_true p312
         replace q312 := eq_true q312
         go_wp2_with (first | ((with_reducible refine gate_callee (f := 163) rfl ?_); refine gl (some 14) Try.func163 #[.int .i64 (rd l0_3 x8_1)] ?_; (with_reducible refine (impl_isKey.calls (rd l0_3 x8_1) true _ A7.out).mono ?_); rintro e w' ⟨rfl, ⟨nd, rfl⟩⟩; refine ⟨_, rfl, ?_⟩; have ⟨z13_0, z13_1, z13_2, z13_3, z13_4, v13_0, v13_1, v13_2, v13_3, v13_4⟩ := rz5 BK310; obtain ⟨i014, hi014, _, hsz14, _⟩ := info_parts info3; obtain ⟨hcut14, hA14, hC14⟩ := print_take_of (P := Try.prog) (Value.int .i64) 0 23 3 .i64 Try.underlying23 hi014 hsz14 (some ad312) c0_3 l0_3 x8_1 (oa) (oa) HC0_3.out; have HR314 := dk (Kd.C_of_reads (h1 := fun _ => rfl) (hA14 _ (Kd.reads_of_C HR0_3.out))); have HC314 := dk hC14; clear hA14 hC14 hi014 hsz14) | (go_at_call 95; refine calls_of_args (args' := #[.slice (some ad312) (l0_3.take (x8_1 : Int).toNat).length c0_3, .int .i64 (rd l0_3 x8_1)]) (by first | (rw [show (l0_3.take (x8_1 : Int).toNat).length = x8_1.toNat from (by rw [List.length_take]; have h_ : (x8_1 : Int) ≤ (l0_3.length : Int) := oa; omega)] <;> rfl) | rfl) ?_; (with_reducible refine (slices_Contains_int_int.calls k1 _ _ (l0_3.take (x8_1 : Int).toNat) (rd l0_3 x8_1) true _ ?side1 ?side2 A11.out).mono ?_); (case side1 => repeat (first | exact (Kd.C_below HR314.out (bb HB)) | (with_reducible refine Kd.C_alloc ?_ _) | (with_reducible refine Kd.C_drewN ?_ _) | (with_reducible refine Kd.C_drew ?_))); (case side2 => exact HC314.out); rintro e w' ⟨rfl, ⟨nd, rfl⟩⟩))
         go_ret
         exact ⟨ee, bb HB⟩
        ·replace c12 := Bool.eq_false_iff.mpr c12
         subst c12
         rw [if_neg (show ¬ (false = true) by decide)] at H
         have H' := dk H
         clear H
         have p312 : 0 ≤ (x8_1 : Int) := oa
         have q312 : x8_1 < (l0_3.length : Int) := oa
         obtain ⟨ad312, e312, hx312_0⟩ := Kd.at_int HR0_3.out x8_1 p312 q312
         cases e312
         replace hx312_0 := hc HB hx312_0
         replace p312 := eq_true p312
         replace q312 := eq_true q312
         go_wp2_with (first | ((with_reducible refine gate_callee (f := 163) rfl ?_); refine gl (some 14) Try.func163 #[.int .i64 (rd l0_3 x8_1)] ?_; (with_reducible refine (impl_isKey.calls (rd l0_3 x8_1) true _ A7.out).mono ?_); rintro e w' ⟨rfl, ⟨nd, rfl⟩⟩; refine ⟨_, rfl, ?_⟩; have ⟨z15_0, z15_1, z15_2, z15_3, z15_4, v15_0, v15_1, v15_2, v15_3, v15_4⟩ := rz5 BK310; obtain ⟨i016, hi016, _, hsz16, _⟩ := info_parts info3; obtain ⟨hcut16, hA16, hC16⟩ := print_take_of (P := Try.prog) (Value.int .i64) 0 23 3 .i64 Try.underlying23 hi016 hsz16 (some ad312) c0_3 l0_3 x8_1 (oa) (oa) HC0_3.out; have HR314 := dk (Kd.C_of_reads (h1 := fun _ => rfl) (hA16 _ (Kd.reads_of_C HR0_3.out))); have HC314 := dk hC16; clear hA16 hC16 hi016 hsz16) | (go_at_call 95; refine calls_of_args (args' := #[.slice (some ad312) (l0_3.take (x8_1 : Int).toNat).length c0_3, .int .i64 (rd l0_3 x8_1)]) (by first | (rw [show (l0_3.take (x8_1 : Int).toNat).length = x8_1.toNat from (by rw [List.length_take]; have h_ : (x8_1 : Int) ≤ (l0_3.length : Int) := oa; omega)] <;> rfl) | rfl) ?_; (with_reducible refine (slices_Contains_int_int.calls k1 _ _ (l0_3.take (x8_1 : Int).toNat) (rd l0_3 x8_1) false _ ?side1 ?side2 A11.out).mono ?_); (case side1 => repeat (first | exact (Kd.C_below HR314.out (bb HB)) | (with_reducible refine Kd.C_alloc ?_ _) | (with_reducible refine Kd.C_drewN ?_ _) | (with_reducible refine Kd.C_drew ?_))); (case side2 => exact HC314.out); rintro e w' ⟨rfl, ⟨nd, rfl⟩⟩))
         go_roundg k1
         case measure => have := HK1.out; omega
         case rel => exact ⟨(wrap64 (x8_1 + 1)), e2_, H', ⟨by have := HK1.out; omega⟩, ⟨bk BK310⟩, ⟨bb HB⟩⟩
       ·rw [if_neg c10] at H
        exact absurd H (by simp)
      ·replace c8 := Bool.eq_false_iff.mpr c8
       subst c8
       rw [if_neg (show ¬ (false = true) by decide)] at H
       obtain rfl := Option.some.inj H
       have p312 : 0 ≤ (x8_1 : Int) := oa
       have q312 : x8_1 < (l0_3.length : Int) := oa
       obtain ⟨ad312, e312, hx312_0⟩ := Kd.at_int HR0_3.out x8_1 p312 q312
       cases e312
       replace hx312_0 := hc HB hx312_0
       replace p312 := eq_true p312
       replace q312 := eq_true q312
       go_wp2_with (first | ((with_reducible refine gate_callee (f := 163) rfl ?_); refine gl (some 14) Try.func163 #[.int .i64 (rd l0_3 x8_1)] ?_; (with_reducible refine (impl_isKey.calls (rd l0_3 x8_1) false _ A7.out).mono ?_); rintro e w' ⟨rfl, ⟨nd, rfl⟩⟩; refine ⟨_, rfl, ?_⟩))
       go_ret
       exact ⟨ee, bb HB⟩
     ·rw [if_neg c6] at H
      exact absurd H (by simp)
    ·rw [if_neg c5] at H
     exact absurd H (by simp)
   ·rw [if_neg c4] at H
    have c4b0 : decide (x8_1 < (l0_3.length : Int)) = false := decide_eq_false c4
    clear c4
    by_cases c17 : 0 ≤ a0_2
    ·rw [if_pos c17] at H
     have c17b0 : decide (0 ≤ a0_2) = true := decide_eq_true c17
     clear c17
     by_cases c18 : a0_2 ≤ a0_1
     ·rw [if_pos c18] at H
      have c18b0 : decide (a0_2 ≤ a0_1) = true := decide_eq_true c18
      clear c18
      by_cases c19 : a0_1 ≤ a0_0
      ·rw [if_pos c19] at H
       have c19b0 : decide (a0_1 ≤ a0_0) = true := decide_eq_true c19
       clear c19
       by_cases c20 : a0_0 ≤ 10
       ·rw [if_pos c20] at H
        have c20b0 : decide (a0_0 ≤ 10) = true := decide_eq_true c20
        clear c20
        replace H := Option.bind_eq_some_iff.mp H
        obtain ⟨t311, A210, H⟩ := H
        try dsimp only at H
        have A21 := dk A210
        clear A210
        obtain rfl := Option.some.inj H
        have ⟨z22_0, z22_1, z22_2, z22_3, z22_4, v22_0, v22_1, v22_2, v22_3, v22_4⟩ := rz5 BK310
        go_wp2_with (first | (go_at_call 128; (with_reducible refine (impl_within.calls (l0_3.length : Int) 1 8 t311 _ A21.out).mono ?_); rintro e w' ⟨rfl, ⟨nd, rfl⟩⟩))
        go_ret
        exact ⟨ee, bb HB⟩
       ·rw [if_neg c20] at H
        have c20b0 : decide (a0_0 ≤ 10) = false := decide_eq_false c20
        clear c20
        obtain rfl := Option.some.inj H
        have ⟨z23_0, z23_1, z23_2, z23_3, z23_4, v23_0, v23_1, v23_2, v23_3, v23_4⟩ := rz5 BK310
        go_wp2
        go_ret
        exact ⟨ee, bb HB⟩
      ·rw [if_neg c19] at H
       have c19b0 : decide (a0_1 ≤ a0_0) = false := decide_eq_false c19
       clear c19
       obtain rfl := Option.some.inj H
       have ⟨z24_0, z24_1, z24_2, z24_3, z24_4, v24_0, v24_1, v24_2, v24_3, v24_4⟩ := rz5 BK310
       go_wp2
       go_ret
       exact ⟨ee, bb HB⟩
     ·rw [if_neg c18] at H
      have c18b0 : decide (a0_2 ≤ a0_1) = false := decide_eq_false c18
      clear c18
      obtain rfl := Option.some.inj H
      have ⟨z25_0, z25_1, z25_2, z25_3, z25_4, v25_0, v25_1, v25_2, v25_3, v25_4⟩ := rz5 BK310
      go_wp2
      go_ret
      exact ⟨ee, bb HB⟩
    ·rw [if_neg c17] at H
     have c17b0 : decide (0 ≤ a0_2) = false := decide_eq_false c17
     clear c17
     obtain rfl := Option.some.inj H
     have ⟨z26_0, z26_1, z26_2, z26_3, z26_4, v26_0, v26_1, v26_2, v26_3, v26_4⟩ := rz5 BK310
     go_wp2
     go_ret
     exact ⟨ee, bb HB⟩
def impl_GameOk.j0 : Nat → Int → Int → Int → Int → Int → Int → Int → Option (Bool)
 | 0, _, _, _, _, _, _, _ => none
 | k + 1, x0, x5, x317000, x317001, x317002, x317003, x317004 => (impl_within.f x0 2 8).bind fun t317 => (if t317 = true then (if x317000 = x317001 then (some false) else ((impl_within.f x317000 0 (wrap64 (x0 - 1))).bind fun t318 => (if t318 = true then ((impl_within.f x317001 0 (wrap64 (x0 - 1))).bind fun t319 => (if t319 = true then ((impl_within.f x317004 0 4).bind fun t320 => (if t320 = true then ((impl_within.f x317002 0 x5).bind fun t321 => (if t321 = true then ((impl_within.f x317003 0 x5).bind fun t322 => (some t322)) else (some false))) else (some false))) else (some false))) else (some false)))) else (some false))
def impl_GameOk.f (k : Nat) (a0 : Int) (a1_0 : Int) (a1_1 : Int) (a1_2 : Int) (a1_3 : Int) (a1_4 : Int) : Option (Bool) := if a1_4 = 1 then (impl_GameOk.j0 k a0 99 a1_0 a1_1 a1_2 a1_3 a1_4) else (impl_GameOk.j0 k a0 0 a1_0 a1_1 a1_2 a1_3 a1_4)
theorem impl_GameOk.calls (k : Nat) (a0 : Int) (a1_0 : Int) (a1_1 : Int) (a1_2 : Int) (a1_3 : Int) (a1_4 : Int) (r : Bool) (w : World) (h : impl_GameOk.f k a0 a1_0 a1_1 a1_2 a1_3 a1_4 = some r) :
  Calls Try.prog 164 #[.int .i64 a0, .agg #[.int .i64 a1_0, .int .i64 a1_1, .int .i64 a1_2, .int .i64 a1_3, .int .i64 a1_4]] w fun e w' => e = .returned (.bool r) ∧ Below w.heap.size w w' := by
 have hu95 := Try.underlying95
 have HB := dk (Below.refl w.heap.size w)
 have H : (if a1_4 = 1 then (impl_GameOk.j0 k a0 99 a1_0 a1_1 a1_2 a1_3 a1_4) else (impl_GameOk.j0 k a0 0 a1_0 a1_1 a1_2 a1_3 a1_4)) = some r := h
 clear h
 have HC3 := dk H
 clear H
 go_enter Try.func164, Try.ntmps164
 go_upto_if 8 with (first | ((with_reducible refine gate_dst (N := 3) rfl ?_); refine bx (N := 3) (cs := #[.int .i64 a1_0, .int .i64 a1_1, .int .i64 a1_2, .int .i64 a1_3, .int .i64 a1_4]) (t := 95) ?_; intro gb316 hg w4 hbox hb; have BK316 := dk (hbox); have GW316 := gs hg HB; have GE316 := gs hg HB; replace HB := hs_ HB hb; clear hb hbox hg; have ⟨z5_0, z5_1, z5_2, z5_3, z5_4, v5_0, v5_1, v5_2, v5_3, v5_4⟩ := rz5 BK316))
 (try simp only [Act.put, List.setIfInBounds_toArray, List.set_cons_zero, List.set_cons_succ])
 go_cut [5] (fun v5 wc => ∃ (kq : Nat) (x5_2 : Int), v5 = .int .i64 x5_2 ∧ Aside0 (impl_GameOk.j0 kq a0 x5_2 a1_0 a1_1 a1_2 a1_3 a1_4 = some r) ∧ Aside0 (kq ≤ k) ∧ Aside0 (wc.heap[gb316]? = some (.cells #[.int .i64 a1_0, .int .i64 a1_1, .int .i64 a1_2, .int .i64 a1_3, .int .i64 a1_4] 95 (0, 0))) ∧ Aside0 (Below w.heap.size w wc))
 case first =>
  have H := HC3.out
  clear HC3
  by_cases c6 : a1_4 = 1
  ·rw [if_pos c6] at H
   have c6b0 : (a1_4 == 1) = true := beq_iff_eq.mpr c6
   have c6b1 : (a1_4 != 1) = false := bne_eq_false_iff_eq.mpr c6
   clear c6
   (first | rw [c6b0] | rw [c6b1] | (simp only [i64_w, i32_w]; rw [c6b0]) | skip)
   have H' := dk H
   clear H
   go_wp2
   go_meet
   case rel => exact ⟨_, (99), e2_, H', ⟨by first | omega | exact Nat.le_refl _⟩, ⟨bk BK316⟩, ⟨bb HB⟩⟩
  ·rw [if_neg c6] at H
   have c6b0 : (a1_4 == 1) = false := beq_eq_false_iff_ne.mpr c6
   have c6b1 : (a1_4 != 1) = true := bne_iff_ne.mpr c6
   (first | rw [c6b0] | rw [c6b1] | (simp only [i64_w, i32_w]; rw [c6b0]) | skip)
   have H' := dk H
   clear H
   go_wp2
   go_meet
   case rel => exact ⟨_, (0), e2_, H', ⟨by first | omega | exact Nat.le_refl _⟩, ⟨bk BK316⟩, ⟨bb HB⟩⟩
 case rest =>
  clear HC3
  (try clear c1)
  (try clear p2)
  (try clear c6)
  (try clear c6b0)
  (try clear c6b1)
  (try clear z5_0 z5_1 z5_2 z5_3 z5_4)
  (try clear v5_0 v5_1 v5_2 v5_3 v5_4)
  obtain ⟨kq, x5_2, rfl, HA, HJ2, BK316, HB⟩ := hcut
  cases kq with
  | zero => exact absurd HA.out (by simp [impl_GameOk.j0])
  | succ kj2 =>
   have H := HA.out
   clear HA
   simp only [impl_GameOk.j0] at H
   replace H := Option.bind_eq_some_iff.mp H
   obtain ⟨t317, A70, H⟩ := H
   try dsimp only at H
   have A7 := dk A70
   clear A70
   by_cases c8 : t317 = true
   ·subst c8
    rw [if_pos rfl] at H
    by_cases c9 : a1_0 = a1_1
    ·rw [if_pos c9] at H
     have c9b0 : (a1_0 == a1_1) = true := beq_iff_eq.mpr c9
     have c9b1 : (a1_0 != a1_1) = false := bne_eq_false_iff_eq.mpr c9
     clear c9
     obtain rfl := Option.some.inj H
     go_wp2_with (first | ((with_reducible refine gate_callee (f := 128) rfl ?_); refine gl (some 10) Try.func128 #[.int .i64 a0, .int .i64 2, .int .i64 8] ?_; (with_reducible refine (impl_within.calls a0 2 8 true _ A7.out).mono ?_); rintro e w' ⟨rfl, ⟨nd, rfl⟩⟩; refine ⟨_, rfl, ?_⟩; have ⟨z10_0, z10_1, z10_2, z10_3, z10_4, v10_0, v10_1, v10_2, v10_3, v10_4⟩ := rz5 BK316))
     go_ret
     exact ⟨ee, bb HB⟩
    ·rw [if_neg c9] at H
     have c9b0 : (a1_0 == a1_1) = false := beq_eq_false_iff_ne.mpr c9
     have c9b1 : (a1_0 != a1_1) = true := bne_iff_ne.mpr c9
     replace H := Option.bind_eq_some_iff.mp H
     obtain ⟨t318, A110, H⟩ := H
     try dsimp only at H
     have A11 := dk A110
     clear A110
     by_cases c12 : t318 = true
     ·subst c12
      rw [if_pos rfl] at H
      replace H := Option.bind_eq_some_iff.mp H
      obtain ⟨t319, A130, H⟩ := H
      try dsimp only at H
      have A13 := dk A130
      clear A130
      by_cases c14 : t319 = true
      ·subst c14
       rw [if_pos rfl] at H
       replace H := Option.bind_eq_some_iff.mp H
       obtain ⟨t320, A150, H⟩ := H
       try dsimp only at H
       have A15 := dk A150
       clear A150
       by_cases c16 : t320 = true
       ·subst c16
        rw [if_pos rfl] at H
        replace H := Option.bind_eq_some_iff.mp H
        obtain ⟨t321, A170, H⟩ := H
        try dsimp only at H
        have A17 := dk A170
        clear A170
        by_cases c18 : t321 = true
        ·subst c18
         rw [if_pos rfl] at H
         replace H := Option.bind_eq_some_iff.mp H
         obtain ⟨t322, A190, H⟩ := H
         try dsimp only at H
         have A19 := dk A190
         clear A190
         obtain rfl := Option.some.inj H
         go_wp2_with (first | ((with_reducible refine gate_callee (f := 128) rfl ?_); refine gl (some 10) Try.func128 #[.int .i64 a0, .int .i64 2, .int .i64 8] ?_; (with_reducible refine (impl_within.calls a0 2 8 true _ A7.out).mono ?_); rintro e w' ⟨rfl, ⟨nd, rfl⟩⟩; refine ⟨_, rfl, ?_⟩; have ⟨z20_0, z20_1, z20_2, z20_3, z20_4, v20_0, v20_1, v20_2, v20_3, v20_4⟩ := rz5 BK316) | (go_at_call 128; (with_reducible refine (impl_within.calls a1_0 0 (wrap64 (a0 - 1)) true _ A11.out).mono ?_); rintro e w' ⟨rfl, ⟨nd, rfl⟩⟩) | (go_at_call 128; (with_reducible refine (impl_within.calls a1_1 0 (wrap64 (a0 - 1)) true _ A13.out).mono ?_); rintro e w' ⟨rfl, ⟨nd, rfl⟩⟩) | (go_at_call 128; (with_reducible refine (impl_within.calls a1_4 0 4 true _ A15.out).mono ?_); rintro e w' ⟨rfl, ⟨nd, rfl⟩⟩) | (go_at_call 128; (with_reducible refine (impl_within.calls a1_2 0 x5_2 true _ A17.out).mono ?_); rintro e w' ⟨rfl, ⟨nd, rfl⟩⟩) | (go_at_call 128; (with_reducible refine (impl_within.calls a1_3 0 x5_2 t322 _ A19.out).mono ?_); rintro e w' ⟨rfl, ⟨nd, rfl⟩⟩))
         go_ret
         exact ⟨ee, bb HB⟩
        ·replace c18 := Bool.eq_false_iff.mpr c18
         subst c18
         rw [if_neg (show ¬ (false = true) by decide)] at H
         obtain rfl := Option.some.inj H
         go_wp2_with (first | ((with_reducible refine gate_callee (f := 128) rfl ?_); refine gl (some 10) Try.func128 #[.int .i64 a0, .int .i64 2, .int .i64 8] ?_; (with_reducible refine (impl_within.calls a0 2 8 true _ A7.out).mono ?_); rintro e w' ⟨rfl, ⟨nd, rfl⟩⟩; refine ⟨_, rfl, ?_⟩; have ⟨z21_0, z21_1, z21_2, z21_3, z21_4, v21_0, v21_1, v21_2, v21_3, v21_4⟩ := rz5 BK316) | (go_at_call 128; (with_reducible refine (impl_within.calls a1_0 0 (wrap64 (a0 - 1)) true _ A11.out).mono ?_); rintro e w' ⟨rfl, ⟨nd, rfl⟩⟩) | (go_at_call 128; (with_reducible refine (impl_within.calls a1_1 0 (wrap64 (a0 - 1)) true _ A13.out).mono ?_); rintro e w' ⟨rfl, ⟨nd, rfl⟩⟩) | (go_at_call 128; (with_reducible refine (impl_within.calls a1_4 0 4 true _ A15.out).mono ?_); rintro e w' ⟨rfl, ⟨nd, rfl⟩⟩) | (go_at_call 128; (with_reducible refine (impl_within.calls a1_2 0 x5_2 false _ A17.out).mono ?_); rintro e w' ⟨rfl, ⟨nd, rfl⟩⟩))
         go_ret
         exact ⟨ee, bb HB⟩
       ·replace c16 := Bool.eq_false_iff.mpr c16
        subst c16
        rw [if_neg (show ¬ (false = true) by decide)] at H
        obtain rfl := Option.some.inj H
        go_wp2_with (first | ((with_reducible refine gate_callee (f := 128) rfl ?_); refine gl (some 10) Try.func128 #[.int .i64 a0, .int .i64 2, .int .i64 8] ?_; (with_reducible refine (impl_within.calls a0 2 8 true _ A7.out).mono ?_); rintro e w' ⟨rfl, ⟨nd, rfl⟩⟩; refine ⟨_, rfl, ?_⟩; have ⟨z22_0, z22_1, z22_2, z22_3, z22_4, v22_0, v22_1, v22_2, v22_3, v22_4⟩ := rz5 BK316) | (go_at_call 128; (with_reducible refine (impl_within.calls a1_0 0 (wrap64 (a0 - 1)) true _ A11.out).mono ?_); rintro e w' ⟨rfl, ⟨nd, rfl⟩⟩) | (go_at_call 128; (with_reducible refine (impl_within.calls a1_1 0 (wrap64 (a0 - 1)) true _ A13.out).mono ?_); rintro e w' ⟨rfl, ⟨nd, rfl⟩⟩) | (go_at_call 128; (with_reducible refine (impl_within.calls a1_4 0 4 false _ A15.out).mono ?_); rintro e w' ⟨rfl, ⟨nd, rfl⟩⟩))
        go_ret
        exact ⟨ee, bb HB⟩
      ·replace c14 := Bool.eq_false_iff.mpr c14
       subst c14
       rw [if_neg (show ¬ (false = true) by decide)] at H
       obtain rfl := Option.some.inj H
       go_wp2_with (first | ((with_reducible refine gate_callee (f := 128) rfl ?_); refine gl (some 10) Try.func128 #[.int .i64 a0, .int .i64 2, .int .i64 8] ?_; (with_reducible refine (impl_within.calls a0 2 8 true _ A7.out).mono ?_); rintro e w' ⟨rfl, ⟨nd, rfl⟩⟩; refine ⟨_, rfl, ?_⟩; have ⟨z23_0, z23_1, z23_2, z23_3, z23_4, v23_0, v23_1, v23_2, v23_3, v23_4⟩ := rz5 BK316) | (go_at_call 128; (with_reducible refine (impl_within.calls a1_0 0 (wrap64 (a0 - 1)) true _ A11.out).mono ?_); rintro e w' ⟨rfl, ⟨nd, rfl⟩⟩) | (go_at_call 128; (with_reducible refine (impl_within.calls a1_1 0 (wrap64 (a0 - 1)) false _ A13.out).mono ?_); rintro e w' ⟨rfl, ⟨nd, rfl⟩⟩))
       go_ret
       exact ⟨ee, bb HB⟩
     ·replace c12 := Bool.eq_false_iff.mpr c12
      subst c12
      rw [if_neg (show ¬ (false = true) by decide)] at H
      obtain rfl := Option.some.inj H
      go_wp2_with (first | ((with_reducible refine gate_callee (f := 128) rfl ?_); refine gl (some 10) Try.func128 #[.int .i64 a0, .int .i64 2, .int .i64 8] ?_; (with_reducible refine (impl_within.calls a0 2 8 true _ A7.out).mono ?_); rintro e w' ⟨rfl, ⟨nd, rfl⟩⟩; refine ⟨_, rfl, ?_⟩; have ⟨z24_0, z24_1, z24_2, z24_3, z24_4, v24_0, v24_1, v24_2, v24_3, v24_4⟩ := rz5 BK316) | (go_at_call 128; (with_reducible refine (impl_within.calls a1_0 0 (wrap64 (a0 - 1)) false _ A11.out).mono ?_); rintro e w' ⟨rfl, ⟨nd, rfl⟩⟩))
      go_ret
      exact ⟨ee, bb HB⟩
   ·replace c8 := Bool.eq_false_iff.mpr c8
    subst c8
    rw [if_neg (show ¬ (false = true) by decide)] at H
    obtain rfl := Option.some.inj H
    go_wp2_with (first | ((with_reducible refine gate_callee (f := 128) rfl ?_); refine gl (some 10) Try.func128 #[.int .i64 a0, .int .i64 2, .int .i64 8] ?_; (with_reducible refine (impl_within.calls a0 2 8 false _ A7.out).mono ?_); rintro e w' ⟨rfl, ⟨nd, rfl⟩⟩; refine ⟨_, rfl, ?_⟩))
    go_ret
    exact ⟨ee, bb HB⟩
set_option maxHeartbeats 4000000 in
theorem slices_IndexFunc_impl_Game_impl_Game.calls (g : Nat) (lb : Array Value) (eg : ∀ args w, (callFunc g args).run Try.prog w = .ok (.enter g args) w) (p : S95 → Bool) (A0 : Option Addr) (c0 n0 : Nat) (l0 : List (S95)) (w0 w : World) (hB : Below w0.heap.size w0 w) (hr0 : Kd.C k95 w0 A0 n0 l0)
    (hp : ∀ (W : World) (x : S95), Below w.heap.size w W → x ∈ l0 → Calls Try.prog g (#[.agg #[.int .i64 x.f0, .int .i64 x.f1, .int .i64 x.f2, .int .i64 x.f3, .int .i64 x.f4]] ++ lb) W fun e w' => e = .returned (.bool (p x)) ∧ Below W.heap.size W w') :
    Calls Try.prog 186 #[.slice A0 n0 c0, .func (.func g) #[] lb] w fun e w' => e = .returned (.int .i64 (idxI p l0)) ∧ Below w.heap.size w w' := by
  obtain rfl := Kd.C_len hr0
  have hm : l0.length ≤ 9223372036854775807 := hr0.2.1
  have HR0 := dk hr0
  have HP := dk hp
  have HW := dk hB.size
  have HB0 := dk hB
  clear hr0 hp hB
  go_enter Try.func186, Try.ntmps186
  go_wp2
  go_loopg [5, 8] l0.length (fun gg _ s8 wr => ∃ kk : Nat, kk ≤ l0.length ∧ l0.length - kk ≤ gg ∧ s8 = .int .i64 kk ∧ Aside0 (Below w.heap.size w wr) ∧ Aside0 (∀ j, j < kk → p (rd_T95 l0 j) = false))
  case atStart => exact ⟨0, Nat.zero_le _, by omega, rfl, ⟨Below.refl _ w⟩, ⟨fun j hj => absurd hj (Nat.not_lt_zero _)⟩⟩
  case round =>
    obtain ⟨kk, hkk, hg, rfl, BW, HA⟩ := hrel
    by_cases hlt : kk < l0.length
    · have hltz : (kk : Int) < (l0.length : Int) := by omega
      obtain ⟨ad, ead, h0, h1, h2, h3, h4⟩ := at_T95 HR0.out kk (by omega) hltz
      subst ead
      have hb1 : Below w0.heap.size w0 wr := below_then HB0.out HW.out BW.out
      have hcall := HP.out wr (rd_T95 l0 kk) BW.out (by unfold rd_T95; simp [hlt])
      replace h0 := pw_cell_below hb1 h0
      replace h1 := pw_cell_below hb1 h1
      replace h2 := pw_cell_below hb1 h2
      replace h3 := pw_cell_below hb1 h3
      replace h4 := pw_cell_below hb1 h4
      simp only [Int.toNat_natCast] at h0 h1 h2 h3 h4
      have HB1 := dk hb1
      clear hb1
      generalize hy : rd_T95 l0 kk = y at h0 h1 h2 h3 h4 hcall
      have B := dk hy
      clear hy
      cases hq : p y with
      | true =>
        rw [hq] at hcall
        have Q := dk hq
        have HC := dk hcall
        clear hq hcall
        go_wp2_with fail
        refine HC.out.mono ?_
        rintro e w' ⟨rfl, hb'⟩
        go_wp2_with fail
        go_ret
        refine ⟨?_, below_step BW.out hb'⟩
        rw [idxI_hit p l0 kk hlt z95 (by have := B.out; unfold rd_T95 at this; simp only [Int.toNat_natCast] at this; rw [this]; exact Q.out) (fun j hj => by have := HA.out j hj; unfold rd_T95 at this; simpa using this)]
        rfl
      | false =>
        rw [hq] at hcall
        have Q := dk hq
        have HC := dk hcall
        clear hq hcall
        go_wp2_with fail
        refine HC.out.mono ?_
        rintro e w' ⟨rfl, hb'⟩
        go_wp2_with fail
        go_roundg (l0.length - (kk + 1))
        case measure => omega
        case rel =>
          refine ⟨kk + 1, by omega, by omega, by go_num, ⟨below_step BW.out hb'⟩, ⟨fun j hj => ?_⟩⟩
          by_cases e : j = kk
          · subst e
            rw [B.out]; exact Q.out
          · exact HA.out j (by omega)
    · have hltz : ¬ (kk : Int) < (l0.length : Int) := by omega
      have hd : decide ((kk : Int) < (l0.length : Int)) = false := by simp; omega
      have hd2 : decide (kk < l0.length) = false := by simp; omega
      have hk := dk (show kk = l0.length by omega)
      clear hlt hltz hg
      go_wp2_with fail
      go_ret
      obtain rfl := hk.out
      refine ⟨?_, BW.out⟩
      rw [idxI_miss p l0 z95 (fun j hj => by have := HA.out j hj; unfold rd_T95 at this; simpa using this)]
      rfl
def gameIs (h a : Int) (g : S95) : Bool := (g.f0 == h) && (g.f1 == a)
def impl_GameOf.f (l0 : List (S95)) (a1 : Int) (a2 : Int) : Option Int := some (idxI (gameIs a1 a2) l0)
set_option maxHeartbeats 4000000 in
theorem impl_GameOf_1.calls (gh ga : Nat) (h a : Int) (x : S95) (W : World) (hh : W.cell? ⟨gh, 0, none⟩ = some (.int .i64 h)) (ha : W.cell? ⟨ga, 0, none⟩ = some (.int .i64 a)) :
    Calls Try.prog 187 #[.agg #[.int .i64 x.f0, .int .i64 x.f1, .int .i64 x.f2, .int .i64 x.f3, .int .i64 x.f4], .pointer (some ⟨gh, 0, none⟩), .pointer (some ⟨ga, 0, none⟩)] W fun e w' => e = .returned (.bool (gameIs h a x)) ∧ Below W.heap.size W w' := by
  have hl1 : gh < W.heap.size := World.block_lt_of_cell? W _ hh
  have hl2 : ga < W.heap.size := World.block_lt_of_cell? W _ ha
  have hT : ∀ b, gameIs h a x = b → ((x.f0 == h) && (x.f1 == a)) = b := fun b h => h
  generalize gameIs h a x = b at hT
  have HT := dk (hT b rfl)
  clear hT
  cases h3 : x.f0 == h with
  | true =>
    have hb : b = (x.f1 == a) := by rw [← HT.out, h3]; rfl
    subst hb
    clear HT
    go_enter Try.func187, Try.ntmps187
    go_wp2
    go_ret
    exact ⟨rfl, below_alloc (Below.refl _ _) _⟩
  | false =>
    have hb : b = false := by rw [← HT.out, h3]; rfl
    subst hb
    clear HT
    go_enter Try.func187, Try.ntmps187
    go_wp2
    go_ret
    exact ⟨rfl, below_alloc (Below.refl _ _) _⟩
set_option maxHeartbeats 4000000 in
theorem impl_GameOf.calls (A0 : Option Addr) (c0 : Nat) (l0 : List (S95)) (a1 : Int) (a2 : Int) (r : Int) (w : World) (hr0 : Kd.C k95 w A0 l0.length l0) (hc0 : l0.length ≤ c0) (h : impl_GameOf.f l0 a1 a2 = some r) :
    Calls Try.prog 165 #[.slice A0 l0.length c0, .int .i64 a1, .int .i64 a2] w fun e w' => e = .returned (.int .i64 r) ∧ Below w.heap.size w w' := by
  have HR := dk (Option.some.inj h)
  have HR0 := dk hr0
  clear h hr0 hc0
  have eg := my_enters Try.func187 (by kernel_rfl) rfl
  have HG := dk eg
  clear eg
  go_enter Try.func165, Try.ntmps165
  go_wp2_with fail
  refine ((slices_IndexFunc_impl_Game_impl_Game.calls 187 #[.pointer (some ⟨w.heap.size, 0, none⟩), .pointer (some ⟨w.heap.size + 1, 0, none⟩)] HG.out (gameIs a1 a2) A0 c0 l0.length l0 w _ (below_alloc (below_alloc (Below.refl _ _) _) _) HR0.out (fun W x hW _ => impl_GameOf_1.calls w.heap.size (w.heap.size + 1) a1 a2 x W ?_ ?_)).mono ?_)
  · exact pw_cell_below hW (by simp)
  · exact pw_cell_below hW (by simp)
  rintro e w2 ⟨rfl, hb2⟩
  have HB2 := dk (below_step (below_alloc (below_alloc (Below.refl _ _) _) _) hb2)
  clear hb2
  generalize hi : idxI (gameIs a1 a2) l0 = i at HR
  have HI := dk hi
  clear hi
  go_wp2_with fail
  go_ret
  exact ⟨by rw [← HR.out]; rfl, HB2.out⟩
def impl_SeasonOk.l0 : Nat → Int → List (S95) → List (S95) → Int → Int → Option (Bool)
 | 0, _, _, _, _, _ => none
 | k + 1, x0, x1, x7, x8, x9 => if x9 < x8 then (if 0 ≤ x9 then (if x9 < (x7.length : Int) then ((impl_GameOk.f k x0 ((rd_T95 x7 x9).f0) ((rd_T95 x7 x9).f1) ((rd_T95 x7 x9).f2) ((rd_T95 x7 x9).f3) ((rd_T95 x7 x9).f4)).bind fun t325 => (if t325 = true then (if x9 ≤ (x1.length : Int) then ((impl_GameOf.f (x1.take (x9 : Int).toNat) ((rd_T95 x7 x9).f0) ((rd_T95 x7 x9).f1)).bind fun t330 => (if t330 ≥ 0 then (some false) else (impl_SeasonOk.l0 k x0 x1 x7 x8 (wrap64 (x9 + 1))))) else (none)) else (some false))) else (none)) else (none)) else (some (decide ((x1.length : Int) ≤ 60)))
def impl_SeasonOk.f (k : Nat) (a0 : Int) (l1 : List (S95)) : Option (Bool) := impl_SeasonOk.l0 k a0 l1 l1 (l1.length : Int) 0
def impl_SeasonOk.T4 : Bool × List (List Nat × List Nat) := (true, [([], []), ([], []), ([0, 1], [0, 1]), ([2], [2]), ([3, 2], [3]), ([4], [4]), ([4], [4]), ([5, 6, 4], [4, 5, 6]), ([4], [4]), ([8, 4], [4, 8]), ([4], [4]), ([10, 4], [4, 10]), ([7, 9, 11, 4, 4], [4, 7, 9, 11]), ([12, 4], [4, 12]), ([4, 13], [4, 13])])
def impl_SeasonOk.B4 : List Nat := [0, 0, 3, 7, 15, 31, 31, 127, 31, 287, 31, 1055, 4095, 8191, 16383]
theorem impl_SeasonOk.tab4 : rtab .any (opsOf Try.f124 4) = impl_SeasonOk.T4 := by kernel_rfl
theorem impl_SeasonOk.bits4 : waitsOk impl_SeasonOk.T4.2 impl_SeasonOk.B4 = true := by kernel_rfl
theorem impl_SeasonOk.calls (k : Nat) (a0 : Int) (A1 : Option Addr) (c1 : Nat) (l1 : List (S95)) (r : Bool) (w : World) (hr1 : Kd.C k95 w A1 l1.length l1) (hc1 : l1.length ≤ c1) (h : impl_SeasonOk.f k a0 l1 = some r) :
  Calls Try.prog 124 #[.int .i64 a0, .slice A1 l1.length c1] w fun e w' => e = .returned (.bool r) ∧ Below w.heap.size w w' := by
 have hu95 := Try.underlying95
 have HR1 := dk hr1
 have HC1 := dk hc1
 clear hr1 hc1
 have HB := dk (Below.refl w.heap.size w)
 have H : (impl_SeasonOk.l0 k a0 l1 l1 (l1.length : Int) 0) = some r := h
 clear h
 have H' := dk H
 clear H
 go_enter Try.func124, Try.ntmps124
 go_wp2
 go_loopg [9] k (fun kq v9 w' => ∃ (x9_1 : Int), v9 = .int .i64 x9_1 ∧ Aside0 (impl_SeasonOk.l0 kq a0 l1 l1 (l1.length : Int) x9_1 = some r) ∧ Aside0 (kq ≤ k) ∧ Aside0 (Below w.heap.size w w'))
 case atStart => exact ⟨(0), e2_, H', ⟨Nat.le_refl _⟩, ⟨bb HB⟩⟩
 case round =>
  clear H'
  (try clear c1)
  (try clear p2)
  obtain ⟨x9_1, rfl, HA, HK1, HB⟩ := hrel
  cases gk with
  | zero => exact absurd HA.out (by simp [impl_SeasonOk.l0])
  | succ k1 =>
   have H := HA.out
   clear HA
   simp only [impl_SeasonOk.l0] at H
   by_cases c3 : x9_1 < (l1.length : Int)
   ·rw [if_pos c3] at H
    have c3b0 : decide (x9_1 < (l1.length : Int)) = true := decide_eq_true c3
    clear c3
    by_cases c4 : 0 ≤ x9_1
    ·rw [if_pos c4] at H
     have c4b0 : decide (0 ≤ x9_1) = true := decide_eq_true c4
     clear c4
     by_cases c5 : x9_1 < (l1.length : Int)
     ·rw [if_pos c5] at H
      have c5b0 : decide (x9_1 < (l1.length : Int)) = true := decide_eq_true c5
      clear c5
      replace H := Option.bind_eq_some_iff.mp H
      obtain ⟨t325, A60, H⟩ := H
      try dsimp only at H
      have A6 := dk A60
      clear A60
      by_cases c7 : t325 = true
      ·subst c7
       rw [if_pos rfl] at H
       have c8b0 := eq_true (oa : 0 ≤ x9_1)
       by_cases c9 : x9_1 ≤ (l1.length : Int)
       ·rw [if_pos c9] at H
        have c9b0 := eq_true c9
        have c9b1 : decide (x9_1 ≤ (l1.length : Int)) = true := decide_eq_true c9
        clear c9
        obtain ⟨y326, hy326⟩ : ∃ y_ : List (S95), y_ = (l1.take (x9_1 : Int).toNat) := ⟨_, rfl⟩
        replace H : ((impl_GameOf.f y326 ((rd_T95 l1 x9_1).f0) ((rd_T95 l1 x9_1).f1)).bind fun t330 => (if t330 ≥ 0 then (some false) else (impl_SeasonOk.l0 k1 a0 l1 l1 (l1.length : Int) (wrap64 (x9_1 + 1))))) = some r := by first | (rw [hy326]; with_reducible exact H) | (have H2_ := (Option.bind_some _ _).symm.trans H; rw [hy326]; with_reducible exact H2_) | (have H2_ := (Option.bind_some _ _).symm.trans H; with_reducible exact H2_) | with_reducible exact H | (rw [hy326]; exact H) | exact H
        have Ny326 := dk hy326
        clear hy326
        replace H := Option.bind_eq_some_iff.mp H
        obtain ⟨t330, A100, H⟩ := H
        try dsimp only at H
        have A10 := dk A100
        clear A100
        by_cases c11 : t330 ≥ 0
        ·rw [if_pos c11] at H
         have c11b0 : decide (0 ≤ t330) = true := decide_eq_true c11
         clear c11
         obtain rfl := Option.some.inj H
         have p323 : 0 ≤ (x9_1 : Int) := oa
         have q323 : x9_1 < (l1.length : Int) := oa
         obtain ⟨ad323, e323, hx323_0, hx323_1, hx323_2, hx323_3, hx323_4⟩ := at_T95 HR1.out x9_1 p323 q323
         cases e323
         replace hx323_0 := hc HB hx323_0
         replace hx323_1 := hc HB hx323_1
         replace hx323_2 := hc HB hx323_2
         replace hx323_3 := hc HB hx323_3
         replace hx323_4 := hc HB hx323_4
         replace p323 := eq_true p323
         replace q323 := eq_true q323
         try go_wp2_with (first | ((with_reducible refine gate_dst (N := 6) rfl ?_); refine bx (N := 6) (cs := #[.int .i64 0, .int .i64 0, .int .i64 0, .int .i64 0, .int .i64 0]) (t := 95) ?_; intro gb324 hg w12 hbox hb; have BK324 := dk (hbox); have GW324 := gs hg HB; have GE324 := gs hg HB; replace HB := hs_ HB hb; clear hb hbox hg; have ⟨z13_0, z13_1, z13_2, z13_3, z13_4, v13_0, v13_1, v13_2, v13_3, v13_4⟩ := rz5 BK324))
         have n0_ : Aside0 ((((((w12.setCell ⟨gb324, 0, none⟩ (.int .i64 ((rd_T95 l1 x9_1).f0))).setCell ⟨gb324, 1, none⟩ (.int .i64 ((rd_T95 l1 x9_1).f1))).setCell ⟨gb324, 2, none⟩ (.int .i64 ((rd_T95 l1 x9_1).f2))).setCell ⟨gb324, 3, none⟩ (.int .i64 ((rd_T95 l1 x9_1).f3))).setCell ⟨gb324, 4, none⟩ (.int .i64 ((rd_T95 l1 x9_1).f4))).heap[gb324]? = some (.cells #[.int .i64 ((rd_T95 l1 x9_1).f0), .int .i64 ((rd_T95 l1 x9_1).f1), .int .i64 ((rd_T95 l1 x9_1).f2), .int .i64 ((rd_T95 l1 x9_1).f3), .int .i64 ((rd_T95 l1 x9_1).f4)] 95 (0, 0))) := ⟨by (with_reducible repeat (first | refine blk_drewN ?_ _ | refine blk_drew ?_ | refine blk_alloc ?_ _)); refine blk_put (cs := #[.int .i64 ((rd_T95 l1 x9_1).f0), .int .i64 ((rd_T95 l1 x9_1).f1), .int .i64 ((rd_T95 l1 x9_1).f2), .int .i64 ((rd_T95 l1 x9_1).f3), .int .i64 0]) ?_ 4 _ rfl; (with_reducible repeat (first | refine blk_drewN ?_ _ | refine blk_drew ?_ | refine blk_alloc ?_ _)); refine blk_put (cs := #[.int .i64 ((rd_T95 l1 x9_1).f0), .int .i64 ((rd_T95 l1 x9_1).f1), .int .i64 ((rd_T95 l1 x9_1).f2), .int .i64 0, .int .i64 0]) ?_ 3 _ rfl; (with_reducible repeat (first | refine blk_drewN ?_ _ | refine blk_drew ?_ | refine blk_alloc ?_ _)); refine blk_put (cs := #[.int .i64 ((rd_T95 l1 x9_1).f0), .int .i64 ((rd_T95 l1 x9_1).f1), .int .i64 0, .int .i64 0, .int .i64 0]) ?_ 2 _ rfl; (with_reducible repeat (first | refine blk_drewN ?_ _ | refine blk_drew ?_ | refine blk_alloc ?_ _)); refine blk_put (cs := #[.int .i64 ((rd_T95 l1 x9_1).f0), .int .i64 0, .int .i64 0, .int .i64 0, .int .i64 0]) ?_ 1 _ rfl; (with_reducible repeat (first | refine blk_drewN ?_ _ | refine blk_drew ?_ | refine blk_alloc ?_ _)); refine blk_put (cs := #[.int .i64 0, .int .i64 0, .int .i64 0, .int .i64 0, .int .i64 0]) ?_ 0 _ rfl; (with_reducible repeat (first | refine blk_drewN ?_ _ | refine blk_drew ?_ | refine blk_alloc ?_ _)); exact BK324.out⟩
         have n1_ : Aside0 (Below w.heap.size w (((((w12.setCell ⟨gb324, 0, none⟩ (.int .i64 ((rd_T95 l1 x9_1).f0))).setCell ⟨gb324, 1, none⟩ (.int .i64 ((rd_T95 l1 x9_1).f1))).setCell ⟨gb324, 2, none⟩ (.int .i64 ((rd_T95 l1 x9_1).f2))).setCell ⟨gb324, 3, none⟩ (.int .i64 ((rd_T95 l1 x9_1).f3))).setCell ⟨gb324, 4, none⟩ (.int .i64 ((rd_T95 l1 x9_1).f4)))) := ⟨bb HB⟩
         (try clear BK324)
         (try clear HB)
         generalize (((((w12.setCell ⟨gb324, 0, none⟩ (.int .i64 ((rd_T95 l1 x9_1).f0))).setCell ⟨gb324, 1, none⟩ (.int .i64 ((rd_T95 l1 x9_1).f1))).setCell ⟨gb324, 2, none⟩ (.int .i64 ((rd_T95 l1 x9_1).f2))).setCell ⟨gb324, 3, none⟩ (.int .i64 ((rd_T95 l1 x9_1).f3))).setCell ⟨gb324, 4, none⟩ (.int .i64 ((rd_T95 l1 x9_1).f4))) = w14 at n0_ n1_ ⊢
         have BK324 := n0_
         have HB := n1_
         clear n0_ n1_
         replace BK324 := dk (blk_drew BK324.out)
         replace HB := dk (below_drew1 HB.out)
         refine start_ (n := 15) (S := fun w' => w'.cell? ⟨gb324, 0, none⟩ = some (.int .i64 ((rd_T95 l1 x9_1).f0)) ∧ w'.cell? ⟨gb324, 1, none⟩ = some (.int .i64 ((rd_T95 l1 x9_1).f1)) ∧ w'.cell? ⟨gb324, 2, none⟩ = some (.int .i64 ((rd_T95 l1 x9_1).f2)) ∧ w'.cell? ⟨gb324, 3, none⟩ = some (.int .i64 ((rd_T95 l1 x9_1).f3)) ∧ w'.cell? ⟨gb324, 4, none⟩ = some (.int .i64 ((rd_T95 l1 x9_1).f4))) (ds := []) #[false, false, false, false, false, false, false, false, false, false, false, false, false, false, false] (by kernel_rfl) rfl rfl ⟨bc BK324 0, bc BK324 1, bc BK324 2, bc BK324 3, bc BK324 4⟩ (fun hHeld => ?_); refine with_tabW impl_SeasonOk.tab4 impl_SeasonOk.bits4 (fun HT_ HW_ => ?_)
         generalize w14.drew = w15 at BK324 HB hHeld ⊢
         refine pz_ 0 14 ?_
         refine take_ (i := 1) (N := some 15) (v := ?_) (a' := ?_) #[true, true, false, false, false, false, false, false, false, false, false, false, false, false, false] rfl rfl (take_ofW HT_.out HW_.out (by kernel_rfl)) (fun _ _ _ h => h) (Or.inl ⟨by rfl, ?_⟩) hHeld ?_ ?_
         rotate_left
         ·rintro w' ⟨s0, s1, s2, s3, s4⟩
          go_simp
          with_reducible rfl
         rotate_left
         ·simp only [Act.put, List.setIfInBounds_toArray, List.set_cons_zero, List.set_cons_succ, i64_w, i32_w]
          rfl
         refine one_ (i := 2) (N := some 16) #[true, true, true, false, false, false, false, false, false, false, false, false, false, false, false] rfl rfl (one_of HT_.out (by kernel_rfl)) (by decide) (fun K hK => ?_)
         refine goes_ Try.func164 (by kernel_rfl) rfl #[.int .i64 a0, .agg #[.int .i64 ((rd_T95 l1 x9_1).f0), .int .i64 ((rd_T95 l1 x9_1).f1), .int .i64 ((rd_T95 l1 x9_1).f2), .int .i64 ((rd_T95 l1 x9_1).f3), .int .i64 ((rd_T95 l1 x9_1).f4)]] (by rfl) rfl rfl (by (try simp only [List.map_toArray, List.map_cons, List.map_nil]); first | done | rfl | (simp only [List.length_drop, List.length_take]; rfl)) ?_
         with_reducible refine (impl_GameOk.calls k1 a0 ((rd_T95 l1 x9_1).f0) ((rd_T95 l1 x9_1).f1) ((rd_T95 l1 x9_1).f2) ((rd_T95 l1 x9_1).f3) ((rd_T95 l1 x9_1).f4) true _ A6.out).mono ?_
         rintro e w16 ⟨rfl, hb⟩
         refine ⟨_, rfl, ?_⟩
         replace BK324 := kb BK324 hb
         replace HB := hs_ HB hb
         (try clear hb hb2 hk hi)
         have q17 : (x9_1 : Int) ≤ ((l1.length : Int) : Int) := oa
         obtain ⟨i017, hi017, _, hsz17, _⟩ := info_parts info95
         have hroom17 : l1.length ≤ c1 := HC1.out
         have hC17 : Kd.C k95 _ (some ad323) l1.length l1 := HR1.out
         have hcut17 := cut_to (P := Try.prog) 34 95 .i64 Try.underlying34 hi017 (some ad323) l1.length c1 x9_1 (oa) q17 hroom17
         have hr17 := Kd.C_take (m := (x9_1 : Int).toNat) hC17 (by omega)
         have hy17 : y326.length = (x9_1 : Int).toNat := (by rw [Ny326.out, List.length_take]; omega)
         rw [← Ny326.out] at hr17
         rw [← hy17] at hcut17
         have HR329 := dk hr17
         have HC329 := dk (show y326.length ≤ c1 from by omega)
         clear hr17 hC17 hroom17 hi017 hsz17
         have KY17 := dk hy17
         clear hy17
         replace q17 := eq_true q17
         refine hK.out _ _ ⟨bc BK324 0, bc BK324 1, bc BK324 2, bc BK324 3, bc BK324 4⟩ (fun hHeld => ?_)
         clear hK K
         refine norm_ (a' := ?_) ?_ ?_
         rotate_left
         ·show Act.put _ (some 16) _ = _
          simp only [Act.put, List.setIfInBounds_toArray, List.set_cons_zero, List.set_cons_succ, i64_w, i32_w]
          rfl
         refine pz_ 3 17 ?_
         refine pz_ 4 18 ?_
         refine pz_ 5 19 ?_
         refine pz_ 6 20 ?_
         refine pz_ 7 21 ?_
         refine pz_ 8 22 ?_
         refine pz_ 10 24 ?_
         refine take_ (i := 9) (N := some 23) (v := ?_) (a' := ?_) #[true, true, true, true, true, true, true, true, true, true, true, false, false, false, false] rfl rfl (take_ofW HT_.out HW_.out (by kernel_rfl)) (fun _ _ _ h => h) (Or.inl ⟨by rfl, ?_⟩) hHeld ?_ ?_
         rotate_left
         ·rintro w' ⟨s0, s1, s2, s3, s4⟩
          go_simp
          with_reducible rfl
         rotate_left
         ·simp only [Act.put, List.setIfInBounds_toArray, List.set_cons_zero, List.set_cons_succ, i64_w, i32_w]
          rfl
         refine take_ (i := 11) (N := some 25) (v := ?_) (a' := ?_) #[true, true, true, true, true, true, true, true, true, true, true, true, false, false, false] rfl rfl (take_ofW HT_.out HW_.out (by kernel_rfl)) (fun _ _ _ h => h) (Or.inl ⟨by rfl, ?_⟩) hHeld ?_ ?_
         rotate_left
         ·rintro w' ⟨s0, s1, s2, s3, s4⟩
          go_simp
          with_reducible rfl
         rotate_left
         ·simp only [Act.put, List.setIfInBounds_toArray, List.set_cons_zero, List.set_cons_succ, i64_w, i32_w]
          rfl
         refine one_ (i := 12) (N := some 26) #[true, true, true, true, true, true, true, true, true, true, true, true, true, false, false] rfl rfl (one_of HT_.out (by kernel_rfl)) (by decide) (fun K hK => ?_)
         refine goes_ Try.func165 (by kernel_rfl) rfl #[.slice (some ad323) y326.length c1, .int .i64 ((rd_T95 l1 x9_1).f0), .int .i64 ((rd_T95 l1 x9_1).f1)] (by rfl) rfl rfl (by (try simp only [List.map_toArray, List.map_cons, List.map_nil]); first | done | rfl | (simp only [List.length_drop, List.length_take]; rfl)) ?_
         with_reducible refine (impl_GameOf.calls _ _ y326 ((rd_T95 l1 x9_1).f0) ((rd_T95 l1 x9_1).f1) t330 _ ?side1 ?side2 A10.out).mono ?_
         (case side1 => exact cc HR329 HB)
         (case side2 => exact HC329.out)
         rintro e w18 ⟨rfl, hb⟩
         refine ⟨_, rfl, ?_⟩
         replace BK324 := kb BK324 hb
         replace HB := hs_ HB hb
         (try clear hb hb2 hk hi)
         refine hK.out _ _ ⟨bc BK324 0, bc BK324 1, bc BK324 2, bc BK324 3, bc BK324 4⟩ (fun hHeld => ?_)
         clear hK K
         refine norm_ (a' := ?_) ?_ ?_
         rotate_left
         ·show Act.put _ (some 26) _ = _
          simp only [Act.put, List.setIfInBounds_toArray, List.set_cons_zero, List.set_cons_succ, i64_w, i32_w]
          rfl
         refine pz_ 13 27 ?_
         refine pz_ 14 28 ?_
         refine done_ (done_of HT_.out (by kernel_rfl)) ?_
         try go_wp2
         go_ret
         exact ⟨ee, bb HB⟩
        ·rw [if_neg c11] at H
         have c11b0 : decide (0 ≤ t330) = false := decide_eq_false c11
         clear c11
         have H' := dk H
         clear H
         have p323 : 0 ≤ (x9_1 : Int) := oa
         have q323 : x9_1 < (l1.length : Int) := oa
         obtain ⟨ad323, e323, hx323_0, hx323_1, hx323_2, hx323_3, hx323_4⟩ := at_T95 HR1.out x9_1 p323 q323
         cases e323
         replace hx323_0 := hc HB hx323_0
         replace hx323_1 := hc HB hx323_1
         replace hx323_2 := hc HB hx323_2
         replace hx323_3 := hc HB hx323_3
         replace hx323_4 := hc HB hx323_4
         replace p323 := eq_true p323
         replace q323 := eq_true q323
         try go_wp2_with (first | ((with_reducible refine gate_dst (N := 6) rfl ?_); refine bx (N := 6) (cs := #[.int .i64 0, .int .i64 0, .int .i64 0, .int .i64 0, .int .i64 0]) (t := 95) ?_; intro gb324 hg w19 hbox hb; have BK324 := dk (hbox); have GW324 := gs hg HB; have GE324 := gs hg HB; replace HB := hs_ HB hb; clear hb hbox hg; have ⟨z20_0, z20_1, z20_2, z20_3, z20_4, v20_0, v20_1, v20_2, v20_3, v20_4⟩ := rz5 BK324))
         have n0_ : Aside0 ((((((w19.setCell ⟨gb324, 0, none⟩ (.int .i64 ((rd_T95 l1 x9_1).f0))).setCell ⟨gb324, 1, none⟩ (.int .i64 ((rd_T95 l1 x9_1).f1))).setCell ⟨gb324, 2, none⟩ (.int .i64 ((rd_T95 l1 x9_1).f2))).setCell ⟨gb324, 3, none⟩ (.int .i64 ((rd_T95 l1 x9_1).f3))).setCell ⟨gb324, 4, none⟩ (.int .i64 ((rd_T95 l1 x9_1).f4))).heap[gb324]? = some (.cells #[.int .i64 ((rd_T95 l1 x9_1).f0), .int .i64 ((rd_T95 l1 x9_1).f1), .int .i64 ((rd_T95 l1 x9_1).f2), .int .i64 ((rd_T95 l1 x9_1).f3), .int .i64 ((rd_T95 l1 x9_1).f4)] 95 (0, 0))) := ⟨by (with_reducible repeat (first | refine blk_drewN ?_ _ | refine blk_drew ?_ | refine blk_alloc ?_ _)); refine blk_put (cs := #[.int .i64 ((rd_T95 l1 x9_1).f0), .int .i64 ((rd_T95 l1 x9_1).f1), .int .i64 ((rd_T95 l1 x9_1).f2), .int .i64 ((rd_T95 l1 x9_1).f3), .int .i64 0]) ?_ 4 _ rfl; (with_reducible repeat (first | refine blk_drewN ?_ _ | refine blk_drew ?_ | refine blk_alloc ?_ _)); refine blk_put (cs := #[.int .i64 ((rd_T95 l1 x9_1).f0), .int .i64 ((rd_T95 l1 x9_1).f1), .int .i64 ((rd_T95 l1 x9_1).f2), .int .i64 0, .int .i64 0]) ?_ 3 _ rfl; (with_reducible repeat (first | refine blk_drewN ?_ _ | refine blk_drew ?_ | refine blk_alloc ?_ _)); refine blk_put (cs := #[.int .i64 ((rd_T95 l1 x9_1).f0), .int .i64 ((rd_T95 l1 x9_1).f1), .int .i64 0, .int .i64 0, .int .i64 0]) ?_ 2 _ rfl; (with_reducible repeat (first | refine blk_drewN ?_ _ | refine blk_drew ?_ | refine blk_alloc ?_ _)); refine blk_put (cs := #[.int .i64 ((rd_T95 l1 x9_1).f0), .int .i64 0, .int .i64 0, .int .i64 0, .int .i64 0]) ?_ 1 _ rfl; (with_reducible repeat (first | refine blk_drewN ?_ _ | refine blk_drew ?_ | refine blk_alloc ?_ _)); refine blk_put (cs := #[.int .i64 0, .int .i64 0, .int .i64 0, .int .i64 0, .int .i64 0]) ?_ 0 _ rfl; (with_reducible repeat (first | refine blk_drewN ?_ _ | refine blk_drew ?_ | refine blk_alloc ?_ _)); exact BK324.out⟩
         have n1_ : Aside0 (Below w.heap.size w (((((w19.setCell ⟨gb324, 0, none⟩ (.int .i64 ((rd_T95 l1 x9_1).f0))).setCell ⟨gb324, 1, none⟩ (.int .i64 ((rd_T95 l1 x9_1).f1))).setCell ⟨gb324, 2, none⟩ (.int .i64 ((rd_T95 l1 x9_1).f2))).setCell ⟨gb324, 3, none⟩ (.int .i64 ((rd_T95 l1 x9_1).f3))).setCell ⟨gb324, 4, none⟩ (.int .i64 ((rd_T95 l1 x9_1).f4)))) := ⟨bb HB⟩
         (try clear BK324)
         (try clear HB)
         generalize (((((w19.setCell ⟨gb324, 0, none⟩ (.int .i64 ((rd_T95 l1 x9_1).f0))).setCell ⟨gb324, 1, none⟩ (.int .i64 ((rd_T95 l1 x9_1).f1))).setCell ⟨gb324, 2, none⟩ (.int .i64 ((rd_T95 l1 x9_1).f2))).setCell ⟨gb324, 3, none⟩ (.int .i64 ((rd_T95 l1 x9_1).f3))).setCell ⟨gb324, 4, none⟩ (.int .i64 ((rd_T95 l1 x9_1).f4))) = w21 at n0_ n1_ ⊢
         have BK324 := n0_
         have HB := n1_
         clear n0_ n1_
         replace BK324 := dk (blk_drew BK324.out)
         replace HB := dk (below_drew1 HB.out)
         refine start_ (n := 15) (S := fun w' => w'.cell? ⟨gb324, 0, none⟩ = some (.int .i64 ((rd_T95 l1 x9_1).f0)) ∧ w'.cell? ⟨gb324, 1, none⟩ = some (.int .i64 ((rd_T95 l1 x9_1).f1)) ∧ w'.cell? ⟨gb324, 2, none⟩ = some (.int .i64 ((rd_T95 l1 x9_1).f2)) ∧ w'.cell? ⟨gb324, 3, none⟩ = some (.int .i64 ((rd_T95 l1 x9_1).f3)) ∧ w'.cell? ⟨gb324, 4, none⟩ = some (.int .i64 ((rd_T95 l1 x9_1).f4))) (ds := []) #[false, false, false, false, false, false, false, false, false, false, false, false, false, false, false] (by kernel_rfl) rfl rfl ⟨bc BK324 0, bc BK324 1, bc BK324 2, bc BK324 3, bc BK324 4⟩ (fun hHeld => ?_); refine with_tabW impl_SeasonOk.tab4 impl_SeasonOk.bits4 (fun HT_ HW_ => ?_)
         generalize w21.drew = w22 at BK324 HB hHeld ⊢
         refine pz_ 0 14 ?_
         refine take_ (i := 1) (N := some 15) (v := ?_) (a' := ?_) #[true, true, false, false, false, false, false, false, false, false, false, false, false, false, false] rfl rfl (take_ofW HT_.out HW_.out (by kernel_rfl)) (fun _ _ _ h => h) (Or.inl ⟨by rfl, ?_⟩) hHeld ?_ ?_
         rotate_left
         ·rintro w' ⟨s0, s1, s2, s3, s4⟩
          go_simp
          with_reducible rfl
         rotate_left
         ·simp only [Act.put, List.setIfInBounds_toArray, List.set_cons_zero, List.set_cons_succ, i64_w, i32_w]
          rfl
         refine one_ (i := 2) (N := some 16) #[true, true, true, false, false, false, false, false, false, false, false, false, false, false, false] rfl rfl (one_of HT_.out (by kernel_rfl)) (by decide) (fun K hK => ?_)
         refine goes_ Try.func164 (by kernel_rfl) rfl #[.int .i64 a0, .agg #[.int .i64 ((rd_T95 l1 x9_1).f0), .int .i64 ((rd_T95 l1 x9_1).f1), .int .i64 ((rd_T95 l1 x9_1).f2), .int .i64 ((rd_T95 l1 x9_1).f3), .int .i64 ((rd_T95 l1 x9_1).f4)]] (by rfl) rfl rfl (by (try simp only [List.map_toArray, List.map_cons, List.map_nil]); first | done | rfl | (simp only [List.length_drop, List.length_take]; rfl)) ?_
         with_reducible refine (impl_GameOk.calls k1 a0 ((rd_T95 l1 x9_1).f0) ((rd_T95 l1 x9_1).f1) ((rd_T95 l1 x9_1).f2) ((rd_T95 l1 x9_1).f3) ((rd_T95 l1 x9_1).f4) true _ A6.out).mono ?_
         rintro e w23 ⟨rfl, hb⟩
         refine ⟨_, rfl, ?_⟩
         replace BK324 := kb BK324 hb
         replace HB := hs_ HB hb
         (try clear hb hb2 hk hi)
         have q24 : (x9_1 : Int) ≤ ((l1.length : Int) : Int) := oa
         obtain ⟨i024, hi024, _, hsz24, _⟩ := info_parts info95
         have hroom24 : l1.length ≤ c1 := HC1.out
         have hC24 : Kd.C k95 _ (some ad323) l1.length l1 := HR1.out
         have hcut24 := cut_to (P := Try.prog) 34 95 .i64 Try.underlying34 hi024 (some ad323) l1.length c1 x9_1 (oa) q24 hroom24
         have hr24 := Kd.C_take (m := (x9_1 : Int).toNat) hC24 (by omega)
         have hy24 : y326.length = (x9_1 : Int).toNat := (by rw [Ny326.out, List.length_take]; omega)
         rw [← Ny326.out] at hr24
         rw [← hy24] at hcut24
         have HR329 := dk hr24
         have HC329 := dk (show y326.length ≤ c1 from by omega)
         clear hr24 hC24 hroom24 hi024 hsz24
         have KY24 := dk hy24
         clear hy24
         replace q24 := eq_true q24
         refine hK.out _ _ ⟨bc BK324 0, bc BK324 1, bc BK324 2, bc BK324 3, bc BK324 4⟩ (fun hHeld => ?_)
         clear hK K
         refine norm_ (a' := ?_) ?_ ?_
         rotate_left
         ·show Act.put _ (some 16) _ = _
          simp only [Act.put, List.setIfInBounds_toArray, List.set_cons_zero, List.set_cons_succ, i64_w, i32_w]
          rfl
         refine pz_ 3 17 ?_
         refine pz_ 4 18 ?_
         refine pz_ 5 19 ?_
         refine pz_ 6 20 ?_
         refine pz_ 7 21 ?_
         refine pz_ 8 22 ?_
         refine pz_ 10 24 ?_
         refine take_ (i := 9) (N := some 23) (v := ?_) (a' := ?_) #[true, true, true, true, true, true, true, true, true, true, true, false, false, false, false] rfl rfl (take_ofW HT_.out HW_.out (by kernel_rfl)) (fun _ _ _ h => h) (Or.inl ⟨by rfl, ?_⟩) hHeld ?_ ?_
         rotate_left
         ·rintro w' ⟨s0, s1, s2, s3, s4⟩
          go_simp
          with_reducible rfl
         rotate_left
         ·simp only [Act.put, List.setIfInBounds_toArray, List.set_cons_zero, List.set_cons_succ, i64_w, i32_w]
          rfl
         refine take_ (i := 11) (N := some 25) (v := ?_) (a' := ?_) #[true, true, true, true, true, true, true, true, true, true, true, true, false, false, false] rfl rfl (take_ofW HT_.out HW_.out (by kernel_rfl)) (fun _ _ _ h => h) (Or.inl ⟨by rfl, ?_⟩) hHeld ?_ ?_
         rotate_left
         ·rintro w' ⟨s0, s1, s2, s3, s4⟩
          go_simp
          with_reducible rfl
         rotate_left
         ·simp only [Act.put, List.setIfInBounds_toArray, List.set_cons_zero, List.set_cons_succ, i64_w, i32_w]
          rfl
         refine one_ (i := 12) (N := some 26) #[true, true, true, true, true, true, true, true, true, true, true, true, true, false, false] rfl rfl (one_of HT_.out (by kernel_rfl)) (by decide) (fun K hK => ?_)
         refine goes_ Try.func165 (by kernel_rfl) rfl #[.slice (some ad323) y326.length c1, .int .i64 ((rd_T95 l1 x9_1).f0), .int .i64 ((rd_T95 l1 x9_1).f1)] (by rfl) rfl rfl (by (try simp only [List.map_toArray, List.map_cons, List.map_nil]); first | done | rfl | (simp only [List.length_drop, List.length_take]; rfl)) ?_
         with_reducible refine (impl_GameOf.calls _ _ y326 ((rd_T95 l1 x9_1).f0) ((rd_T95 l1 x9_1).f1) t330 _ ?side1 ?side2 A10.out).mono ?_
         (case side1 => exact cc HR329 HB)
         (case side2 => exact HC329.out)
         rintro e w25 ⟨rfl, hb⟩
         refine ⟨_, rfl, ?_⟩
         replace BK324 := kb BK324 hb
         replace HB := hs_ HB hb
         (try clear hb hb2 hk hi)
         refine hK.out _ _ ⟨bc BK324 0, bc BK324 1, bc BK324 2, bc BK324 3, bc BK324 4⟩ (fun hHeld => ?_)
         clear hK K
         refine norm_ (a' := ?_) ?_ ?_
         rotate_left
         ·show Act.put _ (some 26) _ = _
          simp only [Act.put, List.setIfInBounds_toArray, List.set_cons_zero, List.set_cons_succ, i64_w, i32_w]
          rfl
         refine pz_ 13 27 ?_
         refine pz_ 14 28 ?_
         refine done_ (done_of HT_.out (by kernel_rfl)) ?_
         try go_wp2
         go_roundg k1
         case measure => have := HK1.out; omega
         case rel => exact ⟨(wrap64 (x9_1 + 1)), e2_, H', ⟨by have := HK1.out; omega⟩, ⟨bb HB⟩⟩
       ·rw [if_neg c9] at H
        exact absurd H (by simp)
      ·replace c7 := Bool.eq_false_iff.mpr c7
       subst c7
       rw [if_neg (show ¬ (false = true) by decide)] at H
       obtain rfl := Option.some.inj H
       have p323 : 0 ≤ (x9_1 : Int) := oa
       have q323 : x9_1 < (l1.length : Int) := oa
       obtain ⟨ad323, e323, hx323_0, hx323_1, hx323_2, hx323_3, hx323_4⟩ := at_T95 HR1.out x9_1 p323 q323
       cases e323
       replace hx323_0 := hc HB hx323_0
       replace hx323_1 := hc HB hx323_1
       replace hx323_2 := hc HB hx323_2
       replace hx323_3 := hc HB hx323_3
       replace hx323_4 := hc HB hx323_4
       replace p323 := eq_true p323
       replace q323 := eq_true q323
       try go_wp2_with (first | ((with_reducible refine gate_dst (N := 6) rfl ?_); refine bx (N := 6) (cs := #[.int .i64 0, .int .i64 0, .int .i64 0, .int .i64 0, .int .i64 0]) (t := 95) ?_; intro gb324 hg w26 hbox hb; have BK324 := dk (hbox); have GW324 := gs hg HB; have GE324 := gs hg HB; replace HB := hs_ HB hb; clear hb hbox hg; have ⟨z27_0, z27_1, z27_2, z27_3, z27_4, v27_0, v27_1, v27_2, v27_3, v27_4⟩ := rz5 BK324))
       have n0_ : Aside0 ((((((w26.setCell ⟨gb324, 0, none⟩ (.int .i64 ((rd_T95 l1 x9_1).f0))).setCell ⟨gb324, 1, none⟩ (.int .i64 ((rd_T95 l1 x9_1).f1))).setCell ⟨gb324, 2, none⟩ (.int .i64 ((rd_T95 l1 x9_1).f2))).setCell ⟨gb324, 3, none⟩ (.int .i64 ((rd_T95 l1 x9_1).f3))).setCell ⟨gb324, 4, none⟩ (.int .i64 ((rd_T95 l1 x9_1).f4))).heap[gb324]? = some (.cells #[.int .i64 ((rd_T95 l1 x9_1).f0), .int .i64 ((rd_T95 l1 x9_1).f1), .int .i64 ((rd_T95 l1 x9_1).f2), .int .i64 ((rd_T95 l1 x9_1).f3), .int .i64 ((rd_T95 l1 x9_1).f4)] 95 (0, 0))) := ⟨by (with_reducible repeat (first | refine blk_drewN ?_ _ | refine blk_drew ?_ | refine blk_alloc ?_ _)); refine blk_put (cs := #[.int .i64 ((rd_T95 l1 x9_1).f0), .int .i64 ((rd_T95 l1 x9_1).f1), .int .i64 ((rd_T95 l1 x9_1).f2), .int .i64 ((rd_T95 l1 x9_1).f3), .int .i64 0]) ?_ 4 _ rfl; (with_reducible repeat (first | refine blk_drewN ?_ _ | refine blk_drew ?_ | refine blk_alloc ?_ _)); refine blk_put (cs := #[.int .i64 ((rd_T95 l1 x9_1).f0), .int .i64 ((rd_T95 l1 x9_1).f1), .int .i64 ((rd_T95 l1 x9_1).f2), .int .i64 0, .int .i64 0]) ?_ 3 _ rfl; (with_reducible repeat (first | refine blk_drewN ?_ _ | refine blk_drew ?_ | refine blk_alloc ?_ _)); refine blk_put (cs := #[.int .i64 ((rd_T95 l1 x9_1).f0), .int .i64 ((rd_T95 l1 x9_1).f1), .int .i64 0, .int .i64 0, .int .i64 0]) ?_ 2 _ rfl; (with_reducible repeat (first | refine blk_drewN ?_ _ | refine blk_drew ?_ | refine blk_alloc ?_ _)); refine blk_put (cs := #[.int .i64 ((rd_T95 l1 x9_1).f0), .int .i64 0, .int .i64 0, .int .i64 0, .int .i64 0]) ?_ 1 _ rfl; (with_reducible repeat (first | refine blk_drewN ?_ _ | refine blk_drew ?_ | refine blk_alloc ?_ _)); refine blk_put (cs := #[.int .i64 0, .int .i64 0, .int .i64 0, .int .i64 0, .int .i64 0]) ?_ 0 _ rfl; (with_reducible repeat (first | refine blk_drewN ?_ _ | refine blk_drew ?_ | refine blk_alloc ?_ _)); exact BK324.out⟩
       have n1_ : Aside0 (Below w.heap.size w (((((w26.setCell ⟨gb324, 0, none⟩ (.int .i64 ((rd_T95 l1 x9_1).f0))).setCell ⟨gb324, 1, none⟩ (.int .i64 ((rd_T95 l1 x9_1).f1))).setCell ⟨gb324, 2, none⟩ (.int .i64 ((rd_T95 l1 x9_1).f2))).setCell ⟨gb324, 3, none⟩ (.int .i64 ((rd_T95 l1 x9_1).f3))).setCell ⟨gb324, 4, none⟩ (.int .i64 ((rd_T95 l1 x9_1).f4)))) := ⟨bb HB⟩
       (try clear BK324)
       (try clear HB)
       generalize (((((w26.setCell ⟨gb324, 0, none⟩ (.int .i64 ((rd_T95 l1 x9_1).f0))).setCell ⟨gb324, 1, none⟩ (.int .i64 ((rd_T95 l1 x9_1).f1))).setCell ⟨gb324, 2, none⟩ (.int .i64 ((rd_T95 l1 x9_1).f2))).setCell ⟨gb324, 3, none⟩ (.int .i64 ((rd_T95 l1 x9_1).f3))).setCell ⟨gb324, 4, none⟩ (.int .i64 ((rd_T95 l1 x9_1).f4))) = w28 at n0_ n1_ ⊢
       have BK324 := n0_
       have HB := n1_
       clear n0_ n1_
       replace BK324 := dk (blk_drew BK324.out)
       replace HB := dk (below_drew1 HB.out)
       refine start_ (n := 15) (S := fun w' => w'.cell? ⟨gb324, 0, none⟩ = some (.int .i64 ((rd_T95 l1 x9_1).f0)) ∧ w'.cell? ⟨gb324, 1, none⟩ = some (.int .i64 ((rd_T95 l1 x9_1).f1)) ∧ w'.cell? ⟨gb324, 2, none⟩ = some (.int .i64 ((rd_T95 l1 x9_1).f2)) ∧ w'.cell? ⟨gb324, 3, none⟩ = some (.int .i64 ((rd_T95 l1 x9_1).f3)) ∧ w'.cell? ⟨gb324, 4, none⟩ = some (.int .i64 ((rd_T95 l1 x9_1).f4))) (ds := []) #[false, false, false, false, false, false, false, false, false, false, false, false, false, false, false] (by kernel_rfl) rfl rfl ⟨bc BK324 0, bc BK324 1, bc BK324 2, bc BK324 3, bc BK324 4⟩ (fun hHeld => ?_); refine with_tabW impl_SeasonOk.tab4 impl_SeasonOk.bits4 (fun HT_ HW_ => ?_)
       generalize w28.drew = w29 at BK324 HB hHeld ⊢
       refine pz_ 0 14 ?_
       refine take_ (i := 1) (N := some 15) (v := ?_) (a' := ?_) #[true, true, false, false, false, false, false, false, false, false, false, false, false, false, false] rfl rfl (take_ofW HT_.out HW_.out (by kernel_rfl)) (fun _ _ _ h => h) (Or.inl ⟨by rfl, ?_⟩) hHeld ?_ ?_
       rotate_left
       ·rintro w' ⟨s0, s1, s2, s3, s4⟩
        go_simp
        with_reducible rfl
       rotate_left
       ·simp only [Act.put, List.setIfInBounds_toArray, List.set_cons_zero, List.set_cons_succ, i64_w, i32_w]
        rfl
       refine one_ (i := 2) (N := some 16) #[true, true, true, false, false, false, false, false, false, false, false, false, false, false, false] rfl rfl (one_of HT_.out (by kernel_rfl)) (by decide) (fun K hK => ?_)
       refine goes_ Try.func164 (by kernel_rfl) rfl #[.int .i64 a0, .agg #[.int .i64 ((rd_T95 l1 x9_1).f0), .int .i64 ((rd_T95 l1 x9_1).f1), .int .i64 ((rd_T95 l1 x9_1).f2), .int .i64 ((rd_T95 l1 x9_1).f3), .int .i64 ((rd_T95 l1 x9_1).f4)]] (by rfl) rfl rfl (by (try simp only [List.map_toArray, List.map_cons, List.map_nil]); first | done | rfl | (simp only [List.length_drop, List.length_take]; rfl)) ?_
       with_reducible refine (impl_GameOk.calls k1 a0 ((rd_T95 l1 x9_1).f0) ((rd_T95 l1 x9_1).f1) ((rd_T95 l1 x9_1).f2) ((rd_T95 l1 x9_1).f3) ((rd_T95 l1 x9_1).f4) false _ A6.out).mono ?_
       rintro e w30 ⟨rfl, hb⟩
       refine ⟨_, rfl, ?_⟩
       replace BK324 := kb BK324 hb
       replace HB := hs_ HB hb
       (try clear hb hb2 hk hi)
       refine hK.out _ _ ⟨bc BK324 0, bc BK324 1, bc BK324 2, bc BK324 3, bc BK324 4⟩ (fun hHeld => ?_)
       clear hK K
       refine norm_ (a' := ?_) ?_ ?_
       rotate_left
       ·show Act.put _ (some 16) _ = _
        simp only [Act.put, List.setIfInBounds_toArray, List.set_cons_zero, List.set_cons_succ, i64_w, i32_w]
        rfl
       refine pz_ 3 17 ?_
       refine pz_ 4 18 ?_
       refine pu_ 5 19 ?_
       refine pu_ 6 20 ?_
       refine pu_ 7 21 ?_
       refine pu_ 8 22 ?_
       refine pu_ 9 23 ?_
       refine pu_ 10 24 ?_
       refine pu_ 11 25 ?_
       refine pu_ 12 26 ?_
       refine pu_ 13 27 ?_
       refine pz_ 14 28 ?_
       refine done_ (done_of HT_.out (by kernel_rfl)) ?_
       try go_wp2
       go_ret
       exact ⟨ee, bb HB⟩
     ·rw [if_neg c5] at H
      exact absurd H (by simp)
    ·rw [if_neg c4] at H
     exact absurd H (by simp)
   ·rw [if_neg c3] at H
    have c3b0 : decide (x9_1 < (l1.length : Int)) = false := decide_eq_false c3
    clear c3
    obtain rfl := Option.some.inj H
    go_wp2
    go_ret
    exact ⟨ee, bb HB⟩
set_option maxHeartbeats 4000000 in
theorem slices_IndexFunc_int_int.calls (g : Nat) (lb : Array Value) (eg : ∀ args w, (callFunc g args).run Try.prog w = .ok (.enter g args) w) (p : Int → Bool) (A0 : Option Addr) (c0 n0 : Nat) (l0 : List (Int)) (w0 w : World) (hB : Below w0.heap.size w0 w) (hr0 : Kd.C (Kd.int .i64) w0 A0 n0 l0)
    (hp : ∀ (W : World) (x : Int), Below w.heap.size w W → x ∈ l0 → Calls Try.prog g (#[.int .i64 x] ++ lb) W fun e w' => e = .returned (.bool (p x)) ∧ Below W.heap.size W w') :
    Calls Try.prog 167 #[.slice A0 n0 c0, .func (.func g) #[] lb] w fun e w' => e = .returned (.int .i64 (idxI p l0)) ∧ Below w.heap.size w w' := by
  obtain rfl := Kd.C_len hr0
  have hm : l0.length ≤ 9223372036854775807 := hr0.2.1
  have HR0 := dk hr0
  have HP := dk hp
  have HW := dk hB.size
  have HB0 := dk hB
  clear hr0 hp hB
  go_enter Try.func167, Try.ntmps167
  go_wp2
  go_loopg [5, 8] l0.length (fun gg _ s8 wr => ∃ kk : Nat, kk ≤ l0.length ∧ l0.length - kk ≤ gg ∧ s8 = .int .i64 kk ∧ Aside0 (Below w.heap.size w wr) ∧ Aside0 (∀ j, j < kk → p (rd l0 j) = false))
  case atStart => exact ⟨0, Nat.zero_le _, by omega, rfl, ⟨Below.refl _ w⟩, ⟨fun j hj => absurd hj (Nat.not_lt_zero _)⟩⟩
  case round =>
    obtain ⟨kk, hkk, hg, rfl, BW, HA⟩ := hrel
    by_cases hlt : kk < l0.length
    · have hltz : (kk : Int) < (l0.length : Int) := by omega
      obtain ⟨ad, ead, h0⟩ := Kd.at_int HR0.out kk (by omega) hltz
      subst ead
      have hb1 : Below w0.heap.size w0 wr := below_then HB0.out HW.out BW.out
      have hcall := HP.out wr (rd l0 kk) BW.out (by unfold rd; simp [hlt])
      replace h0 := pw_cell_below hb1 h0
      simp only [Int.toNat_natCast] at h0
      have HB1 := dk hb1
      clear hb1
      generalize hy : rd l0 kk = y at h0 hcall
      have B := dk hy
      clear hy
      cases hq : p y with
      | true =>
        rw [hq] at hcall
        have Q := dk hq
        have HC := dk hcall
        clear hq hcall
        go_wp2_with fail
        refine HC.out.mono ?_
        rintro e w' ⟨rfl, hb'⟩
        go_wp2_with fail
        go_ret
        refine ⟨?_, below_step BW.out hb'⟩
        rw [idxI_hit p l0 kk hlt 0 (by have := B.out; unfold rd at this; simp only [Int.toNat_natCast] at this; rw [this]; exact Q.out) (fun j hj => by have := HA.out j hj; unfold rd at this; simpa using this)]
        rfl
      | false =>
        rw [hq] at hcall
        have Q := dk hq
        have HC := dk hcall
        clear hq hcall
        go_wp2_with fail
        refine HC.out.mono ?_
        rintro e w' ⟨rfl, hb'⟩
        go_wp2_with fail
        go_roundg (l0.length - (kk + 1))
        case measure => omega
        case rel =>
          refine ⟨kk + 1, by omega, by omega, by go_num, ⟨below_step BW.out hb'⟩, ⟨fun j hj => ?_⟩⟩
          by_cases e : j = kk
          · subst e
            rw [B.out]; exact Q.out
          · exact HA.out j (by omega)
    · have hltz : ¬ (kk : Int) < (l0.length : Int) := by omega
      have hd : decide ((kk : Int) < (l0.length : Int)) = false := by simp; omega
      have hd2 : decide (kk < l0.length) = false := by simp; omega
      have hk := dk (show kk = l0.length by omega)
      clear hlt hltz hg
      go_wp2_with fail
      go_ret
      obtain rfl := hk.out
      refine ⟨?_, BW.out⟩
      rw [idxI_miss p l0 0 (fun j hj => by have := HA.out j hj; unfold rd at this; simpa using this)]
      rfl
set_option maxHeartbeats 4000000 in
theorem slices_ContainsFunc_int_int.calls (g : Nat) (lb : Array Value) (eg : ∀ args w, (callFunc g args).run Try.prog w = .ok (.enter g args) w) (p : Int → Bool) (A0 : Option Addr) (c0 n0 : Nat) (l0 : List (Int)) (w0 w : World) (hB : Below w0.heap.size w0 w) (hr0 : Kd.C (Kd.int .i64) w0 A0 n0 l0)
    (hp : ∀ (W : World) (x : Int), Below w.heap.size w W → x ∈ l0 → Calls Try.prog g (#[.int .i64 x] ++ lb) W fun e w' => e = .returned (.bool (p x)) ∧ Below W.heap.size W w') :
    Calls Try.prog 141 #[.slice A0 n0 c0, .func (.func g) #[] lb] w fun e w' => e = .returned (.bool (l0.any p)) ∧ Below w.heap.size w w' := by
  rw [← idxI_any p l0]
  have HC := dk (slices_IndexFunc_int_int.calls g lb eg p A0 c0 n0 l0 w0 w hB hr0 hp)
  clear hr0 hp hB eg
  generalize hy : idxI p l0 = y at HC
  have HY := dk hy
  clear hy
  go_enter Try.func141, Try.ntmps141
  go_wp2_with fail
  refine HC.out.mono ?_
  rintro e w' ⟨rfl, hb'⟩
  go_wp2_with fail
  go_ret
  exact ⟨rfl, hb'⟩
def impl_arePenalties.f (l0 : List Int) (a1 : Int) : Option Bool := some (decide ((l0.length : Int) = a1) && !l0.any (fun x => !withinB x 0 1000))
set_option maxHeartbeats 4000000 in
theorem impl_arePenalties_1.calls (x : Int) (W : World) : Calls Try.prog 166 #[.int .i64 x] W fun e w' => e = .returned (.bool (!withinB x 0 1000)) ∧ Below W.heap.size W w' := by
  have HW := dk (within_eq x 0 1000)
  generalize withinB x 0 1000 = b at HW
  go_enter Try.func166, Try.ntmps166
  go_wp2_with fail
  refine (impl_within.calls _ _ _ _ _ HW.out).mono ?_
  rintro e w' ⟨rfl, ⟨nd, rfl⟩⟩
  go_wp2_with fail
  go_ret
  exact ⟨rfl, pw_below_drewN (Below.refl _ _) _⟩
set_option maxHeartbeats 4000000 in
theorem impl_arePenalties.calls (A0 : Option Addr) (c0 : Nat) (l0 : List Int) (a1 : Int) (r : Bool) (w : World) (hr0 : Kd.C (Kd.int .i64) w A0 l0.length l0) (hc0 : l0.length ≤ c0) (h : impl_arePenalties.f l0 a1 = some r) :
    Calls Try.prog 125 #[.slice A0 l0.length c0, .int .i64 a1] w fun e w' => e = .returned (.bool r) ∧ Below w.heap.size w w' := by
  have HR := dk (Option.some.inj h)
  have HR0 := dk hr0
  clear h hr0 hc0
  have eg := my_enters Try.func166 (by kernel_rfl) rfl
  have HG := dk eg
  clear eg
  by_cases hn : (l0.length : Int) = a1
  · have hb : ((l0.length : Int) == a1) = true := by simpa using hn
    have HN := dk hn
    clear hn
    go_enter Try.func125, Try.ntmps125
    go_wp2_with fail
    refine ((slices_ContainsFunc_int_int.calls 166 #[] HG.out (fun x => !withinB x 0 1000) A0 c0 l0.length l0 w _ (Below.refl _ _) HR0.out (fun W x hW _ => impl_arePenalties_1.calls x W)).mono ?_)
    rintro e w2 ⟨rfl, hb2⟩
    have HB2 := dk hb2
    clear hb2
    generalize hi : l0.any (fun x => !withinB x 0 1000) = i at HR
    have HI := dk hi
    clear hi
    go_wp2_with fail
    go_ret
    exact ⟨by rw [← HR.out, decide_eq_true HN.out]; rfl, HB2.out⟩
  · have hb : ((l0.length : Int) == a1) = false := by simpa using hn
    have HN := dk hn
    clear hn
    go_enter Try.func125, Try.ntmps125
    go_wp2_with fail
    go_ret
    exact ⟨by rw [← HR.out, decide_eq_false HN.out]; rfl, Below.refl _ _⟩
def impl_BookOk.f (k : Nat) (l0_0 : List (S139)) (a0_1 : Int) (a0_2 : Int) (a0_3 : Int) (l0_4 : List Int) (a0_5 : Bool) (l0_6 : List (S95)) (l0_7 : List Int) (l0_8 : List Int) : Option (Bool) := (impl_FieldOk.f l0_0).bind fun t332 => (if t332 = true then ((impl_RulesOk.f k a0_1 a0_2 a0_3 l0_4 a0_5).bind fun t333 => (if t333 = true then ((impl_SeasonOk.f k (l0_0.length : Int) l0_6).bind fun t334 => (if t334 = true then ((impl_arePenalties.f l0_7 (l0_0.length : Int)).bind fun t335 => (if t335 = true then ((impl_arePenalties.f l0_8 (l0_0.length : Int)).bind fun t336 => (some t336)) else (some false))) else (some false))) else (some false))) else (some false))
theorem impl_BookOk.calls (k : Nat) (A0_0 : Option Addr) (c0_0 : Nat) (l0_0 : List (S139)) (a0_1 : Int) (a0_2 : Int) (a0_3 : Int) (A0_4 : Option Addr) (c0_4 : Nat) (l0_4 : List Int) (a0_5 : Bool) (A0_6 : Option Addr) (c0_6 : Nat) (l0_6 : List (S95)) (A0_7 : Option Addr) (c0_7 : Nat) (l0_7 : List Int) (A0_8 : Option Addr) (c0_8 : Nat) (l0_8 : List Int) (r : Bool) (w : World) (hr0_0 : Kd.C k139 w A0_0 l0_0.length l0_0) (hc0_0 : l0_0.length ≤ c0_0) (hr0_4 : Kd.C (Kd.int .i64) w A0_4 l0_4.length l0_4) (hc0_4 : l0_4.length ≤ c0_4) (hr0_6 : Kd.C k95 w A0_6 l0_6.length l0_6) (hc0_6 : l0_6.length ≤ c0_6) (hr0_7 : Kd.C (Kd.int .i64) w A0_7 l0_7.length l0_7) (hc0_7 : l0_7.length ≤ c0_7) (hr0_8 : Kd.C (Kd.int .i64) w A0_8 l0_8.length l0_8) (hc0_8 : l0_8.length ≤ c0_8) (h : impl_BookOk.f k l0_0 a0_1 a0_2 a0_3 l0_4 a0_5 l0_6 l0_7 l0_8 = some r) :
  Calls Try.prog 61 #[.agg #[.slice A0_0 l0_0.length c0_0, .int .i64 a0_1, .int .i64 a0_2, .int .i64 a0_3, .slice A0_4 l0_4.length c0_4, .bool a0_5, .slice A0_6 l0_6.length c0_6, .slice A0_7 l0_7.length c0_7, .slice A0_8 l0_8.length c0_8]] w fun e w' => e = .returned (.bool r) ∧ Below w.heap.size w w' := by
 have hu36 := Try.underlying36
 have hu33 := Try.underlying33
 have HR0_0 := dk hr0_0
 have HC0_0 := dk hc0_0
 clear hr0_0 hc0_0
 have HR0_4 := dk hr0_4
 have HC0_4 := dk hc0_4
 clear hr0_4 hc0_4
 have HR0_6 := dk hr0_6
 have HC0_6 := dk hc0_6
 clear hr0_6 hc0_6
 have HR0_7 := dk hr0_7
 have HC0_7 := dk hc0_7
 clear hr0_7 hc0_7
 have HR0_8 := dk hr0_8
 have HC0_8 := dk hc0_8
 clear hr0_8 hc0_8
 have HB := dk (Below.refl w.heap.size w)
 have H : ((impl_FieldOk.f l0_0).bind fun t332 => (if t332 = true then ((impl_RulesOk.f k a0_1 a0_2 a0_3 l0_4 a0_5).bind fun t333 => (if t333 = true then ((impl_SeasonOk.f k (l0_0.length : Int) l0_6).bind fun t334 => (if t334 = true then ((impl_arePenalties.f l0_7 (l0_0.length : Int)).bind fun t335 => (if t335 = true then ((impl_arePenalties.f l0_8 (l0_0.length : Int)).bind fun t336 => (some t336)) else (some false))) else (some false))) else (some false))) else (some false))) = some r := h
 clear h
 replace H := Option.bind_eq_some_iff.mp H
 obtain ⟨t332, A20, H⟩ := H
 try dsimp only at H
 have A2 := dk A20
 clear A20
 by_cases c3 : t332 = true
 ·subst c3
  rw [if_pos rfl] at H
  replace H := Option.bind_eq_some_iff.mp H
  obtain ⟨t333, A40, H⟩ := H
  try dsimp only at H
  have A4 := dk A40
  clear A40
  by_cases c5 : t333 = true
  ·subst c5
   rw [if_pos rfl] at H
   replace H := Option.bind_eq_some_iff.mp H
   obtain ⟨t334, A60, H⟩ := H
   try dsimp only at H
   have A6 := dk A60
   clear A60
   by_cases c7 : t334 = true
   ·subst c7
    rw [if_pos rfl] at H
    replace H := Option.bind_eq_some_iff.mp H
    obtain ⟨t335, A80, H⟩ := H
    try dsimp only at H
    have A8 := dk A80
    clear A80
    by_cases c9 : t335 = true
    ·subst c9
     rw [if_pos rfl] at H
     replace H := Option.bind_eq_some_iff.mp H
     obtain ⟨t336, A100, H⟩ := H
     try dsimp only at H
     have A10 := dk A100
     clear A100
     obtain rfl := Option.some.inj H
     go_enter Try.func61, Try.ntmps61
     go_wp2_with (first | ((with_reducible refine gate_dst (N := 1) rfl ?_); refine bx (N := 1) (cs := #[.slice A0_0 l0_0.length c0_0, .int .i64 a0_1, .int .i64 a0_2, .int .i64 a0_3, .slice A0_4 l0_4.length c0_4, .bool a0_5, .slice A0_6 l0_6.length c0_6, .slice A0_7 l0_7.length c0_7, .slice A0_8 l0_8.length c0_8]) (t := 36) ?_; intro gb331 hg w11 hbox hb; have BK331 := dk (hbox); have GW331 := gs hg HB; have GE331 := gs hg HB; replace HB := hs_ HB hb; clear hb hbox hg; have ⟨z12_0, z12_1, z12_2, z12_3, z12_4, z12_5, z12_6, z12_7, z12_8, v12_0, v12_1, v12_2, v12_3, v12_4, v12_5, v12_6, v12_7, v12_8⟩ := rz9 BK331) | ((with_reducible refine gate_callee (f := 122) rfl ?_); refine gl (some 9) Try.func122 #[.slice A0_0 l0_0.length c0_0] ?_; (with_reducible refine (impl_FieldOk.calls _ _ l0_0 true _ ?side1 ?side2 A2.out).mono ?_); (case side1 => exact cc HR0_0 HB); (case side2 => exact HC0_0.out); rintro e w13 ⟨rfl, hb⟩; refine ⟨_, rfl, ?_⟩; replace BK331 := kb BK331 hb; replace HB := hs_ HB hb; (try clear hb hb2 hk hi); have ⟨z14_0, z14_1, z14_2, z14_3, z14_4, z14_5, z14_6, z14_7, z14_8, v14_0, v14_1, v14_2, v14_3, v14_4, v14_5, v14_6, v14_7, v14_8⟩ := rz9 BK331) | (go_at_call 123; (with_reducible refine (impl_RulesOk.calls k a0_1 a0_2 a0_3 _ _ l0_4 a0_5 true _ ?side1 ?side2 A4.out).mono ?_); (case side1 => exact cc HR0_4 HB); (case side2 => exact HC0_4.out); rintro e w15 ⟨rfl, hb⟩; replace BK331 := kb BK331 hb; replace HB := hs_ HB hb; (try clear hb hb2 hk hi); have ⟨z16_0, z16_1, z16_2, z16_3, z16_4, z16_5, z16_6, z16_7, z16_8, v16_0, v16_1, v16_2, v16_3, v16_4, v16_5, v16_6, v16_7, v16_8⟩ := rz9 BK331) | (go_at_call 124; (with_reducible refine (impl_SeasonOk.calls k (l0_0.length : Int) _ _ l0_6 true _ ?side1 ?side2 A6.out).mono ?_); (case side1 => exact cc HR0_6 HB); (case side2 => exact HC0_6.out); rintro e w17 ⟨rfl, hb⟩; replace BK331 := kb BK331 hb; replace HB := hs_ HB hb; (try clear hb hb2 hk hi); have ⟨z18_0, z18_1, z18_2, z18_3, z18_4, z18_5, z18_6, z18_7, z18_8, v18_0, v18_1, v18_2, v18_3, v18_4, v18_5, v18_6, v18_7, v18_8⟩ := rz9 BK331) | (go_at_call 125; (with_reducible refine (impl_arePenalties.calls _ _ l0_7 (l0_0.length : Int) true _ ?side1 ?side2 A8.out).mono ?_); (case side1 => exact cc HR0_7 HB); (case side2 => exact HC0_7.out); rintro e w19 ⟨rfl, hb⟩; replace BK331 := kb BK331 hb; replace HB := hs_ HB hb; (try clear hb hb2 hk hi); have ⟨z20_0, z20_1, z20_2, z20_3, z20_4, z20_5, z20_6, z20_7, z20_8, v20_0, v20_1, v20_2, v20_3, v20_4, v20_5, v20_6, v20_7, v20_8⟩ := rz9 BK331) | (go_at_call 125; (with_reducible refine (impl_arePenalties.calls _ _ l0_8 (l0_0.length : Int) t336 _ ?side1 ?side2 A10.out).mono ?_); (case side1 => exact cc HR0_8 HB); (case side2 => exact HC0_8.out); rintro e w21 ⟨rfl, hb⟩; replace BK331 := kb BK331 hb; replace HB := hs_ HB hb; (try clear hb hb2 hk hi)))
     go_ret
     exact ⟨ee, bb HB⟩
    ·replace c9 := Bool.eq_false_iff.mpr c9
     subst c9
     rw [if_neg (show ¬ (false = true) by decide)] at H
     obtain rfl := Option.some.inj H
     go_enter Try.func61, Try.ntmps61
     go_wp2_with (first | ((with_reducible refine gate_dst (N := 1) rfl ?_); refine bx (N := 1) (cs := #[.slice A0_0 l0_0.length c0_0, .int .i64 a0_1, .int .i64 a0_2, .int .i64 a0_3, .slice A0_4 l0_4.length c0_4, .bool a0_5, .slice A0_6 l0_6.length c0_6, .slice A0_7 l0_7.length c0_7, .slice A0_8 l0_8.length c0_8]) (t := 36) ?_; intro gb331 hg w22 hbox hb; have BK331 := dk (hbox); have GW331 := gs hg HB; have GE331 := gs hg HB; replace HB := hs_ HB hb; clear hb hbox hg; have ⟨z23_0, z23_1, z23_2, z23_3, z23_4, z23_5, z23_6, z23_7, z23_8, v23_0, v23_1, v23_2, v23_3, v23_4, v23_5, v23_6, v23_7, v23_8⟩ := rz9 BK331) | ((with_reducible refine gate_callee (f := 122) rfl ?_); refine gl (some 9) Try.func122 #[.slice A0_0 l0_0.length c0_0] ?_; (with_reducible refine (impl_FieldOk.calls _ _ l0_0 true _ ?side1 ?side2 A2.out).mono ?_); (case side1 => exact cc HR0_0 HB); (case side2 => exact HC0_0.out); rintro e w24 ⟨rfl, hb⟩; refine ⟨_, rfl, ?_⟩; replace BK331 := kb BK331 hb; replace HB := hs_ HB hb; (try clear hb hb2 hk hi); have ⟨z25_0, z25_1, z25_2, z25_3, z25_4, z25_5, z25_6, z25_7, z25_8, v25_0, v25_1, v25_2, v25_3, v25_4, v25_5, v25_6, v25_7, v25_8⟩ := rz9 BK331) | (go_at_call 123; (with_reducible refine (impl_RulesOk.calls k a0_1 a0_2 a0_3 _ _ l0_4 a0_5 true _ ?side1 ?side2 A4.out).mono ?_); (case side1 => exact cc HR0_4 HB); (case side2 => exact HC0_4.out); rintro e w26 ⟨rfl, hb⟩; replace BK331 := kb BK331 hb; replace HB := hs_ HB hb; (try clear hb hb2 hk hi); have ⟨z27_0, z27_1, z27_2, z27_3, z27_4, z27_5, z27_6, z27_7, z27_8, v27_0, v27_1, v27_2, v27_3, v27_4, v27_5, v27_6, v27_7, v27_8⟩ := rz9 BK331) | (go_at_call 124; (with_reducible refine (impl_SeasonOk.calls k (l0_0.length : Int) _ _ l0_6 true _ ?side1 ?side2 A6.out).mono ?_); (case side1 => exact cc HR0_6 HB); (case side2 => exact HC0_6.out); rintro e w28 ⟨rfl, hb⟩; replace BK331 := kb BK331 hb; replace HB := hs_ HB hb; (try clear hb hb2 hk hi); have ⟨z29_0, z29_1, z29_2, z29_3, z29_4, z29_5, z29_6, z29_7, z29_8, v29_0, v29_1, v29_2, v29_3, v29_4, v29_5, v29_6, v29_7, v29_8⟩ := rz9 BK331) | (go_at_call 125; (with_reducible refine (impl_arePenalties.calls _ _ l0_7 (l0_0.length : Int) false _ ?side1 ?side2 A8.out).mono ?_); (case side1 => exact cc HR0_7 HB); (case side2 => exact HC0_7.out); rintro e w30 ⟨rfl, hb⟩; replace BK331 := kb BK331 hb; replace HB := hs_ HB hb; (try clear hb hb2 hk hi)))
     go_ret
     exact ⟨ee, bb HB⟩
   ·replace c7 := Bool.eq_false_iff.mpr c7
    subst c7
    rw [if_neg (show ¬ (false = true) by decide)] at H
    obtain rfl := Option.some.inj H
    go_enter Try.func61, Try.ntmps61
    go_wp2_with (first | ((with_reducible refine gate_dst (N := 1) rfl ?_); refine bx (N := 1) (cs := #[.slice A0_0 l0_0.length c0_0, .int .i64 a0_1, .int .i64 a0_2, .int .i64 a0_3, .slice A0_4 l0_4.length c0_4, .bool a0_5, .slice A0_6 l0_6.length c0_6, .slice A0_7 l0_7.length c0_7, .slice A0_8 l0_8.length c0_8]) (t := 36) ?_; intro gb331 hg w31 hbox hb; have BK331 := dk (hbox); have GW331 := gs hg HB; have GE331 := gs hg HB; replace HB := hs_ HB hb; clear hb hbox hg; have ⟨z32_0, z32_1, z32_2, z32_3, z32_4, z32_5, z32_6, z32_7, z32_8, v32_0, v32_1, v32_2, v32_3, v32_4, v32_5, v32_6, v32_7, v32_8⟩ := rz9 BK331) | ((with_reducible refine gate_callee (f := 122) rfl ?_); refine gl (some 9) Try.func122 #[.slice A0_0 l0_0.length c0_0] ?_; (with_reducible refine (impl_FieldOk.calls _ _ l0_0 true _ ?side1 ?side2 A2.out).mono ?_); (case side1 => exact cc HR0_0 HB); (case side2 => exact HC0_0.out); rintro e w33 ⟨rfl, hb⟩; refine ⟨_, rfl, ?_⟩; replace BK331 := kb BK331 hb; replace HB := hs_ HB hb; (try clear hb hb2 hk hi); have ⟨z34_0, z34_1, z34_2, z34_3, z34_4, z34_5, z34_6, z34_7, z34_8, v34_0, v34_1, v34_2, v34_3, v34_4, v34_5, v34_6, v34_7, v34_8⟩ := rz9 BK331) | (go_at_call 123; (with_reducible refine (impl_RulesOk.calls k a0_1 a0_2 a0_3 _ _ l0_4 a0_5 true _ ?side1 ?side2 A4.out).mono ?_); (case side1 => exact cc HR0_4 HB); (case side2 => exact HC0_4.out); rintro e w35 ⟨rfl, hb⟩; replace BK331 := kb BK331 hb; replace HB := hs_ HB hb; (try clear hb hb2 hk hi); have ⟨z36_0, z36_1, z36_2, z36_3, z36_4, z36_5, z36_6, z36_7, z36_8, v36_0, v36_1, v36_2, v36_3, v36_4, v36_5, v36_6, v36_7, v36_8⟩ := rz9 BK331) | (go_at_call 124; (with_reducible refine (impl_SeasonOk.calls k (l0_0.length : Int) _ _ l0_6 false _ ?side1 ?side2 A6.out).mono ?_); (case side1 => exact cc HR0_6 HB); (case side2 => exact HC0_6.out); rintro e w37 ⟨rfl, hb⟩; replace BK331 := kb BK331 hb; replace HB := hs_ HB hb; (try clear hb hb2 hk hi)))
    go_ret
    exact ⟨ee, bb HB⟩
  ·replace c5 := Bool.eq_false_iff.mpr c5
   subst c5
   rw [if_neg (show ¬ (false = true) by decide)] at H
   obtain rfl := Option.some.inj H
   go_enter Try.func61, Try.ntmps61
   go_wp2_with (first | ((with_reducible refine gate_dst (N := 1) rfl ?_); refine bx (N := 1) (cs := #[.slice A0_0 l0_0.length c0_0, .int .i64 a0_1, .int .i64 a0_2, .int .i64 a0_3, .slice A0_4 l0_4.length c0_4, .bool a0_5, .slice A0_6 l0_6.length c0_6, .slice A0_7 l0_7.length c0_7, .slice A0_8 l0_8.length c0_8]) (t := 36) ?_; intro gb331 hg w38 hbox hb; have BK331 := dk (hbox); have GW331 := gs hg HB; have GE331 := gs hg HB; replace HB := hs_ HB hb; clear hb hbox hg; have ⟨z39_0, z39_1, z39_2, z39_3, z39_4, z39_5, z39_6, z39_7, z39_8, v39_0, v39_1, v39_2, v39_3, v39_4, v39_5, v39_6, v39_7, v39_8⟩ := rz9 BK331) | ((with_reducible refine gate_callee (f := 122) rfl ?_); refine gl (some 9) Try.func122 #[.slice A0_0 l0_0.length c0_0] ?_; (with_reducible refine (impl_FieldOk.calls _ _ l0_0 true _ ?side1 ?side2 A2.out).mono ?_); (case side1 => exact cc HR0_0 HB); (case side2 => exact HC0_0.out); rintro e w40 ⟨rfl, hb⟩; refine ⟨_, rfl, ?_⟩; replace BK331 := kb BK331 hb; replace HB := hs_ HB hb; (try clear hb hb2 hk hi); have ⟨z41_0, z41_1, z41_2, z41_3, z41_4, z41_5, z41_6, z41_7, z41_8, v41_0, v41_1, v41_2, v41_3, v41_4, v41_5, v41_6, v41_7, v41_8⟩ := rz9 BK331) | (go_at_call 123; (with_reducible refine (impl_RulesOk.calls k a0_1 a0_2 a0_3 _ _ l0_4 a0_5 false _ ?side1 ?side2 A4.out).mono ?_); (case side1 => exact cc HR0_4 HB); (case side2 => exact HC0_4.out); rintro e w42 ⟨rfl, hb⟩; replace BK331 := kb BK331 hb; replace HB := hs_ HB hb; (try clear hb hb2 hk hi)))
   go_ret
   exact ⟨ee, bb HB⟩
 ·replace c3 := Bool.eq_false_iff.mpr c3
  subst c3
  rw [if_neg (show ¬ (false = true) by decide)] at H
  obtain rfl := Option.some.inj H
  go_enter Try.func61, Try.ntmps61
  go_wp2_with (first | ((with_reducible refine gate_dst (N := 1) rfl ?_); refine bx (N := 1) (cs := #[.slice A0_0 l0_0.length c0_0, .int .i64 a0_1, .int .i64 a0_2, .int .i64 a0_3, .slice A0_4 l0_4.length c0_4, .bool a0_5, .slice A0_6 l0_6.length c0_6, .slice A0_7 l0_7.length c0_7, .slice A0_8 l0_8.length c0_8]) (t := 36) ?_; intro gb331 hg w43 hbox hb; have BK331 := dk (hbox); have GW331 := gs hg HB; have GE331 := gs hg HB; replace HB := hs_ HB hb; clear hb hbox hg; have ⟨z44_0, z44_1, z44_2, z44_3, z44_4, z44_5, z44_6, z44_7, z44_8, v44_0, v44_1, v44_2, v44_3, v44_4, v44_5, v44_6, v44_7, v44_8⟩ := rz9 BK331) | ((with_reducible refine gate_callee (f := 122) rfl ?_); refine gl (some 9) Try.func122 #[.slice A0_0 l0_0.length c0_0] ?_; (with_reducible refine (impl_FieldOk.calls _ _ l0_0 false _ ?side1 ?side2 A2.out).mono ?_); (case side1 => exact cc HR0_0 HB); (case side2 => exact HC0_0.out); rintro e w45 ⟨rfl, hb⟩; refine ⟨_, rfl, ?_⟩; replace BK331 := kb BK331 hb; replace HB := hs_ HB hb; (try clear hb hb2 hk hi)))
  go_ret
  exact ⟨ee, bb HB⟩
def slices_Clone_int_int.f (l0 : List Int) : Option (List Int) := (some (([] : List Int) : List Int)).bind fun y337 => (if y337.length + l0.length < 17592186044416 then (some (y337 ++ l0)) else (none))
theorem slices_Clone_int_int.calls_some (ad0 : Addr) (c0 : Nat) (l0 : List Int) (r : List Int) (w : World) (hr0 : Kd.C (Kd.int .i64) w (some ad0) l0.length l0) (hc0 : l0.length ≤ c0) (h : slices_Clone_int_int.f l0 = some r) :
  Calls Try.prog 102 #[.slice (some ad0) l0.length c0] w fun e w' => ∃ v0_ : Value, e = .returned (v0_) ∧ Kd.R (Kd.int .i64) 3 w' w.heap.size (fun _ => True) v0_ r ∧ Below w.heap.size w w' := by
 have hnil_ := fun (w : World) => Lib.run_eql_slice_nil (P := Try.prog) w 23 3 (some ad0) l0.length c0 0 0 Try.underlying23
 have HR0 := dk hr0
 have HC0 := dk hc0
 clear hr0 hc0
 have HB := dk (Below.refl w.heap.size w)
 have H : ((some (([] : List Int) : List Int)).bind fun y337 => (if y337.length + l0.length < 17592186044416 then (some (y337 ++ l0)) else (none))) = some r := h
 clear h
 obtain ⟨y337, hy337⟩ : ∃ y_ : List Int, y_ = (([] : List Int)) := ⟨_, rfl⟩
 replace H : (if y337.length + l0.length < 17592186044416 then (some (y337 ++ l0)) else (none)) = some r := by first | (rw [hy337]; with_reducible exact H) | (have H2_ := (Option.bind_some _ _).symm.trans H; rw [hy337]; with_reducible exact H2_) | (have H2_ := (Option.bind_some _ _).symm.trans H; with_reducible exact H2_) | with_reducible exact H | (rw [hy337]; exact H) | exact H
 have Ny337 := dk hy337
 clear hy337
 by_cases c2 : y337.length + l0.length < 17592186044416
 ·rw [if_pos c2] at H
  have LMc2 := dk c2
  clear c2
  obtain ⟨y340, hy340⟩ : ∃ y_ : List Int, y_ = (y337 ++ l0) := ⟨_, rfl⟩
  replace H : (some y340) = some r := by first | (rw [hy340]; with_reducible exact H) | (have H2_ := (Option.bind_some _ _).symm.trans H; rw [hy340]; with_reducible exact H2_) | (have H2_ := (Option.bind_some _ _).symm.trans H; with_reducible exact H2_) | with_reducible exact H | (rw [hy340]; exact H) | exact H
  have Ny340 := dk hy340
  clear hy340
  obtain rfl := Option.some.inj H
  go_enter Try.func102, Try.ntmps102
  go_wp2_with (first | ((with_reducible refine gate_dst (N := 5) rfl ?_); refine Kd.R_lit (Kd.int .i64) _ 3 ?hg (N := 5) ?hd (xs := ([] : List Int)) (inner := []) (ok := fun _ => True) (okp := fun _ => True) ?hr ?hp (fun _ hk => hk) trivial (Below.refl _ _) (Nat.le_refl _) (by simp) ?_; (case hd => rfl); (case hg => rfl); (case hr => first | (go_simp; done) | (go_simp; rfl)); (case hp => exact (Reps.none _ _)); intro v338 w3 ho4 hb hg_ hnew_; clear hg_ hnew_; (first | rw [← Ny337.out] at ho4 | (simp only [Int.reduceToNat] at ho4; rw [← Ny337.out] at ho4)); have HO339 := kl ho4 HB; replace HB := hs_ HB hb; clear hb ho4) | ((with_reducible refine gate_builtin (b := .append) (xs := #[.tmp 5, .tmp 6]) rfl ?_); at_builtin; refine Kd.R_append_rows (Kd.int .i64) (w0 := w) w.heap.size rfl (.tmp 5) (.tmp 6) 23 3 (.int .i64 0) 8 rfl Try.underlying23 info3 rfl (by decide) (by omega) v338 y337 l0 _ _ _ (fun _ => True) (fun _ => False) rfl rfl ?aO ?aR (fun _ _ h => h) (fun _ h => h.elim) ?aF ?aB ?aS ?aL ?_; (case aR => exact cc HR0 HB); (case aB => exact (bb HB)); (case aF => exact (fun _ _ => trivial)); (case aO => exact (rr HO339)); (case aS => exact (below_size (bb HB))); (case aL => have := LMc2.out; omega); intro v341 w5 ho hb hg hat; rw [← Ny340.out] at ho; replace HB := dk (hb); have HO342 := dk (ho); clear HO339 ho hb hg hat))
  go_ret
  exact ⟨_, ee, rr HO342, bb HB⟩
 ·rw [if_neg c2] at H
  exact absurd H (by simp)
theorem slices_Clone_int_int.calls (A0 : Option Addr) (c0 : Nat) (l0 : List Int) (r : List Int) (w : World) (hr0 : Kd.C (Kd.int .i64) w A0 l0.length l0) (hc0 : l0.length ≤ c0) (h : slices_Clone_int_int.f l0 = some r) :
  Calls Try.prog 102 #[.slice A0 l0.length c0] w fun e w' => ∃ v0_ : Value, e = .returned (v0_) ∧ Kd.R (Kd.int .i64) 3 w' w.heap.size (fun _ => True) v0_ r ∧ Below w.heap.size w w' := by
 cases A0 with
 | some ad0 => exact slices_Clone_int_int.calls_some ad0 c0 l0 r w hr0 hc0 h
 | none =>
  have hl : l0 = [] := Kd.C_none hr0
  subst hl
  have hr : r = [] := by
   unfold slices_Clone_int_int.f at h
   simpa using h.symm
  subst hr
  have hnil_ := fun (w : World) => Lib.run_eql_slice_nil (P := Try.prog) w 23 3 none 0 c0 0 0 Try.underlying23
  go_enter Try.func102, Try.ntmps102
  go_wp2
  go_ret
  exact ⟨_, rfl, Kd.R_nil _ _ _ _ _, Below.refl _ _⟩
def slices_Clone_impl_Team_impl_Team.f (l0 : List (S139)) : Option ((List (S139))) := (some (([] : List (S139)) : List (S139))).bind fun y343 => (if y343.length + l0.length < 4398046511104 then (some (y343 ++ l0)) else (none))
theorem slices_Clone_impl_Team_impl_Team.calls_some (ad0 : Addr) (c0 : Nat) (l0 : List (S139)) (r : List (S139)) (w : World) (hr0 : Kd.C k139 w (some ad0) l0.length l0) (hc0 : l0.length ≤ c0) (h : slices_Clone_impl_Team_impl_Team.f l0 = some r) :
  Calls Try.prog 126 #[.slice (some ad0) l0.length c0] w fun e w' => ∃ v0_ : Value, e = .returned (v0_) ∧ Kd.R k139 139 w' w.heap.size (fun _ => True) v0_ r ∧ Below w.heap.size w w' := by
 have hnil_ := fun (w : World) => Lib.run_eql_slice_nil (P := Try.prog) w 32 139 (some ad0) l0.length c0 0 0 Try.underlying32
 have HR0 := dk hr0
 have HC0 := dk hc0
 clear hr0 hc0
 have HB := dk (Below.refl w.heap.size w)
 have H : ((some (([] : List (S139)) : List (S139))).bind fun y343 => (if y343.length + l0.length < 4398046511104 then (some (y343 ++ l0)) else (none))) = some r := h
 clear h
 obtain ⟨y343, hy343⟩ : ∃ y_ : List (S139), y_ = (([] : List (S139))) := ⟨_, rfl⟩
 replace H : (if y343.length + l0.length < 4398046511104 then (some (y343 ++ l0)) else (none)) = some r := by first | (rw [hy343]; with_reducible exact H) | (have H2_ := (Option.bind_some _ _).symm.trans H; rw [hy343]; with_reducible exact H2_) | (have H2_ := (Option.bind_some _ _).symm.trans H; with_reducible exact H2_) | with_reducible exact H | (rw [hy343]; exact H) | exact H
 have Ny343 := dk hy343
 clear hy343
 by_cases c2 : y343.length + l0.length < 4398046511104
 ·rw [if_pos c2] at H
  have LMc2 := dk c2
  clear c2
  obtain ⟨y346, hy346⟩ : ∃ y_ : List (S139), y_ = (y343 ++ l0) := ⟨_, rfl⟩
  replace H : (some y346) = some r := by first | (rw [hy346]; with_reducible exact H) | (have H2_ := (Option.bind_some _ _).symm.trans H; rw [hy346]; with_reducible exact H2_) | (have H2_ := (Option.bind_some _ _).symm.trans H; with_reducible exact H2_) | with_reducible exact H | (rw [hy346]; exact H) | exact H
  have Ny346 := dk hy346
  clear hy346
  obtain rfl := Option.some.inj H
  go_enter Try.func126, Try.ntmps126
  go_wp2_with (first | ((with_reducible refine gate_dst (N := 5) rfl ?_); refine Kd.R_lit k139 _ 139 ?hg (N := 5) ?hd (xs := ([] : List (S139))) (inner := []) (ok := fun _ => True) (okp := fun _ => True) ?hr ?hp (fun _ hk => hk) trivial (Below.refl _ _) (Nat.le_refl _) (by simp) ?_; (case hd => rfl); (case hg => rfl); (case hr => first | (go_simp; done) | (go_simp; rfl)); (case hp => exact (Reps.none _ _)); intro v344 w3 ho4 hb hg_ hnew_; clear hg_ hnew_; (first | rw [← Ny343.out] at ho4 | (simp only [Int.reduceToNat] at ho4; rw [← Ny343.out] at ho4)); have HO345 := kl ho4 HB; replace HB := hs_ HB hb; clear hb ho4) | ((with_reducible refine gate_builtin (b := .append) (xs := #[.tmp 5, .tmp 6]) rfl ?_); at_builtin; refine Kd.R_append_rows k139 (w0 := w) w.heap.size rfl (.tmp 5) (.tmp 6) 32 139 (.agg #[(.string ⟨#[]⟩), (.int .i64 0), (.int .i64 0)]) 32 rfl Try.underlying32 info139 rfl (by decide) (by omega) v344 y343 l0 _ _ _ (fun _ => True) (fun _ => False) rfl rfl ?aO ?aR (fun _ _ h => h) (fun _ h => h.elim) ?aF ?aB ?aS ?aL ?_; (case aR => exact cc HR0 HB); (case aB => exact (bb HB)); (case aF => exact (fun _ _ => trivial)); (case aO => exact (rr HO345)); (case aS => exact (below_size (bb HB))); (case aL => have := LMc2.out; omega); intro v347 w5 ho hb hg hat; rw [← Ny346.out] at ho; replace HB := dk (hb); have HO348 := dk (ho); clear HO345 ho hb hg hat))
  go_ret
  exact ⟨_, ee, rr HO348, bb HB⟩
 ·rw [if_neg c2] at H
  exact absurd H (by simp)
theorem slices_Clone_impl_Team_impl_Team.calls (A0 : Option Addr) (c0 : Nat) (l0 : List (S139)) (r : List (S139)) (w : World) (hr0 : Kd.C k139 w A0 l0.length l0) (hc0 : l0.length ≤ c0) (h : slices_Clone_impl_Team_impl_Team.f l0 = some r) :
  Calls Try.prog 126 #[.slice A0 l0.length c0] w fun e w' => ∃ v0_ : Value, e = .returned (v0_) ∧ Kd.R k139 139 w' w.heap.size (fun _ => True) v0_ r ∧ Below w.heap.size w w' := by
 cases A0 with
 | some ad0 => exact slices_Clone_impl_Team_impl_Team.calls_some ad0 c0 l0 r w hr0 hc0 h
 | none =>
  have hl : l0 = [] := Kd.C_none hr0
  subst hl
  have hr : r = [] := by
   unfold slices_Clone_impl_Team_impl_Team.f at h
   simpa using h.symm
  subst hr
  have hnil_ := fun (w : World) => Lib.run_eql_slice_nil (P := Try.prog) w 32 139 none 0 c0 0 0 Try.underlying32
  go_enter Try.func126, Try.ntmps126
  go_wp2
  go_ret
  exact ⟨_, rfl, Kd.R_nil _ _ _ _ _, Below.refl _ _⟩
def slices_Clone_impl_Game_impl_Game.f (l0 : List (S95)) : Option ((List (S95))) := (some (([] : List (S95)) : List (S95))).bind fun y349 => (if y349.length + l0.length < 3518437208883 then (some (y349 ++ l0)) else (none))
theorem slices_Clone_impl_Game_impl_Game.calls_some (ad0 : Addr) (c0 : Nat) (l0 : List (S95)) (r : List (S95)) (w : World) (hr0 : Kd.C k95 w (some ad0) l0.length l0) (hc0 : l0.length ≤ c0) (h : slices_Clone_impl_Game_impl_Game.f l0 = some r) :
  Calls Try.prog 127 #[.slice (some ad0) l0.length c0] w fun e w' => ∃ v0_ : Value, e = .returned (v0_) ∧ Kd.R k95 95 w' w.heap.size (fun _ => True) v0_ r ∧ Below w.heap.size w w' := by
 have hnil_ := fun (w : World) => Lib.run_eql_slice_nil (P := Try.prog) w 34 95 (some ad0) l0.length c0 0 0 Try.underlying34
 have HR0 := dk hr0
 have HC0 := dk hc0
 clear hr0 hc0
 have HB := dk (Below.refl w.heap.size w)
 have H : ((some (([] : List (S95)) : List (S95))).bind fun y349 => (if y349.length + l0.length < 3518437208883 then (some (y349 ++ l0)) else (none))) = some r := h
 clear h
 obtain ⟨y349, hy349⟩ : ∃ y_ : List (S95), y_ = (([] : List (S95))) := ⟨_, rfl⟩
 replace H : (if y349.length + l0.length < 3518437208883 then (some (y349 ++ l0)) else (none)) = some r := by first | (rw [hy349]; with_reducible exact H) | (have H2_ := (Option.bind_some _ _).symm.trans H; rw [hy349]; with_reducible exact H2_) | (have H2_ := (Option.bind_some _ _).symm.trans H; with_reducible exact H2_) | with_reducible exact H | (rw [hy349]; exact H) | exact H
 have Ny349 := dk hy349
 clear hy349
 by_cases c2 : y349.length + l0.length < 3518437208883
 ·rw [if_pos c2] at H
  have LMc2 := dk c2
  clear c2
  obtain ⟨y352, hy352⟩ : ∃ y_ : List (S95), y_ = (y349 ++ l0) := ⟨_, rfl⟩
  replace H : (some y352) = some r := by first | (rw [hy352]; with_reducible exact H) | (have H2_ := (Option.bind_some _ _).symm.trans H; rw [hy352]; with_reducible exact H2_) | (have H2_ := (Option.bind_some _ _).symm.trans H; with_reducible exact H2_) | with_reducible exact H | (rw [hy352]; exact H) | exact H
  have Ny352 := dk hy352
  clear hy352
  obtain rfl := Option.some.inj H
  go_enter Try.func127, Try.ntmps127
  go_wp2_with (first | ((with_reducible refine gate_dst (N := 5) rfl ?_); refine Kd.R_lit k95 _ 95 ?hg (N := 5) ?hd (xs := ([] : List (S95))) (inner := []) (ok := fun _ => True) (okp := fun _ => True) ?hr ?hp (fun _ hk => hk) trivial (Below.refl _ _) (Nat.le_refl _) (by simp) ?_; (case hd => rfl); (case hg => rfl); (case hr => first | (go_simp; done) | (go_simp; rfl)); (case hp => exact (Reps.none _ _)); intro v350 w3 ho4 hb hg_ hnew_; clear hg_ hnew_; (first | rw [← Ny349.out] at ho4 | (simp only [Int.reduceToNat] at ho4; rw [← Ny349.out] at ho4)); have HO351 := kl ho4 HB; replace HB := hs_ HB hb; clear hb ho4) | ((with_reducible refine gate_builtin (b := .append) (xs := #[.tmp 5, .tmp 6]) rfl ?_); at_builtin; refine Kd.R_append_rows k95 (w0 := w) w.heap.size rfl (.tmp 5) (.tmp 6) 34 95 (.agg #[(.int .i64 0), (.int .i64 0), (.int .i64 0), (.int .i64 0), (.int .i64 0)]) 40 rfl Try.underlying34 info95 rfl (by decide) (by omega) v350 y349 l0 _ _ _ (fun _ => True) (fun _ => False) rfl rfl ?aO ?aR (fun _ _ h => h) (fun _ h => h.elim) ?aF ?aB ?aS ?aL ?_; (case aR => exact cc HR0 HB); (case aB => exact (bb HB)); (case aF => exact (fun _ _ => trivial)); (case aO => exact (rr HO351)); (case aS => exact (below_size (bb HB))); (case aL => have := LMc2.out; omega); intro v353 w5 ho hb hg hat; rw [← Ny352.out] at ho; replace HB := dk (hb); have HO354 := dk (ho); clear HO351 ho hb hg hat))
  go_ret
  exact ⟨_, ee, rr HO354, bb HB⟩
 ·rw [if_neg c2] at H
  exact absurd H (by simp)
theorem slices_Clone_impl_Game_impl_Game.calls (A0 : Option Addr) (c0 : Nat) (l0 : List (S95)) (r : List (S95)) (w : World) (hr0 : Kd.C k95 w A0 l0.length l0) (hc0 : l0.length ≤ c0) (h : slices_Clone_impl_Game_impl_Game.f l0 = some r) :
  Calls Try.prog 127 #[.slice A0 l0.length c0] w fun e w' => ∃ v0_ : Value, e = .returned (v0_) ∧ Kd.R k95 95 w' w.heap.size (fun _ => True) v0_ r ∧ Below w.heap.size w w' := by
 cases A0 with
 | some ad0 => exact slices_Clone_impl_Game_impl_Game.calls_some ad0 c0 l0 r w hr0 hc0 h
 | none =>
  have hl : l0 = [] := Kd.C_none hr0
  subst hl
  have hr : r = [] := by
   unfold slices_Clone_impl_Game_impl_Game.f at h
   simpa using h.symm
  subst hr
  have hnil_ := fun (w : World) => Lib.run_eql_slice_nil (P := Try.prog) w 34 95 none 0 c0 0 0 Try.underlying34
  go_enter Try.func127, Try.ntmps127
  go_wp2
  go_ret
  exact ⟨_, rfl, Kd.R_nil _ _ _ _ _, Below.refl _ _⟩
def impl_Book_copied.f (l0_0 : List (S139)) (a0_1 : Int) (a0_2 : Int) (a0_3 : Int) (l0_4 : List Int) (a0_5 : Bool) (l0_6 : List (S95)) (l0_7 : List Int) (l0_8 : List Int) : Option ((List (S139)) × Int × Int × Int × List Int × Bool × (List (S95)) × List Int × List Int) := (slices_Clone_impl_Team_impl_Team.f l0_0).bind fun t357 => ((slices_Clone_impl_Game_impl_Game.f l0_6).bind fun t360 => ((slices_Clone_int_int.f l0_7).bind fun t363 => ((slices_Clone_int_int.f l0_8).bind fun t366 => ((slices_Clone_int_int.f l0_4).bind fun t369 => (some (t357, a0_1, a0_2, a0_3, t369, a0_5, t360, t363, t366))))))
def impl_Book_copied.T1 : Bool × List (List Nat × List Nat) := (true, [([], []), ([0], [0]), ([1], [1]), ([], []), ([3], [3]), ([4, 2], [4]), ([], []), ([6], [6]), ([7, 5], [7]), ([], []), ([9], [9]), ([10, 8], [10]), ([0, 1, 2, 3, 4, 6, 7, 9, 10], []), ([12, 2, 11, 0, 1, 2, 3, 4, 6, 7, 9, 10], [2, 12]), ([0, 1, 2, 3, 4, 5, 6, 7, 9, 10, 12, 13], []), ([14, 5, 13, 0, 1, 2, 3, 4, 5, 6, 7, 9, 10, 12, 13], [5, 14]), ([0, 1, 2, 3, 4, 5, 6, 7, 8, 9, 10, 12, 13, 14, 15], []), ([16, 8, 15, 0, 1, 2, 3, 4, 5, 6, 7, 8, 9, 10, 12, 13, 14, 15], [8, 16]), ([0, 1, 2, 3, 4, 5, 6, 7, 8, 9, 10, 11, 12, 13, 14, 15, 16, 17], []), ([18, 11, 17, 0, 1, 2, 3, 4, 5, 6, 7, 8, 9, 10, 11, 12, 13, 14, 15, 16, 17], [11, 18])])
def impl_Book_copied.B1 : List Nat := [0, 1, 3, 0, 8, 31, 0, 64, 255, 0, 512, 2047, 1759, 8191, 16383, 32767, 65535, 131071, 262143, 524287]
theorem impl_Book_copied.tab1 : rtab .any (opsOf Try.f62 1) = impl_Book_copied.T1 := by kernel_rfl
theorem impl_Book_copied.bits1 : waitsOk impl_Book_copied.T1.2 impl_Book_copied.B1 = true := by kernel_rfl
theorem impl_Book_copied.calls (A0_0 : Option Addr) (c0_0 : Nat) (l0_0 : List (S139)) (a0_1 : Int) (a0_2 : Int) (a0_3 : Int) (A0_4 : Option Addr) (c0_4 : Nat) (l0_4 : List Int) (a0_5 : Bool) (A0_6 : Option Addr) (c0_6 : Nat) (l0_6 : List (S95)) (A0_7 : Option Addr) (c0_7 : Nat) (l0_7 : List Int) (A0_8 : Option Addr) (c0_8 : Nat) (l0_8 : List Int) (r1 : List (S139)) (r2 : Int) (r3 : Int) (r4 : Int) (r5 : List Int) (r6 : Bool) (r7 : List (S95)) (r8 : List Int) (r9 : List Int) (w : World) (hr0_0 : Kd.C k139 w A0_0 l0_0.length l0_0) (hc0_0 : l0_0.length ≤ c0_0) (hr0_4 : Kd.C (Kd.int .i64) w A0_4 l0_4.length l0_4) (hc0_4 : l0_4.length ≤ c0_4) (hr0_6 : Kd.C k95 w A0_6 l0_6.length l0_6) (hc0_6 : l0_6.length ≤ c0_6) (hr0_7 : Kd.C (Kd.int .i64) w A0_7 l0_7.length l0_7) (hc0_7 : l0_7.length ≤ c0_7) (hr0_8 : Kd.C (Kd.int .i64) w A0_8 l0_8.length l0_8) (hc0_8 : l0_8.length ≤ c0_8) (h : impl_Book_copied.f l0_0 a0_1 a0_2 a0_3 l0_4 a0_5 l0_6 l0_7 l0_8 = some (r1, r2, r3, r4, r5, r6, r7, r8, r9)) :
  Calls Try.prog 62 #[.agg #[.slice A0_0 l0_0.length c0_0, .int .i64 a0_1, .int .i64 a0_2, .int .i64 a0_3, .slice A0_4 l0_4.length c0_4, .bool a0_5, .slice A0_6 l0_6.length c0_6, .slice A0_7 l0_7.length c0_7, .slice A0_8 l0_8.length c0_8]] w fun e w' => ∃ v0_ v4_ v6_ v7_ v8_ : Value, e = .returned (.agg #[v0_, .int .i64 r2, .int .i64 r3, .int .i64 r4, v4_, .bool r6, v6_, v7_, v8_]) ∧ Kd.R k139 139 w' w.heap.size (fun _ => True) v0_ r1 ∧ Kd.R (Kd.int .i64) 3 w' w.heap.size (fun k_ => some k_ ≠ (v7_ : Value).ownBlock ∧ some k_ ≠ (v8_ : Value).ownBlock) v4_ r5 ∧ Kd.R k95 95 w' w.heap.size (fun _ => True) v6_ r7 ∧ Kd.R (Kd.int .i64) 3 w' w.heap.size (fun k_ => some k_ ≠ (v4_ : Value).ownBlock ∧ some k_ ≠ (v8_ : Value).ownBlock) v7_ r8 ∧ Kd.R (Kd.int .i64) 3 w' w.heap.size (fun k_ => some k_ ≠ (v4_ : Value).ownBlock ∧ some k_ ≠ (v7_ : Value).ownBlock) v8_ r9 ∧ Below w.heap.size w w' := by
 have hu36 := Try.underlying36
 have HR0_0 := dk hr0_0
 have HC0_0 := dk hc0_0
 clear hr0_0 hc0_0
 have HR0_4 := dk hr0_4
 have HC0_4 := dk hc0_4
 clear hr0_4 hc0_4
 have HR0_6 := dk hr0_6
 have HC0_6 := dk hc0_6
 clear hr0_6 hc0_6
 have HR0_7 := dk hr0_7
 have HC0_7 := dk hc0_7
 clear hr0_7 hc0_7
 have HR0_8 := dk hr0_8
 have HC0_8 := dk hc0_8
 clear hr0_8 hc0_8
 have HB := dk (Below.refl w.heap.size w)
 have H : ((slices_Clone_impl_Team_impl_Team.f l0_0).bind fun t357 => ((slices_Clone_impl_Game_impl_Game.f l0_6).bind fun t360 => ((slices_Clone_int_int.f l0_7).bind fun t363 => ((slices_Clone_int_int.f l0_8).bind fun t366 => ((slices_Clone_int_int.f l0_4).bind fun t369 => (some (t357, a0_1, a0_2, a0_3, t369, a0_5, t360, t363, t366))))))) = some (r1, r2, r3, r4, r5, r6, r7, r8, r9) := h
 clear h
 replace H := Option.bind_eq_some_iff.mp H
 obtain ⟨t357, A20, H⟩ := H
 replace H : ((slices_Clone_impl_Game_impl_Game.f l0_6).bind fun t360 => ((slices_Clone_int_int.f l0_7).bind fun t363 => ((slices_Clone_int_int.f l0_8).bind fun t366 => ((slices_Clone_int_int.f l0_4).bind fun t369 => (some (t357, a0_1, a0_2, a0_3, t369, a0_5, t360, t363, t366)))))) = some (r1, r2, r3, r4, r5, r6, r7, r8, r9) := H
 have A2 := dk A20
 clear A20
 replace H := Option.bind_eq_some_iff.mp H
 obtain ⟨t360, A30, H⟩ := H
 replace H : ((slices_Clone_int_int.f l0_7).bind fun t363 => ((slices_Clone_int_int.f l0_8).bind fun t366 => ((slices_Clone_int_int.f l0_4).bind fun t369 => (some (t357, a0_1, a0_2, a0_3, t369, a0_5, t360, t363, t366))))) = some (r1, r2, r3, r4, r5, r6, r7, r8, r9) := H
 have A3 := dk A30
 clear A30
 replace H := Option.bind_eq_some_iff.mp H
 obtain ⟨t363, A40, H⟩ := H
 replace H : ((slices_Clone_int_int.f l0_8).bind fun t366 => ((slices_Clone_int_int.f l0_4).bind fun t369 => (some (t357, a0_1, a0_2, a0_3, t369, a0_5, t360, t363, t366)))) = some (r1, r2, r3, r4, r5, r6, r7, r8, r9) := H
 have A4 := dk A40
 clear A40
 replace H := Option.bind_eq_some_iff.mp H
 obtain ⟨t366, A50, H⟩ := H
 replace H : ((slices_Clone_int_int.f l0_4).bind fun t369 => (some (t357, a0_1, a0_2, a0_3, t369, a0_5, t360, t363, t366))) = some (r1, r2, r3, r4, r5, r6, r7, r8, r9) := H
 have A5 := dk A50
 clear A50
 replace H := Option.bind_eq_some_iff.mp H
 obtain ⟨t369, A60, H⟩ := H
 replace H : (some (t357, a0_1, a0_2, a0_3, t369, a0_5, t360, t363, t366)) = some (r1, r2, r3, r4, r5, r6, r7, r8, r9) := H
 have A6 := dk A60
 clear A60
 simp only [Option.some.injEq, Prod.mk.injEq] at H
 obtain ⟨rfl, rfl, rfl, rfl, rfl, rfl, rfl, rfl, rfl⟩ := H
 go_enter Try.func62, Try.ntmps62
 try go_wp2_with (first | ((with_reducible refine gate_dst (N := 1) rfl ?_); refine bx (N := 1) (cs := #[.slice A0_0 l0_0.length c0_0, .int .i64 a0_1, .int .i64 a0_2, .int .i64 a0_3, .slice A0_4 l0_4.length c0_4, .bool a0_5, .slice A0_6 l0_6.length c0_6, .slice A0_7 l0_7.length c0_7, .slice A0_8 l0_8.length c0_8]) (t := 36) ?_; intro gb355 hg w7 hbox hb; have BK355 := dk (hbox); have GW355 := gs hg HB; have GE355 := gs hg HB; replace HB := hs_ HB hb; clear hb hbox hg) | ((with_reducible refine gate_dst (N := 2) rfl ?_); refine bx (N := 2) (cs := #[.slice none 0 0, .int .i64 0, .int .i64 0, .int .i64 0, .slice none 0 0, .bool false, .slice none 0 0, .slice none 0 0, .slice none 0 0]) (t := 36) ?_; intro gb356 hg w8 hbox hb; have BK356 := dk (hbox); have GW356 := gs hg HB; have GE356 := gs hg HB; replace HB := hs_ HB hb; have NB355_356 := gn hg BK355; have NB356_355 := gm hg BK355; replace BK355 := kb BK355 hb; clear hb hbox hg))
 replace BK355 := dk (blk_drew BK355.out)
 replace BK356 := dk (blk_drew BK356.out)
 replace HB := dk (below_drew1 HB.out)
 refine start_ (n := 20) (S := fun w' => w'.cell? ⟨gb355, 0, none⟩ = some (.slice A0_0 l0_0.length c0_0) ∧ w'.cell? ⟨gb355, 1, none⟩ = some (.int .i64 a0_1) ∧ w'.cell? ⟨gb355, 2, none⟩ = some (.int .i64 a0_2) ∧ w'.cell? ⟨gb355, 3, none⟩ = some (.int .i64 a0_3) ∧ w'.cell? ⟨gb355, 4, none⟩ = some (.slice A0_4 l0_4.length c0_4) ∧ w'.cell? ⟨gb355, 5, none⟩ = some (.bool a0_5) ∧ w'.cell? ⟨gb355, 6, none⟩ = some (.slice A0_6 l0_6.length c0_6) ∧ w'.cell? ⟨gb355, 7, none⟩ = some (.slice A0_7 l0_7.length c0_7) ∧ w'.cell? ⟨gb355, 8, none⟩ = some (.slice A0_8 l0_8.length c0_8)) (ds := [13, 15, 17, 19]) #[false, false, false, false, false, false, false, false, false, false, false, false, false, false, false, false, false, false, false, false] (by kernel_rfl) rfl rfl ⟨bc BK355 0, bc BK355 1, bc BK355 2, bc BK355 3, bc BK355 4, bc BK355 5, bc BK355 6, bc BK355 7, bc BK355 8⟩ (fun hHeld => ?_); refine with_tabW impl_Book_copied.tab1 impl_Book_copied.bits1 (fun HT_ HW_ => ?_)
 generalize w8.drew = w9 at BK355 BK356 HB hHeld ⊢
 refine pz_ 0 3 ?_
 refine pz_ 3 6 ?_
 refine pz_ 6 9 ?_
 refine pz_ 9 12 ?_
 refine take_ (i := 1) (N := some 4) (v := ?_) (a' := ?_) #[true, true, false, true, false, false, true, false, false, true, false, false, false, false, false, false, false, false, false, false] rfl rfl (take_ofW HT_.out HW_.out (by kernel_rfl)) (fun _ _ _ h => h) (Or.inl ⟨by rfl, ?_⟩) hHeld ?_ ?_
 rotate_left
 ·rintro w' ⟨s0, s1, s2, s3, s4, s5, s6, s7, s8⟩
  go_simp
  with_reducible rfl
 rotate_left
 ·simp only [Act.put, List.setIfInBounds_toArray, List.set_cons_zero, List.set_cons_succ, i64_w, i32_w]
  rfl
 refine take_ (i := 4) (N := some 7) (v := ?_) (a' := ?_) #[true, true, false, true, true, false, true, false, false, true, false, false, false, false, false, false, false, false, false, false] rfl rfl (take_ofW HT_.out HW_.out (by kernel_rfl)) (fun _ _ _ h => h) (Or.inl ⟨by rfl, ?_⟩) hHeld ?_ ?_
 rotate_left
 ·rintro w' ⟨s0, s1, s2, s3, s4, s5, s6, s7, s8⟩
  go_simp
  with_reducible rfl
 rotate_left
 ·simp only [Act.put, List.setIfInBounds_toArray, List.set_cons_zero, List.set_cons_succ, i64_w, i32_w]
  rfl
 refine take_ (i := 7) (N := some 10) (v := ?_) (a' := ?_) #[true, true, false, true, true, false, true, true, false, true, false, false, false, false, false, false, false, false, false, false] rfl rfl (take_ofW HT_.out HW_.out (by kernel_rfl)) (fun _ _ _ h => h) (Or.inl ⟨by rfl, ?_⟩) hHeld ?_ ?_
 rotate_left
 ·rintro w' ⟨s0, s1, s2, s3, s4, s5, s6, s7, s8⟩
  go_simp
  with_reducible rfl
 rotate_left
 ·simp only [Act.put, List.setIfInBounds_toArray, List.set_cons_zero, List.set_cons_succ, i64_w, i32_w]
  rfl
 refine take_ (i := 10) (N := some 13) (v := ?_) (a' := ?_) #[true, true, false, true, true, false, true, true, false, true, true, false, false, false, false, false, false, false, false, false] rfl rfl (take_ofW HT_.out HW_.out (by kernel_rfl)) (fun _ _ _ h => h) (Or.inl ⟨by rfl, ?_⟩) hHeld ?_ ?_
 rotate_left
 ·rintro w' ⟨s0, s1, s2, s3, s4, s5, s6, s7, s8⟩
  go_simp
  with_reducible rfl
 rotate_left
 ·simp only [Act.put, List.setIfInBounds_toArray, List.set_cons_zero, List.set_cons_succ, i64_w, i32_w]
  rfl
 refine one_ (i := 2) (N := some 5) #[true, true, true, true, true, false, true, true, false, true, true, false, false, false, false, false, false, false, false, false] rfl rfl (one_of HT_.out (by kernel_rfl)) (by decide) (fun K hK => ?_)
 refine goes_ Try.func126 (by kernel_rfl) rfl #[.slice A0_0 l0_0.length c0_0] (by rfl) rfl rfl (by (try simp only [List.map_toArray, List.map_cons, List.map_nil]); first | done | rfl | (simp only [List.length_drop, List.length_take]; rfl)) ?_
 with_reducible refine (slices_Clone_impl_Team_impl_Team.calls _ _ l0_0 t357 _ ?side1 ?side2 A2.out).mono ?_
 (case side1 => exact cc HR0_0 HB)
 (case side2 => exact HC0_0.out)
 rintro e w10 ⟨v358, rfl, ho0, hb⟩
 refine ⟨_, rfl, ?_⟩
 have HO359 := kl ho0 HB
 replace BK355 := kb BK355 hb
 replace BK356 := kb BK356 hb
 replace HB := hs_ HB hb
 (try clear hb hb2 hk hi ho0)
 refine hK.out _ _ ⟨bc BK355 0, bc BK355 1, bc BK355 2, bc BK355 3, bc BK355 4, bc BK355 5, bc BK355 6, bc BK355 7, bc BK355 8⟩ (fun hHeld => ?_)
 clear hK K
 refine norm_ (a' := ?_) ?_ ?_
 rotate_left
 ·show Act.put _ (some 5) _ = _
  simp only [Act.put, List.setIfInBounds_toArray, List.set_cons_zero, List.set_cons_succ, i64_w, i32_w]
  rfl
 refine pz_ 12 15 ?_
 refine one_ (i := 5) (N := some 8) #[true, true, true, true, true, true, true, true, false, true, true, false, true, false, false, false, false, false, false, false] rfl rfl (one_of HT_.out (by kernel_rfl)) (by decide) (fun K hK => ?_)
 refine goes_ Try.func127 (by kernel_rfl) rfl #[.slice A0_6 l0_6.length c0_6] (by rfl) rfl rfl (by (try simp only [List.map_toArray, List.map_cons, List.map_nil]); first | done | rfl | (simp only [List.length_drop, List.length_take]; rfl)) ?_
 with_reducible refine (slices_Clone_impl_Game_impl_Game.calls _ _ l0_6 t360 _ ?side1 ?side2 A3.out).mono ?_
 (case side1 => exact cc HR0_6 HB)
 (case side2 => exact HC0_6.out)
 rintro e w11 ⟨v361, rfl, ho0, hb⟩
 refine ⟨_, rfl, ?_⟩
 replace HO359 := kr HO359 hb
 have HO362 := kl ho0 HB
 replace BK355 := kb BK355 hb
 replace BK356 := kb BK356 hb
 replace HB := hs_ HB hb
 (try clear hb hb2 hk hi ho0)
 refine hK.out _ _ ⟨bc BK355 0, bc BK355 1, bc BK355 2, bc BK355 3, bc BK355 4, bc BK355 5, bc BK355 6, bc BK355 7, bc BK355 8⟩ (fun hHeld => ?_)
 clear hK K
 refine norm_ (a' := ?_) ?_ ?_
 rotate_left
 ·show Act.put _ (some 8) _ = _
  simp only [Act.put, List.setIfInBounds_toArray, List.set_cons_zero, List.set_cons_succ, i64_w, i32_w]
  rfl
 refine one_ (i := 8) (N := some 11) #[true, true, true, true, true, true, true, true, true, true, true, false, true, false, false, false, false, false, false, false] rfl rfl (one_of HT_.out (by kernel_rfl)) (by decide) (fun K hK => ?_)
 refine goes_ Try.func102 (by kernel_rfl) rfl #[.slice A0_7 l0_7.length c0_7] (by rfl) rfl rfl (by (try simp only [List.map_toArray, List.map_cons, List.map_nil]); first | done | rfl | (simp only [List.length_drop, List.length_take]; rfl)) ?_
 with_reducible refine (slices_Clone_int_int.calls _ _ l0_7 t363 _ ?side1 ?side2 A4.out).mono ?_
 (case side1 => exact cc HR0_7 HB)
 (case side2 => exact HC0_7.out)
 rintro e w12 ⟨v364, rfl, ho0, hb⟩
 refine ⟨_, rfl, ?_⟩
 replace HO359 := kr HO359 hb
 replace HO362 := kr HO362 hb
 have HO365 := kl ho0 HB
 replace BK355 := kb BK355 hb
 replace BK356 := kb BK356 hb
 replace HB := hs_ HB hb
 (try clear hb hb2 hk hi ho0)
 refine hK.out _ _ ⟨bc BK355 0, bc BK355 1, bc BK355 2, bc BK355 3, bc BK355 4, bc BK355 5, bc BK355 6, bc BK355 7, bc BK355 8⟩ (fun hHeld => ?_)
 clear hK K
 refine norm_ (a' := ?_) ?_ ?_
 rotate_left
 ·show Act.put _ (some 11) _ = _
  simp only [Act.put, List.setIfInBounds_toArray, List.set_cons_zero, List.set_cons_succ, i64_w, i32_w]
  rfl
 refine one_ (i := 11) (N := some 14) #[true, true, true, true, true, true, true, true, true, true, true, true, true, false, false, false, false, false, false, false] rfl rfl (one_of HT_.out (by kernel_rfl)) (by decide) (fun K hK => ?_)
 refine goes_ Try.func102 (by kernel_rfl) rfl #[.slice A0_8 l0_8.length c0_8] (by rfl) rfl rfl (by (try simp only [List.map_toArray, List.map_cons, List.map_nil]); first | done | rfl | (simp only [List.length_drop, List.length_take]; rfl)) ?_
 with_reducible refine (slices_Clone_int_int.calls _ _ l0_8 t366 _ ?side1 ?side2 A5.out).mono ?_
 (case side1 => exact cc HR0_8 HB)
 (case side2 => exact HC0_8.out)
 rintro e w13 ⟨v367, rfl, ho0, hb⟩
 refine ⟨_, rfl, ?_⟩
 replace HO359 := kr HO359 hb
 replace HO362 := kr HO362 hb
 have HO368 := dk (Kd.R_lower (Kd.R_new' ho0 (rt HO365)) (below_size (bb HB)))
 replace HO365 := ke HO365 ho0 hb
 replace BK355 := kb BK355 hb
 replace BK356 := kb BK356 hb
 replace HB := hs_ HB hb
 (try clear hb hb2 hk hi ho0)
 obtain ⟨Ao14, co14, eo14⟩ := Kd.R_slice HO359.out
 (first | subst eo14 | (injection eo14 with f1_ f2_ f3_; have f4_ := f1_.symm; have f5_ := f3_.symm; clear f1_ f2_ f3_; subst f4_; subst f5_))
 obtain ⟨Ao16, co16, eo16⟩ := Kd.R_slice HO362.out
 (first | subst eo16 | (injection eo16 with f1_ f2_ f3_; have f4_ := f1_.symm; have f5_ := f3_.symm; clear f1_ f2_ f3_; subst f4_; subst f5_))
 obtain ⟨Ao18, co18, eo18⟩ := Kd.R_slice HO365.out
 (first | subst eo18 | (injection eo18 with f1_ f2_ f3_; have f4_ := f1_.symm; have f5_ := f3_.symm; clear f1_ f2_ f3_; subst f4_; subst f5_))
 obtain ⟨Ao20, co20, eo20⟩ := Kd.R_slice HO368.out
 (first | subst eo20 | (injection eo20 with f1_ f2_ f3_; have f4_ := f1_.symm; have f5_ := f3_.symm; clear f1_ f2_ f3_; subst f4_; subst f5_))
 refine hK.out _ _ ⟨bc BK355 0, bc BK355 1, bc BK355 2, bc BK355 3, bc BK355 4, bc BK355 5, bc BK355 6, bc BK355 7, bc BK355 8⟩ (fun hHeld => ?_)
 clear hK K
 refine norm_ (a' := ?_) ?_ ?_
 rotate_left
 ·show Act.put _ (some 14) _ = _
  simp only [Act.put, List.setIfInBounds_toArray, List.set_cons_zero, List.set_cons_succ, i64_w, i32_w]
  rfl
 refine last_ (i := 13) (N := none) #[true, true, true, true, true, true, true, true, true, true, true, true, true, true, false, false, false, false, false, false] rfl rfl (one_of HT_.out (by kernel_rfl)) (by decide) (fun K hK => ?_)
 have hs15 : w13.cell? ⟨gb355, 0, none⟩ = some (.slice A0_0 l0_0.length c0_0) := bc BK355 0
 have hfs15 := blk_frozen BK355.out 0
 have hns15_1 := NB356_355.out
 have hms15_1 := NB355_356.out
 refine skip_ (w1 := ?_) (by rfl) rfl ?_ ?_
 rotate_left
 ·go_simp
  rfl
 refine hK.out _ _ ?_
 clear hK K
 refine pz_ 14 16 ?_
 refine last_ (i := 15) (N := none) #[true, true, true, true, true, true, true, true, true, true, true, true, true, true, true, true, false, false, false, false] rfl rfl (one_of HT_.out (by kernel_rfl)) (by decide) (fun K hK => ?_)
 have hs17 : w13.cell? ⟨gb355, 6, none⟩ = some (.slice A0_6 l0_6.length c0_6) := bc BK355 6
 have hfs17 := blk_frozen BK355.out 6
 have hns17_1 := NB356_355.out
 have hms17_1 := NB355_356.out
 refine skip_ (w1 := ?_) (by rfl) rfl ?_ ?_
 rotate_left
 ·go_simp
  rfl
 refine hK.out _ _ ?_
 clear hK K
 refine pz_ 16 17 ?_
 refine last_ (i := 17) (N := none) #[true, true, true, true, true, true, true, true, true, true, true, true, true, true, true, true, true, true, false, false] rfl rfl (one_of HT_.out (by kernel_rfl)) (by decide) (fun K hK => ?_)
 have hs19 : w13.cell? ⟨gb355, 7, none⟩ = some (.slice A0_7 l0_7.length c0_7) := bc BK355 7
 have hfs19 := blk_frozen BK355.out 7
 have hns19_1 := NB356_355.out
 have hms19_1 := NB355_356.out
 refine skip_ (w1 := ?_) (by rfl) rfl ?_ ?_
 rotate_left
 ·go_simp
  rfl
 refine hK.out _ _ ?_
 clear hK K
 refine pz_ 18 18 ?_
 refine last_ (i := 19) (N := none) #[true, true, true, true, true, true, true, true, true, true, true, true, true, true, true, true, true, true, true, true] rfl rfl (one_of HT_.out (by kernel_rfl)) (by decide) (fun K hK => ?_)
 have hs21 : w13.cell? ⟨gb355, 8, none⟩ = some (.slice A0_8 l0_8.length c0_8) := bc BK355 8
 have hfs21 := blk_frozen BK355.out 8
 have hns21_1 := NB356_355.out
 have hms21_1 := NB355_356.out
 refine skip_ (w1 := ?_) (by rfl) rfl ?_ ?_
 rotate_left
 ·go_simp
  rfl
 refine hK.out _ _ ?_
 clear hK K
 refine done_ (done_of HT_.out (by kernel_rfl)) ?_
 have hnb22 := NB355_356.out
 have hnc22 := NB356_355.out
 have ⟨z23_0, z23_1, z23_2, z23_3, z23_4, z23_5, z23_6, z23_7, z23_8, v23_0, v23_1, v23_2, v23_3, v23_4, v23_5, v23_6, v23_7, v23_8⟩ := rz9 BK355
 try go_wp2_with (first | ((with_reducible refine gate_callee (f := 102) rfl ?_); refine gl (some 22) Try.func102 #[.slice A0_4 l0_4.length c0_4] ?_; (with_reducible refine (slices_Clone_int_int.calls _ _ l0_4 t369 _ ?side1 ?side2 A6.out).mono ?_); (case side1 => exact Kd.C_below HR0_4.out (bb HB)); (case side2 => exact HC0_4.out); rintro e w24 ⟨v370, rfl, ho0, hb⟩; refine ⟨_, rfl, ?_⟩; replace HO359 := kf HO359 BK355 hb; replace HO362 := kf HO362 BK355 hb; have HO371 := dk (Kd.R_lower (Kd.R_new' (Kd.R_new' ho0 (Kd.R_lt (rf HO365 BK355 (fun _ h_ => h_.1)))) (Kd.R_lt (rf HO368 BK355 (fun _ h_ => h_.1)))) (below_size (bb HB))); replace HO365 := dk (Kd.R_elder' (rf HO365 BK355 (fun _ h_ => h_.1)) (Kd.R_base ho0) hb); replace HO368 := dk (Kd.R_elder' (rf HO368 BK355 (fun _ h_ => h_.1)) (Kd.R_base ho0) hb); replace BK355 := dk (blk_below (g := gb355) (o := .cells #[.slice Ao14 t357.length co14, .int .i64 a0_1, .int .i64 a0_2, .int .i64 a0_3, .slice A0_4 l0_4.length c0_4, .bool a0_5, .slice Ao16 t360.length co16, .slice Ao18 t363.length co18, .slice Ao20 t366.length co20] 36 (0, 0)) (bp BK355) hb); replace BK356 := dk (blk_below (bf NB356_355.out BK356) hb); replace HB := hs_ HB hb; (try clear hb hb2 hk hi ho0); obtain ⟨Ao25, co25, eo25⟩ := Kd.R_slice HO371.out; subst eo25; have ⟨z26_0, z26_1, z26_2, z26_3, z26_4, z26_5, z26_6, z26_7, z26_8, v26_0, v26_1, v26_2, v26_3, v26_4, v26_5, v26_6, v26_7, v26_8⟩ := rz9 BK355; have ⟨z27_0, z27_1, z27_2, z27_3, z27_4, z27_5, z27_6, z27_7, z27_8, v27_0, v27_1, v27_2, v27_3, v27_4, v27_5, v27_6, v27_7, v27_8⟩ := rz9 BK356))
 refine bodyPost_ret (results_cell_row rfl _ _ gb356 36 #[.slice Ao14 t357.length co14, .int .i64 a0_1, .int .i64 a0_2, .int .i64 a0_3, .slice Ao25 t369.length co25, .bool a0_5, .slice Ao16 t360.length co16, .slice Ao18 t363.length co18, .slice Ao20 t366.length co20] (0, 0) _ rfl (by (with_reducible repeat (first | refine blk_drewN ?_ _ | refine blk_drew ?_ | refine blk_alloc ?_ _)); refine blk_put (cs := #[.slice Ao14 t357.length co14, .int .i64 a0_1, .int .i64 a0_2, .int .i64 a0_3, .slice Ao25 t369.length co25, .bool a0_5, .slice Ao16 t360.length co16, .slice Ao18 t363.length co18, .slice none 0 0]) ?_ 8 _ rfl; (with_reducible repeat (first | refine blk_drewN ?_ _ | refine blk_drew ?_ | refine blk_alloc ?_ _)); refine blk_put (cs := #[.slice Ao14 t357.length co14, .int .i64 a0_1, .int .i64 a0_2, .int .i64 a0_3, .slice Ao25 t369.length co25, .bool a0_5, .slice Ao16 t360.length co16, .slice none 0 0, .slice none 0 0]) ?_ 7 _ rfl; (with_reducible repeat (first | refine blk_drewN ?_ _ | refine blk_drew ?_ | refine blk_alloc ?_ _)); refine blk_put (cs := #[.slice Ao14 t357.length co14, .int .i64 a0_1, .int .i64 a0_2, .int .i64 a0_3, .slice Ao25 t369.length co25, .bool a0_5, .slice none 0 0, .slice none 0 0, .slice none 0 0]) ?_ 6 _ rfl; (with_reducible repeat (first | refine blk_drewN ?_ _ | refine blk_drew ?_ | refine blk_alloc ?_ _)); refine blk_put (cs := #[.slice Ao14 t357.length co14, .int .i64 a0_1, .int .i64 a0_2, .int .i64 a0_3, .slice Ao25 t369.length co25, .bool false, .slice none 0 0, .slice none 0 0, .slice none 0 0]) ?_ 5 _ rfl; (with_reducible repeat (first | refine blk_drewN ?_ _ | refine blk_drew ?_ | refine blk_alloc ?_ _)); refine blk_put (cs := #[.slice Ao14 t357.length co14, .int .i64 a0_1, .int .i64 a0_2, .int .i64 a0_3, .slice none 0 0, .bool false, .slice none 0 0, .slice none 0 0, .slice none 0 0]) ?_ 4 _ rfl; (with_reducible repeat (first | refine blk_drewN ?_ _ | refine blk_drew ?_ | refine blk_alloc ?_ _)); refine blk_put (cs := #[.slice Ao14 t357.length co14, .int .i64 a0_1, .int .i64 a0_2, .int .i64 0, .slice none 0 0, .bool false, .slice none 0 0, .slice none 0 0, .slice none 0 0]) ?_ 3 _ rfl; (with_reducible repeat (first | refine blk_drewN ?_ _ | refine blk_drew ?_ | refine blk_alloc ?_ _)); refine blk_put (cs := #[.slice Ao14 t357.length co14, .int .i64 a0_1, .int .i64 0, .int .i64 0, .slice none 0 0, .bool false, .slice none 0 0, .slice none 0 0, .slice none 0 0]) ?_ 2 _ rfl; (with_reducible repeat (first | refine blk_drewN ?_ _ | refine blk_drew ?_ | refine blk_alloc ?_ _)); refine blk_put (cs := #[.slice Ao14 t357.length co14, .int .i64 0, .int .i64 0, .int .i64 0, .slice none 0 0, .bool false, .slice none 0 0, .slice none 0 0, .slice none 0 0]) ?_ 1 _ rfl; (with_reducible repeat (first | refine blk_drewN ?_ _ | refine blk_drew ?_ | refine blk_alloc ?_ _)); refine blk_put (cs := #[.slice none 0 0, .int .i64 0, .int .i64 0, .int .i64 0, .slice none 0 0, .bool false, .slice none 0 0, .slice none 0 0, .slice none 0 0]) ?_ 0 _ rfl; exact bf NB356_355.out BK356) Try.underlying36 rfl (by kernel_rfl)) rfl ?_
 exact ⟨_, _, _, _, _, ee, by (with_reducible repeat (first | apply Kd.R_alloc | apply Kd.R_drewN | apply Kd.R_drew)); exact Kd.R_mono (Kd.R_far (p := ⟨gb356, 8, none⟩) (Kd.R_far (p := ⟨gb356, 7, none⟩) (Kd.R_far (p := ⟨gb356, 6, none⟩) (Kd.R_far (p := ⟨gb356, 5, none⟩) (Kd.R_far (p := ⟨gb356, 4, none⟩) (Kd.R_far (p := ⟨gb356, 3, none⟩) (Kd.R_far (p := ⟨gb356, 2, none⟩) (Kd.R_far (p := ⟨gb356, 1, none⟩) (Kd.R_far (p := ⟨gb356, 0, none⟩) (Kd.R_far (p := ⟨gb355, 4, none⟩) (Kd.R_types (Kd.R_types HO359.out BK355.out (by decide)) BK356.out (by decide)) (fun _ hk => hk.1.2) (.slice Ao25 t369.length co25)) (fun _ hk => hk.2) (.slice Ao14 t357.length co14)) (fun _ hk => hk.2) (.int .i64 a0_1)) (fun _ hk => hk.2) (.int .i64 a0_2)) (fun _ hk => hk.2) (.int .i64 a0_3)) (fun _ hk => hk.2) (.slice Ao25 t369.length co25)) (fun _ hk => hk.2) (.bool a0_5)) (fun _ hk => hk.2) (.slice Ao16 t360.length co16)) (fun _ hk => hk.2) (.slice Ao18 t363.length co18)) (fun _ hk => hk.2) (.slice Ao20 t366.length co20)) (fun _ hk => trivial), by (with_reducible repeat (first | apply Kd.R_alloc | apply Kd.R_drewN | apply Kd.R_drew)); exact Kd.R_mono (Kd.R_far (p := ⟨gb356, 8, none⟩) (Kd.R_far (p := ⟨gb356, 7, none⟩) (Kd.R_far (p := ⟨gb356, 6, none⟩) (Kd.R_far (p := ⟨gb356, 5, none⟩) (Kd.R_far (p := ⟨gb356, 4, none⟩) (Kd.R_far (p := ⟨gb356, 3, none⟩) (Kd.R_far (p := ⟨gb356, 2, none⟩) (Kd.R_far (p := ⟨gb356, 1, none⟩) (Kd.R_far (p := ⟨gb356, 0, none⟩) (Kd.R_far (p := ⟨gb355, 4, none⟩) (Kd.R_types (Kd.R_types HO371.out BK355.out (by decide)) BK356.out (by decide)) (fun _ hk => hk.1.2) (.slice Ao25 t369.length co25)) (fun _ hk => hk.2) (.slice Ao14 t357.length co14)) (fun _ hk => hk.2) (.int .i64 a0_1)) (fun _ hk => hk.2) (.int .i64 a0_2)) (fun _ hk => hk.2) (.int .i64 a0_3)) (fun _ hk => hk.2) (.slice Ao25 t369.length co25)) (fun _ hk => hk.2) (.bool a0_5)) (fun _ hk => hk.2) (.slice Ao16 t360.length co16)) (fun _ hk => hk.2) (.slice Ao18 t363.length co18)) (fun _ hk => hk.2) (.slice Ao20 t366.length co20)) (fun _ hk => ⟨hk.1.1.1.2, hk.1.1.2⟩), by (with_reducible repeat (first | apply Kd.R_alloc | apply Kd.R_drewN | apply Kd.R_drew)); exact Kd.R_mono (Kd.R_far (p := ⟨gb356, 8, none⟩) (Kd.R_far (p := ⟨gb356, 7, none⟩) (Kd.R_far (p := ⟨gb356, 6, none⟩) (Kd.R_far (p := ⟨gb356, 5, none⟩) (Kd.R_far (p := ⟨gb356, 4, none⟩) (Kd.R_far (p := ⟨gb356, 3, none⟩) (Kd.R_far (p := ⟨gb356, 2, none⟩) (Kd.R_far (p := ⟨gb356, 1, none⟩) (Kd.R_far (p := ⟨gb356, 0, none⟩) (Kd.R_far (p := ⟨gb355, 4, none⟩) (Kd.R_types (Kd.R_types HO362.out BK355.out (by decide)) BK356.out (by decide)) (fun _ hk => hk.1.2) (.slice Ao25 t369.length co25)) (fun _ hk => hk.2) (.slice Ao14 t357.length co14)) (fun _ hk => hk.2) (.int .i64 a0_1)) (fun _ hk => hk.2) (.int .i64 a0_2)) (fun _ hk => hk.2) (.int .i64 a0_3)) (fun _ hk => hk.2) (.slice Ao25 t369.length co25)) (fun _ hk => hk.2) (.bool a0_5)) (fun _ hk => hk.2) (.slice Ao16 t360.length co16)) (fun _ hk => hk.2) (.slice Ao18 t363.length co18)) (fun _ hk => hk.2) (.slice Ao20 t366.length co20)) (fun _ hk => trivial), by (with_reducible repeat (first | apply Kd.R_alloc | apply Kd.R_drewN | apply Kd.R_drew)); exact Kd.R_mono (Kd.R_far (p := ⟨gb356, 8, none⟩) (Kd.R_far (p := ⟨gb356, 7, none⟩) (Kd.R_far (p := ⟨gb356, 6, none⟩) (Kd.R_far (p := ⟨gb356, 5, none⟩) (Kd.R_far (p := ⟨gb356, 4, none⟩) (Kd.R_far (p := ⟨gb356, 3, none⟩) (Kd.R_far (p := ⟨gb356, 2, none⟩) (Kd.R_far (p := ⟨gb356, 1, none⟩) (Kd.R_far (p := ⟨gb356, 0, none⟩) (Kd.R_far (p := ⟨gb355, 4, none⟩) (Kd.R_types (Kd.R_types HO365.out BK355.out (by decide)) BK356.out (by decide)) (fun _ hk => hk.1.2) (.slice Ao25 t369.length co25)) (fun _ hk => hk.2) (.slice Ao14 t357.length co14)) (fun _ hk => hk.2) (.int .i64 a0_1)) (fun _ hk => hk.2) (.int .i64 a0_2)) (fun _ hk => hk.2) (.int .i64 a0_3)) (fun _ hk => hk.2) (.slice Ao25 t369.length co25)) (fun _ hk => hk.2) (.bool a0_5)) (fun _ hk => hk.2) (.slice Ao16 t360.length co16)) (fun _ hk => hk.2) (.slice Ao18 t363.length co18)) (fun _ hk => hk.2) (.slice Ao20 t366.length co20)) (fun _ hk => ⟨hk.1.1.2, hk.1.1.1.2⟩), by (with_reducible repeat (first | apply Kd.R_alloc | apply Kd.R_drewN | apply Kd.R_drew)); exact Kd.R_mono (Kd.R_far (p := ⟨gb356, 8, none⟩) (Kd.R_far (p := ⟨gb356, 7, none⟩) (Kd.R_far (p := ⟨gb356, 6, none⟩) (Kd.R_far (p := ⟨gb356, 5, none⟩) (Kd.R_far (p := ⟨gb356, 4, none⟩) (Kd.R_far (p := ⟨gb356, 3, none⟩) (Kd.R_far (p := ⟨gb356, 2, none⟩) (Kd.R_far (p := ⟨gb356, 1, none⟩) (Kd.R_far (p := ⟨gb356, 0, none⟩) (Kd.R_far (p := ⟨gb355, 4, none⟩) (Kd.R_types (Kd.R_types HO368.out BK355.out (by decide)) BK356.out (by decide)) (fun _ hk => hk.1.2) (.slice Ao25 t369.length co25)) (fun _ hk => hk.2) (.slice Ao14 t357.length co14)) (fun _ hk => hk.2) (.int .i64 a0_1)) (fun _ hk => hk.2) (.int .i64 a0_2)) (fun _ hk => hk.2) (.int .i64 a0_3)) (fun _ hk => hk.2) (.slice Ao25 t369.length co25)) (fun _ hk => hk.2) (.bool a0_5)) (fun _ hk => hk.2) (.slice Ao16 t360.length co16)) (fun _ hk => hk.2) (.slice Ao18 t363.length co18)) (fun _ hk => hk.2) (.slice Ao20 t366.length co20)) (fun _ hk => ⟨hk.1.1.2, hk.1.1.1.2⟩), bb HB⟩
def impl_plays.f (a0_0 : Int) (a0_1 : Int) (a0_2 : Int) (a0_3 : Int) (a0_4 : Int) (a1 : Int) : Option (Bool) := if a0_0 = a1 then (some true) else (some (a0_1 == a1))
theorem impl_plays.calls (a0_0 : Int) (a0_1 : Int) (a0_2 : Int) (a0_3 : Int) (a0_4 : Int) (a1 : Int) (r : Bool) (w : World) (h : impl_plays.f a0_0 a0_1 a0_2 a0_3 a0_4 a1 = some r) :
  Calls Try.prog 80 #[.agg #[.int .i64 a0_0, .int .i64 a0_1, .int .i64 a0_2, .int .i64 a0_3, .int .i64 a0_4], .int .i64 a1] w fun e w' => e = .returned (.bool r) ∧ Below w.heap.size w w' := by
 have hu95 := Try.underlying95
 have HB := dk (Below.refl w.heap.size w)
 have H : (if a0_0 = a1 then (some true) else (some (a0_1 == a1))) = some r := h
 clear h
 by_cases c3 : a0_0 = a1
 ·rw [if_pos c3] at H
  have c3b0 : (a0_0 == a1) = true := beq_iff_eq.mpr c3
  have c3b1 : (a0_0 != a1) = false := bne_eq_false_iff_eq.mpr c3
  clear c3
  obtain rfl := Option.some.inj H
  go_enter Try.func80, Try.ntmps80
  go_wp2_with (first | ((with_reducible refine gate_dst (N := 2) rfl ?_); refine bx (N := 2) (cs := #[.int .i64 a0_0, .int .i64 a0_1, .int .i64 a0_2, .int .i64 a0_3, .int .i64 a0_4]) (t := 95) ?_; intro gb372 hg w4 hbox hb; have BK372 := dk (hbox); have GW372 := gs hg HB; have GE372 := gs hg HB; replace HB := hs_ HB hb; clear hb hbox hg; have ⟨z5_0, z5_1, z5_2, z5_3, z5_4, v5_0, v5_1, v5_2, v5_3, v5_4⟩ := rz5 BK372))
  go_ret
  exact ⟨ee, bb HB⟩
 ·rw [if_neg c3] at H
  have c3b0 : (a0_0 == a1) = false := beq_eq_false_iff_ne.mpr c3
  have c3b1 : (a0_0 != a1) = true := bne_iff_ne.mpr c3
  obtain rfl := Option.some.inj H
  go_enter Try.func80, Try.ntmps80
  go_wp2_with (first | ((with_reducible refine gate_dst (N := 2) rfl ?_); refine bx (N := 2) (cs := #[.int .i64 a0_0, .int .i64 a0_1, .int .i64 a0_2, .int .i64 a0_3, .int .i64 a0_4]) (t := 95) ?_; intro gb372 hg w6 hbox hb; have BK372 := dk (hbox); have GW372 := gs hg HB; have GE372 := gs hg HB; replace HB := hs_ HB hb; clear hb hbox hg; have ⟨z7_0, z7_1, z7_2, z7_3, z7_4, v7_0, v7_1, v7_2, v7_3, v7_4⟩ := rz5 BK372))
  go_ret
  exact ⟨ee, bb HB⟩
def impl_ProtestOk.f (k : Nat) (l0_0 : List (S139)) (a0_1 : Int) (a0_2 : Int) (a0_3 : Int) (l0_4 : List Int) (a0_5 : Bool) (l0_6 : List (S95)) (l0_7 : List Int) (l0_8 : List Int) (a1_0 : Int) (a1_1 : Int) (a1_2 : Bool) : Option (Bool) := (impl_BookOk.f k l0_0 a0_1 a0_2 a0_3 l0_4 a0_5 l0_6 l0_7 l0_8).bind fun t375 => (if t375 = true then ((impl_within.f a1_1 0 (wrap64 ((l0_6.length : Int) - 1))).bind fun t376 => (if t376 = true then (if 0 ≤ a1_1 then (if a1_1 < (l0_6.length : Int) then ((impl_within.f ((rd_T95 l0_6 a1_1).f4) 1 3).bind fun t378 => (if t378 = true then ((impl_plays.f ((rd_T95 l0_6 a1_1).f0) ((rd_T95 l0_6 a1_1).f1) ((rd_T95 l0_6 a1_1).f2) ((rd_T95 l0_6 a1_1).f3) ((rd_T95 l0_6 a1_1).f4) a1_0).bind fun t380 => (some t380)) else (some false))) else (none)) else (none)) else (some false))) else (some false))
def impl_ProtestOk.T1 : Bool × List (List Nat × List Nat) := (true, [([], []), ([0], [0]), ([1, 1], [1]), ([2], [2]), ([3, 2], [2, 3]), ([2], [2]), ([5, 2], [2, 5]), ([6, 2], [2, 6]), ([7, 2], [2, 7]), ([4, 8, 2, 2], [2, 4, 8]), ([2, 9], [2, 9]), ([10, 9], [10]), ([11], [11]), ([12, 11], [11, 12]), ([11], [11]), ([14, 11], [11, 14]), ([13, 15, 11], [11, 13, 15]), ([16, 11], [11, 16]), ([17, 11], [11, 17]), ([18, 11, 11], [11, 18]), ([11, 19], [11, 19]), ([20, 19], [20]), ([21], [21]), ([22, 21], [21, 22]), ([21], [21]), ([24, 21], [21, 24]), ([23, 25, 21], [21, 23, 25]), ([26, 21], [21, 26]), ([21], [21]), ([28, 21], [21, 28]), ([27, 29, 21, 21], [21, 27, 29]), ([21, 30], [21, 30]), ([31, 30, 0, 1, 2, 3, 4, 5, 6, 7, 8, 9, 10, 11, 12, 13, 14, 15, 16, 17, 18, 19, 20, 21, 22, 23, 24, 25, 26, 27, 28, 29, 30, 31], [31])])
def impl_ProtestOk.B1 : List Nat := [0, 1, 3, 7, 15, 7, 39, 103, 231, 511, 1023, 2047, 4095, 8191, 4095, 20479, 65535, 131071, 262143, 524287, 1048575, 2097151, 4194303, 8388607, 4194303, 20971519, 67108863, 134217727, 4194303, 272629759, 1073741823, 2147483647, 4294967295]
theorem impl_ProtestOk.tab1 : rtab .any (opsOf Try.f63 1) = impl_ProtestOk.T1 := by kernel_rfl
theorem impl_ProtestOk.bits1 : waitsOk impl_ProtestOk.T1.2 impl_ProtestOk.B1 = true := by kernel_rfl
theorem impl_ProtestOk.calls (k : Nat) (A0_0 : Option Addr) (c0_0 : Nat) (l0_0 : List (S139)) (a0_1 : Int) (a0_2 : Int) (a0_3 : Int) (A0_4 : Option Addr) (c0_4 : Nat) (l0_4 : List Int) (a0_5 : Bool) (A0_6 : Option Addr) (c0_6 : Nat) (l0_6 : List (S95)) (A0_7 : Option Addr) (c0_7 : Nat) (l0_7 : List Int) (A0_8 : Option Addr) (c0_8 : Nat) (l0_8 : List Int) (a1_0 : Int) (a1_1 : Int) (a1_2 : Bool) (r : Bool) (w : World) (hr0_0 : Kd.C k139 w A0_0 l0_0.length l0_0) (hc0_0 : l0_0.length ≤ c0_0) (hr0_4 : Kd.C (Kd.int .i64) w A0_4 l0_4.length l0_4) (hc0_4 : l0_4.length ≤ c0_4) (hr0_6 : Kd.C k95 w A0_6 l0_6.length l0_6) (hc0_6 : l0_6.length ≤ c0_6) (hr0_7 : Kd.C (Kd.int .i64) w A0_7 l0_7.length l0_7) (hc0_7 : l0_7.length ≤ c0_7) (hr0_8 : Kd.C (Kd.int .i64) w A0_8 l0_8.length l0_8) (hc0_8 : l0_8.length ≤ c0_8) (h : impl_ProtestOk.f k l0_0 a0_1 a0_2 a0_3 l0_4 a0_5 l0_6 l0_7 l0_8 a1_0 a1_1 a1_2 = some r) :
  Calls Try.prog 63 #[.agg #[.slice A0_0 l0_0.length c0_0, .int .i64 a0_1, .int .i64 a0_2, .int .i64 a0_3, .slice A0_4 l0_4.length c0_4, .bool a0_5, .slice A0_6 l0_6.length c0_6, .slice A0_7 l0_7.length c0_7, .slice A0_8 l0_8.length c0_8], .agg #[.int .i64 a1_0, .int .i64 a1_1, .bool a1_2]] w fun e w' => e = .returned (.bool r) ∧ Below w.heap.size w w' := by
 have hu36 := Try.underlying36
 have hu50 := Try.underlying50
 have hu95 := Try.underlying95
 have HR0_0 := dk hr0_0
 have HC0_0 := dk hc0_0
 clear hr0_0 hc0_0
 have HR0_4 := dk hr0_4
 have HC0_4 := dk hc0_4
 clear hr0_4 hc0_4
 have HR0_6 := dk hr0_6
 have HC0_6 := dk hc0_6
 clear hr0_6 hc0_6
 have HR0_7 := dk hr0_7
 have HC0_7 := dk hc0_7
 clear hr0_7 hc0_7
 have HR0_8 := dk hr0_8
 have HC0_8 := dk hc0_8
 clear hr0_8 hc0_8
 have HB := dk (Below.refl w.heap.size w)
 have H : ((impl_BookOk.f k l0_0 a0_1 a0_2 a0_3 l0_4 a0_5 l0_6 l0_7 l0_8).bind fun t375 => (if t375 = true then ((impl_within.f a1_1 0 (wrap64 ((l0_6.length : Int) - 1))).bind fun t376 => (if t376 = true then (if 0 ≤ a1_1 then (if a1_1 < (l0_6.length : Int) then ((impl_within.f ((rd_T95 l0_6 a1_1).f4) 1 3).bind fun t378 => (if t378 = true then ((impl_plays.f ((rd_T95 l0_6 a1_1).f0) ((rd_T95 l0_6 a1_1).f1) ((rd_T95 l0_6 a1_1).f2) ((rd_T95 l0_6 a1_1).f3) ((rd_T95 l0_6 a1_1).f4) a1_0).bind fun t380 => (some t380)) else (some false))) else (none)) else (none)) else (some false))) else (some false))) = some r := h
 clear h
 replace H := Option.bind_eq_some_iff.mp H
 obtain ⟨t375, A30, H⟩ := H
 try dsimp only at H
 have A3 := dk A30
 clear A30
 by_cases c4 : t375 = true
 ·subst c4
  rw [if_pos rfl] at H
  replace H := Option.bind_eq_some_iff.mp H
  obtain ⟨t376, A50, H⟩ := H
  try dsimp only at H
  have A5 := dk A50
  clear A50
  by_cases c6 : t376 = true
  ·subst c6
   rw [if_pos rfl] at H
   by_cases c7 : 0 ≤ a1_1
   ·rw [if_pos c7] at H
    have c7b0 : decide (0 ≤ a1_1) = true := decide_eq_true c7
    clear c7
    by_cases c8 : a1_1 < (l0_6.length : Int)
    ·rw [if_pos c8] at H
     have c8b0 : decide (a1_1 < (l0_6.length : Int)) = true := decide_eq_true c8
     clear c8
     replace H := Option.bind_eq_some_iff.mp H
     obtain ⟨t378, A90, H⟩ := H
     try dsimp only at H
     have A9 := dk A90
     clear A90
     by_cases c10 : t378 = true
     ·subst c10
      rw [if_pos rfl] at H
      replace H := Option.bind_eq_some_iff.mp H
      obtain ⟨t380, A110, H⟩ := H
      try dsimp only at H
      have A11 := dk A110
      clear A110
      obtain rfl := Option.some.inj H
      go_enter Try.func63, Try.ntmps63
      try go_wp2_with (first | ((with_reducible refine gate_dst (N := 2) rfl ?_); (try (refine gate_guard (by rfl) ?_; dsimp only)); refine bx (N := 2) (cs := #[.slice A0_0 l0_0.length c0_0, .int .i64 a0_1, .int .i64 a0_2, .int .i64 a0_3, .slice A0_4 l0_4.length c0_4, .bool a0_5, .slice A0_6 l0_6.length c0_6, .slice A0_7 l0_7.length c0_7, .slice A0_8 l0_8.length c0_8]) (t := 36) ?_; intro gb373 hg w12 hbox hb; have BK373 := dk (hbox); have GW373 := gs hg HB; have GE373 := gs hg HB; replace HB := hs_ HB hb; clear hb hbox hg) | ((with_reducible refine gate_dst (N := 3) rfl ?_); (try (refine gate_guard (by rfl) ?_; dsimp only)); refine bx (N := 3) (cs := #[.int .i64 a1_0, .int .i64 a1_1, .bool a1_2]) (t := 50) ?_; intro gb374 hg w13 hbox hb; have BK374 := dk (hbox); have GW374 := gs hg HB; have GE374 := gs hg HB; replace HB := hs_ HB hb; have NB373_374 := gn hg BK373; have NB374_373 := gm hg BK373; replace BK373 := kb BK373 hb; clear hb hbox hg))
      replace BK373 := dk (blk_drew BK373.out)
      replace BK374 := dk (blk_drew BK374.out)
      replace HB := dk (below_drew1 HB.out)
      have p377 : 0 ≤ (a1_1 : Int) := oa
      have q377 : a1_1 < (l0_6.length : Int) := oa
      obtain ⟨ad377, e377, hx377_0, hx377_1, hx377_2, hx377_3, hx377_4⟩ := at_T95 HR0_6.out a1_1 p377 q377
      have hw377_4 := hx377_4
      have hw377_3 := hx377_3
      have hw377_2 := hx377_2
      have hw377_1 := hx377_1
      have hw377_0 := hx377_0
      cases e377
      replace hx377_0 := hc HB hx377_0
      replace hx377_1 := hc HB hx377_1
      replace hx377_2 := hc HB hx377_2
      replace hx377_3 := hc HB hx377_3
      replace hx377_4 := hc HB hx377_4
      replace p377 := eq_true p377
      replace q377 := eq_true q377
      have p379 : 0 ≤ (a1_1 : Int) := oa
      have q379 : a1_1 < (l0_6.length : Int) := oa
      obtain ⟨ad379, e379, hx379_0, hx379_1, hx379_2, hx379_3, hx379_4⟩ := at_T95 HR0_6.out a1_1 p379 q379
      have hw379_4 := hx379_4
      have hw379_3 := hx379_3
      have hw379_2 := hx379_2
      have hw379_1 := hx379_1
      have hw379_0 := hx379_0
      obtain rfl : ad377 = ad379 := (by injection e379)
      replace hx379_0 := hc HB hx379_0
      replace hx379_1 := hc HB hx379_1
      replace hx379_2 := hc HB hx379_2
      replace hx379_3 := hc HB hx379_3
      replace hx379_4 := hc HB hx379_4
      replace p379 := eq_true p379
      replace q379 := eq_true q379
      refine start_ (n := 33) (S := fun w' => w'.cell? ⟨gb373, 0, none⟩ = some (.slice A0_0 l0_0.length c0_0) ∧ w'.cell? ⟨gb373, 1, none⟩ = some (.int .i64 a0_1) ∧ w'.cell? ⟨gb373, 2, none⟩ = some (.int .i64 a0_2) ∧ w'.cell? ⟨gb373, 3, none⟩ = some (.int .i64 a0_3) ∧ w'.cell? ⟨gb373, 4, none⟩ = some (.slice A0_4 l0_4.length c0_4) ∧ w'.cell? ⟨gb373, 5, none⟩ = some (.bool a0_5) ∧ w'.cell? ⟨gb373, 6, none⟩ = some (.slice (some ad377) l0_6.length c0_6) ∧ w'.cell? ⟨gb373, 7, none⟩ = some (.slice A0_7 l0_7.length c0_7) ∧ w'.cell? ⟨gb373, 8, none⟩ = some (.slice A0_8 l0_8.length c0_8) ∧ w'.cell? ⟨gb374, 0, none⟩ = some (.int .i64 a1_0) ∧ w'.cell? ⟨gb374, 1, none⟩ = some (.int .i64 a1_1) ∧ w'.cell? ⟨gb374, 2, none⟩ = some (.bool a1_2) ∧ w'.cell? (ad377.add ((a1_1).toNat * 5)) = some (.int .i64 ((rd_T95 l0_6 a1_1).f0)) ∧ w'.cell? ⟨(ad377.add ((a1_1).toNat * 5)).block, (ad377.add ((a1_1).toNat * 5)).off + 1, none⟩ = some (.int .i64 ((rd_T95 l0_6 a1_1).f1)) ∧ w'.cell? ⟨(ad377.add ((a1_1).toNat * 5)).block, (ad377.add ((a1_1).toNat * 5)).off + 2, none⟩ = some (.int .i64 ((rd_T95 l0_6 a1_1).f2)) ∧ w'.cell? ⟨(ad377.add ((a1_1).toNat * 5)).block, (ad377.add ((a1_1).toNat * 5)).off + 3, none⟩ = some (.int .i64 ((rd_T95 l0_6 a1_1).f3)) ∧ w'.cell? ⟨(ad377.add ((a1_1).toNat * 5)).block, (ad377.add ((a1_1).toNat * 5)).off + 4, none⟩ = some (.int .i64 ((rd_T95 l0_6 a1_1).f4)) ∧ w'.cell? (ad377.add ((a1_1).toNat * 5)) = some (.int .i64 ((rd_T95 l0_6 a1_1).f0)) ∧ w'.cell? ⟨(ad377.add ((a1_1).toNat * 5)).block, (ad377.add ((a1_1).toNat * 5)).off + 1, none⟩ = some (.int .i64 ((rd_T95 l0_6 a1_1).f1)) ∧ w'.cell? ⟨(ad377.add ((a1_1).toNat * 5)).block, (ad377.add ((a1_1).toNat * 5)).off + 2, none⟩ = some (.int .i64 ((rd_T95 l0_6 a1_1).f2)) ∧ w'.cell? ⟨(ad377.add ((a1_1).toNat * 5)).block, (ad377.add ((a1_1).toNat * 5)).off + 3, none⟩ = some (.int .i64 ((rd_T95 l0_6 a1_1).f3)) ∧ w'.cell? ⟨(ad377.add ((a1_1).toNat * 5)).block, (ad377.add ((a1_1).toNat * 5)).off + 4, none⟩ = some (.int .i64 ((rd_T95 l0_6 a1_1).f4))) (ds := []) #[false, false, false, false, false, false, false, false, false, false, false, false, false, false, false, false, false, false, false, false, false, false, false, false, false, false, false, false, false, false, false, false, false] (by kernel_rfl) rfl rfl ⟨bc BK373 0, bc BK373 1, bc BK373 2, bc BK373 3, bc BK373 4, bc BK373 5, bc BK373 6, bc BK373 7, bc BK373 8, bc BK374 0, bc BK374 1, bc BK374 2, (hc HB hw377_0), (hc HB hw377_1), (hc HB hw377_2), (hc HB hw377_3), (hc HB hw377_4), (hc HB hw379_0), (hc HB hw379_1), (hc HB hw379_2), (hc HB hw379_3), (hc HB hw379_4)⟩ (fun hHeld => ?_); refine with_tabW impl_ProtestOk.tab1 impl_ProtestOk.bits1 (fun HT_ HW_ => ?_)
      generalize w13.drew = w14 at BK373 BK374 HB hx377_0 hx377_1 hx377_2 hx377_3 hx377_4 hx379_0 hx379_1 hx379_2 hx379_3 hx379_4 hHeld ⊢
      refine take_ (i := 0) (N := some 5) (v := ?_) (a' := ?_) #[true, false, false, false, false, false, false, false, false, false, false, false, false, false, false, false, false, false, false, false, false, false, false, false, false, false, false, false, false, false, false, false, false] rfl rfl (take_ofW HT_.out HW_.out (by kernel_rfl)) (fun _ _ _ h => h) (Or.inl ⟨by rfl, ?_⟩) hHeld ?_ ?_
      rotate_left
      ·rintro w' ⟨s0, s1, s2, s3, s4, s5, s6, s7, s8, s9, s10, s11, s12, s13, s14, s15, s16, s17, s18, s19, s20, s21⟩
       go_simp
       with_reducible rfl
      rotate_left
      ·simp only [Act.put, List.setIfInBounds_toArray, List.set_cons_zero, List.set_cons_succ, i64_w, i32_w]
       rfl
      refine one_ (i := 1) (N := some 6) #[true, true, false, false, false, false, false, false, false, false, false, false, false, false, false, false, false, false, false, false, false, false, false, false, false, false, false, false, false, false, false, false, false] rfl rfl (one_of HT_.out (by kernel_rfl)) (by decide) (fun K hK => ?_)
      refine goes_ Try.func61 (by kernel_rfl) rfl #[.agg #[.slice A0_0 l0_0.length c0_0, .int .i64 a0_1, .int .i64 a0_2, .int .i64 a0_3, .slice A0_4 l0_4.length c0_4, .bool a0_5, .slice (some ad377) l0_6.length c0_6, .slice A0_7 l0_7.length c0_7, .slice A0_8 l0_8.length c0_8]] (by rfl) rfl rfl (by (try simp only [List.map_toArray, List.map_cons, List.map_nil]); first | done | rfl | (simp only [List.length_drop, List.length_take]; rfl)) ?_
      with_reducible refine (impl_BookOk.calls k _ _ l0_0 a0_1 a0_2 a0_3 _ _ l0_4 a0_5 _ _ l0_6 _ _ l0_7 _ _ l0_8 true _ ?side1 ?side2 ?side3 ?side4 ?side5 ?side6 ?side7 ?side8 ?side9 ?side10 A3.out).mono ?_
      (case side1 => exact cc HR0_0 HB)
      (case side2 => exact HC0_0.out)
      (case side3 => exact cc HR0_4 HB)
      (case side4 => exact HC0_4.out)
      (case side5 => exact cc HR0_6 HB)
      (case side6 => exact HC0_6.out)
      (case side7 => exact cc HR0_7 HB)
      (case side8 => exact HC0_7.out)
      (case side9 => exact cc HR0_8 HB)
      (case side10 => exact HC0_8.out)
      rintro e w15 ⟨rfl, hb⟩
      refine ⟨_, rfl, ?_⟩
      replace BK373 := kb BK373 hb
      replace BK374 := kb BK374 hb
      replace HB := hs_ HB hb
      (try clear hb hb2 hk hi)
      refine hK.out _ _ ⟨bc BK373 0, bc BK373 1, bc BK373 2, bc BK373 3, bc BK373 4, bc BK373 5, bc BK373 6, bc BK373 7, bc BK373 8, bc BK374 0, bc BK374 1, bc BK374 2, (hc HB hw377_0), (hc HB hw377_1), (hc HB hw377_2), (hc HB hw377_3), (hc HB hw377_4), (hc HB hw379_0), (hc HB hw379_1), (hc HB hw379_2), (hc HB hw379_3), (hc HB hw379_4)⟩ (fun hHeld => ?_)
      clear hK K
      refine norm_ (a' := ?_) ?_ ?_
      rotate_left
      ·show Act.put _ (some 6) _ = _
       simp only [Act.put, List.setIfInBounds_toArray, List.set_cons_zero, List.set_cons_succ, i64_w, i32_w]
       rfl
      refine pz_ 2 7 ?_
      refine pz_ 3 8 ?_
      refine pz_ 5 10 ?_
      refine take_ (i := 4) (N := some 9) (v := ?_) (a' := ?_) #[true, true, true, true, true, true, false, false, false, false, false, false, false, false, false, false, false, false, false, false, false, false, false, false, false, false, false, false, false, false, false, false, false] rfl rfl (take_ofW HT_.out HW_.out (by kernel_rfl)) (fun _ _ _ h => h) (Or.inl ⟨by rfl, ?_⟩) hHeld ?_ ?_
      rotate_left
      ·rintro w' ⟨s0, s1, s2, s3, s4, s5, s6, s7, s8, s9, s10, s11, s12, s13, s14, s15, s16, s17, s18, s19, s20, s21⟩
       go_simp
       with_reducible rfl
      rotate_left
      ·simp only [Act.put, List.setIfInBounds_toArray, List.set_cons_zero, List.set_cons_succ, i64_w, i32_w]
       rfl
      refine take_ (i := 6) (N := some 11) (v := ?_) (a' := ?_) #[true, true, true, true, true, true, true, false, false, false, false, false, false, false, false, false, false, false, false, false, false, false, false, false, false, false, false, false, false, false, false, false, false] rfl rfl (take_ofW HT_.out HW_.out (by kernel_rfl)) (fun _ _ _ h => h) (Or.inl ⟨by rfl, ?_⟩) hHeld ?_ ?_
      rotate_left
      ·rintro w' ⟨s0, s1, s2, s3, s4, s5, s6, s7, s8, s9, s10, s11, s12, s13, s14, s15, s16, s17, s18, s19, s20, s21⟩
       go_simp
       with_reducible rfl
      rotate_left
      ·simp only [Act.put, List.setIfInBounds_toArray, List.set_cons_zero, List.set_cons_succ, i64_w, i32_w]
       rfl
      refine pz_ 7 12 ?_
      refine pz_ 8 13 ?_
      refine one_ (i := 9) (N := some 14) #[true, true, true, true, true, true, true, true, true, true, false, false, false, false, false, false, false, false, false, false, false, false, false, false, false, false, false, false, false, false, false, false, false] rfl rfl (one_of HT_.out (by kernel_rfl)) (by decide) (fun K hK => ?_)
      refine goes_ Try.func128 (by kernel_rfl) rfl #[.int .i64 a1_1, .int .i64 0, .int .i64 (wrap64 ((l0_6.length : Int) - 1))] (by rfl) rfl rfl (by (try simp only [List.map_toArray, List.map_cons, List.map_nil]); first | done | rfl | (simp only [List.length_drop, List.length_take]; rfl)) ?_
      with_reducible refine (impl_within.calls a1_1 0 (wrap64 ((l0_6.length : Int) - 1)) true _ A5.out).mono ?_
      rintro e w' ⟨rfl, ⟨nd, rfl⟩⟩
      refine ⟨_, rfl, ?_⟩
      refine hK.out _ _ ⟨bc BK373 0, bc BK373 1, bc BK373 2, bc BK373 3, bc BK373 4, bc BK373 5, bc BK373 6, bc BK373 7, bc BK373 8, bc BK374 0, bc BK374 1, bc BK374 2, (hc HB hw377_0), (hc HB hw377_1), (hc HB hw377_2), (hc HB hw377_3), (hc HB hw377_4), (hc HB hw379_0), (hc HB hw379_1), (hc HB hw379_2), (hc HB hw379_3), (hc HB hw379_4)⟩ (fun hHeld => ?_)
      clear hK K
      refine norm_ (a' := ?_) ?_ ?_
      rotate_left
      ·show Act.put _ (some 14) _ = _
       simp only [Act.put, List.setIfInBounds_toArray, List.set_cons_zero, List.set_cons_succ, i64_w, i32_w]
       rfl
      refine pz_ 10 15 ?_
      refine pz_ 11 16 ?_
      refine pz_ 12 17 ?_
      refine pz_ 14 19 ?_
      refine take_ (i := 13) (N := some 18) (v := ?_) (a' := ?_) #[true, true, true, true, true, true, true, true, true, true, true, true, true, true, true, false, false, false, false, false, false, false, false, false, false, false, false, false, false, false, false, false, false] rfl rfl (take_ofW HT_.out HW_.out (by kernel_rfl)) (fun _ _ _ h => h) (Or.inl ⟨by rfl, ?_⟩) hHeld ?_ ?_
      rotate_left
      ·rintro w' ⟨s0, s1, s2, s3, s4, s5, s6, s7, s8, s9, s10, s11, s12, s13, s14, s15, s16, s17, s18, s19, s20, s21⟩
       go_simp
       with_reducible rfl
      rotate_left
      ·simp only [Act.put, List.setIfInBounds_toArray, List.set_cons_zero, List.set_cons_succ, i64_w, i32_w]
       rfl
      refine take_ (i := 15) (N := some 20) (v := ?_) (a' := ?_) #[true, true, true, true, true, true, true, true, true, true, true, true, true, true, true, true, false, false, false, false, false, false, false, false, false, false, false, false, false, false, false, false, false] rfl rfl (take_ofW HT_.out HW_.out (by kernel_rfl)) (fun _ _ _ h => h) (Or.inl ⟨by rfl, ?_⟩) hHeld ?_ ?_
      rotate_left
      ·rintro w' ⟨s0, s1, s2, s3, s4, s5, s6, s7, s8, s9, s10, s11, s12, s13, s14, s15, s16, s17, s18, s19, s20, s21⟩
       go_simp
       with_reducible rfl
      rotate_left
      ·simp only [Act.put, List.setIfInBounds_toArray, List.set_cons_zero, List.set_cons_succ, i64_w, i32_w]
       rfl
      refine pz_ 16 21 ?_
      refine pz_ 17 22 ?_
      refine take_ (i := 18) (N := some 23) (v := ?_) (a' := ?_) #[true, true, true, true, true, true, true, true, true, true, true, true, true, true, true, true, true, true, true, false, false, false, false, false, false, false, false, false, false, false, false, false, false] rfl rfl (take_ofW HT_.out HW_.out (by kernel_rfl)) (fun _ _ _ h => h) (Or.inl ⟨by rfl, ?_⟩) hHeld ?_ ?_
      rotate_left
      ·rintro w' ⟨s0, s1, s2, s3, s4, s5, s6, s7, s8, s9, s10, s11, s12, s13, s14, s15, s16, s17, s18, s19, s20, s21⟩
       go_simp
       with_reducible rfl
      rotate_left
      ·simp only [Act.put, List.setIfInBounds_toArray, List.set_cons_zero, List.set_cons_succ, i64_w, i32_w]
       rfl
      refine one_ (i := 19) (N := some 24) #[true, true, true, true, true, true, true, true, true, true, true, true, true, true, true, true, true, true, true, true, false, false, false, false, false, false, false, false, false, false, false, false, false] rfl rfl (one_of HT_.out (by kernel_rfl)) (by decide) (fun K hK => ?_)
      refine goes_ Try.func128 (by kernel_rfl) rfl #[.int .i64 ((rd_T95 l0_6 a1_1).f4), .int .i64 1, .int .i64 3] (by rfl) rfl rfl (by (try simp only [List.map_toArray, List.map_cons, List.map_nil]); first | done | rfl | (simp only [List.length_drop, List.length_take]; rfl)) ?_
      with_reducible refine (impl_within.calls ((rd_T95 l0_6 a1_1).f4) 1 3 true _ A9.out).mono ?_
      rintro e w' ⟨rfl, ⟨nd, rfl⟩⟩
      refine ⟨_, rfl, ?_⟩
      refine hK.out _ _ ⟨bc BK373 0, bc BK373 1, bc BK373 2, bc BK373 3, bc BK373 4, bc BK373 5, bc BK373 6, bc BK373 7, bc BK373 8, bc BK374 0, bc BK374 1, bc BK374 2, (hc HB hw377_0), (hc HB hw377_1), (hc HB hw377_2), (hc HB hw377_3), (hc HB hw377_4), (hc HB hw379_0), (hc HB hw379_1), (hc HB hw379_2), (hc HB hw379_3), (hc HB hw379_4)⟩ (fun hHeld => ?_)
      clear hK K
      refine norm_ (a' := ?_) ?_ ?_
      rotate_left
      ·show Act.put _ (some 24) _ = _
       simp only [Act.put, List.setIfInBounds_toArray, List.set_cons_zero, List.set_cons_succ, i64_w, i32_w]
       rfl
      refine pz_ 20 25 ?_
      refine pz_ 21 26 ?_
      refine pz_ 22 27 ?_
      refine pz_ 24 29 ?_
      refine pz_ 28 33 ?_
      refine take_ (i := 23) (N := some 28) (v := ?_) (a' := ?_) #[true, true, true, true, true, true, true, true, true, true, true, true, true, true, true, true, true, true, true, true, true, true, true, true, true, false, false, false, true, false, false, false, false] rfl rfl (take_ofW HT_.out HW_.out (by kernel_rfl)) (fun _ _ _ h => h) (Or.inl ⟨by rfl, ?_⟩) hHeld ?_ ?_
      rotate_left
      ·rintro w' ⟨s0, s1, s2, s3, s4, s5, s6, s7, s8, s9, s10, s11, s12, s13, s14, s15, s16, s17, s18, s19, s20, s21⟩
       go_simp
       with_reducible rfl
      rotate_left
      ·simp only [Act.put, List.setIfInBounds_toArray, List.set_cons_zero, List.set_cons_succ, i64_w, i32_w]
       rfl
      refine take_ (i := 25) (N := some 30) (v := ?_) (a' := ?_) #[true, true, true, true, true, true, true, true, true, true, true, true, true, true, true, true, true, true, true, true, true, true, true, true, true, true, false, false, true, false, false, false, false] rfl rfl (take_ofW HT_.out HW_.out (by kernel_rfl)) (fun _ _ _ h => h) (Or.inl ⟨by rfl, ?_⟩) hHeld ?_ ?_
      rotate_left
      ·rintro w' ⟨s0, s1, s2, s3, s4, s5, s6, s7, s8, s9, s10, s11, s12, s13, s14, s15, s16, s17, s18, s19, s20, s21⟩
       go_simp
       with_reducible rfl
      rotate_left
      ·simp only [Act.put, List.setIfInBounds_toArray, List.set_cons_zero, List.set_cons_succ, i64_w, i32_w]
       rfl
      refine pz_ 26 31 ?_
      refine take_ (i := 27) (N := some 32) (v := ?_) (a' := ?_) #[true, true, true, true, true, true, true, true, true, true, true, true, true, true, true, true, true, true, true, true, true, true, true, true, true, true, true, true, true, false, false, false, false] rfl rfl (take_ofW HT_.out HW_.out (by kernel_rfl)) (fun _ _ _ h => h) (Or.inl ⟨by rfl, ?_⟩) hHeld ?_ ?_
      rotate_left
      ·rintro w' ⟨s0, s1, s2, s3, s4, s5, s6, s7, s8, s9, s10, s11, s12, s13, s14, s15, s16, s17, s18, s19, s20, s21⟩
       go_simp
       with_reducible rfl
      rotate_left
      ·simp only [Act.put, List.setIfInBounds_toArray, List.set_cons_zero, List.set_cons_succ, i64_w, i32_w]
       rfl
      refine take_ (i := 29) (N := some 34) (v := ?_) (a' := ?_) #[true, true, true, true, true, true, true, true, true, true, true, true, true, true, true, true, true, true, true, true, true, true, true, true, true, true, true, true, true, true, false, false, false] rfl rfl (take_ofW HT_.out HW_.out (by kernel_rfl)) (fun _ _ _ h => h) (Or.inl ⟨by rfl, ?_⟩) hHeld ?_ ?_
      rotate_left
      ·rintro w' ⟨s0, s1, s2, s3, s4, s5, s6, s7, s8, s9, s10, s11, s12, s13, s14, s15, s16, s17, s18, s19, s20, s21⟩
       go_simp
       with_reducible rfl
      rotate_left
      ·simp only [Act.put, List.setIfInBounds_toArray, List.set_cons_zero, List.set_cons_succ, i64_w, i32_w]
       rfl
      refine one_ (i := 30) (N := some 35) #[true, true, true, true, true, true, true, true, true, true, true, true, true, true, true, true, true, true, true, true, true, true, true, true, true, true, true, true, true, true, true, false, false] rfl rfl (one_of HT_.out (by kernel_rfl)) (by decide) (fun K hK => ?_)
      refine goes_ Try.func80 (by kernel_rfl) rfl #[.agg #[.int .i64 ((rd_T95 l0_6 a1_1).f0), .int .i64 ((rd_T95 l0_6 a1_1).f1), .int .i64 ((rd_T95 l0_6 a1_1).f2), .int .i64 ((rd_T95 l0_6 a1_1).f3), .int .i64 ((rd_T95 l0_6 a1_1).f4)], .int .i64 a1_0] (by rfl) rfl rfl (by (try simp only [List.map_toArray, List.map_cons, List.map_nil]); first | done | rfl | (simp only [List.length_drop, List.length_take]; rfl)) ?_
      with_reducible refine (impl_plays.calls ((rd_T95 l0_6 a1_1).f0) ((rd_T95 l0_6 a1_1).f1) ((rd_T95 l0_6 a1_1).f2) ((rd_T95 l0_6 a1_1).f3) ((rd_T95 l0_6 a1_1).f4) a1_0 t380 _ A11.out).mono ?_
      rintro e w16 ⟨rfl, hb⟩
      refine ⟨_, rfl, ?_⟩
      replace BK373 := kb BK373 hb
      replace BK374 := kb BK374 hb
      replace HB := hs_ HB hb
      (try clear hb hb2 hk hi)
      refine hK.out _ _ ⟨bc BK373 0, bc BK373 1, bc BK373 2, bc BK373 3, bc BK373 4, bc BK373 5, bc BK373 6, bc BK373 7, bc BK373 8, bc BK374 0, bc BK374 1, bc BK374 2, (hc HB hw377_0), (hc HB hw377_1), (hc HB hw377_2), (hc HB hw377_3), (hc HB hw377_4), (hc HB hw379_0), (hc HB hw379_1), (hc HB hw379_2), (hc HB hw379_3), (hc HB hw379_4)⟩ (fun hHeld => ?_)
      clear hK K
      refine norm_ (a' := ?_) ?_ ?_
      rotate_left
      ·show Act.put _ (some 35) _ = _
       simp only [Act.put, List.setIfInBounds_toArray, List.set_cons_zero, List.set_cons_succ, i64_w, i32_w]
       rfl
      refine pz_ 31 36 ?_
      refine pz_ 32 4 ?_
      refine done_ (done_of HT_.out (by kernel_rfl)) ?_
      try go_wp2
      go_ret
      exact ⟨ee, bb HB⟩
     ·replace c10 := Bool.eq_false_iff.mpr c10
      subst c10
      rw [if_neg (show ¬ (false = true) by decide)] at H
      obtain rfl := Option.some.inj H
      go_enter Try.func63, Try.ntmps63
      try go_wp2_with (first | ((with_reducible refine gate_dst (N := 2) rfl ?_); (try (refine gate_guard (by rfl) ?_; dsimp only)); refine bx (N := 2) (cs := #[.slice A0_0 l0_0.length c0_0, .int .i64 a0_1, .int .i64 a0_2, .int .i64 a0_3, .slice A0_4 l0_4.length c0_4, .bool a0_5, .slice A0_6 l0_6.length c0_6, .slice A0_7 l0_7.length c0_7, .slice A0_8 l0_8.length c0_8]) (t := 36) ?_; intro gb373 hg w17 hbox hb; have BK373 := dk (hbox); have GW373 := gs hg HB; have GE373 := gs hg HB; replace HB := hs_ HB hb; clear hb hbox hg) | ((with_reducible refine gate_dst (N := 3) rfl ?_); (try (refine gate_guard (by rfl) ?_; dsimp only)); refine bx (N := 3) (cs := #[.int .i64 a1_0, .int .i64 a1_1, .bool a1_2]) (t := 50) ?_; intro gb374 hg w18 hbox hb; have BK374 := dk (hbox); have GW374 := gs hg HB; have GE374 := gs hg HB; replace HB := hs_ HB hb; have NB373_374 := gn hg BK373; have NB374_373 := gm hg BK373; replace BK373 := kb BK373 hb; clear hb hbox hg))
      replace BK373 := dk (blk_drew BK373.out)
      replace BK374 := dk (blk_drew BK374.out)
      replace HB := dk (below_drew1 HB.out)
      have p377 : 0 ≤ (a1_1 : Int) := oa
      have q377 : a1_1 < (l0_6.length : Int) := oa
      obtain ⟨ad377, e377, hx377_0, hx377_1, hx377_2, hx377_3, hx377_4⟩ := at_T95 HR0_6.out a1_1 p377 q377
      have hw377_4 := hx377_4
      have hw377_3 := hx377_3
      have hw377_2 := hx377_2
      have hw377_1 := hx377_1
      have hw377_0 := hx377_0
      cases e377
      replace hx377_0 := hc HB hx377_0
      replace hx377_1 := hc HB hx377_1
      replace hx377_2 := hc HB hx377_2
      replace hx377_3 := hc HB hx377_3
      replace hx377_4 := hc HB hx377_4
      replace p377 := eq_true p377
      replace q377 := eq_true q377
      refine start_ (n := 33) (S := fun w' => w'.cell? ⟨gb373, 0, none⟩ = some (.slice A0_0 l0_0.length c0_0) ∧ w'.cell? ⟨gb373, 1, none⟩ = some (.int .i64 a0_1) ∧ w'.cell? ⟨gb373, 2, none⟩ = some (.int .i64 a0_2) ∧ w'.cell? ⟨gb373, 3, none⟩ = some (.int .i64 a0_3) ∧ w'.cell? ⟨gb373, 4, none⟩ = some (.slice A0_4 l0_4.length c0_4) ∧ w'.cell? ⟨gb373, 5, none⟩ = some (.bool a0_5) ∧ w'.cell? ⟨gb373, 6, none⟩ = some (.slice (some ad377) l0_6.length c0_6) ∧ w'.cell? ⟨gb373, 7, none⟩ = some (.slice A0_7 l0_7.length c0_7) ∧ w'.cell? ⟨gb373, 8, none⟩ = some (.slice A0_8 l0_8.length c0_8) ∧ w'.cell? ⟨gb374, 0, none⟩ = some (.int .i64 a1_0) ∧ w'.cell? ⟨gb374, 1, none⟩ = some (.int .i64 a1_1) ∧ w'.cell? ⟨gb374, 2, none⟩ = some (.bool a1_2) ∧ w'.cell? (ad377.add ((a1_1).toNat * 5)) = some (.int .i64 ((rd_T95 l0_6 a1_1).f0)) ∧ w'.cell? ⟨(ad377.add ((a1_1).toNat * 5)).block, (ad377.add ((a1_1).toNat * 5)).off + 1, none⟩ = some (.int .i64 ((rd_T95 l0_6 a1_1).f1)) ∧ w'.cell? ⟨(ad377.add ((a1_1).toNat * 5)).block, (ad377.add ((a1_1).toNat * 5)).off + 2, none⟩ = some (.int .i64 ((rd_T95 l0_6 a1_1).f2)) ∧ w'.cell? ⟨(ad377.add ((a1_1).toNat * 5)).block, (ad377.add ((a1_1).toNat * 5)).off + 3, none⟩ = some (.int .i64 ((rd_T95 l0_6 a1_1).f3)) ∧ w'.cell? ⟨(ad377.add ((a1_1).toNat * 5)).block, (ad377.add ((a1_1).toNat * 5)).off + 4, none⟩ = some (.int .i64 ((rd_T95 l0_6 a1_1).f4))) (ds := []) #[false, false, false, false, false, false, false, false, false, false, false, false, false, false, false, false, false, false, false, false, false, false, false, false, false, false, false, false, false, false, false, false, false] (by kernel_rfl) rfl rfl ⟨bc BK373 0, bc BK373 1, bc BK373 2, bc BK373 3, bc BK373 4, bc BK373 5, bc BK373 6, bc BK373 7, bc BK373 8, bc BK374 0, bc BK374 1, bc BK374 2, (hc HB hw377_0), (hc HB hw377_1), (hc HB hw377_2), (hc HB hw377_3), (hc HB hw377_4)⟩ (fun hHeld => ?_); refine with_tabW impl_ProtestOk.tab1 impl_ProtestOk.bits1 (fun HT_ HW_ => ?_)
      generalize w18.drew = w19 at BK373 BK374 HB hx377_0 hx377_1 hx377_2 hx377_3 hx377_4 hHeld ⊢
      refine take_ (i := 0) (N := some 5) (v := ?_) (a' := ?_) #[true, false, false, false, false, false, false, false, false, false, false, false, false, false, false, false, false, false, false, false, false, false, false, false, false, false, false, false, false, false, false, false, false] rfl rfl (take_ofW HT_.out HW_.out (by kernel_rfl)) (fun _ _ _ h => h) (Or.inl ⟨by rfl, ?_⟩) hHeld ?_ ?_
      rotate_left
      ·rintro w' ⟨s0, s1, s2, s3, s4, s5, s6, s7, s8, s9, s10, s11, s12, s13, s14, s15, s16⟩
       go_simp
       with_reducible rfl
      rotate_left
      ·simp only [Act.put, List.setIfInBounds_toArray, List.set_cons_zero, List.set_cons_succ, i64_w, i32_w]
       rfl
      refine one_ (i := 1) (N := some 6) #[true, true, false, false, false, false, false, false, false, false, false, false, false, false, false, false, false, false, false, false, false, false, false, false, false, false, false, false, false, false, false, false, false] rfl rfl (one_of HT_.out (by kernel_rfl)) (by decide) (fun K hK => ?_)
      refine goes_ Try.func61 (by kernel_rfl) rfl #[.agg #[.slice A0_0 l0_0.length c0_0, .int .i64 a0_1, .int .i64 a0_2, .int .i64 a0_3, .slice A0_4 l0_4.length c0_4, .bool a0_5, .slice (some ad377) l0_6.length c0_6, .slice A0_7 l0_7.length c0_7, .slice A0_8 l0_8.length c0_8]] (by rfl) rfl rfl (by (try simp only [List.map_toArray, List.map_cons, List.map_nil]); first | done | rfl | (simp only [List.length_drop, List.length_take]; rfl)) ?_
      with_reducible refine (impl_BookOk.calls k _ _ l0_0 a0_1 a0_2 a0_3 _ _ l0_4 a0_5 _ _ l0_6 _ _ l0_7 _ _ l0_8 true _ ?side1 ?side2 ?side3 ?side4 ?side5 ?side6 ?side7 ?side8 ?side9 ?side10 A3.out).mono ?_
      (case side1 => exact cc HR0_0 HB)
      (case side2 => exact HC0_0.out)
      (case side3 => exact cc HR0_4 HB)
      (case side4 => exact HC0_4.out)
      (case side5 => exact cc HR0_6 HB)
      (case side6 => exact HC0_6.out)
      (case side7 => exact cc HR0_7 HB)
      (case side8 => exact HC0_7.out)
      (case side9 => exact cc HR0_8 HB)
      (case side10 => exact HC0_8.out)
      rintro e w20 ⟨rfl, hb⟩
      refine ⟨_, rfl, ?_⟩
      replace BK373 := kb BK373 hb
      replace BK374 := kb BK374 hb
      replace HB := hs_ HB hb
      (try clear hb hb2 hk hi)
      refine hK.out _ _ ⟨bc BK373 0, bc BK373 1, bc BK373 2, bc BK373 3, bc BK373 4, bc BK373 5, bc BK373 6, bc BK373 7, bc BK373 8, bc BK374 0, bc BK374 1, bc BK374 2, (hc HB hw377_0), (hc HB hw377_1), (hc HB hw377_2), (hc HB hw377_3), (hc HB hw377_4)⟩ (fun hHeld => ?_)
      clear hK K
      refine norm_ (a' := ?_) ?_ ?_
      rotate_left
      ·show Act.put _ (some 6) _ = _
       simp only [Act.put, List.setIfInBounds_toArray, List.set_cons_zero, List.set_cons_succ, i64_w, i32_w]
       rfl
      refine pz_ 2 7 ?_
      refine pz_ 3 8 ?_
      refine pz_ 5 10 ?_
      refine take_ (i := 4) (N := some 9) (v := ?_) (a' := ?_) #[true, true, true, true, true, true, false, false, false, false, false, false, false, false, false, false, false, false, false, false, false, false, false, false, false, false, false, false, false, false, false, false, false] rfl rfl (take_ofW HT_.out HW_.out (by kernel_rfl)) (fun _ _ _ h => h) (Or.inl ⟨by rfl, ?_⟩) hHeld ?_ ?_
      rotate_left
      ·rintro w' ⟨s0, s1, s2, s3, s4, s5, s6, s7, s8, s9, s10, s11, s12, s13, s14, s15, s16⟩
       go_simp
       with_reducible rfl
      rotate_left
      ·simp only [Act.put, List.setIfInBounds_toArray, List.set_cons_zero, List.set_cons_succ, i64_w, i32_w]
       rfl
      refine take_ (i := 6) (N := some 11) (v := ?_) (a' := ?_) #[true, true, true, true, true, true, true, false, false, false, false, false, false, false, false, false, false, false, false, false, false, false, false, false, false, false, false, false, false, false, false, false, false] rfl rfl (take_ofW HT_.out HW_.out (by kernel_rfl)) (fun _ _ _ h => h) (Or.inl ⟨by rfl, ?_⟩) hHeld ?_ ?_
      rotate_left
      ·rintro w' ⟨s0, s1, s2, s3, s4, s5, s6, s7, s8, s9, s10, s11, s12, s13, s14, s15, s16⟩
       go_simp
       with_reducible rfl
      rotate_left
      ·simp only [Act.put, List.setIfInBounds_toArray, List.set_cons_zero, List.set_cons_succ, i64_w, i32_w]
       rfl
      refine pz_ 7 12 ?_
      refine pz_ 8 13 ?_
      refine one_ (i := 9) (N := some 14) #[true, true, true, true, true, true, true, true, true, true, false, false, false, false, false, false, false, false, false, false, false, false, false, false, false, false, false, false, false, false, false, false, false] rfl rfl (one_of HT_.out (by kernel_rfl)) (by decide) (fun K hK => ?_)
      refine goes_ Try.func128 (by kernel_rfl) rfl #[.int .i64 a1_1, .int .i64 0, .int .i64 (wrap64 ((l0_6.length : Int) - 1))] (by rfl) rfl rfl (by (try simp only [List.map_toArray, List.map_cons, List.map_nil]); first | done | rfl | (simp only [List.length_drop, List.length_take]; rfl)) ?_
      with_reducible refine (impl_within.calls a1_1 0 (wrap64 ((l0_6.length : Int) - 1)) true _ A5.out).mono ?_
      rintro e w' ⟨rfl, ⟨nd, rfl⟩⟩
      refine ⟨_, rfl, ?_⟩
      refine hK.out _ _ ⟨bc BK373 0, bc BK373 1, bc BK373 2, bc BK373 3, bc BK373 4, bc BK373 5, bc BK373 6, bc BK373 7, bc BK373 8, bc BK374 0, bc BK374 1, bc BK374 2, (hc HB hw377_0), (hc HB hw377_1), (hc HB hw377_2), (hc HB hw377_3), (hc HB hw377_4)⟩ (fun hHeld => ?_)
      clear hK K
      refine norm_ (a' := ?_) ?_ ?_
      rotate_left
      ·show Act.put _ (some 14) _ = _
       simp only [Act.put, List.setIfInBounds_toArray, List.set_cons_zero, List.set_cons_succ, i64_w, i32_w]
       rfl
      refine pz_ 10 15 ?_
      refine pz_ 11 16 ?_
      refine pz_ 12 17 ?_
      refine pz_ 14 19 ?_
      refine take_ (i := 13) (N := some 18) (v := ?_) (a' := ?_) #[true, true, true, true, true, true, true, true, true, true, true, true, true, true, true, false, false, false, false, false, false, false, false, false, false, false, false, false, false, false, false, false, false] rfl rfl (take_ofW HT_.out HW_.out (by kernel_rfl)) (fun _ _ _ h => h) (Or.inl ⟨by rfl, ?_⟩) hHeld ?_ ?_
      rotate_left
      ·rintro w' ⟨s0, s1, s2, s3, s4, s5, s6, s7, s8, s9, s10, s11, s12, s13, s14, s15, s16⟩
       go_simp
       with_reducible rfl
      rotate_left
      ·simp only [Act.put, List.setIfInBounds_toArray, List.set_cons_zero, List.set_cons_succ, i64_w, i32_w]
       rfl
      refine take_ (i := 15) (N := some 20) (v := ?_) (a' := ?_) #[true, true, true, true, true, true, true, true, true, true, true, true, true, true, true, true, false, false, false, false, false, false, false, false, false, false, false, false, false, false, false, false, false] rfl rfl (take_ofW HT_.out HW_.out (by kernel_rfl)) (fun _ _ _ h => h) (Or.inl ⟨by rfl, ?_⟩) hHeld ?_ ?_
      rotate_left
      ·rintro w' ⟨s0, s1, s2, s3, s4, s5, s6, s7, s8, s9, s10, s11, s12, s13, s14, s15, s16⟩
       go_simp
       with_reducible rfl
      rotate_left
      ·simp only [Act.put, List.setIfInBounds_toArray, List.set_cons_zero, List.set_cons_succ, i64_w, i32_w]
       rfl
      refine pz_ 16 21 ?_
      refine pz_ 17 22 ?_
      refine take_ (i := 18) (N := some 23) (v := ?_) (a' := ?_) #[true, true, true, true, true, true, true, true, true, true, true, true, true, true, true, true, true, true, true, false, false, false, false, false, false, false, false, false, false, false, false, false, false] rfl rfl (take_ofW HT_.out HW_.out (by kernel_rfl)) (fun _ _ _ h => h) (Or.inl ⟨by rfl, ?_⟩) hHeld ?_ ?_
      rotate_left
      ·rintro w' ⟨s0, s1, s2, s3, s4, s5, s6, s7, s8, s9, s10, s11, s12, s13, s14, s15, s16⟩
       go_simp
       with_reducible rfl
      rotate_left
      ·simp only [Act.put, List.setIfInBounds_toArray, List.set_cons_zero, List.set_cons_succ, i64_w, i32_w]
       rfl
      refine one_ (i := 19) (N := some 24) #[true, true, true, true, true, true, true, true, true, true, true, true, true, true, true, true, true, true, true, true, false, false, false, false, false, false, false, false, false, false, false, false, false] rfl rfl (one_of HT_.out (by kernel_rfl)) (by decide) (fun K hK => ?_)
      refine goes_ Try.func128 (by kernel_rfl) rfl #[.int .i64 ((rd_T95 l0_6 a1_1).f4), .int .i64 1, .int .i64 3] (by rfl) rfl rfl (by (try simp only [List.map_toArray, List.map_cons, List.map_nil]); first | done | rfl | (simp only [List.length_drop, List.length_take]; rfl)) ?_
      with_reducible refine (impl_within.calls ((rd_T95 l0_6 a1_1).f4) 1 3 false _ A9.out).mono ?_
      rintro e w' ⟨rfl, ⟨nd, rfl⟩⟩
      refine ⟨_, rfl, ?_⟩
      refine hK.out _ _ ⟨bc BK373 0, bc BK373 1, bc BK373 2, bc BK373 3, bc BK373 4, bc BK373 5, bc BK373 6, bc BK373 7, bc BK373 8, bc BK374 0, bc BK374 1, bc BK374 2, (hc HB hw377_0), (hc HB hw377_1), (hc HB hw377_2), (hc HB hw377_3), (hc HB hw377_4)⟩ (fun hHeld => ?_)
      clear hK K
      refine norm_ (a' := ?_) ?_ ?_
      rotate_left
      ·show Act.put _ (some 24) _ = _
       simp only [Act.put, List.setIfInBounds_toArray, List.set_cons_zero, List.set_cons_succ, i64_w, i32_w]
       rfl
      refine pz_ 20 25 ?_
      refine pz_ 21 26 ?_
      refine pu_ 22 27 ?_
      refine pu_ 23 28 ?_
      refine pu_ 24 29 ?_
      refine pu_ 25 30 ?_
      refine pu_ 26 31 ?_
      refine pu_ 27 32 ?_
      refine pu_ 28 33 ?_
      refine pu_ 29 34 ?_
      refine pu_ 30 35 ?_
      refine pz_ 31 36 ?_
      refine pz_ 32 4 ?_
      refine done_ (done_of HT_.out (by kernel_rfl)) ?_
      try go_wp2
      go_ret
      exact ⟨ee, bb HB⟩
    ·rw [if_neg c8] at H
     exact absurd H (by simp)
   ·rw [if_neg c7] at H
    exact absurd H (by simp)
  ·replace c6 := Bool.eq_false_iff.mpr c6
   subst c6
   rw [if_neg (show ¬ (false = true) by decide)] at H
   obtain rfl := Option.some.inj H
   go_enter Try.func63, Try.ntmps63
   try go_wp2_with (first | ((with_reducible refine gate_dst (N := 2) rfl ?_); (try (refine gate_guard (by rfl) ?_; dsimp only)); refine bx (N := 2) (cs := #[.slice A0_0 l0_0.length c0_0, .int .i64 a0_1, .int .i64 a0_2, .int .i64 a0_3, .slice A0_4 l0_4.length c0_4, .bool a0_5, .slice A0_6 l0_6.length c0_6, .slice A0_7 l0_7.length c0_7, .slice A0_8 l0_8.length c0_8]) (t := 36) ?_; intro gb373 hg w21 hbox hb; have BK373 := dk (hbox); have GW373 := gs hg HB; have GE373 := gs hg HB; replace HB := hs_ HB hb; clear hb hbox hg) | ((with_reducible refine gate_dst (N := 3) rfl ?_); (try (refine gate_guard (by rfl) ?_; dsimp only)); refine bx (N := 3) (cs := #[.int .i64 a1_0, .int .i64 a1_1, .bool a1_2]) (t := 50) ?_; intro gb374 hg w22 hbox hb; have BK374 := dk (hbox); have GW374 := gs hg HB; have GE374 := gs hg HB; replace HB := hs_ HB hb; have NB373_374 := gn hg BK373; have NB374_373 := gm hg BK373; replace BK373 := kb BK373 hb; clear hb hbox hg))
   replace BK373 := dk (blk_drew BK373.out)
   replace BK374 := dk (blk_drew BK374.out)
   replace HB := dk (below_drew1 HB.out)
   refine start_ (n := 33) (S := fun w' => w'.cell? ⟨gb373, 0, none⟩ = some (.slice A0_0 l0_0.length c0_0) ∧ w'.cell? ⟨gb373, 1, none⟩ = some (.int .i64 a0_1) ∧ w'.cell? ⟨gb373, 2, none⟩ = some (.int .i64 a0_2) ∧ w'.cell? ⟨gb373, 3, none⟩ = some (.int .i64 a0_3) ∧ w'.cell? ⟨gb373, 4, none⟩ = some (.slice A0_4 l0_4.length c0_4) ∧ w'.cell? ⟨gb373, 5, none⟩ = some (.bool a0_5) ∧ w'.cell? ⟨gb373, 6, none⟩ = some (.slice A0_6 l0_6.length c0_6) ∧ w'.cell? ⟨gb373, 7, none⟩ = some (.slice A0_7 l0_7.length c0_7) ∧ w'.cell? ⟨gb373, 8, none⟩ = some (.slice A0_8 l0_8.length c0_8) ∧ w'.cell? ⟨gb374, 0, none⟩ = some (.int .i64 a1_0) ∧ w'.cell? ⟨gb374, 1, none⟩ = some (.int .i64 a1_1) ∧ w'.cell? ⟨gb374, 2, none⟩ = some (.bool a1_2)) (ds := []) #[false, false, false, false, false, false, false, false, false, false, false, false, false, false, false, false, false, false, false, false, false, false, false, false, false, false, false, false, false, false, false, false, false] (by kernel_rfl) rfl rfl ⟨bc BK373 0, bc BK373 1, bc BK373 2, bc BK373 3, bc BK373 4, bc BK373 5, bc BK373 6, bc BK373 7, bc BK373 8, bc BK374 0, bc BK374 1, bc BK374 2⟩ (fun hHeld => ?_); refine with_tabW impl_ProtestOk.tab1 impl_ProtestOk.bits1 (fun HT_ HW_ => ?_)
   generalize w22.drew = w23 at BK373 BK374 HB hHeld ⊢
   refine take_ (i := 0) (N := some 5) (v := ?_) (a' := ?_) #[true, false, false, false, false, false, false, false, false, false, false, false, false, false, false, false, false, false, false, false, false, false, false, false, false, false, false, false, false, false, false, false, false] rfl rfl (take_ofW HT_.out HW_.out (by kernel_rfl)) (fun _ _ _ h => h) (Or.inl ⟨by rfl, ?_⟩) hHeld ?_ ?_
   rotate_left
   ·rintro w' ⟨s0, s1, s2, s3, s4, s5, s6, s7, s8, s9, s10, s11⟩
    go_simp
    with_reducible rfl
   rotate_left
   ·simp only [Act.put, List.setIfInBounds_toArray, List.set_cons_zero, List.set_cons_succ, i64_w, i32_w]
    rfl
   refine one_ (i := 1) (N := some 6) #[true, true, false, false, false, false, false, false, false, false, false, false, false, false, false, false, false, false, false, false, false, false, false, false, false, false, false, false, false, false, false, false, false] rfl rfl (one_of HT_.out (by kernel_rfl)) (by decide) (fun K hK => ?_)
   refine goes_ Try.func61 (by kernel_rfl) rfl #[.agg #[.slice A0_0 l0_0.length c0_0, .int .i64 a0_1, .int .i64 a0_2, .int .i64 a0_3, .slice A0_4 l0_4.length c0_4, .bool a0_5, .slice A0_6 l0_6.length c0_6, .slice A0_7 l0_7.length c0_7, .slice A0_8 l0_8.length c0_8]] (by rfl) rfl rfl (by (try simp only [List.map_toArray, List.map_cons, List.map_nil]); first | done | rfl | (simp only [List.length_drop, List.length_take]; rfl)) ?_
   with_reducible refine (impl_BookOk.calls k _ _ l0_0 a0_1 a0_2 a0_3 _ _ l0_4 a0_5 _ _ l0_6 _ _ l0_7 _ _ l0_8 true _ ?side1 ?side2 ?side3 ?side4 ?side5 ?side6 ?side7 ?side8 ?side9 ?side10 A3.out).mono ?_
   (case side1 => exact cc HR0_0 HB)
   (case side2 => exact HC0_0.out)
   (case side3 => exact cc HR0_4 HB)
   (case side4 => exact HC0_4.out)
   (case side5 => exact cc HR0_6 HB)
   (case side6 => exact HC0_6.out)
   (case side7 => exact cc HR0_7 HB)
   (case side8 => exact HC0_7.out)
   (case side9 => exact cc HR0_8 HB)
   (case side10 => exact HC0_8.out)
   rintro e w24 ⟨rfl, hb⟩
   refine ⟨_, rfl, ?_⟩
   replace BK373 := kb BK373 hb
   replace BK374 := kb BK374 hb
   replace HB := hs_ HB hb
   (try clear hb hb2 hk hi)
   refine hK.out _ _ ⟨bc BK373 0, bc BK373 1, bc BK373 2, bc BK373 3, bc BK373 4, bc BK373 5, bc BK373 6, bc BK373 7, bc BK373 8, bc BK374 0, bc BK374 1, bc BK374 2⟩ (fun hHeld => ?_)
   clear hK K
   refine norm_ (a' := ?_) ?_ ?_
   rotate_left
   ·show Act.put _ (some 6) _ = _
    simp only [Act.put, List.setIfInBounds_toArray, List.set_cons_zero, List.set_cons_succ, i64_w, i32_w]
    rfl
   refine pz_ 2 7 ?_
   refine pz_ 3 8 ?_
   refine pz_ 5 10 ?_
   refine take_ (i := 4) (N := some 9) (v := ?_) (a' := ?_) #[true, true, true, true, true, true, false, false, false, false, false, false, false, false, false, false, false, false, false, false, false, false, false, false, false, false, false, false, false, false, false, false, false] rfl rfl (take_ofW HT_.out HW_.out (by kernel_rfl)) (fun _ _ _ h => h) (Or.inl ⟨by rfl, ?_⟩) hHeld ?_ ?_
   rotate_left
   ·rintro w' ⟨s0, s1, s2, s3, s4, s5, s6, s7, s8, s9, s10, s11⟩
    go_simp
    with_reducible rfl
   rotate_left
   ·simp only [Act.put, List.setIfInBounds_toArray, List.set_cons_zero, List.set_cons_succ, i64_w, i32_w]
    rfl
   refine take_ (i := 6) (N := some 11) (v := ?_) (a' := ?_) #[true, true, true, true, true, true, true, false, false, false, false, false, false, false, false, false, false, false, false, false, false, false, false, false, false, false, false, false, false, false, false, false, false] rfl rfl (take_ofW HT_.out HW_.out (by kernel_rfl)) (fun _ _ _ h => h) (Or.inl ⟨by rfl, ?_⟩) hHeld ?_ ?_
   rotate_left
   ·rintro w' ⟨s0, s1, s2, s3, s4, s5, s6, s7, s8, s9, s10, s11⟩
    go_simp
    with_reducible rfl
   rotate_left
   ·simp only [Act.put, List.setIfInBounds_toArray, List.set_cons_zero, List.set_cons_succ, i64_w, i32_w]
    rfl
   refine pz_ 7 12 ?_
   refine pz_ 8 13 ?_
   refine one_ (i := 9) (N := some 14) #[true, true, true, true, true, true, true, true, true, true, false, false, false, false, false, false, false, false, false, false, false, false, false, false, false, false, false, false, false, false, false, false, false] rfl rfl (one_of HT_.out (by kernel_rfl)) (by decide) (fun K hK => ?_)
   refine goes_ Try.func128 (by kernel_rfl) rfl #[.int .i64 a1_1, .int .i64 0, .int .i64 (wrap64 ((l0_6.length : Int) - 1))] (by rfl) rfl rfl (by (try simp only [List.map_toArray, List.map_cons, List.map_nil]); first | done | rfl | (simp only [List.length_drop, List.length_take]; rfl)) ?_
   with_reducible refine (impl_within.calls a1_1 0 (wrap64 ((l0_6.length : Int) - 1)) false _ A5.out).mono ?_
   rintro e w' ⟨rfl, ⟨nd, rfl⟩⟩
   refine ⟨_, rfl, ?_⟩
   refine hK.out _ _ ⟨bc BK373 0, bc BK373 1, bc BK373 2, bc BK373 3, bc BK373 4, bc BK373 5, bc BK373 6, bc BK373 7, bc BK373 8, bc BK374 0, bc BK374 1, bc BK374 2⟩ (fun hHeld => ?_)
   clear hK K
   refine norm_ (a' := ?_) ?_ ?_
   rotate_left
   ·show Act.put _ (some 14) _ = _
    simp only [Act.put, List.setIfInBounds_toArray, List.set_cons_zero, List.set_cons_succ, i64_w, i32_w]
    rfl
   refine pz_ 10 15 ?_
   refine pz_ 11 16 ?_
   refine pu_ 12 17 ?_
   refine pu_ 13 18 ?_
   refine pu_ 14 19 ?_
   refine pu_ 15 20 ?_
   refine pu_ 16 21 ?_
   refine pu_ 17 22 ?_
   refine pu_ 18 23 ?_
   refine pu_ 19 24 ?_
   refine pz_ 20 25 ?_
   refine pz_ 21 26 ?_
   refine pu_ 22 27 ?_
   refine pu_ 23 28 ?_
   refine pu_ 24 29 ?_
   refine pu_ 25 30 ?_
   refine pu_ 26 31 ?_
   refine pu_ 27 32 ?_
   refine pu_ 28 33 ?_
   refine pu_ 29 34 ?_
   refine pu_ 30 35 ?_
   refine pz_ 31 36 ?_
   refine pz_ 32 4 ?_
   refine done_ (done_of HT_.out (by kernel_rfl)) ?_
   try go_wp2
   go_ret
   exact ⟨ee, bb HB⟩
 ·replace c4 := Bool.eq_false_iff.mpr c4
  subst c4
  rw [if_neg (show ¬ (false = true) by decide)] at H
  obtain rfl := Option.some.inj H
  go_enter Try.func63, Try.ntmps63
  try go_wp2_with (first | ((with_reducible refine gate_dst (N := 2) rfl ?_); (try (refine gate_guard (by rfl) ?_; dsimp only)); refine bx (N := 2) (cs := #[.slice A0_0 l0_0.length c0_0, .int .i64 a0_1, .int .i64 a0_2, .int .i64 a0_3, .slice A0_4 l0_4.length c0_4, .bool a0_5, .slice A0_6 l0_6.length c0_6, .slice A0_7 l0_7.length c0_7, .slice A0_8 l0_8.length c0_8]) (t := 36) ?_; intro gb373 hg w25 hbox hb; have BK373 := dk (hbox); have GW373 := gs hg HB; have GE373 := gs hg HB; replace HB := hs_ HB hb; clear hb hbox hg) | ((with_reducible refine gate_dst (N := 3) rfl ?_); (try (refine gate_guard (by rfl) ?_; dsimp only)); refine bx (N := 3) (cs := #[.int .i64 a1_0, .int .i64 a1_1, .bool a1_2]) (t := 50) ?_; intro gb374 hg w26 hbox hb; have BK374 := dk (hbox); have GW374 := gs hg HB; have GE374 := gs hg HB; replace HB := hs_ HB hb; have NB373_374 := gn hg BK373; have NB374_373 := gm hg BK373; replace BK373 := kb BK373 hb; clear hb hbox hg))
  replace BK373 := dk (blk_drew BK373.out)
  replace BK374 := dk (blk_drew BK374.out)
  replace HB := dk (below_drew1 HB.out)
  refine start_ (n := 33) (S := fun w' => w'.cell? ⟨gb373, 0, none⟩ = some (.slice A0_0 l0_0.length c0_0) ∧ w'.cell? ⟨gb373, 1, none⟩ = some (.int .i64 a0_1) ∧ w'.cell? ⟨gb373, 2, none⟩ = some (.int .i64 a0_2) ∧ w'.cell? ⟨gb373, 3, none⟩ = some (.int .i64 a0_3) ∧ w'.cell? ⟨gb373, 4, none⟩ = some (.slice A0_4 l0_4.length c0_4) ∧ w'.cell? ⟨gb373, 5, none⟩ = some (.bool a0_5) ∧ w'.cell? ⟨gb373, 6, none⟩ = some (.slice A0_6 l0_6.length c0_6) ∧ w'.cell? ⟨gb373, 7, none⟩ = some (.slice A0_7 l0_7.length c0_7) ∧ w'.cell? ⟨gb373, 8, none⟩ = some (.slice A0_8 l0_8.length c0_8)) (ds := []) #[false, false, false, false, false, false, false, false, false, false, false, false, false, false, false, false, false, false, false, false, false, false, false, false, false, false, false, false, false, false, false, false, false] (by kernel_rfl) rfl rfl ⟨bc BK373 0, bc BK373 1, bc BK373 2, bc BK373 3, bc BK373 4, bc BK373 5, bc BK373 6, bc BK373 7, bc BK373 8⟩ (fun hHeld => ?_); refine with_tabW impl_ProtestOk.tab1 impl_ProtestOk.bits1 (fun HT_ HW_ => ?_)
  generalize w26.drew = w27 at BK373 BK374 HB hHeld ⊢
  refine take_ (i := 0) (N := some 5) (v := ?_) (a' := ?_) #[true, false, false, false, false, false, false, false, false, false, false, false, false, false, false, false, false, false, false, false, false, false, false, false, false, false, false, false, false, false, false, false, false] rfl rfl (take_ofW HT_.out HW_.out (by kernel_rfl)) (fun _ _ _ h => h) (Or.inl ⟨by rfl, ?_⟩) hHeld ?_ ?_
  rotate_left
  ·rintro w' ⟨s0, s1, s2, s3, s4, s5, s6, s7, s8⟩
   go_simp
   with_reducible rfl
  rotate_left
  ·simp only [Act.put, List.setIfInBounds_toArray, List.set_cons_zero, List.set_cons_succ, i64_w, i32_w]
   rfl
  refine one_ (i := 1) (N := some 6) #[true, true, false, false, false, false, false, false, false, false, false, false, false, false, false, false, false, false, false, false, false, false, false, false, false, false, false, false, false, false, false, false, false] rfl rfl (one_of HT_.out (by kernel_rfl)) (by decide) (fun K hK => ?_)
  refine goes_ Try.func61 (by kernel_rfl) rfl #[.agg #[.slice A0_0 l0_0.length c0_0, .int .i64 a0_1, .int .i64 a0_2, .int .i64 a0_3, .slice A0_4 l0_4.length c0_4, .bool a0_5, .slice A0_6 l0_6.length c0_6, .slice A0_7 l0_7.length c0_7, .slice A0_8 l0_8.length c0_8]] (by rfl) rfl rfl (by (try simp only [List.map_toArray, List.map_cons, List.map_nil]); first | done | rfl | (simp only [List.length_drop, List.length_take]; rfl)) ?_
  with_reducible refine (impl_BookOk.calls k _ _ l0_0 a0_1 a0_2 a0_3 _ _ l0_4 a0_5 _ _ l0_6 _ _ l0_7 _ _ l0_8 false _ ?side1 ?side2 ?side3 ?side4 ?side5 ?side6 ?side7 ?side8 ?side9 ?side10 A3.out).mono ?_
  (case side1 => exact cc HR0_0 HB)
  (case side2 => exact HC0_0.out)
  (case side3 => exact cc HR0_4 HB)
  (case side4 => exact HC0_4.out)
  (case side5 => exact cc HR0_6 HB)
  (case side6 => exact HC0_6.out)
  (case side7 => exact cc HR0_7 HB)
  (case side8 => exact HC0_7.out)
  (case side9 => exact cc HR0_8 HB)
  (case side10 => exact HC0_8.out)
  rintro e w28 ⟨rfl, hb⟩
  refine ⟨_, rfl, ?_⟩
  replace BK373 := kb BK373 hb
  replace BK374 := kb BK374 hb
  replace HB := hs_ HB hb
  (try clear hb hb2 hk hi)
  refine hK.out _ _ ⟨bc BK373 0, bc BK373 1, bc BK373 2, bc BK373 3, bc BK373 4, bc BK373 5, bc BK373 6, bc BK373 7, bc BK373 8⟩ (fun hHeld => ?_)
  clear hK K
  refine norm_ (a' := ?_) ?_ ?_
  rotate_left
  ·show Act.put _ (some 6) _ = _
   simp only [Act.put, List.setIfInBounds_toArray, List.set_cons_zero, List.set_cons_succ, i64_w, i32_w]
   rfl
  refine pz_ 2 7 ?_
  refine pu_ 3 8 ?_
  refine pu_ 4 9 ?_
  refine pu_ 5 10 ?_
  refine pu_ 6 11 ?_
  refine pu_ 7 12 ?_
  refine pu_ 8 13 ?_
  refine pu_ 9 14 ?_
  refine pz_ 10 15 ?_
  refine pz_ 11 16 ?_
  refine pu_ 12 17 ?_
  refine pu_ 13 18 ?_
  refine pu_ 14 19 ?_
  refine pu_ 15 20 ?_
  refine pu_ 16 21 ?_
  refine pu_ 17 22 ?_
  refine pu_ 18 23 ?_
  refine pu_ 19 24 ?_
  refine pz_ 20 25 ?_
  refine pz_ 21 26 ?_
  refine pu_ 22 27 ?_
  refine pu_ 23 28 ?_
  refine pu_ 24 29 ?_
  refine pu_ 25 30 ?_
  refine pu_ 26 31 ?_
  refine pu_ 27 32 ?_
  refine pu_ 28 33 ?_
  refine pu_ 29 34 ?_
  refine pu_ 30 35 ?_
  refine pz_ 31 36 ?_
  refine pz_ 32 4 ?_
  refine done_ (done_of HT_.out (by kernel_rfl)) ?_
  try go_wp2
  go_ret
  exact ⟨ee, bb HB⟩
def impl_awarded.f (a0_0 : Int) (a0_1 : Int) (a0_2 : Int) (a0_3 : Int) (a0_4 : Int) (a1 : Int) : Option (Int × Int × Int × Int × Int) := if a0_1 = a1 then (some (a0_0, a0_1, 0, 0, 3)) else (some (a0_0, a0_1, 0, 0, 2))
theorem impl_awarded.calls (a0_0 : Int) (a0_1 : Int) (a0_2 : Int) (a0_3 : Int) (a0_4 : Int) (a1 : Int) (r1 : Int) (r2 : Int) (r3 : Int) (r4 : Int) (r5 : Int) (w : World) (h : impl_awarded.f a0_0 a0_1 a0_2 a0_3 a0_4 a1 = some (r1, r2, r3, r4, r5)) :
    Calls Try.prog 64 #[.agg #[.int .i64 a0_0, .int .i64 a0_1, .int .i64 a0_2, .int .i64 a0_3, .int .i64 a0_4], .int .i64 a1] w fun e w' => e = .returned (.agg #[.int .i64 r1, .int .i64 r2, .int .i64 r3, .int .i64 r4, .int .i64 r5]) ∧ Below w.heap.size w w' := by
  unfold impl_awarded.f at h
  by_cases hc : a0_1 = a1
  · rw [if_pos hc] at h
    have hb : (a0_1 == a1) = true := beq_iff_eq.mpr hc
    clear hc
    simp only [Option.some.injEq, Prod.mk.injEq] at h
    obtain ⟨rfl, rfl, rfl, rfl, rfl⟩ := h
    go_enter Try.func64, Try.ntmps64
    go_wp2
    exact bodyPost_ret (v := .agg #[.int .i64 _, .int .i64 _, .int .i64 _, .int .i64 _, .int .i64 _]) (by simp [results, Try.results64, go_sem]) rfl ⟨rfl, (by repeat (first | exact Below.refl _ _ | apply below_alloc | apply pw_below_drewN | apply below_drew1 | refine below_set ?_ (by simp; try omega)))⟩
  · rw [if_neg hc] at h
    have hb : (a0_1 == a1) = false := beq_eq_false_iff_ne.mpr hc
    clear hc
    simp only [Option.some.injEq, Prod.mk.injEq] at h
    obtain ⟨rfl, rfl, rfl, rfl, rfl⟩ := h
    go_enter Try.func64, Try.ntmps64
    go_wp2
    exact bodyPost_ret (v := .agg #[.int .i64 _, .int .i64 _, .int .i64 _, .int .i64 _, .int .i64 _]) (by simp [results, Try.results64, go_sem]) rfl ⟨rfl, (by repeat (first | exact Below.refl _ _ | apply below_alloc | apply pw_below_drewN | apply below_drew1 | refine below_set ?_ (by simp; try omega)))⟩
end Go.Proofs.Ythfefanapneocaa.Q
