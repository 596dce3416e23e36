/- A part of the proof of FnExactPointsLost: functions of the program, as plain functions, with the proof that the machine's call does what they say; plain lemmas; and those of the words that print.sh prints which this proof uses. No condition. -/
import Derived.Test.YthfefanapneocaaKFnExactPointsLost1
import Derived.Test.YthfefanapneocaaProg
import Derived.Below
import Derived.Deep.Draws
import Derived.Deep.AppendLies
import Derived.Maps.AppendAt
import Derived.OwnWalk
import Derived.Laws.BytesArg
import Derived.Laws.MakeOwn
import Derived.Laws.OwnMore
import Derived.Deep.OwnRows
import Derived.Tactics
import Derived.Lib.ConvBytes
import Derived.Laws.Slices
import Derived.WalkKit
import Derived.KernelRfl
import Derived.RowKit3
import Derived.Deep.LoopGhost
import Derived.Deep.QuietTactic
import Derived.BigQuiet
import Derived.WideLaws
import Derived.Deep.DeepCutAuto
import Derived.Deep.CutBlock
import Derived.Deep.RegionHeld3
import Derived.Laws.Rows
import Derived.Lib.AppendStr
import Derived.ArgAppend
import Derived.Laws.IdiomCopy
import Derived.OrdersHeld
import Derived.Laws.BitsLemmas
import Derived.RowKit
import Derived.WalkSpells
import Derived.Shelf.Strings.Builder1
import Derived.Shelf.Strings.Builder2
import Derived.Shelf.Small.Bits
import Derived.Shelf.Strconv.Itoa0
import Derived.Ground.Names2Prog
import Derived.Shelf.Slices.Clone
import Derived.Shelf.Slices.SearchI
import Derived.Ground.SlgnProg
import Derived.Shelf.SlicesE.Clone
import Derived.Lib.AppendIntMem
import Derived.Laws.StructEq
import Derived.Test.YthfefanapneocaaKFnExactPointsLost2
import Derived.Test.YthfefanapneocaaKFnExactPointsLost4
import Derived.Test.YthfefanapneocaaKFnExactPointsLost3
import Derived.Test.YthfefanapneocaaKFnExactPointsLost5
import Derived.Test.YthfefanapneocaaRows
import Derived.ProofKit
import Derived.OpenShut
import Derived.ShutString
import Derived.ChangeOld
import Derived.SizedLaws
namespace Go.Proofs.Ythfefanapneocaa.Q
open Go.RowKit Go.Proofs.YthfefanapneocaaW.PrintWords Go.Proofs.YthfefanapneocaaW.PrintLast Go.Proofs.YthfefanapneocaaW.PrintMore
attribute [local go_sem] max2_int min2_int max_two min_two max_three min_three max_four min_four
set_option linter.unusedVariables false
set_option linter.unusedSimpArgs false
set_option maxRecDepth 100000
set_option maxHeartbeats 8000000
def laws_FnExactPointsLost.j0 : Nat → Int → Int → List Int → List Int → Bool → List (S133) → Int → Int → Int → List Int → Bool → List (S147) → List Int → List Int → Option (Bool)
 | 0, _, _, _, _, _, _, _, _, _, _, _, _, _, _ => none
 | k + 1, x1, x2, x8, x10, x50, x1254000, x1254001, x1254002, x1254003, x1254004, x1254005, x1254006, x1254007, x1254008 => if x50 = true then (some false) else ((laws_markIntS.f k x10 1).bind fun bt1328 => ((laws_heldIntS.f k bt1328.2 1).bind fun t1330 => (if t1330 < 0 then (some false) else (if t1330 = bt1328.1 then ((laws_toBook.f k x1254000 x1254001 x1254002 x1254003 x1254004 x1254005 x1254006 x1254007 x1254008).bind fun bt1331 => ((impl_PointsLost.f k bt1331.1 bt1331.2.1 bt1331.2.2.1 bt1331.2.2.2.1 bt1331.2.2.2.2.1 bt1331.2.2.2.2.2.1 bt1331.2.2.2.2.2.2.1 bt1331.2.2.2.2.2.2.2.1 bt1331.2.2.2.2.2.2.2.2 x1 x2).bind fun t1350 => ((laws_eqIntS.f k t1350 x8).bind fun t1353 => (if t1353 = true then ((laws_heldIntS.f k bt1328.2 1).bind fun t1354 => (if t1354 < 0 then (some false) else (if t1354 = bt1328.1 then (some true) else (some false)))) else (some false))))) else (some false)))))
def laws_FnExactPointsLost.f (k : Nat) (l0_0 : List (S133)) (a0_1 : Int) (a0_2 : Int) (a0_3 : Int) (l0_4 : List Int) (a0_5 : Bool) (l0_6 : List (S147)) (l0_7 : List Int) (l0_8 : List Int) (a1 : Int) (a2 : Int) : Option (Bool) := (laws_szBook.f k l0_0 a0_1 a0_2 a0_3 l0_4 a0_5 l0_6 l0_7 l0_8 1048576).bind fun t1254 => (if t1254 < 0 then (some true) else ((laws_toBook.f k l0_0 a0_1 a0_2 a0_3 l0_4 a0_5 l0_6 l0_7 l0_8).bind fun bt1255 => ((spec_PointsLost.f k bt1255.1 bt1255.2.1 bt1255.2.2.1 bt1255.2.2.2.1 bt1255.2.2.2.2.1 bt1255.2.2.2.2.2.1 bt1255.2.2.2.2.2.2.1 bt1255.2.2.2.2.2.2.2.1 bt1255.2.2.2.2.2.2.2.2 a1 a2).bind fun t1274 => ((laws_toBook.f k l0_0 a0_1 a0_2 a0_3 l0_4 a0_5 l0_6 l0_7 l0_8).bind fun bt1277 => ((impl_PointsLost.f k bt1277.1 bt1277.2.1 bt1277.2.2.1 bt1277.2.2.2.1 bt1277.2.2.2.2.1 bt1277.2.2.2.2.2.1 bt1277.2.2.2.2.2.2.1 bt1277.2.2.2.2.2.2.2.1 bt1277.2.2.2.2.2.2.2.2 a1 a2).bind fun t1297 => ((laws_eqIntS.f k t1297 t1274).bind fun t1300 => (if t1300 = true then ((laws_toBook.f k l0_0 a0_1 a0_2 a0_3 l0_4 a0_5 l0_6 l0_7 l0_8).bind fun bt1301 => ((laws_eqBook.f k bt1277.1 bt1277.2.1 bt1277.2.2.1 bt1277.2.2.2.1 bt1277.2.2.2.2.1 bt1277.2.2.2.2.2.1 bt1277.2.2.2.2.2.2.1 bt1277.2.2.2.2.2.2.2.1 bt1277.2.2.2.2.2.2.2.2 bt1301.1 bt1301.2.1 bt1301.2.2.1 bt1301.2.2.2.1 bt1301.2.2.2.2.1 bt1301.2.2.2.2.2.1 bt1301.2.2.2.2.2.2.1 bt1301.2.2.2.2.2.2.2.1 bt1301.2.2.2.2.2.2.2.2).bind fun t1320 => (if t1320 = true then ((laws_markBook.f k bt1277.1 bt1277.2.1 bt1277.2.2.1 bt1277.2.2.2.1 bt1277.2.2.2.2.1 bt1277.2.2.2.2.2.1 bt1277.2.2.2.2.2.2.1 bt1277.2.2.2.2.2.2.2.1 bt1277.2.2.2.2.2.2.2.2 1).bind fun bt1321 => (if bt1321.1 < 0 then (laws_FnExactPointsLost.j0 k a1 a2 t1274 t1297 true l0_0 a0_1 a0_2 a0_3 l0_4 a0_5 l0_6 l0_7 l0_8) else ((laws_eqIntS.f k t1297 t1274).bind fun t1327 => (laws_FnExactPointsLost.j0 k a1 a2 t1274 t1297 (!t1327) l0_0 a0_1 a0_2 a0_3 l0_4 a0_5 l0_6 l0_7 l0_8)))) else (some false)))) else (some false))))))))
theorem laws_FnExactPointsLost.calls (k : Nat) (A0_0 : Option Addr) (c0_0 : Nat) (l0_0 : List (S133)) (a0_1 : Int) (a0_2 : Int) (a0_3 : Int) (A0_4 : Option Addr) (c0_4 : Nat) (l0_4 : List Int) (a0_5 : Bool) (A0_6 : Option Addr) (c0_6 : Nat) (l0_6 : List (S147)) (A0_7 : Option Addr) (c0_7 : Nat) (l0_7 : List Int) (A0_8 : Option Addr) (c0_8 : Nat) (l0_8 : List Int) (a1 : Int) (a2 : Int) (r : Bool) (w : World) (hr0_0 : Kd.C k133 w A0_0 l0_0.length l0_0) (hc0_0 : l0_0.length ≤ c0_0) (hr0_4 : Kd.C (Kd.int .i64) w A0_4 l0_4.length l0_4) (hc0_4 : l0_4.length ≤ c0_4) (hr0_6 : Kd.C k147 w A0_6 l0_6.length l0_6) (hc0_6 : l0_6.length ≤ c0_6) (hr0_7 : Kd.C (Kd.int .i64) w A0_7 l0_7.length l0_7) (hc0_7 : l0_7.length ≤ c0_7) (hr0_8 : Kd.C (Kd.int .i64) w A0_8 l0_8.length l0_8) (hc0_8 : l0_8.length ≤ c0_8) (h : laws_FnExactPointsLost.f k l0_0 a0_1 a0_2 a0_3 l0_4 a0_5 l0_6 l0_7 l0_8 a1 a2 = some r) :
  Calls Try.prog 6 #[.agg #[.slice A0_0 l0_0.length c0_0, .int .i64 a0_1, .int .i64 a0_2, .int .i64 a0_3, .slice A0_4 l0_4.length c0_4, .bool a0_5, .slice A0_6 l0_6.length c0_6, .slice A0_7 l0_7.length c0_7, .slice A0_8 l0_8.length c0_8], .int .i64 a1, .int .i64 a2] w fun e w' => e = .returned (.bool r) ∧ Below w.heap.size w w' := by
 have hu28 := Try.underlying28
 have hu36 := Try.underlying36
 have HR0_0 := dk hr0_0
 have HC0_0 := dk hc0_0
 clear hr0_0 hc0_0
 have HR0_4 := dk hr0_4
 have HC0_4 := dk hc0_4
 clear hr0_4 hc0_4
 have HR0_6 := dk hr0_6
 have HC0_6 := dk hc0_6
 clear hr0_6 hc0_6
 have HR0_7 := dk hr0_7
 have HC0_7 := dk hc0_7
 clear hr0_7 hc0_7
 have HR0_8 := dk hr0_8
 have HC0_8 := dk hc0_8
 clear hr0_8 hc0_8
 have HB := dk (Below.refl w.heap.size w)
 have H : ((laws_szBook.f k l0_0 a0_1 a0_2 a0_3 l0_4 a0_5 l0_6 l0_7 l0_8 1048576).bind fun t1254 => (if t1254 < 0 then (some true) else ((laws_toBook.f k l0_0 a0_1 a0_2 a0_3 l0_4 a0_5 l0_6 l0_7 l0_8).bind fun bt1255 => ((spec_PointsLost.f k bt1255.1 bt1255.2.1 bt1255.2.2.1 bt1255.2.2.2.1 bt1255.2.2.2.2.1 bt1255.2.2.2.2.2.1 bt1255.2.2.2.2.2.2.1 bt1255.2.2.2.2.2.2.2.1 bt1255.2.2.2.2.2.2.2.2 a1 a2).bind fun t1274 => ((laws_toBook.f k l0_0 a0_1 a0_2 a0_3 l0_4 a0_5 l0_6 l0_7 l0_8).bind fun bt1277 => ((impl_PointsLost.f k bt1277.1 bt1277.2.1 bt1277.2.2.1 bt1277.2.2.2.1 bt1277.2.2.2.2.1 bt1277.2.2.2.2.2.1 bt1277.2.2.2.2.2.2.1 bt1277.2.2.2.2.2.2.2.1 bt1277.2.2.2.2.2.2.2.2 a1 a2).bind fun t1297 => ((laws_eqIntS.f k t1297 t1274).bind fun t1300 => (if t1300 = true then ((laws_toBook.f k l0_0 a0_1 a0_2 a0_3 l0_4 a0_5 l0_6 l0_7 l0_8).bind fun bt1301 => ((laws_eqBook.f k bt1277.1 bt1277.2.1 bt1277.2.2.1 bt1277.2.2.2.1 bt1277.2.2.2.2.1 bt1277.2.2.2.2.2.1 bt1277.2.2.2.2.2.2.1 bt1277.2.2.2.2.2.2.2.1 bt1277.2.2.2.2.2.2.2.2 bt1301.1 bt1301.2.1 bt1301.2.2.1 bt1301.2.2.2.1 bt1301.2.2.2.2.1 bt1301.2.2.2.2.2.1 bt1301.2.2.2.2.2.2.1 bt1301.2.2.2.2.2.2.2.1 bt1301.2.2.2.2.2.2.2.2).bind fun t1320 => (if t1320 = true then ((laws_markBook.f k bt1277.1 bt1277.2.1 bt1277.2.2.1 bt1277.2.2.2.1 bt1277.2.2.2.2.1 bt1277.2.2.2.2.2.1 bt1277.2.2.2.2.2.2.1 bt1277.2.2.2.2.2.2.2.1 bt1277.2.2.2.2.2.2.2.2 1).bind fun bt1321 => (if bt1321.1 < 0 then (laws_FnExactPointsLost.j0 k a1 a2 t1274 t1297 true l0_0 a0_1 a0_2 a0_3 l0_4 a0_5 l0_6 l0_7 l0_8) else ((laws_eqIntS.f k t1297 t1274).bind fun t1327 => (laws_FnExactPointsLost.j0 k a1 a2 t1274 t1297 (!t1327) l0_0 a0_1 a0_2 a0_3 l0_4 a0_5 l0_6 l0_7 l0_8)))) else (some false)))) else (some false))))))))) = some r := h
 clear h
 replace H := Option.bind_eq_some_iff.mp H
 obtain ⟨t1254, A40, H⟩ := H
 try dsimp only at H
 have A4 := dk A40
 clear A40
 have HC5 := dk H
 clear H
 go_enter Try.func6, Try.ntmps6
 go_upto_if 19 with (first | ((with_reducible refine gate_dst (N := 3) rfl ?_); refine bx (N := 3) (cs := #[.slice A0_0 l0_0.length c0_0, .int .i64 a0_1, .int .i64 a0_2, .int .i64 a0_3, .slice A0_4 l0_4.length c0_4, .bool a0_5, .slice A0_6 l0_6.length c0_6, .slice A0_7 l0_7.length c0_7, .slice A0_8 l0_8.length c0_8]) (t := 28) ?_; intro gb1253 hg w6 hbox hb; have BK1253 := dk (hbox); have GW1253 := gs hg HB; have GE1253 := gs hg HB; replace HB := hs_ HB hb; clear hb hbox hg; have ⟨z7_0, z7_1, z7_2, z7_3, z7_4, z7_5, z7_6, z7_7, z7_8, v7_0, v7_1, v7_2, v7_3, v7_4, v7_5, v7_6, v7_7, v7_8⟩ := rz9 BK1253) | ((with_reducible refine gate_callee (f := 10) rfl ?_); refine gl (some 17) Try.func10 #[.agg #[.slice A0_0 l0_0.length c0_0, .int .i64 a0_1, .int .i64 a0_2, .int .i64 a0_3, .slice A0_4 l0_4.length c0_4, .bool a0_5, .slice A0_6 l0_6.length c0_6, .slice A0_7 l0_7.length c0_7, .slice A0_8 l0_8.length c0_8], .int .i64 1048576] ?_; (with_reducible refine (laws_szBook.calls k _ _ l0_0 a0_1 a0_2 a0_3 _ _ l0_4 a0_5 _ _ l0_6 _ _ l0_7 _ _ l0_8 1048576 t1254 _ ?side1 ?side2 ?side3 ?side4 ?side5 ?side6 ?side7 ?side8 ?side9 ?side10 A4.out).mono ?_); (case side1 => exact cc HR0_0 HB); (case side2 => exact HC0_0.out); (case side3 => exact cc HR0_4 HB); (case side4 => exact HC0_4.out); (case side5 => exact cc HR0_6 HB); (case side6 => exact HC0_6.out); (case side7 => exact cc HR0_7 HB); (case side8 => exact HC0_7.out); (case side9 => exact cc HR0_8 HB); (case side10 => exact HC0_8.out); rintro e w8 ⟨rfl, hb⟩; refine ⟨_, rfl, ?_⟩; replace BK1253 := kb BK1253 hb; replace HB := hs_ HB hb; (try clear hb hb2 hk hi)))
 (try simp only [Act.put, List.setIfInBounds_toArray, List.set_cons_zero, List.set_cons_succ])
 have H := HC5.out
 clear HC5
 by_cases c9 : t1254 < 0
 ·rw [if_pos c9] at H
  have c9b0 : decide (t1254 < 0) = true := decide_eq_true c9
  clear c9
  (first | rw [c9b0] | rw [c9b1] | (simp only [i64_w, i32_w]; rw [c9b0]) | skip)
  obtain rfl := Option.some.inj H
  go_wp2
  go_ret
  exact ⟨ee, bb HB⟩
 ·rw [if_neg c9] at H
  have c9b0 : decide (t1254 < 0) = false := decide_eq_false c9
  clear c9
  (first | rw [c9b0] | rw [c9b1] | (simp only [i64_w, i32_w]; rw [c9b0]) | skip)
  replace H := Option.bind_eq_some_iff.mp H
  obtain ⟨⟨t1255, t1258, t1259, t1260, t1261, t1264, t1265, t1268, t1271⟩, A100, H⟩ := H
  try dsimp only at H
  have A10 := dk A100
  clear A100
  replace H := Option.bind_eq_some_iff.mp H
  obtain ⟨t1274, A110, H⟩ := H
  try dsimp only at H
  have A11 := dk A110
  clear A110
  replace H := Option.bind_eq_some_iff.mp H
  obtain ⟨⟨t1277, t1280, t1281, t1282, t1283, t1286, t1287, t1290, t1293⟩, A120, H⟩ := H
  try dsimp only at H
  have A12 := dk A120
  clear A120
  replace H := Option.bind_eq_some_iff.mp H
  obtain ⟨t1297, A130, H⟩ := H
  try dsimp only at H
  have A13 := dk A130
  clear A130
  replace H := Option.bind_eq_some_iff.mp H
  obtain ⟨t1300, A140, H⟩ := H
  try dsimp only at H
  have A14 := dk A140
  clear A140
  have HC15 := dk H
  clear H
  have ⟨z16_0, z16_1, z16_2, z16_3, z16_4, z16_5, z16_6, z16_7, z16_8, v16_0, v16_1, v16_2, v16_3, v16_4, v16_5, v16_6, v16_7, v16_8⟩ := rz9 BK1253
  go_upto_if 34 with (first | ((with_reducible refine gate_callee (f := 13) rfl ?_); refine gl (some 21) Try.func13 #[.agg #[.slice A0_0 l0_0.length c0_0, .int .i64 a0_1, .int .i64 a0_2, .int .i64 a0_3, .slice A0_4 l0_4.length c0_4, .bool a0_5, .slice A0_6 l0_6.length c0_6, .slice A0_7 l0_7.length c0_7, .slice A0_8 l0_8.length c0_8]] ?_; (with_reducible refine (laws_toBook.calls k _ _ l0_0 a0_1 a0_2 a0_3 _ _ l0_4 a0_5 _ _ l0_6 _ _ l0_7 _ _ l0_8 t1255 t1258 t1259 t1260 t1261 t1264 t1265 t1268 t1271 _ ?side1 ?side2 ?side3 ?side4 ?side5 ?side6 ?side7 ?side8 ?side9 ?side10 A10.out).mono ?_); (case side1 => exact cc HR0_0 HB); (case side2 => exact HC0_0.out); (case side3 => exact cc HR0_4 HB); (case side4 => exact HC0_4.out); (case side5 => exact cc HR0_6 HB); (case side6 => exact HC0_6.out); (case side7 => exact cc HR0_7 HB); (case side8 => exact HC0_7.out); (case side9 => exact cc HR0_8 HB); (case side10 => exact HC0_8.out); rintro e w17 ⟨v1256, v1262, v1266, v1269, v1272, rfl, ho0, ho1, ho2, ho3, ho4, hb⟩; refine ⟨_, rfl, ?_⟩; have HO1257 := kl ho0 HB; have HO1263 := kl ho1 HB; have HO1267 := kl ho2 HB; have HO1270 := kl ho3 HB; have HO1273 := kl ho4 HB; replace BK1253 := kb BK1253 hb; replace HB := hs_ HB hb; (try clear hb hb2 hk hi ho0 ho1 ho2 ho3 ho4); obtain ⟨Ao18, co18, eo18⟩ := Kd.R_slice HO1257.out; subst eo18; obtain ⟨Ao19, co19, eo19⟩ := Kd.R_slice HO1263.out; subst eo19; obtain ⟨Ao20, co20, eo20⟩ := Kd.R_slice HO1267.out; subst eo20; obtain ⟨Ao21, co21, eo21⟩ := Kd.R_slice HO1270.out; subst eo21; obtain ⟨Ao22, co22, eo22⟩ := Kd.R_slice HO1273.out; subst eo22) | ((with_reducible refine gate_callee (f := 26) rfl ?_); refine gl (some 24) Try.func26 #[.agg #[.slice Ao18 t1255.length co18, .int .i64 t1258, .int .i64 t1259, .int .i64 t1260, .slice Ao19 t1261.length co19, .bool t1264, .slice Ao20 t1265.length co20, .slice Ao21 t1268.length co21, .slice Ao22 t1271.length co22], .int .i64 a1, .int .i64 a2] ?_; (with_reducible refine (spec_PointsLost.calls k _ _ t1255 t1258 t1259 t1260 _ _ t1261 t1264 _ _ t1265 _ _ t1268 _ _ t1271 a1 a2 t1274 _ ?side1 ?side2 ?side3 ?side4 ?side5 ?side6 ?side7 ?side8 ?side9 ?side10 A11.out).mono ?_); (case side1 => exact cr HO1257); (case side2 => exact cl HO1257); (case side3 => exact cr HO1263); (case side4 => exact cl HO1263); (case side5 => exact cr HO1267); (case side6 => exact cl HO1267); (case side7 => exact cr HO1270); (case side8 => exact cl HO1270); (case side9 => exact cr HO1273); (case side10 => exact cl HO1273); rintro e w23 ⟨v1275, rfl, ho0, hb⟩; refine ⟨_, rfl, ?_⟩; replace HO1257 := kr HO1257 hb; replace HO1267 := kr HO1267 hb; have HO1276 := dk (Kd.R_lower (Kd.R_new' (Kd.R_new' (Kd.R_new' ho0 (rt HO1263)) (rt HO1270)) (rt HO1273)) (below_size (bb HB))); replace HO1263 := ke HO1263 ho0 hb; replace HO1270 := ke HO1270 ho0 hb; replace HO1273 := ke HO1273 ho0 hb; replace BK1253 := kb BK1253 hb; replace HB := hs_ HB hb; (try clear hb hb2 hk hi ho0); have ⟨z24_0, z24_1, z24_2, z24_3, z24_4, z24_5, z24_6, z24_7, z24_8, v24_0, v24_1, v24_2, v24_3, v24_4, v24_5, v24_6, v24_7, v24_8⟩ := rz9 BK1253) | ((with_reducible refine gate_callee (f := 13) rfl ?_); refine gl (some 26) Try.func13 #[.agg #[.slice A0_0 l0_0.length c0_0, .int .i64 a0_1, .int .i64 a0_2, .int .i64 a0_3, .slice A0_4 l0_4.length c0_4, .bool a0_5, .slice A0_6 l0_6.length c0_6, .slice A0_7 l0_7.length c0_7, .slice A0_8 l0_8.length c0_8]] ?_; (with_reducible refine (laws_toBook.calls k _ _ l0_0 a0_1 a0_2 a0_3 _ _ l0_4 a0_5 _ _ l0_6 _ _ l0_7 _ _ l0_8 t1277 t1280 t1281 t1282 t1283 t1286 t1287 t1290 t1293 _ ?side1 ?side2 ?side3 ?side4 ?side5 ?side6 ?side7 ?side8 ?side9 ?side10 A12.out).mono ?_); (case side1 => exact cc HR0_0 HB); (case side2 => exact HC0_0.out); (case side3 => exact cc HR0_4 HB); (case side4 => exact HC0_4.out); (case side5 => exact cc HR0_6 HB); (case side6 => exact HC0_6.out); (case side7 => exact cc HR0_7 HB); (case side8 => exact HC0_7.out); (case side9 => exact cc HR0_8 HB); (case side10 => exact HC0_8.out); rintro e w25 ⟨v1278, v1284, v1288, v1291, v1294, rfl, ho0, ho1, ho2, ho3, ho4, hb⟩; refine ⟨_, rfl, ?_⟩; have HO1279 := dk (Kd.R_lower (Kd.R_new' ho0 (rt HO1257)) (below_size (bb HB))); replace HO1257 := ke HO1257 ho0 hb; have HO1285 := dk (Kd.R_lower (Kd.R_new' (Kd.R_new' (Kd.R_new' (Kd.R_new' ho1 (rt HO1263)) (rt HO1270)) (rt HO1273)) (rt HO1276)) (below_size (bb HB))); have HO1289 := dk (Kd.R_lower (Kd.R_new' ho2 (rt HO1267)) (below_size (bb HB))); replace HO1267 := ke HO1267 ho2 hb; have HO1292 := dk (Kd.R_lower (Kd.R_new' (Kd.R_new' (Kd.R_new' (Kd.R_new' ho3 (rt HO1263)) (rt HO1270)) (rt HO1273)) (rt HO1276)) (below_size (bb HB))); have HO1295 := dk (Kd.R_lower (Kd.R_new' (Kd.R_new' (Kd.R_new' (Kd.R_new' ho4 (rt HO1263)) (rt HO1270)) (rt HO1273)) (rt HO1276)) (below_size (bb HB))); replace HO1263 := dk (Kd.R_mono (Kd.R_told (Kd.R_told (Kd.R_told (Kd.R_old (rr HO1263) hb) (Kd.R_base ho1)) (Kd.R_base ho3)) (Kd.R_base ho4)) (fun _ h_ => h_.1)); replace HO1270 := dk (Kd.R_mono (Kd.R_told (Kd.R_told (Kd.R_told (Kd.R_old (rr HO1270) hb) (Kd.R_base ho1)) (Kd.R_base ho3)) (Kd.R_base ho4)) (fun _ h_ => h_.1)); replace HO1273 := dk (Kd.R_mono (Kd.R_told (Kd.R_told (Kd.R_told (Kd.R_old (rr HO1273) hb) (Kd.R_base ho1)) (Kd.R_base ho3)) (Kd.R_base ho4)) (fun _ h_ => h_.1)); replace HO1276 := dk (Kd.R_mono (Kd.R_told (Kd.R_told (Kd.R_told (Kd.R_old (rr HO1276) hb) (Kd.R_base ho1)) (Kd.R_base ho3)) (Kd.R_base ho4)) (fun _ h_ => h_.1)); replace BK1253 := kb BK1253 hb; replace HB := hs_ HB hb; (try clear hb hb2 hk hi ho0 ho1 ho2 ho3 ho4)) | ((with_reducible refine gate_dst (N := 9) rfl ?_); refine bx (N := 9) (cs := #[.slice none 0 0, .int .i64 0, .int .i64 0, .int .i64 0, .slice none 0 0, .bool false, .slice none 0 0, .slice none 0 0, .slice none 0 0]) (t := 36) ?_; intro gb1296 hg w26 hbox hb; replace HO1257 := kr HO1257 hb; replace HO1263 := kr HO1263 hb; replace HO1267 := kr HO1267 hb; replace HO1270 := kr HO1270 hb; replace HO1273 := kr HO1273 hb; replace HO1276 := kr HO1276 hb; replace HO1279 := kr HO1279 hb; replace HO1285 := kr HO1285 hb; replace HO1289 := kr HO1289 hb; replace HO1292 := kr HO1292 hb; replace HO1295 := kr HO1295 hb; have BK1296 := dk (hbox); have GW1296 := gs hg HB; have GE1296 := gs hg HB; replace HB := hs_ HB hb; have NB1253_1296 := gn hg BK1253; have NB1296_1253 := gm hg BK1253; replace BK1253 := kb BK1253 hb; clear hb hbox hg; obtain ⟨Ao27, co27, eo27⟩ := Kd.R_slice HO1279.out; subst eo27; have hnb28 := NB1296_1253.out; have hnc28 := NB1253_1296.out; have ⟨z29_0, z29_1, z29_2, z29_3, z29_4, z29_5, z29_6, z29_7, z29_8, v29_0, v29_1, v29_2, v29_3, v29_4, v29_5, v29_6, v29_7, v29_8⟩ := rz9 BK1296; obtain ⟨Ao30, co30, eo30⟩ := Kd.R_slice HO1285.out; subst eo30; obtain ⟨Ao31, co31, eo31⟩ := Kd.R_slice HO1289.out; subst eo31; obtain ⟨Ao32, co32, eo32⟩ := Kd.R_slice HO1292.out; subst eo32; obtain ⟨Ao33, co33, eo33⟩ := Kd.R_slice HO1295.out; subst eo33) | ((with_reducible refine gate_callee (f := 27) rfl ?_); refine gl (some 30) Try.func27 #[.agg #[.slice Ao27 t1277.length co27, .int .i64 t1280, .int .i64 t1281, .int .i64 t1282, .slice Ao30 t1283.length co30, .bool t1286, .slice Ao31 t1287.length co31, .slice Ao32 t1290.length co32, .slice Ao33 t1293.length co33], .int .i64 a1, .int .i64 a2] ?_; (with_reducible refine (impl_PointsLost.calls k _ _ t1277 t1280 t1281 t1282 _ _ t1283 t1286 _ _ t1287 _ _ t1290 _ _ t1293 a1 a2 t1297 _ ?side1 ?side2 ?side3 ?side4 ?side5 ?side6 ?side7 ?side8 ?side9 ?side10 A13.out).mono ?_); (case side1 => exact cf HO1279 BK1296); (case side2 => exact cl HO1279); (case side3 => exact cf HO1285 BK1296); (case side4 => exact cl HO1285); (case side5 => exact cf HO1289 BK1296); (case side6 => exact cl HO1289); (case side7 => exact cf HO1292 BK1296); (case side8 => exact cl HO1292); (case side9 => exact cf HO1295 BK1296); (case side10 => exact cl HO1295); rintro e w34 ⟨v1298, rfl, ho0, hb⟩; refine ⟨_, rfl, ?_⟩; replace HO1257 := kf HO1257 BK1296 hb; replace HO1267 := kf HO1267 BK1296 hb; replace HO1279 := kf HO1279 BK1296 hb; replace HO1289 := kf HO1289 BK1296 hb; have HO1299 := dk (Kd.R_lower (Kd.R_new' (Kd.R_new' (Kd.R_new' (Kd.R_new' (Kd.R_new' (Kd.R_new' (Kd.R_new' ho0 (Kd.R_lt (rf HO1263 BK1296 (fun _ h_ => h_.1)))) (Kd.R_lt (rf HO1270 BK1296 (fun _ h_ => h_.1)))) (Kd.R_lt (rf HO1273 BK1296 (fun _ h_ => h_.1)))) (Kd.R_lt (rf HO1276 BK1296 (fun _ h_ => h_.1)))) (Kd.R_lt (rf HO1285 BK1296 (fun _ h_ => h_.1)))) (Kd.R_lt (rf HO1292 BK1296 (fun _ h_ => h_.1)))) (Kd.R_lt (rf HO1295 BK1296 (fun _ h_ => h_.1)))) (below_size (bb HB))); replace HO1263 := dk (Kd.R_elder' (rf HO1263 BK1296 (fun _ h_ => h_.1)) (Kd.R_base ho0) hb); replace HO1270 := dk (Kd.R_elder' (rf HO1270 BK1296 (fun _ h_ => h_.1)) (Kd.R_base ho0) hb); replace HO1273 := dk (Kd.R_elder' (rf HO1273 BK1296 (fun _ h_ => h_.1)) (Kd.R_base ho0) hb); replace HO1276 := dk (Kd.R_elder' (rf HO1276 BK1296 (fun _ h_ => h_.1)) (Kd.R_base ho0) hb); replace HO1285 := dk (Kd.R_elder' (rf HO1285 BK1296 (fun _ h_ => h_.1)) (Kd.R_base ho0) hb); replace HO1292 := dk (Kd.R_elder' (rf HO1292 BK1296 (fun _ h_ => h_.1)) (Kd.R_base ho0) hb); replace HO1295 := dk (Kd.R_elder' (rf HO1295 BK1296 (fun _ h_ => h_.1)) (Kd.R_base ho0) hb); replace BK1253 := dk (blk_below (bf NB1253_1296.out BK1253) hb); replace BK1296 := dk (blk_below (g := gb1296) (o := .cells #[.slice Ao27 t1277.length co27, .int .i64 t1280, .int .i64 t1281, .int .i64 t1282, .slice Ao30 t1283.length co30, .bool t1286, .slice Ao31 t1287.length co31, .slice Ao32 t1290.length co32, .slice Ao33 t1293.length co33] 36 (0, 0)) (bp BK1296) hb); replace HB := hs_ HB hb; (try clear hb hb2 hk hi ho0); obtain ⟨Ao35, co35, eo35⟩ := Kd.R_slice HO1299.out; subst eo35; obtain ⟨Ao36, co36, eo36⟩ := Kd.R_slice HO1276.out; subst eo36) | ((with_reducible refine gate_callee (f := 28) rfl ?_); refine gl (some 33) Try.func28 #[.slice Ao35 t1297.length co35, .slice Ao36 t1274.length co36] ?_; (with_reducible refine (laws_eqIntS.calls k _ _ t1297 _ _ t1274 t1300 _ ?side1 ?side2 ?side3 ?side4 A14.out).mono ?_); (case side1 => exact cr HO1299); (case side2 => exact cl HO1299); (case side3 => exact cr HO1276); (case side4 => exact cl HO1276); rintro e w' ⟨rfl, ⟨nd, rfl⟩⟩; refine ⟨_, rfl, ?_⟩))
  (try simp only [Act.put, List.setIfInBounds_toArray, List.set_cons_zero, List.set_cons_succ])
  have H := HC15.out
  clear HC15
  by_cases c37 : t1300 = true
  ·subst c37
   rw [if_pos rfl] at H
   replace H := Option.bind_eq_some_iff.mp H
   obtain ⟨⟨t1301, t1304, t1305, t1306, t1307, t1310, t1311, t1314, t1317⟩, A380, H⟩ := H
   try dsimp only at H
   have A38 := dk A380
   clear A380
   replace H := Option.bind_eq_some_iff.mp H
   obtain ⟨t1320, A390, H⟩ := H
   try dsimp only at H
   have A39 := dk A390
   clear A390
   have HC40 := dk H
   clear H
   try go_wp2
   replace HO1257 := dk (Kd.R_drewN HO1257.out nd)
   replace HO1263 := dk (Kd.R_drewN HO1263.out nd)
   replace HO1267 := dk (Kd.R_drewN HO1267.out nd)
   replace HO1270 := dk (Kd.R_drewN HO1270.out nd)
   replace HO1273 := dk (Kd.R_drewN HO1273.out nd)
   replace HO1276 := dk (Kd.R_drewN HO1276.out nd)
   replace HO1279 := dk (Kd.R_drewN HO1279.out nd)
   replace HO1285 := dk (Kd.R_drewN HO1285.out nd)
   replace HO1289 := dk (Kd.R_drewN HO1289.out nd)
   replace HO1292 := dk (Kd.R_drewN HO1292.out nd)
   replace HO1295 := dk (Kd.R_drewN HO1295.out nd)
   replace HO1299 := dk (Kd.R_drewN HO1299.out nd)
   replace BK1253 := dk (blk_drewN BK1253.out nd)
   replace BK1296 := dk (blk_drewN BK1296.out nd)
   replace HB := dk (pw_below_drewN HB.out nd)
   generalize w34.drewN nd = w34 at HO1257 HO1263 HO1267 HO1270 HO1273 HO1276 HO1279 HO1285 HO1289 HO1292 HO1295 HO1299 BK1253 BK1296 HB ⊢
   replace HO1257 := dk (Kd.R_drew HO1257.out)
   replace HO1263 := dk (Kd.R_drew HO1263.out)
   replace HO1267 := dk (Kd.R_drew HO1267.out)
   replace HO1270 := dk (Kd.R_drew HO1270.out)
   replace HO1273 := dk (Kd.R_drew HO1273.out)
   replace HO1276 := dk (Kd.R_drew HO1276.out)
   replace HO1279 := dk (Kd.R_drew HO1279.out)
   replace HO1285 := dk (Kd.R_drew HO1285.out)
   replace HO1289 := dk (Kd.R_drew HO1289.out)
   replace HO1292 := dk (Kd.R_drew HO1292.out)
   replace HO1295 := dk (Kd.R_drew HO1295.out)
   replace HO1299 := dk (Kd.R_drew HO1299.out)
   replace BK1253 := dk (blk_drew BK1253.out)
   replace BK1296 := dk (blk_drew BK1296.out)
   replace HB := dk (below_drew1 HB.out)
   refine start_ (n := 5) (S := fun w' => w'.cell? ⟨gb1296, 0, none⟩ = some (.slice Ao27 t1277.length co27) ∧ w'.cell? ⟨gb1296, 1, none⟩ = some (.int .i64 t1280) ∧ w'.cell? ⟨gb1296, 2, none⟩ = some (.int .i64 t1281) ∧ w'.cell? ⟨gb1296, 3, none⟩ = some (.int .i64 t1282) ∧ w'.cell? ⟨gb1296, 4, none⟩ = some (.slice Ao30 t1283.length co30) ∧ w'.cell? ⟨gb1296, 5, none⟩ = some (.bool t1286) ∧ w'.cell? ⟨gb1296, 6, none⟩ = some (.slice Ao31 t1287.length co31) ∧ w'.cell? ⟨gb1296, 7, none⟩ = some (.slice Ao32 t1290.length co32) ∧ w'.cell? ⟨gb1296, 8, none⟩ = some (.slice Ao33 t1293.length co33) ∧ w'.cell? ⟨gb1253, 0, none⟩ = some (.slice A0_0 l0_0.length c0_0) ∧ w'.cell? ⟨gb1253, 1, none⟩ = some (.int .i64 a0_1) ∧ w'.cell? ⟨gb1253, 2, none⟩ = some (.int .i64 a0_2) ∧ w'.cell? ⟨gb1253, 3, none⟩ = some (.int .i64 a0_3) ∧ w'.cell? ⟨gb1253, 4, none⟩ = some (.slice A0_4 l0_4.length c0_4) ∧ w'.cell? ⟨gb1253, 5, none⟩ = some (.bool a0_5) ∧ w'.cell? ⟨gb1253, 6, none⟩ = some (.slice A0_6 l0_6.length c0_6) ∧ w'.cell? ⟨gb1253, 7, none⟩ = some (.slice A0_7 l0_7.length c0_7) ∧ w'.cell? ⟨gb1253, 8, none⟩ = some (.slice A0_8 l0_8.length c0_8)) (ds := []) #[false, false, false, false, false] (by kernel_rfl) rfl rfl ⟨bc BK1296 0, bc BK1296 1, bc BK1296 2, bc BK1296 3, bc BK1296 4, bc BK1296 5, bc BK1296 6, bc BK1296 7, bc BK1296 8, bc BK1253 0, bc BK1253 1, bc BK1253 2, bc BK1253 3, bc BK1253 4, bc BK1253 5, bc BK1253 6, bc BK1253 7, bc BK1253 8⟩ (fun hHeld => ?_)
   generalize w34.drew = w41 at HO1257 HO1263 HO1267 HO1270 HO1273 HO1276 HO1279 HO1285 HO1289 HO1292 HO1295 HO1299 BK1253 BK1296 HB hHeld ⊢
   refine tk_ 0 35 ?_
   refine tk_ 1 36 ?_
   refine one_ (i := 2) (N := some 37) #[true, true, true, false, false] rfl rfl (by kernel_rfl) (by decide) (fun K hK => ?_)
   refine goes_ Try.func13 (by kernel_rfl) rfl #[.agg #[.slice A0_0 l0_0.length c0_0, .int .i64 a0_1, .int .i64 a0_2, .int .i64 a0_3, .slice A0_4 l0_4.length c0_4, .bool a0_5, .slice A0_6 l0_6.length c0_6, .slice A0_7 l0_7.length c0_7, .slice A0_8 l0_8.length c0_8]] (by rfl) rfl rfl (by (try simp only [List.map_toArray, List.map_cons, List.map_nil]); first | done | rfl | (simp only [List.length_drop, List.length_take]; rfl)) ?_
   with_reducible refine (laws_toBook.calls k _ _ l0_0 a0_1 a0_2 a0_3 _ _ l0_4 a0_5 _ _ l0_6 _ _ l0_7 _ _ l0_8 t1301 t1304 t1305 t1306 t1307 t1310 t1311 t1314 t1317 _ ?side1 ?side2 ?side3 ?side4 ?side5 ?side6 ?side7 ?side8 ?side9 ?side10 A38.out).mono ?_
   (case side1 => exact cc HR0_0 HB)
   (case side2 => exact HC0_0.out)
   (case side3 => exact cc HR0_4 HB)
   (case side4 => exact HC0_4.out)
   (case side5 => exact cc HR0_6 HB)
   (case side6 => exact HC0_6.out)
   (case side7 => exact cc HR0_7 HB)
   (case side8 => exact HC0_7.out)
   (case side9 => exact cc HR0_8 HB)
   (case side10 => exact HC0_8.out)
   rintro e w42 ⟨v1302, v1308, v1312, v1315, v1318, rfl, ho0, ho1, ho2, ho3, ho4, hb⟩
   refine ⟨_, rfl, ?_⟩
   have HO1303 := dk (Kd.R_lower (Kd.R_new' (Kd.R_new' ho0 (rt HO1257)) (rt HO1279)) (below_size (bb HB)))
   replace HO1257 := ke HO1257 ho0 hb
   replace HO1279 := ke HO1279 ho0 hb
   have HO1309 := dk (Kd.R_lower (Kd.R_new' (Kd.R_new' (Kd.R_new' (Kd.R_new' (Kd.R_new' (Kd.R_new' (Kd.R_new' (Kd.R_new' ho1 (rt HO1263)) (rt HO1270)) (rt HO1273)) (rt HO1276)) (rt HO1285)) (rt HO1292)) (rt HO1295)) (rt HO1299)) (below_size (bb HB)))
   have HO1313 := dk (Kd.R_lower (Kd.R_new' (Kd.R_new' ho2 (rt HO1267)) (rt HO1289)) (below_size (bb HB)))
   replace HO1267 := ke HO1267 ho2 hb
   replace HO1289 := ke HO1289 ho2 hb
   have HO1316 := dk (Kd.R_lower (Kd.R_new' (Kd.R_new' (Kd.R_new' (Kd.R_new' (Kd.R_new' (Kd.R_new' (Kd.R_new' (Kd.R_new' ho3 (rt HO1263)) (rt HO1270)) (rt HO1273)) (rt HO1276)) (rt HO1285)) (rt HO1292)) (rt HO1295)) (rt HO1299)) (below_size (bb HB)))
   have HO1319 := dk (Kd.R_lower (Kd.R_new' (Kd.R_new' (Kd.R_new' (Kd.R_new' (Kd.R_new' (Kd.R_new' (Kd.R_new' (Kd.R_new' ho4 (rt HO1263)) (rt HO1270)) (rt HO1273)) (rt HO1276)) (rt HO1285)) (rt HO1292)) (rt HO1295)) (rt HO1299)) (below_size (bb HB)))
   replace HO1263 := dk (Kd.R_mono (Kd.R_told (Kd.R_told (Kd.R_told (Kd.R_old (rr HO1263) hb) (Kd.R_base ho1)) (Kd.R_base ho3)) (Kd.R_base ho4)) (fun _ h_ => h_.1))
   replace HO1270 := dk (Kd.R_mono (Kd.R_told (Kd.R_told (Kd.R_told (Kd.R_old (rr HO1270) hb) (Kd.R_base ho1)) (Kd.R_base ho3)) (Kd.R_base ho4)) (fun _ h_ => h_.1))
   replace HO1273 := dk (Kd.R_mono (Kd.R_told (Kd.R_told (Kd.R_told (Kd.R_old (rr HO1273) hb) (Kd.R_base ho1)) (Kd.R_base ho3)) (Kd.R_base ho4)) (fun _ h_ => h_.1))
   replace HO1276 := dk (Kd.R_mono (Kd.R_told (Kd.R_told (Kd.R_told (Kd.R_old (rr HO1276) hb) (Kd.R_base ho1)) (Kd.R_base ho3)) (Kd.R_base ho4)) (fun _ h_ => h_.1))
   replace HO1285 := dk (Kd.R_mono (Kd.R_told (Kd.R_told (Kd.R_told (Kd.R_old (rr HO1285) hb) (Kd.R_base ho1)) (Kd.R_base ho3)) (Kd.R_base ho4)) (fun _ h_ => h_.1))
   replace HO1292 := dk (Kd.R_mono (Kd.R_told (Kd.R_told (Kd.R_told (Kd.R_old (rr HO1292) hb) (Kd.R_base ho1)) (Kd.R_base ho3)) (Kd.R_base ho4)) (fun _ h_ => h_.1))
   replace HO1295 := dk (Kd.R_mono (Kd.R_told (Kd.R_told (Kd.R_told (Kd.R_old (rr HO1295) hb) (Kd.R_base ho1)) (Kd.R_base ho3)) (Kd.R_base ho4)) (fun _ h_ => h_.1))
   replace HO1299 := dk (Kd.R_mono (Kd.R_told (Kd.R_told (Kd.R_told (Kd.R_old (rr HO1299) hb) (Kd.R_base ho1)) (Kd.R_base ho3)) (Kd.R_base ho4)) (fun _ h_ => h_.1))
   replace BK1253 := kb BK1253 hb
   replace BK1296 := kb BK1296 hb
   replace HB := hs_ HB hb
   (try clear hb hb2 hk hi ho0 ho1 ho2 ho3 ho4)
   obtain ⟨Ao43, co43, eo43⟩ := Kd.R_slice HO1303.out
   (first | subst eo43 | (injection eo43 with f1_ f2_ f3_; have f4_ := f1_.symm; have f5_ := f3_.symm; clear f1_ f2_ f3_; subst f4_; subst f5_))
   obtain ⟨Ao44, co44, eo44⟩ := Kd.R_slice HO1309.out
   (first | subst eo44 | (injection eo44 with f1_ f2_ f3_; have f4_ := f1_.symm; have f5_ := f3_.symm; clear f1_ f2_ f3_; subst f4_; subst f5_))
   obtain ⟨Ao45, co45, eo45⟩ := Kd.R_slice HO1313.out
   (first | subst eo45 | (injection eo45 with f1_ f2_ f3_; have f4_ := f1_.symm; have f5_ := f3_.symm; clear f1_ f2_ f3_; subst f4_; subst f5_))
   obtain ⟨Ao46, co46, eo46⟩ := Kd.R_slice HO1316.out
   (first | subst eo46 | (injection eo46 with f1_ f2_ f3_; have f4_ := f1_.symm; have f5_ := f3_.symm; clear f1_ f2_ f3_; subst f4_; subst f5_))
   obtain ⟨Ao47, co47, eo47⟩ := Kd.R_slice HO1319.out
   (first | subst eo47 | (injection eo47 with f1_ f2_ f3_; have f4_ := f1_.symm; have f5_ := f3_.symm; clear f1_ f2_ f3_; subst f4_; subst f5_))
   refine hK.out _ _ ⟨bc BK1296 0, bc BK1296 1, bc BK1296 2, bc BK1296 3, bc BK1296 4, bc BK1296 5, bc BK1296 6, bc BK1296 7, bc BK1296 8, bc BK1253 0, bc BK1253 1, bc BK1253 2, bc BK1253 3, bc BK1253 4, bc BK1253 5, bc BK1253 6, bc BK1253 7, bc BK1253 8⟩ (fun hHeld => ?_)
   clear hK K
   refine norm_ (a' := ?_) ?_ ?_
   rotate_left
   ·show Act.put _ (some 37) _ = _
    simp only [Act.put, List.setIfInBounds_toArray, List.set_cons_zero, List.set_cons_succ, i64_w, i32_w]
    rfl
   refine one_ (i := 3) (N := some 38) #[true, true, true, true, false] rfl rfl (by kernel_rfl) (by decide) (fun K hK => ?_)
   refine goes_ Try.func16 (by kernel_rfl) rfl #[.agg #[.slice Ao27 t1277.length co27, .int .i64 t1280, .int .i64 t1281, .int .i64 t1282, .slice Ao30 t1283.length co30, .bool t1286, .slice Ao31 t1287.length co31, .slice Ao32 t1290.length co32, .slice Ao33 t1293.length co33], .agg #[.slice Ao43 t1301.length co43, .int .i64 t1304, .int .i64 t1305, .int .i64 t1306, .slice Ao44 t1307.length co44, .bool t1310, .slice Ao45 t1311.length co45, .slice Ao46 t1314.length co46, .slice Ao47 t1317.length co47]] (by rfl) rfl rfl (by (try simp only [List.map_toArray, List.map_cons, List.map_nil]); first | done | rfl | (simp only [List.length_drop, List.length_take]; rfl)) ?_
   with_reducible refine (laws_eqBook.calls k _ _ t1277 t1280 t1281 t1282 _ _ t1283 t1286 _ _ t1287 _ _ t1290 _ _ t1293 _ _ t1301 t1304 t1305 t1306 _ _ t1307 t1310 _ _ t1311 _ _ t1314 _ _ t1317 t1320 _ ?side1 ?side2 ?side3 ?side4 ?side5 ?side6 ?side7 ?side8 ?side9 ?side10 ?side11 ?side12 ?side13 ?side14 ?side15 ?side16 ?side17 ?side18 ?side19 ?side20 A39.out).mono ?_
   (case side1 => exact cr HO1279)
   (case side2 => exact (Kd.R_reads' HO1279.out).2.1)
   (case side3 => exact cr HO1285)
   (case side4 => exact (Kd.R_reads' HO1285.out).2.1)
   (case side5 => exact cr HO1289)
   (case side6 => exact (Kd.R_reads' HO1289.out).2.1)
   (case side7 => exact cr HO1292)
   (case side8 => exact (Kd.R_reads' HO1292.out).2.1)
   (case side9 => exact cr HO1295)
   (case side10 => exact (Kd.R_reads' HO1295.out).2.1)
   (case side11 => exact cr HO1303)
   (case side12 => exact (Kd.R_reads' HO1303.out).2.1)
   (case side13 => exact cr HO1309)
   (case side14 => exact (Kd.R_reads' HO1309.out).2.1)
   (case side15 => exact cr HO1313)
   (case side16 => exact (Kd.R_reads' HO1313.out).2.1)
   (case side17 => exact cr HO1316)
   (case side18 => exact (Kd.R_reads' HO1316.out).2.1)
   (case side19 => exact cr HO1319)
   (case side20 => exact (Kd.R_reads' HO1319.out).2.1)
   rintro e w48 ⟨rfl, hb⟩
   refine ⟨_, rfl, ?_⟩
   replace HO1257 := kr HO1257 hb
   replace HO1263 := kr HO1263 hb
   replace HO1267 := kr HO1267 hb
   replace HO1270 := kr HO1270 hb
   replace HO1273 := kr HO1273 hb
   replace HO1276 := kr HO1276 hb
   replace HO1279 := kr HO1279 hb
   replace HO1285 := kr HO1285 hb
   replace HO1289 := kr HO1289 hb
   replace HO1292 := kr HO1292 hb
   replace HO1295 := kr HO1295 hb
   replace HO1299 := kr HO1299 hb
   replace HO1303 := kr HO1303 hb
   replace HO1309 := kr HO1309 hb
   replace HO1313 := kr HO1313 hb
   replace HO1316 := kr HO1316 hb
   replace HO1319 := kr HO1319 hb
   replace BK1253 := kb BK1253 hb
   replace BK1296 := kb BK1296 hb
   replace HB := hs_ HB hb
   (try clear hb hb2 hk hi)
   refine hK.out _ _ ⟨bc BK1296 0, bc BK1296 1, bc BK1296 2, bc BK1296 3, bc BK1296 4, bc BK1296 5, bc BK1296 6, bc BK1296 7, bc BK1296 8, bc BK1253 0, bc BK1253 1, bc BK1253 2, bc BK1253 3, bc BK1253 4, bc BK1253 5, bc BK1253 6, bc BK1253 7, bc BK1253 8⟩ (fun hHeld => ?_)
   clear hK K
   refine norm_ (a' := ?_) ?_ ?_
   rotate_left
   ·show Act.put _ (some 38) _ = _
    simp only [Act.put, List.setIfInBounds_toArray, List.set_cons_zero, List.set_cons_succ, i64_w, i32_w]
    rfl
   refine pure_ (i := 4) (N := some 39) (v := ?_) (a' := ?_) #[true, true, true, true, true] rfl rfl (by kernel_rfl) (fun _ _ _ h => h) (Or.inl ⟨by rfl, ?_⟩) ?_ ?_
   rotate_left
   ·intro w'
    go_simp
    with_reducible rfl
   rotate_left
   ·simp only [Act.put, List.setIfInBounds_toArray, List.set_cons_zero, List.set_cons_succ, i64_w, i32_w]
    rfl
   refine done_ (by kernel_rfl) ?_
   go_upto_if 39 with (fail)
   have H := HC40.out
   clear HC40
   by_cases c49 : t1320 = true
   ·subst c49
    rw [if_pos rfl] at H
    replace H := Option.bind_eq_some_iff.mp H
    obtain ⟨⟨t1321, t1322, t1323, t1324, t1325, t1326⟩, A500, H⟩ := H
    try dsimp only at H
    have A50 := dk A500
    clear A500
    have HC51 := dk H
    clear H
    have hnb52 := NB1296_1253.out
    have hnc52 := NB1253_1296.out
    have ⟨z53_0, z53_1, z53_2, z53_3, z53_4, z53_5, z53_6, z53_7, z53_8, v53_0, v53_1, v53_2, v53_3, v53_4, v53_5, v53_6, v53_7, v53_8⟩ := rz9 BK1296
    go_upto_region 14 with (first | ((with_reducible refine gate_callee (f := 18) rfl ?_); refine gl (some 42) Try.func18 #[.agg #[.slice Ao27 t1277.length co27, .int .i64 t1280, .int .i64 t1281, .int .i64 t1282, .slice Ao30 t1283.length co30, .bool t1286, .slice Ao31 t1287.length co31, .slice Ao32 t1290.length co32, .slice Ao33 t1293.length co33], .int .i64 1] ?_; (with_reducible refine (laws_markBook.calls k (fun k_ => some k_ = (.slice Ao27 t1277.length co27 : Value).ownBlock) (.slice Ao27 t1277.length co27) t1277 t1280 t1281 t1282 (fun k_ => some k_ = (.slice Ao30 t1283.length co30 : Value).ownBlock) (.slice Ao30 t1283.length co30) t1283 t1286 (fun k_ => some k_ = (.slice Ao31 t1287.length co31 : Value).ownBlock) (.slice Ao31 t1287.length co31) t1287 (fun k_ => some k_ = (.slice Ao32 t1290.length co32 : Value).ownBlock) (.slice Ao32 t1290.length co32) t1290 (fun k_ => some k_ = (.slice Ao33 t1293.length co33 : Value).ownBlock) (.slice Ao33 t1293.length co33) t1293 1 t1321 t1322 t1323 t1324 t1325 t1326 w _ ?side1 ?side2 ?side3 ?side4 ?side5 ?side6 ?side7 ?side8 ?side9 ?side10 ?side11 ?side12 A50.out).mono ?_); (case side1 => exact bb HB); (case side2 => exact Kd.R_tight rfl HO1279.out); (case side3 => exact Kd.R_tight rfl HO1285.out); (case side4 => exact fun k_ e_ => (HO1285.out.1 k_ e_.symm).1.1.1.1.1.1.1.1.1); (case side5 => exact fun k_ e_ => (HO1285.out.1 k_ e_.symm).1.1.1.1.1.1.1.1.2); (case side6 => exact Kd.R_tight rfl HO1289.out); (case side7 => exact Kd.R_tight rfl HO1292.out); (case side8 => exact fun k_ e_ => (HO1292.out.1 k_ e_.symm).1.1.1.1.1.1.1.1.1); (case side9 => exact fun k_ e_ => (HO1292.out.1 k_ e_.symm).1.1.1.1.1.1.1.1.2); (case side10 => exact Kd.R_tight rfl HO1295.out); (case side11 => exact fun k_ e_ => (HO1295.out.1 k_ e_.symm).1.1.1.1.1.1.1.1.1); (case side12 => exact fun k_ e_ => (HO1295.out.1 k_ e_.symm).1.1.1.1.1.1.1.1.2); rintro e w54 ⟨rfl, hy0, hy1, hy2, hy3, hy4, hb, hkp⟩; refine ⟨_, rfl, ?_⟩; replace BK1253 := dk (blk_kept (bk BK1253) hkp (fun hs_ => Or.elim hs_ (fun e_ => (fun e_ => (Kd.R_ne HO1279.out BK1253.out (by decide)) e_) e_) (fun e_ => Or.elim e_ (fun e_ => (fun e_ => (Kd.R_ne HO1285.out BK1253.out (by decide)) e_) e_) (fun e_ => Or.elim e_ (fun e_ => (fun e_ => (Kd.R_ne HO1289.out BK1253.out (by decide)) e_) e_) (fun e_ => Or.elim e_ (fun e_ => (fun e_ => (Kd.R_ne HO1292.out BK1253.out (by decide)) e_) e_) (fun e_ => (fun e_ => (Kd.R_ne HO1295.out BK1253.out (by decide)) e_) e_)))))); replace HO1257 := km hkp (ra (ra (ra (ra HO1257.out HO1285) HO1289) HO1292) HO1295) (fun k_ hk_ => oe hk_.1.1.1.1.1.2 (oe hk_.1.1.1.2 (oe hk_.1.1.2 (oe hk_.1.2 hk_.2)))) (fun k_ hk_ => ai hk_.1.1.1.1.1.2 hk_.1.1.1.1.2); replace HO1263 := km hkp (ra (ra HO1263.out HO1279) HO1289) (fun k_ hk_ => oe hk_.1.2 (oe hk_.1.1.1.1.1.1.1.1.2 (oe hk_.2 (oe hk_.1.1.1.1.1.1.1.2 hk_.1.1.1.1.1.1.2)))) (fun k_ hk_ => ai hk_.1.1.1.1.1.1.1.1.1.1.1 (ai hk_.1.1.1.1.1.1.1.1.1.1.2 (ai hk_.1.1.1.1.1.1.1.1.1.2 (ai hk_.1.1.1.1.1.1.1.1.2 (ai hk_.1.1.1.1.1.1.1.2 (ai hk_.1.1.1.1.1.1.2 (ai hk_.1.1.1.1.1.2 (ai hk_.1.1.1.1.2 (ai hk_.1.1.1.2 hk_.1.1.2))))))))); replace HO1267 := km hkp (ra (ra (ra (ra HO1267.out HO1279) HO1285) HO1292) HO1295) (fun k_ hk_ => oe hk_.1.1.1.2 (oe hk_.1.1.2 (oe hk_.1.1.1.1.1.2 (oe hk_.1.2 hk_.2)))) (fun k_ hk_ => ai hk_.1.1.1.1.1.2 hk_.1.1.1.1.2); replace HO1270 := km hkp (ra (ra HO1270.out HO1279) HO1289) (fun k_ hk_ => oe hk_.1.2 (oe hk_.1.1.1.1.1.1.1.1.2 (oe hk_.2 (oe hk_.1.1.1.1.1.1.1.2 hk_.1.1.1.1.1.1.2)))) (fun k_ hk_ => ai hk_.1.1.1.1.1.1.1.1.1.1.1 (ai hk_.1.1.1.1.1.1.1.1.1.1.2 (ai hk_.1.1.1.1.1.1.1.1.1.2 (ai hk_.1.1.1.1.1.1.1.1.2 (ai hk_.1.1.1.1.1.1.1.2 (ai hk_.1.1.1.1.1.1.2 (ai hk_.1.1.1.1.1.2 (ai hk_.1.1.1.1.2 (ai hk_.1.1.1.2 hk_.1.1.2))))))))); replace HO1273 := km hkp (ra (ra HO1273.out HO1279) HO1289) (fun k_ hk_ => oe hk_.1.2 (oe hk_.1.1.1.1.1.1.1.1.2 (oe hk_.2 (oe hk_.1.1.1.1.1.1.1.2 hk_.1.1.1.1.1.1.2)))) (fun k_ hk_ => ai hk_.1.1.1.1.1.1.1.1.1.1.1 (ai hk_.1.1.1.1.1.1.1.1.1.1.2 (ai hk_.1.1.1.1.1.1.1.1.1.2 (ai hk_.1.1.1.1.1.1.1.1.2 (ai hk_.1.1.1.1.1.1.1.2 (ai hk_.1.1.1.1.1.1.2 (ai hk_.1.1.1.1.1.2 (ai hk_.1.1.1.1.2 (ai hk_.1.1.1.2 hk_.1.1.2))))))))); replace HO1276 := km hkp (ra (ra HO1276.out HO1279) HO1289) (fun k_ hk_ => oe hk_.1.2 (oe hk_.1.1.1.1.1.1.1.1.2 (oe hk_.2 (oe hk_.1.1.1.1.1.1.1.2 hk_.1.1.1.1.1.1.2)))) (fun k_ hk_ => ai hk_.1.1.1.1.1.1.1.1.1.1.1.2 (ai hk_.1.1.1.1.1.1.1.1.1.1.2 (ai hk_.1.1.1.1.1.1.1.1.1.2 (ai hk_.1.1.1.1.1.1.1.1.2 (ai hk_.1.1.1.1.1.1.1.2 (ai hk_.1.1.1.1.1.1.2 (ai hk_.1.1.1.1.1.2 (ai hk_.1.1.1.1.2 (ai hk_.1.1.1.2 hk_.1.1.2))))))))); replace BK1296 := dk (blk_kept (bk BK1296) hkp (fun hs_ => Or.elim hs_ (fun e_ => (fun e_ => (Kd.R_ne HO1279.out BK1296.out (by decide)) e_) e_) (fun e_ => Or.elim e_ (fun e_ => (fun e_ => (Kd.R_ne HO1285.out BK1296.out (by decide)) e_) e_) (fun e_ => Or.elim e_ (fun e_ => (fun e_ => (Kd.R_ne HO1289.out BK1296.out (by decide)) e_) e_) (fun e_ => Or.elim e_ (fun e_ => (fun e_ => (Kd.R_ne HO1292.out BK1296.out (by decide)) e_) e_) (fun e_ => (fun e_ => (Kd.R_ne HO1295.out BK1296.out (by decide)) e_) e_)))))); replace HO1299 := km hkp (ra (ra HO1299.out HO1279) HO1289) (fun k_ hk_ => oe hk_.1.2 (oe hk_.1.1.1.1.1.1.1.2 (oe hk_.2 (oe hk_.1.1.1.1.1.1.2 hk_.1.1.1.1.1.2)))) (fun k_ hk_ => ai hk_.1.1.1.1.1.1.1.1.1.1.1.2 (ai hk_.1.1.1.1.1.1.1.1.1.1.2 (ai hk_.1.1.1.1.1.1.1.1.1.2 (ai hk_.1.1.1.1.1.1.1.1.2 (ai hk_.1.1.1.1.1.1.1.2 (ai hk_.1.1.1.1.1.1.2 (ai hk_.1.1.1.1.1.2 (ai hk_.1.1.1.1.2 (ai hk_.1.1.1.2 hk_.1.1.2))))))))); replace HO1303 := km hkp (ra (ra (ra (ra HO1303.out HO1285) HO1289) HO1292) HO1295) (fun k_ hk_ => oe hk_.1.1.1.1.2 (oe hk_.1.1.1.2 (oe hk_.1.1.2 (oe hk_.1.2 hk_.2)))) (fun k_ hk_ => ai hk_.1.1.1.1.1.2 hk_.1.1.1.1.2); replace HO1309 := km hkp (ra (ra HO1309.out HO1279) HO1289) (fun k_ hk_ => oe hk_.1.2 (oe hk_.1.1.1.1.1.2 (oe hk_.2 (oe hk_.1.1.1.1.2 hk_.1.1.1.2)))) (fun k_ hk_ => ai hk_.1.1.1.1.1.1.1.1.1.2 (ai hk_.1.1.1.1.1.1.1.1.2 (ai hk_.1.1.1.1.1.1.1.2 (ai hk_.1.1.1.1.1.1.2 (ai hk_.1.1.1.1.1.2 (ai hk_.1.1.1.1.2 (ai hk_.1.1.1.2 (ai hk_.1.1.2 (ai hk_.1.1.1.1.1.1.1.1.1.1.1 hk_.1.1.1.1.1.1.1.1.1.1.2))))))))); replace HO1313 := km hkp (ra (ra (ra (ra HO1313.out HO1279) HO1285) HO1292) HO1295) (fun k_ hk_ => oe hk_.1.1.1.2 (oe hk_.1.1.2 (oe hk_.1.1.1.1.2 (oe hk_.1.2 hk_.2)))) (fun k_ hk_ => ai hk_.1.1.1.1.1.2 hk_.1.1.1.1.2); replace HO1285 := dk (Kd.R_reok rfl hy1 (fun k_ e_ => HO1285.out.1 k_ e_)); replace HO1292 := dk (Kd.R_reok rfl hy3 (fun k_ e_ => HO1292.out.1 k_ e_)); replace HO1295 := dk (Kd.R_reok rfl hy4 (fun k_ e_ => HO1295.out.1 k_ e_)); replace HO1316 := km hkp (ra (ra HO1316.out HO1279) HO1289) (fun k_ hk_ => oe hk_.1.2 (oe hk_.1.1.1.1.1.2 (oe hk_.2 (oe hk_.1.1.1.1.2 hk_.1.1.1.2)))) (fun k_ hk_ => ai hk_.1.1.1.1.1.1.1.1.1.2 (ai hk_.1.1.1.1.1.1.1.1.2 (ai hk_.1.1.1.1.1.1.1.2 (ai hk_.1.1.1.1.1.1.2 (ai hk_.1.1.1.1.1.2 (ai hk_.1.1.1.1.2 (ai hk_.1.1.1.2 (ai hk_.1.1.2 (ai hk_.1.1.1.1.1.1.1.1.1.1.1 hk_.1.1.1.1.1.1.1.1.1.1.2))))))))); replace HO1319 := km hkp (ra (ra HO1319.out HO1279) HO1289) (fun k_ hk_ => oe hk_.1.2 (oe hk_.1.1.1.1.1.2 (oe hk_.2 (oe hk_.1.1.1.1.2 hk_.1.1.1.2)))) (fun k_ hk_ => ai hk_.1.1.1.1.1.1.1.1.1.2 (ai hk_.1.1.1.1.1.1.1.1.2 (ai hk_.1.1.1.1.1.1.1.2 (ai hk_.1.1.1.1.1.1.2 (ai hk_.1.1.1.1.1.2 (ai hk_.1.1.1.1.2 (ai hk_.1.1.1.2 (ai hk_.1.1.2 (ai hk_.1.1.1.1.1.1.1.1.1.1.1 hk_.1.1.1.1.1.1.1.1.1.1.2))))))))); replace HO1279 := dk (Kd.R_reok rfl hy0 (fun k_ e_ => HO1279.out.1 k_ e_)); replace HO1289 := dk (Kd.R_reok rfl hy2 (fun k_ e_ => HO1289.out.1 k_ e_)); replace HB := dk (hb); (try clear hb hkp hy0 hy1 hy2 hy3 hy4)))
    (try simp only [Act.put, List.setIfInBounds_toArray, List.set_cons_zero, List.set_cons_succ])
    go_cut [50] (fun v50 wc => ∃ (kq : Nat) (x50_50 : Bool), v50 = .bool x50_50 ∧ Aside0 (laws_FnExactPointsLost.j0 kq a1 a2 t1274 t1297 x50_50 l0_0 a0_1 a0_2 a0_3 l0_4 a0_5 l0_6 l0_7 l0_8 = some r) ∧ Aside0 (kq ≤ k) ∧ Aside0 (Kd.R (Kd.int .i64) 3 wc w.heap.size (fun k_ => nb k_ Ao35 t1297.length co35 ∧ nb k_ Ao30 t1283.length co30 ∧ nb k_ Ao32 t1290.length co32 ∧ nb k_ Ao33 t1293.length co33) (.slice Ao36 t1274.length co36) t1274) ∧ Aside0 (Kd.R (Kd.int .i64) 3 wc w.heap.size (fun k_ => nb k_ Ao36 t1274.length co36 ∧ nb k_ Ao30 t1283.length co30 ∧ nb k_ Ao32 t1290.length co32 ∧ nb k_ Ao33 t1293.length co33) (.slice Ao35 t1297.length co35) t1297) ∧ Aside0 (Kd.R k139 139 wc w.heap.size (fun _ => True) (.slice Ao27 t1277.length co27) t1322) ∧ Aside0 (Kd.R (Kd.int .i64) 3 wc w.heap.size (fun k_ => nb k_ Ao36 t1274.length co36 ∧ nb k_ Ao35 t1297.length co35 ∧ nb k_ Ao32 t1290.length co32 ∧ nb k_ Ao33 t1293.length co33) (.slice Ao30 t1283.length co30) t1323) ∧ Aside0 (Kd.R k95 95 wc w.heap.size (fun _ => True) (.slice Ao31 t1287.length co31) t1324) ∧ Aside0 (Kd.R (Kd.int .i64) 3 wc w.heap.size (fun k_ => nb k_ Ao36 t1274.length co36 ∧ nb k_ Ao35 t1297.length co35 ∧ nb k_ Ao30 t1283.length co30 ∧ nb k_ Ao33 t1293.length co33) (.slice Ao32 t1290.length co32) t1325) ∧ Aside0 (Kd.R (Kd.int .i64) 3 wc w.heap.size (fun k_ => nb k_ Ao36 t1274.length co36 ∧ nb k_ Ao35 t1297.length co35 ∧ nb k_ Ao30 t1283.length co30 ∧ nb k_ Ao32 t1290.length co32) (.slice Ao33 t1293.length co33) t1326) ∧ Aside0 (wc.heap[gb1253]? = some (.cells #[(.slice A0_0 l0_0.length c0_0), .int .i64 a0_1, .int .i64 a0_2, .int .i64 a0_3, (.slice A0_4 l0_4.length c0_4), .bool a0_5, (.slice A0_6 l0_6.length c0_6), (.slice A0_7 l0_7.length c0_7), (.slice A0_8 l0_8.length c0_8)] 28 (0, 0))) ∧ Aside0 (wc.heap[gb1296]? = some (.cells #[(.slice Ao27 t1277.length co27), .int .i64 t1280, .int .i64 t1281, .int .i64 t1282, (.slice Ao30 t1283.length co30), .bool t1286, (.slice Ao31 t1287.length co31), (.slice Ao32 t1290.length co32), (.slice Ao33 t1293.length co33)] 36 (0, 0))) ∧ Aside0 (Below w.heap.size w wc))
    case first =>
     have H := HC51.out
     clear HC51
     by_cases c55 : t1321 < 0
     ·rw [if_pos c55] at H
      have c55b0 : decide (t1321 < 0) = true := decide_eq_true c55
      clear c55
      (first | rw [c55b0] | rw [c55b1] | (simp only [i64_w, i32_w]; rw [c55b0]) | skip)
      have H' := dk H
      clear H
      go_wp2
      go_meet
      case rel => exact ⟨_, (true), e2_, H', ⟨by first | omega | exact Nat.le_refl _⟩, ⟨rp HO1276⟩, ⟨rp HO1299⟩, ⟨ro HO1279 (fun _ hk => trivial)⟩, ⟨rp HO1285⟩, ⟨ro HO1289 (fun _ hk => trivial)⟩, ⟨rp HO1292⟩, ⟨rp HO1295⟩, ⟨bk BK1253⟩, ⟨bk BK1296⟩, ⟨bb HB⟩⟩
     ·rw [if_neg c55] at H
      have c55b0 : decide (t1321 < 0) = false := decide_eq_false c55
      clear c55
      (first | rw [c55b0] | rw [c55b1] | (simp only [i64_w, i32_w]; rw [c55b0]) | skip)
      replace H := Option.bind_eq_some_iff.mp H
      obtain ⟨t1327, A560, H⟩ := H
      try dsimp only at H
      have A56 := dk A560
      clear A560
      have H' := dk H
      clear H
      go_wp2_with (first | (go_at_call 28; (with_reducible refine (laws_eqIntS.calls k _ _ t1297 _ _ t1274 t1327 _ ?side1 ?side2 ?side3 ?side4 A56.out).mono ?_); (case side1 => exact cr HO1299); (case side2 => exact cl HO1299); (case side3 => exact cr HO1276); (case side4 => exact cl HO1276); rintro e w' ⟨rfl, ⟨nd, rfl⟩⟩))
      go_meet
      case rel => exact ⟨_, (!t1327), e2_, H', ⟨by first | omega | exact Nat.le_refl _⟩, ⟨rp HO1276⟩, ⟨rp HO1299⟩, ⟨ro HO1279 (fun _ hk => trivial)⟩, ⟨rp HO1285⟩, ⟨ro HO1289 (fun _ hk => trivial)⟩, ⟨rp HO1292⟩, ⟨rp HO1295⟩, ⟨bk BK1253⟩, ⟨bk BK1296⟩, ⟨bb HB⟩⟩
    case rest =>
     clear HC51
     (try clear c1)
     (try clear c2)
     (try clear p2)
     (try clear c3)
     (try clear c4)
     (try clear c5)
     (try clear c6)
     (try clear c9)
     (try clear c9b0)
     (try clear c9b1)
     (try clear c10)
     (try clear c13)
     (try clear c16)
     (try clear c18)
     (try clear c26)
     (try clear c27)
     (try clear c28)
     (try clear c37)
     (try clear c49)
     (try clear c52)
     (try clear c55)
     (try clear c55b0)
     (try clear c55b1)
     (try clear z16_0 z16_1 z16_2 z16_3 z16_4 z16_5 z16_6 z16_7 z16_8)
     (try clear z24_0 z24_1 z24_2 z24_3 z24_4 z24_5 z24_6 z24_7 z24_8)
     (try clear z29_0 z29_1 z29_2 z29_3 z29_4 z29_5 z29_6 z29_7 z29_8)
     (try clear z53_0 z53_1 z53_2 z53_3 z53_4 z53_5 z53_6 z53_7 z53_8)
     (try clear z7_0 z7_1 z7_2 z7_3 z7_4 z7_5 z7_6 z7_7 z7_8)
     (try clear v16_0 v16_1 v16_2 v16_3 v16_4 v16_5 v16_6 v16_7 v16_8)
     (try clear v24_0 v24_1 v24_2 v24_3 v24_4 v24_5 v24_6 v24_7 v24_8)
     (try clear v29_0 v29_1 v29_2 v29_3 v29_4 v29_5 v29_6 v29_7 v29_8)
     (try clear v53_0 v53_1 v53_2 v53_3 v53_4 v53_5 v53_6 v53_7 v53_8)
     (try clear v7_0 v7_1 v7_2 v7_3 v7_4 v7_5 v7_6 v7_7 v7_8)
     obtain ⟨kq, x50_50, rfl, HA, HJ50, HO_8, HO_10, HO_1297000, HO_1297004, HO_1297006, HO_1297007, HO_1297008, BK1253, BK1296, HB⟩ := hcut
     have hl1297000_50 := (Kd.R_reads' HO_1297000.out).1
     rw [hl1297000_50] at HO_1297000
     (try simp only [hl1297000_50] at BK1253 BK1296 HO_8 HO_10 HO_1297004 HO_1297006 HO_1297007 HO_1297008 ⊢)
     have hl1297004_50 := (Kd.R_reads' HO_1297004.out).1
     rw [hl1297004_50] at HO_1297004
     (try simp only [hl1297004_50] at BK1253 BK1296 HO_8 HO_10 HO_1297000 HO_1297006 HO_1297007 HO_1297008 ⊢)
     have hl1297006_50 := (Kd.R_reads' HO_1297006.out).1
     rw [hl1297006_50] at HO_1297006
     (try simp only [hl1297006_50] at BK1253 BK1296 HO_8 HO_10 HO_1297000 HO_1297004 HO_1297007 HO_1297008 ⊢)
     have hl1297007_50 := (Kd.R_reads' HO_1297007.out).1
     rw [hl1297007_50] at HO_1297007
     (try simp only [hl1297007_50] at BK1253 BK1296 HO_8 HO_10 HO_1297000 HO_1297004 HO_1297006 HO_1297008 ⊢)
     have hl1297008_50 := (Kd.R_reads' HO_1297008.out).1
     rw [hl1297008_50] at HO_1297008
     (try simp only [hl1297008_50] at BK1253 BK1296 HO_8 HO_10 HO_1297000 HO_1297004 HO_1297006 HO_1297007 ⊢)
     cases kq with
     | zero => exact absurd HA.out (by simp [laws_FnExactPointsLost.j0])
     | succ kj50 =>
      have H := HA.out
      clear HA
      simp only [laws_FnExactPointsLost.j0] at H
      by_cases c57 : x50_50 = true
      ·subst c57
       rw [if_pos rfl] at H
       obtain rfl := Option.some.inj H
       go_wp2
       go_ret
       exact ⟨ee, bb HB⟩
      ·replace c57 := Bool.eq_false_iff.mpr c57
       subst c57
       rw [if_neg (show ¬ (false = true) by decide)] at H
       replace H := Option.bind_eq_some_iff.mp H
       obtain ⟨⟨t1328, t1329⟩, A580, H⟩ := H
       try dsimp only at H
       have A58 := dk A580
       clear A580
       replace H := Option.bind_eq_some_iff.mp H
       obtain ⟨t1330, A590, H⟩ := H
       try dsimp only at H
       have A59 := dk A590
       clear A590
       have HC60 := dk H
       clear H
       go_upto_if 58 with (first | ((with_reducible refine gate_callee (f := 29) rfl ?_); refine gl (some 53) Try.func29 #[.slice Ao35 t1297.length co35, .int .i64 1] ?_; (with_reducible refine (laws_markIntS.calls kj50 (fun k_ => some k_ = (.slice Ao35 t1297.length co35 : Value).ownBlock) (.slice Ao35 t1297.length co35) t1297 1 t1328 t1329 w _ ?side1 ?side2 A58.out).mono ?_); (case side1 => exact bb HB); (case side2 => exact Kd.R_tight rfl HO_10.out); rintro e w61 ⟨rfl, hy0, hb, hkp⟩; refine ⟨_, rfl, ?_⟩; replace HO_8 := km hkp HO_8.out (fun k_ hk_ => hk_.1) (fun k_ hk_ => ai hk_.1 (ai hk_.2.1 (ai hk_.2.2.1 hk_.2.2.2))); replace HO_1297000 := dk (Kd.R_mono (ok' := fun k_ => True) (Kd.R_keptB ((Kd.R_apart' HO_1297000.out (Kd.R_typed HO_10.out) (by decide))) hkp (fun k_ hk_ hs_ => (hk_.2) hs_)) (fun k_ hk_ => trivial)); replace HO_1297004 := km hkp HO_1297004.out (fun k_ hk_ => hk_.2.1) (fun k_ hk_ => ai hk_.1 (ai hk_.2.1 (ai hk_.2.2.1 hk_.2.2.2))); replace HO_1297006 := dk (Kd.R_mono (ok' := fun k_ => True) (Kd.R_keptB ((Kd.R_apart' HO_1297006.out (Kd.R_typed HO_10.out) (by decide))) hkp (fun k_ hk_ hs_ => (hk_.2) hs_)) (fun k_ hk_ => trivial)); replace HO_1297007 := km hkp HO_1297007.out (fun k_ hk_ => hk_.2.1) (fun k_ hk_ => ai hk_.1 (ai hk_.2.1 (ai hk_.2.2.1 hk_.2.2.2))); replace HO_1297008 := km hkp HO_1297008.out (fun k_ hk_ => hk_.2.1) (fun k_ hk_ => ai hk_.1 (ai hk_.2.1 (ai hk_.2.2.1 hk_.2.2.2))); replace BK1253 := dk (blk_kept (bk BK1253) hkp (fun hs_ => (fun e_ => (Kd.R_ne HO_10.out BK1253.out (by decide)) e_) hs_)); replace BK1296 := dk (blk_kept (bk BK1296) hkp (fun hs_ => (fun e_ => (Kd.R_ne HO_10.out BK1296.out (by decide)) e_) hs_)); replace HO_10 := dk (Kd.R_reok rfl hy0 (fun k_ e_ => HO_10.out.1 k_ e_)); replace HB := dk (hb); (try clear hb hkp hy0)) | ((with_reducible refine gate_callee (f := 30) rfl ?_); refine goesL_ (some 56) rfl rfl Try.func30 (by kernel_rfl) rfl #[.slice Ao35 t1329.length co35, .int .i64 1] rfl (by (try simp only [List.map_toArray, List.map_cons, List.map_nil]); first | done | (rw [show t1329.length = t1297.length from (Kd.R_reads' HO_10.out).1.symm] <;> rfl) | rfl | (simp only [List.length_drop, List.length_take]; rfl)) ?_; (with_reducible refine (laws_heldIntS.calls kj50 _ _ t1329 1 t1330 _ ?side1 ?side2 A59.out).mono ?_); (case side1 => exact cr HO_10); (case side2 => rw [show t1329.length = t1297.length from (Kd.R_reads' HO_10.out).1.symm]; exact (Kd.R_reads' HO_10.out).2.1); rintro e w' ⟨rfl, ⟨nd, rfl⟩⟩; refine ⟨_, rfl, ?_⟩))
       (try simp only [Act.put, List.setIfInBounds_toArray, List.set_cons_zero, List.set_cons_succ])
       have H := HC60.out
       clear HC60
       by_cases c62 : t1330 < 0
       ·rw [if_pos c62] at H
        have c62b0 : decide (t1330 < 0) = true := decide_eq_true c62
        clear c62
        (first | rw [c62b0] | rw [c62b1] | (simp only [i64_w, i32_w]; rw [c62b0]) | skip)
        obtain rfl := Option.some.inj H
        go_wp2
        go_ret
        exact ⟨ee, bb HB⟩
       ·rw [if_neg c62] at H
        have c62b0 : decide (t1330 < 0) = false := decide_eq_false c62
        clear c62
        (first | rw [c62b0] | rw [c62b1] | (simp only [i64_w, i32_w]; rw [c62b0]) | skip)
        by_cases c63 : t1330 = t1328
        ·rw [if_pos c63] at H
         have c63b0 : (t1330 == t1328) = true := beq_iff_eq.mpr c63
         have c63b1 : (t1330 != t1328) = false := bne_eq_false_iff_eq.mpr c63
         clear c63
         replace H := Option.bind_eq_some_iff.mp H
         obtain ⟨⟨t1331, t1334, t1335, t1336, t1337, t1340, t1341, t1344, t1347⟩, A640, H⟩ := H
         try dsimp only at H
         have A64 := dk A640
         clear A640
         replace H := Option.bind_eq_some_iff.mp H
         obtain ⟨t1350, A650, H⟩ := H
         try dsimp only at H
         have A65 := dk A650
         clear A650
         replace H := Option.bind_eq_some_iff.mp H
         obtain ⟨t1353, A660, H⟩ := H
         try dsimp only at H
         have A66 := dk A660
         clear A660
         have HC67 := dk H
         clear H
         have hnb68 := NB1253_1296.out
         have hnc68 := NB1296_1253.out
         have ⟨z69_0, z69_1, z69_2, z69_3, z69_4, z69_5, z69_6, z69_7, z69_8, v69_0, v69_1, v69_2, v69_3, v69_4, v69_5, v69_6, v69_7, v69_8⟩ := rz9 BK1253
         go_upto_if 70 with (first | ((with_reducible refine gate_callee (f := 13) rfl ?_); refine gl (some 63) Try.func13 #[.agg #[.slice A0_0 l0_0.length c0_0, .int .i64 a0_1, .int .i64 a0_2, .int .i64 a0_3, .slice A0_4 l0_4.length c0_4, .bool a0_5, .slice A0_6 l0_6.length c0_6, .slice A0_7 l0_7.length c0_7, .slice A0_8 l0_8.length c0_8]] ?_; (with_reducible refine (laws_toBook.calls kj50 _ _ l0_0 a0_1 a0_2 a0_3 _ _ l0_4 a0_5 _ _ l0_6 _ _ l0_7 _ _ l0_8 t1331 t1334 t1335 t1336 t1337 t1340 t1341 t1344 t1347 _ ?side1 ?side2 ?side3 ?side4 ?side5 ?side6 ?side7 ?side8 ?side9 ?side10 A64.out).mono ?_); (case side1 => exact cc HR0_0 HB); (case side2 => exact HC0_0.out); (case side3 => exact cc HR0_4 HB); (case side4 => exact HC0_4.out); (case side5 => exact cc HR0_6 HB); (case side6 => exact HC0_6.out); (case side7 => exact cc HR0_7 HB); (case side8 => exact HC0_7.out); (case side9 => exact cc HR0_8 HB); (case side10 => exact HC0_8.out); rintro e w70 ⟨v1332, v1338, v1342, v1345, v1348, rfl, ho0, ho1, ho2, ho3, ho4, hb⟩; refine ⟨_, rfl, ?_⟩; have HO1333 := dk (Kd.R_lower (Kd.R_new' ho0 (rt HO_1297000)) (below_size (bb HB))); replace HO_1297000 := ke HO_1297000 ho0 hb; have HO1339 := dk (Kd.R_lower (Kd.R_new' (Kd.R_new' (Kd.R_new' (Kd.R_new' (Kd.R_new' ho1 (rt HO_8)) (rt HO_10)) (rt HO_1297004)) (rt HO_1297007)) (rt HO_1297008)) (below_size (bb HB))); have HO1343 := dk (Kd.R_lower (Kd.R_new' ho2 (rt HO_1297006)) (below_size (bb HB))); replace HO_1297006 := ke HO_1297006 ho2 hb; have HO1346 := dk (Kd.R_lower (Kd.R_new' (Kd.R_new' (Kd.R_new' (Kd.R_new' (Kd.R_new' ho3 (rt HO_8)) (rt HO_10)) (rt HO_1297004)) (rt HO_1297007)) (rt HO_1297008)) (below_size (bb HB))); have HO1349 := dk (Kd.R_lower (Kd.R_new' (Kd.R_new' (Kd.R_new' (Kd.R_new' (Kd.R_new' ho4 (rt HO_8)) (rt HO_10)) (rt HO_1297004)) (rt HO_1297007)) (rt HO_1297008)) (below_size (bb HB))); replace HO_8 := dk (Kd.R_mono (Kd.R_told (Kd.R_told (Kd.R_told (Kd.R_old (rr HO_8) hb) (Kd.R_base ho1)) (Kd.R_base ho3)) (Kd.R_base ho4)) (fun _ h_ => h_.1)); replace HO_10 := dk (Kd.R_mono (Kd.R_told (Kd.R_told (Kd.R_told (Kd.R_old (rr HO_10) hb) (Kd.R_base ho1)) (Kd.R_base ho3)) (Kd.R_base ho4)) (fun _ h_ => h_.1)); replace HO_1297004 := dk (Kd.R_mono (Kd.R_told (Kd.R_told (Kd.R_told (Kd.R_old (rr HO_1297004) hb) (Kd.R_base ho1)) (Kd.R_base ho3)) (Kd.R_base ho4)) (fun _ h_ => h_.1)); replace HO_1297007 := dk (Kd.R_mono (Kd.R_told (Kd.R_told (Kd.R_told (Kd.R_old (rr HO_1297007) hb) (Kd.R_base ho1)) (Kd.R_base ho3)) (Kd.R_base ho4)) (fun _ h_ => h_.1)); replace HO_1297008 := dk (Kd.R_mono (Kd.R_told (Kd.R_told (Kd.R_told (Kd.R_old (rr HO_1297008) hb) (Kd.R_base ho1)) (Kd.R_base ho3)) (Kd.R_base ho4)) (fun _ h_ => h_.1)); replace BK1253 := kb BK1253 hb; replace BK1296 := kb BK1296 hb; replace HB := hs_ HB hb; (try clear hb hb2 hk hi ho0 ho1 ho2 ho3 ho4); obtain ⟨Ao71, co71, eo71⟩ := Kd.R_slice HO1333.out; subst eo71; obtain ⟨Ao72, co72, eo72⟩ := Kd.R_slice HO1339.out; subst eo72; obtain ⟨Ao73, co73, eo73⟩ := Kd.R_slice HO1343.out; subst eo73; obtain ⟨Ao74, co74, eo74⟩ := Kd.R_slice HO1346.out; subst eo74; obtain ⟨Ao75, co75, eo75⟩ := Kd.R_slice HO1349.out; subst eo75) | ((with_reducible refine gate_callee (f := 27) rfl ?_); refine gl (some 66) Try.func27 #[.agg #[.slice Ao71 t1331.length co71, .int .i64 t1334, .int .i64 t1335, .int .i64 t1336, .slice Ao72 t1337.length co72, .bool t1340, .slice Ao73 t1341.length co73, .slice Ao74 t1344.length co74, .slice Ao75 t1347.length co75], .int .i64 a1, .int .i64 a2] ?_; (with_reducible refine (impl_PointsLost.calls kj50 _ _ t1331 t1334 t1335 t1336 _ _ t1337 t1340 _ _ t1341 _ _ t1344 _ _ t1347 a1 a2 t1350 _ ?side1 ?side2 ?side3 ?side4 ?side5 ?side6 ?side7 ?side8 ?side9 ?side10 A65.out).mono ?_); (case side1 => exact cr HO1333); (case side2 => exact cl HO1333); (case side3 => exact cr HO1339); (case side4 => exact cl HO1339); (case side5 => exact cr HO1343); (case side6 => exact cl HO1343); (case side7 => exact cr HO1346); (case side8 => exact cl HO1346); (case side9 => exact cr HO1349); (case side10 => exact cl HO1349); rintro e w76 ⟨v1351, rfl, ho0, hb⟩; refine ⟨_, rfl, ?_⟩; replace HO_1297000 := kr HO_1297000 hb; replace HO_1297006 := kr HO_1297006 hb; replace HO1333 := kr HO1333 hb; replace HO1343 := kr HO1343 hb; have HO1352 := dk (Kd.R_lower (Kd.R_new' (Kd.R_new' (Kd.R_new' (Kd.R_new' (Kd.R_new' (Kd.R_new' (Kd.R_new' (Kd.R_new' ho0 (rt HO_8)) (rt HO_10)) (rt HO_1297004)) (rt HO_1297007)) (rt HO_1297008)) (rt HO1339)) (rt HO1346)) (rt HO1349)) (below_size (bb HB))); replace HO_8 := ke HO_8 ho0 hb; replace HO_10 := ke HO_10 ho0 hb; replace HO_1297004 := ke HO_1297004 ho0 hb; replace HO_1297007 := ke HO_1297007 ho0 hb; replace HO_1297008 := ke HO_1297008 ho0 hb; replace HO1339 := ke HO1339 ho0 hb; replace HO1346 := ke HO1346 ho0 hb; replace HO1349 := ke HO1349 ho0 hb; replace BK1253 := kb BK1253 hb; replace BK1296 := kb BK1296 hb; replace HB := hs_ HB hb; (try clear hb hb2 hk hi ho0); obtain ⟨Ao77, co77, eo77⟩ := Kd.R_slice HO1352.out; subst eo77) | ((with_reducible refine gate_callee (f := 28) rfl ?_); refine gl (some 69) Try.func28 #[.slice Ao77 t1350.length co77, .slice Ao36 t1274.length co36] ?_; (with_reducible refine (laws_eqIntS.calls kj50 _ _ t1350 _ _ t1274 t1353 _ ?side1 ?side2 ?side3 ?side4 A66.out).mono ?_); (case side1 => exact cr HO1352); (case side2 => exact cl HO1352); (case side3 => exact cr HO_8); (case side4 => exact cl HO_8); rintro e w' ⟨rfl, ⟨nd, rfl⟩⟩; refine ⟨_, rfl, ?_⟩))
         (try simp only [Act.put, List.setIfInBounds_toArray, List.set_cons_zero, List.set_cons_succ])
         have H := HC67.out
         clear HC67
         by_cases c78 : t1353 = true
         ·subst c78
          rw [if_pos rfl] at H
          replace H := Option.bind_eq_some_iff.mp H
          obtain ⟨t1354, A790, H⟩ := H
          try dsimp only at H
          have A79 := dk A790
          clear A790
          have HC80 := dk H
          clear H
          go_upto_if 75 with (first | ((with_reducible refine gate_callee (f := 30) rfl ?_); refine goesL_ (some 73) rfl rfl Try.func30 (by kernel_rfl) rfl #[.slice Ao35 t1329.length co35, .int .i64 1] rfl (by (try simp only [List.map_toArray, List.map_cons, List.map_nil]); first | done | (rw [show t1329.length = t1297.length from (Kd.R_reads' HO_10.out).1.symm] <;> rfl) | rfl | (simp only [List.length_drop, List.length_take]; rfl)) ?_; (with_reducible refine (laws_heldIntS.calls kj50 _ _ t1329 1 t1354 _ ?side1 ?side2 A79.out).mono ?_); (case side1 => exact cr HO_10); (case side2 => rw [show t1329.length = t1297.length from (Kd.R_reads' HO_10.out).1.symm]; exact (Kd.R_reads' HO_10.out).2.1); rintro e w' ⟨rfl, ⟨nd, rfl⟩⟩; refine ⟨_, rfl, ?_⟩))
          (try simp only [Act.put, List.setIfInBounds_toArray, List.set_cons_zero, List.set_cons_succ])
          have H := HC80.out
          clear HC80
          by_cases c81 : t1354 < 0
          ·rw [if_pos c81] at H
           have c81b0 : decide (t1354 < 0) = true := decide_eq_true c81
           clear c81
           (first | rw [c81b0] | rw [c81b1] | (simp only [i64_w, i32_w]; rw [c81b0]) | skip)
           obtain rfl := Option.some.inj H
           go_wp2
           go_ret
           exact ⟨ee, bb HB⟩
          ·rw [if_neg c81] at H
           have c81b0 : decide (t1354 < 0) = false := decide_eq_false c81
           clear c81
           (first | rw [c81b0] | rw [c81b1] | (simp only [i64_w, i32_w]; rw [c81b0]) | skip)
           by_cases c82 : t1354 = t1328
           ·rw [if_pos c82] at H
            have c82b0 : (t1354 == t1328) = true := beq_iff_eq.mpr c82
            have c82b1 : (t1354 != t1328) = false := bne_eq_false_iff_eq.mpr c82
            clear c82
            obtain rfl := Option.some.inj H
            go_wp2
            go_ret
            exact ⟨ee, bb HB⟩
           ·rw [if_neg c82] at H
            have c82b0 : (t1354 == t1328) = false := beq_eq_false_iff_ne.mpr c82
            have c82b1 : (t1354 != t1328) = true := bne_iff_ne.mpr c82
            obtain rfl := Option.some.inj H
            go_wp2
            go_ret
            exact ⟨ee, bb HB⟩
         ·replace c78 := Bool.eq_false_iff.mpr c78
          subst c78
          rw [if_neg (show ¬ (false = true) by decide)] at H
          obtain rfl := Option.some.inj H
          go_wp2
          go_ret
          exact ⟨ee, bb HB⟩
        ·rw [if_neg c63] at H
         have c63b0 : (t1330 == t1328) = false := beq_eq_false_iff_ne.mpr c63
         have c63b1 : (t1330 != t1328) = true := bne_iff_ne.mpr c63
         obtain rfl := Option.some.inj H
         go_wp2
         go_ret
         exact ⟨ee, bb HB⟩
   ·replace c49 := Bool.eq_false_iff.mpr c49
    subst c49
    rw [if_neg (show ¬ (false = true) by decide)] at H
    obtain rfl := Option.some.inj H
    go_wp2
    go_ret
    exact ⟨ee, bb HB⟩
  ·replace c37 := Bool.eq_false_iff.mpr c37
   subst c37
   rw [if_neg (show ¬ (false = true) by decide)] at H
   obtain rfl := Option.some.inj H
   go_wp2
   go_ret
   exact ⟨ee, bb HB⟩
end Go.Proofs.Ythfefanapneocaa.Q
namespace Go.Proofs.Ythfefanapneocaa.Opens
open Go.ChangeShapes Go.WideShapes Go.ChangeAt Go.RowKit Go.Proofs.Ythfefanapneocaa.Q Go.Proofs.YthfefanapneocaaW.PrintWords Go.Proofs.YthfefanapneocaaW.PrintLast
section
variable {H : Type} (enc : TypeId × Value → H) (P : Program) (W : World)
def Opens {α : Type} (t : TypeId) (d : Kd α) (ok : α → Prop) : Prop := ∀ (fuel : Nat) (cs : List Value) (x : DataW H × List MemPlace), DataW.trod enc P W 0 (fun _ => true) true fuel t cs = some x → ∃ a, d.K W a cs ∧ ok a
def OpensFs {α : Type} (off : Nat) (fs : List Field) (d : Kd α) (ok : α → Prop) : Prop :=
  ∀ (n : Nat) (cs : List Value) (xs : List (DataW H × List MemPlace)), (∀ (i : Nat) (f : Field), fs[i]? = some f → DataW.trod enc P W 0 (fun _ => true) true n f.type ((cs.drop f.offset).take (P.cellsOf f.type)) = xs[i]?) → xs.length = fs.length → cs.length = off + d.sz → ∃ a, d.K W a (cs.drop off) ∧ ok a
variable {enc P W}
variable {α β : Type} {t : TypeId} {d : Kd α} {d2 : Kd β} {ok : α → Prop} {ok2 : β → Prop}
theorem int {k : IntKind} (ht : P.underlying t = some (.int k)) : Opens enc P W t (Kd.int k) (fun n => (Lit.int k n).wf = true) := fun fuel cs x h => by
  obtain ⟨n, rfl, _, hw⟩ := DataW.trod_int ht h
  exact ⟨n, rfl, hw⟩
theorem bool (ht : P.underlying t = some .bool) : Opens enc P W t Kd.bool (fun _ => True) := fun fuel cs x h => by
  obtain ⟨b, rfl, _⟩ := DataW.trod_bool ht h
  exact ⟨b, rfl, trivial⟩
theorem string (ht : P.underlying t = some .string) : Opens enc P W t Kd.string (fun s => s.size ≤ maxLen) := fun fuel cs x h => by
  obtain ⟨s, rfl, _, hs⟩ := DataW.trod_string ht h
  exact ⟨s, rfl, hs⟩
theorem cells_get {w : World} {base : Nat} {a : Addr} {n : Nat} {cs : List Value} (h : w.cells? base a n = some cs) : cs.length = n ∧ ∀ i u, cs[i]? = some u → w.cell? (a.add i) = some u := by
  unfold World.cells? at h
  split at h
  · have hl := mapM_some_length h
    refine ⟨by simpa using hl, fun i u hi => ?_⟩
    have hlt : i < n := by have := (List.getElem?_eq_some_iff.mp hi).1; simp at hl; omega
    have := mapM_some_get h i i (by simp [hlt])
    rw [this, hi]
  · cases h
theorem add_add (a : Addr) (i j : Nat) : (a.add i).add j = a.add (i + j) := by
  unfold Addr.add
  by_cases hi : i = 0
  · subst hi; simp
  · by_cases hj : j = 0
    · subst hj; simp [hi]
    · simp [hi, hj]; omega
theorem slice {e : TypeId} (ht : P.underlying t = some (.slice e)) (he : Opens enc P W e d ok) (hc : P.cellsOf e = d.sz) (q : Nat) : Opens enc P W t (Kd.slice q d) (fun l => l.length ≤ maxLen ∧ ∀ x ∈ l, ok x) := fun fuel cs x h => by
  rcases DataW.trod_slice ht h with ⟨rfl, _⟩ | ⟨a, len, cap, elems, rest, n, _, rfl, _, _, hl, hm, hlen, hel, _⟩
  · exact ⟨[], ⟨none, 0, rfl, Nat.le_refl _, rfl, Nat.zero_le _, fun h => absurd h (Nat.not_lt_zero _)⟩, Nat.zero_le _, fun x hx => by cases hx⟩
  · have each : ∀ i : Fin len, ∃ p : α, ok p ∧ ∃ c, c.length = d.sz ∧ d.K W p c ∧ ∀ j u, c[j]? = some u → W.cell? (a.add (i.1 * d.sz + j)) = some u := by
      intro i
      have h1 := hel i.1 i.2
      obtain ⟨y, hy⟩ : ∃ y, elems[i.1]? = some y := ⟨elems[i.1]'(by have := i.2; omega), List.getElem?_eq_getElem (by have := i.2; omega)⟩
      rw [hy, Option.bind_eq_some_iff] at h1
      obtain ⟨c, hcs, htr⟩ := h1
      rw [hc] at hcs
      obtain ⟨p, hK, hok⟩ := he _ _ _ htr
      obtain ⟨h2, h3⟩ := cells_get hcs
      exact ⟨p, hok, c, h2, hK, fun j u hj => by rw [← add_add]; exact h3 j u hj⟩
    let f : Fin len → α := fun i => (each i).choose
    have hf : ∀ i : Fin len, ok (f i) ∧ ∃ c, c.length = d.sz ∧ d.K W (f i) c ∧ ∀ j u, c[j]? = some u → W.cell? (a.add (i.1 * d.sz + j)) = some u := fun i => (each i).choose_spec
    have hm' : len ≤ maxLen := Nat.le_trans hl hm
    refine ⟨List.ofFn f, ⟨some a, cap, by simp, by simpa using hl, by simp, by simpa [maxLen] using hm', fun _ => ⟨a, rfl, fun j p hj => ?_⟩⟩, by simpa using hm', fun x hx => ?_⟩
    · have hlt : j < len := by have := (List.getElem?_eq_some_iff.mp hj).1; simpa using this
      have : p = f ⟨j, hlt⟩ := by rw [List.getElem?_eq_getElem (by simpa using hlt)] at hj; simpa using hj.symm
      subst this
      obtain ⟨_, c, h1, h2, h3⟩ := hf ⟨j, hlt⟩
      exact ⟨c, h1, h2, h3⟩
    · obtain ⟨i, hi, rfl⟩ := List.mem_iff_getElem.mp hx
      simp only [List.getElem_ofFn]
      exact (hf _).1
theorem one {f : Field} (off : Nat) (ho : f.offset = off) (he : Opens enc P W f.type d ok) (hc : P.cellsOf f.type = d.sz) : OpensFs enc P W off [f] d ok := fun n cs xs h hx hl => by
  have h0 := h 0 f rfl
  have hz : xs.length = 1 := hx
  obtain ⟨y, rfl⟩ := List.length_eq_one_iff.mp hz
  rw [ho, hc, List.take_of_length_le (by simp; omega)] at h0
  exact he _ _ _ h0
theorem cons {f : Field} {fs : List Field} (off off2 : Nat) (ho : f.offset = off) (he : Opens enc P W f.type d ok) (hc : P.cellsOf f.type = d.sz) (h2 : off + d.sz = off2) (hr : OpensFs enc P W off2 fs d2 ok2) :
    OpensFs enc P W off (f :: fs) (Kd.pair d d2) (fun x => ok x.1 ∧ ok2 x.2) := fun n cs xs h hx hl => by
  cases xs with
  | nil => simp at hx
  | cons y ys =>
    have h0 := h 0 f rfl
    rw [ho, hc] at h0
    obtain ⟨p, hp, hok⟩ := he _ _ _ h0
    have hl' : cs.length = off + (d.sz + d2.sz) := hl
    obtain ⟨q, hq, hok2⟩ := hr n cs ys (fun i g hi => h (i + 1) g hi) (by simpa using hx) (by omega)
    refine ⟨(p, q), ⟨_, _, ?_, hp, hq⟩, hok, hok2⟩
    rw [← h2, ← List.drop_drop, List.take_append_drop]
theorem struct {fs : Array Field} (ht : P.underlying t = some (.struct fs)) (hc : P.cellsOf t = d.sz) (h : OpensFs enc P W 0 fs.toList d ok) : Opens enc P W t d ok := fun fuel cs x hx => by
  obtain ⟨xs, n, _, _, hl, hxs, hf⟩ := DataW.trod_struct ht hx
  have := h n cs xs (fun i f hi => hf i f (by simpa using hi)) (by simpa using hxs) (by omega)
  simpa using this
theorem iso {f : β → α} (g : α → β) (hg : ∀ x, f (g x) = x) (h : Opens enc P W t d ok) : Opens enc P W t (Kd.iso d f) (fun y => ok (f y)) := fun fuel cs x hx => by
  obtain ⟨p, hp, hok⟩ := h _ _ _ hx
  exact ⟨g p, by show d.K W (f (g p)) cs; rw [hg]; exact hp, by show ok (f (g p)); rw [hg]; exact hok⟩
end
theorem trod_struct_val {H : Type} {enc : TypeId × Value → H} {P : Program} {W : World} {r : Reach} {b0 : Nat} {t : TypeId} {v : Value} {fs : Array Field} {α : Type} {d : Kd α} {ok : α → Prop} {dd : DataW H} {ps : List MemPlace} (ht : P.underlying t = some (.struct fs)) (hval : Value.okWide P W r b0 t v) (hd : DataW.Trod enc P W 0 (fun _ => true) true t v dd ps) (h : Opens enc P W t d ok) :
    ∃ cs a, v = .agg cs ∧ d.K W a cs.toList ∧ ok a := by
  obtain ⟨cs, rfl, _⟩ := okWide_struct ht hval
  obtain ⟨fuel, hf⟩ := hd
  obtain ⟨a, hK, hok⟩ := h _ _ _ hf
  exact ⟨cs, a, rfl, by simpa [Value.cells] using hK, hok⟩
end Go.Proofs.Ythfefanapneocaa.Opens
namespace Go.Proofs.Ythfefanapneocaa.Q
open Go.RowKit Go.Proofs.YthfefanapneocaaW.PrintWords Go.Proofs.YthfefanapneocaaW.PrintLast Go.Proofs.YthfefanapneocaaW.PrintMore
attribute [local go_sem] max2_int min2_int max_two min_two max_three min_three max_four min_four
set_option linter.unusedVariables false
set_option linter.unusedSimpArgs false
def laws_heldRules.f (k : Nat) (a0_0 : Int) (a0_1 : Int) (a0_2 : Int) (l0_3 : List Int) (a0_4 : Bool) (a1 : Int) : Option (Int) := (laws_heldIntS.f k l0_3 a1).bind fun t482 => (if t482 < 0 then (some (-1)) else (some t482))
def laws_heldTeamS.l0 : Nat → List (S139) → Int → Int → Option (Int)
 | 0, _, _, _ => none
 | k + 1, x0, x1, x5 => if x5 < (x0.length : Int) then (if 0 ≤ x5 then ((laws_markText.f k x1).bind fun t478 => (if ((rd_T139 x0 x5).f0).toList = t478.toList then (if ((rd_T139 x0 x5).f1) = (wrap64 (x1 + 1)) then (if ((rd_T139 x0 x5).f2) = (wrap64 ((wrap64 (x1 + 1)) + 1)) then (laws_heldTeamS.l0 k x0 (wrap64 ((wrap64 ((wrap64 (x1 + 1)) + 1)) + 1)) (wrap64 (x5 + 1))) else (some (-1))) else (some (-1))) else (some (-1)))) else (none)) else (some x1)
def laws_heldTeamS.f (k : Nat) (l0 : List (S139)) (a1 : Int) : Option (Int) := laws_heldTeamS.l0 k l0 a1 0
def laws_heldTeamS.T4 : Bool × List (List Nat × List Nat) := (true, [([], []), ([], []), ([0, 1], [0, 1]), ([2], [2]), ([3], [3]), ([], []), ([5], [5]), ([4, 6], [4, 6])])
def laws_heldTeamS.B4 : List Nat := [0, 0, 3, 7, 15, 0, 32, 127]
def laws_heldGameS.l0 : Nat → List (S95) → Int → Int → Option (Int)
 | 0, _, _, _ => none
 | k + 1, x0, x1, x5 => if x5 < (x0.length : Int) then (if 0 ≤ x5 then (if ((rd_T95 x0 x5).f0) = x1 then (if ((rd_T95 x0 x5).f1) = (wrap64 (x1 + 1)) then (if ((rd_T95 x0 x5).f2) = (wrap64 ((wrap64 (x1 + 1)) + 1)) then (if ((rd_T95 x0 x5).f3) = (wrap64 ((wrap64 ((wrap64 (x1 + 1)) + 1)) + 1)) then (if ((rd_T95 x0 x5).f4) = (wrap64 ((wrap64 ((wrap64 ((wrap64 (x1 + 1)) + 1)) + 1)) + 1)) then (laws_heldGameS.l0 k x0 (wrap64 ((wrap64 ((wrap64 ((wrap64 ((wrap64 (x1 + 1)) + 1)) + 1)) + 1)) + 1)) (wrap64 (x5 + 1))) else (some (-1))) else (some (-1))) else (some (-1))) else (some (-1))) else (some (-1))) else (none)) else (some x1)
def laws_heldGameS.f (k : Nat) (l0 : List (S95)) (a1 : Int) : Option (Int) := laws_heldGameS.l0 k l0 a1 0
def laws_heldBook.f (k : Nat) (l0_0 : List (S139)) (a0_1 : Int) (a0_2 : Int) (a0_3 : Int) (l0_4 : List Int) (a0_5 : Bool) (l0_6 : List (S95)) (l0_7 : List Int) (l0_8 : List Int) (a1 : Int) : Option (Int) := (laws_heldTeamS.f k l0_0 a1).bind fun t489 => (if t489 < 0 then (some (-1)) else ((laws_heldRules.f k a0_1 a0_2 a0_3 l0_4 a0_5 t489).bind fun t490 => (if t490 < 0 then (some (-1)) else ((laws_heldGameS.f k l0_6 t490).bind fun t491 => (if t491 < 0 then (some (-1)) else ((laws_heldIntS.f k l0_7 t491).bind fun t492 => (if t492 < 0 then (some (-1)) else ((laws_heldIntS.f k l0_8 t492).bind fun t493 => (if t493 < 0 then (some (-1)) else (some t493))))))))))
end Go.Proofs.Ythfefanapneocaa.Q
namespace Go.Proofs.Ythfefanapneocaa.Q
open Go.RowKit Go.Proofs.YthfefanapneocaaW.PrintWords Go.Proofs.YthfefanapneocaaW.PrintLast Go.Proofs.YthfefanapneocaaW.PrintMore
abbrev Team := S139
abbrev Game := S95
theorem wrap_id (x : Int) (h0 : -9223372036854775808 ≤ x) (h1 : x ≤ 9223372036854775807) : wrap64 x = x := by unfold wrap64; omega
theorem Ev.down {β : Type} (n : Nat) (F : Nat → Nat → Option β) (V : Nat → β) (hend : Ev (F n) (V n)) (hstep : ∀ i, i < n → Ev (F (i + 1)) (V (i + 1)) → Ev (F i) (V i)) : Ev (F 0) (V 0) := by
  have key : ∀ d i, i + d = n → Ev (F i) (V i) := by
    intro d
    induction d with
    | zero => intro i hi; obtain rfl : i = n := by omega
              exact hend
    | succ d ih => intro i hi; exact hstep i (by omega) (ih (i + 1) (by omega))
  exact key n 0 (by omega)
theorem Ev.eq {β : Type} {g : Nat → Option β} {r q : β} (h : Ev g r) (e : r = q) : Ev g q := e ▸ h
theorem Ev.loop {β : Type} {g : Nat → Option β} {r : β} (n : Nat) (F : Nat → Nat → Option β) (V : Nat → β) (hg : ∀ k, g k = F 0 k) (hr : V 0 = r) (hend : Ev (F n) (V n)) (hstep : ∀ i, i < n → Ev (F (i + 1)) (V (i + 1)) → Ev (F i) (V i)) : Ev g r :=
  Ev.eq (Ev.congr hg (Ev.down n F V hend hstep)) hr
theorem Ev.from {β : Type} {g : Nat → Option β} {r : β} (K : Nat) (h : ∀ k, K < k → g k = some r) : Ev g r := ⟨K + 1, fun k hk => h k (by omega)⟩
theorem Ev.val {β : Type} {g : Nat → Option β} {r : β} (h : ∀ k, g k = some r) : Ev g r := ⟨0, fun k _ => h k⟩
theorem rd_eq (l : List Int) (i : Nat) (h : i < l.length) : rd l (i : Int) = l[i] := by
  unfold rd; simp [h]
theorem rdG_eq (l : List Game) (i : Nat) (h : i < l.length) : rd_T95 l (i : Int) = l[i] := by
  unfold rd_T95; simp [h]
theorem wrap_succ (i : Nat) (h : i < 4611686018427387904) : wrap64 ((i : Int) + 1) = ((i + 1 : Nat) : Int) := by unfold wrap64; omega
def indexI (l : List Int) (x : Int) : Int := idxI (fun y => decide (x = y)) l
theorem index_eq (l : List Int) (x : Int) (hl : l.length ≤ 2305843009213693952) (k : Nat) (hk : l.length < k) : slices_Index_int_int.f k l x = some (indexI l x) := by
  have key : ∀ (d i : Nat), l.length - i = d → i ≤ l.length → ∀ k, d < k → slices_Index_int_int.l0 k l x l.length i = some (if idxI (fun y => decide (x = y)) (l.drop i) < 0 then -1 else idxI (fun y => decide (x = y)) (l.drop i) + i) := by
    intro d
    induction d with
    | zero =>
      intro i hd hi k hk
      obtain ⟨k, rfl⟩ : ∃ m, k = m + 1 := ⟨k - 1, by omega⟩
      simp only [slices_Index_int_int.l0]
      rw [if_neg (by omega), List.drop_eq_nil_of_le (by omega)]
      rfl
    | succ d ih =>
      intro i hd hi k hk
      obtain ⟨k, rfl⟩ : ∃ m, k = m + 1 := ⟨k - 1, by omega⟩
      have hlt : i < l.length := by omega
      have := ih (i + 1) (by omega) (by omega) k (by omega)
      simp only [slices_Index_int_int.l0]
      rw [if_pos (by omega), if_pos (by omega), if_pos (by omega), rd_eq l i hlt, wrap_succ i (by omega), this, List.drop_eq_getElem_cons hlt]
      simp only [idxI]
      grind
  unfold slices_Index_int_int.f indexI
  have := key l.length 0 (by omega) (by omega) k hk
  rw [List.drop_zero] at this
  have h2 := idxI_any (fun y => decide (x = y)) l
  refine Eq.trans this ?_
  congr 1
  by_cases h : idxI (fun y => decide (x = y)) l < 0
  · rw [if_pos h]
    have : ∀ l : List Int, idxI (fun y => decide (x = y)) l = -1 ∨ 0 ≤ idxI (fun y => decide (x = y)) l := by
      intro l
      induction l with
      | nil => exact .inl rfl
      | cons y l ih => simp only [idxI]; grind
    rcases this l with h3 | h3
    · exact h3.symm
    · omega
  · rw [if_neg h]; simp
def hasI (l : List Int) (x : Int) : Bool := l.any fun y => decide (x = y)
theorem contains_eq (l : List Int) (x : Int) (hl : l.length ≤ 2305843009213693952) (k : Nat) (hk : l.length < k) : slices_Contains_int_int.f k l x = some (hasI l x) := by
  unfold slices_Contains_int_int.f hasI
  rw [index_eq l x hl k hk, ← idxI_any]
  rfl
theorem isKey_eq (x : Int) : impl_isKey.f x = some (withinB x 1 8) := by unfold impl_isKey.f; rw [within_eq]; rfl
def ladderFrom : List Int → List Int → Bool
  | _, [] => true
  | pre, k :: l => withinB k 1 8 && !hasI pre k && ladderFrom (pre ++ [k]) l
def rulesOkB (win draw loss : Int) (ladder : List Int) : Bool := ladderFrom [] ladder && decide (0 ≤ loss) && decide (loss ≤ draw) && decide (draw ≤ win) && decide (win ≤ 10) && withinB ladder.length 1 8
theorem rulesOk_eq (win draw loss : Int) (l : List Int) (again : Bool) (hl : l.length ≤ 2305843009213693952) (k : Nat) (hk : 2 * l.length + 2 < k) : impl_RulesOk.f k win draw loss l again = some (rulesOkB win draw loss l) := by
  have key : ∀ (d i : Nat), l.length - i = d → i ≤ l.length → ∀ k, l.length + d + 1 < k → impl_RulesOk.l0 k l l.length i win draw loss l again = some (ladderFrom (l.take i) (l.drop i) && decide (0 ≤ loss) && decide (loss ≤ draw) && decide (draw ≤ win) && decide (win ≤ 10) && withinB l.length 1 8) := by
    intro d
    induction d with
    | zero =>
      intro i hd hi k hk
      obtain ⟨k, rfl⟩ : ∃ m, k = m + 1 := ⟨k - 1, by omega⟩
      simp only [impl_RulesOk.l0]
      rw [if_neg (by omega), List.drop_eq_nil_of_le (by omega), ladderFrom, within_eq]
      simp only [Option.bind_some]
      grind
    | succ d ih =>
      intro i hd hi k hk
      obtain ⟨k, rfl⟩ : ∃ m, k = m + 1 := ⟨k - 1, by omega⟩
      have hlt : i < l.length := by omega
      have := ih (i + 1) (by omega) (by omega) k (by omega)
      simp only [impl_RulesOk.l0]
      rw [if_pos (by omega), if_pos (by omega), if_pos (by omega), rd_eq l i hlt, wrap_succ i (by omega), this, List.drop_eq_getElem_cons hlt, isKey_eq, Int.toNat_natCast, contains_eq _ _ (by rw [List.length_take]; omega) k (by rw [List.length_take]; omega)]
      simp only [Option.bind_some, ladderFrom]
      rw [if_pos (show (i : Int) ≤ l.length by omega), List.take_succ_eq_append_getElem hlt]
      cases withinB l[i] 1 8 <;> cases hasI (l.take i) l[i] <;> simp
  unfold impl_RulesOk.f rulesOkB
  have := key l.length 0 (by omega) (by omega) k (by omega)
  simpa using this
def gameOkB (n : Int) (g : Game) : Bool := withinB n 2 8 && !decide (g.f0 = g.f1) && withinB g.f0 0 (n - 1) && withinB g.f1 0 (n - 1) && withinB g.f4 0 4 && withinB g.f2 0 (if g.f4 = 1 then 99 else 0) && withinB g.f3 0 (if g.f4 = 1 then 99 else 0)
theorem gameOk_eq (n : Int) (g : Game) (k : Nat) (hk : 0 < k) : impl_GameOk.f k n g.f0 g.f1 g.f2 g.f3 g.f4 = some (gameOkB n g) := by
  obtain ⟨k, rfl⟩ : ∃ m, k = m + 1 := ⟨k - 1, by omega⟩
  have hw : withinB n 2 8 = true → wrap64 (n - 1) = n - 1 := by
    intro h
    simp [withinB] at h
    unfold wrap64; omega
  have key : ∀ most : Int, impl_GameOk.j0 (k + 1) n most g.f0 g.f1 g.f2 g.f3 g.f4 = some (withinB n 2 8 && !decide (g.f0 = g.f1) && withinB g.f0 0 (n - 1) && withinB g.f1 0 (n - 1) && withinB g.f4 0 4 && withinB g.f2 0 most && withinB g.f3 0 most) := by
    intro most
    simp only [impl_GameOk.j0, within_eq, Option.bind_some]
    cases h : withinB n 2 8 with
    | false => simp
    | true =>
      rw [hw h]
      by_cases h1 : g.f0 = g.f1 <;> simp [h1] <;> grind
  unfold impl_GameOk.f gameOkB
  by_cases h : g.f4 = 1
  · rw [if_pos h, key, if_pos h]
  · rw [if_neg h, key, if_neg h]
def seasonFrom (n : Int) : List Game → List Game → Bool
  | _, [] => true
  | pre, g :: l => gameOkB n g && !pre.any (gameIs g.f0 g.f1) && seasonFrom n (pre ++ [g]) l
def seasonOkB (n : Int) (l : List Game) : Bool := seasonFrom n [] l && decide ((l.length : Int) ≤ 60)
theorem seasonOk_eq (n : Int) (l : List Game) (hl : l.length ≤ 2305843009213693952) (k : Nat) (hk : l.length + 2 < k) : impl_SeasonOk.f k n l = some (seasonOkB n l) := by
  have key : ∀ (d i : Nat), l.length - i = d → i ≤ l.length → ∀ k, d + 1 < k → impl_SeasonOk.l0 k n l l l.length i = some (seasonFrom n (l.take i) (l.drop i) && decide ((l.length : Int) ≤ 60)) := by
    intro d
    induction d with
    | zero =>
      intro i hd hi k hk
      obtain ⟨k, rfl⟩ : ∃ m, k = m + 1 := ⟨k - 1, by omega⟩
      simp only [impl_SeasonOk.l0]
      rw [if_neg (by omega), List.drop_eq_nil_of_le (by omega), seasonFrom]
      rfl
    | succ d ih =>
      intro i hd hi k hk
      obtain ⟨k, rfl⟩ : ∃ m, k = m + 1 := ⟨k - 1, by omega⟩
      have hlt : i < l.length := by omega
      have := ih (i + 1) (by omega) (by omega) k (by omega)
      simp only [impl_SeasonOk.l0]
      rw [if_pos (by omega), if_pos (by omega), if_pos (by omega), rdG_eq l i hlt, wrap_succ i (by omega), this, List.drop_eq_getElem_cons hlt, gameOk_eq _ _ k (by omega), Int.toNat_natCast]
      simp only [Option.bind_some, seasonFrom, impl_GameOf.f]
      rw [if_pos (show (i : Int) ≤ l.length by omega), List.take_succ_eq_append_getElem hlt, ← idxI_any]
      by_cases h2 : idxI (gameIs l[i].f0 l[i].f1) (l.take i) ≥ 0
      · rw [if_pos h2, decide_eq_true (show 0 ≤ idxI (gameIs l[i].f0 l[i].f1) (l.take i) from h2)]
        cases gameOkB n l[i] <;> simp
      · rw [if_neg h2, decide_eq_false (show ¬ 0 ≤ idxI (gameIs l[i].f0 l[i].f1) (l.take i) from h2)]
        cases gameOkB n l[i] <;> simp
  unfold impl_SeasonOk.f seasonOkB
  have := key l.length 0 (by omega) (by omega) k (by omega)
  simpa using this
def penaltiesB (l : List Int) (n : Int) : Bool := decide ((l.length : Int) = n) && !l.any (fun x => !withinB x 0 1000)
def bookOkB (field : List Team) (win draw loss : Int) (ladder : List Int) (games : List Game) (fair taken : List Int) : Bool :=
  fieldOkB field && rulesOkB win draw loss ladder && seasonOkB field.length games && penaltiesB fair field.length && penaltiesB taken field.length
def Sized (field : List Team) (ladder : List Int) (games : List Game) : Prop :=
  (∀ t, t ∈ field → t.f0.size ≤ 4611686018427387904) ∧ ladder.length ≤ 1099511627776 ∧ games.length ≤ 1099511627776
theorem fieldOk_eq (field : List Team) (h : ∀ t, t ∈ field → t.f0.size ≤ 4611686018427387904) : impl_FieldOk.f field = some (fieldOkB field) := by
  unfold impl_FieldOk.f
  rw [if_pos]
  rw [List.all_eq_true]
  intro t ht
  exact decide_eq_true (h t ht)
theorem bookOk_eq (field : List Team) (win draw loss : Int) (ladder : List Int) (again : Bool) (games : List Game) (fair taken : List Int) (hs : Sized field ladder games) (k : Nat) (hk : 2 * ladder.length + games.length + 2 < k) :
    impl_BookOk.f k field win draw loss ladder again games fair taken = some (bookOkB field win draw loss ladder games fair taken) := by
  obtain ⟨h1, h2, h3⟩ := hs
  unfold impl_BookOk.f bookOkB
  rw [fieldOk_eq field h1, rulesOk_eq _ _ _ _ _ (by omega) k (by omega), seasonOk_eq _ _ (by omega) k (by omega)]
  simp only [Option.bind_some, impl_arePenalties.f, penaltiesB]
  cases fieldOkB field <;> cases rulesOkB win draw loss ladder <;> cases seasonOkB field.length games <;> simp
  grind
def mk (l : List UInt8) : ByteArray := ⟨l.toArray⟩
theorem mk_append (a b : List UInt8) : mk a ++ mk b = mk (a ++ b) := by
  apply ByteArray.ext
  simp [mk]
theorem mk_size (l : List UInt8) : (mk l).size = l.length := by simp [mk, ByteArray.size]
theorem strOfNums_mk (l : List Int) : strOfNums l = mk (l.map fun n => UInt8.ofNat n.toNat) := rfl
theorem set_next {α β : Type} (f : α → β) (z : β) (l : List α) (i : Nat) (h : i < l.length) (y : β) (hy : y = f l[i]) : ((l.take i).map f ++ List.replicate (l.length - i) z).set i y = (l.take (i + 1)).map f ++ List.replicate (l.length - (i + 1)) z := by
  rw [List.set_append, if_neg (by rw [List.length_map, List.length_take]; omega), List.take_succ_eq_append_getElem h, show l.length - i = (l.length - (i + 1)) + 1 by omega, List.replicate_succ, List.length_map, List.length_take, Nat.min_eq_left (by omega), Nat.sub_self, List.set_cons_zero, List.map_append, List.append_assoc, hy]
  rfl
theorem markText_l0 (m : Nat) : ∀ (x : Int) (s : List UInt8), 0 ≤ x → x.toNat < 10 ^ m → x ≤ 9223372036854775807 → s.length + m ≤ 1000 → ∃ t, ∀ k, laws_markText.l0 (k + m + 1) x (mk s) = some t := by
  induction m with
  | zero =>
    intro x s h0 h1 h2 hs
    have hx : x = 0 := by simp at h1; omega
    subst hx
    exact ⟨_, fun k => by rw [show k + 0 + 1 = k + 1 by omega, laws_markText.l0, if_neg (by decide), mk_size, if_pos (by omega)]⟩
  | succ m ih =>
    intro x s h0 h1 h2 hs
    by_cases hx : x > 0
    · have h10 : Int.tdiv x 10 = x / 10 := Int.tdiv_eq_ediv_of_nonneg h0
      have hlt : (x / 10).toNat < 10 ^ m := by
        have : x.toNat < 10 * 10 ^ m := by rw [Nat.pow_succ] at h1; omega
        omega
      obtain ⟨t, ht⟩ := ih (x / 10) ((([(wrap64 (48 + (Int.tmod x 10))) % 256] : List Int).map fun n => UInt8.ofNat n.toNat) ++ s) (by omega) hlt (by omega) (by simp; omega)
      refine ⟨t, fun k => ?_⟩
      rw [show k + (m + 1) + 1 = (k + m + 1) + 1 by omega, laws_markText.l0, if_pos hx, Option.bind_some, strOfNums_mk, mk_size, mk_size, if_pos (by simp; omega), mk_append, h10, wrap_id (x / 10) (by omega) (by omega)]
      exact ht k
    · have hx0 : x = 0 := by omega
      subst hx0
      exact ⟨_, fun k => by rw [show k + (m + 1) + 1 = (k + m + 1) + 1 by omega, laws_markText.l0, if_neg (by decide), mk_size, if_pos (by omega)]⟩
theorem markText_ex (x : Int) : ∃ t, 0 < x → x ≤ 1000000000 → Ev (fun k => laws_markText.f k x) t := by
  by_cases h : 0 < x ∧ x ≤ 1000000000
  · obtain ⟨t, ht⟩ := markText_l0 10 x [] (by omega) (by omega) (by omega) (by simp)
    refine ⟨t, fun _ _ => ⟨11, fun k hk => ?_⟩⟩
    have := ht (k - 11)
    rw [show k - 11 + 10 + 1 = k by omega] at this
    show laws_markText.f k x = some t
    unfold laws_markText.f
    rw [if_neg (by omega)]
    exact this
  · exact ⟨mk [], fun h1 h2 => absurd ⟨h1, h2⟩ h⟩
noncomputable def markT (x : Int) : ByteArray := (markText_ex x).choose
theorem markT_ev {x : Int} (h0 : 0 < x) (h1 : x ≤ 1000000000) : Ev (fun k => laws_markText.f k x) (markT x) := (markText_ex x).choose_spec h0 h1
theorem toInt_ev (l : List Int) (hl : l.length ≤ 1048576) : Ev (fun k => laws_toIntS.f k l) l := by
  have h : ∀ i, i ≤ l.length → Ev (fun k => laws_toIntS.l0 k l ((l.take i).map id ++ List.replicate (l.length - i) 0) (i : Int)) l := by
    intro i hi
    obtain ⟨d, hd⟩ : ∃ d, i + d = l.length := ⟨l.length - i, by omega⟩
    induction d generalizing i with
    | zero =>
      obtain rfl : i = l.length := by omega
      exact Ev.step (f := fun _ => some l) (fun k => by rw [laws_toIntS.l0, if_neg (by omega), List.take_length, Nat.sub_self]; simp) (Ev.now _)
    | succ d ih =>
      have hlt : i < l.length := by omega
      refine Ev.step (fun k => ?_) (ih (i + 1) (by omega) (by omega))
      rw [laws_toIntS.l0, if_pos (by omega), if_pos (by omega), rd_eq l i hlt, if_pos (by simp; omega), wrap_succ i (by omega), Int.toNat_natCast, set_next id 0 l i hlt l[i] rfl]
  refine Ev.congr (fun k => ?_) (h 0 (by omega))
  unfold laws_toIntS.f
  rw [if_pos (by omega), if_pos (by omega)]
  rfl
theorem eqInt_ev (l : List Int) (hl : l.length ≤ 1048576) : Ev (fun k => laws_eqIntS.f k l l) true := by
  refine Ev.loop l.length (fun i k => laws_eqIntS.l0 k l l (i : Int)) (fun _ => true) (fun k => by unfold laws_eqIntS.f; rw [if_pos rfl]; rfl) rfl ?_ ?_
  · exact Ev.step (f := fun _ => some true) (fun k => by rw [laws_eqIntS.l0, if_neg (by omega)]) (Ev.now _)
  · intro i hi h
    exact Ev.step (fun k => by rw [laws_eqIntS.l0, if_pos (by omega), if_pos (by omega), if_pos (by omega), if_pos rfl, wrap_succ i (by omega)]) h
def marksI (n : Nat) (a : Int) : List Int := (List.range n).map fun (j : Nat) => a + j
theorem marksI_len (n : Nat) (a : Int) : (marksI n a).length = n := by simp [marksI]
theorem marksI_succ (n : Nat) (a : Int) : marksI (n + 1) a = marksI n a ++ [a + n] := by simp [marksI, List.range_succ]
theorem marks_set {α : Type} (f : Nat → List α) (x : Nat → α) (hf : ∀ i, (f i).length = i) (hs : ∀ i, f (i + 1) = f i ++ [x i]) (l : List α) (i : Nat) (h : i < l.length) : (f i ++ l.drop i).set i (x i) = f (i + 1) ++ l.drop (i + 1) := by
  rw [List.set_append, if_neg (by rw [hf]; omega), hf, Nat.sub_self, List.drop_eq_getElem_cons h, List.set_cons_zero, hs, List.append_assoc]
  rfl
theorem marks_len {α : Type} (f : Nat → List α) (hf : ∀ i, (f i).length = i) (l : List α) (i : Nat) (h : i ≤ l.length) : (f i ++ l.drop i).length = l.length := by
  rw [List.length_append, hf, List.length_drop]; omega
theorem add_zero_cast (a : Int) : a + ((0 : Nat) : Int) = a := by omega
theorem markInt_ev (l : List Int) (a : Int) (h0 : 0 ≤ a) (hl : a + l.length ≤ 1000000000) : Ev (fun k => laws_markIntS.f k l a) (a + l.length, marksI l.length a) := by
  have hf := fun i => marksI_len i a
  refine Ev.loop l.length (fun i k => laws_markIntS.l0 k (marksI i a ++ l.drop i) (a + i) (i : Int)) (fun _ => (a + l.length, marksI l.length a)) (fun k => by rw [add_zero_cast]; rfl) rfl ?_ ?_
  · exact Ev.step (f := fun _ => some (a + l.length, marksI l.length a)) (fun k => by rw [laws_markIntS.l0, if_neg (by rw [marks_len _ hf l _ (Nat.le_refl _)]; omega), List.drop_length, List.append_nil]) (Ev.now _)
  · intro i hi h
    refine Ev.step (fun k => ?_) h
    rw [laws_markIntS.l0, if_pos (by rw [marks_len _ hf l i (by omega)]; omega), if_pos (by omega), Int.toNat_natCast, marks_set (fun i => marksI i a) (fun i => a + (i : Int)) hf (fun i => marksI_succ i a) l i hi, wrap_succ i (by omega), wrap_id _ (by omega) (by omega)]
    congr 1
    omega
theorem marksI_get (n : Nat) (a : Int) (i : Nat) (h : i < n) : (marksI n a)[i]'(by rw [marksI_len]; exact h) = a + i := by simp [marksI]
theorem heldInt_ev (n : Nat) (a : Int) (h0 : 0 ≤ a) (hl : a + n ≤ 1000000000) : Ev (fun k => laws_heldIntS.f k (marksI n a) a) (a + n) := by
  refine Ev.loop n (fun i k => laws_heldIntS.l0 k (marksI n a) (a + i) (i : Int)) (fun _ => a + n) (fun k => by rw [add_zero_cast]; rfl) rfl ?_ ?_
  · exact Ev.step (f := fun _ => some (a + n)) (fun k => by rw [laws_heldIntS.l0, if_neg (by rw [marksI_len]; omega)]) (Ev.now _)
  · intro i hi h
    refine Ev.step (fun k => ?_) h
    rw [laws_heldIntS.l0, if_pos (by rw [marksI_len]; omega), if_pos (by omega), rd_eq _ i (by rw [marksI_len]; omega), marksI_get n a i hi, if_pos rfl, wrap_succ i (by omega), wrap_id _ (by omega) (by omega)]
    congr 1
    omega
theorem szInt_eq (r : List Int) (x : Int) (h0 : 0 ≤ x) (h1 : x ≤ 1048576) (hr : r.length ≤ 9223372036854775807) : laws_szIntS.f r x = some (if x - r.length < 0 then -1 else x - r.length) := by
  unfold laws_szIntS.f
  rw [wrap_id _ (by omega) (by omega)]
  split <;> rfl
abbrev TeamA := S133
abbrev GameA := S147
def convT (x : TeamA) : Team := ⟨x.f0, x.f1, x.f2⟩
def convG (x : GameA) : Game := ⟨x.f0, x.f1, x.f2, x.f3, x.f4⟩
theorem rdTA_eq (l : List TeamA) (i : Nat) (h : i < l.length) : rd_T133 l (i : Int) = l[i] := by
  unfold rd_T133; simp [h]
theorem rdGA_eq (l : List GameA) (i : Nat) (h : i < l.length) : rd_T147 l (i : Int) = l[i] := by
  unfold rd_T147; simp [h]
theorem rdT_eq (l : List Team) (i : Nat) (h : i < l.length) : rd_T139 l (i : Int) = l[i] := by
  unfold rd_T139; simp [h]
theorem rdT_set (l : List Team) (i : Nat) (y : Team) (h : i < l.length) : rd_T139 (l.set i y) (i : Int) = y := by
  rw [rdT_eq _ i (by simpa using h)]; simp
theorem rdG_set (l : List Game) (i : Nat) (y : Game) (h : i < l.length) : rd_T95 (l.set i y) (i : Int) = y := by
  rw [rdG_eq _ i (by simpa using h)]; simp
theorem toTeam_ev (l : List TeamA) (hl : l.length ≤ 1048576) : Ev (fun k => laws_toTeamS.f k l) (l.map convT) := by
  refine Ev.loop l.length (fun i k => laws_toTeamS.l0 k l ((l.take i).map convT ++ List.replicate (l.length - i) z139) (i : Int)) (fun _ => l.map convT) (fun k => by unfold laws_toTeamS.f; rw [if_pos (by omega), if_pos (by omega)]; rfl) rfl ?_ ?_
  · exact Ev.step (f := fun _ => some (l.map convT)) (fun k => by rw [laws_toTeamS.l0, if_neg (by omega), List.take_length, Nat.sub_self]; simp) (Ev.now _)
  · intro i hi h
    refine Ev.step (fun k => ?_) h
    rw [laws_toTeamS.l0, if_pos (by omega), if_pos (by omega), rdTA_eq l i hi, laws_toTeam.f, Option.bind_some, if_pos (by simp; omega), wrap_succ i (by omega), Int.toNat_natCast, set_next convT z139 l i hi ⟨l[i].f0, l[i].f1, l[i].f2⟩ rfl]
theorem toGame_ev (l : List GameA) (hl : l.length ≤ 1048576) : Ev (fun k => laws_toGameS.f k l) (l.map convG) := by
  refine Ev.loop l.length (fun i k => laws_toGameS.l0 k l ((l.take i).map convG ++ List.replicate (l.length - i) z95) (i : Int)) (fun _ => l.map convG) (fun k => by unfold laws_toGameS.f; rw [if_pos (by omega), if_pos (by omega)]; rfl) rfl ?_ ?_
  · exact Ev.step (f := fun _ => some (l.map convG)) (fun k => by rw [laws_toGameS.l0, if_neg (by omega), List.take_length, Nat.sub_self]; simp) (Ev.now _)
  · intro i hi h
    refine Ev.step (fun k => ?_) h
    rw [laws_toGameS.l0, if_pos (by omega), if_pos (by omega), rdGA_eq l i hi, laws_toGame.f, Option.bind_some, if_pos (by simp; omega), wrap_succ i (by omega), Int.toNat_natCast, set_next convG z95 l i hi ⟨l[i].f0, l[i].f1, l[i].f2, l[i].f3, l[i].f4⟩ rfl]
theorem eqTeam_ev (l : List Team) (hl : l.length ≤ 1048576) : Ev (fun k => laws_eqTeamS.f k l l) true := by
  refine Ev.loop l.length (fun i k => laws_eqTeamS.l0 k l l (i : Int)) (fun _ => true) (fun k => by unfold laws_eqTeamS.f; rw [if_pos rfl]; rfl) rfl ?_ ?_
  · exact Ev.step (f := fun _ => some true) (fun k => by rw [laws_eqTeamS.l0, if_neg (by omega)]) (Ev.now _)
  · intro i hi h
    exact Ev.step (fun k => by rw [laws_eqTeamS.l0, if_pos (by omega), if_pos (by omega), if_pos (by omega), laws_eqTeam.f, if_pos rfl, if_pos rfl, if_pos rfl, Option.bind_some, if_pos rfl, wrap_succ i (by omega)]) h
theorem eqGame_ev (l : List Game) (hl : l.length ≤ 1048576) : Ev (fun k => laws_eqGameS.f k l l) true := by
  refine Ev.loop l.length (fun i k => laws_eqGameS.l0 k l l (i : Int)) (fun _ => true) (fun k => by unfold laws_eqGameS.f; rw [if_pos rfl]; rfl) rfl ?_ ?_
  · exact Ev.step (f := fun _ => some true) (fun k => by rw [laws_eqGameS.l0, if_neg (by omega)]) (Ev.now _)
  · intro i hi h
    exact Ev.step (fun k => by rw [laws_eqGameS.l0, if_pos (by omega), if_pos (by omega), if_pos (by omega), laws_eqGame.f, if_pos rfl, if_pos rfl, if_pos rfl, if_pos rfl, if_pos rfl, Option.bind_some, if_pos rfl, wrap_succ i (by omega)]) h
noncomputable def markTm (a : Int) : Team := ⟨markT a, a + 1, a + 2⟩
noncomputable def marksTm (n : Nat) (a : Int) : List Team := (List.range n).map fun (j : Nat) => markTm (a + 3 * j)
theorem marksTm_len (n : Nat) (a : Int) : (marksTm n a).length = n := by simp [marksTm]
theorem marksTm_succ (n : Nat) (a : Int) : marksTm (n + 1) a = marksTm n a ++ [markTm (a + 3 * n)] := by simp [marksTm, List.range_succ]
def markGm (a : Int) : Game := ⟨a, a + 1, a + 2, a + 3, a + 4⟩
def marksGm (n : Nat) (a : Int) : List Game := (List.range n).map fun (j : Nat) => markGm (a + 5 * j)
theorem marksGm_len (n : Nat) (a : Int) : (marksGm n a).length = n := by simp [marksGm]
theorem marksGm_succ (n : Nat) (a : Int) : marksGm (n + 1) a = marksGm n a ++ [markGm (a + 5 * n)] := by simp [marksGm, List.range_succ]
theorem mul_zero_cast (a c : Int) : a + c * ((0 : Nat) : Int) = a := by simp
theorem markTeam_ev (l : List Team) (a : Int) (h0 : 0 < a) (hl : a + 3 * l.length ≤ 1000000000) : Ev (fun k => laws_markTeamS.f k l a) (a + 3 * l.length, marksTm l.length a) := by
  have hf := fun i => marksTm_len i a
  refine Ev.loop l.length (fun i k => laws_markTeamS.l0 k (marksTm i a ++ l.drop i) (a + 3 * i) (i : Int)) (fun _ => (a + 3 * l.length, marksTm l.length a)) (fun k => by rw [mul_zero_cast]; rfl) rfl ?_ ?_
  · exact Ev.step (f := fun _ => some (a + 3 * l.length, marksTm l.length a)) (fun k => by rw [laws_markTeamS.l0, if_neg (by rw [marks_len _ hf l _ (Nat.le_refl _)]; omega), List.drop_length, List.append_nil]) (Ev.now _)
  · intro i hi h
    have hlen := marks_len _ hf l i (by omega)
    have hs := marks_set (fun i => marksTm i a) (fun i => markTm (a + 3 * (i : Int))) hf (fun i => marksTm_succ i a) l i hi
    have w1 : wrap64 (a + 3 * (i : Int) + 1) = a + 3 * i + 1 := wrap_id _ (by omega) (by omega)
    have w2 : wrap64 (a + 3 * (i : Int) + 1 + 1) = a + 3 * i + 2 := by rw [wrap_id _ (by omega) (by omega)]; omega
    have w3 : wrap64 (a + 3 * (i : Int) + 2 + 1) = a + 3 * ((i + 1 : Nat) : Int) := by rw [wrap_id _ (by omega) (by omega)]; omega
    refine Ev.step (f := fun k => (laws_markText.f k (a + 3 * (i : Int))).bind fun t => laws_markTeamS.l0 k ((marksTm i a ++ l.drop i).set i ⟨t, a + 3 * i + 1, a + 3 * i + 2⟩) (a + 3 * ((i + 1 : Nat) : Int)) ((i + 1 : Nat) : Int)) (fun k => ?_) (Ev.bind (markT_ev (by omega) (by omega)) ?_)
    · have hlt : i < (marksTm i a ++ l.drop i).length := by rw [hlen]; exact hi
      have h00 : (0 : Int) ≤ (i : Int) := by omega
      rw [laws_markTeamS.l0, if_pos (by rw [hlen]; omega)]
      congr 1
      funext t
      generalize marksTm i a ++ l.drop i = L at hlt
      simp only [if_pos h00, Option.bind_some, Int.toNat_natCast, w1, w2, w3, wrap_succ i (show i < 4611686018427387904 by omega), rdT_set _ _ _ hlt, List.set_set]
    · exact (show (marksTm i a ++ l.drop i).set i (markTm (a + 3 * (i : Int))) = _ from hs) ▸ h
theorem markGame_ev (l : List Game) (a : Int) (h0 : 0 < a) (hl : a + 5 * l.length ≤ 1000000000) : Ev (fun k => laws_markGameS.f k l a) (a + 5 * l.length, marksGm l.length a) := by
  have hf := fun i => marksGm_len i a
  refine Ev.loop l.length (fun i k => laws_markGameS.l0 k (marksGm i a ++ l.drop i) (a + 5 * i) (i : Int)) (fun _ => (a + 5 * l.length, marksGm l.length a)) (fun k => by rw [mul_zero_cast]; rfl) rfl ?_ ?_
  · exact Ev.step (f := fun _ => some (a + 5 * l.length, marksGm l.length a)) (fun k => by rw [laws_markGameS.l0, if_neg (by rw [marks_len _ hf l _ (Nat.le_refl _)]; omega), List.drop_length, List.append_nil]) (Ev.now _)
  · intro i hi h
    have hlen := marks_len _ hf l i (by omega)
    have hs := marks_set (fun i => marksGm i a) (fun i => markGm (a + 5 * (i : Int))) hf (fun i => marksGm_succ i a) l i hi
    have w1 : wrap64 (a + 5 * (i : Int) + 1) = a + 5 * i + 1 := wrap_id _ (by omega) (by omega)
    have w2 : wrap64 (a + 5 * (i : Int) + 1 + 1) = a + 5 * i + 2 := by rw [wrap_id _ (by omega) (by omega)]; omega
    have w3 : wrap64 (a + 5 * (i : Int) + 2 + 1) = a + 5 * i + 3 := by rw [wrap_id _ (by omega) (by omega)]; omega
    have w4 : wrap64 (a + 5 * (i : Int) + 3 + 1) = a + 5 * i + 4 := by rw [wrap_id _ (by omega) (by omega)]; omega
    have w5 : wrap64 (a + 5 * (i : Int) + 4 + 1) = a + 5 * ((i + 1 : Nat) : Int) := by rw [wrap_id _ (by omega) (by omega)]; omega
    refine Ev.step (f := fun k => laws_markGameS.l0 k ((marksGm i a ++ l.drop i).set i ⟨a + 5 * i, a + 5 * i + 1, a + 5 * i + 2, a + 5 * i + 3, a + 5 * i + 4⟩) (a + 5 * ((i + 1 : Nat) : Int)) ((i + 1 : Nat) : Int)) (fun k => ?_) ?_
    · have hlt : i < (marksGm i a ++ l.drop i).length := by rw [hlen]; exact hi
      have h00 : (0 : Int) ≤ (i : Int) := by omega
      rw [laws_markGameS.l0, if_pos (by rw [hlen]; omega)]
      generalize marksGm i a ++ l.drop i = L at hlt
      simp only [if_pos h00, Option.bind_some, Int.toNat_natCast, w1, w2, w3, w4, w5, wrap_succ i (show i < 4611686018427387904 by omega), rdG_set _ _ _ hlt, List.set_set]
    · exact (show (marksGm i a ++ l.drop i).set i (markGm (a + 5 * (i : Int))) = _ from hs) ▸ h
theorem toBook_ev (F : List TeamA) (w d s : Int) (L : List Int) (ag : Bool) (G : List GameA) (fa ta : List Int) (h1 : F.length ≤ 1048576) (h2 : L.length ≤ 1048576) (h3 : G.length ≤ 1048576) (h4 : fa.length ≤ 1048576) (h5 : ta.length ≤ 1048576) :
    Ev (fun k => laws_toBook.f k F w d s L ag G fa ta) (F.map convT, w, d, s, L, ag, G.map convG, fa, ta) := by
  unfold laws_toBook.f laws_toRules.f
  exact Ev.bind (toTeam_ev F h1) (Ev.bind (Ev.bind (toInt_ev L h2) (Ev.now (w, d, s, L, ag))) (Ev.bind (toGame_ev G h3) (Ev.bind (toInt_ev fa h4) (Ev.bind (toInt_ev ta h5) (Ev.now _)))))
theorem eqRules_ev (w d s : Int) (L : List Int) (ag : Bool) (h2 : L.length ≤ 1048576) : Ev (fun k => laws_eqRules.f k w d s L ag w d s L ag) true := by
  unfold laws_eqRules.f
  refine Ev.congr (fun k => by rw [if_pos rfl, if_pos rfl, if_pos rfl]) (Ev.bind (eqInt_ev L h2) (Ev.val fun k => ?_))
  simp
theorem eqBook_ev (F : List Team) (w d s : Int) (L : List Int) (ag : Bool) (G : List Game) (fa ta : List Int) (h1 : F.length ≤ 1048576) (h2 : L.length ≤ 1048576) (h3 : G.length ≤ 1048576) (h4 : fa.length ≤ 1048576) (h5 : ta.length ≤ 1048576) :
    Ev (fun k => laws_eqBook.f k F w d s L ag G fa ta F w d s L ag G fa ta) true := by
  unfold laws_eqBook.f
  refine Ev.bind (eqTeam_ev F h1) (Ev.congr (fun k => by rw [if_pos rfl]) (Ev.bind (eqRules_ev w d s L ag h2) (Ev.congr (fun k => by rw [if_pos rfl]) (Ev.bind (eqGame_ev G h3) (Ev.congr (fun k => by rw [if_pos rfl]) (Ev.bind (eqInt_ev fa h4) (Ev.congr (fun k => by rw [if_pos rfl]) (Ev.bind (eqInt_ev ta h5) (Ev.val fun k => by rw [if_pos rfl])))))))))
noncomputable def markBk (a : Int) (f l g x y : Nat) : Int × List Team × List Int × List Game × List Int × List Int :=
  (a + 3 * f + l + 5 * g + x + y, marksTm f a, marksI l (a + 3 * f), marksGm g (a + 3 * f + l), marksI x (a + 3 * f + l + 5 * g), marksI y (a + 3 * f + l + 5 * g + x))
theorem markBook_ev (F : List Team) (w d s : Int) (L : List Int) (ag : Bool) (G : List Game) (fa ta : List Int) (a : Int) (h0 : 0 < a) (ha : a ≤ 10000000) (h1 : F.length ≤ 1048576) (h2 : L.length ≤ 1048576) (h3 : G.length ≤ 1048576) (h4 : fa.length ≤ 1048576) (h5 : ta.length ≤ 1048576) :
    Ev (fun k => laws_markBook.f k F w d s L ag G fa ta a) (markBk a F.length L.length G.length fa.length ta.length) := by
  unfold laws_markBook.f laws_markRules.f
  refine Ev.bind (markTeam_ev F a h0 (by omega)) ?_
  refine Ev.bind (Ev.bind (markInt_ev L _ (by omega) (by omega)) (Ev.now (a + 3 * F.length + L.length, marksI L.length (a + 3 * F.length)))) ?_
  refine Ev.bind (markGame_ev G _ (by show 0 < a + 3 * (F.length : Int) + L.length; omega) (by show a + 3 * (F.length : Int) + L.length + 5 * G.length ≤ _; omega)) ?_
  refine Ev.bind (markInt_ev fa _ (by show 0 ≤ a + 3 * (F.length : Int) + L.length + 5 * G.length; omega) (by show a + 3 * (F.length : Int) + L.length + 5 * G.length + fa.length ≤ _; omega)) ?_
  refine Ev.bind (markInt_ev ta _ (by show 0 ≤ a + 3 * (F.length : Int) + L.length + 5 * G.length + fa.length; omega) (by show a + 3 * (F.length : Int) + L.length + 5 * G.length + fa.length + ta.length ≤ _; omega)) ?_
  exact Ev.now _
theorem markBk_pos (a : Int) (h0 : 0 < a) (f l g x y : Nat) : 0 < (markBk a f l g x y).1 := by
  unfold markBk
  show 0 < a + 3 * (f : Int) + l + 5 * g + x + y
  omega
structure BkSmall (F : List TeamA) (L : List Int) (G : List GameA) (fa ta : List Int) : Prop where
  f : F.length ≤ 1048576
  n : ∀ t ∈ F, t.f0.size ≤ 1048576
  l : L.length ≤ 1048576
  g : G.length ≤ 1048576
  x : fa.length ≤ 1048576
  y : ta.length ≤ 1048576
theorem szTeam_ev (l : List TeamA) (hl : l.length ≤ 9223372036854775807) (hn : ∀ t ∈ l, t.f0.size ≤ 9223372036854775807) (x : Int) (h0 : 0 ≤ x) (h1 : x ≤ 1048576) : ∃ t, Ev (fun k => laws_szTeamS.f k l x) t ∧ (t < 0 ∨ 0 ≤ t ∧ t ≤ x ∧ l.length ≤ 1048576 ∧ ∀ r ∈ l, r.f0.size ≤ 1048576) := by
  have key : l.length ≤ 1048576 → ∀ (d i : Nat) (x : Int), i + d = l.length → 0 ≤ x → x ≤ 1048576 → ∃ t, Ev (fun k => laws_szTeamS.l0 k l x (i : Int)) t ∧ (t < 0 ∨ 0 ≤ t ∧ t ≤ x ∧ ∀ r ∈ l.drop i, r.f0.size ≤ 1048576) := by
    intro hl2 d
    induction d with
    | zero =>
      intro i x hi h0 h1
      refine ⟨x, Ev.step (f := fun _ => some x) (fun k => by rw [laws_szTeamS.l0, if_neg (by omega)]) (Ev.now _), .inr ⟨h0, Int.le_refl _, ?_⟩⟩
      rw [List.drop_eq_nil_of_le (by omega)]
      intro r hr; cases hr
    | succ d ih =>
      intro i x hi h0 h1
      have hlt : i < l.length := by omega
      have hm := hn l[i] (List.getElem_mem hlt)
      have hw : wrap64 (x - (l[i].f0.size : Int)) = x - l[i].f0.size := wrap_id _ (by omega) (by omega)
      by_cases h : x - (l[i].f0.size : Int) < 0
      · exact ⟨-1, Ev.step (f := fun _ => some (-1)) (fun k => by rw [laws_szTeamS.l0, if_pos (by omega), if_pos (by omega), rdTA_eq l i hlt, laws_szTeam.f, hw, if_pos h, Option.bind_some, if_pos (by decide)]) (Ev.now _), .inl (by decide)⟩
      · obtain ⟨t, e, ht⟩ := ih (i + 1) (x - l[i].f0.size) (by omega) (by omega) (by omega)
        refine ⟨t, Ev.step (fun k => by rw [laws_szTeamS.l0, if_pos (by omega), if_pos (by omega), rdTA_eq l i hlt, laws_szTeam.f, hw, if_neg h, Option.bind_some, if_neg h, wrap_succ i (by omega)]) e, ?_⟩
        rcases ht with ht | ⟨ht, ht2, hd⟩
        · exact .inl ht
        · refine .inr ⟨ht, by omega, ?_⟩
          rw [List.drop_eq_getElem_cons hlt]
          intro r hr
          rcases List.mem_cons.mp hr with rfl | hr
          · omega
          · exact hd r hr
  by_cases h : x - (l.length : Int) < 0
  · exact ⟨-1, Ev.congr (f := fun _ => some (-1)) (fun k => by unfold laws_szTeamS.f; rw [wrap_id _ (by omega) (by omega), if_pos h]) (Ev.now _), .inl (by decide)⟩
  · obtain ⟨t, e, ht⟩ := key (by omega) l.length 0 (x - l.length) (by omega) (by omega) (by omega)
    refine ⟨t, Ev.congr (fun k => by unfold laws_szTeamS.f; rw [wrap_id _ (by omega) (by omega), if_neg h]; rfl) e, ?_⟩
    rcases ht with ht | ⟨ht, ht2, hd⟩
    · exact .inl ht
    · exact .inr ⟨ht, by omega, by omega, by rw [List.drop_zero] at hd; exact hd⟩
theorem szGame_eq (r : List GameA) (x : Int) (h0 : 0 ≤ x) (h1 : x ≤ 1048576) (hr : r.length ≤ 9223372036854775807) : laws_szGameS.f r x = some (if x - r.length < 0 then -1 else x - r.length) := by
  unfold laws_szGameS.f
  rw [wrap_id _ (by omega) (by omega)]
  split <;> rfl
theorem szBook_ev (F : List TeamA) (w d s : Int) (L : List Int) (ag : Bool) (G : List GameA) (fa ta : List Int) (hf : F.length ≤ 9223372036854775807) (hn : ∀ t ∈ F, t.f0.size ≤ 9223372036854775807) (hl : L.length ≤ 9223372036854775807) (hg : G.length ≤ 9223372036854775807) (hx : fa.length ≤ 9223372036854775807) (hy : ta.length ≤ 9223372036854775807) :
    ∃ t, Ev (fun k => laws_szBook.f k F w d s L ag G fa ta 1048576) t ∧ (t < 0 ∨ 0 ≤ t ∧ t ≤ 1048576 ∧ BkSmall F L G fa ta) := by
  obtain ⟨t1, e1, c1⟩ := szTeam_ev F hf hn 1048576 (by decide) (by decide)
  have neg : ∀ {g : Nat → Option Int}, Ev g (-1) → ∃ t, Ev g t ∧ (t < 0 ∨ 0 ≤ t ∧ t ≤ 1048576 ∧ BkSmall F L G fa ta) := fun e => ⟨_, e, .inl (by decide)⟩
  unfold laws_szBook.f
  rcases c1 with c1 | ⟨c0, c2, c3, c4⟩
  · exact neg (Ev.bind e1 (Ev.val fun k => by rw [if_pos c1]))
  have r1 := szInt_eq L t1 c0 c2 (by omega)
  by_cases d1 : t1 - (L.length : Int) < 0
  · rw [if_pos d1] at r1
    exact neg (Ev.bind e1 (Ev.val fun k => by rw [if_neg (by omega), laws_szRules.f, r1, Option.bind_some, if_pos (by decide), Option.bind_some, if_pos (by decide)]))
  rw [if_neg d1] at r1
  have r2 := szGame_eq G (t1 - L.length) (by omega) (by omega) (by omega)
  by_cases d2 : t1 - (L.length : Int) - G.length < 0
  · rw [if_pos d2] at r2
    exact neg (Ev.bind e1 (Ev.val fun k => by rw [if_neg (by omega), laws_szRules.f, r1, Option.bind_some, if_neg d1, Option.bind_some, if_neg d1, r2, Option.bind_some, if_pos (by decide)]))
  rw [if_neg d2] at r2
  have r3 := szInt_eq fa (t1 - L.length - G.length) (by omega) (by omega) (by omega)
  by_cases d3 : t1 - (L.length : Int) - G.length - fa.length < 0
  · rw [if_pos d3] at r3
    exact neg (Ev.bind e1 (Ev.val fun k => by rw [if_neg (by omega), laws_szRules.f, r1, Option.bind_some, if_neg d1, Option.bind_some, if_neg d1, r2, Option.bind_some, if_neg d2, r3, Option.bind_some, if_pos (by decide)]))
  rw [if_neg d3] at r3
  have r4 := szInt_eq ta (t1 - L.length - G.length - fa.length) (by omega) (by omega) (by omega)
  by_cases d4 : t1 - (L.length : Int) - G.length - fa.length - ta.length < 0
  · rw [if_pos d4] at r4
    exact neg (Ev.bind e1 (Ev.val fun k => by rw [if_neg (by omega), laws_szRules.f, r1, Option.bind_some, if_neg d1, Option.bind_some, if_neg d1, r2, Option.bind_some, if_neg d2, r3, Option.bind_some, if_neg d3, r4, Option.bind_some, if_pos (by decide)]))
  rw [if_neg d4] at r4
  refine ⟨_, Ev.bind e1 (Ev.val fun k => by rw [if_neg (by omega), laws_szRules.f, r1, Option.bind_some, if_neg d1, Option.bind_some, if_neg d1, r2, Option.bind_some, if_neg d2, r3, Option.bind_some, if_neg d3, r4, Option.bind_some, if_neg d4]), .inr ⟨by omega, by omega, ⟨c3, c4, ?_, ?_, ?_, ?_⟩⟩⟩ <;> omega
def BkArg (F : List TeamA) (w d s : Int) (L : List Int) (G : List GameA) (fa ta : List Int) : Prop :=
  (F.length ≤ maxLen ∧ ∀ t ∈ F, t.f0.size ≤ maxLen ∧ (Lit.int .i64 t.f1).wf = true ∧ (Lit.int .i64 t.f2).wf = true) ∧
  ((Lit.int .i64 w).wf = true ∧ (Lit.int .i64 d).wf = true ∧ (Lit.int .i64 s).wf = true ∧ (L.length ≤ maxLen ∧ ∀ x ∈ L, (Lit.int .i64 x).wf = true) ∧ True) ∧
  (G.length ≤ maxLen ∧ ∀ g ∈ G, (Lit.int .i64 g.f0).wf = true ∧ (Lit.int .i64 g.f1).wf = true ∧ (Lit.int .i64 g.f2).wf = true ∧ (Lit.int .i64 g.f3).wf = true ∧ (Lit.int .i64 g.f4).wf = true) ∧
  (fa.length ≤ maxLen ∧ ∀ x ∈ fa, (Lit.int .i64 x).wf = true) ∧ (ta.length ≤ maxLen ∧ ∀ x ∈ ta, (Lit.int .i64 x).wf = true)
theorem szBook_arg (F : List TeamA) (w d s : Int) (L : List Int) (ag : Bool) (G : List GameA) (fa ta : List Int) (h : BkArg F w d s L G fa ta) :
    ∃ t, Ev (fun k => laws_szBook.f k F w d s L ag G fa ta 1048576) t ∧ (t < 0 ∨ 0 ≤ t ∧ t ≤ 1048576 ∧ BkSmall F L G fa ta) :=
  szBook_ev F w d s L ag G fa ta h.1.1 (fun t ht => (h.1.2 t ht).1) h.2.1.2.2.2.1.1 h.2.2.1.1 h.2.2.2.1.1 h.2.2.2.2.1
theorem l01In_eq (a lo hi : Int) : spec_l01In.f a lo hi = some (withinB a lo hi) := by
  unfold spec_l01In.f withinB
  by_cases h : lo ≤ a <;> simp [h]
theorem sIsName_ev (s : ByteArray) (hs : s.size ≤ 4611686018427387903) : Ev (fun k => spec_IsName.f k s) (isNameB s) := by
  refine Ev.eq (Ev.down s.size (fun i k => spec_IsName.l0 k s (i : Int)) (fun i => nameFrom s i && withinB s.size 1 8) ?_ ?_) rfl
  · refine Ev.step (f := fun _ => some (withinB s.size 1 8)) (fun k => by rw [spec_IsName.l0, if_neg (by omega), l01In_eq]; rfl) (Ev.eq (Ev.now _) ?_)
    rw [nameFrom_end s _ (Nat.le_refl _)]
    rfl
  · intro i hi h
    have hw := wrap_succ i (by omega)
    cases hn : nameAt i (bt s i) with
    | true =>
      refine Ev.eq (Ev.step (fun k => ?_) h) (by simp only [nameFrom_step s i hi, hn, Bool.true_and])
      rw [spec_IsName.l0, if_pos (by omega), if_pos (by omega), hw]
      unfold nameAt at hn
      generalize bt s i = c at hn
      grind
    | false =>
      refine Ev.eq (Ev.step (f := fun _ => some false) (fun k => ?_) (Ev.now _)) (by simp only [nameFrom_step s i hi, hn, Bool.false_and])
      rw [spec_IsName.l0, if_pos (by omega), if_pos (by omega), hw]
      unfold nameAt at hn
      generalize bt s i = c at hn
      grind
theorem sTeamOk_ev (t : Team) (hs : t.f0.size ≤ 4611686018427387903) : Ev (fun k => spec_TeamOk.f k t.f0 t.f1 t.f2) (teamOkB t) := by
  unfold spec_TeamOk.f teamOkB
  refine Ev.bind (sIsName_ev _ hs) (Ev.val fun k => ?_)
  simp only [l01In_eq, Option.bind_some]
  cases isNameB t.f0 <;> cases withinB t.f1 0 5 <;> simp
theorem rdTm_eq (l : List Team) (i : Nat) (h : i < l.length) : rd_T139 l (i : Int) = l[i] := by
  unfold rd_T139; simp [h]
theorem sFieldOk_ev (l : List Team) (h : ∀ t, t ∈ l → t.f0.size ≤ 4611686018427387903) : Ev (fun k => spec_FieldOk.f k l) (fieldOkB l) := by
  unfold spec_FieldOk.f fieldOkB
  simp only [l01In_eq, Option.bind_some]
  cases hw : withinB (l.length : Int) 2 8 with
  | false => exact Ev.eq (Ev.val fun k => by rw [if_neg (by decide)]) (by simp)
  | true =>
    have hl : l.length ≤ 8 := by simp [withinB] at hw; omega
    refine Ev.congr (fun k => by rw [if_pos rfl]) ?_
    rw [Bool.and_true]
    refine Ev.eq (Ev.down l.length (fun i k => spec_FieldOk.l0 k l l (l.length : Int) (i : Int)) (fun i => fieldFrom (l.take i) (l.drop i)) ?_ ?_) rfl
    · exact Ev.step (f := fun _ => some true) (fun k => by rw [spec_FieldOk.l0, if_neg (by omega)]) (Ev.eq (Ev.now _) (by rw [List.drop_length]; rfl))
    · intro i hi hn
      rw [List.drop_eq_getElem_cons hi, fieldFrom]
      have ht := sTeamOk_ev l[i] (h _ (List.getElem_mem hi))
      refine Ev.step (f := fun k => (spec_TeamOk.f k l[i].f0 l[i].f1 l[i].f2).bind fun t130 => (if t130 = true then (spec_FieldOk.l1 k l l (l.length : Int) (i : Int) (l.take i) ((l.take i).length : Int) 0 l[i].f0 l[i].f1 l[i].f2) else (some false))) (fun k => ?_) (Ev.bind ht ?_)
      · rw [spec_FieldOk.l0, if_pos (by omega), if_pos (by omega), if_pos (by omega), rdTm_eq l i hi]
        have hc : (i : Int) ≤ (l.length : Int) := by omega
        simp only [if_pos hc, Option.bind_some, Int.toNat_natCast]
      · cases hk : teamOkB l[i] with
        | false => exact Ev.eq (Ev.val fun k => by rw [if_neg (by decide)]) (by simp)
        | true =>
          refine Ev.congr (fun k => by rw [if_pos rfl]) ?_
          rw [List.take_succ_eq_append_getElem hi] at hn
          generalize hp : l.take i = pre at hn
          have hpl : pre.length = i := by rw [← hp, List.length_take]; omega
          rw [Bool.true_and]
          refine Ev.eq (Ev.down pre.length (fun j k => spec_FieldOk.l1 k l l (l.length : Int) (i : Int) pre (pre.length : Int) (j : Int) l[i].f0 l[i].f1 l[i].f2) (fun j => !(pre.drop j).any (teamClash l[i]) && fieldFrom (pre ++ [l[i]]) (l.drop (i + 1))) ?_ ?_) rfl
          · refine Ev.eq (Ev.step (fun k => by rw [spec_FieldOk.l1, if_neg (by omega), wrap_succ i (by omega)]) hn) (by rw [List.drop_length]; simp)
          · intro j hj hnj
            rw [List.drop_eq_getElem_cons hj, List.any_cons]
            by_cases h1 : pre[j].f0.toList = l[i].f0.toList
            · refine Ev.eq (Ev.step (f := fun _ => some false) (fun k => by rw [spec_FieldOk.l1, if_pos (by omega), if_pos (by omega), if_pos (by omega), rdTm_eq pre j hj, if_pos h1]) (Ev.now _)) (by simp [teamClash, h1])
            · by_cases h2 : pre[j].f2 = l[i].f2
              · refine Ev.eq (Ev.step (f := fun _ => some false) (fun k => by rw [spec_FieldOk.l1, if_pos (by omega), if_pos (by omega), if_pos (by omega), rdTm_eq pre j hj, if_neg h1, if_pos h2]) (Ev.now _)) (by simp [teamClash, h2])
              · refine Ev.eq (Ev.step (fun k => by rw [spec_FieldOk.l1, if_pos (by omega), if_pos (by omega), if_pos (by omega), rdTm_eq pre j hj, if_neg h1, if_neg h2, wrap_succ j (by omega)]) hnj) (by rw [show teamClash l[i] pre[j] = false by unfold teamClash; rw [beq_eq_false_iff_ne.mpr h1, beq_eq_false_iff_ne.mpr h2]; rfl, Bool.false_or])
theorem sHas_ev (l : List Int) (x : Int) (hl : l.length ≤ 1048576) : Ev (fun k => spec_l02Has.f k l x) (hasI l x) := by
  refine Ev.eq (Ev.down l.length (fun i k => spec_l02Has.l0 k x l (l.length : Int) (i : Int)) (fun i => hasI (l.drop i) x) ?_ ?_) rfl
  · exact Ev.step (f := fun _ => some false) (fun k => by rw [spec_l02Has.l0, if_neg (by omega)]) (Ev.eq (Ev.now _) (by rw [List.drop_length]; rfl))
  · intro i hi hn
    rw [List.drop_eq_getElem_cons hi]
    by_cases h : l[i] = x
    · exact Ev.eq (Ev.step (f := fun _ => some true) (fun k => by rw [spec_l02Has.l0, if_pos (by omega), if_pos (by omega), if_pos (by omega), rd_eq l i hi, if_pos h]) (Ev.now _)) (by simp [hasI, h])
    · exact Ev.eq (Ev.step (fun k => by rw [spec_l02Has.l0, if_pos (by omega), if_pos (by omega), if_pos (by omega), rd_eq l i hi, if_neg h, wrap_succ i (by omega)]) hn) (by simp only [hasI, List.any_cons, decide_eq_false (show ¬ x = l[i] from fun e => h e.symm), Bool.false_or])
theorem sRulesOk_ev (win draw loss : Int) (l : List Int) (again : Bool) : Ev (fun k => spec_RulesOk.f k win draw loss l again) (rulesOkB win draw loss l) := by
  unfold spec_RulesOk.f rulesOkB
  simp only [l01In_eq, Option.bind_some]
  have fals : ∀ q, q = false → Ev (fun k => spec_RulesOk.j0 k true win draw loss l again) q := fun q hq => Ev.step (f := fun _ => some false) (fun k => by rw [spec_RulesOk.j0, if_pos rfl]) (Ev.eq (Ev.now _) hq.symm)
  by_cases h1 : withinB win 0 10 = true
  · by_cases h2 : withinB draw 0 win = true
    · by_cases h3 : withinB loss 0 draw = true
      · by_cases h4 : withinB l.length 1 8 = true
        · refine Ev.congr (fun k => by rw [if_pos h1, if_pos h2, if_pos h3, h4]) ?_
          have hl : l.length ≤ 8 := by simp [withinB] at h4; omega
          have hr : (ladderFrom [] l && decide (0 ≤ loss) && decide (loss ≤ draw) && decide (draw ≤ win) && decide (win ≤ 10) && true) = ladderFrom [] l := by
            simp [withinB] at h1 h2 h3
            simp [h1, h2, h3]
          rw [h4, hr]
          refine Ev.step (f := fun k => spec_RulesOk.l0 k l (l.length : Int) 0 win draw loss l again) (fun k => by rw [spec_RulesOk.j0, if_neg (by decide)]) ?_
          refine Ev.eq (Ev.down l.length (fun i k => spec_RulesOk.l0 k l (l.length : Int) (i : Int) win draw loss l again) (fun i => ladderFrom (l.take i) (l.drop i)) ?_ ?_) rfl
          · exact Ev.step (f := fun _ => some true) (fun k => by rw [spec_RulesOk.l0, if_neg (by omega)]) (Ev.eq (Ev.now _) (by rw [List.drop_length]; rfl))
          · intro i hi hn
            rw [List.drop_eq_getElem_cons hi, ladderFrom]
            rw [List.take_succ_eq_append_getElem hi] at hn
            cases hk : withinB l[i] 1 8 with
            | false => exact Ev.eq (Ev.step (f := fun _ => some false) (fun k => by rw [spec_RulesOk.l0, if_pos (by omega), if_pos (by omega), if_pos (by omega), rd_eq l i hi, l01In_eq, hk, Option.bind_some, if_neg (by decide)]) (Ev.now _)) (by simp)
            | true =>
              refine Ev.step (f := fun k => (spec_l02Has.f k (l.take i) l[i]).bind fun t => if t = true then some false else spec_RulesOk.l0 k l (l.length : Int) ((i + 1 : Nat) : Int) win draw loss l again) (fun k => by rw [spec_RulesOk.l0, if_pos (by omega), if_pos (by omega), if_pos (by omega), rd_eq l i hi, l01In_eq, hk, Option.bind_some, if_pos rfl, if_pos (by omega), wrap_succ i (by omega), Int.toNat_natCast]) ?_
              refine Ev.bind (sHas_ev _ _ (by rw [List.length_take]; omega)) ?_
              cases hh : hasI (l.take i) l[i] with
              | true => exact Ev.eq (Ev.val fun k => by rw [if_pos rfl]) (by simp)
              | false => exact Ev.eq (Ev.congr (fun k => by rw [if_neg (by decide)]) hn) (by simp)
        · refine Ev.congr (fun k => by rw [if_pos h1, if_pos h2, if_pos h3]) ?_
          simp only [Bool.not_eq_true] at h4
          rw [h4]
          exact fals _ (by simp)
      · refine Ev.congr (fun k => by rw [if_pos h1, if_pos h2, if_neg h3]) (fals _ ?_)
        simp [withinB] at h3
        by_cases h5 : 0 ≤ loss
        · simp [show ¬ loss ≤ draw by omega]
        · simp [h5]
    · refine Ev.congr (fun k => by rw [if_pos h1, if_neg h2]) (fals _ ?_)
      simp [withinB] at h2
      by_cases h5 : 0 ≤ draw
      · simp [show ¬ draw ≤ win by omega]
      · by_cases h6 : 0 ≤ loss
        · simp [show ¬ loss ≤ draw by omega]
        · simp [h6]
  · refine Ev.congr (fun k => by rw [if_neg h1]) (fals _ ?_)
    simp [withinB] at h1
    by_cases h5 : win ≤ 10
    · by_cases h6 : 0 ≤ loss
      · by_cases h7 : loss ≤ draw
        · simp [show ¬ draw ≤ win by omega]
        · simp [h7]
      · simp [h6]
    · simp [h5]
theorem sGameOk_ev (n : Int) (g : Game) : Ev (fun k => spec_GameOk.f k n g.f0 g.f1 g.f2 g.f3 g.f4) (gameOkB n g) := by
  unfold spec_GameOk.f gameOkB
  simp only [l01In_eq, Option.bind_some]
  have fals : ∀ q, q = false → Ev (fun k => spec_GameOk.j0 k true g.f0 g.f1 g.f2 g.f3 g.f4) q := fun q hq => Ev.step (f := fun _ => some false) (fun k => by rw [spec_GameOk.j0, if_pos rfl]) (Ev.eq (Ev.now _) hq.symm)
  by_cases h1 : withinB n 2 8 = true
  · have hw : wrap64 (n - 1) = n - 1 := by
      simp [withinB] at h1
      unfold wrap64; omega
    rw [hw, h1]
    by_cases h2 : withinB g.f0 0 (n - 1) = true
    · by_cases h3 : withinB g.f1 0 (n - 1) = true
      · by_cases h4 : g.f0 = g.f1
        · exact Ev.congr (fun k => by rw [if_pos rfl, if_pos h2, if_pos h3, if_pos h4]) (fals _ (by simp [h4]))
        · by_cases h5 : withinB g.f4 0 4 = true
          · refine Ev.congr (fun k => by rw [if_pos rfl, if_pos h2, if_pos h3, if_neg h4, h5]) ?_
            rw [h2, h3, h5, decide_eq_false h4]
            by_cases h6 : g.f4 = 1
            · refine Ev.step (f := fun _ => some (withinB g.f2 0 99 && withinB g.f3 0 99)) (fun k => ?_) (Ev.eq (Ev.now _) (by simp [h6]))
              rw [spec_GameOk.j0, if_neg (by decide), if_pos h6]
              simp only [l01In_eq, Option.bind_some]
              cases withinB g.f2 0 99 <;> simp
            · refine Ev.step (f := fun _ => some (decide (g.f2 = 0) && decide (g.f3 = 0))) (fun k => ?_) (Ev.eq (Ev.now _) ?_)
              · rw [spec_GameOk.j0, if_neg (by decide), if_neg h6]
                by_cases h7 : g.f2 = 0
                · rw [if_pos h7]; simp [h7]; grind
                · rw [if_neg h7]; simp [h7]
              · rw [if_neg h6]
                unfold withinB
                grind
          · refine Ev.congr (fun k => by rw [if_pos rfl, if_pos h2, if_pos h3, if_neg h4]) ?_
            simp only [Bool.not_eq_true] at h5
            rw [h5]
            exact fals _ (by simp)
      · exact Ev.congr (fun k => by rw [if_pos rfl, if_pos h2, if_neg h3]) (fals _ (by simp [Bool.not_eq_true _ ▸ h3]))
    · exact Ev.congr (fun k => by rw [if_pos rfl, if_neg h2]) (fals _ (by simp [Bool.not_eq_true _ ▸ h2]))
  · exact Ev.congr (fun k => by rw [if_neg h1]) (fals _ (by simp [Bool.not_eq_true _ ▸ h1]))
theorem sGameOf_ev (l : List Game) (h a : Int) (hl : l.length ≤ 1048576) : Ev (fun k => spec_GameOf.f k l h a) (idxI (gameIs h a) l) := by
  have hp : ∀ x : Int, x = -1 → ∀ y, (if y < 0 then (-1 : Int) else y) = (if y < 0 then -1 else y) := fun _ _ _ => rfl
  refine Ev.eq (Ev.down l.length (fun i k => spec_GameOf.l0 k h a l (l.length : Int) (i : Int)) (fun i => if idxI (gameIs h a) (l.drop i) < 0 then -1 else idxI (gameIs h a) (l.drop i) + i) ?_ ?_) ?_
  · exact Ev.step (f := fun _ => some (-1)) (fun k => by rw [spec_GameOf.l0, if_neg (by omega)]) (Ev.eq (Ev.now _) (by rw [List.drop_length]; rfl))
  · intro i hi hn
    rw [List.drop_eq_getElem_cons hi, idxI]
    by_cases h1 : l[i].f0 = h
    · by_cases h2 : l[i].f1 = a
      · exact Ev.eq (Ev.step (f := fun _ => some (i : Int)) (fun k => by rw [spec_GameOf.l0, if_pos (by omega), if_pos (by omega), if_pos (by omega), rdG_eq l i hi, if_pos h1, if_pos h2]) (Ev.now _)) (by simp [gameIs, h1, h2])
      · refine Ev.eq (Ev.step (fun k => by rw [spec_GameOf.l0, if_pos (by omega), if_pos (by omega), if_pos (by omega), rdG_eq l i hi, if_pos h1, if_neg h2, wrap_succ i (by omega)]) hn) ?_
        simp only [gameIs, h1, beq_self_eq_true, beq_eq_false_iff_ne.mpr h2, Bool.true_and, Bool.false_eq_true, if_false]
        generalize idxI (gameIs h a) (l.drop (i + 1)) = y
        grind
    · refine Ev.eq (Ev.step (fun k => by rw [spec_GameOf.l0, if_pos (by omega), if_pos (by omega), if_pos (by omega), rdG_eq l i hi, if_neg h1, wrap_succ i (by omega)]) hn) ?_
      have hg : gameIs h a l[i] = false := by simp [gameIs, h1]
      rw [hg]
      generalize idxI (gameIs h a) (l.drop (i + 1)) = y
      grind
  · show (if idxI (gameIs h a) l < 0 then (-1 : Int) else idxI (gameIs h a) l + ((0 : Nat) : Int)) = _
    have : ∀ l : List Game, idxI (gameIs h a) l = -1 ∨ 0 ≤ idxI (gameIs h a) l := by
      intro l
      induction l with
      | nil => exact .inl rfl
      | cons y l ih => simp only [idxI]; grind
    rcases this l with h3 | h3
    · rw [h3]; rfl
    · rw [if_neg (by omega)]; omega
theorem idx_first {α : Type} (p : α → Bool) (l : List α) (i : Nat) (hi : i < l.length) (h : p l[i] = true) : decide (idxI p l = (i : Int)) = !(l.take i).any p := by
  induction l generalizing i with
  | nil => simp at hi
  | cons x l ih =>
    cases i with
    | zero => simp only [List.getElem_cons_zero] at h; simp [idxI, h]
    | succ i =>
      simp only [List.getElem_cons_succ] at h
      have := ih i (by simpa using hi) h
      simp only [List.take_succ_cons, List.any_cons]
      by_cases hx : p x = true
      · have e1 : idxI p (x :: l) = 0 := by simp only [idxI, hx, if_true]
        rw [hx, Bool.true_or, e1]
        exact decide_eq_false (by omega)
      · simp only [Bool.not_eq_true] at hx
        have h2 : 0 ≤ idxI p l := by
          have := idxI_any p l
          have h3 : l.any p = true := List.any_eq_true.mpr ⟨l[i]'(by simpa using hi), List.getElem_mem _, h⟩
          rw [h3] at this
          simpa using this
        have e : (if p x = true then 0 else if idxI p l < 0 then -1 else idxI p l + 1) = idxI p l + 1 := by
          rw [if_neg (by rw [hx]; decide), if_neg (by omega)]
        have e2 : decide (idxI p l + 1 = ((i + 1 : Nat) : Int)) = decide (idxI p l = (i : Int)) := decide_eq_decide.mpr (by omega)
        have e3 : decide (idxI p (x :: l) = ((i + 1 : Nat) : Int)) = decide (idxI p l + 1 = ((i + 1 : Nat) : Int)) := decide_eq_decide.mpr (by rw [show idxI p (x :: l) = idxI p l + 1 from e])
        rw [hx, Bool.false_or, ← this, ← e2]
        exact e3
theorem sSeasonOk_ev (n : Int) (l : List Game) : Ev (fun k => spec_SeasonOk.f k n l) (seasonOkB n l) := by
  unfold spec_SeasonOk.f seasonOkB
  by_cases hl : (l.length : Int) > 60
  · exact Ev.eq (Ev.val fun k => by rw [if_pos hl]) (by simp; intro _; omega)
  · refine Ev.congr (fun k => by rw [if_neg hl]) ?_
    rw [decide_eq_true (show (l.length : Int) ≤ 60 by omega), Bool.and_true]
    refine Ev.eq (Ev.down l.length (fun i k => spec_SeasonOk.l0 k n l l (l.length : Int) (i : Int)) (fun i => seasonFrom n (l.take i) (l.drop i)) ?_ ?_) rfl
    · exact Ev.step (f := fun _ => some true) (fun k => by rw [spec_SeasonOk.l0, if_neg (by omega)]) (Ev.eq (Ev.now _) (by rw [List.drop_length]; rfl))
    · intro i hi hn
      rw [List.drop_eq_getElem_cons hi, seasonFrom]
      rw [List.take_succ_eq_append_getElem hi] at hn
      refine Ev.step (f := fun k => (spec_GameOk.f k n l[i].f0 l[i].f1 l[i].f2 l[i].f3 l[i].f4).bind fun t158 => (if t158 = true then ((spec_GameOf.f k l l[i].f0 l[i].f1).bind fun t159 => (if t159 = (i : Int) then (spec_SeasonOk.l0 k n l l (l.length : Int) ((i + 1 : Nat) : Int)) else (some false))) else (some false))) (fun k => by rw [spec_SeasonOk.l0, if_pos (by omega), if_pos (by omega), if_pos (by omega), rdG_eq l i hi, wrap_succ i (by omega)]) ?_
      refine Ev.bind (sGameOk_ev n l[i]) ?_
      cases hg : gameOkB n l[i] with
      | false => exact Ev.eq (Ev.val fun k => by rw [if_neg (by decide)]) (by simp)
      | true =>
        refine Ev.congr (fun k => by rw [if_pos rfl]) (Ev.bind (sGameOf_ev l _ _ (by omega)) ?_)
        have hf := idx_first (gameIs l[i].f0 l[i].f1) l i hi (by simp [gameIs])
        by_cases he : idxI (gameIs l[i].f0 l[i].f1) l = (i : Int)
        · rw [decide_eq_true he] at hf
          exact Ev.eq (Ev.congr (fun k => by rw [if_pos he]) hn) (by rw [← hf]; simp)
        · rw [decide_eq_false he] at hf
          exact Ev.eq (Ev.val fun k => by rw [if_neg he]) (by rw [← hf]; simp)
theorem sBookOk_ev (field : List Team) (win draw loss : Int) (ladder : List Int) (again : Bool) (games : List Game) (fair taken : List Int) (hs : ∀ t, t ∈ field → t.f0.size ≤ 4611686018427387903) :
    Ev (fun k => spec_BookOk.f k field win draw loss ladder again games fair taken) (bookOkB field win draw loss ladder games fair taken) := by
  unfold spec_BookOk.f bookOkB
  have fals : ∀ q, q = false → Ev (fun k => spec_BookOk.j0 k true field win draw loss ladder again games fair taken) q := fun q hq => Ev.step (f := fun _ => some false) (fun k => by rw [spec_BookOk.j0, if_pos rfl]) (Ev.eq (Ev.now _) hq.symm)
  refine Ev.bind (sFieldOk_ev field hs) ?_
  cases h1 : fieldOkB field with
  | false => exact Ev.congr (fun k => by rw [if_neg (by decide)]) (fals _ (by simp))
  | true =>
    have hfl : field.length ≤ 8 := by
      unfold fieldOkB at h1
      simp [withinB] at h1
      omega
    refine Ev.congr (fun k => by rw [if_pos rfl]) (Ev.bind (sRulesOk_ev _ _ _ _ _) ?_)
    cases h2 : rulesOkB win draw loss ladder with
    | false => exact Ev.congr (fun k => by rw [if_neg (by decide)]) (fals _ (by simp))
    | true =>
      refine Ev.congr (fun k => by rw [if_pos rfl]) (Ev.bind (sSeasonOk_ev _ _) ?_)
      cases h3 : seasonOkB field.length games with
      | false => exact Ev.congr (fun k => by rw [if_neg (by decide)]) (fals _ (by simp))
      | true =>
        by_cases h4 : (fair.length : Int) = (field.length : Int)
        · by_cases h5 : (taken.length : Int) = (field.length : Int)
          · refine Ev.congr (f := fun k => spec_BookOk.j0 k false field win draw loss ladder again games fair taken) (fun k => by rw [if_pos rfl, if_pos h4, show ((taken.length : Int) != (field.length : Int)) = false by simp; omega]) ?_
            refine Ev.step (f := fun k => spec_BookOk.l0 k (field.length : Int) 0 field win draw loss ladder again games fair taken) (fun k => by rw [spec_BookOk.j0, if_neg (by decide)]) ?_
            refine Ev.eq (Ev.down field.length (fun i k => spec_BookOk.l0 k (field.length : Int) (i : Int) field win draw loss ladder again games fair taken) (fun i => !(fair.drop i).any (fun x => !withinB x 0 1000) && !(taken.drop i).any (fun x => !withinB x 0 1000)) ?_ ?_) ?_
            · exact Ev.step (f := fun _ => some true) (fun k => by rw [spec_BookOk.l0, if_neg (by omega)]) (Ev.eq (Ev.now _) (by rw [List.drop_eq_nil_of_le (by omega), List.drop_eq_nil_of_le (by omega)]; rfl))
            · intro i hi hn
              rw [List.drop_eq_getElem_cons (show i < fair.length by omega), List.drop_eq_getElem_cons (show i < taken.length by omega)]
              cases ha : withinB fair[i] 0 1000 with
              | false => exact Ev.eq (Ev.step (f := fun _ => some false) (fun k => by rw [spec_BookOk.l0, if_pos (by omega), if_pos (by omega), if_pos (by omega), rd_eq fair i (by omega), l01In_eq, ha, Option.bind_some, if_neg (by decide)]) (Ev.now _)) (by rw [List.any_cons, List.any_cons, ha]; rfl)
              | true =>
                cases hb : withinB taken[i] 0 1000 with
                | false => exact Ev.eq (Ev.step (f := fun _ => some false) (fun k => by rw [spec_BookOk.l0, if_pos (by omega), if_pos (by omega), if_pos (by omega), rd_eq fair i (by omega), l01In_eq, ha, Option.bind_some, if_pos rfl, if_pos (by omega), rd_eq taken i (by omega), l01In_eq, hb, Option.bind_some, if_neg (by decide)]) (Ev.now _)) (by rw [List.any_cons, List.any_cons, ha, hb]; exact Bool.and_false _ |>.symm)
                | true => exact Ev.eq (Ev.step (fun k => by rw [spec_BookOk.l0, if_pos (by omega), if_pos (by omega), if_pos (by omega), rd_eq fair i (by omega), l01In_eq, ha, Option.bind_some, if_pos rfl, if_pos (by omega), rd_eq taken i (by omega), l01In_eq, hb, Option.bind_some, if_pos rfl, wrap_succ i (by omega)]) hn) (by rw [List.any_cons, List.any_cons, ha, hb]; exact (by simp))
            · simp [penaltiesB, h4, h5]
          · refine Ev.congr (f := fun k => spec_BookOk.j0 k true field win draw loss ladder again games fair taken) (fun k => by rw [if_pos rfl, if_pos h4, show ((taken.length : Int) != (field.length : Int)) = true by simp; omega]) (fals _ (by simp [penaltiesB, h5]))
        · exact Ev.congr (fun k => by rw [if_pos rfl, if_neg h4]) (fals _ (by simp [penaltiesB, h4]))
end Go.Proofs.Ythfefanapneocaa.Q
namespace Go.Proofs.Ythfefanapneocaa.Q
open Go.RowKit Go.Proofs.YthfefanapneocaaW.PrintWords Go.Proofs.YthfefanapneocaaW.PrintLast Go.Proofs.YthfefanapneocaaW.PrintMore
section
variable (F : List Team) (w d s : Int) (L : List Int) (ag : Bool) (fa ta : List Int)
theorem iCopied_eq (G : List Game) (h1 : F.length ≤ 1048576) (h2 : L.length ≤ 1048576) (h3 : G.length ≤ 1048576) (h4 : fa.length ≤ 1048576) (h5 : ta.length ≤ 1048576) : impl_Book_copied.f F w d s L ag G fa ta = some (F, w, d, s, L, ag, G, fa, ta) := by
  unfold impl_Book_copied.f slices_Clone_impl_Team_impl_Team.f slices_Clone_impl_Game_impl_Game.f slices_Clone_int_int.f
  simp only [Option.bind_some, List.length_nil, List.nil_append]
  rw [if_pos (by omega), Option.bind_some, if_pos (by omega), Option.bind_some, if_pos (by omega), Option.bind_some, if_pos (by omega), Option.bind_some, if_pos (by omega), Option.bind_some]
theorem sCopy_eq (G : List Game) (h1 : F.length ≤ 1048576) (h2 : L.length ≤ 1048576) (h3 : G.length ≤ 1048576) (h4 : fa.length ≤ 1048576) (h5 : ta.length ≤ 1048576) : spec_l16Copy.f F w d s L ag G fa ta = some (F, w, d, s, L, ag, G, fa, ta) := by
  unfold spec_l16Copy.f
  simp only [Option.bind_some, List.length_nil, List.nil_append]
  rw [if_pos (by omega), if_pos (by omega), if_pos (by omega), if_pos (by omega), if_pos (by omega)]
end
end Go.Proofs.Ythfefanapneocaa.Q
namespace Go.Proofs.Ythfefanapneocaa.Q
open Go.RowKit Go.Proofs.YthfefanapneocaaW.PrintWords Go.Proofs.YthfefanapneocaaW.PrintLast Go.Proofs.YthfefanapneocaaW.PrintMore
theorem seasonFrom_mem (n : Int) (l : List Game) : ∀ pre, seasonFrom n pre l = true → ∀ g ∈ l, gameOkB n g = true := by
  induction l with
  | nil => intro _ _ g hg; cases hg
  | cons x l ih =>
    intro pre h g hg
    rw [seasonFrom, Bool.and_eq_true, Bool.and_eq_true] at h
    rcases List.mem_cons.mp hg with rfl | hg
    · exact h.1.1
    · exact ih _ h.2 g hg
theorem gameOk_ne {n : Int} {g : Game} (h : gameOkB n g = true) : g.f0 ≠ g.f1 := by
  unfold gameOkB at h
  simp only [Bool.and_eq_true, Bool.not_eq_true', decide_eq_false_iff_not] at h
  exact h.1.1.1.1.1.2
def award (g : Game) (team : Int) : Game := ⟨g.f0, g.f1, 0, 0, if g.f0 = team then 2 else 3⟩
theorem sAward_eq (g : Game) (t : Int) : spec_l21Award.f g.f0 g.f1 g.f2 g.f3 g.f4 t = some ((award g t).f0, (award g t).f1, (award g t).f2, (award g t).f3, (award g t).f4) := by
  unfold spec_l21Award.f award
  split <;> rfl
theorem iAward_eq (g : Game) (t : Int) (hn : g.f0 ≠ g.f1) (ht : g.f0 = t ∨ g.f1 = t) : impl_awarded.f g.f0 g.f1 g.f2 g.f3 g.f4 t = some ((award g t).f0, (award g t).f1, (award g t).f2, (award g t).f3, (award g t).f4) := by
  unfold impl_awarded.f award
  by_cases h : g.f1 = t
  · rw [if_pos h, if_neg (show ¬ g.f0 = t by rw [← h]; exact hn)]
  · rw [if_neg h, if_pos (ht.resolve_right h)]
def openWB (g : Game) : Bool := g.f4 == 0
theorem iOpenW_eq (g : Game) : impl_IsOpen.f g.f0 g.f1 g.f2 g.f3 g.f4 = some (openWB g) := rfl
theorem sOpenW_eq (g : Game) : spec_IsOpen.f g.f0 g.f1 g.f2 g.f3 g.f4 = some (openWB g) := rfl
def wdG (team rule : Int) (g : Game) : Game :=
  if g.f0 = team ∨ g.f1 = team then (if rule = 1 then ⟨g.f0, g.f1, 0, 0, 4⟩ else if openWB g then award g (wrap64 (wrap64 (g.f0 + g.f1) - team)) else g) else g
theorem iPlays_eq (g : Game) (t : Int) : impl_plays.f g.f0 g.f1 g.f2 g.f3 g.f4 t = some (decide (g.f0 = t ∨ g.f1 = t)) := by
  unfold impl_plays.f
  by_cases h : g.f0 = t
  · rw [if_pos h, decide_eq_true (Or.inl h)]
  · by_cases h1 : g.f1 = t
    · rw [if_neg h, decide_eq_true (Or.inr h1), h1, beq_self_eq_true]
    · rw [if_neg h, decide_eq_false (by simp [h, h1])]
      simp [h1]
theorem gameOk_rng {n : Int} {g : Game} (h : gameOkB n g = true) : 0 ≤ g.f0 ∧ g.f0 < 8 ∧ 0 ≤ g.f1 ∧ g.f1 < 8 := by
  unfold gameOkB withinB at h
  simp only [Bool.and_eq_true, Bool.not_eq_true', decide_eq_false_iff_not, decide_eq_true_eq] at h
  omega
theorem iAwardW_eq (g : Game) (t n : Int) (hg : gameOkB n g = true) (ht : g.f0 = t ∨ g.f1 = t) : impl_awarded.f g.f0 g.f1 g.f2 g.f3 g.f4 (wrap64 (wrap64 (g.f0 + g.f1) - t)) = some ((award g (wrap64 (wrap64 (g.f0 + g.f1) - t))).f0, (award g (wrap64 (wrap64 (g.f0 + g.f1) - t))).f1, (award g (wrap64 (wrap64 (g.f0 + g.f1) - t))).f2, (award g (wrap64 (wrap64 (g.f0 + g.f1) - t))).f3, (award g (wrap64 (wrap64 (g.f0 + g.f1) - t))).f4) := by
  have hr := gameOk_rng hg
  refine iAward_eq g _ (gameOk_ne hg) ?_
  rw [wrap_id (g.f0 + g.f1) (by omega) (by omega), wrap_id _ (by omega) (by omega)]
  omega
theorem noName : ((some (⟨#[]⟩ : ByteArray)).bind fun t => some (t.toList == ([] : List UInt8))) = some (!false) := by kernel_rfl
theorem iRule_eq (r : Int) : (impl_RuleName.f r).bind (fun t => some (t.toList == ([] : List UInt8))) = some (!withinB r 1 2) := by
  unfold impl_RuleName.f
  by_cases h1 : r = 1
  · subst h1; kernel_rfl
  · by_cases h2 : r = 2
    · subst h2; kernel_rfl
    · have : withinB r 1 2 = false := by
        unfold withinB
        by_cases h4 : 1 ≤ r
        · rw [decide_eq_false (show ¬ r ≤ 2 by omega), Bool.and_false]
        · rw [decide_eq_false h4, Bool.false_and]
      rw [if_neg h1, if_neg h2, this]; exact noName
section
variable (F : List Team) (w d s : Int) (L : List Int) (ag : Bool) (fa ta : List Int) (G0 : List Game)
theorem iWithdraw_loop (team rule n : Int) (rest : List Game) : ∀ pre : List Game, pre.length + rest.length ≤ 1048576 → (∀ g ∈ rest, gameOkB n g = true) →
    Ev (fun k => impl_Withdraw.l0 k team rule ((pre ++ rest).length : Int) (pre.length : Int) F w d s L ag (pre ++ rest) fa ta) (F, w, d, s, L, ag, pre ++ rest.map (wdG team rule), fa, ta, true) := by
  induction rest with
  | nil =>
    intro pre hl hg
    exact Ev.step (f := fun _ => some (F, w, d, s, L, ag, pre ++ [], fa, ta, true)) (fun k => by rw [impl_Withdraw.l0, if_neg (by rw [List.append_nil]; omega)]) (Ev.now _)
  | cons g rest ih =>
    intro pre hl hg
    rw [List.length_cons] at hl
    have hlt : pre.length < (pre ++ g :: rest).length := by rw [List.length_append, List.length_cons]; omega
    have hget : (pre ++ g :: rest)[pre.length] = g := by rw [List.getElem_append_right (Nat.le_refl _)]; simp
    have hset : ∀ x, (pre ++ g :: rest).set pre.length x = (pre ++ [x]) ++ rest := by intro x; rw [List.set_append_right _ _ (Nat.le_refl _), Nat.sub_self, List.set_cons_zero, List.append_assoc]; rfl
    have hok := hg g (List.mem_cons_self ..)
    have key : ∀ x, wdG team rule g = x → Ev (fun k => impl_Withdraw.l0 k team rule ((pre ++ g :: rest).length : Int) ((pre.length + 1 : Nat) : Int) F w d s L ag ((pre ++ [x]) ++ rest) fa ta) (F, w, d, s, L, ag, pre ++ (g :: rest).map (wdG team rule), fa, ta, true) := by
      intro x hx
      have := ih (pre ++ [x]) (by rw [List.length_append, List.length_singleton]; omega) (fun y hy => hg y (List.mem_cons_of_mem _ hy))
      refine Ev.eq (Ev.congr (fun k => ?_) this) (by rw [List.map_cons, hx, List.append_assoc]; rfl)
      simp only [List.length_append, List.length_cons, List.length_nil, Nat.zero_add, Nat.add_assoc, Nat.add_comm 1]
    have hstay : pre ++ g :: rest = (pre ++ [g]) ++ rest := by rw [List.append_assoc]; rfl
    by_cases hp : g.f0 = team ∨ g.f1 = team
    · by_cases hr : rule = 1
      · refine Ev.step (fun k => ?_) (key ⟨g.f0, g.f1, 0, 0, 4⟩ (by unfold wdG; rw [if_pos hp, if_pos hr]))
        rw [impl_Withdraw.l0, if_pos (by omega), if_pos (by omega), if_pos (by omega), rdG_eq _ _ hlt, hget, iPlays_eq, Option.bind_some, decide_eq_true hp, if_pos rfl, if_pos hr, wrap_succ pre.length (by omega), Int.toNat_natCast, hset]
      · cases ho : openWB g with
        | true =>
          refine Ev.step (fun k => ?_) (key (award g (wrap64 (wrap64 (g.f0 + g.f1) - team))) (by unfold wdG; rw [if_pos hp, if_neg hr, ho, if_pos rfl]))
          rw [impl_Withdraw.l0, if_pos (by omega), if_pos (by omega), if_pos (by omega), rdG_eq _ _ hlt, hget, iPlays_eq, Option.bind_some, decide_eq_true hp, if_pos rfl, if_neg hr, iOpenW_eq, ho, Option.bind_some, if_pos rfl, iAwardW_eq g team n hok hp, Option.bind_some, wrap_succ pre.length (by omega), Int.toNat_natCast, hset]
        | false =>
          refine Ev.step (fun k => ?_) (key g (by unfold wdG; rw [if_pos hp, if_neg hr, ho, if_neg (by decide)]))
          rw [impl_Withdraw.l0, if_pos (by omega), if_pos (by omega), if_pos (by omega), rdG_eq _ _ hlt, hget, iPlays_eq, Option.bind_some, decide_eq_true hp, if_pos rfl, if_neg hr, iOpenW_eq, ho, Option.bind_some, if_neg (by decide), wrap_succ pre.length (by omega), ← hstay]
    · refine Ev.step (fun k => ?_) (key g (by unfold wdG; rw [if_neg hp]))
      rw [impl_Withdraw.l0, if_pos (by omega), if_pos (by omega), if_pos (by omega), rdG_eq _ _ hlt, hget, iPlays_eq, Option.bind_some, decide_eq_false hp, if_neg (by decide), wrap_succ pre.length (by omega), ← hstay]
theorem sWithdraw_loop (team rule : Int) (rest : List Game) : ∀ pre : List Game, pre.length + rest.length ≤ 1048576 →
    Ev (fun k => spec_Withdraw.l0 k team rule ((pre ++ rest).length : Int) (pre.length : Int) F w d s L ag (pre ++ rest) fa ta) (F, w, d, s, L, ag, pre ++ rest.map (wdG team rule), fa, ta, true) := by
  induction rest with
  | nil =>
    intro pre hl
    exact Ev.step (f := fun _ => some (F, w, d, s, L, ag, pre ++ [], fa, ta, true)) (fun k => by rw [spec_Withdraw.l0, if_neg (by rw [List.append_nil]; omega)]) (Ev.now _)
  | cons g rest ih =>
    intro pre hl
    rw [List.length_cons] at hl
    have hlt : pre.length < (pre ++ g :: rest).length := by rw [List.length_append, List.length_cons]; omega
    have hget : (pre ++ g :: rest)[pre.length] = g := by rw [List.getElem_append_right (Nat.le_refl _)]; simp
    have hset : ∀ x, (pre ++ g :: rest).set pre.length x = (pre ++ [x]) ++ rest := by intro x; rw [List.set_append_right _ _ (Nat.le_refl _), Nat.sub_self, List.set_cons_zero, List.append_assoc]; rfl
    have key : ∀ x, wdG team rule g = x → Ev (fun k => spec_Withdraw.l0 k team rule ((pre ++ g :: rest).length : Int) ((pre.length + 1 : Nat) : Int) F w d s L ag ((pre ++ [x]) ++ rest) fa ta) (F, w, d, s, L, ag, pre ++ (g :: rest).map (wdG team rule), fa, ta, true) := by
      intro x hx
      have := ih (pre ++ [x]) (by rw [List.length_append, List.length_singleton]; omega)
      refine Ev.eq (Ev.congr (fun k => ?_) this) (by rw [List.map_cons, hx, List.append_assoc]; rfl)
      simp only [List.length_append, List.length_cons, List.length_nil, Nat.zero_add, Nat.add_assoc, Nat.add_comm 1]
    have hstay : pre ++ g :: rest = (pre ++ [g]) ++ rest := by rw [List.append_assoc]; rfl
    have body : ∀ b : Bool, b = !decide (g.f0 = team ∨ g.f1 = team) → Ev (fun k => spec_Withdraw.j2 k team rule (pre.length : Int) ((pre ++ g :: rest).length : Int) (pre.length : Int) b F w d s L ag (pre ++ g :: rest) fa ta g.f0 g.f1 g.f2 g.f3 g.f4) (F, w, d, s, L, ag, pre ++ (g :: rest).map (wdG team rule), fa, ta, true) := by
      intro b hb
      by_cases hp : g.f0 = team ∨ g.f1 = team
      · rw [decide_eq_true hp] at hb
        subst hb
        by_cases hr : rule = 1
        · refine Ev.step (fun k => ?_) (key ⟨g.f0, g.f1, 0, 0, 4⟩ (by unfold wdG; rw [if_pos hp, if_pos hr]))
          rw [spec_Withdraw.j2, if_neg (by decide), if_pos hr, if_pos (by omega), if_pos (by omega), wrap_succ pre.length (by omega), Int.toNat_natCast, hset]
        · cases ho : openWB g with
          | true =>
            refine Ev.step (fun k => ?_) (key (award g (wrap64 (wrap64 (g.f0 + g.f1) - team))) (by unfold wdG; rw [if_pos hp, if_neg hr, ho, if_pos rfl]))
            rw [spec_Withdraw.j2, if_neg (by decide), if_neg hr, sOpenW_eq, ho, Option.bind_some, if_pos rfl, sAward_eq, Option.bind_some, if_pos (by omega), if_pos (by omega), wrap_succ pre.length (by omega), Int.toNat_natCast, hset]
          | false =>
            refine Ev.step (fun k => ?_) (key g (by unfold wdG; rw [if_pos hp, if_neg hr, ho, if_neg (by decide)]))
            rw [spec_Withdraw.j2, if_neg (by decide), if_neg hr, sOpenW_eq, ho, Option.bind_some, if_neg (by decide), wrap_succ pre.length (by omega), ← hstay]
      · rw [decide_eq_false hp] at hb
        subst hb
        refine Ev.step (fun k => ?_) (key g (by unfold wdG; rw [if_neg hp]))
        rw [spec_Withdraw.j2, if_pos (show (!false) = true from rfl), wrap_succ pre.length (by omega), ← hstay]
    by_cases h0 : g.f0 = team
    · refine Ev.step (fun k => ?_) (body false (by rw [decide_eq_true (Or.inl h0)]; rfl))
      rw [spec_Withdraw.l0, if_pos (by omega), if_pos (by omega), if_pos (by omega), rdG_eq _ _ hlt, hget, if_pos h0]
    · refine Ev.step (fun k => ?_) (body (g.f1 != team) (by by_cases h1 : g.f1 = team <;> simp [h0, h1]))
      rw [spec_Withdraw.l0, if_pos (by omega), if_pos (by omega), if_pos (by omega), rdG_eq _ _ hlt, hget, if_neg h0]
def withdrawn (team rule : Int) : List Team × Int × Int × Int × List Int × Bool × List Game × List Int × List Int × Bool :=
  if bookOkB F w d s L G0 fa ta && (withinB team 0 ((F.length : Int) - 1) && withinB rule 1 2) then (F, w, d, s, L, ag, G0.map (wdG team rule), fa, ta, true) else ([], 0, 0, 0, [], false, [], [], [], false)
theorem iWithdraw_ev (hn : ∀ t ∈ F, t.f0.size ≤ 1048576) (h1 : F.length ≤ 1048576) (h2 : L.length ≤ 1048576) (h3 : G0.length ≤ 1048576) (h4 : fa.length ≤ 1048576) (h5 : ta.length ≤ 1048576) (team rule : Int) :
    Ev (fun k => impl_Withdraw.f k F w d s L ag G0 fa ta team rule) (withdrawn F w d s L ag fa ta G0 team rule) := by
  unfold impl_Withdraw.f withdrawn
  have fals : Ev (fun k => impl_Withdraw.j0 k team rule true F w d s L ag G0 fa ta) ([], 0, 0, 0, [], false, [], [], [], false) := Ev.step (f := fun _ => some _) (fun k => by rw [impl_Withdraw.j0, if_pos rfl]) (Ev.now _)
  refine Ev.bind (Ev.from _ (bookOk_eq F w d s L ag G0 fa ta ⟨fun t ht => Nat.le_trans (hn t ht) (by decide), by omega, by omega⟩)) ?_
  cases hb : bookOkB F w d s L G0 fa ta with
  | false => exact Ev.congr (fun k => by rw [if_neg (by decide)]) fals
  | true =>
    refine Ev.congr (fun k => by rw [if_pos rfl, impl_isTeam.f, within_eq, wrap_id _ (by omega) (by omega), Option.bind_some, Option.bind_some]) ?_
    cases ht : withinB team 0 ((F.length : Int) - 1) with
    | false => exact Ev.congr (fun k => by rw [if_neg (by decide)]) fals
    | true =>
      have hr : ∀ k, ((impl_RuleName.f rule).bind fun t434 => (impl_Withdraw.j0 k team rule (t434.toList == ([] : List UInt8)) F w d s L ag G0 fa ta)) = impl_Withdraw.j0 k team rule (!withinB rule 1 2) F w d s L ag G0 fa ta := by
        intro k
        have := congrArg (fun o : Option Bool => o.bind fun b => impl_Withdraw.j0 k team rule b F w d s L ag G0 fa ta) (iRule_eq rule)
        simpa only [Option.bind_assoc, Option.bind_some] using this
      refine Ev.congr (fun k => by rw [if_pos rfl, hr]) ?_
      cases hw : withinB rule 1 2 with
      | false => exact fals
      | true =>
        refine Ev.step (fun k => by rw [impl_Withdraw.j0, if_neg (by decide), iCopied_eq F w d s L ag fa ta G0 h1 h2 h3 h4 h5, Option.bind_some]) ?_
        have hok : ∀ g ∈ G0, gameOkB (F.length : Int) g = true := by
          intro g h
          unfold bookOkB seasonOkB at hb
          simp only [Bool.and_eq_true] at hb
          exact seasonFrom_mem _ G0 [] hb.1.1.2.1 g h
        exact iWithdraw_loop F w d s L ag fa ta team rule _ G0 [] (by rw [List.length_nil]; omega) hok
theorem sWithdraw_ev (hn : ∀ t ∈ F, t.f0.size ≤ 1048576) (h1 : F.length ≤ 1048576) (h2 : L.length ≤ 1048576) (h3 : G0.length ≤ 1048576) (h4 : fa.length ≤ 1048576) (h5 : ta.length ≤ 1048576) (team rule : Int) :
    Ev (fun k => spec_Withdraw.f k F w d s L ag G0 fa ta team rule) (withdrawn F w d s L ag fa ta G0 team rule) := by
  unfold spec_Withdraw.f withdrawn
  have fals : Ev (fun k => spec_Withdraw.j0 k team rule true F w d s L ag G0 fa ta) ([], 0, 0, 0, [], false, [], [], [], false) := Ev.step (f := fun _ => some _) (fun k => by rw [spec_Withdraw.j0, if_pos rfl]) (Ev.now _)
  refine Ev.bind (sBookOk_ev F w d s L ag G0 fa ta (fun t ht => Nat.le_trans (hn t ht) (by decide))) ?_
  cases hb : bookOkB F w d s L G0 fa ta with
  | false => exact Ev.congr (fun k => by rw [if_neg (by decide)]) fals
  | true =>
    refine Ev.congr (fun k => by rw [if_pos rfl, l01In_eq, wrap_id _ (by omega) (by omega), Option.bind_some]) ?_
    cases ht : withinB team 0 ((F.length : Int) - 1) with
    | false => exact Ev.congr (fun k => by rw [if_neg (by decide)]) fals
    | true =>
      refine Ev.congr (fun k => by rw [if_pos rfl, l01In_eq, Option.bind_some]) ?_
      cases hw : withinB rule 1 2 with
      | false => exact fals
      | true =>
        refine Ev.step (fun k => by rw [Bool.not_true, spec_Withdraw.j0, if_neg (by decide), sCopy_eq F w d s L ag fa ta G0 h1 h2 h3 h4 h5, Option.bind_some]) ?_
        exact sWithdraw_loop F w d s L ag fa ta team rule G0 [] (by rw [List.length_nil]; omega)
end
abbrev TRow := S115
theorem rdR_eq (l : List TRow) (i : Nat) (h : i < l.length) : rd_T115 l (i : Int) = l[i] := by
  unfold rd_T115; simp [h]
def set2 (T : List TRow) (i j : Nat) (A B : TRow) : List TRow := (T.set i A).set j B
section
variable {T : List TRow} {i j : Nat} {A B C : TRow}
theorem set2_len : (set2 T i j A B).length = T.length := by unfold set2; simp
theorem rd_set2_i (hi : i < T.length) (hn : i ≠ j) : rd_T115 (set2 T i j A B) (i : Int) = A := by
  rw [rdR_eq _ i (by rw [set2_len]; exact hi)]
  unfold set2
  rw [List.getElem_set_ne (Ne.symm hn), List.getElem_set_self]
theorem rd_set2_j (hj : j < T.length) : rd_T115 (set2 T i j A B) (j : Int) = B := by
  rw [rdR_eq _ j (by rw [set2_len]; exact hj)]
  unfold set2
  rw [List.getElem_set_self]
theorem set_set2_i (hn : i ≠ j) : (set2 T i j A B).set i C = set2 T i j C B := by
  unfold set2
  rw [List.set_comm _ _ (Ne.symm hn), List.set_set]
theorem set_set2_j : (set2 T i j A B).set j C = set2 T i j A C := by
  unfold set2
  rw [List.set_set]
theorem set2_self (hi : i < T.length) (hj : j < T.length) : set2 T i j (rd_T115 T i) (rd_T115 T j) = T := by
  rw [rdR_eq T i hi, rdR_eq T j hj]
  unfold set2
  rw [List.set_getElem_self, List.set_getElem_self]
end
def rowAdd (r : TRow) (p w d l s a q : Int) : TRow := ⟨wrap64 (r.f0 + p), wrap64 (r.f1 + w), wrap64 (r.f2 + d), wrap64 (r.f3 + l), wrap64 (r.f4 + s), wrap64 (r.f5 + a), wrap64 (r.f6 + q)⟩
def goals (g : Game) : Int × Int × Bool := if g.f4 = 1 then (g.f2, g.f3, true) else if g.f4 = 2 then (3, 0, true) else if g.f4 = 3 then (0, 3, true) else (0, 0, false)
theorem iGoals_eq (g : Game) : impl_GoalsOf.f g.f0 g.f1 g.f2 g.f3 g.f4 = some (goals g) := by
  unfold impl_GoalsOf.f goals
  by_cases h1 : g.f4 = 1
  · rw [if_pos h1, if_pos h1]
  · by_cases h2 : g.f4 = 2
    · rw [if_neg h1, if_neg h1, if_pos h2, if_pos h2]
    · by_cases h3 : g.f4 = 3
      · rw [if_neg h1, if_neg h1, if_neg h2, if_neg h2, if_pos h3, if_pos h3]
      · rw [if_neg h1, if_neg h1, if_neg h2, if_neg h2, if_neg h3, if_neg h3]
theorem sGoals_eq (g : Game) : spec_GoalsOf.f g.f0 g.f1 g.f2 g.f3 g.f4 = some (goals g) := by
  unfold spec_GoalsOf.f goals
  by_cases h1 : g.f4 = 1
  · rw [if_pos h1, if_pos h1]
  · by_cases h2 : g.f4 = 2
    · rw [if_neg h1, if_neg h1, if_pos h2, if_pos h2]
    · by_cases h3 : g.f4 = 3
      · rw [if_neg h1, if_neg h1, if_neg h2, if_neg h2, if_pos h3, if_pos h3]
      · rw [if_neg h1, if_neg h1, if_neg h2, if_neg h2, if_neg h3, if_neg h3]
def stepT (w d s : Int) (T : List TRow) (g : Game) : List TRow :=
  if (goals g).2.2 = true then
    if (goals g).1 > (goals g).2.1 then set2 T g.f0.toNat g.f1.toNat (rowAdd (rd_T115 T g.f0) 1 1 0 0 (goals g).1 (goals g).2.1 w) (rowAdd (rd_T115 T g.f1) 1 0 0 1 (goals g).2.1 (goals g).1 s)
    else if (goals g).1 < (goals g).2.1 then set2 T g.f0.toNat g.f1.toNat (rowAdd (rd_T115 T g.f0) 1 0 0 1 (goals g).1 (goals g).2.1 s) (rowAdd (rd_T115 T g.f1) 1 1 0 0 (goals g).2.1 (goals g).1 w)
    else set2 T g.f0.toNat g.f1.toNat (rowAdd (rd_T115 T g.f0) 1 0 1 0 (goals g).1 (goals g).2.1 d) (rowAdd (rd_T115 T g.f1) 1 0 1 0 (goals g).2.1 (goals g).1 d)
  else T
def inT (n : Nat) (g : Game) : Prop := g.f0 ≠ g.f1 ∧ 0 ≤ g.f0 ∧ g.f0 < n ∧ 0 ≤ g.f1 ∧ g.f1 < n
def wrapped (r : TRow) : Prop := wrap64 r.f1 = r.f1 ∧ wrap64 r.f2 = r.f2 ∧ wrap64 r.f3 = r.f3
theorem wrap_wrap (x : Int) : wrap64 (wrap64 x) = wrap64 x := by unfold wrap64; omega
theorem wrapped_add (r : TRow) (p w d l s a q : Int) : wrapped (rowAdd r p w d l s a q) := ⟨wrap_wrap _, wrap_wrap _, wrap_wrap _⟩
theorem stepT_len (w d s : Int) (T : List TRow) (g : Game) : (stepT w d s T g).length = T.length := by
  unfold stepT
  split
  · split
    · exact set2_len
    · split <;> exact set2_len
  · rfl
theorem set2_wrapped {T : List TRow} {i j : Nat} {A B : TRow} (h : ∀ r ∈ T, wrapped r) (ha : wrapped A) (hb : wrapped B) : ∀ r ∈ set2 T i j A B, wrapped r := by
  intro r hr
  unfold set2 at hr
  rcases List.mem_or_eq_of_mem_set hr with hr | rfl
  · rcases List.mem_or_eq_of_mem_set hr with hr | rfl
    · exact h r hr
    · exact ha
  · exact hb
theorem stepT_wrapped (w d s : Int) (T : List TRow) (g : Game) (h : ∀ r ∈ T, wrapped r) : ∀ r ∈ stepT w d s T g, wrapped r := by
  unfold stepT
  split
  · split
    · exact set2_wrapped h (wrapped_add ..) (wrapped_add ..)
    · split <;> exact set2_wrapped h (wrapped_add ..) (wrapped_add ..)
  · exact h
def tableL (w d s : Int) (n : Nat) (G : List Game) : List TRow := G.foldl (stepT w d s) (List.replicate n z115)
theorem foldT_len (w d s : Int) (G : List Game) : ∀ T, (G.foldl (stepT w d s) T).length = T.length := by
  induction G with
  | nil => intro T; rfl
  | cons g G ih => intro T; rw [List.foldl_cons, ih, stepT_len]
theorem tableL_len (w d s : Int) (n : Nat) (G : List Game) : (tableL w d s n G).length = n := by unfold tableL; rw [foldT_len, List.length_replicate]
section
variable (w d s : Int) (L : List Int) (ag : Bool)
theorem sAdd_j0 (k : Nat) (T : List TRow) (i j : Nat) (hil : i < T.length) (hjl : j < T.length) (hne : i ≠ j) (g2 g3 g4 p1 p2 p3 p4 p5 p6 p7 q1 q2 q3 q4 q5 q6 q7 : Int) :
    spec_l06Add.j0 (k + 1) T (i : Int) (j : Int) g2 g3 g4 p1 p2 p3 p4 p5 p6 p7 q1 q2 q3 q4 q5 q6 q7 = some (set2 T i j (rowAdd (rd_T115 T (i : Int)) p1 p2 p3 p4 p5 p6 p7) (rowAdd (rd_T115 T (j : Int)) q1 q2 q3 q4 q5 q6 q7)) := by
  have key : ∀ A B : TRow, (T.set i A).set j B = set2 T i j A B := fun _ _ => rfl
  have rdj : ∀ A : TRow, rd_T115 (T.set i A) (j : Int) = rd_T115 T (j : Int) := by
    intro A
    rw [rdR_eq _ j (by simpa using hjl), rdR_eq T j hjl, List.getElem_set_ne hne]
  rw [spec_l06Add.j0, if_pos (by omega), if_pos (by omega), spec_AddRows.f]
  simp only [Option.bind_some, Int.toNat_natCast, rdj, key]
  rw [if_pos (by omega), if_pos (by omega), spec_AddRows.f]
  simp only [Option.bind_some, rdj, key]
  rfl
theorem sAdd_eq (k : Nat) (T : List TRow) (g : Game) (hg : inT T.length g) : spec_l06Add.f (k + 1) w d s L ag T g.f0 g.f1 g.f2 g.f3 g.f4 = some (stepT w d s T g) := by
  obtain ⟨hn, h0, h1, h2, h3⟩ := hg
  obtain ⟨i, hi⟩ := Int.eq_ofNat_of_zero_le h0
  obtain ⟨j, hj⟩ := Int.eq_ofNat_of_zero_le h2
  have hil : i < T.length := by omega
  have hjl : j < T.length := by omega
  have hne : i ≠ j := by omega
  unfold spec_l06Add.f spec_OutcomeOf.f stepT
  rw [sGoals_eq g]
  simp only [Option.bind_some]
  cases hz : (goals g).2.2 with
  | false => rw [if_neg (by decide), if_neg (by decide)]
  | true =>
    rw [if_pos rfl, if_pos rfl, if_pos rfl]
    generalize (goals g).1 = x
    generalize (goals g).2.1 = y
    by_cases c1 : x > y
    · rw [if_pos c1, if_pos c1, Option.bind_some, if_pos rfl, hi, hj, sAdd_j0 k T i j hil hjl hne, Int.toNat_natCast, Int.toNat_natCast]
    · by_cases c2 : x = y
      · rw [if_neg c1, if_neg c1, if_neg (show ¬ x < y by omega), if_pos c2, Option.bind_some, if_neg (by decide), if_pos rfl, hi, hj, sAdd_j0 k T i j hil hjl hne, Int.toNat_natCast, Int.toNat_natCast]
      · rw [if_neg c1, if_neg c1, if_pos (show x < y by omega), if_neg c2, Option.bind_some, if_neg (by decide), if_neg (by decide), if_pos rfl, hi, hj, sAdd_j0 k T i j hil hjl hne, Int.toNat_natCast, Int.toNat_natCast]
theorem sAdd_ev (T : List TRow) (g : Game) (hg : inT T.length g) : Ev (fun k => spec_l06Add.f k w d s L ag T g.f0 g.f1 g.f2 g.f3 g.f4) (stepT w d s T g) :=
  Ev.step (f := fun _ => some (stepT w d s T g)) (fun k => sAdd_eq w d s L ag k T g hg) (Ev.now _)
theorem iAdd_eq (k : Nat) (T : List TRow) (g : Game) (G : List Game) (m q : Int) (hg : inT T.length g) (hw : ∀ r ∈ T, wrapped r) (hz : (goals g).2.2 = true) :
    impl_tableOfG.j1 (fun _ => true) (k + 1) T (goals g).1 (goals g).2.1 G m q false w d s L ag g.f0 g.f1 g.f2 g.f3 g.f4 = impl_tableOfG.l0 (fun _ => true) k (stepT w d s T g) G m (wrap64 (q + 1)) w d s L ag := by
  obtain ⟨hn, h0, h1, h2, h3⟩ := hg
  obtain ⟨i, hi⟩ := Int.eq_ofNat_of_zero_le h0
  obtain ⟨j, hj⟩ := Int.eq_ofNat_of_zero_le h2
  have hil : i < T.length := by omega
  have hjl : j < T.length := by omega
  have hne : i ≠ j := by omega
  unfold stepT
  rw [if_pos hz]
  generalize (goals g).1 = x
  generalize (goals g).2.1 = y
  rw [impl_tableOfG.j1, if_neg (by decide), if_pos h0, if_pos h1, if_pos h2, if_pos h3, hi, hj, Int.toNat_natCast, Int.toNat_natCast]
  have wa : wrapped (rd_T115 T (i : Int)) := by rw [rdR_eq T i hil]; exact hw _ (List.getElem_mem hil)
  have wb : wrapped (rd_T115 T (j : Int)) := by rw [rdR_eq T j hjl]; exact hw _ (List.getElem_mem hjl)
  have hT := set2_self (T := T) hil hjl
  generalize rd_T115 T (i : Int) = a at wa hT ⊢
  generalize rd_T115 T (j : Int) = b at wb hT ⊢
  have hTl : T.length = (set2 T i j a b).length := set2_len.symm
  rw [← hT]
  simp only [Option.bind_some, rd_set2_i hil hne, rd_set2_j hjl, set_set2_i hne, set_set2_j]
  have s2 : ∀ (A B C D : TRow), set2 (set2 T i j A B) i j C D = set2 T i j C D := by
    intro A B C D
    show ((set2 T i j A B).set i C).set j D = _
    rw [set_set2_i hne, set_set2_j]
  rw [s2, s2, s2]
  obtain ⟨wa1, wa2, wa3⟩ := wa
  obtain ⟨wb1, wb2, wb3⟩ := wb
  by_cases c1 : x > y
  · rw [if_pos c1, if_pos c1]
    simp only [rowAdd, Int.add_zero, wa1, wa2, wa3, wb1, wb2, wb3]
  · by_cases c2 : x < y
    · rw [if_neg c1, if_neg c1, if_pos c2, if_pos c2]
      simp only [rowAdd, Int.add_zero, wa1, wa2, wa3, wb1, wb2, wb3]
    · rw [if_neg c1, if_neg c1, if_neg c2, if_neg c2]
      simp only [rowAdd, Int.add_zero, wa1, wa2, wa3, wb1, wb2, wb3]
theorem sAmong_ev (n : Nat) (hn : n ≤ 1048576) (G : List Game) (hG : ∀ g ∈ G, inT n g) (hl : G.length ≤ 1048576) : Ev (fun k => spec_l06Among.f k w d s L ag (n : Int) G [] true) (tableL w d s n G) := by
  unfold spec_l06Among.f
  refine Ev.congr (fun k => by rw [if_pos (show (0 : Int) ≤ (n : Int) by omega), Int.toNat_natCast, if_pos (by omega)]) ?_
  have key : ∀ (e i : Nat) (T : List TRow), i + e = G.length → T.length = n → Ev (fun k => spec_l06Among.l0 k [] true T G (G.length : Int) (i : Int) w d s L ag) ((G.drop i).foldl (stepT w d s) T) := by
    intro e
    induction e with
    | zero =>
      intro i T hi hT
      rw [List.drop_eq_nil_of_le (by omega)]
      exact Ev.step (f := fun _ => some T) (fun k => by rw [spec_l06Among.l0, if_neg (by omega)]) (Ev.now _)
    | succ e ih =>
      intro i T hi hT
      have hlt : i < G.length := by omega
      rw [List.drop_eq_getElem_cons hlt, List.foldl_cons]
      refine Ev.step (fun k => by rw [spec_l06Among.l0, if_pos (by omega), if_pos (by omega), if_pos (by omega), if_pos rfl, rdG_eq G i hlt]) (Ev.bind (sAdd_ev w d s L ag T G[i] (by rw [hT]; exact hG _ (List.getElem_mem hlt))) ?_)
      exact Ev.congr (fun k => by rw [wrap_succ i (by omega)]) (ih (i + 1) (stepT w d s T G[i]) (by omega) (by rw [stepT_len]; exact hT))
  exact key G.length 0 _ (Nat.zero_add _) (List.length_replicate)
theorem iTable_ev (n : Nat) (hn : n ≤ 1048576) (G : List Game) (hG : ∀ g ∈ G, inT n g) (hl : G.length ≤ 1048576) : Ev (fun k => impl_tableOf.f k w d s L ag (n : Int) G) (tableL w d s n G) := by
  unfold impl_tableOf.f impl_tableOfG.f
  refine Ev.congr (fun k => by rw [if_pos (show (0 : Int) ≤ (n : Int) by omega), Int.toNat_natCast, if_pos (by omega)]) ?_
  have key : ∀ (e i : Nat) (T : List TRow), i + e = G.length → T.length = n → (∀ r ∈ T, wrapped r) → Ev (fun k => impl_tableOfG.l0 (fun _ => true) k T G (G.length : Int) (i : Int) w d s L ag) ((G.drop i).foldl (stepT w d s) T) := by
    intro e
    induction e with
    | zero =>
      intro i T hi hT hw
      rw [List.drop_eq_nil_of_le (by omega)]
      exact Ev.step (f := fun _ => some T) (fun k => by rw [impl_tableOfG.l0, if_neg (by omega)]) (Ev.now _)
    | succ e ih =>
      intro i T hi hT hw
      have hlt : i < G.length := by omega
      rw [List.drop_eq_getElem_cons hlt, List.foldl_cons]
      have next := ih (i + 1) (stepT w d s T G[i]) (by omega) (by rw [stepT_len]; exact hT) (stepT_wrapped w d s T G[i] hw)
      refine Ev.step (fun k => by rw [impl_tableOfG.l0, if_pos (by omega), if_pos (by omega), if_pos (by omega), rdG_eq G i hlt, iGoals_eq, Option.bind_some]) ?_
      cases hz : (goals G[i]).2.2 with
      | false =>
        have hs : stepT w d s T G[i] = T := by unfold stepT; rw [hz, if_neg (by decide)]
        rw [hs] at next ⊢
        refine Ev.congr (fun k => by rw [if_neg (by decide)]) (Ev.step (fun k => by rw [impl_tableOfG.j1, if_pos rfl, wrap_succ i (by omega)]) next)
      | true =>
        refine Ev.congr (fun k => by rw [if_pos rfl, hol_, Option.bind_some]) ?_
        refine Ev.step (fun k => ?_) next
        rw [← wrap_succ i (by omega)]
        exact iAdd_eq w d s L ag k T G[i] G (G.length : Int) (i : Int) (by rw [hT]; exact hG _ (List.getElem_mem hlt)) hw hz
  refine key G.length 0 _ (Nat.zero_add _) List.length_replicate ?_
  intro r hr
  rw [List.eq_of_mem_replicate hr]
  have h0 : wrap64 0 = 0 := by unfold wrap64; omega
  exact ⟨h0, h0, h0⟩
end
def lossL (B A : List TRow) (i : Nat) : List Int := (List.range i).map fun t : Nat => wrap64 ((rd_T115 B (t : Int)).f6 - (rd_T115 A (t : Int)).f6)
theorem lossL_len (B A : List TRow) (i : Nat) : (lossL B A i).length = i := by simp [lossL]
theorem lossL_succ (B A : List TRow) (i : Nat) : lossL B A (i + 1) = lossL B A i ++ [wrap64 ((rd_T115 B (i : Int)).f6 - (rd_T115 A (i : Int)).f6)] := by simp [lossL, List.range_succ]
theorem sLost_l0 (B A : List TRow) (h : A.length = B.length) (hl : B.length ≤ 1048576) : Ev (fun k => spec_PointsLost.l0 k A [] B (B.length : Int) 0) (lossL B A B.length) := by
  have key : ∀ (e i : Nat), i + e = B.length → Ev (fun k => spec_PointsLost.l0 k A (lossL B A i) B (B.length : Int) (i : Int)) (lossL B A B.length) := by
    intro e
    induction e with
    | zero =>
      intro i hi
      obtain rfl : i = B.length := by omega
      exact Ev.step (f := fun _ => some (lossL B A B.length)) (fun k => by rw [spec_PointsLost.l0, if_neg (by omega)]) (Ev.now _)
    | succ e ih =>
      intro i hi
      have hq := lossL_len B A i
      refine Ev.step (fun k => ?_) (ih (i + 1) (by omega))
      rw [spec_PointsLost.l0, if_pos (by omega), if_pos (by omega), if_pos (by omega), if_pos (by omega), if_pos (by omega), lossL_succ, wrap_succ i (by omega)]
  exact key B.length 0 (Nat.zero_add _)
theorem iLost_l0 (B A : List TRow) (h : A.length = B.length) (hl : B.length ≤ 1048576) : Ev (fun k => impl_PointsLost.l0 k [] A B (B.length : Int) 0) (lossL B A B.length) := by
  have key : ∀ (e i : Nat), i + e = B.length → Ev (fun k => impl_PointsLost.l0 k (lossL B A i) A B (B.length : Int) (i : Int)) (lossL B A B.length) := by
    intro e
    induction e with
    | zero =>
      intro i hi
      obtain rfl : i = B.length := by omega
      exact Ev.step (f := fun _ => some (lossL B A B.length)) (fun k => by rw [impl_PointsLost.l0, if_neg (by omega)]) (Ev.now _)
    | succ e ih =>
      intro i hi
      have hq := lossL_len B A i
      refine Ev.step (fun k => ?_) (ih (i + 1) (by omega))
      rw [impl_PointsLost.l0, if_pos (by omega), if_pos (by omega), if_pos (by omega), if_pos (by omega), if_pos (by omega), lossL_succ, wrap_succ i (by omega)]
  exact key B.length 0 (Nat.zero_add _)
section
variable (F : List Team) (w d s : Int) (L : List Int) (ag : Bool) (fa ta : List Int) (G0 : List Game)
def lost (team rule : Int) : List Int :=
  if (withdrawn F w d s L ag fa ta G0 team rule).2.2.2.2.2.2.2.2.2 = true then lossL (tableL w d s F.length G0) (tableL w d s F.length (G0.map (wdG team rule))) F.length else []
theorem lost_len (team rule : Int) : (lost F w d s L ag fa ta G0 team rule).length ≤ F.length := by
  unfold lost
  split
  · rw [lossL_len]; exact Nat.le_refl _
  · exact Nat.zero_le _
theorem withdrawn_some {team rule : Int} (h : (withdrawn F w d s L ag fa ta G0 team rule).2.2.2.2.2.2.2.2.2 = true) : withdrawn F w d s L ag fa ta G0 team rule = (F, w, d, s, L, ag, G0.map (wdG team rule), fa, ta, true) ∧ ∀ g ∈ G0, inT F.length g := by
  unfold withdrawn at h ⊢
  split at h
  · rename_i hc
    rw [if_pos hc]
    refine ⟨rfl, fun g hg => ?_⟩
    simp only [Bool.and_eq_true] at hc
    have hb := hc.1
    unfold bookOkB seasonOkB at hb
    simp only [Bool.and_eq_true] at hb
    have hok := seasonFrom_mem _ G0 [] hb.1.1.2.1 g hg
    have hne := gameOk_ne hok
    unfold gameOkB withinB at hok
    simp only [Bool.and_eq_true, Bool.not_eq_true', decide_eq_false_iff_not, decide_eq_true_eq] at hok
    exact ⟨hne, by omega, by omega, by omega, by omega⟩
  · cases h
theorem wdG_inT {n : Nat} {team rule : Int} {g : Game} (h : inT n g) : inT n (wdG team rule g) := by
  unfold wdG
  split
  · split
    · exact h
    · split <;> exact h
  · exact h
theorem sLost_ev (hn : ∀ t ∈ F, t.f0.size ≤ 1048576) (h1 : F.length ≤ 1048576) (h2 : L.length ≤ 1048576) (h3 : G0.length ≤ 1048576) (h4 : fa.length ≤ 1048576) (h5 : ta.length ≤ 1048576) (team rule : Int) :
    Ev (fun k => spec_PointsLost.f k F w d s L ag G0 fa ta team rule) (lost F w d s L ag fa ta G0 team rule) := by
  unfold spec_PointsLost.f lost
  refine Ev.bind (sWithdraw_ev F w d s L ag fa ta G0 hn h1 h2 h3 h4 h5 team rule) ?_
  cases hx : (withdrawn F w d s L ag fa ta G0 team rule).2.2.2.2.2.2.2.2.2 with
  | false => exact Ev.val fun k => by rw [if_neg (by decide)]; rfl
  | true =>
    obtain ⟨e1, hin⟩ := withdrawn_some F w d s L ag fa ta G0 hx
    rw [e1]
    refine Ev.congr (fun k => by rw [if_pos rfl]) ?_
    refine Ev.bind (sAmong_ev w d s L ag F.length h1 G0 hin h3) (Ev.bind (sAmong_ev w d s L ag F.length h1 (G0.map (wdG team rule)) (fun g hg => by obtain ⟨x, hx, rfl⟩ := List.mem_map.mp hg; exact wdG_inT (hin x hx)) (by rw [List.length_map]; exact h3)) ?_)
    have := sLost_l0 (tableL w d s F.length G0) (tableL w d s F.length (G0.map (wdG team rule))) (by rw [tableL_len, tableL_len]) (by rw [tableL_len]; exact h1)
    rw [if_pos rfl]
    rw [tableL_len] at this ⊢
    exact this
theorem iLost_ev (hn : ∀ t ∈ F, t.f0.size ≤ 1048576) (h1 : F.length ≤ 1048576) (h2 : L.length ≤ 1048576) (h3 : G0.length ≤ 1048576) (h4 : fa.length ≤ 1048576) (h5 : ta.length ≤ 1048576) (team rule : Int) :
    Ev (fun k => impl_PointsLost.f k F w d s L ag G0 fa ta team rule) (lost F w d s L ag fa ta G0 team rule) := by
  unfold impl_PointsLost.f lost
  refine Ev.bind (iWithdraw_ev F w d s L ag fa ta G0 hn h1 h2 h3 h4 h5 team rule) ?_
  cases hx : (withdrawn F w d s L ag fa ta G0 team rule).2.2.2.2.2.2.2.2.2 with
  | false => exact Ev.val fun k => by rw [if_neg (by decide)]; rfl
  | true =>
    obtain ⟨e1, hin⟩ := withdrawn_some F w d s L ag fa ta G0 hx
    rw [e1]
    refine Ev.congr (fun k => by rw [if_pos rfl]) ?_
    refine Ev.bind (iTable_ev w d s L ag F.length h1 (G0.map (wdG team rule)) (fun g hg => by obtain ⟨x, hx, rfl⟩ := List.mem_map.mp hg; exact wdG_inT (hin x hx)) (by rw [List.length_map]; exact h3)) (Ev.bind (iTable_ev w d s L ag F.length h1 G0 hin h3) ?_)
    have := iLost_l0 (tableL w d s F.length G0) (tableL w d s F.length (G0.map (wdG team rule))) (by rw [tableL_len, tableL_len]) (by rw [tableL_len]; exact h1)
    rw [if_pos rfl]
    rw [tableL_len] at this ⊢
    exact this
end
end Go.Proofs.Ythfefanapneocaa.Q
namespace Go.Proofs.Ythfefanapneocaa.Pure
open Go.RowKit Go.Proofs.Ythfefanapneocaa.Q Go.Proofs.YthfefanapneocaaW.PrintWords Go.Proofs.YthfefanapneocaaW.PrintLast
theorem FnExactPointsLost (F : List TeamA) (w d s : Int) (L : List Int) (ag : Bool) (G : List GameA) (fa ta : List Int) (a1 a2 : Int) (ok0 : BkArg F w d s L G fa ta) (_ok1 : (Lit.int .i64 a1).wf = true) (_ok2 : (Lit.int .i64 a2).wf = true) :
    ∃ k, laws_FnExactPointsLost.f k F w d s L ag G fa ta a1 a2 = some true := by
  refine Ev.rounds ?_
  unfold laws_FnExactPointsLost.f
  obtain ⟨t, et, ht⟩ := szBook_arg F w d s L ag G fa ta ok0
  rcases ht with ht | ⟨ht, -, hs⟩
  · exact Ev.bind et (Ev.val fun k => by rw [if_pos ht])
  refine Ev.bind et (Ev.congr (fun k => by rw [if_neg (by omega)]) ?_)
  have hF : (F.map convT).length ≤ 1048576 := by rw [List.length_map]; exact hs.f
  have hG : (G.map convG).length ≤ 1048576 := by rw [List.length_map]; exact hs.g
  have hN : ∀ t ∈ F.map convT, t.f0.size ≤ 1048576 := by
    intro t h
    obtain ⟨x, hx, rfl⟩ := List.mem_map.mp h
    exact hs.n x hx
  have eA := toBook_ev F w d s L ag G fa ta hs.f hs.l hs.g hs.x hs.y
  have eS := sLost_ev (F.map convT) w d s L ag fa ta (G.map convG) hN hF hs.l hG hs.x hs.y a1 a2
  have eI := iLost_ev (F.map convT) w d s L ag fa ta (G.map convG) hN hF hs.l hG hs.x hs.y a1 a2
  have eB := eqBook_ev (F.map convT) w d s L ag (G.map convG) fa ta hF hs.l hG hs.x hs.y
  have hr := lost_len (F.map convT) w d s L ag fa ta (G.map convG) a1 a2
  generalize lost (F.map convT) w d s L ag fa ta (G.map convG) a1 a2 = r at eS eI hr
  have eR := eqInt_ev r (by omega)
  refine Ev.bind eA (Ev.bind eS (Ev.bind eA (Ev.bind eI (Ev.bind eR ?_))))
  have eM := markInt_ev r 1 (by decide) (by omega)
  have eH := heldInt_ev r.length 1 (by decide) (by omega)
  have eM1 := markBook_ev (F.map convT) w d s L ag (G.map convG) fa ta 1 (by decide) (by decide) hF hs.l hG hs.x hs.y
  have hp1 := markBk_pos 1 (by decide) (F.map convT).length L.length (G.map convG).length fa.length ta.length
  have ej0 : Ev (fun k => laws_FnExactPointsLost.j0 k a1 a2 r r false F w d s L ag G fa ta) true := by
    refine Ev.step (fun k => by rw [laws_FnExactPointsLost.j0, if_neg (by decide)]) (Ev.bind eM (Ev.bind eH ?_))
    refine Ev.congr (fun k => by rw [if_neg (by omega), if_pos rfl]) (Ev.bind eA (Ev.bind eI (Ev.bind eR ?_)))
    refine Ev.congr (fun k => by rw [if_pos rfl]) (Ev.bind eH ?_)
    exact Ev.val fun k => by rw [if_neg (by omega), if_pos rfl]
  refine Ev.congr (fun k => by rw [if_pos rfl]) (Ev.bind eA (Ev.bind eB ?_))
  refine Ev.congr (fun k => by rw [if_pos rfl]) (Ev.bind eM1 ?_)
  refine Ev.congr (fun k => by rw [if_neg (by omega)]) (Ev.bind eR ?_)
  exact ej0
end Go.Proofs.Ythfefanapneocaa.Pure
namespace Go.Proofs.Ythfefanapneocaa.fnExactPointsLost
open Go.ChangeShapes Go.WideShapes Go.ChangeAt Go.RowKit
open Go.ChangeMaps (open_string shut_string)
set_option linter.unusedVariables false
theorem own : ownKnob Try.prog.godebug = none := by kernel_rfl
theorem laidOut : laidOutB Try.prog = true := by kernel_rfl
set_option maxRecDepth 100000 in
set_option maxHeartbeats 4000000 in
theorem lifted (os : Os) (started : os.Started) (H : Type) (enc : TypeId × Value → H) :
    ReturnsInHanded {} Try.checked os 6 .any (Rows.fnExactPointsLostSpec.pre6 enc Try.prog Try.f6 Rows.fnExactPointsLostRow.domain false) (Rows.fnExactPointsLostSpec.post enc Try.prog Try.f6 false true false false) := by
  refine returnsInHanded_of_change_sized (C := Try.checked) own started (by kernel_rfl) Try.func6
    (ChangeSpec.witness6 (enc := enc) (C := Try.checked) false ⟨#[], #[.agg #[.slice none 0 0, .int .i64 0, .int .i64 0, .int .i64 0, .slice none 0 0, .bool false, .slice none 0 0, .slice none 0 0, .slice none 0 0], .int .i64 0, .int .i64 0], []⟩ 8 (by kernel_rfl) (by kernel_rfl) (by kernel_rfl) (by kernel_rfl)) ?_
  intro W base args ds gs before hval0 hW hcnd hsz0 _
  have hval : ∀ (j : Nat) t v, Try.f6.params[j]? = some t → args[j]? = some v → Value.okWide Try.prog W .any base t v := hval0
  have hW' := hW
  obtain ⟨p, q, hA0, hV, rfl, hfz, hnd⟩ := hW
  have hA : DataW.TrodAll enc Try.prog W 0 (fun _ => true) true Try.f6.params.toList args.toList ds p := hA0
  rw [Try.params6] at hA hval
  obtain ⟨v0, vs0, d0, ds0, p0, q0, hargs0, rfl, rfl, h0, r0⟩ := trodAll_cons hA
  obtain ⟨v1, vs1, d1, ds1, p1, q1, hargs1, rfl, rfl, h1, r1⟩ := trodAll_cons r0
  obtain ⟨v2, vs2, d2, ds2, p2, q2, hargs2, rfl, rfl, h2, r2⟩ := trodAll_cons r1
  obtain ⟨rfl, rfl, rfl⟩ := trodAll_nil r2
  obtain rfl : args = #[v0, v1, v2] := by cases args; simp_all
  obtain ⟨rfl, rfl⟩ := trodVars_none hV
  have k0 := h0; have lt0 : ∀ x ∈ p0, x.block < W.heap.size := by obtain ⟨m, hm⟩ := k0; exact DataW.trod_lt m _ _ _ hm
  have k1 := h1; have lt1 : ∀ x ∈ p1, x.block < W.heap.size := by obtain ⟨m, hm⟩ := k1; exact DataW.trod_lt m _ _ _ hm
  have k2 := h2; have lt2 : ∀ x ∈ p2, x.block < W.heap.size := by obtain ⟨m, hm⟩ := k2; exact DataW.trod_lt m _ _ _ hm
  obtain ⟨cs0, x0, rfl, hK0, ok0⟩ := Opens.trod_struct_val Try.underlying28 (hval 0 28 v0 rfl rfl) h0 (Opens.struct Try.underlying28 (by kernel_rfl) (Opens.cons 0 1 rfl (Opens.slice Try.underlying22 (Opens.iso (f := fun x : Q.S133 => (x.f0, x.f1, x.f2)) (fun x => ⟨x.1, x.2.1, x.2.2⟩) (fun _ => rfl) (Opens.struct Try.underlying133 (by kernel_rfl) (Opens.cons 0 1 rfl (Opens.string Try.underlying9) (by kernel_rfl) rfl (Opens.cons 1 2 rfl (Opens.int Try.underlying3) (by kernel_rfl) rfl (Opens.one 2 rfl (Opens.int Try.underlying3) (by kernel_rfl)))))) (by kernel_rfl) 133) (by kernel_rfl) rfl (Opens.cons 1 6 rfl (Opens.struct Try.underlying25 (by kernel_rfl) (Opens.cons 0 1 rfl (Opens.int Try.underlying3) (by kernel_rfl) rfl (Opens.cons 1 2 rfl (Opens.int Try.underlying3) (by kernel_rfl) rfl (Opens.cons 2 3 rfl (Opens.int Try.underlying3) (by kernel_rfl) rfl (Opens.cons 3 4 rfl (Opens.slice Try.underlying23 (Opens.int Try.underlying3) (by kernel_rfl) 3) (by kernel_rfl) rfl (Opens.one 4 rfl (Opens.bool Try.underlying4) (by kernel_rfl))))))) (by kernel_rfl) rfl (Opens.cons 6 7 rfl (Opens.slice Try.underlying26 (Opens.iso (f := fun x : Q.S147 => (x.f0, x.f1, x.f2, x.f3, x.f4)) (fun x => ⟨x.1, x.2.1, x.2.2.1, x.2.2.2.1, x.2.2.2.2⟩) (fun _ => rfl) (Opens.struct Try.underlying147 (by kernel_rfl) (Opens.cons 0 1 rfl (Opens.int Try.underlying3) (by kernel_rfl) rfl (Opens.cons 1 2 rfl (Opens.int Try.underlying3) (by kernel_rfl) rfl (Opens.cons 2 3 rfl (Opens.int Try.underlying3) (by kernel_rfl) rfl (Opens.cons 3 4 rfl (Opens.int Try.underlying3) (by kernel_rfl) rfl (Opens.one 4 rfl (Opens.int Try.underlying3) (by kernel_rfl)))))))) (by kernel_rfl) 147) (by kernel_rfl) rfl (Opens.cons 7 8 rfl (Opens.slice Try.underlying23 (Opens.int Try.underlying3) (by kernel_rfl) 3) (by kernel_rfl) rfl (Opens.one 8 rfl (Opens.slice Try.underlying23 (Opens.int Try.underlying3) (by kernel_rfl) 3) (by kernel_rfl)))))))
  obtain ⟨l0_0, ⟨a0_1_0, a0_1_1, a0_1_2, l0_1_3, a0_1_4⟩, l0_2, l0_3, l0_4⟩ := x0
  obtain ⟨_, _, hcs0, ⟨A0_0, c0_0, rfl, hl0_0, hC0_0⟩, ⟨_, _, rfl, ⟨_, _, rfl, rfl, ⟨_, _, rfl, rfl, ⟨_, _, rfl, rfl, ⟨_, _, rfl, ⟨A0_1_3, c0_1_3, rfl, hl0_1_3, hC0_1_3⟩, rfl⟩⟩⟩⟩, ⟨_, _, rfl, ⟨A0_2, c0_2, rfl, hl0_2, hC0_2⟩, ⟨_, _, rfl, ⟨A0_3, c0_3, rfl, hl0_3, hC0_3⟩, ⟨A0_4, c0_4, rfl, hl0_4, hC0_4⟩⟩⟩⟩⟩ := hK0
  obtain rfl : cs0 = #[.slice A0_0 l0_0.length c0_0, .int .i64 a0_1_0, .int .i64 a0_1_1, .int .i64 a0_1_2, .slice A0_1_3 l0_1_3.length c0_1_3, .bool a0_1_4, .slice A0_2 l0_2.length c0_2, .slice A0_3 l0_3.length c0_3, .slice A0_4 l0_4.length c0_4] := Array.toList_inj.mp hcs0
  obtain ⟨a1, rfl, rfl, rfl, ok1⟩ := open_int Try.underlying3 (hval 1 3 v1 rfl rfl) h1
  obtain ⟨a2, rfl, rfl, rfl, ok2⟩ := open_int Try.underlying3 (hval 2 3 v2 rfl rfl) h2
  clear hA0 hval0 hsz0
  obtain ⟨k, hk⟩ := Pure.FnExactPointsLost l0_0 a0_1_0 a0_1_1 a0_1_2 l0_1_3 a0_1_4 l0_2 l0_3 l0_4 a1 a2 ok0 ok1 ok2
  refine (Q.laws_FnExactPointsLost.calls k  A0_0 c0_0 l0_0 a0_1_0 a0_1_1 a0_1_2 A0_1_3 c0_1_3 l0_1_3 a0_1_4 A0_2 c0_2 l0_2 A0_3 c0_3 l0_3 A0_4 c0_4 l0_4 a1 a2 _ W hC0_0 hl0_0 hC0_1_3 hl0_1_3 hC0_2 hl0_2 hC0_3 hl0_3 hC0_4 hl0_4 hk).mono fun e W' ⟨he, bel⟩ => ?_
  subst he
  exact ⟨_, rfl, _, _, _, [], _, [], hW', trodAll_mk1 (shut_bool Try.underlying4 _), (trodAll_cons_mk (Below.trod laidOut (by kernel_rfl) (of_decide_eq_true (by kernel_rfl)) k0 bel lt0) (trodAll_cons_mk (Below.trod laidOut (by kernel_rfl) (of_decide_eq_true (by kernel_rfl)) k1 bel lt1) (trodAll_cons_mk (Below.trod laidOut (by kernel_rfl) (of_decide_eq_true (by kernel_rfl)) k2 bel lt2) trodAll_mk0))), rfl, bel.frame _, fun h => by cases h⟩
theorem over : Rows.fnExactPointsLostRow.holds Try.pinned (OpenSpec.ofChange Rows.fnExactPointsLostSpec) :=
  OpenClaim.holds_of_wide 6 Try.f6 rfl rfl rfl rfl rfl rfl rfl ⟨rfl, rfl, rfl, rfl, rfl⟩ rfl rfl rfl rfl rfl (by kernel_rfl) Try.func6 (by kernel_rfl)
    (of_decide_eq_true (by kernel_rfl)) (by unfold Func.isWrapper; first | (rw [if_pos (by decide +kernel)]; kernel_rfl) | (rw [if_neg (by decide +kernel)]; exact ⟨rfl, rfl⟩))
    (fun os started H enc _ => lifted os started H enc)
theorem proved : Rows.FnExactPointsLostSaid := over
end Go.Proofs.Ythfefanapneocaa.fnExactPointsLost
namespace Go.Proofs.Ythfefanapneocaa
theorem fnExactPointsLost_holds : Rows.FnExactPointsLostSaid := fnExactPointsLost.proved
end Go.Proofs.Ythfefanapneocaa
