/- A part of the proof of FnExactPointsLost: functions of the program, as plain functions, with the proof that the machine's call does what they say; plain lemmas; and those of the words that print.sh prints which this proof uses. No condition. -/
import Derived.Test.YthfefanapneocaaKFnExactPointsLost1
import Derived.Test.YthfefanapneocaaProg
import Derived.Below
import Derived.Deep.Draws
import Derived.Deep.AppendLies
import Derived.Maps.AppendAt
import Derived.OwnWalk
import Derived.Laws.BytesArg
import Derived.Laws.MakeOwn
import Derived.Laws.OwnMore
import Derived.Deep.OwnRows
import Derived.Tactics
import Derived.Lib.ConvBytes
import Derived.Laws.Slices
import Derived.WalkKit
import Derived.KernelRfl
import Derived.RowKit3
import Derived.Deep.LoopGhost
import Derived.Deep.QuietTactic
import Derived.BigQuiet
import Derived.WideLaws
import Derived.Deep.DeepCutAuto
import Derived.Deep.CutBlock
import Derived.Deep.RegionHeld3
import Derived.Laws.Rows
import Derived.Lib.AppendStr
import Derived.ArgAppend
import Derived.Laws.IdiomCopy
import Derived.OrdersHeld
import Derived.Laws.BitsLemmas
import Derived.RowKit
import Derived.WalkSpells
import Derived.Shelf.Strings.Builder1
import Derived.Shelf.Strings.Builder2
import Derived.Shelf.Small.Bits
import Derived.Shelf.Strconv.Itoa0
import Derived.Ground.Names2Prog
import Derived.Shelf.Slices.Clone
import Derived.Shelf.Slices.SearchI
import Derived.Ground.SlgnProg
import Derived.Shelf.SlicesE.Clone
import Derived.Lib.AppendIntMem
import Derived.Laws.StructEq
import Derived.Test.YthfefanapneocaaKFnExactPointsLost2
import Derived.Test.YthfefanapneocaaKFnExactPointsLost3
namespace Go.Proofs.Ythfefanapneocaa.Q
open Go.RowKit Go.Proofs.YthfefanapneocaaW.PrintWords Go.Proofs.YthfefanapneocaaW.PrintLast Go.Proofs.YthfefanapneocaaW.PrintMore
attribute [local go_sem] max2_int min2_int max_two min_two max_three min_three max_four min_four
set_option linter.unusedVariables false
set_option linter.unusedSimpArgs false
set_option maxRecDepth 100000
set_option maxHeartbeats 8000000
def spec_l06Among.l0 : Nat → List Int → Bool → List (S115) → List (S95) → Int → Int → Int → Int → Int → List Int → Bool → Option ((List (S115)))
 | 0, _, _, _, _, _, _, _, _, _, _, _ => none
 | k + 1, x3, x4, x11, x16, x17, x18, x1141000, x1141001, x1141002, x1141003, x1141004 => if x18 < x17 then (if 0 ≤ x18 then (if x18 < (x16.length : Int) then (if x4 = true then ((spec_l06Add.f k x1141000 x1141001 x1141002 x1141003 x1141004 x11 ((rd_T95 x16 x18).f0) ((rd_T95 x16 x18).f1) ((rd_T95 x16 x18).f2) ((rd_T95 x16 x18).f3) ((rd_T95 x16 x18).f4)).bind fun t1146 => (spec_l06Among.l0 k x3 x4 t1146 x16 x17 (wrap64 (x18 + 1)) x1141000 x1141001 x1141002 x1141003 x1141004)) else ((spec_l02Has.f k x3 ((rd_T95 x16 x18).f0)).bind fun t1147 => (if t1147 = true then ((spec_l02Has.f k x3 ((rd_T95 x16 x18).f1)).bind fun t1148 => (if t1148 = true then ((spec_l06Add.f k x1141000 x1141001 x1141002 x1141003 x1141004 x11 ((rd_T95 x16 x18).f0) ((rd_T95 x16 x18).f1) ((rd_T95 x16 x18).f2) ((rd_T95 x16 x18).f3) ((rd_T95 x16 x18).f4)).bind fun t1149 => (spec_l06Among.l0 k x3 x4 t1149 x16 x17 (wrap64 (x18 + 1)) x1141000 x1141001 x1141002 x1141003 x1141004)) else (spec_l06Among.l0 k x3 x4 x11 x16 x17 (wrap64 (x18 + 1)) x1141000 x1141001 x1141002 x1141003 x1141004))) else (spec_l06Among.l0 k x3 x4 x11 x16 x17 (wrap64 (x18 + 1)) x1141000 x1141001 x1141002 x1141003 x1141004)))) else (none)) else (none)) else (some x11)
def spec_l06Among.f (k : Nat) (a0_0 : Int) (a0_1 : Int) (a0_2 : Int) (l0_3 : List Int) (a0_4 : Bool) (a1 : Int) (l2 : List (S95)) (l3 : List Int) (a4 : Bool) : Option ((List (S115))) := if 0 ≤ a1 then (if (a1 : Int).toNat ≤ 5026338869833 then (spec_l06Among.l0 k l3 a4 (List.replicate (a1 : Int).toNat z115) l2 (l2.length : Int) 0 a0_0 a0_1 a0_2 l0_3 a0_4) else (none)) else (none)
theorem spec_l06Among.calls (k : Nat) (a0_0 : Int) (a0_1 : Int) (a0_2 : Int) (A0_3 : Option Addr) (c0_3 : Nat) (l0_3 : List Int) (a0_4 : Bool) (a1 : Int) (A2 : Option Addr) (c2 : Nat) (l2 : List (S95)) (A3 : Option Addr) (c3 : Nat) (l3 : List Int) (a4 : Bool) (r : List (S115)) (w : World) (hr0_3 : Kd.C (Kd.int .i64) w A0_3 l0_3.length l0_3) (hc0_3 : l0_3.length ≤ c0_3) (hr2 : Kd.C k95 w A2 l2.length l2) (hc2 : l2.length ≤ c2) (hr3 : Kd.C (Kd.int .i64) w A3 l3.length l3) (hc3 : l3.length ≤ c3) (h : spec_l06Among.f k a0_0 a0_1 a0_2 l0_3 a0_4 a1 l2 l3 a4 = some r) :
  Calls Try.prog 82 #[.agg #[.int .i64 a0_0, .int .i64 a0_1, .int .i64 a0_2, .slice A0_3 l0_3.length c0_3, .bool a0_4], .int .i64 a1, .slice A2 l2.length c2, .slice A3 l3.length c3, .bool a4] w fun e w' => ∃ v0_ : Value, e = .returned (v0_) ∧ Kd.R k115 115 w' w.heap.size (fun _ => True) v0_ r ∧ Below w.heap.size w w' := by
 have hu33 := Try.underlying33
 have hu95 := Try.underlying95
 have HR0_3 := dk hr0_3
 have HC0_3 := dk hc0_3
 clear hr0_3 hc0_3
 have HR2 := dk hr2
 have HC2 := dk hc2
 clear hr2 hc2
 have HR3 := dk hr3
 have HC3 := dk hc3
 clear hr3 hc3
 have HB := dk (Below.refl w.heap.size w)
 have H : (if 0 ≤ a1 then (if (a1 : Int).toNat ≤ 5026338869833 then (spec_l06Among.l0 k l3 a4 (List.replicate (a1 : Int).toNat z115) l2 (l2.length : Int) 0 a0_0 a0_1 a0_2 l0_3 a0_4) else (none)) else (none)) = some r := h
 clear h
 by_cases c6 : 0 ≤ a1
 ·rw [if_pos c6] at H
  have c6b0 := eq_true c6
  have c6b1 : decide (0 ≤ a1) = true := decide_eq_true c6
  clear c6
  by_cases c7 : (a1 : Int).toNat ≤ 5026338869833
  ·rw [if_pos c7] at H
   have c7b0 := eq_true c7
   have c7b1 : decide ((a1 : Int).toNat ≤ 5026338869833) = true := decide_eq_true c7
   clear c7
   obtain ⟨y1141, hy1141⟩ : ∃ y_ : List (S115), y_ = (List.replicate (a1 : Int).toNat z115) := ⟨_, rfl⟩
   replace H : (spec_l06Among.l0 k l3 a4 y1141 l2 (l2.length : Int) 0 a0_0 a0_1 a0_2 l0_3 a0_4) = some r := by first | (rw [hy1141]; with_reducible exact H) | (have H2_ := (Option.bind_some _ _).symm.trans H; rw [hy1141]; with_reducible exact H2_) | (have H2_ := (Option.bind_some _ _).symm.trans H; with_reducible exact H2_) | with_reducible exact H | (rw [hy1141]; exact H) | exact H
   have Ny1141 := dk hy1141
   clear hy1141
   have H' := dk H
   clear H
   go_enter Try.func82, Try.ntmps82
   go_wp2_with (first | ((with_reducible refine gate_dst (N := 5) rfl ?_); refine bx (N := 5) (cs := #[.int .i64 a0_0, .int .i64 a0_1, .int .i64 a0_2, .slice A0_3 l0_3.length c0_3, .bool a0_4]) (t := 33) ?_; intro gb1140 hg w8 hbox hb; have BK1140 := dk (hbox); have GW1140 := gs hg HB; have GE1140 := gs hg HB; replace HB := hs_ HB hb; clear hb hbox hg) | ((with_reducible refine gate_dst (N := 15) rfl ?_); refine Kd.R_make k115 _ 115 rfl (N := 15) rfl 112 _ _ rfl a1 rfl rfl Try.underlying112 (.agg #[(.int .i64 0), (.int .i64 0), (.int .i64 0), (.int .i64 0), (.int .i64 0), (.int .i64 0), (.int .i64 0)]) 56 info115 rfl (by decide) (by omega) z115 (ok := fun _ => True) (okp := fun _ => True) (k115_mkM _ _ _ z115 ) (fun _ hk => hk) trivial (oa) (Nat.le_trans (Nat.mul_le_mul_right _ (oa : a1.toNat ≤ 5026338869833)) (by omega)) (Below.refl _ _) (Nat.le_refl _) ?_; intro v1142 w9 ho10 hb hg_ hnew_; clear hg_ hnew_; (first | rw [← Ny1141.out] at ho10 | (simp only [Int.reduceToNat] at ho10; rw [← Ny1141.out] at ho10)); have HO1143 := kl ho10 HB; replace BK1140 := kb BK1140 hb; replace HB := hs_ HB hb; clear hb ho10))
   go_loopg [18] k (fun kq v18 w' => ∃ (x11_1 : List (S115)) (x18_1 : Int), v18 = .int .i64 x18_1 ∧ Aside0 (spec_l06Among.l0 kq l3 a4 x11_1 l2 (l2.length : Int) x18_1 a0_0 a0_1 a0_2 l0_3 a0_4 = some r) ∧ Aside0 (kq ≤ k) ∧ Aside0 (Kd.R k115 115 w' w.heap.size (fun _ => True) v1142 x11_1) ∧ Aside0 (w'.heap[gb1140]? = some (.cells #[.int .i64 a0_0, .int .i64 a0_1, .int .i64 a0_2, (.slice A0_3 l0_3.length c0_3), .bool a0_4] 33 (0, 0))) ∧ Aside0 (Below w.heap.size w w'))
   case atStart => exact ⟨(y1141), (0), e2_, H', ⟨Nat.le_refl _⟩, ⟨rr HO1143⟩, ⟨bk BK1140⟩, ⟨bb HB⟩⟩
   case round =>
    clear H'
    (try clear c2)
    (try clear p2)
    (try clear c3)
    (try clear c6)
    (try clear c6b0)
    (try clear c6b1)
    (try clear c7)
    (try clear c7b0)
    (try clear c7b1)
    (try clear c8)
    obtain ⟨x11_1, x18_1, rfl, HA, HK1, HO_11, BK1140, HB⟩ := hrel
    cases gk with
    | zero => exact absurd HA.out (by simp [spec_l06Among.l0])
    | succ k1 =>
     have H := HA.out
     clear HA
     simp only [spec_l06Among.l0] at H
     by_cases c11 : x18_1 < (l2.length : Int)
     ·rw [if_pos c11] at H
      have c11b0 : decide (x18_1 < (l2.length : Int)) = true := decide_eq_true c11
      clear c11
      by_cases c12 : 0 ≤ x18_1
      ·rw [if_pos c12] at H
       have c12b0 : decide (0 ≤ x18_1) = true := decide_eq_true c12
       clear c12
       by_cases c13 : x18_1 < (l2.length : Int)
       ·rw [if_pos c13] at H
        have c13b0 : decide (x18_1 < (l2.length : Int)) = true := decide_eq_true c13
        clear c13
        by_cases c14 : a4 = true
        ·subst c14
         rw [if_pos rfl] at H
         replace H := Option.bind_eq_some_iff.mp H
         obtain ⟨t1146, A150, H⟩ := H
         try dsimp only at H
         have A15 := dk A150
         clear A150
         have H' := dk H
         clear H
         have p1144 : 0 ≤ (x18_1 : Int) := oa
         have q1144 : x18_1 < (l2.length : Int) := oa
         obtain ⟨ad1144, e1144, hx1144_0, hx1144_1, hx1144_2, hx1144_3, hx1144_4⟩ := at_T95 HR2.out x18_1 p1144 q1144
         cases e1144
         replace hx1144_0 := hc HB hx1144_0
         replace hx1144_1 := hc HB hx1144_1
         replace hx1144_2 := hc HB hx1144_2
         replace hx1144_3 := hc HB hx1144_3
         replace hx1144_4 := hc HB hx1144_4
         replace p1144 := eq_true p1144
         replace q1144 := eq_true q1144
         go_wp2_with (first | ((with_reducible refine gate_dst (N := 13) rfl ?_); refine bx (N := 13) (cs := #[.int .i64 0, .int .i64 0, .int .i64 0, .int .i64 0, .int .i64 0]) (t := 95) ?_; intro gb1145 hg w16 hbox hb; replace HO_11 := kr HO_11 hb; have BK1145 := dk (hbox); have GW1145 := gs hg HB; have GE1145 := gs hg HB; replace HB := hs_ HB hb; have NB1140_1145 := gn hg BK1140; have NB1145_1140 := gm hg BK1140; replace BK1140 := kb BK1140 hb; clear hb hbox hg; have hnb17 := NB1145_1140.out; have hnc17 := NB1140_1145.out; have ⟨z18_0, z18_1, z18_2, z18_3, z18_4, v18_0, v18_1, v18_2, v18_3, v18_4⟩ := rz5 BK1145) | ((with_reducible refine gate_store (t := 95) (p := 13) rfl ?_); refine store_event (t := 95) (p := 13) (v := ?vo_w19) (w1 := (((((w16.setCell ⟨gb1145, 0, none⟩ (.int .i64 ((rd_T95 l2 x18_1).f0))).setCell ⟨gb1145, 1, none⟩ (.int .i64 ((rd_T95 l2 x18_1).f1))).setCell ⟨gb1145, 2, none⟩ (.int .i64 ((rd_T95 l2 x18_1).f2))).setCell ⟨gb1145, 3, none⟩ (.int .i64 ((rd_T95 l2 x18_1).f3))).setCell ⟨gb1145, 4, none⟩ (.int .i64 ((rd_T95 l2 x18_1).f4)))) ?hg ?ho ?hn ?hr ?_; (case ho => rfl); (case hg => rfl); (case hn => rfl); (case hr => first | (go_simp; done) | (go_simp; rfl)); intro w19 hw; replace HO_11 : Aside0 (Kd.R k115 115 w19 w.heap.size (fun _ => True) v1142 x11_1) := ⟨(by rw [hw]; exact (rf HO_11 BK1145 (fun _ hk => trivial)))⟩; replace BK1140 : Aside0 (w19.heap[gb1140]? = some (.cells #[.int .i64 a0_0, .int .i64 a0_1, .int .i64 a0_2, .slice A0_3 l0_3.length c0_3, .bool a0_4] 33 (0, 0))) := ⟨(by rw [hw]; exact (bf NB1140_1145.out BK1140))⟩; replace BK1145 : Aside0 (w19.heap[gb1145]? = some (.cells #[.int .i64 ((rd_T95 l2 x18_1).f0), .int .i64 ((rd_T95 l2 x18_1).f1), .int .i64 ((rd_T95 l2 x18_1).f2), .int .i64 ((rd_T95 l2 x18_1).f3), .int .i64 ((rd_T95 l2 x18_1).f4)] 95 (0, 0))) := ⟨(by rw [hw]; exact (bp BK1145))⟩; replace HB : Aside0 (Below w.heap.size w w19) := ⟨(by rw [hw]; exact (bb HB))⟩; clear hw; have ⟨z20_0, z20_1, z20_2, z20_3, z20_4, v20_0, v20_1, v20_2, v20_3, v20_4⟩ := rz5 BK1140; have ⟨z21_0, z21_1, z21_2, z21_3, z21_4, v21_0, v21_1, v21_2, v21_3, v21_4⟩ := rz5 BK1145; obtain ⟨Ao22, co22, eo22⟩ := Kd.R_slice HO_11.out; subst eo22) | ((with_reducible refine gate_callee (f := 134) rfl ?_); refine gl (some 38) Try.func134 #[.agg #[.int .i64 a0_0, .int .i64 a0_1, .int .i64 a0_2, .slice A0_3 l0_3.length c0_3, .bool a0_4], .slice Ao22 x11_1.length co22, .agg #[.int .i64 ((rd_T95 l2 x18_1).f0), .int .i64 ((rd_T95 l2 x18_1).f1), .int .i64 ((rd_T95 l2 x18_1).f2), .int .i64 ((rd_T95 l2 x18_1).f3), .int .i64 ((rd_T95 l2 x18_1).f4)]] ?_; (with_reducible refine (spec_l06Add.calls k1 a0_0 a0_1 a0_2 _ _ l0_3 a0_4 (fun k_ => some k_ = (.slice Ao22 x11_1.length co22 : Value).ownBlock) (.slice Ao22 x11_1.length co22) x11_1 ((rd_T95 l2 x18_1).f0) ((rd_T95 l2 x18_1).f1) ((rd_T95 l2 x18_1).f2) ((rd_T95 l2 x18_1).f3) ((rd_T95 l2 x18_1).f4) t1146 w _ ?side1 ?side2 ?side3 ?side4 A15.out).mono ?_); (case side1 => exact bb HB); (case side2 => exact Kd.C_kept_came (Kd.heap_int .i64) HR0_3.out (bb HB) (fun k_ hs_ => (fun e_ => Kd.R_base HO_11.out k_ e_.symm) hs_)); (case side3 => exact HC0_3.out); (case side4 => exact Kd.R_tight rfl HO_11.out); rintro e w23 ⟨rfl, hy0, hb, hkp⟩; refine ⟨_, rfl, ?_⟩; replace BK1140 := dk (blk_kept (bk BK1140) hkp (fun hs_ => (fun e_ => (Kd.R_ne HO_11.out BK1140.out (by decide)) e_) hs_)); replace BK1145 := dk (blk_kept (bk BK1145) hkp (fun hs_ => (fun e_ => (Kd.R_ne HO_11.out BK1145.out (by decide)) e_) hs_)); replace HO_11 := dk (Kd.R_reok rfl hy0 (fun k_ e_ => HO_11.out.1 k_ e_)); replace HB := dk (hb); (try clear hb hkp hy0)))
         go_roundg k1
         case measure => have := HK1.out; omega
         case rel => exact ⟨(t1146), (wrap64 (x18_1 + 1)), e2_, H', ⟨by have := HK1.out; omega⟩, ⟨rr HO_11⟩, ⟨bk BK1140⟩, ⟨bb HB⟩⟩
        ·replace c14 := Bool.eq_false_iff.mpr c14
         subst c14
         rw [if_neg (show ¬ (false = true) by decide)] at H
         replace H := Option.bind_eq_some_iff.mp H
         obtain ⟨t1147, A240, H⟩ := H
         try dsimp only at H
         have A24 := dk A240
         clear A240
         by_cases c25 : t1147 = true
         ·subst c25
          rw [if_pos rfl] at H
          replace H := Option.bind_eq_some_iff.mp H
          obtain ⟨t1148, A260, H⟩ := H
          try dsimp only at H
          have A26 := dk A260
          clear A260
          by_cases c27 : t1148 = true
          ·subst c27
           rw [if_pos rfl] at H
           replace H := Option.bind_eq_some_iff.mp H
           obtain ⟨t1149, A280, H⟩ := H
           try dsimp only at H
           have A28 := dk A280
           clear A280
           have H' := dk H
           clear H
           have p1144 : 0 ≤ (x18_1 : Int) := oa
           have q1144 : x18_1 < (l2.length : Int) := oa
           obtain ⟨ad1144, e1144, hx1144_0, hx1144_1, hx1144_2, hx1144_3, hx1144_4⟩ := at_T95 HR2.out x18_1 p1144 q1144
           cases e1144
           replace hx1144_0 := hc HB hx1144_0
           replace hx1144_1 := hc HB hx1144_1
           replace hx1144_2 := hc HB hx1144_2
           replace hx1144_3 := hc HB hx1144_3
           replace hx1144_4 := hc HB hx1144_4
           replace p1144 := eq_true p1144
           replace q1144 := eq_true q1144
           go_wp2_with (first | ((with_reducible refine gate_dst (N := 13) rfl ?_); refine bx (N := 13) (cs := #[.int .i64 0, .int .i64 0, .int .i64 0, .int .i64 0, .int .i64 0]) (t := 95) ?_; intro gb1145 hg w29 hbox hb; replace HO_11 := kr HO_11 hb; have BK1145 := dk (hbox); have GW1145 := gs hg HB; have GE1145 := gs hg HB; replace HB := hs_ HB hb; have NB1140_1145 := gn hg BK1140; have NB1145_1140 := gm hg BK1140; replace BK1140 := kb BK1140 hb; clear hb hbox hg; have hnb30 := NB1145_1140.out; have hnc30 := NB1140_1145.out; have ⟨z31_0, z31_1, z31_2, z31_3, z31_4, v31_0, v31_1, v31_2, v31_3, v31_4⟩ := rz5 BK1145) | ((with_reducible refine gate_store (t := 95) (p := 13) rfl ?_); refine store_event (t := 95) (p := 13) (v := ?vo_w32) (w1 := (((((w29.setCell ⟨gb1145, 0, none⟩ (.int .i64 ((rd_T95 l2 x18_1).f0))).setCell ⟨gb1145, 1, none⟩ (.int .i64 ((rd_T95 l2 x18_1).f1))).setCell ⟨gb1145, 2, none⟩ (.int .i64 ((rd_T95 l2 x18_1).f2))).setCell ⟨gb1145, 3, none⟩ (.int .i64 ((rd_T95 l2 x18_1).f3))).setCell ⟨gb1145, 4, none⟩ (.int .i64 ((rd_T95 l2 x18_1).f4)))) ?hg ?ho ?hn ?hr ?_; (case ho => rfl); (case hg => rfl); (case hn => rfl); (case hr => first | (go_simp; done) | (go_simp; rfl)); intro w32 hw; replace HO_11 : Aside0 (Kd.R k115 115 w32 w.heap.size (fun _ => True) v1142 x11_1) := ⟨(by rw [hw]; exact (rf HO_11 BK1145 (fun _ hk => trivial)))⟩; replace BK1140 : Aside0 (w32.heap[gb1140]? = some (.cells #[.int .i64 a0_0, .int .i64 a0_1, .int .i64 a0_2, .slice A0_3 l0_3.length c0_3, .bool a0_4] 33 (0, 0))) := ⟨(by rw [hw]; exact (bf NB1140_1145.out BK1140))⟩; replace BK1145 : Aside0 (w32.heap[gb1145]? = some (.cells #[.int .i64 ((rd_T95 l2 x18_1).f0), .int .i64 ((rd_T95 l2 x18_1).f1), .int .i64 ((rd_T95 l2 x18_1).f2), .int .i64 ((rd_T95 l2 x18_1).f3), .int .i64 ((rd_T95 l2 x18_1).f4)] 95 (0, 0))) := ⟨(by rw [hw]; exact (bp BK1145))⟩; replace HB : Aside0 (Below w.heap.size w w32) := ⟨(by rw [hw]; exact (bb HB))⟩; clear hw; have ⟨z33_0, z33_1, z33_2, z33_3, z33_4, v33_0, v33_1, v33_2, v33_3, v33_4⟩ := rz5 BK1145) | (go_at_call 87; (with_reducible refine (spec_l02Has.calls k1 _ _ l3 ((rd_T95 l2 x18_1).f0) true _ ?side1 ?side2 A24.out).mono ?_); (case side1 => exact cc HR3 HB); (case side2 => exact HC3.out); rintro e w' ⟨rfl, ⟨nd, rfl⟩⟩) | (go_at_call 87; (with_reducible refine (spec_l02Has.calls k1 _ _ l3 ((rd_T95 l2 x18_1).f1) true _ ?side1 ?side2 A26.out).mono ?_); (case side1 => repeat (first | exact (Kd.C_below HR3.out (bb HB)) | (with_reducible refine Kd.C_alloc ?_ _) | (with_reducible refine Kd.C_drewN ?_ _) | (with_reducible refine Kd.C_drew ?_))); (case side2 => exact HC3.out); rintro e w' ⟨rfl, ⟨nd, rfl⟩⟩; have ⟨z34_0, z34_1, z34_2, z34_3, z34_4, v34_0, v34_1, v34_2, v34_3, v34_4⟩ := rz5 BK1140; obtain ⟨Ao35, co35, eo35⟩ := Kd.R_slice HO_11.out; subst eo35) | ((with_reducible refine gate_callee (f := 134) rfl ?_); refine gl (some 38) Try.func134 #[.agg #[.int .i64 a0_0, .int .i64 a0_1, .int .i64 a0_2, .slice A0_3 l0_3.length c0_3, .bool a0_4], .slice Ao35 x11_1.length co35, .agg #[.int .i64 ((rd_T95 l2 x18_1).f0), .int .i64 ((rd_T95 l2 x18_1).f1), .int .i64 ((rd_T95 l2 x18_1).f2), .int .i64 ((rd_T95 l2 x18_1).f3), .int .i64 ((rd_T95 l2 x18_1).f4)]] ?_; (with_reducible refine (spec_l06Add.calls k1 a0_0 a0_1 a0_2 _ _ l0_3 a0_4 (fun k_ => some k_ = (.slice Ao35 x11_1.length co35 : Value).ownBlock) (.slice Ao35 x11_1.length co35) x11_1 ((rd_T95 l2 x18_1).f0) ((rd_T95 l2 x18_1).f1) ((rd_T95 l2 x18_1).f2) ((rd_T95 l2 x18_1).f3) ((rd_T95 l2 x18_1).f4) t1149 w _ ?side1 ?side2 ?side3 ?side4 A28.out).mono ?_); (case side1 => exact bb HB); (case side2 => exact Kd.C_kept_came (Kd.heap_int .i64) HR0_3.out (bb HB) (fun k_ hs_ => (fun e_ => Kd.R_base HO_11.out k_ e_.symm) hs_)); (case side3 => exact HC0_3.out); (case side4 => exact Kd.R_tight rfl HO_11.out); rintro e w36 ⟨rfl, hy0, hb, hkp⟩; refine ⟨_, rfl, ?_⟩; replace BK1140 := dk (blk_kept (bk BK1140) hkp (fun hs_ => (fun e_ => (Kd.R_ne HO_11.out BK1140.out (by decide)) e_) hs_)); replace BK1145 := dk (blk_kept (bk BK1145) hkp (fun hs_ => (fun e_ => (Kd.R_ne HO_11.out BK1145.out (by decide)) e_) hs_)); replace HO_11 := dk (Kd.R_reok rfl hy0 (fun k_ e_ => HO_11.out.1 k_ e_)); replace HB := dk (hb); (try clear hb hkp hy0)))
           go_roundg k1
           case measure => have := HK1.out; omega
           case rel => exact ⟨(t1149), (wrap64 (x18_1 + 1)), e2_, H', ⟨by have := HK1.out; omega⟩, ⟨rr HO_11⟩, ⟨bk BK1140⟩, ⟨bb HB⟩⟩
          ·replace c27 := Bool.eq_false_iff.mpr c27
           subst c27
           rw [if_neg (show ¬ (false = true) by decide)] at H
           have H' := dk H
           clear H
           have p1144 : 0 ≤ (x18_1 : Int) := oa
           have q1144 : x18_1 < (l2.length : Int) := oa
           obtain ⟨ad1144, e1144, hx1144_0, hx1144_1, hx1144_2, hx1144_3, hx1144_4⟩ := at_T95 HR2.out x18_1 p1144 q1144
           cases e1144
           replace hx1144_0 := hc HB hx1144_0
           replace hx1144_1 := hc HB hx1144_1
           replace hx1144_2 := hc HB hx1144_2
           replace hx1144_3 := hc HB hx1144_3
           replace hx1144_4 := hc HB hx1144_4
           replace p1144 := eq_true p1144
           replace q1144 := eq_true q1144
           go_wp2_with (first | ((with_reducible refine gate_dst (N := 13) rfl ?_); refine bx (N := 13) (cs := #[.int .i64 0, .int .i64 0, .int .i64 0, .int .i64 0, .int .i64 0]) (t := 95) ?_; intro gb1145 hg w37 hbox hb; replace HO_11 := kr HO_11 hb; have BK1145 := dk (hbox); have GW1145 := gs hg HB; have GE1145 := gs hg HB; replace HB := hs_ HB hb; have NB1140_1145 := gn hg BK1140; have NB1145_1140 := gm hg BK1140; replace BK1140 := kb BK1140 hb; clear hb hbox hg; have hnb38 := NB1145_1140.out; have hnc38 := NB1140_1145.out; have ⟨z39_0, z39_1, z39_2, z39_3, z39_4, v39_0, v39_1, v39_2, v39_3, v39_4⟩ := rz5 BK1145) | (go_at_call 87; (with_reducible refine (spec_l02Has.calls k1 _ _ l3 ((rd_T95 l2 x18_1).f0) true _ ?side1 ?side2 A24.out).mono ?_); (case side1 => exact Kd.C_below HR3.out (bb HB)); (case side2 => exact HC3.out); rintro e w' ⟨rfl, ⟨nd, rfl⟩⟩) | (go_at_call 87; (with_reducible refine (spec_l02Has.calls k1 _ _ l3 ((rd_T95 l2 x18_1).f1) false _ ?side1 ?side2 A26.out).mono ?_); (case side1 => exact Kd.C_below HR3.out (bb HB)); (case side2 => exact HC3.out); rintro e w' ⟨rfl, ⟨nd, rfl⟩⟩))
           go_roundg k1
           case measure => have := HK1.out; omega
           case rel => exact ⟨(x11_1), (wrap64 (x18_1 + 1)), e2_, H', ⟨by have := HK1.out; omega⟩, ⟨rf HO_11 BK1145 (fun _ hk => trivial)⟩, ⟨bf NB1140_1145.out BK1140⟩, ⟨bb HB⟩⟩
         ·replace c25 := Bool.eq_false_iff.mpr c25
          subst c25
          rw [if_neg (show ¬ (false = true) by decide)] at H
          have H' := dk H
          clear H
          have p1144 : 0 ≤ (x18_1 : Int) := oa
          have q1144 : x18_1 < (l2.length : Int) := oa
          obtain ⟨ad1144, e1144, hx1144_0, hx1144_1, hx1144_2, hx1144_3, hx1144_4⟩ := at_T95 HR2.out x18_1 p1144 q1144
          cases e1144
          replace hx1144_0 := hc HB hx1144_0
          replace hx1144_1 := hc HB hx1144_1
          replace hx1144_2 := hc HB hx1144_2
          replace hx1144_3 := hc HB hx1144_3
          replace hx1144_4 := hc HB hx1144_4
          replace p1144 := eq_true p1144
          replace q1144 := eq_true q1144
          go_wp2_with (first | ((with_reducible refine gate_dst (N := 13) rfl ?_); refine bx (N := 13) (cs := #[.int .i64 0, .int .i64 0, .int .i64 0, .int .i64 0, .int .i64 0]) (t := 95) ?_; intro gb1145 hg w40 hbox hb; replace HO_11 := kr HO_11 hb; have BK1145 := dk (hbox); have GW1145 := gs hg HB; have GE1145 := gs hg HB; replace HB := hs_ HB hb; have NB1140_1145 := gn hg BK1140; have NB1145_1140 := gm hg BK1140; replace BK1140 := kb BK1140 hb; clear hb hbox hg; have hnb41 := NB1145_1140.out; have hnc41 := NB1140_1145.out; have ⟨z42_0, z42_1, z42_2, z42_3, z42_4, v42_0, v42_1, v42_2, v42_3, v42_4⟩ := rz5 BK1145) | (go_at_call 87; (with_reducible refine (spec_l02Has.calls k1 _ _ l3 ((rd_T95 l2 x18_1).f0) false _ ?side1 ?side2 A24.out).mono ?_); (case side1 => exact Kd.C_below HR3.out (bb HB)); (case side2 => exact HC3.out); rintro e w' ⟨rfl, ⟨nd, rfl⟩⟩))
          go_roundg k1
          case measure => have := HK1.out; omega
          case rel => exact ⟨(x11_1), (wrap64 (x18_1 + 1)), e2_, H', ⟨by have := HK1.out; omega⟩, ⟨rf HO_11 BK1145 (fun _ hk => trivial)⟩, ⟨bf NB1140_1145.out BK1140⟩, ⟨bb HB⟩⟩
       ·rw [if_neg c13] at H
        exact absurd H (by simp)
      ·rw [if_neg c12] at H
       exact absurd H (by simp)
     ·rw [if_neg c11] at H
      have c11b0 : decide (x18_1 < (l2.length : Int)) = false := decide_eq_false c11
      clear c11
      obtain rfl := Option.some.inj H
      go_wp2
      go_ret
      exact ⟨_, ee, rr HO_11, bb HB⟩
  ·rw [if_neg c7] at H
   exact absurd H (by simp)
 ·rw [if_neg c6] at H
  exact absurd H (by simp)
def spec_PointsLost.l0 : Nat → List (S115) → List Int → List (S115) → Int → Int → Option (List Int)
 | 0, _, _, _, _, _ => none
 | k + 1, x10, x11, x40, x41, x42 => if x42 < x41 then (if 0 ≤ x42 then (if x42 < (x40.length : Int) then (if x42 < (x10.length : Int) then (if x11.length < 17592186044416 then (spec_PointsLost.l0 k x10 (x11 ++ [wrap64 (((rd_T115 x40 x42).f6) - ((rd_T115 x10 x42).f6))]) x40 x41 (wrap64 (x42 + 1))) else (none)) else (none)) else (none)) else (none)) else (some x11)
def spec_PointsLost.f (k : Nat) (l0_0 : List (S139)) (a0_1 : Int) (a0_2 : Int) (a0_3 : Int) (l0_4 : List Int) (a0_5 : Bool) (l0_6 : List (S95)) (l0_7 : List Int) (l0_8 : List Int) (a1 : Int) (a2 : Int) : Option (List Int) := (spec_Withdraw.f k l0_0 a0_1 a0_2 a0_3 l0_4 a0_5 l0_6 l0_7 l0_8 a1 a2).bind fun bt1151 => (if bt1151.2.2.2.2.2.2.2.2.2 = true then ((spec_l06Among.f k a0_1 a0_2 a0_3 l0_4 a0_5 (l0_0.length : Int) l0_6 ([] : List Int) true).bind fun t1172 => ((spec_l06Among.f k bt1151.2.1 bt1151.2.2.1 bt1151.2.2.2.1 bt1151.2.2.2.2.1 bt1151.2.2.2.2.2.1 (bt1151.1.length : Int) bt1151.2.2.2.2.2.2.1 ([] : List Int) true).bind fun t1175 => (spec_PointsLost.l0 k t1175 (([] : List Int)) t1172 (t1172.length : Int) 0))) else (some ([] : List Int)))
def spec_PointsLost.T10 : Bool × List (List Nat × List Nat) := (true, [([], []), ([], []), ([1], [1]), ([], []), ([], []), ([3, 4], [3, 4]), ([5], [5]), ([6], [6]), ([2, 7], [2, 7]), ([8], [8]), ([0, 9], [0, 9]), ([10, 10, 0, 1, 2, 3, 4, 5, 6, 7, 8, 9, 10], [0, 10])])
def spec_PointsLost.B10 : List Nat := [0, 0, 2, 0, 0, 24, 56, 120, 254, 510, 1023, 2047]
theorem spec_PointsLost.tab10 : rtab .any (opsOf Try.f26 10) = spec_PointsLost.T10 := by kernel_rfl
theorem spec_PointsLost.bits10 : waitsOk spec_PointsLost.T10.2 spec_PointsLost.B10 = true := by kernel_rfl
theorem spec_PointsLost.calls (k : Nat) (A0_0 : Option Addr) (c0_0 : Nat) (l0_0 : List (S139)) (a0_1 : Int) (a0_2 : Int) (a0_3 : Int) (A0_4 : Option Addr) (c0_4 : Nat) (l0_4 : List Int) (a0_5 : Bool) (A0_6 : Option Addr) (c0_6 : Nat) (l0_6 : List (S95)) (A0_7 : Option Addr) (c0_7 : Nat) (l0_7 : List Int) (A0_8 : Option Addr) (c0_8 : Nat) (l0_8 : List Int) (a1 : Int) (a2 : Int) (r : List Int) (w : World) (hr0_0 : Kd.C k139 w A0_0 l0_0.length l0_0) (hc0_0 : l0_0.length ≤ c0_0) (hr0_4 : Kd.C (Kd.int .i64) w A0_4 l0_4.length l0_4) (hc0_4 : l0_4.length ≤ c0_4) (hr0_6 : Kd.C k95 w A0_6 l0_6.length l0_6) (hc0_6 : l0_6.length ≤ c0_6) (hr0_7 : Kd.C (Kd.int .i64) w A0_7 l0_7.length l0_7) (hc0_7 : l0_7.length ≤ c0_7) (hr0_8 : Kd.C (Kd.int .i64) w A0_8 l0_8.length l0_8) (hc0_8 : l0_8.length ≤ c0_8) (h : spec_PointsLost.f k l0_0 a0_1 a0_2 a0_3 l0_4 a0_5 l0_6 l0_7 l0_8 a1 a2 = some r) :
  Calls Try.prog 26 #[.agg #[.slice A0_0 l0_0.length c0_0, .int .i64 a0_1, .int .i64 a0_2, .int .i64 a0_3, .slice A0_4 l0_4.length c0_4, .bool a0_5, .slice A0_6 l0_6.length c0_6, .slice A0_7 l0_7.length c0_7, .slice A0_8 l0_8.length c0_8], .int .i64 a1, .int .i64 a2] w fun e w' => ∃ v0_ : Value, e = .returned (v0_) ∧ Kd.R (Kd.int .i64) 3 w' w.heap.size (fun _ => True) v0_ r ∧ Below w.heap.size w w' := by
 have hu36 := Try.underlying36
 have hu33 := Try.underlying33
 have hu115 := Try.underlying115
 have HR0_0 := dk hr0_0
 have HC0_0 := dk hc0_0
 clear hr0_0 hc0_0
 have HR0_4 := dk hr0_4
 have HC0_4 := dk hc0_4
 clear hr0_4 hc0_4
 have HR0_6 := dk hr0_6
 have HC0_6 := dk hc0_6
 clear hr0_6 hc0_6
 have HR0_7 := dk hr0_7
 have HC0_7 := dk hc0_7
 clear hr0_7 hc0_7
 have HR0_8 := dk hr0_8
 have HC0_8 := dk hc0_8
 clear hr0_8 hc0_8
 have HB := dk (Below.refl w.heap.size w)
 have H : ((spec_Withdraw.f k l0_0 a0_1 a0_2 a0_3 l0_4 a0_5 l0_6 l0_7 l0_8 a1 a2).bind fun bt1151 => (if bt1151.2.2.2.2.2.2.2.2.2 = true then ((spec_l06Among.f k a0_1 a0_2 a0_3 l0_4 a0_5 (l0_0.length : Int) l0_6 ([] : List Int) true).bind fun t1172 => ((spec_l06Among.f k bt1151.2.1 bt1151.2.2.1 bt1151.2.2.2.1 bt1151.2.2.2.2.1 bt1151.2.2.2.2.2.1 (bt1151.1.length : Int) bt1151.2.2.2.2.2.2.1 ([] : List Int) true).bind fun t1175 => (spec_PointsLost.l0 k t1175 (([] : List Int)) t1172 (t1172.length : Int) 0))) else (some ([] : List Int)))) = some r := h
 clear h
 replace H := Option.bind_eq_some_iff.mp H
 obtain ⟨⟨t1151, t1154, t1155, t1156, t1157, t1160, t1161, t1164, t1167, t1170⟩, A40, H⟩ := H
 try dsimp only at H
 have A4 := dk A40
 clear A40
 by_cases c5 : t1170 = true
 ·subst c5
  rw [if_pos rfl] at H
  replace H := Option.bind_eq_some_iff.mp H
  obtain ⟨t1172, A60, H⟩ := H
  try dsimp only at H
  have A6 := dk A60
  clear A60
  replace H := Option.bind_eq_some_iff.mp H
  obtain ⟨t1175, A70, H⟩ := H
  try dsimp only at H
  have A7 := dk A70
  clear A70
  obtain ⟨y1178, hy1178⟩ : ∃ y_ : List Int, y_ = (([] : List Int)) := ⟨_, rfl⟩
  replace H : (spec_PointsLost.l0 k t1175 y1178 t1172 (t1172.length : Int) 0) = some r := by first | (rw [hy1178]; with_reducible exact H) | (have H2_ := (Option.bind_some _ _).symm.trans H; rw [hy1178]; with_reducible exact H2_) | (have H2_ := (Option.bind_some _ _).symm.trans H; with_reducible exact H2_) | with_reducible exact H | (rw [hy1178]; exact H) | exact H
  have Ny1178 := dk hy1178
  clear hy1178
  have H' := dk H
  clear H
  go_enter Try.func26, Try.ntmps26
  go_wp2_with (first | ((with_reducible refine gate_dst (N := 3) rfl ?_); refine bx (N := 3) (cs := #[.slice A0_0 l0_0.length c0_0, .int .i64 a0_1, .int .i64 a0_2, .int .i64 a0_3, .slice A0_4 l0_4.length c0_4, .bool a0_5, .slice A0_6 l0_6.length c0_6, .slice A0_7 l0_7.length c0_7, .slice A0_8 l0_8.length c0_8]) (t := 36) ?_; intro gb1150 hg w8 hbox hb; have BK1150 := dk (hbox); have GW1150 := gs hg HB; have GE1150 := gs hg HB; replace HB := hs_ HB hb; clear hb hbox hg; have ⟨z9_0, z9_1, z9_2, z9_3, z9_4, z9_5, z9_6, z9_7, z9_8, v9_0, v9_1, v9_2, v9_3, v9_4, v9_5, v9_6, v9_7, v9_8⟩ := rz9 BK1150) | ((with_reducible refine gate_callee (f := 24) rfl ?_); refine gl (some 18) Try.func24 #[.agg #[.slice A0_0 l0_0.length c0_0, .int .i64 a0_1, .int .i64 a0_2, .int .i64 a0_3, .slice A0_4 l0_4.length c0_4, .bool a0_5, .slice A0_6 l0_6.length c0_6, .slice A0_7 l0_7.length c0_7, .slice A0_8 l0_8.length c0_8], .int .i64 a1, .int .i64 a2] ?_; (with_reducible refine (spec_Withdraw.calls k _ _ l0_0 a0_1 a0_2 a0_3 _ _ l0_4 a0_5 _ _ l0_6 _ _ l0_7 _ _ l0_8 a1 a2 t1151 t1154 t1155 t1156 t1157 t1160 t1161 t1164 t1167 true _ ?side1 ?side2 ?side3 ?side4 ?side5 ?side6 ?side7 ?side8 ?side9 ?side10 A4.out).mono ?_); (case side1 => exact cc HR0_0 HB); (case side2 => exact HC0_0.out); (case side3 => exact cc HR0_4 HB); (case side4 => exact HC0_4.out); (case side5 => exact cc HR0_6 HB); (case side6 => exact HC0_6.out); (case side7 => exact cc HR0_7 HB); (case side8 => exact HC0_7.out); (case side9 => exact cc HR0_8 HB); (case side10 => exact HC0_8.out); rintro e w10 ⟨v1152, v1158, v1162, v1165, v1168, rfl, ho0, ho1, ho2, ho3, ho4, hb⟩; refine ⟨_, rfl, ?_⟩; have HO1153 := kl ho0 HB; have HO1159 := kl ho1 HB; have HO1163 := kl ho2 HB; have HO1166 := kl ho3 HB; have HO1169 := kl ho4 HB; replace BK1150 := kb BK1150 hb; replace HB := hs_ HB hb; (try clear hb hb2 hk hi ho0 ho1 ho2 ho3 ho4)) | ((with_reducible refine gate_dst (N := 7) rfl ?_); refine bx (N := 7) (cs := #[.slice none 0 0, .int .i64 0, .int .i64 0, .int .i64 0, .slice none 0 0, .bool false, .slice none 0 0, .slice none 0 0, .slice none 0 0]) (t := 36) ?_; intro gb1171 hg w11 hbox hb; replace HO1153 := kr HO1153 hb; replace HO1159 := kr HO1159 hb; replace HO1163 := kr HO1163 hb; replace HO1166 := kr HO1166 hb; replace HO1169 := kr HO1169 hb; have BK1171 := dk (hbox); have GW1171 := gs hg HB; have GE1171 := gs hg HB; replace HB := hs_ HB hb; have NB1150_1171 := gn hg BK1150; have NB1171_1150 := gm hg BK1150; replace BK1150 := kb BK1150 hb; clear hb hbox hg; obtain ⟨Ao12, co12, eo12⟩ := Kd.R_slice HO1153.out; subst eo12; have hnb13 := NB1171_1150.out; have hnc13 := NB1150_1171.out; have ⟨z14_0, z14_1, z14_2, z14_3, z14_4, z14_5, z14_6, z14_7, z14_8, v14_0, v14_1, v14_2, v14_3, v14_4, v14_5, v14_6, v14_7, v14_8⟩ := rz9 BK1171; obtain ⟨Ao15, co15, eo15⟩ := Kd.R_slice HO1159.out; subst eo15; obtain ⟨Ao16, co16, eo16⟩ := Kd.R_slice HO1163.out; subst eo16; obtain ⟨Ao17, co17, eo17⟩ := Kd.R_slice HO1166.out; subst eo17; obtain ⟨Ao18, co18, eo18⟩ := Kd.R_slice HO1169.out; subst eo18; have ⟨z19_0, z19_1, z19_2, z19_3, z19_4, z19_5, z19_6, z19_7, z19_8, v19_0, v19_1, v19_2, v19_3, v19_4, v19_5, v19_6, v19_7, v19_8⟩ := rz9 BK1150) | ((with_reducible refine gate_callee (f := 82) rfl ?_); refine gl (some 30) Try.func82 #[.agg #[.int .i64 a0_1, .int .i64 a0_2, .int .i64 a0_3, .slice A0_4 l0_4.length c0_4, .bool a0_5], .int .i64 (l0_0.length : Int), .slice A0_6 l0_6.length c0_6, .slice none 0 0, .bool true] ?_; (refine (spec_l06Among.calls k a0_1 a0_2 a0_3 _ _ l0_4 a0_5 (l0_0.length : Int) _ _ l0_6 _ _ ([] : List Int) true t1172 _ ?side1 ?side2 ?side3 ?side4 ?side5 ?side6 A6.out).mono ?_); (case side1 => exact Kd.C_below HR0_4.out (bb HB)); (case side2 => exact HC0_4.out); (case side3 => exact Kd.C_below HR0_6.out (bb HB)); (case side4 => exact HC0_6.out); (case side5 => exact Kd.C_nil _ _); (case side6 => exact Nat.le_refl _); rintro e w20 ⟨v1173, rfl, ho0, hb⟩; refine ⟨_, rfl, ?_⟩; replace HO1153 := kf HO1153 BK1171 hb; replace HO1159 := kf HO1159 BK1171 hb; replace HO1163 := kf HO1163 BK1171 hb; replace HO1166 := kf HO1166 BK1171 hb; replace HO1169 := kf HO1169 BK1171 hb; have HO1174 := kl ho0 HB; replace BK1150 := dk (blk_below (bf NB1150_1171.out BK1150) hb); replace BK1171 := dk (blk_below (g := gb1171) (o := .cells #[.slice Ao12 t1151.length co12, .int .i64 t1154, .int .i64 t1155, .int .i64 t1156, .slice Ao15 t1157.length co15, .bool t1160, .slice Ao16 t1161.length co16, .slice Ao17 t1164.length co17, .slice Ao18 t1167.length co18] 36 (0, 0)) (bp BK1171) hb); replace HB := hs_ HB hb; (try clear hb hb2 hk hi ho0); have ⟨z21_0, z21_1, z21_2, z21_3, z21_4, z21_5, z21_6, z21_7, z21_8, v21_0, v21_1, v21_2, v21_3, v21_4, v21_5, v21_6, v21_7, v21_8⟩ := rz9 BK1171) | ((with_reducible refine gate_callee (f := 82) rfl ?_); refine gl (some 38) Try.func82 #[.agg #[.int .i64 t1154, .int .i64 t1155, .int .i64 t1156, .slice Ao15 t1157.length co15, .bool t1160], .int .i64 (t1151.length : Int), .slice Ao16 t1161.length co16, .slice none 0 0, .bool true] ?_; (refine (spec_l06Among.calls k t1154 t1155 t1156 _ _ t1157 t1160 (t1151.length : Int) _ _ t1161 _ _ ([] : List Int) true t1175 _ ?side1 ?side2 ?side3 ?side4 ?side5 ?side6 A7.out).mono ?_); (case side1 => exact cr HO1159); (case side2 => exact cl HO1159); (case side3 => exact cr HO1163); (case side4 => exact cl HO1163); (case side5 => exact Kd.C_nil _ _); (case side6 => exact Nat.le_refl _); rintro e w22 ⟨v1176, rfl, ho0, hb⟩; refine ⟨_, rfl, ?_⟩; replace HO1153 := kr HO1153 hb; replace HO1159 := kr HO1159 hb; replace HO1163 := kr HO1163 hb; replace HO1166 := kr HO1166 hb; replace HO1169 := kr HO1169 hb; have HO1177 := dk (Kd.R_lower (Kd.R_new' ho0 (rt HO1174)) (below_size (bb HB))); replace HO1174 := ke HO1174 ho0 hb; replace BK1150 := kb BK1150 hb; replace BK1171 := kb BK1171 hb; replace HB := hs_ HB hb; (try clear hb hb2 hk hi ho0)) | ((with_reducible refine gate_dst (N := 39) rfl ?_); refine Kd.R_lit (Kd.int .i64) _ 3 ?hg (N := 39) ?hd (xs := ([] : List Int)) (inner := []) (ok := fun _ => True) (okp := fun _ => True) ?hr ?hp (fun _ hk => hk) trivial (Below.refl _ _) (Nat.le_refl _) (by simp) ?_; (case hd => rfl); (case hg => rfl); (case hr => first | (go_simp; done) | (go_simp; rfl)); (case hp => exact (Reps.none _ _)); intro v1179 w23 ho24 hb hg_ hnew_; clear hg_ hnew_; (first | rw [← Ny1178.out] at ho24 | (simp only [Int.reduceToNat] at ho24; rw [← Ny1178.out] at ho24)); replace HO1153 := kr HO1153 hb; replace HO1163 := kr HO1163 hb; replace HO1174 := kr HO1174 hb; replace HO1177 := kr HO1177 hb; have HO1180 := dk (Kd.R_lower (Kd.R_new' (Kd.R_new' (Kd.R_new' ho24 (rt HO1159)) (rt HO1166)) (rt HO1169)) (below_size (bb HB))); replace HO1159 := ke HO1159 ho24 hb; replace HO1166 := ke HO1166 ho24 hb; replace HO1169 := ke HO1169 ho24 hb; replace BK1150 := kb BK1150 hb; replace BK1171 := kb BK1171 hb; replace HB := hs_ HB hb; clear hb ho24; obtain ⟨Ao25, co25, eo25⟩ := Kd.R_slice HO1174.out; subst eo25))
  go_loopg [11, 42] k (fun kq v11 v42 w' => ∃ (x11_1 : List Int) (x42_1 : Int), v42 = .int .i64 x42_1 ∧ Aside0 (spec_PointsLost.l0 kq t1175 x11_1 t1172 (t1172.length : Int) x42_1 = some r) ∧ Aside0 (kq ≤ k) ∧ Aside0 (Kd.R k115 115 w' w.heap.size (fun k_ => nb k_ Ao25 t1172.length co25) v1176 t1175) ∧ Aside0 (Kd.R (Kd.int .i64) 3 w' w.heap.size (fun k_ => nb k_ Ao15 t1157.length co15 ∧ nb k_ Ao17 t1164.length co17 ∧ nb k_ Ao18 t1167.length co18) v11 x11_1) ∧ Aside0 (Kd.R k115 115 w' w.heap.size (fun k_ => some k_ ≠ (v1176 : Value).ownBlock) (.slice Ao25 t1172.length co25) t1172) ∧ Aside0 (Kd.R k139 139 w' w.heap.size (fun _ => True) (.slice Ao12 t1151.length co12) t1151) ∧ Aside0 (Kd.R (Kd.int .i64) 3 w' w.heap.size (fun k_ => some k_ ≠ (v11 : Value).ownBlock ∧ nb k_ Ao17 t1164.length co17 ∧ nb k_ Ao18 t1167.length co18) (.slice Ao15 t1157.length co15) t1157) ∧ Aside0 (Kd.R k95 95 w' w.heap.size (fun _ => True) (.slice Ao16 t1161.length co16) t1161) ∧ Aside0 (Kd.R (Kd.int .i64) 3 w' w.heap.size (fun k_ => some k_ ≠ (v11 : Value).ownBlock ∧ nb k_ Ao15 t1157.length co15 ∧ nb k_ Ao18 t1167.length co18) (.slice Ao17 t1164.length co17) t1164) ∧ Aside0 (Kd.R (Kd.int .i64) 3 w' w.heap.size (fun k_ => some k_ ≠ (v11 : Value).ownBlock ∧ nb k_ Ao15 t1157.length co15 ∧ nb k_ Ao17 t1164.length co17) (.slice Ao18 t1167.length co18) t1167) ∧ Aside0 (w'.heap[gb1150]? = some (.cells #[(.slice A0_0 l0_0.length c0_0), .int .i64 a0_1, .int .i64 a0_2, .int .i64 a0_3, (.slice A0_4 l0_4.length c0_4), .bool a0_5, (.slice A0_6 l0_6.length c0_6), (.slice A0_7 l0_7.length c0_7), (.slice A0_8 l0_8.length c0_8)] 36 (0, 0))) ∧ Aside0 (w'.heap[gb1171]? = some (.cells #[(.slice Ao12 t1151.length co12), .int .i64 t1154, .int .i64 t1155, .int .i64 t1156, (.slice Ao15 t1157.length co15), .bool t1160, (.slice Ao16 t1161.length co16), (.slice Ao17 t1164.length co17), (.slice Ao18 t1167.length co18)] 36 (0, 0))) ∧ Aside0 (Below w.heap.size w w'))
  case atStart => exact ⟨(y1178), (0), e2_, H', ⟨Nat.le_refl _⟩, ⟨ro HO1177 (fun _ hk => hk.2)⟩, ⟨rp HO1180⟩, ⟨ro HO1174 (fun _ hk => hk.2)⟩, ⟨rr HO1153⟩, ⟨rp HO1159⟩, ⟨rr HO1163⟩, ⟨rp HO1166⟩, ⟨rp HO1169⟩, ⟨bk BK1150⟩, ⟨bk BK1171⟩, ⟨bb HB⟩⟩
  case round =>
   clear H'
   (try clear c1)
   (try clear c2)
   (try clear p2)
   (try clear c5)
   (try clear c8)
   (try clear c13)
   (try clear c24)
   (try clear z14_0 z14_1 z14_2 z14_3 z14_4 z14_5 z14_6 z14_7 z14_8)
   (try clear z19_0 z19_1 z19_2 z19_3 z19_4 z19_5 z19_6 z19_7 z19_8)
   (try clear z21_0 z21_1 z21_2 z21_3 z21_4 z21_5 z21_6 z21_7 z21_8)
   (try clear z9_0 z9_1 z9_2 z9_3 z9_4 z9_5 z9_6 z9_7 z9_8)
   (try clear v14_0 v14_1 v14_2 v14_3 v14_4 v14_5 v14_6 v14_7 v14_8)
   (try clear v19_0 v19_1 v19_2 v19_3 v19_4 v19_5 v19_6 v19_7 v19_8)
   (try clear v21_0 v21_1 v21_2 v21_3 v21_4 v21_5 v21_6 v21_7 v21_8)
   (try clear v9_0 v9_1 v9_2 v9_3 v9_4 v9_5 v9_6 v9_7 v9_8)
   obtain ⟨x11_1, x42_1, rfl, HA, HK1, HO_10, HO_11, HO_40, HO_1172000, HO_1172004, HO_1172006, HO_1172007, HO_1172008, BK1150, BK1171, HB⟩ := hrel
   cases gk with
   | zero => exact absurd HA.out (by simp [spec_PointsLost.l0])
   | succ k1 =>
    have H := HA.out
    clear HA
    simp only [spec_PointsLost.l0] at H
    by_cases c26 : x42_1 < (t1172.length : Int)
    ·rw [if_pos c26] at H
     have c26b0 : decide (x42_1 < (t1172.length : Int)) = true := decide_eq_true c26
     clear c26
     by_cases c27 : 0 ≤ x42_1
     ·rw [if_pos c27] at H
      have c27b0 : decide (0 ≤ x42_1) = true := decide_eq_true c27
      clear c27
      by_cases c28 : x42_1 < (t1172.length : Int)
      ·rw [if_pos c28] at H
       have c28b0 : decide (x42_1 < (t1172.length : Int)) = true := decide_eq_true c28
       clear c28
       by_cases c29 : x42_1 < (t1175.length : Int)
       ·rw [if_pos c29] at H
        have c29b0 : decide (x42_1 < (t1175.length : Int)) = true := decide_eq_true c29
        clear c29
        by_cases c30 : x11_1.length < 17592186044416
        ·rw [if_pos c30] at H
         have LMc30 := dk c30
         clear c30
         obtain ⟨y1184, hy1184⟩ : ∃ y_ : List Int, y_ = (x11_1 ++ [wrap64 (((rd_T115 t1172 x42_1).f6) - ((rd_T115 t1175 x42_1).f6))]) := ⟨_, rfl⟩
         replace H : (spec_PointsLost.l0 k1 t1175 y1184 t1172 (t1172.length : Int) (wrap64 (x42_1 + 1))) = some r := by first | (rw [hy1184]; with_reducible exact H) | (have H2_ := (Option.bind_some _ _).symm.trans H; rw [hy1184]; with_reducible exact H2_) | (have H2_ := (Option.bind_some _ _).symm.trans H; with_reducible exact H2_) | with_reducible exact H | (rw [hy1184]; exact H) | exact H
         have Ny1184 := dk hy1184
         clear hy1184
         have H' := dk H
         clear H
         have p1181 : 0 ≤ (x42_1 : Int) := oa
         have q1181 : x42_1 < (t1172.length : Int) := oa
         obtain ⟨ad1181, e1181, hx1181_0, hx1181_1, hx1181_2, hx1181_3, hx1181_4, hx1181_5, hx1181_6⟩ := at_T115 (Kd.R_reads' HO_40.out).2.2 x42_1 p1181 q1181
         cases e1181
         replace p1181 := eq_true p1181
         replace q1181 := eq_true q1181
         try go_wp2_with (first | ((with_reducible refine gate_dst (N := 13) rfl ?_); refine bx (N := 13) (cs := #[.int .i64 0, .int .i64 0, .int .i64 0, .int .i64 0, .int .i64 0, .int .i64 0, .int .i64 0]) (t := 115) ?_; intro gb1182 hg w31 hbox hb; replace HO_10 := dk (Kd.R_below (Kd.R_elderB (rr HO_10) gb1182 (Nat.le_of_eq hg.symm)) hb); replace HO_11 := kr HO_11 hb; replace HO_40 := dk (Kd.R_below (Kd.R_elderB (rr HO_40) gb1182 (Nat.le_of_eq hg.symm)) hb); replace HO_1172000 := kr HO_1172000 hb; replace HO_1172004 := kr HO_1172004 hb; replace HO_1172006 := kr HO_1172006 hb; replace HO_1172007 := kr HO_1172007 hb; replace HO_1172008 := kr HO_1172008 hb; have BK1182 := dk (hbox); have GW1182 := gs hg HB; have GE1182 := gs hg HB; replace HB := hs_ HB hb; have NB1150_1182 := gn hg BK1150; have NB1182_1150 := gm hg BK1150; replace BK1150 := kb BK1150 hb; have NB1171_1182 := gn hg BK1171; have NB1182_1171 := gm hg BK1171; replace BK1171 := kb BK1171 hb; clear hb hbox hg; have hnb32 := NB1182_1150.out; have hnc32 := NB1150_1182.out; have hnb33 := NB1182_1171.out; have hnc33 := NB1171_1182.out; have ⟨z34_0, z34_1, z34_2, z34_3, z34_4, z34_5, z34_6, v34_0, v34_1, v34_2, v34_3, v34_4, v34_5, v34_6⟩ := rz7 BK1182))
         have n0_ : Aside0 (Kd.R k115 115 (((((((w31.setCell ⟨gb1182, 0, none⟩ (.int .i64 ((rd_T115 t1172 x42_1).f0))).setCell ⟨gb1182, 1, none⟩ (.int .i64 ((rd_T115 t1172 x42_1).f1))).setCell ⟨gb1182, 2, none⟩ (.int .i64 ((rd_T115 t1172 x42_1).f2))).setCell ⟨gb1182, 3, none⟩ (.int .i64 ((rd_T115 t1172 x42_1).f3))).setCell ⟨gb1182, 4, none⟩ (.int .i64 ((rd_T115 t1172 x42_1).f4))).setCell ⟨gb1182, 5, none⟩ (.int .i64 ((rd_T115 t1172 x42_1).f5))).setCell ⟨gb1182, 6, none⟩ (.int .i64 ((rd_T115 t1172 x42_1).f6))) w.heap.size (fun k_ => some k_ ≠ (.slice (some ad1181) t1172.length co25 : Value).ownBlock ∧ k_ ≠ gb1182) v1176 t1175) := ⟨by (with_reducible repeat (first | apply Kd.R_alloc | apply Kd.R_drewN | apply Kd.R_drew)); exact Kd.R_mono (Kd.R_far (p := ⟨gb1182, 6, none⟩) (Kd.R_far (p := ⟨gb1182, 5, none⟩) (Kd.R_far (p := ⟨gb1182, 4, none⟩) (Kd.R_far (p := ⟨gb1182, 3, none⟩) (Kd.R_far (p := ⟨gb1182, 2, none⟩) (Kd.R_far (p := ⟨gb1182, 1, none⟩) (Kd.R_far (p := ⟨gb1182, 0, none⟩) (Kd.R_mono HO_10.out (fun k_ hk => (⟨hk, hk.2⟩ : _ ∧ k_ ≠ gb1182))) (fun _ hk => hk.2) (.int .i64 ((rd_T115 t1172 x42_1).f0))) (fun _ hk => hk.2) (.int .i64 ((rd_T115 t1172 x42_1).f1))) (fun _ hk => hk.2) (.int .i64 ((rd_T115 t1172 x42_1).f2))) (fun _ hk => hk.2) (.int .i64 ((rd_T115 t1172 x42_1).f3))) (fun _ hk => hk.2) (.int .i64 ((rd_T115 t1172 x42_1).f4))) (fun _ hk => hk.2) (.int .i64 ((rd_T115 t1172 x42_1).f5))) (fun _ hk => hk.2) (.int .i64 ((rd_T115 t1172 x42_1).f6))) (fun _ hk => ⟨hk.1.1, hk.1.2⟩)⟩
         have n1_ : Aside0 (Kd.R (Kd.int .i64) 3 (((((((w31.setCell ⟨gb1182, 0, none⟩ (.int .i64 ((rd_T115 t1172 x42_1).f0))).setCell ⟨gb1182, 1, none⟩ (.int .i64 ((rd_T115 t1172 x42_1).f1))).setCell ⟨gb1182, 2, none⟩ (.int .i64 ((rd_T115 t1172 x42_1).f2))).setCell ⟨gb1182, 3, none⟩ (.int .i64 ((rd_T115 t1172 x42_1).f3))).setCell ⟨gb1182, 4, none⟩ (.int .i64 ((rd_T115 t1172 x42_1).f4))).setCell ⟨gb1182, 5, none⟩ (.int .i64 ((rd_T115 t1172 x42_1).f5))).setCell ⟨gb1182, 6, none⟩ (.int .i64 ((rd_T115 t1172 x42_1).f6))) w.heap.size (fun k_ => nb k_ Ao15 t1157.length co15 ∧ nb k_ Ao17 t1164.length co17 ∧ nb k_ Ao18 t1167.length co18) u11 x11_1) := ⟨rf HO_11 BK1182 (fun _ hk => ⟨hk.1.1, ⟨hk.1.2.1, hk.1.2.2⟩⟩)⟩
         have n2_ : Aside0 (Kd.R k115 115 (((((((w31.setCell ⟨gb1182, 0, none⟩ (.int .i64 ((rd_T115 t1172 x42_1).f0))).setCell ⟨gb1182, 1, none⟩ (.int .i64 ((rd_T115 t1172 x42_1).f1))).setCell ⟨gb1182, 2, none⟩ (.int .i64 ((rd_T115 t1172 x42_1).f2))).setCell ⟨gb1182, 3, none⟩ (.int .i64 ((rd_T115 t1172 x42_1).f3))).setCell ⟨gb1182, 4, none⟩ (.int .i64 ((rd_T115 t1172 x42_1).f4))).setCell ⟨gb1182, 5, none⟩ (.int .i64 ((rd_T115 t1172 x42_1).f5))).setCell ⟨gb1182, 6, none⟩ (.int .i64 ((rd_T115 t1172 x42_1).f6))) w.heap.size (fun k_ => some k_ ≠ (v1176 : Value).ownBlock ∧ k_ ≠ gb1182) (.slice (some ad1181) t1172.length co25) t1172) := ⟨by (with_reducible repeat (first | apply Kd.R_alloc | apply Kd.R_drewN | apply Kd.R_drew)); exact Kd.R_mono (Kd.R_far (p := ⟨gb1182, 6, none⟩) (Kd.R_far (p := ⟨gb1182, 5, none⟩) (Kd.R_far (p := ⟨gb1182, 4, none⟩) (Kd.R_far (p := ⟨gb1182, 3, none⟩) (Kd.R_far (p := ⟨gb1182, 2, none⟩) (Kd.R_far (p := ⟨gb1182, 1, none⟩) (Kd.R_far (p := ⟨gb1182, 0, none⟩) (Kd.R_mono HO_40.out (fun k_ hk => (⟨hk, hk.2⟩ : _ ∧ k_ ≠ gb1182))) (fun _ hk => hk.2) (.int .i64 ((rd_T115 t1172 x42_1).f0))) (fun _ hk => hk.2) (.int .i64 ((rd_T115 t1172 x42_1).f1))) (fun _ hk => hk.2) (.int .i64 ((rd_T115 t1172 x42_1).f2))) (fun _ hk => hk.2) (.int .i64 ((rd_T115 t1172 x42_1).f3))) (fun _ hk => hk.2) (.int .i64 ((rd_T115 t1172 x42_1).f4))) (fun _ hk => hk.2) (.int .i64 ((rd_T115 t1172 x42_1).f5))) (fun _ hk => hk.2) (.int .i64 ((rd_T115 t1172 x42_1).f6))) (fun _ hk => ⟨hk.1.1, hk.1.2⟩)⟩
         have n3_ : Aside0 (Kd.R k139 139 (((((((w31.setCell ⟨gb1182, 0, none⟩ (.int .i64 ((rd_T115 t1172 x42_1).f0))).setCell ⟨gb1182, 1, none⟩ (.int .i64 ((rd_T115 t1172 x42_1).f1))).setCell ⟨gb1182, 2, none⟩ (.int .i64 ((rd_T115 t1172 x42_1).f2))).setCell ⟨gb1182, 3, none⟩ (.int .i64 ((rd_T115 t1172 x42_1).f3))).setCell ⟨gb1182, 4, none⟩ (.int .i64 ((rd_T115 t1172 x42_1).f4))).setCell ⟨gb1182, 5, none⟩ (.int .i64 ((rd_T115 t1172 x42_1).f5))).setCell ⟨gb1182, 6, none⟩ (.int .i64 ((rd_T115 t1172 x42_1).f6))) w.heap.size (fun _ => True) (.slice Ao12 t1151.length co12) t1151) := ⟨rf HO_1172000 BK1182 (fun _ hk => trivial)⟩
         have n4_ : Aside0 (Kd.R (Kd.int .i64) 3 (((((((w31.setCell ⟨gb1182, 0, none⟩ (.int .i64 ((rd_T115 t1172 x42_1).f0))).setCell ⟨gb1182, 1, none⟩ (.int .i64 ((rd_T115 t1172 x42_1).f1))).setCell ⟨gb1182, 2, none⟩ (.int .i64 ((rd_T115 t1172 x42_1).f2))).setCell ⟨gb1182, 3, none⟩ (.int .i64 ((rd_T115 t1172 x42_1).f3))).setCell ⟨gb1182, 4, none⟩ (.int .i64 ((rd_T115 t1172 x42_1).f4))).setCell ⟨gb1182, 5, none⟩ (.int .i64 ((rd_T115 t1172 x42_1).f5))).setCell ⟨gb1182, 6, none⟩ (.int .i64 ((rd_T115 t1172 x42_1).f6))) w.heap.size (fun k_ => some k_ ≠ (u11 : Value).ownBlock ∧ nb k_ Ao17 t1164.length co17 ∧ nb k_ Ao18 t1167.length co18) (.slice Ao15 t1157.length co15) t1157) := ⟨rf HO_1172004 BK1182 (fun _ hk => ⟨hk.1.1, ⟨hk.1.2.1, hk.1.2.2⟩⟩)⟩
         have n5_ : Aside0 (Kd.R k95 95 (((((((w31.setCell ⟨gb1182, 0, none⟩ (.int .i64 ((rd_T115 t1172 x42_1).f0))).setCell ⟨gb1182, 1, none⟩ (.int .i64 ((rd_T115 t1172 x42_1).f1))).setCell ⟨gb1182, 2, none⟩ (.int .i64 ((rd_T115 t1172 x42_1).f2))).setCell ⟨gb1182, 3, none⟩ (.int .i64 ((rd_T115 t1172 x42_1).f3))).setCell ⟨gb1182, 4, none⟩ (.int .i64 ((rd_T115 t1172 x42_1).f4))).setCell ⟨gb1182, 5, none⟩ (.int .i64 ((rd_T115 t1172 x42_1).f5))).setCell ⟨gb1182, 6, none⟩ (.int .i64 ((rd_T115 t1172 x42_1).f6))) w.heap.size (fun _ => True) (.slice Ao16 t1161.length co16) t1161) := ⟨rf HO_1172006 BK1182 (fun _ hk => trivial)⟩
         have n6_ : Aside0 (Kd.R (Kd.int .i64) 3 (((((((w31.setCell ⟨gb1182, 0, none⟩ (.int .i64 ((rd_T115 t1172 x42_1).f0))).setCell ⟨gb1182, 1, none⟩ (.int .i64 ((rd_T115 t1172 x42_1).f1))).setCell ⟨gb1182, 2, none⟩ (.int .i64 ((rd_T115 t1172 x42_1).f2))).setCell ⟨gb1182, 3, none⟩ (.int .i64 ((rd_T115 t1172 x42_1).f3))).setCell ⟨gb1182, 4, none⟩ (.int .i64 ((rd_T115 t1172 x42_1).f4))).setCell ⟨gb1182, 5, none⟩ (.int .i64 ((rd_T115 t1172 x42_1).f5))).setCell ⟨gb1182, 6, none⟩ (.int .i64 ((rd_T115 t1172 x42_1).f6))) w.heap.size (fun k_ => some k_ ≠ (u11 : Value).ownBlock ∧ nb k_ Ao15 t1157.length co15 ∧ nb k_ Ao18 t1167.length co18) (.slice Ao17 t1164.length co17) t1164) := ⟨rf HO_1172007 BK1182 (fun _ hk => ⟨hk.1.1, ⟨hk.1.2.1, hk.1.2.2⟩⟩)⟩
         have n7_ : Aside0 (Kd.R (Kd.int .i64) 3 (((((((w31.setCell ⟨gb1182, 0, none⟩ (.int .i64 ((rd_T115 t1172 x42_1).f0))).setCell ⟨gb1182, 1, none⟩ (.int .i64 ((rd_T115 t1172 x42_1).f1))).setCell ⟨gb1182, 2, none⟩ (.int .i64 ((rd_T115 t1172 x42_1).f2))).setCell ⟨gb1182, 3, none⟩ (.int .i64 ((rd_T115 t1172 x42_1).f3))).setCell ⟨gb1182, 4, none⟩ (.int .i64 ((rd_T115 t1172 x42_1).f4))).setCell ⟨gb1182, 5, none⟩ (.int .i64 ((rd_T115 t1172 x42_1).f5))).setCell ⟨gb1182, 6, none⟩ (.int .i64 ((rd_T115 t1172 x42_1).f6))) w.heap.size (fun k_ => some k_ ≠ (u11 : Value).ownBlock ∧ nb k_ Ao15 t1157.length co15 ∧ nb k_ Ao17 t1164.length co17) (.slice Ao18 t1167.length co18) t1167) := ⟨rf HO_1172008 BK1182 (fun _ hk => ⟨hk.1.1, ⟨hk.1.2.1, hk.1.2.2⟩⟩)⟩
         have n8_ : Aside0 ((((((((w31.setCell ⟨gb1182, 0, none⟩ (.int .i64 ((rd_T115 t1172 x42_1).f0))).setCell ⟨gb1182, 1, none⟩ (.int .i64 ((rd_T115 t1172 x42_1).f1))).setCell ⟨gb1182, 2, none⟩ (.int .i64 ((rd_T115 t1172 x42_1).f2))).setCell ⟨gb1182, 3, none⟩ (.int .i64 ((rd_T115 t1172 x42_1).f3))).setCell ⟨gb1182, 4, none⟩ (.int .i64 ((rd_T115 t1172 x42_1).f4))).setCell ⟨gb1182, 5, none⟩ (.int .i64 ((rd_T115 t1172 x42_1).f5))).setCell ⟨gb1182, 6, none⟩ (.int .i64 ((rd_T115 t1172 x42_1).f6))).heap[gb1150]? = some (.cells #[.slice A0_0 l0_0.length c0_0, .int .i64 a0_1, .int .i64 a0_2, .int .i64 a0_3, .slice A0_4 l0_4.length c0_4, .bool a0_5, .slice A0_6 l0_6.length c0_6, .slice A0_7 l0_7.length c0_7, .slice A0_8 l0_8.length c0_8] 36 (0, 0))) := ⟨bf NB1150_1182.out BK1150⟩
         have n9_ : Aside0 ((((((((w31.setCell ⟨gb1182, 0, none⟩ (.int .i64 ((rd_T115 t1172 x42_1).f0))).setCell ⟨gb1182, 1, none⟩ (.int .i64 ((rd_T115 t1172 x42_1).f1))).setCell ⟨gb1182, 2, none⟩ (.int .i64 ((rd_T115 t1172 x42_1).f2))).setCell ⟨gb1182, 3, none⟩ (.int .i64 ((rd_T115 t1172 x42_1).f3))).setCell ⟨gb1182, 4, none⟩ (.int .i64 ((rd_T115 t1172 x42_1).f4))).setCell ⟨gb1182, 5, none⟩ (.int .i64 ((rd_T115 t1172 x42_1).f5))).setCell ⟨gb1182, 6, none⟩ (.int .i64 ((rd_T115 t1172 x42_1).f6))).heap[gb1171]? = some (.cells #[.slice Ao12 t1151.length co12, .int .i64 t1154, .int .i64 t1155, .int .i64 t1156, .slice Ao15 t1157.length co15, .bool t1160, .slice Ao16 t1161.length co16, .slice Ao17 t1164.length co17, .slice Ao18 t1167.length co18] 36 (0, 0))) := ⟨bf NB1171_1182.out BK1171⟩
         have n10_ : Aside0 ((((((((w31.setCell ⟨gb1182, 0, none⟩ (.int .i64 ((rd_T115 t1172 x42_1).f0))).setCell ⟨gb1182, 1, none⟩ (.int .i64 ((rd_T115 t1172 x42_1).f1))).setCell ⟨gb1182, 2, none⟩ (.int .i64 ((rd_T115 t1172 x42_1).f2))).setCell ⟨gb1182, 3, none⟩ (.int .i64 ((rd_T115 t1172 x42_1).f3))).setCell ⟨gb1182, 4, none⟩ (.int .i64 ((rd_T115 t1172 x42_1).f4))).setCell ⟨gb1182, 5, none⟩ (.int .i64 ((rd_T115 t1172 x42_1).f5))).setCell ⟨gb1182, 6, none⟩ (.int .i64 ((rd_T115 t1172 x42_1).f6))).heap[gb1182]? = some (.cells #[.int .i64 ((rd_T115 t1172 x42_1).f0), .int .i64 ((rd_T115 t1172 x42_1).f1), .int .i64 ((rd_T115 t1172 x42_1).f2), .int .i64 ((rd_T115 t1172 x42_1).f3), .int .i64 ((rd_T115 t1172 x42_1).f4), .int .i64 ((rd_T115 t1172 x42_1).f5), .int .i64 ((rd_T115 t1172 x42_1).f6)] 115 (0, 0))) := ⟨by (with_reducible repeat (first | refine blk_drewN ?_ _ | refine blk_drew ?_ | refine blk_alloc ?_ _)); refine blk_put (cs := #[.int .i64 ((rd_T115 t1172 x42_1).f0), .int .i64 ((rd_T115 t1172 x42_1).f1), .int .i64 ((rd_T115 t1172 x42_1).f2), .int .i64 ((rd_T115 t1172 x42_1).f3), .int .i64 ((rd_T115 t1172 x42_1).f4), .int .i64 ((rd_T115 t1172 x42_1).f5), .int .i64 0]) ?_ 6 _ rfl; (with_reducible repeat (first | refine blk_drewN ?_ _ | refine blk_drew ?_ | refine blk_alloc ?_ _)); refine blk_put (cs := #[.int .i64 ((rd_T115 t1172 x42_1).f0), .int .i64 ((rd_T115 t1172 x42_1).f1), .int .i64 ((rd_T115 t1172 x42_1).f2), .int .i64 ((rd_T115 t1172 x42_1).f3), .int .i64 ((rd_T115 t1172 x42_1).f4), .int .i64 0, .int .i64 0]) ?_ 5 _ rfl; (with_reducible repeat (first | refine blk_drewN ?_ _ | refine blk_drew ?_ | refine blk_alloc ?_ _)); refine blk_put (cs := #[.int .i64 ((rd_T115 t1172 x42_1).f0), .int .i64 ((rd_T115 t1172 x42_1).f1), .int .i64 ((rd_T115 t1172 x42_1).f2), .int .i64 ((rd_T115 t1172 x42_1).f3), .int .i64 0, .int .i64 0, .int .i64 0]) ?_ 4 _ rfl; (with_reducible repeat (first | refine blk_drewN ?_ _ | refine blk_drew ?_ | refine blk_alloc ?_ _)); refine blk_put (cs := #[.int .i64 ((rd_T115 t1172 x42_1).f0), .int .i64 ((rd_T115 t1172 x42_1).f1), .int .i64 ((rd_T115 t1172 x42_1).f2), .int .i64 0, .int .i64 0, .int .i64 0, .int .i64 0]) ?_ 3 _ rfl; (with_reducible repeat (first | refine blk_drewN ?_ _ | refine blk_drew ?_ | refine blk_alloc ?_ _)); refine blk_put (cs := #[.int .i64 ((rd_T115 t1172 x42_1).f0), .int .i64 ((rd_T115 t1172 x42_1).f1), .int .i64 0, .int .i64 0, .int .i64 0, .int .i64 0, .int .i64 0]) ?_ 2 _ rfl; (with_reducible repeat (first | refine blk_drewN ?_ _ | refine blk_drew ?_ | refine blk_alloc ?_ _)); refine blk_put (cs := #[.int .i64 ((rd_T115 t1172 x42_1).f0), .int .i64 0, .int .i64 0, .int .i64 0, .int .i64 0, .int .i64 0, .int .i64 0]) ?_ 1 _ rfl; (with_reducible repeat (first | refine blk_drewN ?_ _ | refine blk_drew ?_ | refine blk_alloc ?_ _)); refine blk_put (cs := #[.int .i64 0, .int .i64 0, .int .i64 0, .int .i64 0, .int .i64 0, .int .i64 0, .int .i64 0]) ?_ 0 _ rfl; (with_reducible repeat (first | refine blk_drewN ?_ _ | refine blk_drew ?_ | refine blk_alloc ?_ _)); exact BK1182.out⟩
         have n11_ : Aside0 (Below w.heap.size w (((((((w31.setCell ⟨gb1182, 0, none⟩ (.int .i64 ((rd_T115 t1172 x42_1).f0))).setCell ⟨gb1182, 1, none⟩ (.int .i64 ((rd_T115 t1172 x42_1).f1))).setCell ⟨gb1182, 2, none⟩ (.int .i64 ((rd_T115 t1172 x42_1).f2))).setCell ⟨gb1182, 3, none⟩ (.int .i64 ((rd_T115 t1172 x42_1).f3))).setCell ⟨gb1182, 4, none⟩ (.int .i64 ((rd_T115 t1172 x42_1).f4))).setCell ⟨gb1182, 5, none⟩ (.int .i64 ((rd_T115 t1172 x42_1).f5))).setCell ⟨gb1182, 6, none⟩ (.int .i64 ((rd_T115 t1172 x42_1).f6)))) := ⟨bb HB⟩
         (try clear HO_10)
         (try clear HO_11)
         (try clear HO_40)
         (try clear HO_1172000)
         (try clear HO_1172004)
         (try clear HO_1172006)
         (try clear HO_1172007)
         (try clear HO_1172008)
         (try clear BK1150)
         (try clear BK1171)
         (try clear BK1182)
         (try clear HB)
         generalize (((((((w31.setCell ⟨gb1182, 0, none⟩ (.int .i64 ((rd_T115 t1172 x42_1).f0))).setCell ⟨gb1182, 1, none⟩ (.int .i64 ((rd_T115 t1172 x42_1).f1))).setCell ⟨gb1182, 2, none⟩ (.int .i64 ((rd_T115 t1172 x42_1).f2))).setCell ⟨gb1182, 3, none⟩ (.int .i64 ((rd_T115 t1172 x42_1).f3))).setCell ⟨gb1182, 4, none⟩ (.int .i64 ((rd_T115 t1172 x42_1).f4))).setCell ⟨gb1182, 5, none⟩ (.int .i64 ((rd_T115 t1172 x42_1).f5))).setCell ⟨gb1182, 6, none⟩ (.int .i64 ((rd_T115 t1172 x42_1).f6))) = w35 at n0_ n1_ n2_ n3_ n4_ n5_ n6_ n7_ n8_ n9_ n10_ n11_ ⊢
         have HO_10 := n0_
         have HO_11 := n1_
         have HO_40 := n2_
         have HO_1172000 := n3_
         have HO_1172004 := n4_
         have HO_1172006 := n5_
         have HO_1172007 := n6_
         have HO_1172008 := n7_
         have BK1150 := n8_
         have BK1171 := n9_
         have BK1182 := n10_
         have HB := n11_
         clear n0_ n1_ n2_ n3_ n4_ n5_ n6_ n7_ n8_ n9_ n10_ n11_
         replace HO_10 := dk (Kd.R_drew HO_10.out)
         replace HO_11 := dk (Kd.R_drew HO_11.out)
         replace HO_40 := dk (Kd.R_drew HO_40.out)
         replace HO_1172000 := dk (Kd.R_drew HO_1172000.out)
         replace HO_1172004 := dk (Kd.R_drew HO_1172004.out)
         replace HO_1172006 := dk (Kd.R_drew HO_1172006.out)
         replace HO_1172007 := dk (Kd.R_drew HO_1172007.out)
         replace HO_1172008 := dk (Kd.R_drew HO_1172008.out)
         replace BK1150 := dk (blk_drew BK1150.out)
         replace BK1171 := dk (blk_drew BK1171.out)
         replace BK1182 := dk (blk_drew BK1182.out)
         replace HB := dk (below_drew1 HB.out)
         obtain ⟨Ao37, co37, eo37⟩ := Kd.R_slice HO_10.out
         (first | subst eo37 | (injection eo37 with f1_ f2_ f3_; have f4_ := f1_.symm; have f5_ := f3_.symm; clear f1_ f2_ f3_; subst f4_; subst f5_))
         have p1183 : 0 ≤ (x42_1 : Int) := oa
         have q1183 : x42_1 < (t1175.length : Int) := oa
         obtain ⟨ad1183, e1183, hx1183_0, hx1183_1, hx1183_2, hx1183_3, hx1183_4, hx1183_5, hx1183_6⟩ := at_T115 (Kd.R_reads' HO_10.out).2.2 x42_1 p1183 q1183
         cases e1183
         replace p1183 := eq_true p1183
         replace q1183 := eq_true q1183
         refine start_ (n := 12) (S := fun w' => w'.cell? ⟨gb1182, 0, none⟩ = some (.int .i64 ((rd_T115 t1172 x42_1).f0)) ∧ w'.cell? ⟨gb1182, 1, none⟩ = some (.int .i64 ((rd_T115 t1172 x42_1).f1)) ∧ w'.cell? ⟨gb1182, 2, none⟩ = some (.int .i64 ((rd_T115 t1172 x42_1).f2)) ∧ w'.cell? ⟨gb1182, 3, none⟩ = some (.int .i64 ((rd_T115 t1172 x42_1).f3)) ∧ w'.cell? ⟨gb1182, 4, none⟩ = some (.int .i64 ((rd_T115 t1172 x42_1).f4)) ∧ w'.cell? ⟨gb1182, 5, none⟩ = some (.int .i64 ((rd_T115 t1172 x42_1).f5)) ∧ w'.cell? ⟨gb1182, 6, none⟩ = some (.int .i64 ((rd_T115 t1172 x42_1).f6)) ∧ w'.cell? (ad1183.add ((x42_1).toNat * 7)) = some (.int .i64 ((rd_T115 t1175 x42_1).f0)) ∧ w'.cell? ⟨(ad1183.add ((x42_1).toNat * 7)).block, (ad1183.add ((x42_1).toNat * 7)).off + 1, none⟩ = some (.int .i64 ((rd_T115 t1175 x42_1).f1)) ∧ w'.cell? ⟨(ad1183.add ((x42_1).toNat * 7)).block, (ad1183.add ((x42_1).toNat * 7)).off + 2, none⟩ = some (.int .i64 ((rd_T115 t1175 x42_1).f2)) ∧ w'.cell? ⟨(ad1183.add ((x42_1).toNat * 7)).block, (ad1183.add ((x42_1).toNat * 7)).off + 3, none⟩ = some (.int .i64 ((rd_T115 t1175 x42_1).f3)) ∧ w'.cell? ⟨(ad1183.add ((x42_1).toNat * 7)).block, (ad1183.add ((x42_1).toNat * 7)).off + 4, none⟩ = some (.int .i64 ((rd_T115 t1175 x42_1).f4)) ∧ w'.cell? ⟨(ad1183.add ((x42_1).toNat * 7)).block, (ad1183.add ((x42_1).toNat * 7)).off + 5, none⟩ = some (.int .i64 ((rd_T115 t1175 x42_1).f5)) ∧ w'.cell? ⟨(ad1183.add ((x42_1).toNat * 7)).block, (ad1183.add ((x42_1).toNat * 7)).off + 6, none⟩ = some (.int .i64 ((rd_T115 t1175 x42_1).f6))) (ds := [9, 10]) #[false, false, false, false, false, false, false, false, false, false, false, false] (by kernel_rfl) rfl rfl ⟨bc BK1182 0, bc BK1182 1, bc BK1182 2, bc BK1182 3, bc BK1182 4, bc BK1182 5, bc BK1182 6, hx1183_0, hx1183_1, hx1183_2, hx1183_3, hx1183_4, hx1183_5, hx1183_6⟩ (fun hHeld => ?_); refine with_tabW spec_PointsLost.tab10 spec_PointsLost.bits10 (fun HT_ HW_ => ?_)
         generalize w35.drew = w36 at HO_10 HO_11 HO_40 HO_1172000 HO_1172004 HO_1172006 HO_1172007 HO_1172008 BK1150 BK1171 BK1182 HB hx1183_0 hx1183_1 hx1183_2 hx1183_3 hx1183_4 hx1183_5 hx1183_6 hHeld ⊢
         refine pz_ 0 47 ?_
         refine pz_ 1 48 ?_
         refine pz_ 3 50 ?_
         refine pz_ 4 51 ?_
         refine pz_ 5 52 ?_
         refine pz_ 6 53 ?_
         refine tk_ 2 49 ?_
         refine tk_ 7 54 ?_
         refine pz_ 8 55 ?_
         refine last_ (i := 9) (N := some 56) #[true, true, true, true, true, true, true, true, true, true, false, false] rfl rfl (one_of HT_.out (by kernel_rfl)) (by decide) (fun K hK => ?_)
         refine value_ (w1 := ?_) (v := ?_) (by rfl) rfl ?_ ?_
         rotate_left 2
         ·go_simp
          constructor
          ·rfl
          ·rfl
         refine hK.out _ _ ?_
         clear hK K
         refine norm_ (a' := ?_) ?_ ?_
         rotate_left
         ·show Act.put _ (some 56) _ = _
          simp only [Act.put, List.setIfInBounds_toArray, List.set_cons_zero, List.set_cons_succ, i64_w, i32_w]
          rfl
         refine last_ (i := 10) (N := some 57) #[true, true, true, true, true, true, true, true, true, true, true, false] rfl rfl (one_of HT_.out (by kernel_rfl)) (by decide) (fun K hK => ?_)
         refine Kd.R_append_step (Kd.int .i64) (w0 := w) w.heap.size (by rfl) (.tmp 47) (.tmp 56) 23 3 (.int .i64 0) 8 rfl Try.underlying23 info3 rfl (by decide) (by omega) u11 x11_1 (wrap64 (((rd_T115 t1172 x42_1).f6) - ((rd_T115 t1175 x42_1).f6))) [.int .i64 (wrap64 (((rd_T115 t1172 x42_1).f6) - ((rd_T115 t1175 x42_1).f6)))] (fun k_ => nb k_ Ao15 t1157.length co15 ∧ nb k_ Ao17 t1164.length co17 ∧ nb k_ Ao18 t1167.length co18) (fun _ => False) rfl rfl ?aP (fun _ hk => hk.elim) ?aF ?aO ?aB ?aS ?aL ?_
         (case aP => exact rfl)
         (case aB => exact (bb HB))
         (case aF => exact (fun k_ hk => ⟨Kd.fresh' (Kd.R_lt (rr HO_1172004)) k_ hk, Kd.fresh' (Kd.R_lt (rr HO_1172007)) k_ hk, Kd.fresh' (Kd.R_lt (rr HO_1172008)) k_ hk⟩))
         (case aO => exact (rr HO_11))
         (case aS => exact (below_size (bb HB)))
         (case aL => have := LMc30.out; omega)
         intro v1185 w38 ho hb hg hat
         rw [← Ny1184.out] at ho
         replace HO_10 := dk (Kd.R_over' (rr HO_10) (Kd.R_typed (rr HO_11)) (by decide) hg)
         replace HO_40 := dk (Kd.R_over' (rr HO_40) (Kd.R_typed (rr HO_11)) (by decide) hg)
         replace HO_1172000 := dk (Kd.R_over' (rr HO_1172000) (Kd.R_typed (rr HO_11)) (by decide) hg)
         replace HO_1172004 := dk (Kd.R_after (ok := (fun k_ => nb k_ Ao17 t1164.length co17 ∧ nb k_ Ao18 t1167.length co18)) (rp HO_1172004) hg hat)
         replace HO_1172006 := dk (Kd.R_over' (rr HO_1172006) (Kd.R_typed (rr HO_11)) (by decide) hg)
         replace HO_1172007 := dk (Kd.R_after (ok := (fun k_ => nb k_ Ao15 t1157.length co15 ∧ nb k_ Ao18 t1167.length co18)) (rp HO_1172007) hg hat)
         replace HO_1172008 := dk (Kd.R_after (ok := (fun k_ => nb k_ Ao15 t1157.length co15 ∧ nb k_ Ao17 t1164.length co17)) (rp HO_1172008) hg hat)
         replace BK1150 := dk (blk_grown (g := gb1150) (o := .cells #[.slice A0_0 l0_0.length c0_0, .int .i64 a0_1, .int .i64 a0_2, .int .i64 a0_3, .slice A0_4 l0_4.length c0_4, .bool a0_5, .slice A0_6 l0_6.length c0_6, .slice A0_7 l0_7.length c0_7, .slice A0_8 l0_8.length c0_8] 36 (0, 0)) (bk BK1150) hg (Kd.R_ne HO_11.out BK1150.out (by decide)))
         replace BK1171 := dk (blk_grown (g := gb1171) (o := .cells #[.slice Ao12 t1151.length co12, .int .i64 t1154, .int .i64 t1155, .int .i64 t1156, .slice Ao15 t1157.length co15, .bool t1160, .slice Ao16 t1161.length co16, .slice Ao17 t1164.length co17, .slice Ao18 t1167.length co18] 36 (0, 0)) (bk BK1171) hg (Kd.R_ne HO_11.out BK1171.out (by decide)))
         replace BK1182 := dk (blk_grown (g := gb1182) (o := .cells #[.int .i64 ((rd_T115 t1172 x42_1).f0), .int .i64 ((rd_T115 t1172 x42_1).f1), .int .i64 ((rd_T115 t1172 x42_1).f2), .int .i64 ((rd_T115 t1172 x42_1).f3), .int .i64 ((rd_T115 t1172 x42_1).f4), .int .i64 ((rd_T115 t1172 x42_1).f5), .int .i64 ((rd_T115 t1172 x42_1).f6)] 115 (0, 0)) (bk BK1182) hg (Kd.R_ne HO_11.out BK1182.out (by decide)))
         replace HB := dk (hb)
         have HO1186 := dk (ho)
         clear HO_11 ho hb hg hat
         refine hK.out _ _ ?_
         clear hK K
         refine norm_ (a' := ?_) ?_ ?_
         rotate_left
         ·show Act.put _ (some 57) _ = _
          simp only [Act.put, List.setIfInBounds_toArray, List.set_cons_zero, List.set_cons_succ, i64_w, i32_w]
          rfl
         refine pz_ 11 11 ?_
         refine done_ (done_of HT_.out (by kernel_rfl)) ?_
         try go_wp2
         go_roundg k1
         case measure => have := HK1.out; omega
         case rel => exact ⟨(y1184), (wrap64 (x42_1 + 1)), e2_, H', ⟨by have := HK1.out; omega⟩, ⟨ro HO_10 (fun _ hk => hk.1)⟩, ⟨rr HO1186⟩, ⟨ro HO_40 (fun _ hk => hk.1)⟩, ⟨rr HO_1172000⟩, ⟨rp HO_1172004⟩, ⟨rr HO_1172006⟩, ⟨rp HO_1172007⟩, ⟨rp HO_1172008⟩, ⟨bk BK1150⟩, ⟨bk BK1171⟩, ⟨bb HB⟩⟩
        ·rw [if_neg c30] at H
         exact absurd H (by simp)
       ·rw [if_neg c29] at H
        exact absurd H (by simp)
      ·rw [if_neg c28] at H
       exact absurd H (by simp)
     ·rw [if_neg c27] at H
      exact absurd H (by simp)
    ·rw [if_neg c26] at H
     have c26b0 : decide (x42_1 < (t1172.length : Int)) = false := decide_eq_false c26
     clear c26
     obtain rfl := Option.some.inj H
     go_wp2
     go_ret
     exact ⟨_, ee, ro HO_11 (fun _ hk => trivial), bb HB⟩
 ·replace c5 := Bool.eq_false_iff.mpr c5
  subst c5
  rw [if_neg (show ¬ (false = true) by decide)] at H
  obtain rfl := Option.some.inj H
  go_enter Try.func26, Try.ntmps26
  go_wp2_with (first | ((with_reducible refine gate_dst (N := 3) rfl ?_); refine bx (N := 3) (cs := #[.slice A0_0 l0_0.length c0_0, .int .i64 a0_1, .int .i64 a0_2, .int .i64 a0_3, .slice A0_4 l0_4.length c0_4, .bool a0_5, .slice A0_6 l0_6.length c0_6, .slice A0_7 l0_7.length c0_7, .slice A0_8 l0_8.length c0_8]) (t := 36) ?_; intro gb1150 hg w39 hbox hb; have BK1150 := dk (hbox); have GW1150 := gs hg HB; have GE1150 := gs hg HB; replace HB := hs_ HB hb; clear hb hbox hg; have ⟨z40_0, z40_1, z40_2, z40_3, z40_4, z40_5, z40_6, z40_7, z40_8, v40_0, v40_1, v40_2, v40_3, v40_4, v40_5, v40_6, v40_7, v40_8⟩ := rz9 BK1150) | ((with_reducible refine gate_callee (f := 24) rfl ?_); refine gl (some 18) Try.func24 #[.agg #[.slice A0_0 l0_0.length c0_0, .int .i64 a0_1, .int .i64 a0_2, .int .i64 a0_3, .slice A0_4 l0_4.length c0_4, .bool a0_5, .slice A0_6 l0_6.length c0_6, .slice A0_7 l0_7.length c0_7, .slice A0_8 l0_8.length c0_8], .int .i64 a1, .int .i64 a2] ?_; (with_reducible refine (spec_Withdraw.calls k _ _ l0_0 a0_1 a0_2 a0_3 _ _ l0_4 a0_5 _ _ l0_6 _ _ l0_7 _ _ l0_8 a1 a2 t1151 t1154 t1155 t1156 t1157 t1160 t1161 t1164 t1167 false _ ?side1 ?side2 ?side3 ?side4 ?side5 ?side6 ?side7 ?side8 ?side9 ?side10 A4.out).mono ?_); (case side1 => exact cc HR0_0 HB); (case side2 => exact HC0_0.out); (case side3 => exact cc HR0_4 HB); (case side4 => exact HC0_4.out); (case side5 => exact cc HR0_6 HB); (case side6 => exact HC0_6.out); (case side7 => exact cc HR0_7 HB); (case side8 => exact HC0_7.out); (case side9 => exact cc HR0_8 HB); (case side10 => exact HC0_8.out); rintro e w41 ⟨v1152, v1158, v1162, v1165, v1168, rfl, ho0, ho1, ho2, ho3, ho4, hb⟩; refine ⟨_, rfl, ?_⟩; have HO1153 := kl ho0 HB; have HO1159 := kl ho1 HB; have HO1163 := kl ho2 HB; have HO1166 := kl ho3 HB; have HO1169 := kl ho4 HB; replace BK1150 := kb BK1150 hb; replace HB := hs_ HB hb; (try clear hb hb2 hk hi ho0 ho1 ho2 ho3 ho4)) | ((with_reducible refine gate_dst (N := 7) rfl ?_); refine bx (N := 7) (cs := #[.slice none 0 0, .int .i64 0, .int .i64 0, .int .i64 0, .slice none 0 0, .bool false, .slice none 0 0, .slice none 0 0, .slice none 0 0]) (t := 36) ?_; intro gb1171 hg w42 hbox hb; replace HO1153 := kr HO1153 hb; replace HO1159 := kr HO1159 hb; replace HO1163 := kr HO1163 hb; replace HO1166 := kr HO1166 hb; replace HO1169 := kr HO1169 hb; have BK1171 := dk (hbox); have GW1171 := gs hg HB; have GE1171 := gs hg HB; replace HB := hs_ HB hb; have NB1150_1171 := gn hg BK1150; have NB1171_1150 := gm hg BK1150; replace BK1150 := kb BK1150 hb; clear hb hbox hg; obtain ⟨Ao43, co43, eo43⟩ := Kd.R_slice HO1153.out; subst eo43; have hnb44 := NB1171_1150.out; have hnc44 := NB1150_1171.out; have ⟨z45_0, z45_1, z45_2, z45_3, z45_4, z45_5, z45_6, z45_7, z45_8, v45_0, v45_1, v45_2, v45_3, v45_4, v45_5, v45_6, v45_7, v45_8⟩ := rz9 BK1171; obtain ⟨Ao46, co46, eo46⟩ := Kd.R_slice HO1159.out; subst eo46; obtain ⟨Ao47, co47, eo47⟩ := Kd.R_slice HO1163.out; subst eo47; obtain ⟨Ao48, co48, eo48⟩ := Kd.R_slice HO1166.out; subst eo48; obtain ⟨Ao49, co49, eo49⟩ := Kd.R_slice HO1169.out; subst eo49))
  go_ret
  exact ⟨_, ee, by first | exact Kd.R_nil _ _ _ _ _ | exact Kd.N_nil _ _ _ _ _ | exact Kd.V_nil _ _ _ _ _ | exact Kd.Q_nil _ _ _ _ _ | exact Kd.S_nil _ _ _ _ _, bb HB⟩
def impl_within.f (a0 : Int) (a1 : Int) (a2 : Int) : Option (Bool) := if a1 ≤ a0 then (some (decide (a0 ≤ a2))) else (some false)
theorem impl_within.calls (a0 : Int) (a1 : Int) (a2 : Int) (r : Bool) (w : World) (h : impl_within.f a0 a1 a2 = some r) :
  Calls Try.prog 128 #[.int .i64 a0, .int .i64 a1, .int .i64 a2] w fun e w' => e = .returned (.bool r) ∧ Drawn0 w w' := by
 have H : (if a1 ≤ a0 then (some (decide (a0 ≤ a2))) else (some false)) = some r := h
 clear h
 by_cases c4 : a1 ≤ a0
 ·rw [if_pos c4] at H
  have c4b0 : decide (a1 ≤ a0) = true := decide_eq_true c4
  clear c4
  obtain rfl := Option.some.inj H
  go_enter Try.func128, Try.ntmps128
  go_wp2
  go_ret
  exact ⟨e2_, by repeat (first | exact Drawn0.refl _ | apply Drawn0.step)⟩
 ·rw [if_neg c4] at H
  have c4b0 : decide (a1 ≤ a0) = false := decide_eq_false c4
  clear c4
  obtain rfl := Option.some.inj H
  go_enter Try.func128, Try.ntmps128
  go_wp2
  go_ret
  exact ⟨e2_, by repeat (first | exact Drawn0.refl _ | apply Drawn0.step)⟩
def impl_IsName.l0 : Nat → ByteArray → Int → Int → Option (Bool)
 | 0, _, _, _ => none
 | k + 1, x0, x6, x7 => if x7 < x6 then (if 0 ≤ x7 then (if x7 < (x0.size : Int) then (if (bt x0 x7) ≥ 97 then (if ((bt x0 x7) ≤ 122) then (impl_IsName.l0 k x0 x6 (wrap64 (x7 + 1))) else (if x7 = 0 then (some false) else (if (bt x0 x7) < 48 then (some false) else (if (bt x0 x7) > 57 then (some false) else (impl_IsName.l0 k x0 x6 (wrap64 (x7 + 1))))))) else (if x7 = 0 then (some false) else (if (bt x0 x7) < 48 then (some false) else (if (bt x0 x7) > 57 then (some false) else (impl_IsName.l0 k x0 x6 (wrap64 (x7 + 1))))))) else (none)) else (none)) else ((impl_within.f (x0.size : Int) 1 8).bind fun t302 => (some t302))
def impl_IsName.f (k : Nat) (a0 : ByteArray) : Option (Bool) := impl_IsName.l0 k a0 (a0.size : Int) 0
theorem impl_IsName.calls (k : Nat) (a0 : ByteArray) (r : Bool) (w : World) (h : impl_IsName.f k a0 = some r) :
  Calls Try.prog 184 #[.string a0] w fun e w' => e = .returned (.bool r) ∧ Drawn0 w w' := by
 have H : (impl_IsName.l0 k a0 (a0.size : Int) 0) = some r := h
 clear h
 have H' := dk H
 clear H
 go_enter Try.func184, Try.ntmps184
 go_wp2
 go_loopg [7] k (fun kq v7 w' => ∃ (x7_1 : Int), v7 = .int .i64 x7_1 ∧ Aside0 (impl_IsName.l0 kq a0 (a0.size : Int) x7_1 = some r) ∧ Aside0 (kq ≤ k) ∧ Drawn0 w w')
 case atStart => exact ⟨(0), e2_, H', ⟨Nat.le_refl _⟩, by repeat (first | exact Drawn0.refl _ | apply Drawn0.step)⟩
 case round =>
  clear H'
  (try clear c1)
  obtain ⟨x7_1, rfl, HA, HK1, ⟨m1, rfl⟩⟩ := hrel
  cases gk with
  | zero => exact absurd HA.out (by simp [impl_IsName.l0])
  | succ k1 =>
   have H := HA.out
   clear HA
   simp only [impl_IsName.l0] at H
   by_cases c2 : x7_1 < (a0.size : Int)
   ·rw [if_pos c2] at H
    have c2b0 : decide (x7_1 < (a0.size : Int)) = true := decide_eq_true c2
    clear c2
    by_cases c3 : 0 ≤ x7_1
    ·rw [if_pos c3] at H
     have c3b0 : decide (0 ≤ x7_1) = true := decide_eq_true c3
     clear c3
     by_cases c4 : x7_1 < (a0.size : Int)
     ·rw [if_pos c4] at H
      have c4b0 : decide (x7_1 < (a0.size : Int)) = true := decide_eq_true c4
      clear c4
      by_cases c6 : (bt a0 x7_1) ≥ 97
      ·rw [if_pos c6] at H
       have c6b0 : decide (97 ≤ (bt a0 x7_1)) = true := decide_eq_true c6
       clear c6
       by_cases c8 : ((bt a0 x7_1) ≤ 122)
       ·rw [if_pos c8] at H
        have c8b0 : decide ((bt a0 x7_1) ≤ 122) = true := decide_eq_true c8
        clear c8
        have H' := dk H
        clear H
        have p5 : 0 ≤ (x7_1 : Int) := oa
        have q5 : x7_1 < (a0.size : Int) := oa
        have hx5 := bt_at a0 x7_1
        replace p5 := eq_true p5
        replace q5 := eq_true q5
        have p7 : 0 ≤ (x7_1 : Int) := oa
        have q7 : x7_1 < (a0.size : Int) := oa
        have hx7 := bt_at a0 x7_1
        replace p7 := eq_true p7
        replace q7 := eq_true q7
        go_wp2
        go_roundg k1
        case measure => have := HK1.out; omega
        case rel => exact ⟨(wrap64 (x7_1 + 1)), e2_, H', ⟨by have := HK1.out; omega⟩, by repeat (first | exact Drawn0.refl _ | apply Drawn0.step)⟩
       ·rw [if_neg c8] at H
        have c8b0 : decide ((bt a0 x7_1) ≤ 122) = false := decide_eq_false c8
        clear c8
        by_cases c9 : x7_1 = 0
        ·rw [if_pos c9] at H
         have c9b0 : (x7_1 == 0) = true := beq_iff_eq.mpr c9
         have c9b1 : (x7_1 != 0) = false := bne_eq_false_iff_eq.mpr c9
         clear c9
         obtain rfl := Option.some.inj H
         have p5 : 0 ≤ (x7_1 : Int) := oa
         have q5 : x7_1 < (a0.size : Int) := oa
         have hx5 := bt_at a0 x7_1
         replace p5 := eq_true p5
         replace q5 := eq_true q5
         have p7 : 0 ≤ (x7_1 : Int) := oa
         have q7 : x7_1 < (a0.size : Int) := oa
         have hx7 := bt_at a0 x7_1
         replace p7 := eq_true p7
         replace q7 := eq_true q7
         go_wp2
         go_ret
         exact ⟨e2_, by repeat (first | exact Drawn0.refl _ | apply Drawn0.step)⟩
        ·rw [if_neg c9] at H
         have c9b0 : (x7_1 == 0) = false := beq_eq_false_iff_ne.mpr c9
         have c9b1 : (x7_1 != 0) = true := bne_iff_ne.mpr c9
         by_cases c11 : (bt a0 x7_1) < 48
         ·rw [if_pos c11] at H
          have c11b0 : decide ((bt a0 x7_1) < 48) = true := decide_eq_true c11
          clear c11
          obtain rfl := Option.some.inj H
          have p5 : 0 ≤ (x7_1 : Int) := oa
          have q5 : x7_1 < (a0.size : Int) := oa
          have hx5 := bt_at a0 x7_1
          replace p5 := eq_true p5
          replace q5 := eq_true q5
          have p7 : 0 ≤ (x7_1 : Int) := oa
          have q7 : x7_1 < (a0.size : Int) := oa
          have hx7 := bt_at a0 x7_1
          replace p7 := eq_true p7
          replace q7 := eq_true q7
          have p10 : 0 ≤ (x7_1 : Int) := oa
          have q10 : x7_1 < (a0.size : Int) := oa
          have hx10 := bt_at a0 x7_1
          replace p10 := eq_true p10
          replace q10 := eq_true q10
          go_wp2
          go_ret
          exact ⟨e2_, by repeat (first | exact Drawn0.refl _ | apply Drawn0.step)⟩
         ·rw [if_neg c11] at H
          have c11b0 : decide ((bt a0 x7_1) < 48) = false := decide_eq_false c11
          clear c11
          by_cases c13 : (bt a0 x7_1) > 57
          ·rw [if_pos c13] at H
           have c13b0 : decide (57 < (bt a0 x7_1)) = true := decide_eq_true c13
           clear c13
           obtain rfl := Option.some.inj H
           have p5 : 0 ≤ (x7_1 : Int) := oa
           have q5 : x7_1 < (a0.size : Int) := oa
           have hx5 := bt_at a0 x7_1
           replace p5 := eq_true p5
           replace q5 := eq_true q5
           have p7 : 0 ≤ (x7_1 : Int) := oa
           have q7 : x7_1 < (a0.size : Int) := oa
           have hx7 := bt_at a0 x7_1
           replace p7 := eq_true p7
           replace q7 := eq_true q7
           have p10 : 0 ≤ (x7_1 : Int) := oa
           have q10 : x7_1 < (a0.size : Int) := oa
           have hx10 := bt_at a0 x7_1
           replace p10 := eq_true p10
           replace q10 := eq_true q10
           have p12 : 0 ≤ (x7_1 : Int) := oa
           have q12 : x7_1 < (a0.size : Int) := oa
           have hx12 := bt_at a0 x7_1
           replace p12 := eq_true p12
           replace q12 := eq_true q12
           go_wp2
           go_ret
           exact ⟨e2_, by repeat (first | exact Drawn0.refl _ | apply Drawn0.step)⟩
          ·rw [if_neg c13] at H
           have c13b0 : decide (57 < (bt a0 x7_1)) = false := decide_eq_false c13
           clear c13
           have H' := dk H
           clear H
           have p5 : 0 ≤ (x7_1 : Int) := oa
           have q5 : x7_1 < (a0.size : Int) := oa
           have hx5 := bt_at a0 x7_1
           replace p5 := eq_true p5
           replace q5 := eq_true q5
           have p7 : 0 ≤ (x7_1 : Int) := oa
           have q7 : x7_1 < (a0.size : Int) := oa
           have hx7 := bt_at a0 x7_1
           replace p7 := eq_true p7
           replace q7 := eq_true q7
           have p10 : 0 ≤ (x7_1 : Int) := oa
           have q10 : x7_1 < (a0.size : Int) := oa
           have hx10 := bt_at a0 x7_1
           replace p10 := eq_true p10
           replace q10 := eq_true q10
           have p12 : 0 ≤ (x7_1 : Int) := oa
           have q12 : x7_1 < (a0.size : Int) := oa
           have hx12 := bt_at a0 x7_1
           replace p12 := eq_true p12
           replace q12 := eq_true q12
           go_wp2
           go_roundg k1
           case measure => have := HK1.out; omega
           case rel => exact ⟨(wrap64 (x7_1 + 1)), e2_, H', ⟨by have := HK1.out; omega⟩, by repeat (first | exact Drawn0.refl _ | apply Drawn0.step)⟩
      ·rw [if_neg c6] at H
       have c6b0 : decide (97 ≤ (bt a0 x7_1)) = false := decide_eq_false c6
       clear c6
       by_cases c14 : x7_1 = 0
       ·rw [if_pos c14] at H
        have c14b0 : (x7_1 == 0) = true := beq_iff_eq.mpr c14
        have c14b1 : (x7_1 != 0) = false := bne_eq_false_iff_eq.mpr c14
        clear c14
        obtain rfl := Option.some.inj H
        have p5 : 0 ≤ (x7_1 : Int) := oa
        have q5 : x7_1 < (a0.size : Int) := oa
        have hx5 := bt_at a0 x7_1
        replace p5 := eq_true p5
        replace q5 := eq_true q5
        go_wp2
        go_ret
        exact ⟨e2_, by repeat (first | exact Drawn0.refl _ | apply Drawn0.step)⟩
       ·rw [if_neg c14] at H
        have c14b0 : (x7_1 == 0) = false := beq_eq_false_iff_ne.mpr c14
        have c14b1 : (x7_1 != 0) = true := bne_iff_ne.mpr c14
        by_cases c16 : (bt a0 x7_1) < 48
        ·rw [if_pos c16] at H
         have c16b0 : decide ((bt a0 x7_1) < 48) = true := decide_eq_true c16
         clear c16
         obtain rfl := Option.some.inj H
         have p5 : 0 ≤ (x7_1 : Int) := oa
         have q5 : x7_1 < (a0.size : Int) := oa
         have hx5 := bt_at a0 x7_1
         replace p5 := eq_true p5
         replace q5 := eq_true q5
         have p15 : 0 ≤ (x7_1 : Int) := oa
         have q15 : x7_1 < (a0.size : Int) := oa
         have hx15 := bt_at a0 x7_1
         replace p15 := eq_true p15
         replace q15 := eq_true q15
         go_wp2
         go_ret
         exact ⟨e2_, by repeat (first | exact Drawn0.refl _ | apply Drawn0.step)⟩
        ·rw [if_neg c16] at H
         have c16b0 : decide ((bt a0 x7_1) < 48) = false := decide_eq_false c16
         clear c16
         by_cases c18 : (bt a0 x7_1) > 57
         ·rw [if_pos c18] at H
          have c18b0 : decide (57 < (bt a0 x7_1)) = true := decide_eq_true c18
          clear c18
          obtain rfl := Option.some.inj H
          have p5 : 0 ≤ (x7_1 : Int) := oa
          have q5 : x7_1 < (a0.size : Int) := oa
          have hx5 := bt_at a0 x7_1
          replace p5 := eq_true p5
          replace q5 := eq_true q5
          have p15 : 0 ≤ (x7_1 : Int) := oa
          have q15 : x7_1 < (a0.size : Int) := oa
          have hx15 := bt_at a0 x7_1
          replace p15 := eq_true p15
          replace q15 := eq_true q15
          have p17 : 0 ≤ (x7_1 : Int) := oa
          have q17 : x7_1 < (a0.size : Int) := oa
          have hx17 := bt_at a0 x7_1
          replace p17 := eq_true p17
          replace q17 := eq_true q17
          go_wp2
          go_ret
          exact ⟨e2_, by repeat (first | exact Drawn0.refl _ | apply Drawn0.step)⟩
         ·rw [if_neg c18] at H
          have c18b0 : decide (57 < (bt a0 x7_1)) = false := decide_eq_false c18
          clear c18
          have H' := dk H
          clear H
          have p5 : 0 ≤ (x7_1 : Int) := oa
          have q5 : x7_1 < (a0.size : Int) := oa
          have hx5 := bt_at a0 x7_1
          replace p5 := eq_true p5
          replace q5 := eq_true q5
          have p15 : 0 ≤ (x7_1 : Int) := oa
          have q15 : x7_1 < (a0.size : Int) := oa
          have hx15 := bt_at a0 x7_1
          replace p15 := eq_true p15
          replace q15 := eq_true q15
          have p17 : 0 ≤ (x7_1 : Int) := oa
          have q17 : x7_1 < (a0.size : Int) := oa
          have hx17 := bt_at a0 x7_1
          replace p17 := eq_true p17
          replace q17 := eq_true q17
          go_wp2
          go_roundg k1
          case measure => have := HK1.out; omega
          case rel => exact ⟨(wrap64 (x7_1 + 1)), e2_, H', ⟨by have := HK1.out; omega⟩, by repeat (first | exact Drawn0.refl _ | apply Drawn0.step)⟩
     ·rw [if_neg c4] at H
      exact absurd H (by simp)
    ·rw [if_neg c3] at H
     exact absurd H (by simp)
   ·rw [if_neg c2] at H
    have c2b0 : decide (x7_1 < (a0.size : Int)) = false := decide_eq_false c2
    clear c2
    replace H := Option.bind_eq_some_iff.mp H
    obtain ⟨t302, A190, H⟩ := H
    try dsimp only at H
    have A19 := dk A190
    clear A190
    obtain rfl := Option.some.inj H
    go_wp2_with (first | ((with_reducible refine gate_callee (f := 128) rfl ?_); refine gl (some 41) Try.func128 #[.int .i64 (a0.size : Int), .int .i64 1, .int .i64 8] ?_; (with_reducible refine (impl_within.calls (a0.size : Int) 1 8 t302 _ A19.out).mono ?_); rintro e w' ⟨rfl, ⟨nd, rfl⟩⟩; refine ⟨_, rfl, ?_⟩))
    go_ret
    exact ⟨e2_, by repeat (first | exact Drawn0.refl _ | apply Drawn0.step)⟩
def impl_TeamOk.f (k : Nat) (a0_0 : ByteArray) (a0_1 : Int) (a0_2 : Int) : Option (Bool) := (impl_IsName.f k a0_0).bind fun t304 => (if t304 = true then ((impl_within.f a0_1 0 5).bind fun t305 => (if t305 = true then ((impl_within.f a0_2 1 8).bind fun t306 => (some t306)) else (some false))) else (some false))
theorem impl_TeamOk.calls (k : Nat) (a0_0 : ByteArray) (a0_1 : Int) (a0_2 : Int) (r : Bool) (w : World) (h : impl_TeamOk.f k a0_0 a0_1 a0_2 = some r) :
  Calls Try.prog 160 #[.agg #[.string a0_0, .int .i64 a0_1, .int .i64 a0_2]] w fun e w' => e = .returned (.bool r) ∧ Below w.heap.size w w' := by
 have hu139 := Try.underlying139
 have HB := dk (Below.refl w.heap.size w)
 have H : ((impl_IsName.f k a0_0).bind fun t304 => (if t304 = true then ((impl_within.f a0_1 0 5).bind fun t305 => (if t305 = true then ((impl_within.f a0_2 1 8).bind fun t306 => (some t306)) else (some false))) else (some false))) = some r := h
 clear h
 replace H := Option.bind_eq_some_iff.mp H
 obtain ⟨t304, A20, H⟩ := H
 try dsimp only at H
 have A2 := dk A20
 clear A20
 by_cases c3 : t304 = true
 ·subst c3
  rw [if_pos rfl] at H
  replace H := Option.bind_eq_some_iff.mp H
  obtain ⟨t305, A40, H⟩ := H
  try dsimp only at H
  have A4 := dk A40
  clear A40
  by_cases c5 : t305 = true
  ·subst c5
   rw [if_pos rfl] at H
   replace H := Option.bind_eq_some_iff.mp H
   obtain ⟨t306, A60, H⟩ := H
   try dsimp only at H
   have A6 := dk A60
   clear A60
   obtain rfl := Option.some.inj H
   go_enter Try.func160, Try.ntmps160
   go_wp2_with (first | ((with_reducible refine gate_dst (N := 1) rfl ?_); refine bx (N := 1) (cs := #[.string a0_0, .int .i64 a0_1, .int .i64 a0_2]) (t := 139) ?_; intro gb303 hg w7 hbox hb; have BK303 := dk (hbox); have GW303 := gs hg HB; have GE303 := gs hg HB; replace HB := hs_ HB hb; clear hb hbox hg; have ⟨z8_0, z8_1, z8_2, v8_0, v8_1, v8_2⟩ := rz3 BK303) | ((with_reducible refine gate_callee (f := 184) rfl ?_); refine gl (some 5) Try.func184 #[.string a0_0] ?_; (with_reducible refine (impl_IsName.calls k a0_0 true _ A2.out).mono ?_); rintro e w' ⟨rfl, ⟨nd, rfl⟩⟩; refine ⟨_, rfl, ?_⟩) | (go_at_call 128; (with_reducible refine (impl_within.calls a0_1 0 5 true _ A4.out).mono ?_); rintro e w' ⟨rfl, ⟨nd, rfl⟩⟩) | (go_at_call 128; (with_reducible refine (impl_within.calls a0_2 1 8 t306 _ A6.out).mono ?_); rintro e w' ⟨rfl, ⟨nd, rfl⟩⟩))
   go_ret
   exact ⟨ee, bb HB⟩
  ·replace c5 := Bool.eq_false_iff.mpr c5
   subst c5
   rw [if_neg (show ¬ (false = true) by decide)] at H
   obtain rfl := Option.some.inj H
   go_enter Try.func160, Try.ntmps160
   go_wp2_with (first | ((with_reducible refine gate_dst (N := 1) rfl ?_); refine bx (N := 1) (cs := #[.string a0_0, .int .i64 a0_1, .int .i64 a0_2]) (t := 139) ?_; intro gb303 hg w9 hbox hb; have BK303 := dk (hbox); have GW303 := gs hg HB; have GE303 := gs hg HB; replace HB := hs_ HB hb; clear hb hbox hg; have ⟨z10_0, z10_1, z10_2, v10_0, v10_1, v10_2⟩ := rz3 BK303) | ((with_reducible refine gate_callee (f := 184) rfl ?_); refine gl (some 5) Try.func184 #[.string a0_0] ?_; (with_reducible refine (impl_IsName.calls k a0_0 true _ A2.out).mono ?_); rintro e w' ⟨rfl, ⟨nd, rfl⟩⟩; refine ⟨_, rfl, ?_⟩) | (go_at_call 128; (with_reducible refine (impl_within.calls a0_1 0 5 false _ A4.out).mono ?_); rintro e w' ⟨rfl, ⟨nd, rfl⟩⟩))
   go_ret
   exact ⟨ee, bb HB⟩
 ·replace c3 := Bool.eq_false_iff.mpr c3
  subst c3
  rw [if_neg (show ¬ (false = true) by decide)] at H
  obtain rfl := Option.some.inj H
  go_enter Try.func160, Try.ntmps160
  go_wp2_with (first | ((with_reducible refine gate_dst (N := 1) rfl ?_); refine bx (N := 1) (cs := #[.string a0_0, .int .i64 a0_1, .int .i64 a0_2]) (t := 139) ?_; intro gb303 hg w11 hbox hb; have BK303 := dk (hbox); have GW303 := gs hg HB; have GE303 := gs hg HB; replace HB := hs_ HB hb; clear hb hbox hg; have ⟨z12_0, z12_1, z12_2, v12_0, v12_1, v12_2⟩ := rz3 BK303) | ((with_reducible refine gate_callee (f := 184) rfl ?_); refine gl (some 5) Try.func184 #[.string a0_0] ?_; (with_reducible refine (impl_IsName.calls k a0_0 false _ A2.out).mono ?_); rintro e w' ⟨rfl, ⟨nd, rfl⟩⟩; refine ⟨_, rfl, ?_⟩))
  go_ret
  exact ⟨ee, bb HB⟩
set_option maxHeartbeats 4000000 in
theorem slices_IndexFunc_impl_Team_impl_Team.calls (g : Nat) (lb : Array Value) (eg : ∀ args w, (callFunc g args).run Try.prog w = .ok (.enter g args) w) (p : S139 → Bool) (A0 : Option Addr) (c0 n0 : Nat) (l0 : List (S139)) (w0 w : World) (hB : Below w0.heap.size w0 w) (hr0 : Kd.C k139 w0 A0 n0 l0)
    (hp : ∀ (W : World) (x : S139), Below w.heap.size w W → x ∈ l0 → Calls Try.prog g (#[.agg #[.string x.f0, .int .i64 x.f1, .int .i64 x.f2]] ++ lb) W fun e w' => e = .returned (.bool (p x)) ∧ Below W.heap.size W w') :
    Calls Try.prog 185 #[.slice A0 n0 c0, .func (.func g) #[] lb] w fun e w' => e = .returned (.int .i64 (idxI p l0)) ∧ Below w.heap.size w w' := by
  obtain rfl := Kd.C_len hr0
  have hm : l0.length ≤ 9223372036854775807 := hr0.2.1
  have HR0 := dk hr0
  have HP := dk hp
  have HW := dk hB.size
  have HB0 := dk hB
  clear hr0 hp hB
  go_enter Try.func185, Try.ntmps185
  go_wp2
  go_loopg [5, 8] l0.length (fun gg _ s8 wr => ∃ kk : Nat, kk ≤ l0.length ∧ l0.length - kk ≤ gg ∧ s8 = .int .i64 kk ∧ Aside0 (Below w.heap.size w wr) ∧ Aside0 (∀ j, j < kk → p (rd_T139 l0 j) = false))
  case atStart => exact ⟨0, Nat.zero_le _, by omega, rfl, ⟨Below.refl _ w⟩, ⟨fun j hj => absurd hj (Nat.not_lt_zero _)⟩⟩
  case round =>
    obtain ⟨kk, hkk, hg, rfl, BW, HA⟩ := hrel
    by_cases hlt : kk < l0.length
    · have hltz : (kk : Int) < (l0.length : Int) := by omega
      obtain ⟨ad, ead, h0, h1, h2⟩ := at_T139 HR0.out kk (by omega) hltz
      subst ead
      have hb1 : Below w0.heap.size w0 wr := below_then HB0.out HW.out BW.out
      have hcall := HP.out wr (rd_T139 l0 kk) BW.out (by unfold rd_T139; simp [hlt])
      replace h0 := pw_cell_below hb1 h0
      replace h1 := pw_cell_below hb1 h1
      replace h2 := pw_cell_below hb1 h2
      simp only [Int.toNat_natCast] at h0 h1 h2
      have HB1 := dk hb1
      clear hb1
      generalize hy : rd_T139 l0 kk = y at h0 h1 h2 hcall
      have B := dk hy
      clear hy
      cases hq : p y with
      | true =>
        rw [hq] at hcall
        have Q := dk hq
        have HC := dk hcall
        clear hq hcall
        go_wp2_with fail
        refine HC.out.mono ?_
        rintro e w' ⟨rfl, hb'⟩
        go_wp2_with fail
        go_ret
        refine ⟨?_, below_step BW.out hb'⟩
        rw [idxI_hit p l0 kk hlt z139 (by have := B.out; unfold rd_T139 at this; simp only [Int.toNat_natCast] at this; rw [this]; exact Q.out) (fun j hj => by have := HA.out j hj; unfold rd_T139 at this; simpa using this)]
        rfl
      | false =>
        rw [hq] at hcall
        have Q := dk hq
        have HC := dk hcall
        clear hq hcall
        go_wp2_with fail
        refine HC.out.mono ?_
        rintro e w' ⟨rfl, hb'⟩
        go_wp2_with fail
        go_roundg (l0.length - (kk + 1))
        case measure => omega
        case rel =>
          refine ⟨kk + 1, by omega, by omega, by go_num, ⟨below_step BW.out hb'⟩, ⟨fun j hj => ?_⟩⟩
          by_cases e : j = kk
          · subst e
            rw [B.out]; exact Q.out
          · exact HA.out j (by omega)
    · have hltz : ¬ (kk : Int) < (l0.length : Int) := by omega
      have hd : decide ((kk : Int) < (l0.length : Int)) = false := by simp; omega
      have hd2 : decide (kk < l0.length) = false := by simp; omega
      have hk := dk (show kk = l0.length by omega)
      clear hlt hltz hg
      go_wp2_with fail
      go_ret
      obtain rfl := hk.out
      refine ⟨?_, BW.out⟩
      rw [idxI_miss p l0 z139 (fun j hj => by have := HA.out j hj; unfold rd_T139 at this; simpa using this)]
      rfl
set_option maxHeartbeats 4000000 in
theorem slices_ContainsFunc_impl_Team_impl_Team.calls (g : Nat) (lb : Array Value) (eg : ∀ args w, (callFunc g args).run Try.prog w = .ok (.enter g args) w) (p : S139 → Bool) (A0 : Option Addr) (c0 n0 : Nat) (l0 : List (S139)) (w0 w : World) (hB : Below w0.heap.size w0 w) (hr0 : Kd.C k139 w0 A0 n0 l0)
    (hp : ∀ (W : World) (x : S139), Below w.heap.size w W → x ∈ l0 → Calls Try.prog g (#[.agg #[.string x.f0, .int .i64 x.f1, .int .i64 x.f2]] ++ lb) W fun e w' => e = .returned (.bool (p x)) ∧ Below W.heap.size W w') :
    Calls Try.prog 161 #[.slice A0 n0 c0, .func (.func g) #[] lb] w fun e w' => e = .returned (.bool (l0.any p)) ∧ Below w.heap.size w w' := by
  rw [← idxI_any p l0]
  have HC := dk (slices_IndexFunc_impl_Team_impl_Team.calls g lb eg p A0 c0 n0 l0 w0 w hB hr0 hp)
  clear hr0 hp hB eg
  generalize hy : idxI p l0 = y at HC
  have HY := dk hy
  clear hy
  go_enter Try.func161, Try.ntmps161
  go_wp2_with fail
  refine HC.out.mono ?_
  rintro e w' ⟨rfl, hb'⟩
  go_wp2_with fail
  go_ret
  exact ⟨rfl, hb'⟩
def withinB (a lo hi : Int) : Bool := decide (lo ≤ a) && decide (a ≤ hi)
theorem within_eq (a lo hi : Int) : impl_within.f a lo hi = some (withinB a lo hi) := by
  unfold impl_within.f withinB
  by_cases h : lo ≤ a <;> simp [h]
def nameAt (i c : Int) : Bool := (decide (97 ≤ c) && decide (c ≤ 122)) || (!(decide (i = 0)) && decide (48 ≤ c) && decide (c ≤ 57))
def nameFrom (s : ByteArray) (i : Nat) : Bool := (List.range (s.size - i)).all fun j => nameAt (i + j : Nat) (bt s ((i + j : Nat) : Int))
def isNameB (s : ByteArray) : Bool := nameFrom s 0 && withinB s.size 1 8
theorem nameFrom_end (s : ByteArray) (i : Nat) (h : s.size ≤ i) : nameFrom s i = true := by
  unfold nameFrom; rw [show s.size - i = 0 by omega]; rfl
theorem nameFrom_step (s : ByteArray) (i : Nat) (h : i < s.size) : nameFrom s i = (nameAt i (bt s i) && nameFrom s (i + 1)) := by
  unfold nameFrom
  obtain ⟨d, hd⟩ : ∃ d, s.size - i = d + 1 := ⟨s.size - i - 1, by omega⟩
  rw [hd, show s.size - (i + 1) = d by omega, List.range_succ_eq_map, List.all_cons, List.all_map]
  congr 1
  congr 1
  funext j
  simp only [Function.comp, Nat.succ_eq_add_one]
  rw [show i + (j + 1) = i + 1 + j by omega]
theorem isName_loop (s : ByteArray) (hs : s.size ≤ 4611686018427387904) (d : Nat) : ∀ (k i : Nat), s.size - i = d → i ≤ s.size → d < k → impl_IsName.l0 k s s.size i = some (nameFrom s i && withinB s.size 1 8) := by
  induction d with
  | zero =>
    intro k i hd hi hk
    obtain ⟨k, rfl⟩ : ∃ m, k = m + 1 := ⟨k - 1, by omega⟩
    simp only [impl_IsName.l0]
    rw [if_neg (by omega), within_eq, nameFrom_end s i (by omega)]
    simp
  | succ d ih =>
    intro k i hd hi hk
    obtain ⟨k, rfl⟩ : ∃ m, k = m + 1 := ⟨k - 1, by omega⟩
    have hlt : i < s.size := by omega
    have hw : wrap64 ((i : Int) + 1) = ((i + 1 : Nat) : Int) := by unfold wrap64; omega
    have h := ih k (i + 1) (by omega) (by omega) (by omega)
    simp only [impl_IsName.l0]
    rw [if_pos (show (i : Int) < s.size by omega), if_pos (show 0 ≤ (i : Int) by omega), if_pos (show (i : Int) < s.size by omega), hw, h, nameFrom_step s i hlt]
    unfold nameAt
    generalize bt s i = c
    rw [Bool.and_assoc]
    generalize (nameFrom s (i + 1) && withinB s.size 1 8) = z
    grind
theorem isName_eq (s : ByteArray) (hs : s.size ≤ 4611686018427387904) (k : Nat) (hk : s.size < k) : impl_IsName.f k s = some (isNameB s) := by
  unfold impl_IsName.f
  have := isName_loop s hs s.size k 0 (by omega) (by omega) hk
  simpa [isNameB] using this
def teamOkB (t : S139) : Bool := isNameB t.f0 && withinB t.f1 0 5 && withinB t.f2 1 8
theorem teamOk_eq (t : S139) (hs : t.f0.size ≤ 4611686018427387904) (k : Nat) (hk : t.f0.size < k) : impl_TeamOk.f k t.f0 t.f1 t.f2 = some (teamOkB t) := by
  unfold impl_TeamOk.f teamOkB
  rw [isName_eq _ hs k hk]
  simp only [Option.bind_some, within_eq]
  cases isNameB t.f0 <;> cases withinB t.f1 0 5 <;> simp
def teamClash (t x : S139) : Bool := (x.f0.toList == t.f0.toList) || (x.f2 == t.f2)
def fieldFrom : List (S139) → List (S139) → Bool
  | _, [] => true
  | pre, t :: l => teamOkB t && !pre.any (teamClash t) && fieldFrom (pre ++ [t]) l
def fieldOkB (l : List (S139)) : Bool := fieldFrom [] l && withinB l.length 2 8
def impl_FieldOk.f (l0 : List (S139)) : Option Bool := if l0.all (fun t => decide (t.f0.size ≤ 4611686018427387904)) then some (fieldOkB l0) else none
set_option maxHeartbeats 4000000 in
theorem impl_FieldOk_1.calls (gb : Nat) (t x : S139) (W : World) (hb : W.heap[gb]? = some (.cells #[.string t.f0, .int .i64 t.f1, .int .i64 t.f2] 139 (0, 0))) :
    Calls Try.prog 162 #[.agg #[.string x.f0, .int .i64 x.f1, .int .i64 x.f2], .pointer (some ⟨gb, 0, none⟩)] W fun e w' => e = .returned (.bool (teamClash t x)) ∧ Below W.heap.size W w' := by
  have h0 : W.cell? ⟨gb, 0, none⟩ = some (.string t.f0) := (blk_cell hb 0).trans rfl
  have h2 : W.cell? ⟨gb, 2, none⟩ = some (.int .i64 t.f2) := (blk_cell hb 2).trans rfl
  have hlt : gb < W.heap.size := blk_lt hb
  clear hb
  have hT : ∀ b, teamClash t x = b → ((x.f0.toList == t.f0.toList) || (x.f2 == t.f2)) = b := fun b h => h
  generalize teamClash t x = b at hT
  have HT := dk (hT b rfl)
  clear hT
  cases h3 : x.f0.toList == t.f0.toList with
  | true =>
    have hb : b = true := by rw [← HT.out, h3]; rfl
    subst hb
    clear HT
    go_enter Try.func162, Try.ntmps162
    go_wp2
    go_ret
    exact ⟨rfl, below_alloc (Below.refl _ _) _⟩
  | false =>
    have hb : b = (x.f2 == t.f2) := by rw [← HT.out, h3]; rfl
    subst hb
    clear HT
    go_enter Try.func162, Try.ntmps162
    go_wp2
    go_ret
    exact ⟨rfl, below_alloc (Below.refl _ _) _⟩
set_option maxHeartbeats 4000000 in
theorem impl_FieldOk.calls (A0 : Option Addr) (c0 : Nat) (l0 : List (S139)) (r : Bool) (w : World) (hr0 : Kd.C k139 w A0 l0.length l0) (hc0 : l0.length ≤ c0) (h : impl_FieldOk.f l0 = some r) :
    Calls Try.prog 122 #[.slice A0 l0.length c0] w fun e w' => e = .returned (.bool r) ∧ Below w.heap.size w w' := by
  unfold impl_FieldOk.f at h
  by_cases hz : l0.all (fun t => decide (t.f0.size ≤ 4611686018427387904)) = true
  · rw [if_pos hz] at h
    have HZ := dk hz
    clear hz
    have HR := dk (Option.some.inj h)
    clear h
    have hm : l0.length ≤ 9223372036854775807 := hr0.2.1
    have HR0 := dk hr0
    have HC0 := dk hc0
    clear hr0 hc0
    have eg := my_enters Try.func162 (by kernel_rfl) rfl
    go_enter Try.func122, Try.ntmps122
    go_wp2
    go_loopg [3, 7] l0.length (fun gg _ s7 wr => ∃ kk : Nat, kk ≤ l0.length ∧ l0.length - kk ≤ gg ∧ s7 = .int .i64 kk ∧ Aside0 (Below w.heap.size w wr) ∧ Aside0 (fieldFrom (l0.take kk) (l0.drop kk) = fieldFrom [] l0))
    case atStart => exact ⟨0, Nat.zero_le _, by omega, rfl, ⟨Below.refl _ w⟩, ⟨by simp⟩⟩
    case round =>
      obtain ⟨kk, hkk, hg, rfl, BW, HA⟩ := hrel
      by_cases hlt : kk < l0.length
      · have hltz : (kk : Int) < (l0.length : Int) := by omega
        obtain ⟨ad, ead, h0, h1, h2⟩ := at_T139 HR0.out kk (by omega) hltz
        subst ead
        replace h0 := pw_cell_below BW.out h0
        replace h1 := pw_cell_below BW.out h1
        replace h2 := pw_cell_below BW.out h2
        simp only [Int.toNat_natCast] at h0 h1 h2
        have hd : l0.drop kk = rd_T139 l0 kk :: l0.drop (kk + 1) := by
          unfold rd_T139
          simp only [Int.toNat_natCast]
          rw [List.drop_eq_getElem_cons hlt]
          simp [hlt]
        have ht : l0.take kk ++ [rd_T139 l0 kk] = l0.take (kk + 1) := by
          unfold rd_T139
          simp only [Int.toNat_natCast]
          rw [List.take_succ_eq_append_getElem hlt]
          simp [hlt]
        have hsz : (rd_T139 l0 kk).f0.size ≤ 4611686018427387904 := by
          have := List.all_eq_true.mp HZ.out (rd_T139 l0 kk) (by unfold rd_T139; simp [hlt])
          simpa using this
        have HA1 := dk (show fieldFrom (l0.take kk) (l0.drop kk) = (teamOkB (rd_T139 l0 kk) && !(l0.take kk).any (teamClash (rd_T139 l0 kk)) && fieldFrom (l0.take (kk + 1)) (l0.drop (kk + 1))) by rw [hd, fieldFrom, ht])
        have HT := dk (teamOk_eq (rd_T139 l0 kk) hsz ((rd_T139 l0 kk).f0.size + 1) (by omega))
        clear hd ht hsz
        generalize rd_T139 l0 kk = t at h0 h1 h2 HA1 HT
        have hkc : kk ≤ c0 := by have := HC0.out; omega
        go_wp2_with fail
        refine (impl_TeamOk.calls _ _ _ _ _ _ HT.out).mono ?_
        rintro e w1 ⟨rfl, hb1⟩
        have hbox := hb1.block wr.heap.size (by simp)
        have hbx := my_blk_new wr (Obj.cells #[Value.string t.f0, Value.int IntKind.i64 t.f1, Value.int IntKind.i64 t.f2] 139 (0, 0))
        have HBX := dk (hbox.trans hbx)
        have HB1 := dk (below_step (below_alloc (Below.refl wr.heap.size wr) _) hb1)
        clear hbox hbx hb1
        cases hq : teamOkB t with
        | false =>
          have HQ := dk hq
          have HF : Aside0 (fieldOkB l0 = false) := ⟨by unfold fieldOkB; rw [← HA.out, HA1.out, hq]; simp⟩
          clear hq
          go_wp2_with fail
          go_ret
          exact ⟨by rw [← HR.out, HF.out]; rfl, below_step BW.out HB1.out⟩
        | true =>
          have HQ := dk hq
          clear hq
          have HG := dk eg
          clear eg
          go_wp2_with fail
          refine ((slices_ContainsFunc_impl_Team_impl_Team.calls 162 #[.pointer (some ⟨wr.heap.size, 0, none⟩)] HG.out (teamClash t) (some ad) c0 kk (l0.take kk) w w1 (below_step BW.out HB1.out) (Kd.C_take' HR0.out kk hkk) (fun W x hW _ => impl_FieldOk_1.calls wr.heap.size t x W ((hW.block _ (blk_lt HBX.out)).trans HBX.out))).mono ?_)
          rintro e w2 ⟨rfl, hb2⟩
          have HB2 := dk (below_step HB1.out hb2)
          clear hb2
          cases hc : (l0.take kk).any (teamClash t) with
          | true =>
            have HF : Aside0 (fieldOkB l0 = false) := ⟨by unfold fieldOkB; rw [← HA.out, HA1.out, hc]; simp⟩
            clear hc
            go_wp2_with fail
            go_ret
            exact ⟨by rw [← HR.out, HF.out]; rfl, below_step BW.out HB2.out⟩
          | false =>
            have HA2 : Aside0 (fieldFrom (l0.take (kk + 1)) (l0.drop (kk + 1)) = fieldFrom [] l0) := ⟨by rw [← HA.out, HA1.out, hc, HQ.out]; simp⟩
            have HE := dk HG.out
            clear hc
            go_wp2_with fail
            go_roundg (l0.length - (kk + 1))
            case measure => omega
            case rel => exact ⟨kk + 1, by omega, by omega, by go_num, ⟨below_step BW.out HB2.out⟩, HA2⟩
      · have hd : decide ((kk : Int) < (l0.length : Int)) = false := by simp; omega
        have hd2 : decide (kk < l0.length) = false := by simp; omega
        have hk := dk (show kk = l0.length by omega)
        clear hlt hg
        have HW := dk (within_eq l0.length 2 8)
        go_wp2_with fail
        refine (impl_within.calls _ _ _ _ _ HW.out).mono ?_
        rintro e w' ⟨rfl, ⟨nd, rfl⟩⟩
        go_wp2_with fail
        go_ret
        refine ⟨?_, pw_below_drewN BW.out _⟩
        have h1 := HA.out
        rw [hk.out, List.drop_length, fieldFrom] at h1
        rw [← HR.out, fieldOkB, ← h1]
        rfl
  · rw [if_neg hz] at h
    cases h
def slices_Index_int_int.l0 : Nat → List Int → Int → Int → Int → Option (Int)
 | 0, _, _, _, _ => none
 | k + 1, x0, x1, x7, x8 => if x8 < x7 then (if 0 ≤ x8 then (if x8 < (x0.length : Int) then (if x1 = (rd x0 x8) then (some x8) else (slices_Index_int_int.l0 k x0 x1 x7 (wrap64 (x8 + 1)))) else (none)) else (none)) else (some (-1))
def slices_Index_int_int.f (k : Nat) (l0 : List Int) (a1 : Int) : Option (Int) := slices_Index_int_int.l0 k l0 a1 (l0.length : Int) 0
theorem slices_Index_int_int.calls (k : Nat) (A0 : Option Addr) (c0 : Nat) (l0 : List Int) (a1 : Int) (r : Int) (w : World) (hr0 : Kd.C (Kd.int .i64) w A0 l0.length l0) (hc0 : l0.length ≤ c0) (h : slices_Index_int_int.f k l0 a1 = some r) :
  Calls Try.prog 145 #[.slice A0 l0.length c0, .int .i64 a1] w fun e w' => e = .returned (.int .i64 r) ∧ Drawn0 w w' := by
 have HR0 := dk hr0
 have HC0 := dk hc0
 clear hr0 hc0
 have H : (slices_Index_int_int.l0 k l0 a1 (l0.length : Int) 0) = some r := h
 clear h
 have H' := dk H
 clear H
 go_enter Try.func145, Try.ntmps145
 go_wp2
 go_loopg [8] k (fun kq v8 w' => ∃ (x8_1 : Int), v8 = .int .i64 x8_1 ∧ Aside0 (slices_Index_int_int.l0 kq l0 a1 (l0.length : Int) x8_1 = some r) ∧ Aside0 (kq ≤ k) ∧ Drawn0 w w')
 case atStart => exact ⟨(0), e2_, H', ⟨Nat.le_refl _⟩, by repeat (first | exact Drawn0.refl _ | apply Drawn0.step)⟩
 case round =>
  clear H'
  (try clear c1)
  (try clear p2)
  obtain ⟨x8_1, rfl, HA, HK1, ⟨m1, rfl⟩⟩ := hrel
  cases gk with
  | zero => exact absurd HA.out (by simp [slices_Index_int_int.l0])
  | succ k1 =>
   have H := HA.out
   clear HA
   simp only [slices_Index_int_int.l0] at H
   by_cases c3 : x8_1 < (l0.length : Int)
   ·rw [if_pos c3] at H
    have c3b0 : decide (x8_1 < (l0.length : Int)) = true := decide_eq_true c3
    clear c3
    by_cases c4 : 0 ≤ x8_1
    ·rw [if_pos c4] at H
     have c4b0 : decide (0 ≤ x8_1) = true := decide_eq_true c4
     clear c4
     by_cases c5 : x8_1 < (l0.length : Int)
     ·rw [if_pos c5] at H
      have c5b0 : decide (x8_1 < (l0.length : Int)) = true := decide_eq_true c5
      clear c5
      by_cases c6 : a1 = (rd l0 x8_1)
      ·rw [if_pos c6] at H
       have c6b0 : (a1 == (rd l0 x8_1)) = true := beq_iff_eq.mpr c6
       have c6b1 : (a1 != (rd l0 x8_1)) = false := bne_eq_false_iff_eq.mpr c6
       clear c6
       obtain rfl := Option.some.inj H
       have p307 : 0 ≤ (x8_1 : Int) := oa
       have q307 : x8_1 < (l0.length : Int) := oa
       obtain ⟨ad307, e307, hx307_0⟩ := Kd.at_int HR0.out x8_1 p307 q307
       cases e307
       replace p307 := eq_true p307
       replace q307 := eq_true q307
       go_wp2
       go_ret
       exact ⟨e2_, by repeat (first | exact Drawn0.refl _ | apply Drawn0.step)⟩
      ·rw [if_neg c6] at H
       have c6b0 : (a1 == (rd l0 x8_1)) = false := beq_eq_false_iff_ne.mpr c6
       have c6b1 : (a1 != (rd l0 x8_1)) = true := bne_iff_ne.mpr c6
       have H' := dk H
       clear H
       have p307 : 0 ≤ (x8_1 : Int) := oa
       have q307 : x8_1 < (l0.length : Int) := oa
       obtain ⟨ad307, e307, hx307_0⟩ := Kd.at_int HR0.out x8_1 p307 q307
       cases e307
       replace p307 := eq_true p307
       replace q307 := eq_true q307
       go_wp2
       go_roundg k1
       case measure => have := HK1.out; omega
       case rel => exact ⟨(wrap64 (x8_1 + 1)), e2_, H', ⟨by have := HK1.out; omega⟩, by repeat (first | exact Drawn0.refl _ | apply Drawn0.step)⟩
     ·rw [if_neg c5] at H
      exact absurd H (by simp)
    ·rw [if_neg c4] at H
     exact absurd H (by simp)
   ·rw [if_neg c3] at H
    have c3b0 : decide (x8_1 < (l0.length : Int)) = false := decide_eq_false c3
    clear c3
    obtain rfl := Option.some.inj H
    go_wp2
    go_ret
    exact ⟨e2_, by repeat (first | exact Drawn0.refl _ | apply Drawn0.step)⟩
def slices_Contains_int_int.f (k : Nat) (l0 : List Int) (a1 : Int) : Option (Bool) := (slices_Index_int_int.f k l0 a1).bind fun t308 => (some (decide (t308 ≥ 0)))
theorem slices_Contains_int_int.calls (k : Nat) (A0 : Option Addr) (c0 : Nat) (l0 : List Int) (a1 : Int) (r : Bool) (w : World) (hr0 : Kd.C (Kd.int .i64) w A0 l0.length l0) (hc0 : l0.length ≤ c0) (h : slices_Contains_int_int.f k l0 a1 = some r) :
  Calls Try.prog 95 #[.slice A0 l0.length c0, .int .i64 a1] w fun e w' => e = .returned (.bool r) ∧ Drawn0 w w' := by
 have HR0 := dk hr0
 have HC0 := dk hc0
 clear hr0 hc0
 have H : ((slices_Index_int_int.f k l0 a1).bind fun t308 => (some (decide (t308 ≥ 0)))) = some r := h
 clear h
 replace H := Option.bind_eq_some_iff.mp H
 obtain ⟨t308, A30, H⟩ := H
 try dsimp only at H
 have A3 := dk A30
 clear A30
 obtain rfl := Option.some.inj H
 go_enter Try.func95, Try.ntmps95
 go_wp2_with (first | ((with_reducible refine gate_callee (f := 145) rfl ?_); refine gl (some 7) Try.func145 #[.slice A0 l0.length c0, .int .i64 a1] ?_; (with_reducible refine (slices_Index_int_int.calls k _ _ l0 a1 t308 _ ?side1 ?side2 A3.out).mono ?_); (case side1 => exact cz_ HR0); (case side2 => exact HC0.out); rintro e w' ⟨rfl, ⟨nd, rfl⟩⟩; refine ⟨_, rfl, ?_⟩))
 go_ret
 exact ⟨e2_, by repeat (first | exact Drawn0.refl _ | apply Drawn0.step)⟩
def impl_isKey.f (a0 : Int) : Option (Bool) := (impl_within.f a0 1 8).bind fun t309 => (some t309)
theorem impl_isKey.calls (a0 : Int) (r : Bool) (w : World) (h : impl_isKey.f a0 = some r) :
  Calls Try.prog 163 #[.int .i64 a0] w fun e w' => e = .returned (.bool r) ∧ Drawn0 w w' := by
 have H : ((impl_within.f a0 1 8).bind fun t309 => (some t309)) = some r := h
 clear h
 replace H := Option.bind_eq_some_iff.mp H
 obtain ⟨t309, A20, H⟩ := H
 try dsimp only at H
 have A2 := dk A20
 clear A20
 obtain rfl := Option.some.inj H
 go_enter Try.func163, Try.ntmps163
 go_wp2_with (first | ((with_reducible refine gate_callee (f := 128) rfl ?_); refine gl (some 4) Try.func128 #[.int .i64 a0, .int .i64 1, .int .i64 8] ?_; (with_reducible refine (impl_within.calls a0 1 8 t309 _ A2.out).mono ?_); rintro e w' ⟨rfl, ⟨nd, rfl⟩⟩; refine ⟨_, rfl, ?_⟩))
 go_ret
 exact ⟨e2_, by repeat (first | exact Drawn0.refl _ | apply Drawn0.step)⟩
def impl_RulesOk.l0 : Nat → List Int → Int → Int → Int → Int → Int → List Int → Bool → Option (Bool)
 | 0, _, _, _, _, _, _, _, _ => none
 | k + 1, x6, x7, x8, x311000, x311001, x311002, x311003, x311004 => if x8 < x7 then (if 0 ≤ x8 then (if x8 < (x6.length : Int) then ((impl_isKey.f (rd x6 x8)).bind fun t313 => (if t313 = true then (if x8 ≤ (x311003.length : Int) then ((slices_Contains_int_int.f k (x311003.take (x8 : Int).toNat) (rd x6 x8)).bind fun t315 => (if t315 = true then (some false) else (impl_RulesOk.l0 k x6 x7 (wrap64 (x8 + 1)) x311000 x311001 x311002 x311003 x311004))) else (none)) else (some false))) else (none)) else (none)) else (if 0 ≤ x311002 then (if x311002 ≤ x311001 then (if x311001 ≤ x311000 then (if x311000 ≤ 10 then ((impl_within.f (x311003.length : Int) 1 8).bind fun t311 => (some t311)) else (some false)) else (some false)) else (some false)) else (some false))
def impl_RulesOk.f (k : Nat) (a0_0 : Int) (a0_1 : Int) (a0_2 : Int) (l0_3 : List Int) (a0_4 : Bool) : Option (Bool) := impl_RulesOk.l0 k l0_3 (l0_3.length : Int) 0 a0_0 a0_1 a0_2 l0_3 a0_4
theorem impl_RulesOk.calls (k : Nat) (a0_0 : Int) (a0_1 : Int) (a0_2 : Int) (A0_3 : Option Addr) (c0_3 : Nat) (l0_3 : List Int) (a0_4 : Bool) (r : Bool) (w : World) (hr0_3 : Kd.C (Kd.int .i64) w A0_3 l0_3.length l0_3) (hc0_3 : l0_3.length ≤ c0_3) (h : impl_RulesOk.f k a0_0 a0_1 a0_2 l0_3 a0_4 = some r) :
  Calls Try.prog 123 #[.agg #[.int .i64 a0_0, .int .i64 a0_1, .int .i64 a0_2, .slice A0_3 l0_3.length c0_3, .bool a0_4]] w fun e w' => e = .returned (.bool r) ∧ Below w.heap.size w w' := by
 have hu33 := Try.underlying33
 have HR0_3 := dk hr0_3
 have HC0_3 := dk hc0_3
 clear hr0_3 hc0_3
 have HB := dk (Below.refl w.heap.size w)
 have H : (impl_RulesOk.l0 k l0_3 (l0_3.length : Int) 0 a0_0 a0_1 a0_2 l0_3 a0_4) = some r := h
 clear h
 have H' := dk H
 clear H
 go_enter Try.func123, Try.ntmps123
 go_wp2_with (first | ((with_reducible refine gate_dst (N := 1) rfl ?_); (try (refine gate_guard (by rfl) ?_; dsimp only)); refine bx (N := 1) (cs := #[.int .i64 a0_0, .int .i64 a0_1, .int .i64 a0_2, .slice A0_3 l0_3.length c0_3, .bool a0_4]) (t := 33) ?_; intro gb310 hg w2 hbox hb; have BK310 := dk (hbox); have GW310 := gs hg HB; have GE310 := gs hg HB; replace HB := hs_ HB hb; clear hb hbox hg; have ⟨z3_0, z3_1, z3_2, z3_3, z3_4, v3_0, v3_1, v3_2, v3_3, v3_4⟩ := rz5 BK310))
 go_loopg [8] k (fun kq v8 w' => ∃ (x8_1 : Int), v8 = .int .i64 x8_1 ∧ Aside0 (impl_RulesOk.l0 kq l0_3 (l0_3.length : Int) x8_1 a0_0 a0_1 a0_2 l0_3 a0_4 = some r) ∧ Aside0 (kq ≤ k) ∧ Aside0 (w'.heap[gb310]? = some (.cells #[.int .i64 a0_0, .int .i64 a0_1, .int .i64 a0_2, (.slice A0_3 l0_3.length c0_3), .bool a0_4] 33 (0, 0))) ∧ Aside0 (Below w.heap.size w w'))
 case atStart => exact ⟨(0), e2_, H', ⟨Nat.le_refl _⟩, ⟨bk BK310⟩, ⟨bb HB⟩⟩
 case round =>
  clear H'
  (try clear c1)
  (try clear p2)
  (try clear z3_0 z3_1 z3_2 z3_3 z3_4)
  (try clear v3_0 v3_1 v3_2 v3_3 v3_4)
  obtain ⟨x8_1, rfl, HA, HK1, BK310, HB⟩ := hrel
  cases gk with
  | zero => exact absurd HA.out (by simp [impl_RulesOk.l0])
  | succ k1 =>
   have H := HA.out
   clear HA
   simp only [impl_RulesOk.l0] at H
   by_cases c4 : x8_1 < (l0_3.length : Int)
   ·rw [if_pos c4] at H
    have c4b0 : decide (x8_1 < (l0_3.length : Int)) = true := decide_eq_true c4
    clear c4
    by_cases c5 : 0 ≤ x8_1
    ·rw [if_pos c5] at H
     have c5b0 : decide (0 ≤ x8_1) = true := decide_eq_true c5
     clear c5
     by_cases c6 : x8_1 < (l0_3.length : Int)
     ·rw [if_pos c6] at H
      have c6b0 : decide (x8_1 < (l0_3.length : Int)) = true := decide_eq_true c6
      clear c6
      replace H := Option.bind_eq_some_iff.mp H
      obtain ⟨t313, A70, H⟩ := H
      try dsimp only at H
      have A7 := dk A70
      clear A70
      by_cases c8 : t313 = true
      ·subst c8
       rw [if_pos rfl] at H
       have c9b0 := eq_true (oa : 0 ≤ x8_1)
       by_cases c10 : x8_1 ≤ (l0_3.length : Int)
       ·rw [if_pos c10] at H
        have c10b0 := eq_true c10
        have c10b1 : decide (x8_1 ≤ (l0_3.length : Int)) = true := decide_eq_true c10
        clear c10
        replace H := Option.bind_eq_some_iff.mp H
        obtain ⟨t315, A110, H⟩ := H
        try dsimp only at H
        have A11 := dk A110
        clear A110
        by_cases c12 : t315 = true
        ·subst c12
         rw [if_pos rfl] at H
         obtain rfl := Option.some.inj H
         have p312 : 0 ≤ (x8_1 : Int) := oa
         have q312 : x8_1 < (l0_3.length : Int) := oa
         obtain ⟨ad312, e312, hx312_0⟩ := Kd.at_int HR0_3.out x8_1 p312 q312
         cases e312
         replace hx312_0 := hc HB hx312_0
         replace p312 := eq_true p312
         replace q312 := eq_true q312
         go_wp2_with (first | ((with_reducible refine gate_callee (f := 163) rfl ?_); refine gl (some 14) Try.func163 #[.int .i64 (rd l0_3 x8_1)] ?_; (with_reducible refine (impl_isKey.calls (rd l0_3 x8_1) true _ A7.out).mono ?_); rintro e w' ⟨rfl, ⟨nd, rfl⟩⟩; refine ⟨_, rfl, ?_⟩; have ⟨z13_0, z13_1, z13_2, z13_3, z13_4, v13_0, v13_1, v13_2, v13_3, v13_4⟩ := rz5 BK310; obtain ⟨i014, hi014, _, hsz14, _⟩ := info_parts info3; obtain ⟨hcut14, hA14, hC14⟩ := print_take_of (P := Try.prog) (Value.int .i64) 0 23 3 .i64 Try.underlying23 hi014 hsz14 (some ad312) c0_3 l0_3 x8_1 (oa) (oa) HC0_3.out; have HR314 := dk (Kd.C_of_reads (h1 := fun _ => rfl) (hA14 _ (Kd.reads_of_C HR0_3.out))); have HC314 := dk hC14; clear hA14 hC14 hi014 hsz14) | (go_at_call 95; refine calls_of_args (args' := #[.slice (some ad312) (l0_3.take (x8_1 : Int).toNat).length c0_3, .int .i64 (rd l0_3 x8_1)]) (by first | (rw [show (l0_3.take (x8_1 : Int).toNat).length = x8_1.toNat from (by rw [List.length_take]; have h_ : (x8_1 : Int) ≤ (l0_3.length : Int) := oa; omega)] <;> rfl) | rfl) ?_; (with_reducible refine (slices_Contains_int_int.calls k1 _ _ (l0_3.take (x8_1 : Int).toNat) (rd l0_3 x8_1) true _ ?side1 ?side2 A11.out).mono ?_); (case side1 => repeat (first | exact (Kd.C_below HR314.out (bb HB)) | (with_reducible refine Kd.C_alloc ?_ _) | (with_reducible refine Kd.C_drewN ?_ _) | (with_reducible refine Kd.C_drew ?_))); (case side2 => exact HC314.out); rintro e w' ⟨rfl, ⟨nd, rfl⟩⟩))
         go_ret
         exact ⟨ee, bb HB⟩
        ·replace c12 := Bool.eq_false_iff.mpr c12
         subst c12
         rw [if_neg (show ¬ (false = true) by decide)] at H
         have H' := dk H
         clear H
         have p312 : 0 ≤ (x8_1 : Int) := oa
         have q312 : x8_1 < (l0_3.length : Int) := oa
         obtain ⟨ad312, e312, hx312_0⟩ := Kd.at_int HR0_3.out x8_1 p312 q312
         cases e312
         replace hx312_0 := hc HB hx312_0
         replace p312 := eq_true p312
         replace q312 := eq_true q312
         go_wp2_with (first | ((with_reducible refine gate_callee (f := 163) rfl ?_); refine gl (some 14) Try.func163 #[.int .i64 (rd l0_3 x8_1)] ?_; (with_reducible refine (impl_isKey.calls (rd l0_3 x8_1) true _ A7.out).mono ?_); rintro e w' ⟨rfl, ⟨nd, rfl⟩⟩; refine ⟨_, rfl, ?_⟩; have ⟨z15_0, z15_1, z15_2, z15_3, z15_4, v15_0, v15_1, v15_2, v15_3, v15_4⟩ := rz5 BK310; obtain ⟨i016, hi016, _, hsz16, _⟩ := info_parts info3; obtain ⟨hcut16, hA16, hC16⟩ := print_take_of (P := Try.prog) (Value.int .i64) 0 23 3 .i64 Try.underlying23 hi016 hsz16 (some ad312) c0_3 l0_3 x8_1 (oa) (oa) HC0_3.out; have HR314 := dk (Kd.C_of_reads (h1 := fun _ => rfl) (hA16 _ (Kd.reads_of_C HR0_3.out))); have HC314 := dk hC16; clear hA16 hC16 hi016 hsz16) | (go_at_call 95; refine calls_of_args (args' := #[.slice (some ad312) (l0_3.take (x8_1 : Int).toNat).length c0_3, .int .i64 (rd l0_3 x8_1)]) (by first | (rw [show (l0_3.take (x8_1 : Int).toNat).length = x8_1.toNat from (by rw [List.length_take]; have h_ : (x8_1 : Int) ≤ (l0_3.length : Int) := oa; omega)] <;> rfl) | rfl) ?_; (with_reducible refine (slices_Contains_int_int.calls k1 _ _ (l0_3.take (x8_1 : Int).toNat) (rd l0_3 x8_1) false _ ?side1 ?side2 A11.out).mono ?_); (case side1 => repeat (first | exact (Kd.C_below HR314.out (bb HB)) | (with_reducible refine Kd.C_alloc ?_ _) | (with_reducible refine Kd.C_drewN ?_ _) | (with_reducible refine Kd.C_drew ?_))); (case side2 => exact HC314.out); rintro e w' ⟨rfl, ⟨nd, rfl⟩⟩))
         go_roundg k1
         case measure => have := HK1.out; omega
         case rel => exact ⟨(wrap64 (x8_1 + 1)), e2_, H', ⟨by have := HK1.out; omega⟩, ⟨bk BK310⟩, ⟨bb HB⟩⟩
       ·rw [if_neg c10] at H
        exact absurd H (by simp)
      ·replace c8 := Bool.eq_false_iff.mpr c8
       subst c8
       rw [if_neg (show ¬ (false = true) by decide)] at H
       obtain rfl := Option.some.inj H
       have p312 : 0 ≤ (x8_1 : Int) := oa
       have q312 : x8_1 < (l0_3.length : Int) := oa
       obtain ⟨ad312, e312, hx312_0⟩ := Kd.at_int HR0_3.out x8_1 p312 q312
       cases e312
       replace hx312_0 := hc HB hx312_0
       replace p312 := eq_true p312
       replace q312 := eq_true q312
       go_wp2_with (first | ((with_reducible refine gate_callee (f := 163) rfl ?_); refine gl (some 14) Try.func163 #[.int .i64 (rd l0_3 x8_1)] ?_; (with_reducible refine (impl_isKey.calls (rd l0_3 x8_1) false _ A7.out).mono ?_); rintro e w' ⟨rfl, ⟨nd, rfl⟩⟩; refine ⟨_, rfl, ?_⟩))
       go_ret
       exact ⟨ee, bb HB⟩
     ·rw [if_neg c6] at H
      exact absurd H (by simp)
    ·rw [if_neg c5] at H
     exact absurd H (by simp)
   ·rw [if_neg c4] at H
    have c4b0 : decide (x8_1 < (l0_3.length : Int)) = false := decide_eq_false c4
    clear c4
    by_cases c17 : 0 ≤ a0_2
    ·rw [if_pos c17] at H
     have c17b0 : decide (0 ≤ a0_2) = true := decide_eq_true c17
     clear c17
     by_cases c18 : a0_2 ≤ a0_1
     ·rw [if_pos c18] at H
      have c18b0 : decide (a0_2 ≤ a0_1) = true := decide_eq_true c18
      clear c18
      by_cases c19 : a0_1 ≤ a0_0
      ·rw [if_pos c19] at H
       have c19b0 : decide (a0_1 ≤ a0_0) = true := decide_eq_true c19
       clear c19
       by_cases c20 : a0_0 ≤ 10
       ·rw [if_pos c20] at H
        have c20b0 : decide (a0_0 ≤ 10) = true := decide_eq_true c20
        clear c20
        replace H := Option.bind_eq_some_iff.mp H
        obtain ⟨t311, A210, H⟩ := H
        try dsimp only at H
        have A21 := dk A210
        clear A210
        obtain rfl := Option.some.inj H
        have ⟨z22_0, z22_1, z22_2, z22_3, z22_4, v22_0, v22_1, v22_2, v22_3, v22_4⟩ := rz5 BK310
        go_wp2_with (first | (go_at_call 128; (with_reducible refine (impl_within.calls (l0_3.length : Int) 1 8 t311 _ A21.out).mono ?_); rintro e w' ⟨rfl, ⟨nd, rfl⟩⟩))
        go_ret
        exact ⟨ee, bb HB⟩
       ·rw [if_neg c20] at H
        have c20b0 : decide (a0_0 ≤ 10) = false := decide_eq_false c20
        clear c20
        obtain rfl := Option.some.inj H
        have ⟨z23_0, z23_1, z23_2, z23_3, z23_4, v23_0, v23_1, v23_2, v23_3, v23_4⟩ := rz5 BK310
        go_wp2
        go_ret
        exact ⟨ee, bb HB⟩
      ·rw [if_neg c19] at H
       have c19b0 : decide (a0_1 ≤ a0_0) = false := decide_eq_false c19
       clear c19
       obtain rfl := Option.some.inj H
       have ⟨z24_0, z24_1, z24_2, z24_3, z24_4, v24_0, v24_1, v24_2, v24_3, v24_4⟩ := rz5 BK310
       go_wp2
       go_ret
       exact ⟨ee, bb HB⟩
     ·rw [if_neg c18] at H
      have c18b0 : decide (a0_2 ≤ a0_1) = false := decide_eq_false c18
      clear c18
      obtain rfl := Option.some.inj H
      have ⟨z25_0, z25_1, z25_2, z25_3, z25_4, v25_0, v25_1, v25_2, v25_3, v25_4⟩ := rz5 BK310
      go_wp2
      go_ret
      exact ⟨ee, bb HB⟩
    ·rw [if_neg c17] at H
     have c17b0 : decide (0 ≤ a0_2) = false := decide_eq_false c17
     clear c17
     obtain rfl := Option.some.inj H
     have ⟨z26_0, z26_1, z26_2, z26_3, z26_4, v26_0, v26_1, v26_2, v26_3, v26_4⟩ := rz5 BK310
     go_wp2
     go_ret
     exact ⟨ee, bb HB⟩
def impl_GameOk.j0 : Nat → Int → Int → Int → Int → Int → Int → Int → Option (Bool)
 | 0, _, _, _, _, _, _, _ => none
 | k + 1, x0, x5, x317000, x317001, x317002, x317003, x317004 => (impl_within.f x0 2 8).bind fun t317 => (if t317 = true then (if x317000 = x317001 then (some false) else ((impl_within.f x317000 0 (wrap64 (x0 - 1))).bind fun t318 => (if t318 = true then ((impl_within.f x317001 0 (wrap64 (x0 - 1))).bind fun t319 => (if t319 = true then ((impl_within.f x317004 0 4).bind fun t320 => (if t320 = true then ((impl_within.f x317002 0 x5).bind fun t321 => (if t321 = true then ((impl_within.f x317003 0 x5).bind fun t322 => (some t322)) else (some false))) else (some false))) else (some false))) else (some false)))) else (some false))
def impl_GameOk.f (k : Nat) (a0 : Int) (a1_0 : Int) (a1_1 : Int) (a1_2 : Int) (a1_3 : Int) (a1_4 : Int) : Option (Bool) := if a1_4 = 1 then (impl_GameOk.j0 k a0 99 a1_0 a1_1 a1_2 a1_3 a1_4) else (impl_GameOk.j0 k a0 0 a1_0 a1_1 a1_2 a1_3 a1_4)
theorem impl_GameOk.calls (k : Nat) (a0 : Int) (a1_0 : Int) (a1_1 : Int) (a1_2 : Int) (a1_3 : Int) (a1_4 : Int) (r : Bool) (w : World) (h : impl_GameOk.f k a0 a1_0 a1_1 a1_2 a1_3 a1_4 = some r) :
  Calls Try.prog 164 #[.int .i64 a0, .agg #[.int .i64 a1_0, .int .i64 a1_1, .int .i64 a1_2, .int .i64 a1_3, .int .i64 a1_4]] w fun e w' => e = .returned (.bool r) ∧ Below w.heap.size w w' := by
 have hu95 := Try.underlying95
 have HB := dk (Below.refl w.heap.size w)
 have H : (if a1_4 = 1 then (impl_GameOk.j0 k a0 99 a1_0 a1_1 a1_2 a1_3 a1_4) else (impl_GameOk.j0 k a0 0 a1_0 a1_1 a1_2 a1_3 a1_4)) = some r := h
 clear h
 have HC3 := dk H
 clear H
 go_enter Try.func164, Try.ntmps164
 go_upto_if 8 with (first | ((with_reducible refine gate_dst (N := 3) rfl ?_); refine bx (N := 3) (cs := #[.int .i64 a1_0, .int .i64 a1_1, .int .i64 a1_2, .int .i64 a1_3, .int .i64 a1_4]) (t := 95) ?_; intro gb316 hg w4 hbox hb; have BK316 := dk (hbox); have GW316 := gs hg HB; have GE316 := gs hg HB; replace HB := hs_ HB hb; clear hb hbox hg; have ⟨z5_0, z5_1, z5_2, z5_3, z5_4, v5_0, v5_1, v5_2, v5_3, v5_4⟩ := rz5 BK316))
 (try simp only [Act.put, List.setIfInBounds_toArray, List.set_cons_zero, List.set_cons_succ])
 go_cut [5] (fun v5 wc => ∃ (kq : Nat) (x5_2 : Int), v5 = .int .i64 x5_2 ∧ Aside0 (impl_GameOk.j0 kq a0 x5_2 a1_0 a1_1 a1_2 a1_3 a1_4 = some r) ∧ Aside0 (kq ≤ k) ∧ Aside0 (wc.heap[gb316]? = some (.cells #[.int .i64 a1_0, .int .i64 a1_1, .int .i64 a1_2, .int .i64 a1_3, .int .i64 a1_4] 95 (0, 0))) ∧ Aside0 (Below w.heap.size w wc))
 case first =>
  have H := HC3.out
  clear HC3
  by_cases c6 : a1_4 = 1
  ·rw [if_pos c6] at H
   have c6b0 : (a1_4 == 1) = true := beq_iff_eq.mpr c6
   have c6b1 : (a1_4 != 1) = false := bne_eq_false_iff_eq.mpr c6
   clear c6
   (first | rw [c6b0] | rw [c6b1] | (simp only [i64_w, i32_w]; rw [c6b0]) | skip)
   have H' := dk H
   clear H
   go_wp2
   go_meet
   case rel => exact ⟨_, (99), e2_, H', ⟨by first | omega | exact Nat.le_refl _⟩, ⟨bk BK316⟩, ⟨bb HB⟩⟩
  ·rw [if_neg c6] at H
   have c6b0 : (a1_4 == 1) = false := beq_eq_false_iff_ne.mpr c6
   have c6b1 : (a1_4 != 1) = true := bne_iff_ne.mpr c6
   (first | rw [c6b0] | rw [c6b1] | (simp only [i64_w, i32_w]; rw [c6b0]) | skip)
   have H' := dk H
   clear H
   go_wp2
   go_meet
   case rel => exact ⟨_, (0), e2_, H', ⟨by first | omega | exact Nat.le_refl _⟩, ⟨bk BK316⟩, ⟨bb HB⟩⟩
 case rest =>
  clear HC3
  (try clear c1)
  (try clear p2)
  (try clear c6)
  (try clear c6b0)
  (try clear c6b1)
  (try clear z5_0 z5_1 z5_2 z5_3 z5_4)
  (try clear v5_0 v5_1 v5_2 v5_3 v5_4)
  obtain ⟨kq, x5_2, rfl, HA, HJ2, BK316, HB⟩ := hcut
  cases kq with
  | zero => exact absurd HA.out (by simp [impl_GameOk.j0])
  | succ kj2 =>
   have H := HA.out
   clear HA
   simp only [impl_GameOk.j0] at H
   replace H := Option.bind_eq_some_iff.mp H
   obtain ⟨t317, A70, H⟩ := H
   try dsimp only at H
   have A7 := dk A70
   clear A70
   by_cases c8 : t317 = true
   ·subst c8
    rw [if_pos rfl] at H
    by_cases c9 : a1_0 = a1_1
    ·rw [if_pos c9] at H
     have c9b0 : (a1_0 == a1_1) = true := beq_iff_eq.mpr c9
     have c9b1 : (a1_0 != a1_1) = false := bne_eq_false_iff_eq.mpr c9
     clear c9
     obtain rfl := Option.some.inj H
     go_wp2_with (first | ((with_reducible refine gate_callee (f := 128) rfl ?_); refine gl (some 10) Try.func128 #[.int .i64 a0, .int .i64 2, .int .i64 8] ?_; (with_reducible refine (impl_within.calls a0 2 8 true _ A7.out).mono ?_); rintro e w' ⟨rfl, ⟨nd, rfl⟩⟩; refine ⟨_, rfl, ?_⟩; have ⟨z10_0, z10_1, z10_2, z10_3, z10_4, v10_0, v10_1, v10_2, v10_3, v10_4⟩ := rz5 BK316))
     go_ret
     exact ⟨ee, bb HB⟩
    ·rw [if_neg c9] at H
     have c9b0 : (a1_0 == a1_1) = false := beq_eq_false_iff_ne.mpr c9
     have c9b1 : (a1_0 != a1_1) = true := bne_iff_ne.mpr c9
     replace H := Option.bind_eq_some_iff.mp H
     obtain ⟨t318, A110, H⟩ := H
     try dsimp only at H
     have A11 := dk A110
     clear A110
     by_cases c12 : t318 = true
     ·subst c12
      rw [if_pos rfl] at H
      replace H := Option.bind_eq_some_iff.mp H
      obtain ⟨t319, A130, H⟩ := H
      try dsimp only at H
      have A13 := dk A130
      clear A130
      by_cases c14 : t319 = true
      ·subst c14
       rw [if_pos rfl] at H
       replace H := Option.bind_eq_some_iff.mp H
       obtain ⟨t320, A150, H⟩ := H
       try dsimp only at H
       have A15 := dk A150
       clear A150
       by_cases c16 : t320 = true
       ·subst c16
        rw [if_pos rfl] at H
        replace H := Option.bind_eq_some_iff.mp H
        obtain ⟨t321, A170, H⟩ := H
        try dsimp only at H
        have A17 := dk A170
        clear A170
        by_cases c18 : t321 = true
        ·subst c18
         rw [if_pos rfl] at H
         replace H := Option.bind_eq_some_iff.mp H
         obtain ⟨t322, A190, H⟩ := H
         try dsimp only at H
         have A19 := dk A190
         clear A190
         obtain rfl := Option.some.inj H
         go_wp2_with (first | ((with_reducible refine gate_callee (f := 128) rfl ?_); refine gl (some 10) Try.func128 #[.int .i64 a0, .int .i64 2, .int .i64 8] ?_; (with_reducible refine (impl_within.calls a0 2 8 true _ A7.out).mono ?_); rintro e w' ⟨rfl, ⟨nd, rfl⟩⟩; refine ⟨_, rfl, ?_⟩; have ⟨z20_0, z20_1, z20_2, z20_3, z20_4, v20_0, v20_1, v20_2, v20_3, v20_4⟩ := rz5 BK316) | (go_at_call 128; (with_reducible refine (impl_within.calls a1_0 0 (wrap64 (a0 - 1)) true _ A11.out).mono ?_); rintro e w' ⟨rfl, ⟨nd, rfl⟩⟩) | (go_at_call 128; (with_reducible refine (impl_within.calls a1_1 0 (wrap64 (a0 - 1)) true _ A13.out).mono ?_); rintro e w' ⟨rfl, ⟨nd, rfl⟩⟩) | (go_at_call 128; (with_reducible refine (impl_within.calls a1_4 0 4 true _ A15.out).mono ?_); rintro e w' ⟨rfl, ⟨nd, rfl⟩⟩) | (go_at_call 128; (with_reducible refine (impl_within.calls a1_2 0 x5_2 true _ A17.out).mono ?_); rintro e w' ⟨rfl, ⟨nd, rfl⟩⟩) | (go_at_call 128; (with_reducible refine (impl_within.calls a1_3 0 x5_2 t322 _ A19.out).mono ?_); rintro e w' ⟨rfl, ⟨nd, rfl⟩⟩))
         go_ret
         exact ⟨ee, bb HB⟩
        ·replace c18 := Bool.eq_false_iff.mpr c18
         subst c18
         rw [if_neg (show ¬ (false = true) by decide)] at H
         obtain rfl := Option.some.inj H
         go_wp2_with (first | ((with_reducible refine gate_callee (f := 128) rfl ?_); refine gl (some 10) Try.func128 #[.int .i64 a0, .int .i64 2, .int .i64 8] ?_; (with_reducible refine (impl_within.calls a0 2 8 true _ A7.out).mono ?_); rintro e w' ⟨rfl, ⟨nd, rfl⟩⟩; refine ⟨_, rfl, ?_⟩; have ⟨z21_0, z21_1, z21_2, z21_3, z21_4, v21_0, v21_1, v21_2, v21_3, v21_4⟩ := rz5 BK316) | (go_at_call 128; (with_reducible refine (impl_within.calls a1_0 0 (wrap64 (a0 - 1)) true _ A11.out).mono ?_); rintro e w' ⟨rfl, ⟨nd, rfl⟩⟩) | (go_at_call 128; (with_reducible refine (impl_within.calls a1_1 0 (wrap64 (a0 - 1)) true _ A13.out).mono ?_); rintro e w' ⟨rfl, ⟨nd, rfl⟩⟩) | (go_at_call 128; (with_reducible refine (impl_within.calls a1_4 0 4 true _ A15.out).mono ?_); rintro e w' ⟨rfl, ⟨nd, rfl⟩⟩) | (go_at_call 128; (with_reducible refine (impl_within.calls a1_2 0 x5_2 false _ A17.out).mono ?_); rintro e w' ⟨rfl, ⟨nd, rfl⟩⟩))
         go_ret
         exact ⟨ee, bb HB⟩
       ·replace c16 := Bool.eq_false_iff.mpr c16
        subst c16
        rw [if_neg (show ¬ (false = true) by decide)] at H
        obtain rfl := Option.some.inj H
        go_wp2_with (first | ((with_reducible refine gate_callee (f := 128) rfl ?_); refine gl (some 10) Try.func128 #[.int .i64 a0, .int .i64 2, .int .i64 8] ?_; (with_reducible refine (impl_within.calls a0 2 8 true _ A7.out).mono ?_); rintro e w' ⟨rfl, ⟨nd, rfl⟩⟩; refine ⟨_, rfl, ?_⟩; have ⟨z22_0, z22_1, z22_2, z22_3, z22_4, v22_0, v22_1, v22_2, v22_3, v22_4⟩ := rz5 BK316) | (go_at_call 128; (with_reducible refine (impl_within.calls a1_0 0 (wrap64 (a0 - 1)) true _ A11.out).mono ?_); rintro e w' ⟨rfl, ⟨nd, rfl⟩⟩) | (go_at_call 128; (with_reducible refine (impl_within.calls a1_1 0 (wrap64 (a0 - 1)) true _ A13.out).mono ?_); rintro e w' ⟨rfl, ⟨nd, rfl⟩⟩) | (go_at_call 128; (with_reducible refine (impl_within.calls a1_4 0 4 false _ A15.out).mono ?_); rintro e w' ⟨rfl, ⟨nd, rfl⟩⟩))
        go_ret
        exact ⟨ee, bb HB⟩
      ·replace c14 := Bool.eq_false_iff.mpr c14
       subst c14
       rw [if_neg (show ¬ (false = true) by decide)] at H
       obtain rfl := Option.some.inj H
       go_wp2_with (first | ((with_reducible refine gate_callee (f := 128) rfl ?_); refine gl (some 10) Try.func128 #[.int .i64 a0, .int .i64 2, .int .i64 8] ?_; (with_reducible refine (impl_within.calls a0 2 8 true _ A7.out).mono ?_); rintro e w' ⟨rfl, ⟨nd, rfl⟩⟩; refine ⟨_, rfl, ?_⟩; have ⟨z23_0, z23_1, z23_2, z23_3, z23_4, v23_0, v23_1, v23_2, v23_3, v23_4⟩ := rz5 BK316) | (go_at_call 128; (with_reducible refine (impl_within.calls a1_0 0 (wrap64 (a0 - 1)) true _ A11.out).mono ?_); rintro e w' ⟨rfl, ⟨nd, rfl⟩⟩) | (go_at_call 128; (with_reducible refine (impl_within.calls a1_1 0 (wrap64 (a0 - 1)) false _ A13.out).mono ?_); rintro e w' ⟨rfl, ⟨nd, rfl⟩⟩))
       go_ret
       exact ⟨ee, bb HB⟩
     ·replace c12 := Bool.eq_false_iff.mpr c12
      subst c12
      rw [if_neg (show ¬ (false = true) by decide)] at H
      obtain rfl := Option.some.inj H
      go_wp2_with (first | ((with_reducible refine gate_callee (f := 128) rfl ?_); refine gl (some 10) Try.func128 #[.int .i64 a0, .int .i64 2, .int .i64 8] ?_; (with_reducible refine (impl_within.calls a0 2 8 true _ A7.out).mono ?_); rintro e w' ⟨rfl, ⟨nd, rfl⟩⟩; refine ⟨_, rfl, ?_⟩; have ⟨z24_0, z24_1, z24_2, z24_3, z24_4, v24_0, v24_1, v24_2, v24_3, v24_4⟩ := rz5 BK316) | (go_at_call 128; (with_reducible refine (impl_within.calls a1_0 0 (wrap64 (a0 - 1)) false _ A11.out).mono ?_); rintro e w' ⟨rfl, ⟨nd, rfl⟩⟩))
      go_ret
      exact ⟨ee, bb HB⟩
   ·replace c8 := Bool.eq_false_iff.mpr c8
    subst c8
    rw [if_neg (show ¬ (false = true) by decide)] at H
    obtain rfl := Option.some.inj H
    go_wp2_with (first | ((with_reducible refine gate_callee (f := 128) rfl ?_); refine gl (some 10) Try.func128 #[.int .i64 a0, .int .i64 2, .int .i64 8] ?_; (with_reducible refine (impl_within.calls a0 2 8 false _ A7.out).mono ?_); rintro e w' ⟨rfl, ⟨nd, rfl⟩⟩; refine ⟨_, rfl, ?_⟩))
    go_ret
    exact ⟨ee, bb HB⟩
set_option maxHeartbeats 4000000 in
theorem slices_IndexFunc_impl_Game_impl_Game.calls (g : Nat) (lb : Array Value) (eg : ∀ args w, (callFunc g args).run Try.prog w = .ok (.enter g args) w) (p : S95 → Bool) (A0 : Option Addr) (c0 n0 : Nat) (l0 : List (S95)) (w0 w : World) (hB : Below w0.heap.size w0 w) (hr0 : Kd.C k95 w0 A0 n0 l0)
    (hp : ∀ (W : World) (x : S95), Below w.heap.size w W → x ∈ l0 → Calls Try.prog g (#[.agg #[.int .i64 x.f0, .int .i64 x.f1, .int .i64 x.f2, .int .i64 x.f3, .int .i64 x.f4]] ++ lb) W fun e w' => e = .returned (.bool (p x)) ∧ Below W.heap.size W w') :
    Calls Try.prog 186 #[.slice A0 n0 c0, .func (.func g) #[] lb] w fun e w' => e = .returned (.int .i64 (idxI p l0)) ∧ Below w.heap.size w w' := by
  obtain rfl := Kd.C_len hr0
  have hm : l0.length ≤ 9223372036854775807 := hr0.2.1
  have HR0 := dk hr0
  have HP := dk hp
  have HW := dk hB.size
  have HB0 := dk hB
  clear hr0 hp hB
  go_enter Try.func186, Try.ntmps186
  go_wp2
  go_loopg [5, 8] l0.length (fun gg _ s8 wr => ∃ kk : Nat, kk ≤ l0.length ∧ l0.length - kk ≤ gg ∧ s8 = .int .i64 kk ∧ Aside0 (Below w.heap.size w wr) ∧ Aside0 (∀ j, j < kk → p (rd_T95 l0 j) = false))
  case atStart => exact ⟨0, Nat.zero_le _, by omega, rfl, ⟨Below.refl _ w⟩, ⟨fun j hj => absurd hj (Nat.not_lt_zero _)⟩⟩
  case round =>
    obtain ⟨kk, hkk, hg, rfl, BW, HA⟩ := hrel
    by_cases hlt : kk < l0.length
    · have hltz : (kk : Int) < (l0.length : Int) := by omega
      obtain ⟨ad, ead, h0, h1, h2, h3, h4⟩ := at_T95 HR0.out kk (by omega) hltz
      subst ead
      have hb1 : Below w0.heap.size w0 wr := below_then HB0.out HW.out BW.out
      have hcall := HP.out wr (rd_T95 l0 kk) BW.out (by unfold rd_T95; simp [hlt])
      replace h0 := pw_cell_below hb1 h0
      replace h1 := pw_cell_below hb1 h1
      replace h2 := pw_cell_below hb1 h2
      replace h3 := pw_cell_below hb1 h3
      replace h4 := pw_cell_below hb1 h4
      simp only [Int.toNat_natCast] at h0 h1 h2 h3 h4
      have HB1 := dk hb1
      clear hb1
      generalize hy : rd_T95 l0 kk = y at h0 h1 h2 h3 h4 hcall
      have B := dk hy
      clear hy
      cases hq : p y with
      | true =>
        rw [hq] at hcall
        have Q := dk hq
        have HC := dk hcall
        clear hq hcall
        go_wp2_with fail
        refine HC.out.mono ?_
        rintro e w' ⟨rfl, hb'⟩
        go_wp2_with fail
        go_ret
        refine ⟨?_, below_step BW.out hb'⟩
        rw [idxI_hit p l0 kk hlt z95 (by have := B.out; unfold rd_T95 at this; simp only [Int.toNat_natCast] at this; rw [this]; exact Q.out) (fun j hj => by have := HA.out j hj; unfold rd_T95 at this; simpa using this)]
        rfl
      | false =>
        rw [hq] at hcall
        have Q := dk hq
        have HC := dk hcall
        clear hq hcall
        go_wp2_with fail
        refine HC.out.mono ?_
        rintro e w' ⟨rfl, hb'⟩
        go_wp2_with fail
        go_roundg (l0.length - (kk + 1))
        case measure => omega
        case rel =>
          refine ⟨kk + 1, by omega, by omega, by go_num, ⟨below_step BW.out hb'⟩, ⟨fun j hj => ?_⟩⟩
          by_cases e : j = kk
          · subst e
            rw [B.out]; exact Q.out
          · exact HA.out j (by omega)
    · have hltz : ¬ (kk : Int) < (l0.length : Int) := by omega
      have hd : decide ((kk : Int) < (l0.length : Int)) = false := by simp; omega
      have hd2 : decide (kk < l0.length) = false := by simp; omega
      have hk := dk (show kk = l0.length by omega)
      clear hlt hltz hg
      go_wp2_with fail
      go_ret
      obtain rfl := hk.out
      refine ⟨?_, BW.out⟩
      rw [idxI_miss p l0 z95 (fun j hj => by have := HA.out j hj; unfold rd_T95 at this; simpa using this)]
      rfl
def gameIs (h a : Int) (g : S95) : Bool := (g.f0 == h) && (g.f1 == a)
def impl_GameOf.f (l0 : List (S95)) (a1 : Int) (a2 : Int) : Option Int := some (idxI (gameIs a1 a2) l0)
set_option maxHeartbeats 4000000 in
theorem impl_GameOf_1.calls (gh ga : Nat) (h a : Int) (x : S95) (W : World) (hh : W.cell? ⟨gh, 0, none⟩ = some (.int .i64 h)) (ha : W.cell? ⟨ga, 0, none⟩ = some (.int .i64 a)) :
    Calls Try.prog 187 #[.agg #[.int .i64 x.f0, .int .i64 x.f1, .int .i64 x.f2, .int .i64 x.f3, .int .i64 x.f4], .pointer (some ⟨gh, 0, none⟩), .pointer (some ⟨ga, 0, none⟩)] W fun e w' => e = .returned (.bool (gameIs h a x)) ∧ Below W.heap.size W w' := by
  have hl1 : gh < W.heap.size := World.block_lt_of_cell? W _ hh
  have hl2 : ga < W.heap.size := World.block_lt_of_cell? W _ ha
  have hT : ∀ b, gameIs h a x = b → ((x.f0 == h) && (x.f1 == a)) = b := fun b h => h
  generalize gameIs h a x = b at hT
  have HT := dk (hT b rfl)
  clear hT
  cases h3 : x.f0 == h with
  | true =>
    have hb : b = (x.f1 == a) := by rw [← HT.out, h3]; rfl
    subst hb
    clear HT
    go_enter Try.func187, Try.ntmps187
    go_wp2
    go_ret
    exact ⟨rfl, below_alloc (Below.refl _ _) _⟩
  | false =>
    have hb : b = false := by rw [← HT.out, h3]; rfl
    subst hb
    clear HT
    go_enter Try.func187, Try.ntmps187
    go_wp2
    go_ret
    exact ⟨rfl, below_alloc (Below.refl _ _) _⟩
set_option maxHeartbeats 4000000 in
theorem impl_GameOf.calls (A0 : Option Addr) (c0 : Nat) (l0 : List (S95)) (a1 : Int) (a2 : Int) (r : Int) (w : World) (hr0 : Kd.C k95 w A0 l0.length l0) (hc0 : l0.length ≤ c0) (h : impl_GameOf.f l0 a1 a2 = some r) :
    Calls Try.prog 165 #[.slice A0 l0.length c0, .int .i64 a1, .int .i64 a2] w fun e w' => e = .returned (.int .i64 r) ∧ Below w.heap.size w w' := by
  have HR := dk (Option.some.inj h)
  have HR0 := dk hr0
  clear h hr0 hc0
  have eg := my_enters Try.func187 (by kernel_rfl) rfl
  have HG := dk eg
  clear eg
  go_enter Try.func165, Try.ntmps165
  go_wp2_with fail
  refine ((slices_IndexFunc_impl_Game_impl_Game.calls 187 #[.pointer (some ⟨w.heap.size, 0, none⟩), .pointer (some ⟨w.heap.size + 1, 0, none⟩)] HG.out (gameIs a1 a2) A0 c0 l0.length l0 w _ (below_alloc (below_alloc (Below.refl _ _) _) _) HR0.out (fun W x hW _ => impl_GameOf_1.calls w.heap.size (w.heap.size + 1) a1 a2 x W ?_ ?_)).mono ?_)
  · exact pw_cell_below hW (by simp)
  · exact pw_cell_below hW (by simp)
  rintro e w2 ⟨rfl, hb2⟩
  have HB2 := dk (below_step (below_alloc (below_alloc (Below.refl _ _) _) _) hb2)
  clear hb2
  generalize hi : idxI (gameIs a1 a2) l0 = i at HR
  have HI := dk hi
  clear hi
  go_wp2_with fail
  go_ret
  exact ⟨by rw [← HR.out]; rfl, HB2.out⟩
def impl_SeasonOk.l0 : Nat → Int → List (S95) → List (S95) → Int → Int → Option (Bool)
 | 0, _, _, _, _, _ => none
 | k + 1, x0, x1, x7, x8, x9 => if x9 < x8 then (if 0 ≤ x9 then (if x9 < (x7.length : Int) then ((impl_GameOk.f k x0 ((rd_T95 x7 x9).f0) ((rd_T95 x7 x9).f1) ((rd_T95 x7 x9).f2) ((rd_T95 x7 x9).f3) ((rd_T95 x7 x9).f4)).bind fun t325 => (if t325 = true then (if x9 ≤ (x1.length : Int) then ((impl_GameOf.f (x1.take (x9 : Int).toNat) ((rd_T95 x7 x9).f0) ((rd_T95 x7 x9).f1)).bind fun t330 => (if t330 ≥ 0 then (some false) else (impl_SeasonOk.l0 k x0 x1 x7 x8 (wrap64 (x9 + 1))))) else (none)) else (some false))) else (none)) else (none)) else (some (decide ((x1.length : Int) ≤ 60)))
def impl_SeasonOk.f (k : Nat) (a0 : Int) (l1 : List (S95)) : Option (Bool) := impl_SeasonOk.l0 k a0 l1 l1 (l1.length : Int) 0
def impl_SeasonOk.T4 : Bool × List (List Nat × List Nat) := (true, [([], []), ([], []), ([0, 1], [0, 1]), ([2], [2]), ([3, 2], [3]), ([4], [4]), ([4], [4]), ([5, 6, 4], [4, 5, 6]), ([4], [4]), ([8, 4], [4, 8]), ([4], [4]), ([10, 4], [4, 10]), ([7, 9, 11, 4, 4], [4, 7, 9, 11]), ([12, 4], [4, 12]), ([4, 13], [4, 13])])
def impl_SeasonOk.B4 : List Nat := [0, 0, 3, 7, 15, 31, 31, 127, 31, 287, 31, 1055, 4095, 8191, 16383]
theorem impl_SeasonOk.tab4 : rtab .any (opsOf Try.f124 4) = impl_SeasonOk.T4 := by kernel_rfl
theorem impl_SeasonOk.bits4 : waitsOk impl_SeasonOk.T4.2 impl_SeasonOk.B4 = true := by kernel_rfl
theorem impl_SeasonOk.calls (k : Nat) (a0 : Int) (A1 : Option Addr) (c1 : Nat) (l1 : List (S95)) (r : Bool) (w : World) (hr1 : Kd.C k95 w A1 l1.length l1) (hc1 : l1.length ≤ c1) (h : impl_SeasonOk.f k a0 l1 = some r) :
  Calls Try.prog 124 #[.int .i64 a0, .slice A1 l1.length c1] w fun e w' => e = .returned (.bool r) ∧ Below w.heap.size w w' := by
 have hu95 := Try.underlying95
 have HR1 := dk hr1
 have HC1 := dk hc1
 clear hr1 hc1
 have HB := dk (Below.refl w.heap.size w)
 have H : (impl_SeasonOk.l0 k a0 l1 l1 (l1.length : Int) 0) = some r := h
 clear h
 have H' := dk H
 clear H
 go_enter Try.func124, Try.ntmps124
 go_wp2
 go_loopg [9] k (fun kq v9 w' => ∃ (x9_1 : Int), v9 = .int .i64 x9_1 ∧ Aside0 (impl_SeasonOk.l0 kq a0 l1 l1 (l1.length : Int) x9_1 = some r) ∧ Aside0 (kq ≤ k) ∧ Aside0 (Below w.heap.size w w'))
 case atStart => exact ⟨(0), e2_, H', ⟨Nat.le_refl _⟩, ⟨bb HB⟩⟩
 case round =>
  clear H'
  (try clear c1)
  (try clear p2)
  obtain ⟨x9_1, rfl, HA, HK1, HB⟩ := hrel
  cases gk with
  | zero => exact absurd HA.out (by simp [impl_SeasonOk.l0])
  | succ k1 =>
   have H := HA.out
   clear HA
   simp only [impl_SeasonOk.l0] at H
   by_cases c3 : x9_1 < (l1.length : Int)
   ·rw [if_pos c3] at H
    have c3b0 : decide (x9_1 < (l1.length : Int)) = true := decide_eq_true c3
    clear c3
    by_cases c4 : 0 ≤ x9_1
    ·rw [if_pos c4] at H
     have c4b0 : decide (0 ≤ x9_1) = true := decide_eq_true c4
     clear c4
     by_cases c5 : x9_1 < (l1.length : Int)
     ·rw [if_pos c5] at H
      have c5b0 : decide (x9_1 < (l1.length : Int)) = true := decide_eq_true c5
      clear c5
      replace H := Option.bind_eq_some_iff.mp H
      obtain ⟨t325, A60, H⟩ := H
      try dsimp only at H
      have A6 := dk A60
      clear A60
      by_cases c7 : t325 = true
      ·subst c7
       rw [if_pos rfl] at H
       have c8b0 := eq_true (oa : 0 ≤ x9_1)
       by_cases c9 : x9_1 ≤ (l1.length : Int)
       ·rw [if_pos c9] at H
        have c9b0 := eq_true c9
        have c9b1 : decide (x9_1 ≤ (l1.length : Int)) = true := decide_eq_true c9
        clear c9
        obtain ⟨y326, hy326⟩ : ∃ y_ : List (S95), y_ = (l1.take (x9_1 : Int).toNat) := ⟨_, rfl⟩
        replace H : ((impl_GameOf.f y326 ((rd_T95 l1 x9_1).f0) ((rd_T95 l1 x9_1).f1)).bind fun t330 => (if t330 ≥ 0 then (some false) else (impl_SeasonOk.l0 k1 a0 l1 l1 (l1.length : Int) (wrap64 (x9_1 + 1))))) = some r := by first | (rw [hy326]; with_reducible exact H) | (have H2_ := (Option.bind_some _ _).symm.trans H; rw [hy326]; with_reducible exact H2_) | (have H2_ := (Option.bind_some _ _).symm.trans H; with_reducible exact H2_) | with_reducible exact H | (rw [hy326]; exact H) | exact H
        have Ny326 := dk hy326
        clear hy326
        replace H := Option.bind_eq_some_iff.mp H
        obtain ⟨t330, A100, H⟩ := H
        try dsimp only at H
        have A10 := dk A100
        clear A100
        by_cases c11 : t330 ≥ 0
        ·rw [if_pos c11] at H
         have c11b0 : decide (0 ≤ t330) = true := decide_eq_true c11
         clear c11
         obtain rfl := Option.some.inj H
         have p323 : 0 ≤ (x9_1 : Int) := oa
         have q323 : x9_1 < (l1.length : Int) := oa
         obtain ⟨ad323, e323, hx323_0, hx323_1, hx323_2, hx323_3, hx323_4⟩ := at_T95 HR1.out x9_1 p323 q323
         cases e323
         replace hx323_0 := hc HB hx323_0
         replace hx323_1 := hc HB hx323_1
         replace hx323_2 := hc HB hx323_2
         replace hx323_3 := hc HB hx323_3
         replace hx323_4 := hc HB hx323_4
         replace p323 := eq_true p323
         replace q323 := eq_true q323
         try go_wp2_with (first | ((with_reducible refine gate_dst (N := 6) rfl ?_); refine bx (N := 6) (cs := #[.int .i64 0, .int .i64 0, .int .i64 0, .int .i64 0, .int .i64 0]) (t := 95) ?_; intro gb324 hg w12 hbox hb; have BK324 := dk (hbox); have GW324 := gs hg HB; have GE324 := gs hg HB; replace HB := hs_ HB hb; clear hb hbox hg; have ⟨z13_0, z13_1, z13_2, z13_3, z13_4, v13_0, v13_1, v13_2, v13_3, v13_4⟩ := rz5 BK324))
         have n0_ : Aside0 ((((((w12.setCell ⟨gb324, 0, none⟩ (.int .i64 ((rd_T95 l1 x9_1).f0))).setCell ⟨gb324, 1, none⟩ (.int .i64 ((rd_T95 l1 x9_1).f1))).setCell ⟨gb324, 2, none⟩ (.int .i64 ((rd_T95 l1 x9_1).f2))).setCell ⟨gb324, 3, none⟩ (.int .i64 ((rd_T95 l1 x9_1).f3))).setCell ⟨gb324, 4, none⟩ (.int .i64 ((rd_T95 l1 x9_1).f4))).heap[gb324]? = some (.cells #[.int .i64 ((rd_T95 l1 x9_1).f0), .int .i64 ((rd_T95 l1 x9_1).f1), .int .i64 ((rd_T95 l1 x9_1).f2), .int .i64 ((rd_T95 l1 x9_1).f3), .int .i64 ((rd_T95 l1 x9_1).f4)] 95 (0, 0))) := ⟨by (with_reducible repeat (first | refine blk_drewN ?_ _ | refine blk_drew ?_ | refine blk_alloc ?_ _)); refine blk_put (cs := #[.int .i64 ((rd_T95 l1 x9_1).f0), .int .i64 ((rd_T95 l1 x9_1).f1), .int .i64 ((rd_T95 l1 x9_1).f2), .int .i64 ((rd_T95 l1 x9_1).f3), .int .i64 0]) ?_ 4 _ rfl; (with_reducible repeat (first | refine blk_drewN ?_ _ | refine blk_drew ?_ | refine blk_alloc ?_ _)); refine blk_put (cs := #[.int .i64 ((rd_T95 l1 x9_1).f0), .int .i64 ((rd_T95 l1 x9_1).f1), .int .i64 ((rd_T95 l1 x9_1).f2), .int .i64 0, .int .i64 0]) ?_ 3 _ rfl; (with_reducible repeat (first | refine blk_drewN ?_ _ | refine blk_drew ?_ | refine blk_alloc ?_ _)); refine blk_put (cs := #[.int .i64 ((rd_T95 l1 x9_1).f0), .int .i64 ((rd_T95 l1 x9_1).f1), .int .i64 0, .int .i64 0, .int .i64 0]) ?_ 2 _ rfl; (with_reducible repeat (first | refine blk_drewN ?_ _ | refine blk_drew ?_ | refine blk_alloc ?_ _)); refine blk_put (cs := #[.int .i64 ((rd_T95 l1 x9_1).f0), .int .i64 0, .int .i64 0, .int .i64 0, .int .i64 0]) ?_ 1 _ rfl; (with_reducible repeat (first | refine blk_drewN ?_ _ | refine blk_drew ?_ | refine blk_alloc ?_ _)); refine blk_put (cs := #[.int .i64 0, .int .i64 0, .int .i64 0, .int .i64 0, .int .i64 0]) ?_ 0 _ rfl; (with_reducible repeat (first | refine blk_drewN ?_ _ | refine blk_drew ?_ | refine blk_alloc ?_ _)); exact BK324.out⟩
         have n1_ : Aside0 (Below w.heap.size w (((((w12.setCell ⟨gb324, 0, none⟩ (.int .i64 ((rd_T95 l1 x9_1).f0))).setCell ⟨gb324, 1, none⟩ (.int .i64 ((rd_T95 l1 x9_1).f1))).setCell ⟨gb324, 2, none⟩ (.int .i64 ((rd_T95 l1 x9_1).f2))).setCell ⟨gb324, 3, none⟩ (.int .i64 ((rd_T95 l1 x9_1).f3))).setCell ⟨gb324, 4, none⟩ (.int .i64 ((rd_T95 l1 x9_1).f4)))) := ⟨bb HB⟩
         (try clear BK324)
         (try clear HB)
         generalize (((((w12.setCell ⟨gb324, 0, none⟩ (.int .i64 ((rd_T95 l1 x9_1).f0))).setCell ⟨gb324, 1, none⟩ (.int .i64 ((rd_T95 l1 x9_1).f1))).setCell ⟨gb324, 2, none⟩ (.int .i64 ((rd_T95 l1 x9_1).f2))).setCell ⟨gb324, 3, none⟩ (.int .i64 ((rd_T95 l1 x9_1).f3))).setCell ⟨gb324, 4, none⟩ (.int .i64 ((rd_T95 l1 x9_1).f4))) = w14 at n0_ n1_ ⊢
         have BK324 := n0_
         have HB := n1_
         clear n0_ n1_
         replace BK324 := dk (blk_drew BK324.out)
         replace HB := dk (below_drew1 HB.out)
         refine start_ (n := 15) (S := fun w' => w'.cell? ⟨gb324, 0, none⟩ = some (.int .i64 ((rd_T95 l1 x9_1).f0)) ∧ w'.cell? ⟨gb324, 1, none⟩ = some (.int .i64 ((rd_T95 l1 x9_1).f1)) ∧ w'.cell? ⟨gb324, 2, none⟩ = some (.int .i64 ((rd_T95 l1 x9_1).f2)) ∧ w'.cell? ⟨gb324, 3, none⟩ = some (.int .i64 ((rd_T95 l1 x9_1).f3)) ∧ w'.cell? ⟨gb324, 4, none⟩ = some (.int .i64 ((rd_T95 l1 x9_1).f4))) (ds := []) #[false, false, false, false, false, false, false, false, false, false, false, false, false, false, false] (by kernel_rfl) rfl rfl ⟨bc BK324 0, bc BK324 1, bc BK324 2, bc BK324 3, bc BK324 4⟩ (fun hHeld => ?_); refine with_tabW impl_SeasonOk.tab4 impl_SeasonOk.bits4 (fun HT_ HW_ => ?_)
         generalize w14.drew = w15 at BK324 HB hHeld ⊢
         refine pz_ 0 14 ?_
         refine tk_ 1 15 ?_
         refine one_ (i := 2) (N := some 16) #[true, true, true, false, false, false, false, false, false, false, false, false, false, false, false] rfl rfl (one_of HT_.out (by kernel_rfl)) (by decide) (fun K hK => ?_)
         refine goes_ Try.func164 (by kernel_rfl) rfl #[.int .i64 a0, .agg #[.int .i64 ((rd_T95 l1 x9_1).f0), .int .i64 ((rd_T95 l1 x9_1).f1), .int .i64 ((rd_T95 l1 x9_1).f2), .int .i64 ((rd_T95 l1 x9_1).f3), .int .i64 ((rd_T95 l1 x9_1).f4)]] (by rfl) rfl rfl (by (try simp only [List.map_toArray, List.map_cons, List.map_nil]); first | done | rfl | (simp only [List.length_drop, List.length_take]; rfl)) ?_
         with_reducible refine (impl_GameOk.calls k1 a0 ((rd_T95 l1 x9_1).f0) ((rd_T95 l1 x9_1).f1) ((rd_T95 l1 x9_1).f2) ((rd_T95 l1 x9_1).f3) ((rd_T95 l1 x9_1).f4) true _ A6.out).mono ?_
         rintro e w16 ⟨rfl, hb⟩
         refine ⟨_, rfl, ?_⟩
         replace BK324 := kb BK324 hb
         replace HB := hs_ HB hb
         (try clear hb hb2 hk hi)
         have q17 : (x9_1 : Int) ≤ ((l1.length : Int) : Int) := oa
         obtain ⟨i017, hi017, _, hsz17, _⟩ := info_parts info95
         have hroom17 : l1.length ≤ c1 := HC1.out
         have hC17 : Kd.C k95 _ (some ad323) l1.length l1 := HR1.out
         have hcut17 := cut_to (P := Try.prog) 34 95 .i64 Try.underlying34 hi017 (some ad323) l1.length c1 x9_1 (oa) q17 hroom17
         have hr17 := Kd.C_take (m := (x9_1 : Int).toNat) hC17 (by omega)
         have hy17 : y326.length = (x9_1 : Int).toNat := (by rw [Ny326.out, List.length_take]; omega)
         rw [← Ny326.out] at hr17
         rw [← hy17] at hcut17
         have HR329 := dk hr17
         have HC329 := dk (show y326.length ≤ c1 from by omega)
         clear hr17 hC17 hroom17 hi017 hsz17
         have KY17 := dk hy17
         clear hy17
         replace q17 := eq_true q17
         refine hK.out _ _ ⟨bc BK324 0, bc BK324 1, bc BK324 2, bc BK324 3, bc BK324 4⟩ (fun hHeld => ?_)
         clear hK K
         refine norm_ (a' := ?_) ?_ ?_
         rotate_left
         ·show Act.put _ (some 16) _ = _
          simp only [Act.put, List.setIfInBounds_toArray, List.set_cons_zero, List.set_cons_succ, i64_w, i32_w]
          rfl
         refine pz_ 3 17 ?_
         refine pz_ 4 18 ?_
         refine pz_ 5 19 ?_
         refine pz_ 6 20 ?_
         refine pz_ 7 21 ?_
         refine pz_ 8 22 ?_
         refine pz_ 10 24 ?_
         refine tk_ 9 23 ?_
         refine tk_ 11 25 ?_
         refine one_ (i := 12) (N := some 26) #[true, true, true, true, true, true, true, true, true, true, true, true, true, false, false] rfl rfl (one_of HT_.out (by kernel_rfl)) (by decide) (fun K hK => ?_)
         refine goes_ Try.func165 (by kernel_rfl) rfl #[.slice (some ad323) y326.length c1, .int .i64 ((rd_T95 l1 x9_1).f0), .int .i64 ((rd_T95 l1 x9_1).f1)] (by rfl) rfl rfl (by (try simp only [List.map_toArray, List.map_cons, List.map_nil]); first | done | rfl | (simp only [List.length_drop, List.length_take]; rfl)) ?_
         with_reducible refine (impl_GameOf.calls _ _ y326 ((rd_T95 l1 x9_1).f0) ((rd_T95 l1 x9_1).f1) t330 _ ?side1 ?side2 A10.out).mono ?_
         (case side1 => exact cc HR329 HB)
         (case side2 => exact HC329.out)
         rintro e w18 ⟨rfl, hb⟩
         refine ⟨_, rfl, ?_⟩
         replace BK324 := kb BK324 hb
         replace HB := hs_ HB hb
         (try clear hb hb2 hk hi)
         refine hK.out _ _ ⟨bc BK324 0, bc BK324 1, bc BK324 2, bc BK324 3, bc BK324 4⟩ (fun hHeld => ?_)
         clear hK K
         refine norm_ (a' := ?_) ?_ ?_
         rotate_left
         ·show Act.put _ (some 26) _ = _
          simp only [Act.put, List.setIfInBounds_toArray, List.set_cons_zero, List.set_cons_succ, i64_w, i32_w]
          rfl
         refine pz_ 13 27 ?_
         refine pz_ 14 28 ?_
         refine done_ (done_of HT_.out (by kernel_rfl)) ?_
         try go_wp2
         go_ret
         exact ⟨ee, bb HB⟩
        ·rw [if_neg c11] at H
         have c11b0 : decide (0 ≤ t330) = false := decide_eq_false c11
         clear c11
         have H' := dk H
         clear H
         have p323 : 0 ≤ (x9_1 : Int) := oa
         have q323 : x9_1 < (l1.length : Int) := oa
         obtain ⟨ad323, e323, hx323_0, hx323_1, hx323_2, hx323_3, hx323_4⟩ := at_T95 HR1.out x9_1 p323 q323
         cases e323
         replace hx323_0 := hc HB hx323_0
         replace hx323_1 := hc HB hx323_1
         replace hx323_2 := hc HB hx323_2
         replace hx323_3 := hc HB hx323_3
         replace hx323_4 := hc HB hx323_4
         replace p323 := eq_true p323
         replace q323 := eq_true q323
         try go_wp2_with (first | ((with_reducible refine gate_dst (N := 6) rfl ?_); refine bx (N := 6) (cs := #[.int .i64 0, .int .i64 0, .int .i64 0, .int .i64 0, .int .i64 0]) (t := 95) ?_; intro gb324 hg w19 hbox hb; have BK324 := dk (hbox); have GW324 := gs hg HB; have GE324 := gs hg HB; replace HB := hs_ HB hb; clear hb hbox hg; have ⟨z20_0, z20_1, z20_2, z20_3, z20_4, v20_0, v20_1, v20_2, v20_3, v20_4⟩ := rz5 BK324))
         have n0_ : Aside0 ((((((w19.setCell ⟨gb324, 0, none⟩ (.int .i64 ((rd_T95 l1 x9_1).f0))).setCell ⟨gb324, 1, none⟩ (.int .i64 ((rd_T95 l1 x9_1).f1))).setCell ⟨gb324, 2, none⟩ (.int .i64 ((rd_T95 l1 x9_1).f2))).setCell ⟨gb324, 3, none⟩ (.int .i64 ((rd_T95 l1 x9_1).f3))).setCell ⟨gb324, 4, none⟩ (.int .i64 ((rd_T95 l1 x9_1).f4))).heap[gb324]? = some (.cells #[.int .i64 ((rd_T95 l1 x9_1).f0), .int .i64 ((rd_T95 l1 x9_1).f1), .int .i64 ((rd_T95 l1 x9_1).f2), .int .i64 ((rd_T95 l1 x9_1).f3), .int .i64 ((rd_T95 l1 x9_1).f4)] 95 (0, 0))) := ⟨by (with_reducible repeat (first | refine blk_drewN ?_ _ | refine blk_drew ?_ | refine blk_alloc ?_ _)); refine blk_put (cs := #[.int .i64 ((rd_T95 l1 x9_1).f0), .int .i64 ((rd_T95 l1 x9_1).f1), .int .i64 ((rd_T95 l1 x9_1).f2), .int .i64 ((rd_T95 l1 x9_1).f3), .int .i64 0]) ?_ 4 _ rfl; (with_reducible repeat (first | refine blk_drewN ?_ _ | refine blk_drew ?_ | refine blk_alloc ?_ _)); refine blk_put (cs := #[.int .i64 ((rd_T95 l1 x9_1).f0), .int .i64 ((rd_T95 l1 x9_1).f1), .int .i64 ((rd_T95 l1 x9_1).f2), .int .i64 0, .int .i64 0]) ?_ 3 _ rfl; (with_reducible repeat (first | refine blk_drewN ?_ _ | refine blk_drew ?_ | refine blk_alloc ?_ _)); refine blk_put (cs := #[.int .i64 ((rd_T95 l1 x9_1).f0), .int .i64 ((rd_T95 l1 x9_1).f1), .int .i64 0, .int .i64 0, .int .i64 0]) ?_ 2 _ rfl; (with_reducible repeat (first | refine blk_drewN ?_ _ | refine blk_drew ?_ | refine blk_alloc ?_ _)); refine blk_put (cs := #[.int .i64 ((rd_T95 l1 x9_1).f0), .int .i64 0, .int .i64 0, .int .i64 0, .int .i64 0]) ?_ 1 _ rfl; (with_reducible repeat (first | refine blk_drewN ?_ _ | refine blk_drew ?_ | refine blk_alloc ?_ _)); refine blk_put (cs := #[.int .i64 0, .int .i64 0, .int .i64 0, .int .i64 0, .int .i64 0]) ?_ 0 _ rfl; (with_reducible repeat (first | refine blk_drewN ?_ _ | refine blk_drew ?_ | refine blk_alloc ?_ _)); exact BK324.out⟩
         have n1_ : Aside0 (Below w.heap.size w (((((w19.setCell ⟨gb324, 0, none⟩ (.int .i64 ((rd_T95 l1 x9_1).f0))).setCell ⟨gb324, 1, none⟩ (.int .i64 ((rd_T95 l1 x9_1).f1))).setCell ⟨gb324, 2, none⟩ (.int .i64 ((rd_T95 l1 x9_1).f2))).setCell ⟨gb324, 3, none⟩ (.int .i64 ((rd_T95 l1 x9_1).f3))).setCell ⟨gb324, 4, none⟩ (.int .i64 ((rd_T95 l1 x9_1).f4)))) := ⟨bb HB⟩
         (try clear BK324)
         (try clear HB)
         generalize (((((w19.setCell ⟨gb324, 0, none⟩ (.int .i64 ((rd_T95 l1 x9_1).f0))).setCell ⟨gb324, 1, none⟩ (.int .i64 ((rd_T95 l1 x9_1).f1))).setCell ⟨gb324, 2, none⟩ (.int .i64 ((rd_T95 l1 x9_1).f2))).setCell ⟨gb324, 3, none⟩ (.int .i64 ((rd_T95 l1 x9_1).f3))).setCell ⟨gb324, 4, none⟩ (.int .i64 ((rd_T95 l1 x9_1).f4))) = w21 at n0_ n1_ ⊢
         have BK324 := n0_
         have HB := n1_
         clear n0_ n1_
         replace BK324 := dk (blk_drew BK324.out)
         replace HB := dk (below_drew1 HB.out)
         refine start_ (n := 15) (S := fun w' => w'.cell? ⟨gb324, 0, none⟩ = some (.int .i64 ((rd_T95 l1 x9_1).f0)) ∧ w'.cell? ⟨gb324, 1, none⟩ = some (.int .i64 ((rd_T95 l1 x9_1).f1)) ∧ w'.cell? ⟨gb324, 2, none⟩ = some (.int .i64 ((rd_T95 l1 x9_1).f2)) ∧ w'.cell? ⟨gb324, 3, none⟩ = some (.int .i64 ((rd_T95 l1 x9_1).f3)) ∧ w'.cell? ⟨gb324, 4, none⟩ = some (.int .i64 ((rd_T95 l1 x9_1).f4))) (ds := []) #[false, false, false, false, false, false, false, false, false, false, false, false, false, false, false] (by kernel_rfl) rfl rfl ⟨bc BK324 0, bc BK324 1, bc BK324 2, bc BK324 3, bc BK324 4⟩ (fun hHeld => ?_); refine with_tabW impl_SeasonOk.tab4 impl_SeasonOk.bits4 (fun HT_ HW_ => ?_)
         generalize w21.drew = w22 at BK324 HB hHeld ⊢
         refine pz_ 0 14 ?_
         refine tk_ 1 15 ?_
         refine one_ (i := 2) (N := some 16) #[true, true, true, false, false, false, false, false, false, false, false, false, false, false, false] rfl rfl (one_of HT_.out (by kernel_rfl)) (by decide) (fun K hK => ?_)
         refine goes_ Try.func164 (by kernel_rfl) rfl #[.int .i64 a0, .agg #[.int .i64 ((rd_T95 l1 x9_1).f0), .int .i64 ((rd_T95 l1 x9_1).f1), .int .i64 ((rd_T95 l1 x9_1).f2), .int .i64 ((rd_T95 l1 x9_1).f3), .int .i64 ((rd_T95 l1 x9_1).f4)]] (by rfl) rfl rfl (by (try simp only [List.map_toArray, List.map_cons, List.map_nil]); first | done | rfl | (simp only [List.length_drop, List.length_take]; rfl)) ?_
         with_reducible refine (impl_GameOk.calls k1 a0 ((rd_T95 l1 x9_1).f0) ((rd_T95 l1 x9_1).f1) ((rd_T95 l1 x9_1).f2) ((rd_T95 l1 x9_1).f3) ((rd_T95 l1 x9_1).f4) true _ A6.out).mono ?_
         rintro e w23 ⟨rfl, hb⟩
         refine ⟨_, rfl, ?_⟩
         replace BK324 := kb BK324 hb
         replace HB := hs_ HB hb
         (try clear hb hb2 hk hi)
         have q24 : (x9_1 : Int) ≤ ((l1.length : Int) : Int) := oa
         obtain ⟨i024, hi024, _, hsz24, _⟩ := info_parts info95
         have hroom24 : l1.length ≤ c1 := HC1.out
         have hC24 : Kd.C k95 _ (some ad323) l1.length l1 := HR1.out
         have hcut24 := cut_to (P := Try.prog) 34 95 .i64 Try.underlying34 hi024 (some ad323) l1.length c1 x9_1 (oa) q24 hroom24
         have hr24 := Kd.C_take (m := (x9_1 : Int).toNat) hC24 (by omega)
         have hy24 : y326.length = (x9_1 : Int).toNat := (by rw [Ny326.out, List.length_take]; omega)
         rw [← Ny326.out] at hr24
         rw [← hy24] at hcut24
         have HR329 := dk hr24
         have HC329 := dk (show y326.length ≤ c1 from by omega)
         clear hr24 hC24 hroom24 hi024 hsz24
         have KY24 := dk hy24
         clear hy24
         replace q24 := eq_true q24
         refine hK.out _ _ ⟨bc BK324 0, bc BK324 1, bc BK324 2, bc BK324 3, bc BK324 4⟩ (fun hHeld => ?_)
         clear hK K
         refine norm_ (a' := ?_) ?_ ?_
         rotate_left
         ·show Act.put _ (some 16) _ = _
          simp only [Act.put, List.setIfInBounds_toArray, List.set_cons_zero, List.set_cons_succ, i64_w, i32_w]
          rfl
         refine pz_ 3 17 ?_
         refine pz_ 4 18 ?_
         refine pz_ 5 19 ?_
         refine pz_ 6 20 ?_
         refine pz_ 7 21 ?_
         refine pz_ 8 22 ?_
         refine pz_ 10 24 ?_
         refine tk_ 9 23 ?_
         refine tk_ 11 25 ?_
         refine one_ (i := 12) (N := some 26) #[true, true, true, true, true, true, true, true, true, true, true, true, true, false, false] rfl rfl (one_of HT_.out (by kernel_rfl)) (by decide) (fun K hK => ?_)
         refine goes_ Try.func165 (by kernel_rfl) rfl #[.slice (some ad323) y326.length c1, .int .i64 ((rd_T95 l1 x9_1).f0), .int .i64 ((rd_T95 l1 x9_1).f1)] (by rfl) rfl rfl (by (try simp only [List.map_toArray, List.map_cons, List.map_nil]); first | done | rfl | (simp only [List.length_drop, List.length_take]; rfl)) ?_
         with_reducible refine (impl_GameOf.calls _ _ y326 ((rd_T95 l1 x9_1).f0) ((rd_T95 l1 x9_1).f1) t330 _ ?side1 ?side2 A10.out).mono ?_
         (case side1 => exact cc HR329 HB)
         (case side2 => exact HC329.out)
         rintro e w25 ⟨rfl, hb⟩
         refine ⟨_, rfl, ?_⟩
         replace BK324 := kb BK324 hb
         replace HB := hs_ HB hb
         (try clear hb hb2 hk hi)
         refine hK.out _ _ ⟨bc BK324 0, bc BK324 1, bc BK324 2, bc BK324 3, bc BK324 4⟩ (fun hHeld => ?_)
         clear hK K
         refine norm_ (a' := ?_) ?_ ?_
         rotate_left
         ·show Act.put _ (some 26) _ = _
          simp only [Act.put, List.setIfInBounds_toArray, List.set_cons_zero, List.set_cons_succ, i64_w, i32_w]
          rfl
         refine pz_ 13 27 ?_
         refine pz_ 14 28 ?_
         refine done_ (done_of HT_.out (by kernel_rfl)) ?_
         try go_wp2
         go_roundg k1
         case measure => have := HK1.out; omega
         case rel => exact ⟨(wrap64 (x9_1 + 1)), e2_, H', ⟨by have := HK1.out; omega⟩, ⟨bb HB⟩⟩
       ·rw [if_neg c9] at H
        exact absurd H (by simp)
      ·replace c7 := Bool.eq_false_iff.mpr c7
       subst c7
       rw [if_neg (show ¬ (false = true) by decide)] at H
       obtain rfl := Option.some.inj H
       have p323 : 0 ≤ (x9_1 : Int) := oa
       have q323 : x9_1 < (l1.length : Int) := oa
       obtain ⟨ad323, e323, hx323_0, hx323_1, hx323_2, hx323_3, hx323_4⟩ := at_T95 HR1.out x9_1 p323 q323
       cases e323
       replace hx323_0 := hc HB hx323_0
       replace hx323_1 := hc HB hx323_1
       replace hx323_2 := hc HB hx323_2
       replace hx323_3 := hc HB hx323_3
       replace hx323_4 := hc HB hx323_4
       replace p323 := eq_true p323
       replace q323 := eq_true q323
       try go_wp2_with (first | ((with_reducible refine gate_dst (N := 6) rfl ?_); refine bx (N := 6) (cs := #[.int .i64 0, .int .i64 0, .int .i64 0, .int .i64 0, .int .i64 0]) (t := 95) ?_; intro gb324 hg w26 hbox hb; have BK324 := dk (hbox); have GW324 := gs hg HB; have GE324 := gs hg HB; replace HB := hs_ HB hb; clear hb hbox hg; have ⟨z27_0, z27_1, z27_2, z27_3, z27_4, v27_0, v27_1, v27_2, v27_3, v27_4⟩ := rz5 BK324))
       have n0_ : Aside0 ((((((w26.setCell ⟨gb324, 0, none⟩ (.int .i64 ((rd_T95 l1 x9_1).f0))).setCell ⟨gb324, 1, none⟩ (.int .i64 ((rd_T95 l1 x9_1).f1))).setCell ⟨gb324, 2, none⟩ (.int .i64 ((rd_T95 l1 x9_1).f2))).setCell ⟨gb324, 3, none⟩ (.int .i64 ((rd_T95 l1 x9_1).f3))).setCell ⟨gb324, 4, none⟩ (.int .i64 ((rd_T95 l1 x9_1).f4))).heap[gb324]? = some (.cells #[.int .i64 ((rd_T95 l1 x9_1).f0), .int .i64 ((rd_T95 l1 x9_1).f1), .int .i64 ((rd_T95 l1 x9_1).f2), .int .i64 ((rd_T95 l1 x9_1).f3), .int .i64 ((rd_T95 l1 x9_1).f4)] 95 (0, 0))) := ⟨by (with_reducible repeat (first | refine blk_drewN ?_ _ | refine blk_drew ?_ | refine blk_alloc ?_ _)); refine blk_put (cs := #[.int .i64 ((rd_T95 l1 x9_1).f0), .int .i64 ((rd_T95 l1 x9_1).f1), .int .i64 ((rd_T95 l1 x9_1).f2), .int .i64 ((rd_T95 l1 x9_1).f3), .int .i64 0]) ?_ 4 _ rfl; (with_reducible repeat (first | refine blk_drewN ?_ _ | refine blk_drew ?_ | refine blk_alloc ?_ _)); refine blk_put (cs := #[.int .i64 ((rd_T95 l1 x9_1).f0), .int .i64 ((rd_T95 l1 x9_1).f1), .int .i64 ((rd_T95 l1 x9_1).f2), .int .i64 0, .int .i64 0]) ?_ 3 _ rfl; (with_reducible repeat (first | refine blk_drewN ?_ _ | refine blk_drew ?_ | refine blk_alloc ?_ _)); refine blk_put (cs := #[.int .i64 ((rd_T95 l1 x9_1).f0), .int .i64 ((rd_T95 l1 x9_1).f1), .int .i64 0, .int .i64 0, .int .i64 0]) ?_ 2 _ rfl; (with_reducible repeat (first | refine blk_drewN ?_ _ | refine blk_drew ?_ | refine blk_alloc ?_ _)); refine blk_put (cs := #[.int .i64 ((rd_T95 l1 x9_1).f0), .int .i64 0, .int .i64 0, .int .i64 0, .int .i64 0]) ?_ 1 _ rfl; (with_reducible repeat (first | refine blk_drewN ?_ _ | refine blk_drew ?_ | refine blk_alloc ?_ _)); refine blk_put (cs := #[.int .i64 0, .int .i64 0, .int .i64 0, .int .i64 0, .int .i64 0]) ?_ 0 _ rfl; (with_reducible repeat (first | refine blk_drewN ?_ _ | refine blk_drew ?_ | refine blk_alloc ?_ _)); exact BK324.out⟩
       have n1_ : Aside0 (Below w.heap.size w (((((w26.setCell ⟨gb324, 0, none⟩ (.int .i64 ((rd_T95 l1 x9_1).f0))).setCell ⟨gb324, 1, none⟩ (.int .i64 ((rd_T95 l1 x9_1).f1))).setCell ⟨gb324, 2, none⟩ (.int .i64 ((rd_T95 l1 x9_1).f2))).setCell ⟨gb324, 3, none⟩ (.int .i64 ((rd_T95 l1 x9_1).f3))).setCell ⟨gb324, 4, none⟩ (.int .i64 ((rd_T95 l1 x9_1).f4)))) := ⟨bb HB⟩
       (try clear BK324)
       (try clear HB)
       generalize (((((w26.setCell ⟨gb324, 0, none⟩ (.int .i64 ((rd_T95 l1 x9_1).f0))).setCell ⟨gb324, 1, none⟩ (.int .i64 ((rd_T95 l1 x9_1).f1))).setCell ⟨gb324, 2, none⟩ (.int .i64 ((rd_T95 l1 x9_1).f2))).setCell ⟨gb324, 3, none⟩ (.int .i64 ((rd_T95 l1 x9_1).f3))).setCell ⟨gb324, 4, none⟩ (.int .i64 ((rd_T95 l1 x9_1).f4))) = w28 at n0_ n1_ ⊢
       have BK324 := n0_
       have HB := n1_
       clear n0_ n1_
       replace BK324 := dk (blk_drew BK324.out)
       replace HB := dk (below_drew1 HB.out)
       refine start_ (n := 15) (S := fun w' => w'.cell? ⟨gb324, 0, none⟩ = some (.int .i64 ((rd_T95 l1 x9_1).f0)) ∧ w'.cell? ⟨gb324, 1, none⟩ = some (.int .i64 ((rd_T95 l1 x9_1).f1)) ∧ w'.cell? ⟨gb324, 2, none⟩ = some (.int .i64 ((rd_T95 l1 x9_1).f2)) ∧ w'.cell? ⟨gb324, 3, none⟩ = some (.int .i64 ((rd_T95 l1 x9_1).f3)) ∧ w'.cell? ⟨gb324, 4, none⟩ = some (.int .i64 ((rd_T95 l1 x9_1).f4))) (ds := []) #[false, false, false, false, false, false, false, false, false, false, false, false, false, false, false] (by kernel_rfl) rfl rfl ⟨bc BK324 0, bc BK324 1, bc BK324 2, bc BK324 3, bc BK324 4⟩ (fun hHeld => ?_); refine with_tabW impl_SeasonOk.tab4 impl_SeasonOk.bits4 (fun HT_ HW_ => ?_)
       generalize w28.drew = w29 at BK324 HB hHeld ⊢
       refine pz_ 0 14 ?_
       refine tk_ 1 15 ?_
       refine one_ (i := 2) (N := some 16) #[true, true, true, false, false, false, false, false, false, false, false, false, false, false, false] rfl rfl (one_of HT_.out (by kernel_rfl)) (by decide) (fun K hK => ?_)
       refine goes_ Try.func164 (by kernel_rfl) rfl #[.int .i64 a0, .agg #[.int .i64 ((rd_T95 l1 x9_1).f0), .int .i64 ((rd_T95 l1 x9_1).f1), .int .i64 ((rd_T95 l1 x9_1).f2), .int .i64 ((rd_T95 l1 x9_1).f3), .int .i64 ((rd_T95 l1 x9_1).f4)]] (by rfl) rfl rfl (by (try simp only [List.map_toArray, List.map_cons, List.map_nil]); first | done | rfl | (simp only [List.length_drop, List.length_take]; rfl)) ?_
       with_reducible refine (impl_GameOk.calls k1 a0 ((rd_T95 l1 x9_1).f0) ((rd_T95 l1 x9_1).f1) ((rd_T95 l1 x9_1).f2) ((rd_T95 l1 x9_1).f3) ((rd_T95 l1 x9_1).f4) false _ A6.out).mono ?_
       rintro e w30 ⟨rfl, hb⟩
       refine ⟨_, rfl, ?_⟩
       replace BK324 := kb BK324 hb
       replace HB := hs_ HB hb
       (try clear hb hb2 hk hi)
       refine hK.out _ _ ⟨bc BK324 0, bc BK324 1, bc BK324 2, bc BK324 3, bc BK324 4⟩ (fun hHeld => ?_)
       clear hK K
       refine norm_ (a' := ?_) ?_ ?_
       rotate_left
       ·show Act.put _ (some 16) _ = _
        simp only [Act.put, List.setIfInBounds_toArray, List.set_cons_zero, List.set_cons_succ, i64_w, i32_w]
        rfl
       refine pz_ 3 17 ?_
       refine pz_ 4 18 ?_
       refine pu_ 5 19 ?_
       refine pu_ 6 20 ?_
       refine pu_ 7 21 ?_
       refine pu_ 8 22 ?_
       refine pu_ 9 23 ?_
       refine pu_ 10 24 ?_
       refine pu_ 11 25 ?_
       refine pu_ 12 26 ?_
       refine pu_ 13 27 ?_
       refine pz_ 14 28 ?_
       refine done_ (done_of HT_.out (by kernel_rfl)) ?_
       try go_wp2
       go_ret
       exact ⟨ee, bb HB⟩
     ·rw [if_neg c5] at H
      exact absurd H (by simp)
    ·rw [if_neg c4] at H
     exact absurd H (by simp)
   ·rw [if_neg c3] at H
    have c3b0 : decide (x9_1 < (l1.length : Int)) = false := decide_eq_false c3
    clear c3
    obtain rfl := Option.some.inj H
    go_wp2
    go_ret
    exact ⟨ee, bb HB⟩
set_option maxHeartbeats 4000000 in
theorem slices_IndexFunc_int_int.calls (g : Nat) (lb : Array Value) (eg : ∀ args w, (callFunc g args).run Try.prog w = .ok (.enter g args) w) (p : Int → Bool) (A0 : Option Addr) (c0 n0 : Nat) (l0 : List (Int)) (w0 w : World) (hB : Below w0.heap.size w0 w) (hr0 : Kd.C (Kd.int .i64) w0 A0 n0 l0)
    (hp : ∀ (W : World) (x : Int), Below w.heap.size w W → x ∈ l0 → Calls Try.prog g (#[.int .i64 x] ++ lb) W fun e w' => e = .returned (.bool (p x)) ∧ Below W.heap.size W w') :
    Calls Try.prog 167 #[.slice A0 n0 c0, .func (.func g) #[] lb] w fun e w' => e = .returned (.int .i64 (idxI p l0)) ∧ Below w.heap.size w w' := by
  obtain rfl := Kd.C_len hr0
  have hm : l0.length ≤ 9223372036854775807 := hr0.2.1
  have HR0 := dk hr0
  have HP := dk hp
  have HW := dk hB.size
  have HB0 := dk hB
  clear hr0 hp hB
  go_enter Try.func167, Try.ntmps167
  go_wp2
  go_loopg [5, 8] l0.length (fun gg _ s8 wr => ∃ kk : Nat, kk ≤ l0.length ∧ l0.length - kk ≤ gg ∧ s8 = .int .i64 kk ∧ Aside0 (Below w.heap.size w wr) ∧ Aside0 (∀ j, j < kk → p (rd l0 j) = false))
  case atStart => exact ⟨0, Nat.zero_le _, by omega, rfl, ⟨Below.refl _ w⟩, ⟨fun j hj => absurd hj (Nat.not_lt_zero _)⟩⟩
  case round =>
    obtain ⟨kk, hkk, hg, rfl, BW, HA⟩ := hrel
    by_cases hlt : kk < l0.length
    · have hltz : (kk : Int) < (l0.length : Int) := by omega
      obtain ⟨ad, ead, h0⟩ := Kd.at_int HR0.out kk (by omega) hltz
      subst ead
      have hb1 : Below w0.heap.size w0 wr := below_then HB0.out HW.out BW.out
      have hcall := HP.out wr (rd l0 kk) BW.out (by unfold rd; simp [hlt])
      replace h0 := pw_cell_below hb1 h0
      simp only [Int.toNat_natCast] at h0
      have HB1 := dk hb1
      clear hb1
      generalize hy : rd l0 kk = y at h0 hcall
      have B := dk hy
      clear hy
      cases hq : p y with
      | true =>
        rw [hq] at hcall
        have Q := dk hq
        have HC := dk hcall
        clear hq hcall
        go_wp2_with fail
        refine HC.out.mono ?_
        rintro e w' ⟨rfl, hb'⟩
        go_wp2_with fail
        go_ret
        refine ⟨?_, below_step BW.out hb'⟩
        rw [idxI_hit p l0 kk hlt 0 (by have := B.out; unfold rd at this; simp only [Int.toNat_natCast] at this; rw [this]; exact Q.out) (fun j hj => by have := HA.out j hj; unfold rd at this; simpa using this)]
        rfl
      | false =>
        rw [hq] at hcall
        have Q := dk hq
        have HC := dk hcall
        clear hq hcall
        go_wp2_with fail
        refine HC.out.mono ?_
        rintro e w' ⟨rfl, hb'⟩
        go_wp2_with fail
        go_roundg (l0.length - (kk + 1))
        case measure => omega
        case rel =>
          refine ⟨kk + 1, by omega, by omega, by go_num, ⟨below_step BW.out hb'⟩, ⟨fun j hj => ?_⟩⟩
          by_cases e : j = kk
          · subst e
            rw [B.out]; exact Q.out
          · exact HA.out j (by omega)
    · have hltz : ¬ (kk : Int) < (l0.length : Int) := by omega
      have hd : decide ((kk : Int) < (l0.length : Int)) = false := by simp; omega
      have hd2 : decide (kk < l0.length) = false := by simp; omega
      have hk := dk (show kk = l0.length by omega)
      clear hlt hltz hg
      go_wp2_with fail
      go_ret
      obtain rfl := hk.out
      refine ⟨?_, BW.out⟩
      rw [idxI_miss p l0 0 (fun j hj => by have := HA.out j hj; unfold rd at this; simpa using this)]
      rfl
set_option maxHeartbeats 4000000 in
theorem slices_ContainsFunc_int_int.calls (g : Nat) (lb : Array Value) (eg : ∀ args w, (callFunc g args).run Try.prog w = .ok (.enter g args) w) (p : Int → Bool) (A0 : Option Addr) (c0 n0 : Nat) (l0 : List (Int)) (w0 w : World) (hB : Below w0.heap.size w0 w) (hr0 : Kd.C (Kd.int .i64) w0 A0 n0 l0)
    (hp : ∀ (W : World) (x : Int), Below w.heap.size w W → x ∈ l0 → Calls Try.prog g (#[.int .i64 x] ++ lb) W fun e w' => e = .returned (.bool (p x)) ∧ Below W.heap.size W w') :
    Calls Try.prog 141 #[.slice A0 n0 c0, .func (.func g) #[] lb] w fun e w' => e = .returned (.bool (l0.any p)) ∧ Below w.heap.size w w' := by
  rw [← idxI_any p l0]
  have HC := dk (slices_IndexFunc_int_int.calls g lb eg p A0 c0 n0 l0 w0 w hB hr0 hp)
  clear hr0 hp hB eg
  generalize hy : idxI p l0 = y at HC
  have HY := dk hy
  clear hy
  go_enter Try.func141, Try.ntmps141
  go_wp2_with fail
  refine HC.out.mono ?_
  rintro e w' ⟨rfl, hb'⟩
  go_wp2_with fail
  go_ret
  exact ⟨rfl, hb'⟩
def impl_arePenalties.f (l0 : List Int) (a1 : Int) : Option Bool := some (decide ((l0.length : Int) = a1) && !l0.any (fun x => !withinB x 0 1000))
set_option maxHeartbeats 4000000 in
theorem impl_arePenalties_1.calls (x : Int) (W : World) : Calls Try.prog 166 #[.int .i64 x] W fun e w' => e = .returned (.bool (!withinB x 0 1000)) ∧ Below W.heap.size W w' := by
  have HW := dk (within_eq x 0 1000)
  generalize withinB x 0 1000 = b at HW
  go_enter Try.func166, Try.ntmps166
  go_wp2_with fail
  refine (impl_within.calls _ _ _ _ _ HW.out).mono ?_
  rintro e w' ⟨rfl, ⟨nd, rfl⟩⟩
  go_wp2_with fail
  go_ret
  exact ⟨rfl, pw_below_drewN (Below.refl _ _) _⟩
set_option maxHeartbeats 4000000 in
theorem impl_arePenalties.calls (A0 : Option Addr) (c0 : Nat) (l0 : List Int) (a1 : Int) (r : Bool) (w : World) (hr0 : Kd.C (Kd.int .i64) w A0 l0.length l0) (hc0 : l0.length ≤ c0) (h : impl_arePenalties.f l0 a1 = some r) :
    Calls Try.prog 125 #[.slice A0 l0.length c0, .int .i64 a1] w fun e w' => e = .returned (.bool r) ∧ Below w.heap.size w w' := by
  have HR := dk (Option.some.inj h)
  have HR0 := dk hr0
  clear h hr0 hc0
  have eg := my_enters Try.func166 (by kernel_rfl) rfl
  have HG := dk eg
  clear eg
  by_cases hn : (l0.length : Int) = a1
  · have hb : ((l0.length : Int) == a1) = true := by simpa using hn
    have HN := dk hn
    clear hn
    go_enter Try.func125, Try.ntmps125
    go_wp2_with fail
    refine ((slices_ContainsFunc_int_int.calls 166 #[] HG.out (fun x => !withinB x 0 1000) A0 c0 l0.length l0 w _ (Below.refl _ _) HR0.out (fun W x hW _ => impl_arePenalties_1.calls x W)).mono ?_)
    rintro e w2 ⟨rfl, hb2⟩
    have HB2 := dk hb2
    clear hb2
    generalize hi : l0.any (fun x => !withinB x 0 1000) = i at HR
    have HI := dk hi
    clear hi
    go_wp2_with fail
    go_ret
    exact ⟨by rw [← HR.out, decide_eq_true HN.out]; rfl, HB2.out⟩
  · have hb : ((l0.length : Int) == a1) = false := by simpa using hn
    have HN := dk hn
    clear hn
    go_enter Try.func125, Try.ntmps125
    go_wp2_with fail
    go_ret
    exact ⟨by rw [← HR.out, decide_eq_false HN.out]; rfl, Below.refl _ _⟩
def impl_BookOk.f (k : Nat) (l0_0 : List (S139)) (a0_1 : Int) (a0_2 : Int) (a0_3 : Int) (l0_4 : List Int) (a0_5 : Bool) (l0_6 : List (S95)) (l0_7 : List Int) (l0_8 : List Int) : Option (Bool) := (impl_FieldOk.f l0_0).bind fun t332 => (if t332 = true then ((impl_RulesOk.f k a0_1 a0_2 a0_3 l0_4 a0_5).bind fun t333 => (if t333 = true then ((impl_SeasonOk.f k (l0_0.length : Int) l0_6).bind fun t334 => (if t334 = true then ((impl_arePenalties.f l0_7 (l0_0.length : Int)).bind fun t335 => (if t335 = true then ((impl_arePenalties.f l0_8 (l0_0.length : Int)).bind fun t336 => (some t336)) else (some false))) else (some false))) else (some false))) else (some false))
theorem impl_BookOk.calls (k : Nat) (A0_0 : Option Addr) (c0_0 : Nat) (l0_0 : List (S139)) (a0_1 : Int) (a0_2 : Int) (a0_3 : Int) (A0_4 : Option Addr) (c0_4 : Nat) (l0_4 : List Int) (a0_5 : Bool) (A0_6 : Option Addr) (c0_6 : Nat) (l0_6 : List (S95)) (A0_7 : Option Addr) (c0_7 : Nat) (l0_7 : List Int) (A0_8 : Option Addr) (c0_8 : Nat) (l0_8 : List Int) (r : Bool) (w : World) (hr0_0 : Kd.C k139 w A0_0 l0_0.length l0_0) (hc0_0 : l0_0.length ≤ c0_0) (hr0_4 : Kd.C (Kd.int .i64) w A0_4 l0_4.length l0_4) (hc0_4 : l0_4.length ≤ c0_4) (hr0_6 : Kd.C k95 w A0_6 l0_6.length l0_6) (hc0_6 : l0_6.length ≤ c0_6) (hr0_7 : Kd.C (Kd.int .i64) w A0_7 l0_7.length l0_7) (hc0_7 : l0_7.length ≤ c0_7) (hr0_8 : Kd.C (Kd.int .i64) w A0_8 l0_8.length l0_8) (hc0_8 : l0_8.length ≤ c0_8) (h : impl_BookOk.f k l0_0 a0_1 a0_2 a0_3 l0_4 a0_5 l0_6 l0_7 l0_8 = some r) :
  Calls Try.prog 61 #[.agg #[.slice A0_0 l0_0.length c0_0, .int .i64 a0_1, .int .i64 a0_2, .int .i64 a0_3, .slice A0_4 l0_4.length c0_4, .bool a0_5, .slice A0_6 l0_6.length c0_6, .slice A0_7 l0_7.length c0_7, .slice A0_8 l0_8.length c0_8]] w fun e w' => e = .returned (.bool r) ∧ Below w.heap.size w w' := by
 have hu36 := Try.underlying36
 have hu33 := Try.underlying33
 have HR0_0 := dk hr0_0
 have HC0_0 := dk hc0_0
 clear hr0_0 hc0_0
 have HR0_4 := dk hr0_4
 have HC0_4 := dk hc0_4
 clear hr0_4 hc0_4
 have HR0_6 := dk hr0_6
 have HC0_6 := dk hc0_6
 clear hr0_6 hc0_6
 have HR0_7 := dk hr0_7
 have HC0_7 := dk hc0_7
 clear hr0_7 hc0_7
 have HR0_8 := dk hr0_8
 have HC0_8 := dk hc0_8
 clear hr0_8 hc0_8
 have HB := dk (Below.refl w.heap.size w)
 have H : ((impl_FieldOk.f l0_0).bind fun t332 => (if t332 = true then ((impl_RulesOk.f k a0_1 a0_2 a0_3 l0_4 a0_5).bind fun t333 => (if t333 = true then ((impl_SeasonOk.f k (l0_0.length : Int) l0_6).bind fun t334 => (if t334 = true then ((impl_arePenalties.f l0_7 (l0_0.length : Int)).bind fun t335 => (if t335 = true then ((impl_arePenalties.f l0_8 (l0_0.length : Int)).bind fun t336 => (some t336)) else (some false))) else (some false))) else (some false))) else (some false))) = some r := h
 clear h
 replace H := Option.bind_eq_some_iff.mp H
 obtain ⟨t332, A20, H⟩ := H
 try dsimp only at H
 have A2 := dk A20
 clear A20
 by_cases c3 : t332 = true
 ·subst c3
  rw [if_pos rfl] at H
  replace H := Option.bind_eq_some_iff.mp H
  obtain ⟨t333, A40, H⟩ := H
  try dsimp only at H
  have A4 := dk A40
  clear A40
  by_cases c5 : t333 = true
  ·subst c5
   rw [if_pos rfl] at H
   replace H := Option.bind_eq_some_iff.mp H
   obtain ⟨t334, A60, H⟩ := H
   try dsimp only at H
   have A6 := dk A60
   clear A60
   by_cases c7 : t334 = true
   ·subst c7
    rw [if_pos rfl] at H
    replace H := Option.bind_eq_some_iff.mp H
    obtain ⟨t335, A80, H⟩ := H
    try dsimp only at H
    have A8 := dk A80
    clear A80
    by_cases c9 : t335 = true
    ·subst c9
     rw [if_pos rfl] at H
     replace H := Option.bind_eq_some_iff.mp H
     obtain ⟨t336, A100, H⟩ := H
     try dsimp only at H
     have A10 := dk A100
     clear A100
     obtain rfl := Option.some.inj H
     go_enter Try.func61, Try.ntmps61
     go_wp2_with (first | ((with_reducible refine gate_dst (N := 1) rfl ?_); refine bx (N := 1) (cs := #[.slice A0_0 l0_0.length c0_0, .int .i64 a0_1, .int .i64 a0_2, .int .i64 a0_3, .slice A0_4 l0_4.length c0_4, .bool a0_5, .slice A0_6 l0_6.length c0_6, .slice A0_7 l0_7.length c0_7, .slice A0_8 l0_8.length c0_8]) (t := 36) ?_; intro gb331 hg w11 hbox hb; have BK331 := dk (hbox); have GW331 := gs hg HB; have GE331 := gs hg HB; replace HB := hs_ HB hb; clear hb hbox hg; have ⟨z12_0, z12_1, z12_2, z12_3, z12_4, z12_5, z12_6, z12_7, z12_8, v12_0, v12_1, v12_2, v12_3, v12_4, v12_5, v12_6, v12_7, v12_8⟩ := rz9 BK331) | ((with_reducible refine gate_callee (f := 122) rfl ?_); refine gl (some 9) Try.func122 #[.slice A0_0 l0_0.length c0_0] ?_; (with_reducible refine (impl_FieldOk.calls _ _ l0_0 true _ ?side1 ?side2 A2.out).mono ?_); (case side1 => exact cc HR0_0 HB); (case side2 => exact HC0_0.out); rintro e w13 ⟨rfl, hb⟩; refine ⟨_, rfl, ?_⟩; replace BK331 := kb BK331 hb; replace HB := hs_ HB hb; (try clear hb hb2 hk hi); have ⟨z14_0, z14_1, z14_2, z14_3, z14_4, z14_5, z14_6, z14_7, z14_8, v14_0, v14_1, v14_2, v14_3, v14_4, v14_5, v14_6, v14_7, v14_8⟩ := rz9 BK331) | (go_at_call 123; (with_reducible refine (impl_RulesOk.calls k a0_1 a0_2 a0_3 _ _ l0_4 a0_5 true _ ?side1 ?side2 A4.out).mono ?_); (case side1 => exact cc HR0_4 HB); (case side2 => exact HC0_4.out); rintro e w15 ⟨rfl, hb⟩; replace BK331 := kb BK331 hb; replace HB := hs_ HB hb; (try clear hb hb2 hk hi); have ⟨z16_0, z16_1, z16_2, z16_3, z16_4, z16_5, z16_6, z16_7, z16_8, v16_0, v16_1, v16_2, v16_3, v16_4, v16_5, v16_6, v16_7, v16_8⟩ := rz9 BK331) | (go_at_call 124; (with_reducible refine (impl_SeasonOk.calls k (l0_0.length : Int) _ _ l0_6 true _ ?side1 ?side2 A6.out).mono ?_); (case side1 => exact cc HR0_6 HB); (case side2 => exact HC0_6.out); rintro e w17 ⟨rfl, hb⟩; replace BK331 := kb BK331 hb; replace HB := hs_ HB hb; (try clear hb hb2 hk hi); have ⟨z18_0, z18_1, z18_2, z18_3, z18_4, z18_5, z18_6, z18_7, z18_8, v18_0, v18_1, v18_2, v18_3, v18_4, v18_5, v18_6, v18_7, v18_8⟩ := rz9 BK331) | (go_at_call 125; (with_reducible refine (impl_arePenalties.calls _ _ l0_7 (l0_0.length : Int) true _ ?side1 ?side2 A8.out).mono ?_); (case side1 => exact cc HR0_7 HB); (case side2 => exact HC0_7.out); rintro e w19 ⟨rfl, hb⟩; replace BK331 := kb BK331 hb; replace HB := hs_ HB hb; (try clear hb hb2 hk hi); have ⟨z20_0, z20_1, z20_2, z20_3, z20_4, z20_5, z20_6, z20_7, z20_8, v20_0, v20_1, v20_2, v20_3, v20_4, v20_5, v20_6, v20_7, v20_8⟩ := rz9 BK331) | (go_at_call 125; (with_reducible refine (impl_arePenalties.calls _ _ l0_8 (l0_0.length : Int) t336 _ ?side1 ?side2 A10.out).mono ?_); (case side1 => exact cc HR0_8 HB); (case side2 => exact HC0_8.out); rintro e w21 ⟨rfl, hb⟩; replace BK331 := kb BK331 hb; replace HB := hs_ HB hb; (try clear hb hb2 hk hi)))
     go_ret
     exact ⟨ee, bb HB⟩
    ·replace c9 := Bool.eq_false_iff.mpr c9
     subst c9
     rw [if_neg (show ¬ (false = true) by decide)] at H
     obtain rfl := Option.some.inj H
     go_enter Try.func61, Try.ntmps61
     go_wp2_with (first | ((with_reducible refine gate_dst (N := 1) rfl ?_); refine bx (N := 1) (cs := #[.slice A0_0 l0_0.length c0_0, .int .i64 a0_1, .int .i64 a0_2, .int .i64 a0_3, .slice A0_4 l0_4.length c0_4, .bool a0_5, .slice A0_6 l0_6.length c0_6, .slice A0_7 l0_7.length c0_7, .slice A0_8 l0_8.length c0_8]) (t := 36) ?_; intro gb331 hg w22 hbox hb; have BK331 := dk (hbox); have GW331 := gs hg HB; have GE331 := gs hg HB; replace HB := hs_ HB hb; clear hb hbox hg; have ⟨z23_0, z23_1, z23_2, z23_3, z23_4, z23_5, z23_6, z23_7, z23_8, v23_0, v23_1, v23_2, v23_3, v23_4, v23_5, v23_6, v23_7, v23_8⟩ := rz9 BK331) | ((with_reducible refine gate_callee (f := 122) rfl ?_); refine gl (some 9) Try.func122 #[.slice A0_0 l0_0.length c0_0] ?_; (with_reducible refine (impl_FieldOk.calls _ _ l0_0 true _ ?side1 ?side2 A2.out).mono ?_); (case side1 => exact cc HR0_0 HB); (case side2 => exact HC0_0.out); rintro e w24 ⟨rfl, hb⟩; refine ⟨_, rfl, ?_⟩; replace BK331 := kb BK331 hb; replace HB := hs_ HB hb; (try clear hb hb2 hk hi); have ⟨z25_0, z25_1, z25_2, z25_3, z25_4, z25_5, z25_6, z25_7, z25_8, v25_0, v25_1, v25_2, v25_3, v25_4, v25_5, v25_6, v25_7, v25_8⟩ := rz9 BK331) | (go_at_call 123; (with_reducible refine (impl_RulesOk.calls k a0_1 a0_2 a0_3 _ _ l0_4 a0_5 true _ ?side1 ?side2 A4.out).mono ?_); (case side1 => exact cc HR0_4 HB); (case side2 => exact HC0_4.out); rintro e w26 ⟨rfl, hb⟩; replace BK331 := kb BK331 hb; replace HB := hs_ HB hb; (try clear hb hb2 hk hi); have ⟨z27_0, z27_1, z27_2, z27_3, z27_4, z27_5, z27_6, z27_7, z27_8, v27_0, v27_1, v27_2, v27_3, v27_4, v27_5, v27_6, v27_7, v27_8⟩ := rz9 BK331) | (go_at_call 124; (with_reducible refine (impl_SeasonOk.calls k (l0_0.length : Int) _ _ l0_6 true _ ?side1 ?side2 A6.out).mono ?_); (case side1 => exact cc HR0_6 HB); (case side2 => exact HC0_6.out); rintro e w28 ⟨rfl, hb⟩; replace BK331 := kb BK331 hb; replace HB := hs_ HB hb; (try clear hb hb2 hk hi); have ⟨z29_0, z29_1, z29_2, z29_3, z29_4, z29_5, z29_6, z29_7, z29_8, v29_0, v29_1, v29_2, v29_3, v29_4, v29_5, v29_6, v29_7, v29_8⟩ := rz9 BK331) | (go_at_call 125; (with_reducible refine (impl_arePenalties.calls _ _ l0_7 (l0_0.length : Int) false _ ?side1 ?side2 A8.out).mono ?_); (case side1 => exact cc HR0_7 HB); (case side2 => exact HC0_7.out); rintro e w30 ⟨rfl, hb⟩; replace BK331 := kb BK331 hb; replace HB := hs_ HB hb; (try clear hb hb2 hk hi)))
     go_ret
     exact ⟨ee, bb HB⟩
   ·replace c7 := Bool.eq_false_iff.mpr c7
    subst c7
    rw [if_neg (show ¬ (false = true) by decide)] at H
    obtain rfl := Option.some.inj H
    go_enter Try.func61, Try.ntmps61
    go_wp2_with (first | ((with_reducible refine gate_dst (N := 1) rfl ?_); refine bx (N := 1) (cs := #[.slice A0_0 l0_0.length c0_0, .int .i64 a0_1, .int .i64 a0_2, .int .i64 a0_3, .slice A0_4 l0_4.length c0_4, .bool a0_5, .slice A0_6 l0_6.length c0_6, .slice A0_7 l0_7.length c0_7, .slice A0_8 l0_8.length c0_8]) (t := 36) ?_; intro gb331 hg w31 hbox hb; have BK331 := dk (hbox); have GW331 := gs hg HB; have GE331 := gs hg HB; replace HB := hs_ HB hb; clear hb hbox hg; have ⟨z32_0, z32_1, z32_2, z32_3, z32_4, z32_5, z32_6, z32_7, z32_8, v32_0, v32_1, v32_2, v32_3, v32_4, v32_5, v32_6, v32_7, v32_8⟩ := rz9 BK331) | ((with_reducible refine gate_callee (f := 122) rfl ?_); refine gl (some 9) Try.func122 #[.slice A0_0 l0_0.length c0_0] ?_; (with_reducible refine (impl_FieldOk.calls _ _ l0_0 true _ ?side1 ?side2 A2.out).mono ?_); (case side1 => exact cc HR0_0 HB); (case side2 => exact HC0_0.out); rintro e w33 ⟨rfl, hb⟩; refine ⟨_, rfl, ?_⟩; replace BK331 := kb BK331 hb; replace HB := hs_ HB hb; (try clear hb hb2 hk hi); have ⟨z34_0, z34_1, z34_2, z34_3, z34_4, z34_5, z34_6, z34_7, z34_8, v34_0, v34_1, v34_2, v34_3, v34_4, v34_5, v34_6, v34_7, v34_8⟩ := rz9 BK331) | (go_at_call 123; (with_reducible refine (impl_RulesOk.calls k a0_1 a0_2 a0_3 _ _ l0_4 a0_5 true _ ?side1 ?side2 A4.out).mono ?_); (case side1 => exact cc HR0_4 HB); (case side2 => exact HC0_4.out); rintro e w35 ⟨rfl, hb⟩; replace BK331 := kb BK331 hb; replace HB := hs_ HB hb; (try clear hb hb2 hk hi); have ⟨z36_0, z36_1, z36_2, z36_3, z36_4, z36_5, z36_6, z36_7, z36_8, v36_0, v36_1, v36_2, v36_3, v36_4, v36_5, v36_6, v36_7, v36_8⟩ := rz9 BK331) | (go_at_call 124; (with_reducible refine (impl_SeasonOk.calls k (l0_0.length : Int) _ _ l0_6 false _ ?side1 ?side2 A6.out).mono ?_); (case side1 => exact cc HR0_6 HB); (case side2 => exact HC0_6.out); rintro e w37 ⟨rfl, hb⟩; replace BK331 := kb BK331 hb; replace HB := hs_ HB hb; (try clear hb hb2 hk hi)))
    go_ret
    exact ⟨ee, bb HB⟩
  ·replace c5 := Bool.eq_false_iff.mpr c5
   subst c5
   rw [if_neg (show ¬ (false = true) by decide)] at H
   obtain rfl := Option.some.inj H
   go_enter Try.func61, Try.ntmps61
   go_wp2_with (first | ((with_reducible refine gate_dst (N := 1) rfl ?_); refine bx (N := 1) (cs := #[.slice A0_0 l0_0.length c0_0, .int .i64 a0_1, .int .i64 a0_2, .int .i64 a0_3, .slice A0_4 l0_4.length c0_4, .bool a0_5, .slice A0_6 l0_6.length c0_6, .slice A0_7 l0_7.length c0_7, .slice A0_8 l0_8.length c0_8]) (t := 36) ?_; intro gb331 hg w38 hbox hb; have BK331 := dk (hbox); have GW331 := gs hg HB; have GE331 := gs hg HB; replace HB := hs_ HB hb; clear hb hbox hg; have ⟨z39_0, z39_1, z39_2, z39_3, z39_4, z39_5, z39_6, z39_7, z39_8, v39_0, v39_1, v39_2, v39_3, v39_4, v39_5, v39_6, v39_7, v39_8⟩ := rz9 BK331) | ((with_reducible refine gate_callee (f := 122) rfl ?_); refine gl (some 9) Try.func122 #[.slice A0_0 l0_0.length c0_0] ?_; (with_reducible refine (impl_FieldOk.calls _ _ l0_0 true _ ?side1 ?side2 A2.out).mono ?_); (case side1 => exact cc HR0_0 HB); (case side2 => exact HC0_0.out); rintro e w40 ⟨rfl, hb⟩; refine ⟨_, rfl, ?_⟩; replace BK331 := kb BK331 hb; replace HB := hs_ HB hb; (try clear hb hb2 hk hi); have ⟨z41_0, z41_1, z41_2, z41_3, z41_4, z41_5, z41_6, z41_7, z41_8, v41_0, v41_1, v41_2, v41_3, v41_4, v41_5, v41_6, v41_7, v41_8⟩ := rz9 BK331) | (go_at_call 123; (with_reducible refine (impl_RulesOk.calls k a0_1 a0_2 a0_3 _ _ l0_4 a0_5 false _ ?side1 ?side2 A4.out).mono ?_); (case side1 => exact cc HR0_4 HB); (case side2 => exact HC0_4.out); rintro e w42 ⟨rfl, hb⟩; replace BK331 := kb BK331 hb; replace HB := hs_ HB hb; (try clear hb hb2 hk hi)))
   go_ret
   exact ⟨ee, bb HB⟩
 ·replace c3 := Bool.eq_false_iff.mpr c3
  subst c3
  rw [if_neg (show ¬ (false = true) by decide)] at H
  obtain rfl := Option.some.inj H
  go_enter Try.func61, Try.ntmps61
  go_wp2_with (first | ((with_reducible refine gate_dst (N := 1) rfl ?_); refine bx (N := 1) (cs := #[.slice A0_0 l0_0.length c0_0, .int .i64 a0_1, .int .i64 a0_2, .int .i64 a0_3, .slice A0_4 l0_4.length c0_4, .bool a0_5, .slice A0_6 l0_6.length c0_6, .slice A0_7 l0_7.length c0_7, .slice A0_8 l0_8.length c0_8]) (t := 36) ?_; intro gb331 hg w43 hbox hb; have BK331 := dk (hbox); have GW331 := gs hg HB; have GE331 := gs hg HB; replace HB := hs_ HB hb; clear hb hbox hg; have ⟨z44_0, z44_1, z44_2, z44_3, z44_4, z44_5, z44_6, z44_7, z44_8, v44_0, v44_1, v44_2, v44_3, v44_4, v44_5, v44_6, v44_7, v44_8⟩ := rz9 BK331) | ((with_reducible refine gate_callee (f := 122) rfl ?_); refine gl (some 9) Try.func122 #[.slice A0_0 l0_0.length c0_0] ?_; (with_reducible refine (impl_FieldOk.calls _ _ l0_0 false _ ?side1 ?side2 A2.out).mono ?_); (case side1 => exact cc HR0_0 HB); (case side2 => exact HC0_0.out); rintro e w45 ⟨rfl, hb⟩; refine ⟨_, rfl, ?_⟩; replace BK331 := kb BK331 hb; replace HB := hs_ HB hb; (try clear hb hb2 hk hi)))
  go_ret
  exact ⟨ee, bb HB⟩
def slices_Clone_int_int.f (l0 : List Int) : Option (List Int) := (some (([] : List Int) : List Int)).bind fun y337 => (if y337.length + l0.length < 17592186044416 then (some (y337 ++ l0)) else (none))
theorem slices_Clone_int_int.calls_some (ad0 : Addr) (c0 : Nat) (l0 : List Int) (r : List Int) (w : World) (hr0 : Kd.C (Kd.int .i64) w (some ad0) l0.length l0) (hc0 : l0.length ≤ c0) (h : slices_Clone_int_int.f l0 = some r) :
  Calls Try.prog 102 #[.slice (some ad0) l0.length c0] w fun e w' => ∃ v0_ : Value, e = .returned (v0_) ∧ Kd.R (Kd.int .i64) 3 w' w.heap.size (fun _ => True) v0_ r ∧ Below w.heap.size w w' := by
 have hnil_ := fun (w : World) => Lib.run_eql_slice_nil (P := Try.prog) w 23 3 (some ad0) l0.length c0 0 0 Try.underlying23
 have HR0 := dk hr0
 have HC0 := dk hc0
 clear hr0 hc0
 have HB := dk (Below.refl w.heap.size w)
 have H : ((some (([] : List Int) : List Int)).bind fun y337 => (if y337.length + l0.length < 17592186044416 then (some (y337 ++ l0)) else (none))) = some r := h
 clear h
 obtain ⟨y337, hy337⟩ : ∃ y_ : List Int, y_ = (([] : List Int)) := ⟨_, rfl⟩
 replace H : (if y337.length + l0.length < 17592186044416 then (some (y337 ++ l0)) else (none)) = some r := by first | (rw [hy337]; with_reducible exact H) | (have H2_ := (Option.bind_some _ _).symm.trans H; rw [hy337]; with_reducible exact H2_) | (have H2_ := (Option.bind_some _ _).symm.trans H; with_reducible exact H2_) | with_reducible exact H | (rw [hy337]; exact H) | exact H
 have Ny337 := dk hy337
 clear hy337
 by_cases c2 : y337.length + l0.length < 17592186044416
 ·rw [if_pos c2] at H
  have LMc2 := dk c2
  clear c2
  obtain ⟨y340, hy340⟩ : ∃ y_ : List Int, y_ = (y337 ++ l0) := ⟨_, rfl⟩
  replace H : (some y340) = some r := by first | (rw [hy340]; with_reducible exact H) | (have H2_ := (Option.bind_some _ _).symm.trans H; rw [hy340]; with_reducible exact H2_) | (have H2_ := (Option.bind_some _ _).symm.trans H; with_reducible exact H2_) | with_reducible exact H | (rw [hy340]; exact H) | exact H
  have Ny340 := dk hy340
  clear hy340
  obtain rfl := Option.some.inj H
  go_enter Try.func102, Try.ntmps102
  go_wp2_with (first | ((with_reducible refine gate_dst (N := 5) rfl ?_); refine Kd.R_lit (Kd.int .i64) _ 3 ?hg (N := 5) ?hd (xs := ([] : List Int)) (inner := []) (ok := fun _ => True) (okp := fun _ => True) ?hr ?hp (fun _ hk => hk) trivial (Below.refl _ _) (Nat.le_refl _) (by simp) ?_; (case hd => rfl); (case hg => rfl); (case hr => first | (go_simp; done) | (go_simp; rfl)); (case hp => exact (Reps.none _ _)); intro v338 w3 ho4 hb hg_ hnew_; clear hg_ hnew_; (first | rw [← Ny337.out] at ho4 | (simp only [Int.reduceToNat] at ho4; rw [← Ny337.out] at ho4)); have HO339 := kl ho4 HB; replace HB := hs_ HB hb; clear hb ho4) | ((with_reducible refine gate_builtin (b := .append) (xs := #[.tmp 5, .tmp 6]) rfl ?_); at_builtin; refine Kd.R_append_rows (Kd.int .i64) (w0 := w) w.heap.size rfl (.tmp 5) (.tmp 6) 23 3 (.int .i64 0) 8 rfl Try.underlying23 info3 rfl (by decide) (by omega) v338 y337 l0 _ _ _ (fun _ => True) (fun _ => False) rfl rfl ?aO ?aR (fun _ _ h => h) (fun _ h => h.elim) ?aF ?aB ?aS ?aL ?_; (case aR => exact cc HR0 HB); (case aB => exact (bb HB)); (case aF => exact (fun _ _ => trivial)); (case aO => exact (rr HO339)); (case aS => exact (below_size (bb HB))); (case aL => have := LMc2.out; omega); intro v341 w5 ho hb hg hat; rw [← Ny340.out] at ho; replace HB := dk (hb); have HO342 := dk (ho); clear HO339 ho hb hg hat))
  go_ret
  exact ⟨_, ee, rr HO342, bb HB⟩
 ·rw [if_neg c2] at H
  exact absurd H (by simp)
theorem slices_Clone_int_int.calls (A0 : Option Addr) (c0 : Nat) (l0 : List Int) (r : List Int) (w : World) (hr0 : Kd.C (Kd.int .i64) w A0 l0.length l0) (hc0 : l0.length ≤ c0) (h : slices_Clone_int_int.f l0 = some r) :
  Calls Try.prog 102 #[.slice A0 l0.length c0] w fun e w' => ∃ v0_ : Value, e = .returned (v0_) ∧ Kd.R (Kd.int .i64) 3 w' w.heap.size (fun _ => True) v0_ r ∧ Below w.heap.size w w' := by
 cases A0 with
 | some ad0 => exact slices_Clone_int_int.calls_some ad0 c0 l0 r w hr0 hc0 h
 | none =>
  have hl : l0 = [] := Kd.C_none hr0
  subst hl
  have hr : r = [] := by
   unfold slices_Clone_int_int.f at h
   simpa using h.symm
  subst hr
  have hnil_ := fun (w : World) => Lib.run_eql_slice_nil (P := Try.prog) w 23 3 none 0 c0 0 0 Try.underlying23
  go_enter Try.func102, Try.ntmps102
  go_wp2
  go_ret
  exact ⟨_, rfl, Kd.R_nil _ _ _ _ _, Below.refl _ _⟩
def slices_Clone_impl_Team_impl_Team.f (l0 : List (S139)) : Option ((List (S139))) := (some (([] : List (S139)) : List (S139))).bind fun y343 => (if y343.length + l0.length < 4398046511104 then (some (y343 ++ l0)) else (none))
theorem slices_Clone_impl_Team_impl_Team.calls_some (ad0 : Addr) (c0 : Nat) (l0 : List (S139)) (r : List (S139)) (w : World) (hr0 : Kd.C k139 w (some ad0) l0.length l0) (hc0 : l0.length ≤ c0) (h : slices_Clone_impl_Team_impl_Team.f l0 = some r) :
  Calls Try.prog 126 #[.slice (some ad0) l0.length c0] w fun e w' => ∃ v0_ : Value, e = .returned (v0_) ∧ Kd.R k139 139 w' w.heap.size (fun _ => True) v0_ r ∧ Below w.heap.size w w' := by
 have hnil_ := fun (w : World) => Lib.run_eql_slice_nil (P := Try.prog) w 32 139 (some ad0) l0.length c0 0 0 Try.underlying32
 have HR0 := dk hr0
 have HC0 := dk hc0
 clear hr0 hc0
 have HB := dk (Below.refl w.heap.size w)
 have H : ((some (([] : List (S139)) : List (S139))).bind fun y343 => (if y343.length + l0.length < 4398046511104 then (some (y343 ++ l0)) else (none))) = some r := h
 clear h
 obtain ⟨y343, hy343⟩ : ∃ y_ : List (S139), y_ = (([] : List (S139))) := ⟨_, rfl⟩
 replace H : (if y343.length + l0.length < 4398046511104 then (some (y343 ++ l0)) else (none)) = some r := by first | (rw [hy343]; with_reducible exact H) | (have H2_ := (Option.bind_some _ _).symm.trans H; rw [hy343]; with_reducible exact H2_) | (have H2_ := (Option.bind_some _ _).symm.trans H; with_reducible exact H2_) | with_reducible exact H | (rw [hy343]; exact H) | exact H
 have Ny343 := dk hy343
 clear hy343
 by_cases c2 : y343.length + l0.length < 4398046511104
 ·rw [if_pos c2] at H
  have LMc2 := dk c2
  clear c2
  obtain ⟨y346, hy346⟩ : ∃ y_ : List (S139), y_ = (y343 ++ l0) := ⟨_, rfl⟩
  replace H : (some y346) = some r := by first | (rw [hy346]; with_reducible exact H) | (have H2_ := (Option.bind_some _ _).symm.trans H; rw [hy346]; with_reducible exact H2_) | (have H2_ := (Option.bind_some _ _).symm.trans H; with_reducible exact H2_) | with_reducible exact H | (rw [hy346]; exact H) | exact H
  have Ny346 := dk hy346
  clear hy346
  obtain rfl := Option.some.inj H
  go_enter Try.func126, Try.ntmps126
  go_wp2_with (first | ((with_reducible refine gate_dst (N := 5) rfl ?_); refine Kd.R_lit k139 _ 139 ?hg (N := 5) ?hd (xs := ([] : List (S139))) (inner := []) (ok := fun _ => True) (okp := fun _ => True) ?hr ?hp (fun _ hk => hk) trivial (Below.refl _ _) (Nat.le_refl _) (by simp) ?_; (case hd => rfl); (case hg => rfl); (case hr => first | (go_simp; done) | (go_simp; rfl)); (case hp => exact (Reps.none _ _)); intro v344 w3 ho4 hb hg_ hnew_; clear hg_ hnew_; (first | rw [← Ny343.out] at ho4 | (simp only [Int.reduceToNat] at ho4; rw [← Ny343.out] at ho4)); have HO345 := kl ho4 HB; replace HB := hs_ HB hb; clear hb ho4) | ((with_reducible refine gate_builtin (b := .append) (xs := #[.tmp 5, .tmp 6]) rfl ?_); at_builtin; refine Kd.R_append_rows k139 (w0 := w) w.heap.size rfl (.tmp 5) (.tmp 6) 32 139 (.agg #[(.string ⟨#[]⟩), (.int .i64 0), (.int .i64 0)]) 32 rfl Try.underlying32 info139 rfl (by decide) (by omega) v344 y343 l0 _ _ _ (fun _ => True) (fun _ => False) rfl rfl ?aO ?aR (fun _ _ h => h) (fun _ h => h.elim) ?aF ?aB ?aS ?aL ?_; (case aR => exact cc HR0 HB); (case aB => exact (bb HB)); (case aF => exact (fun _ _ => trivial)); (case aO => exact (rr HO345)); (case aS => exact (below_size (bb HB))); (case aL => have := LMc2.out; omega); intro v347 w5 ho hb hg hat; rw [← Ny346.out] at ho; replace HB := dk (hb); have HO348 := dk (ho); clear HO345 ho hb hg hat))
  go_ret
  exact ⟨_, ee, rr HO348, bb HB⟩
 ·rw [if_neg c2] at H
  exact absurd H (by simp)
theorem slices_Clone_impl_Team_impl_Team.calls (A0 : Option Addr) (c0 : Nat) (l0 : List (S139)) (r : List (S139)) (w : World) (hr0 : Kd.C k139 w A0 l0.length l0) (hc0 : l0.length ≤ c0) (h : slices_Clone_impl_Team_impl_Team.f l0 = some r) :
  Calls Try.prog 126 #[.slice A0 l0.length c0] w fun e w' => ∃ v0_ : Value, e = .returned (v0_) ∧ Kd.R k139 139 w' w.heap.size (fun _ => True) v0_ r ∧ Below w.heap.size w w' := by
 cases A0 with
 | some ad0 => exact slices_Clone_impl_Team_impl_Team.calls_some ad0 c0 l0 r w hr0 hc0 h
 | none =>
  have hl : l0 = [] := Kd.C_none hr0
  subst hl
  have hr : r = [] := by
   unfold slices_Clone_impl_Team_impl_Team.f at h
   simpa using h.symm
  subst hr
  have hnil_ := fun (w : World) => Lib.run_eql_slice_nil (P := Try.prog) w 32 139 none 0 c0 0 0 Try.underlying32
  go_enter Try.func126, Try.ntmps126
  go_wp2
  go_ret
  exact ⟨_, rfl, Kd.R_nil _ _ _ _ _, Below.refl _ _⟩
def slices_Clone_impl_Game_impl_Game.f (l0 : List (S95)) : Option ((List (S95))) := (some (([] : List (S95)) : List (S95))).bind fun y349 => (if y349.length + l0.length < 3518437208883 then (some (y349 ++ l0)) else (none))
theorem slices_Clone_impl_Game_impl_Game.calls_some (ad0 : Addr) (c0 : Nat) (l0 : List (S95)) (r : List (S95)) (w : World) (hr0 : Kd.C k95 w (some ad0) l0.length l0) (hc0 : l0.length ≤ c0) (h : slices_Clone_impl_Game_impl_Game.f l0 = some r) :
  Calls Try.prog 127 #[.slice (some ad0) l0.length c0] w fun e w' => ∃ v0_ : Value, e = .returned (v0_) ∧ Kd.R k95 95 w' w.heap.size (fun _ => True) v0_ r ∧ Below w.heap.size w w' := by
 have hnil_ := fun (w : World) => Lib.run_eql_slice_nil (P := Try.prog) w 34 95 (some ad0) l0.length c0 0 0 Try.underlying34
 have HR0 := dk hr0
 have HC0 := dk hc0
 clear hr0 hc0
 have HB := dk (Below.refl w.heap.size w)
 have H : ((some (([] : List (S95)) : List (S95))).bind fun y349 => (if y349.length + l0.length < 3518437208883 then (some (y349 ++ l0)) else (none))) = some r := h
 clear h
 obtain ⟨y349, hy349⟩ : ∃ y_ : List (S95), y_ = (([] : List (S95))) := ⟨_, rfl⟩
 replace H : (if y349.length + l0.length < 3518437208883 then (some (y349 ++ l0)) else (none)) = some r := by first | (rw [hy349]; with_reducible exact H) | (have H2_ := (Option.bind_some _ _).symm.trans H; rw [hy349]; with_reducible exact H2_) | (have H2_ := (Option.bind_some _ _).symm.trans H; with_reducible exact H2_) | with_reducible exact H | (rw [hy349]; exact H) | exact H
 have Ny349 := dk hy349
 clear hy349
 by_cases c2 : y349.length + l0.length < 3518437208883
 ·rw [if_pos c2] at H
  have LMc2 := dk c2
  clear c2
  obtain ⟨y352, hy352⟩ : ∃ y_ : List (S95), y_ = (y349 ++ l0) := ⟨_, rfl⟩
  replace H : (some y352) = some r := by first | (rw [hy352]; with_reducible exact H) | (have H2_ := (Option.bind_some _ _).symm.trans H; rw [hy352]; with_reducible exact H2_) | (have H2_ := (Option.bind_some _ _).symm.trans H; with_reducible exact H2_) | with_reducible exact H | (rw [hy352]; exact H) | exact H
  have Ny352 := dk hy352
  clear hy352
  obtain rfl := Option.some.inj H
  go_enter Try.func127, Try.ntmps127
  go_wp2_with (first | ((with_reducible refine gate_dst (N := 5) rfl ?_); refine Kd.R_lit k95 _ 95 ?hg (N := 5) ?hd (xs := ([] : List (S95))) (inner := []) (ok := fun _ => True) (okp := fun _ => True) ?hr ?hp (fun _ hk => hk) trivial (Below.refl _ _) (Nat.le_refl _) (by simp) ?_; (case hd => rfl); (case hg => rfl); (case hr => first | (go_simp; done) | (go_simp; rfl)); (case hp => exact (Reps.none _ _)); intro v350 w3 ho4 hb hg_ hnew_; clear hg_ hnew_; (first | rw [← Ny349.out] at ho4 | (simp only [Int.reduceToNat] at ho4; rw [← Ny349.out] at ho4)); have HO351 := kl ho4 HB; replace HB := hs_ HB hb; clear hb ho4) | ((with_reducible refine gate_builtin (b := .append) (xs := #[.tmp 5, .tmp 6]) rfl ?_); at_builtin; refine Kd.R_append_rows k95 (w0 := w) w.heap.size rfl (.tmp 5) (.tmp 6) 34 95 (.agg #[(.int .i64 0), (.int .i64 0), (.int .i64 0), (.int .i64 0), (.int .i64 0)]) 40 rfl Try.underlying34 info95 rfl (by decide) (by omega) v350 y349 l0 _ _ _ (fun _ => True) (fun _ => False) rfl rfl ?aO ?aR (fun _ _ h => h) (fun _ h => h.elim) ?aF ?aB ?aS ?aL ?_; (case aR => exact cc HR0 HB); (case aB => exact (bb HB)); (case aF => exact (fun _ _ => trivial)); (case aO => exact (rr HO351)); (case aS => exact (below_size (bb HB))); (case aL => have := LMc2.out; omega); intro v353 w5 ho hb hg hat; rw [← Ny352.out] at ho; replace HB := dk (hb); have HO354 := dk (ho); clear HO351 ho hb hg hat))
  go_ret
  exact ⟨_, ee, rr HO354, bb HB⟩
 ·rw [if_neg c2] at H
  exact absurd H (by simp)
theorem slices_Clone_impl_Game_impl_Game.calls (A0 : Option Addr) (c0 : Nat) (l0 : List (S95)) (r : List (S95)) (w : World) (hr0 : Kd.C k95 w A0 l0.length l0) (hc0 : l0.length ≤ c0) (h : slices_Clone_impl_Game_impl_Game.f l0 = some r) :
  Calls Try.prog 127 #[.slice A0 l0.length c0] w fun e w' => ∃ v0_ : Value, e = .returned (v0_) ∧ Kd.R k95 95 w' w.heap.size (fun _ => True) v0_ r ∧ Below w.heap.size w w' := by
 cases A0 with
 | some ad0 => exact slices_Clone_impl_Game_impl_Game.calls_some ad0 c0 l0 r w hr0 hc0 h
 | none =>
  have hl : l0 = [] := Kd.C_none hr0
  subst hl
  have hr : r = [] := by
   unfold slices_Clone_impl_Game_impl_Game.f at h
   simpa using h.symm
  subst hr
  have hnil_ := fun (w : World) => Lib.run_eql_slice_nil (P := Try.prog) w 34 95 none 0 c0 0 0 Try.underlying34
  go_enter Try.func127, Try.ntmps127
  go_wp2
  go_ret
  exact ⟨_, rfl, Kd.R_nil _ _ _ _ _, Below.refl _ _⟩
def impl_Book_copied.f (l0_0 : List (S139)) (a0_1 : Int) (a0_2 : Int) (a0_3 : Int) (l0_4 : List Int) (a0_5 : Bool) (l0_6 : List (S95)) (l0_7 : List Int) (l0_8 : List Int) : Option ((List (S139)) × Int × Int × Int × List Int × Bool × (List (S95)) × List Int × List Int) := (slices_Clone_impl_Team_impl_Team.f l0_0).bind fun t357 => ((slices_Clone_impl_Game_impl_Game.f l0_6).bind fun t360 => ((slices_Clone_int_int.f l0_7).bind fun t363 => ((slices_Clone_int_int.f l0_8).bind fun t366 => ((slices_Clone_int_int.f l0_4).bind fun t369 => (some (t357, a0_1, a0_2, a0_3, t369, a0_5, t360, t363, t366))))))
def impl_Book_copied.T1 : Bool × List (List Nat × List Nat) := (true, [([], []), ([0], [0]), ([1], [1]), ([], []), ([3], [3]), ([4, 2], [4]), ([], []), ([6], [6]), ([7, 5], [7]), ([], []), ([9], [9]), ([10, 8], [10]), ([0, 1, 2, 3, 4, 6, 7, 9, 10], []), ([12, 2, 11, 0, 1, 2, 3, 4, 6, 7, 9, 10], [2, 12]), ([0, 1, 2, 3, 4, 5, 6, 7, 9, 10, 12, 13], []), ([14, 5, 13, 0, 1, 2, 3, 4, 5, 6, 7, 9, 10, 12, 13], [5, 14]), ([0, 1, 2, 3, 4, 5, 6, 7, 8, 9, 10, 12, 13, 14, 15], []), ([16, 8, 15, 0, 1, 2, 3, 4, 5, 6, 7, 8, 9, 10, 12, 13, 14, 15], [8, 16]), ([0, 1, 2, 3, 4, 5, 6, 7, 8, 9, 10, 11, 12, 13, 14, 15, 16, 17], []), ([18, 11, 17, 0, 1, 2, 3, 4, 5, 6, 7, 8, 9, 10, 11, 12, 13, 14, 15, 16, 17], [11, 18])])
def impl_Book_copied.B1 : List Nat := [0, 1, 3, 0, 8, 31, 0, 64, 255, 0, 512, 2047, 1759, 8191, 16383, 32767, 65535, 131071, 262143, 524287]
theorem impl_Book_copied.tab1 : rtab .any (opsOf Try.f62 1) = impl_Book_copied.T1 := by kernel_rfl
theorem impl_Book_copied.bits1 : waitsOk impl_Book_copied.T1.2 impl_Book_copied.B1 = true := by kernel_rfl
theorem impl_Book_copied.calls (A0_0 : Option Addr) (c0_0 : Nat) (l0_0 : List (S139)) (a0_1 : Int) (a0_2 : Int) (a0_3 : Int) (A0_4 : Option Addr) (c0_4 : Nat) (l0_4 : List Int) (a0_5 : Bool) (A0_6 : Option Addr) (c0_6 : Nat) (l0_6 : List (S95)) (A0_7 : Option Addr) (c0_7 : Nat) (l0_7 : List Int) (A0_8 : Option Addr) (c0_8 : Nat) (l0_8 : List Int) (r1 : List (S139)) (r2 : Int) (r3 : Int) (r4 : Int) (r5 : List Int) (r6 : Bool) (r7 : List (S95)) (r8 : List Int) (r9 : List Int) (w : World) (hr0_0 : Kd.C k139 w A0_0 l0_0.length l0_0) (hc0_0 : l0_0.length ≤ c0_0) (hr0_4 : Kd.C (Kd.int .i64) w A0_4 l0_4.length l0_4) (hc0_4 : l0_4.length ≤ c0_4) (hr0_6 : Kd.C k95 w A0_6 l0_6.length l0_6) (hc0_6 : l0_6.length ≤ c0_6) (hr0_7 : Kd.C (Kd.int .i64) w A0_7 l0_7.length l0_7) (hc0_7 : l0_7.length ≤ c0_7) (hr0_8 : Kd.C (Kd.int .i64) w A0_8 l0_8.length l0_8) (hc0_8 : l0_8.length ≤ c0_8) (h : impl_Book_copied.f l0_0 a0_1 a0_2 a0_3 l0_4 a0_5 l0_6 l0_7 l0_8 = some (r1, r2, r3, r4, r5, r6, r7, r8, r9)) :
  Calls Try.prog 62 #[.agg #[.slice A0_0 l0_0.length c0_0, .int .i64 a0_1, .int .i64 a0_2, .int .i64 a0_3, .slice A0_4 l0_4.length c0_4, .bool a0_5, .slice A0_6 l0_6.length c0_6, .slice A0_7 l0_7.length c0_7, .slice A0_8 l0_8.length c0_8]] w fun e w' => ∃ v0_ v4_ v6_ v7_ v8_ : Value, e = .returned (.agg #[v0_, .int .i64 r2, .int .i64 r3, .int .i64 r4, v4_, .bool r6, v6_, v7_, v8_]) ∧ Kd.R k139 139 w' w.heap.size (fun _ => True) v0_ r1 ∧ Kd.R (Kd.int .i64) 3 w' w.heap.size (fun k_ => some k_ ≠ (v7_ : Value).ownBlock ∧ some k_ ≠ (v8_ : Value).ownBlock) v4_ r5 ∧ Kd.R k95 95 w' w.heap.size (fun _ => True) v6_ r7 ∧ Kd.R (Kd.int .i64) 3 w' w.heap.size (fun k_ => some k_ ≠ (v4_ : Value).ownBlock ∧ some k_ ≠ (v8_ : Value).ownBlock) v7_ r8 ∧ Kd.R (Kd.int .i64) 3 w' w.heap.size (fun k_ => some k_ ≠ (v4_ : Value).ownBlock ∧ some k_ ≠ (v7_ : Value).ownBlock) v8_ r9 ∧ Below w.heap.size w w' := by
 have hu36 := Try.underlying36
 have HR0_0 := dk hr0_0
 have HC0_0 := dk hc0_0
 clear hr0_0 hc0_0
 have HR0_4 := dk hr0_4
 have HC0_4 := dk hc0_4
 clear hr0_4 hc0_4
 have HR0_6 := dk hr0_6
 have HC0_6 := dk hc0_6
 clear hr0_6 hc0_6
 have HR0_7 := dk hr0_7
 have HC0_7 := dk hc0_7
 clear hr0_7 hc0_7
 have HR0_8 := dk hr0_8
 have HC0_8 := dk hc0_8
 clear hr0_8 hc0_8
 have HB := dk (Below.refl w.heap.size w)
 have H : ((slices_Clone_impl_Team_impl_Team.f l0_0).bind fun t357 => ((slices_Clone_impl_Game_impl_Game.f l0_6).bind fun t360 => ((slices_Clone_int_int.f l0_7).bind fun t363 => ((slices_Clone_int_int.f l0_8).bind fun t366 => ((slices_Clone_int_int.f l0_4).bind fun t369 => (some (t357, a0_1, a0_2, a0_3, t369, a0_5, t360, t363, t366))))))) = some (r1, r2, r3, r4, r5, r6, r7, r8, r9) := h
 clear h
 replace H := Option.bind_eq_some_iff.mp H
 obtain ⟨t357, A20, H⟩ := H
 replace H : ((slices_Clone_impl_Game_impl_Game.f l0_6).bind fun t360 => ((slices_Clone_int_int.f l0_7).bind fun t363 => ((slices_Clone_int_int.f l0_8).bind fun t366 => ((slices_Clone_int_int.f l0_4).bind fun t369 => (some (t357, a0_1, a0_2, a0_3, t369, a0_5, t360, t363, t366)))))) = some (r1, r2, r3, r4, r5, r6, r7, r8, r9) := H
 have A2 := dk A20
 clear A20
 replace H := Option.bind_eq_some_iff.mp H
 obtain ⟨t360, A30, H⟩ := H
 replace H : ((slices_Clone_int_int.f l0_7).bind fun t363 => ((slices_Clone_int_int.f l0_8).bind fun t366 => ((slices_Clone_int_int.f l0_4).bind fun t369 => (some (t357, a0_1, a0_2, a0_3, t369, a0_5, t360, t363, t366))))) = some (r1, r2, r3, r4, r5, r6, r7, r8, r9) := H
 have A3 := dk A30
 clear A30
 replace H := Option.bind_eq_some_iff.mp H
 obtain ⟨t363, A40, H⟩ := H
 replace H : ((slices_Clone_int_int.f l0_8).bind fun t366 => ((slices_Clone_int_int.f l0_4).bind fun t369 => (some (t357, a0_1, a0_2, a0_3, t369, a0_5, t360, t363, t366)))) = some (r1, r2, r3, r4, r5, r6, r7, r8, r9) := H
 have A4 := dk A40
 clear A40
 replace H := Option.bind_eq_some_iff.mp H
 obtain ⟨t366, A50, H⟩ := H
 replace H : ((slices_Clone_int_int.f l0_4).bind fun t369 => (some (t357, a0_1, a0_2, a0_3, t369, a0_5, t360, t363, t366))) = some (r1, r2, r3, r4, r5, r6, r7, r8, r9) := H
 have A5 := dk A50
 clear A50
 replace H := Option.bind_eq_some_iff.mp H
 obtain ⟨t369, A60, H⟩ := H
 replace H : (some (t357, a0_1, a0_2, a0_3, t369, a0_5, t360, t363, t366)) = some (r1, r2, r3, r4, r5, r6, r7, r8, r9) := H
 have A6 := dk A60
 clear A60
 simp only [Option.some.injEq, Prod.mk.injEq] at H
 obtain ⟨rfl, rfl, rfl, rfl, rfl, rfl, rfl, rfl, rfl⟩ := H
 go_enter Try.func62, Try.ntmps62
 try go_wp2_with (first | ((with_reducible refine gate_dst (N := 1) rfl ?_); refine bx (N := 1) (cs := #[.slice A0_0 l0_0.length c0_0, .int .i64 a0_1, .int .i64 a0_2, .int .i64 a0_3, .slice A0_4 l0_4.length c0_4, .bool a0_5, .slice A0_6 l0_6.length c0_6, .slice A0_7 l0_7.length c0_7, .slice A0_8 l0_8.length c0_8]) (t := 36) ?_; intro gb355 hg w7 hbox hb; have BK355 := dk (hbox); have GW355 := gs hg HB; have GE355 := gs hg HB; replace HB := hs_ HB hb; clear hb hbox hg) | ((with_reducible refine gate_dst (N := 2) rfl ?_); refine bx (N := 2) (cs := #[.slice none 0 0, .int .i64 0, .int .i64 0, .int .i64 0, .slice none 0 0, .bool false, .slice none 0 0, .slice none 0 0, .slice none 0 0]) (t := 36) ?_; intro gb356 hg w8 hbox hb; have BK356 := dk (hbox); have GW356 := gs hg HB; have GE356 := gs hg HB; replace HB := hs_ HB hb; have NB355_356 := gn hg BK355; have NB356_355 := gm hg BK355; replace BK355 := kb BK355 hb; clear hb hbox hg))
 replace BK355 := dk (blk_drew BK355.out)
 replace BK356 := dk (blk_drew BK356.out)
 replace HB := dk (below_drew1 HB.out)
 refine start_ (n := 20) (S := fun w' => w'.cell? ⟨gb355, 0, none⟩ = some (.slice A0_0 l0_0.length c0_0) ∧ w'.cell? ⟨gb355, 1, none⟩ = some (.int .i64 a0_1) ∧ w'.cell? ⟨gb355, 2, none⟩ = some (.int .i64 a0_2) ∧ w'.cell? ⟨gb355, 3, none⟩ = some (.int .i64 a0_3) ∧ w'.cell? ⟨gb355, 4, none⟩ = some (.slice A0_4 l0_4.length c0_4) ∧ w'.cell? ⟨gb355, 5, none⟩ = some (.bool a0_5) ∧ w'.cell? ⟨gb355, 6, none⟩ = some (.slice A0_6 l0_6.length c0_6) ∧ w'.cell? ⟨gb355, 7, none⟩ = some (.slice A0_7 l0_7.length c0_7) ∧ w'.cell? ⟨gb355, 8, none⟩ = some (.slice A0_8 l0_8.length c0_8)) (ds := [13, 15, 17, 19]) #[false, false, false, false, false, false, false, false, false, false, false, false, false, false, false, false, false, false, false, false] (by kernel_rfl) rfl rfl ⟨bc BK355 0, bc BK355 1, bc BK355 2, bc BK355 3, bc BK355 4, bc BK355 5, bc BK355 6, bc BK355 7, bc BK355 8⟩ (fun hHeld => ?_); refine with_tabW impl_Book_copied.tab1 impl_Book_copied.bits1 (fun HT_ HW_ => ?_)
 generalize w8.drew = w9 at BK355 BK356 HB hHeld ⊢
 refine pz_ 0 3 ?_
 refine pz_ 3 6 ?_
 refine pz_ 6 9 ?_
 refine pz_ 9 12 ?_
 refine tk_ 1 4 ?_
 refine tk_ 4 7 ?_
 refine tk_ 7 10 ?_
 refine tk_ 10 13 ?_
 refine one_ (i := 2) (N := some 5) #[true, true, true, true, true, false, true, true, false, true, true, false, false, false, false, false, false, false, false, false] rfl rfl (one_of HT_.out (by kernel_rfl)) (by decide) (fun K hK => ?_)
 refine goes_ Try.func126 (by kernel_rfl) rfl #[.slice A0_0 l0_0.length c0_0] (by rfl) rfl rfl (by (try simp only [List.map_toArray, List.map_cons, List.map_nil]); first | done | rfl | (simp only [List.length_drop, List.length_take]; rfl)) ?_
 with_reducible refine (slices_Clone_impl_Team_impl_Team.calls _ _ l0_0 t357 _ ?side1 ?side2 A2.out).mono ?_
 (case side1 => exact cc HR0_0 HB)
 (case side2 => exact HC0_0.out)
 rintro e w10 ⟨v358, rfl, ho0, hb⟩
 refine ⟨_, rfl, ?_⟩
 have HO359 := kl ho0 HB
 replace BK355 := kb BK355 hb
 replace BK356 := kb BK356 hb
 replace HB := hs_ HB hb
 (try clear hb hb2 hk hi ho0)
 refine hK.out _ _ ⟨bc BK355 0, bc BK355 1, bc BK355 2, bc BK355 3, bc BK355 4, bc BK355 5, bc BK355 6, bc BK355 7, bc BK355 8⟩ (fun hHeld => ?_)
 clear hK K
 refine norm_ (a' := ?_) ?_ ?_
 rotate_left
 ·show Act.put _ (some 5) _ = _
  simp only [Act.put, List.setIfInBounds_toArray, List.set_cons_zero, List.set_cons_succ, i64_w, i32_w]
  rfl
 refine pz_ 12 15 ?_
 refine one_ (i := 5) (N := some 8) #[true, true, true, true, true, true, true, true, false, true, true, false, true, false, false, false, false, false, false, false] rfl rfl (one_of HT_.out (by kernel_rfl)) (by decide) (fun K hK => ?_)
 refine goes_ Try.func127 (by kernel_rfl) rfl #[.slice A0_6 l0_6.length c0_6] (by rfl) rfl rfl (by (try simp only [List.map_toArray, List.map_cons, List.map_nil]); first | done | rfl | (simp only [List.length_drop, List.length_take]; rfl)) ?_
 with_reducible refine (slices_Clone_impl_Game_impl_Game.calls _ _ l0_6 t360 _ ?side1 ?side2 A3.out).mono ?_
 (case side1 => exact cc HR0_6 HB)
 (case side2 => exact HC0_6.out)
 rintro e w11 ⟨v361, rfl, ho0, hb⟩
 refine ⟨_, rfl, ?_⟩
 replace HO359 := kr HO359 hb
 have HO362 := kl ho0 HB
 replace BK355 := kb BK355 hb
 replace BK356 := kb BK356 hb
 replace HB := hs_ HB hb
 (try clear hb hb2 hk hi ho0)
 refine hK.out _ _ ⟨bc BK355 0, bc BK355 1, bc BK355 2, bc BK355 3, bc BK355 4, bc BK355 5, bc BK355 6, bc BK355 7, bc BK355 8⟩ (fun hHeld => ?_)
 clear hK K
 refine norm_ (a' := ?_) ?_ ?_
 rotate_left
 ·show Act.put _ (some 8) _ = _
  simp only [Act.put, List.setIfInBounds_toArray, List.set_cons_zero, List.set_cons_succ, i64_w, i32_w]
  rfl
 refine one_ (i := 8) (N := some 11) #[true, true, true, true, true, true, true, true, true, true, true, false, true, false, false, false, false, false, false, false] rfl rfl (one_of HT_.out (by kernel_rfl)) (by decide) (fun K hK => ?_)
 refine goes_ Try.func102 (by kernel_rfl) rfl #[.slice A0_7 l0_7.length c0_7] (by rfl) rfl rfl (by (try simp only [List.map_toArray, List.map_cons, List.map_nil]); first | done | rfl | (simp only [List.length_drop, List.length_take]; rfl)) ?_
 with_reducible refine (slices_Clone_int_int.calls _ _ l0_7 t363 _ ?side1 ?side2 A4.out).mono ?_
 (case side1 => exact cc HR0_7 HB)
 (case side2 => exact HC0_7.out)
 rintro e w12 ⟨v364, rfl, ho0, hb⟩
 refine ⟨_, rfl, ?_⟩
 replace HO359 := kr HO359 hb
 replace HO362 := kr HO362 hb
 have HO365 := kl ho0 HB
 replace BK355 := kb BK355 hb
 replace BK356 := kb BK356 hb
 replace HB := hs_ HB hb
 (try clear hb hb2 hk hi ho0)
 refine hK.out _ _ ⟨bc BK355 0, bc BK355 1, bc BK355 2, bc BK355 3, bc BK355 4, bc BK355 5, bc BK355 6, bc BK355 7, bc BK355 8⟩ (fun hHeld => ?_)
 clear hK K
 refine norm_ (a' := ?_) ?_ ?_
 rotate_left
 ·show Act.put _ (some 11) _ = _
  simp only [Act.put, List.setIfInBounds_toArray, List.set_cons_zero, List.set_cons_succ, i64_w, i32_w]
  rfl
 refine one_ (i := 11) (N := some 14) #[true, true, true, true, true, true, true, true, true, true, true, true, true, false, false, false, false, false, false, false] rfl rfl (one_of HT_.out (by kernel_rfl)) (by decide) (fun K hK => ?_)
 refine goes_ Try.func102 (by kernel_rfl) rfl #[.slice A0_8 l0_8.length c0_8] (by rfl) rfl rfl (by (try simp only [List.map_toArray, List.map_cons, List.map_nil]); first | done | rfl | (simp only [List.length_drop, List.length_take]; rfl)) ?_
 with_reducible refine (slices_Clone_int_int.calls _ _ l0_8 t366 _ ?side1 ?side2 A5.out).mono ?_
 (case side1 => exact cc HR0_8 HB)
 (case side2 => exact HC0_8.out)
 rintro e w13 ⟨v367, rfl, ho0, hb⟩
 refine ⟨_, rfl, ?_⟩
 replace HO359 := kr HO359 hb
 replace HO362 := kr HO362 hb
 have HO368 := dk (Kd.R_lower (Kd.R_new' ho0 (rt HO365)) (below_size (bb HB)))
 replace HO365 := ke HO365 ho0 hb
 replace BK355 := kb BK355 hb
 replace BK356 := kb BK356 hb
 replace HB := hs_ HB hb
 (try clear hb hb2 hk hi ho0)
 obtain ⟨Ao14, co14, eo14⟩ := Kd.R_slice HO359.out
 (first | subst eo14 | (injection eo14 with f1_ f2_ f3_; have f4_ := f1_.symm; have f5_ := f3_.symm; clear f1_ f2_ f3_; subst f4_; subst f5_))
 obtain ⟨Ao16, co16, eo16⟩ := Kd.R_slice HO362.out
 (first | subst eo16 | (injection eo16 with f1_ f2_ f3_; have f4_ := f1_.symm; have f5_ := f3_.symm; clear f1_ f2_ f3_; subst f4_; subst f5_))
 obtain ⟨Ao18, co18, eo18⟩ := Kd.R_slice HO365.out
 (first | subst eo18 | (injection eo18 with f1_ f2_ f3_; have f4_ := f1_.symm; have f5_ := f3_.symm; clear f1_ f2_ f3_; subst f4_; subst f5_))
 obtain ⟨Ao20, co20, eo20⟩ := Kd.R_slice HO368.out
 (first | subst eo20 | (injection eo20 with f1_ f2_ f3_; have f4_ := f1_.symm; have f5_ := f3_.symm; clear f1_ f2_ f3_; subst f4_; subst f5_))
 refine hK.out _ _ ⟨bc BK355 0, bc BK355 1, bc BK355 2, bc BK355 3, bc BK355 4, bc BK355 5, bc BK355 6, bc BK355 7, bc BK355 8⟩ (fun hHeld => ?_)
 clear hK K
 refine norm_ (a' := ?_) ?_ ?_
 rotate_left
 ·show Act.put _ (some 14) _ = _
  simp only [Act.put, List.setIfInBounds_toArray, List.set_cons_zero, List.set_cons_succ, i64_w, i32_w]
  rfl
 refine last_ (i := 13) (N := none) #[true, true, true, true, true, true, true, true, true, true, true, true, true, true, false, false, false, false, false, false] rfl rfl (one_of HT_.out (by kernel_rfl)) (by decide) (fun K hK => ?_)
 have hs15 : w13.cell? ⟨gb355, 0, none⟩ = some (.slice A0_0 l0_0.length c0_0) := bc BK355 0
 have hfs15 := blk_frozen BK355.out 0
 have hns15_1 := NB356_355.out
 have hms15_1 := NB355_356.out
 refine skip_ (w1 := ?_) (by rfl) rfl ?_ ?_
 rotate_left
 ·go_simp
  rfl
 refine hK.out _ _ ?_
 clear hK K
 refine pz_ 14 16 ?_
 refine last_ (i := 15) (N := none) #[true, true, true, true, true, true, true, true, true, true, true, true, true, true, true, true, false, false, false, false] rfl rfl (one_of HT_.out (by kernel_rfl)) (by decide) (fun K hK => ?_)
 have hs17 : w13.cell? ⟨gb355, 6, none⟩ = some (.slice A0_6 l0_6.length c0_6) := bc BK355 6
 have hfs17 := blk_frozen BK355.out 6
 have hns17_1 := NB356_355.out
 have hms17_1 := NB355_356.out
 refine skip_ (w1 := ?_) (by rfl) rfl ?_ ?_
 rotate_left
 ·go_simp
  rfl
 refine hK.out _ _ ?_
 clear hK K
 refine pz_ 16 17 ?_
 refine last_ (i := 17) (N := none) #[true, true, true, true, true, true, true, true, true, true, true, true, true, true, true, true, true, true, false, false] rfl rfl (one_of HT_.out (by kernel_rfl)) (by decide) (fun K hK => ?_)
 have hs19 : w13.cell? ⟨gb355, 7, none⟩ = some (.slice A0_7 l0_7.length c0_7) := bc BK355 7
 have hfs19 := blk_frozen BK355.out 7
 have hns19_1 := NB356_355.out
 have hms19_1 := NB355_356.out
 refine skip_ (w1 := ?_) (by rfl) rfl ?_ ?_
 rotate_left
 ·go_simp
  rfl
 refine hK.out _ _ ?_
 clear hK K
 refine pz_ 18 18 ?_
 refine last_ (i := 19) (N := none) #[true, true, true, true, true, true, true, true, true, true, true, true, true, true, true, true, true, true, true, true] rfl rfl (one_of HT_.out (by kernel_rfl)) (by decide) (fun K hK => ?_)
 have hs21 : w13.cell? ⟨gb355, 8, none⟩ = some (.slice A0_8 l0_8.length c0_8) := bc BK355 8
 have hfs21 := blk_frozen BK355.out 8
 have hns21_1 := NB356_355.out
 have hms21_1 := NB355_356.out
 refine skip_ (w1 := ?_) (by rfl) rfl ?_ ?_
 rotate_left
 ·go_simp
  rfl
 refine hK.out _ _ ?_
 clear hK K
 refine done_ (done_of HT_.out (by kernel_rfl)) ?_
 have hnb22 := NB355_356.out
 have hnc22 := NB356_355.out
 have ⟨z23_0, z23_1, z23_2, z23_3, z23_4, z23_5, z23_6, z23_7, z23_8, v23_0, v23_1, v23_2, v23_3, v23_4, v23_5, v23_6, v23_7, v23_8⟩ := rz9 BK355
 try go_wp2_with (first | ((with_reducible refine gate_callee (f := 102) rfl ?_); refine gl (some 22) Try.func102 #[.slice A0_4 l0_4.length c0_4] ?_; (with_reducible refine (slices_Clone_int_int.calls _ _ l0_4 t369 _ ?side1 ?side2 A6.out).mono ?_); (case side1 => exact Kd.C_below HR0_4.out (bb HB)); (case side2 => exact HC0_4.out); rintro e w24 ⟨v370, rfl, ho0, hb⟩; refine ⟨_, rfl, ?_⟩; replace HO359 := kf HO359 BK355 hb; replace HO362 := kf HO362 BK355 hb; have HO371 := dk (Kd.R_lower (Kd.R_new' (Kd.R_new' ho0 (Kd.R_lt (rf HO365 BK355 (fun _ h_ => h_.1)))) (Kd.R_lt (rf HO368 BK355 (fun _ h_ => h_.1)))) (below_size (bb HB))); replace HO365 := dk (Kd.R_elder' (rf HO365 BK355 (fun _ h_ => h_.1)) (Kd.R_base ho0) hb); replace HO368 := dk (Kd.R_elder' (rf HO368 BK355 (fun _ h_ => h_.1)) (Kd.R_base ho0) hb); replace BK355 := dk (blk_below (g := gb355) (o := .cells #[.slice Ao14 t357.length co14, .int .i64 a0_1, .int .i64 a0_2, .int .i64 a0_3, .slice A0_4 l0_4.length c0_4, .bool a0_5, .slice Ao16 t360.length co16, .slice Ao18 t363.length co18, .slice Ao20 t366.length co20] 36 (0, 0)) (bp BK355) hb); replace BK356 := dk (blk_below (bf NB356_355.out BK356) hb); replace HB := hs_ HB hb; (try clear hb hb2 hk hi ho0); obtain ⟨Ao25, co25, eo25⟩ := Kd.R_slice HO371.out; subst eo25; have ⟨z26_0, z26_1, z26_2, z26_3, z26_4, z26_5, z26_6, z26_7, z26_8, v26_0, v26_1, v26_2, v26_3, v26_4, v26_5, v26_6, v26_7, v26_8⟩ := rz9 BK355; have ⟨z27_0, z27_1, z27_2, z27_3, z27_4, z27_5, z27_6, z27_7, z27_8, v27_0, v27_1, v27_2, v27_3, v27_4, v27_5, v27_6, v27_7, v27_8⟩ := rz9 BK356))
 refine bodyPost_ret (results_cell_row rfl _ _ gb356 36 #[.slice Ao14 t357.length co14, .int .i64 a0_1, .int .i64 a0_2, .int .i64 a0_3, .slice Ao25 t369.length co25, .bool a0_5, .slice Ao16 t360.length co16, .slice Ao18 t363.length co18, .slice Ao20 t366.length co20] (0, 0) _ rfl (by (with_reducible repeat (first | refine blk_drewN ?_ _ | refine blk_drew ?_ | refine blk_alloc ?_ _)); refine blk_put (cs := #[.slice Ao14 t357.length co14, .int .i64 a0_1, .int .i64 a0_2, .int .i64 a0_3, .slice Ao25 t369.length co25, .bool a0_5, .slice Ao16 t360.length co16, .slice Ao18 t363.length co18, .slice none 0 0]) ?_ 8 _ rfl; (with_reducible repeat (first | refine blk_drewN ?_ _ | refine blk_drew ?_ | refine blk_alloc ?_ _)); refine blk_put (cs := #[.slice Ao14 t357.length co14, .int .i64 a0_1, .int .i64 a0_2, .int .i64 a0_3, .slice Ao25 t369.length co25, .bool a0_5, .slice Ao16 t360.length co16, .slice none 0 0, .slice none 0 0]) ?_ 7 _ rfl; (with_reducible repeat (first | refine blk_drewN ?_ _ | refine blk_drew ?_ | refine blk_alloc ?_ _)); refine blk_put (cs := #[.slice Ao14 t357.length co14, .int .i64 a0_1, .int .i64 a0_2, .int .i64 a0_3, .slice Ao25 t369.length co25, .bool a0_5, .slice none 0 0, .slice none 0 0, .slice none 0 0]) ?_ 6 _ rfl; (with_reducible repeat (first | refine blk_drewN ?_ _ | refine blk_drew ?_ | refine blk_alloc ?_ _)); refine blk_put (cs := #[.slice Ao14 t357.length co14, .int .i64 a0_1, .int .i64 a0_2, .int .i64 a0_3, .slice Ao25 t369.length co25, .bool false, .slice none 0 0, .slice none 0 0, .slice none 0 0]) ?_ 5 _ rfl; (with_reducible repeat (first | refine blk_drewN ?_ _ | refine blk_drew ?_ | refine blk_alloc ?_ _)); refine blk_put (cs := #[.slice Ao14 t357.length co14, .int .i64 a0_1, .int .i64 a0_2, .int .i64 a0_3, .slice none 0 0, .bool false, .slice none 0 0, .slice none 0 0, .slice none 0 0]) ?_ 4 _ rfl; (with_reducible repeat (first | refine blk_drewN ?_ _ | refine blk_drew ?_ | refine blk_alloc ?_ _)); refine blk_put (cs := #[.slice Ao14 t357.length co14, .int .i64 a0_1, .int .i64 a0_2, .int .i64 0, .slice none 0 0, .bool false, .slice none 0 0, .slice none 0 0, .slice none 0 0]) ?_ 3 _ rfl; (with_reducible repeat (first | refine blk_drewN ?_ _ | refine blk_drew ?_ | refine blk_alloc ?_ _)); refine blk_put (cs := #[.slice Ao14 t357.length co14, .int .i64 a0_1, .int .i64 0, .int .i64 0, .slice none 0 0, .bool false, .slice none 0 0, .slice none 0 0, .slice none 0 0]) ?_ 2 _ rfl; (with_reducible repeat (first | refine blk_drewN ?_ _ | refine blk_drew ?_ | refine blk_alloc ?_ _)); refine blk_put (cs := #[.slice Ao14 t357.length co14, .int .i64 0, .int .i64 0, .int .i64 0, .slice none 0 0, .bool false, .slice none 0 0, .slice none 0 0, .slice none 0 0]) ?_ 1 _ rfl; (with_reducible repeat (first | refine blk_drewN ?_ _ | refine blk_drew ?_ | refine blk_alloc ?_ _)); refine blk_put (cs := #[.slice none 0 0, .int .i64 0, .int .i64 0, .int .i64 0, .slice none 0 0, .bool false, .slice none 0 0, .slice none 0 0, .slice none 0 0]) ?_ 0 _ rfl; exact bf NB356_355.out BK356) Try.underlying36 rfl (by kernel_rfl)) rfl ?_
 exact ⟨_, _, _, _, _, ee, by (with_reducible repeat (first | apply Kd.R_alloc | apply Kd.R_drewN | apply Kd.R_drew)); exact Kd.R_mono (Kd.R_far (p := ⟨gb356, 8, none⟩) (Kd.R_far (p := ⟨gb356, 7, none⟩) (Kd.R_far (p := ⟨gb356, 6, none⟩) (Kd.R_far (p := ⟨gb356, 5, none⟩) (Kd.R_far (p := ⟨gb356, 4, none⟩) (Kd.R_far (p := ⟨gb356, 3, none⟩) (Kd.R_far (p := ⟨gb356, 2, none⟩) (Kd.R_far (p := ⟨gb356, 1, none⟩) (Kd.R_far (p := ⟨gb356, 0, none⟩) (Kd.R_far (p := ⟨gb355, 4, none⟩) (Kd.R_types (Kd.R_types HO359.out BK355.out (by decide)) BK356.out (by decide)) (fun _ hk => hk.1.2) (.slice Ao25 t369.length co25)) (fun _ hk => hk.2) (.slice Ao14 t357.length co14)) (fun _ hk => hk.2) (.int .i64 a0_1)) (fun _ hk => hk.2) (.int .i64 a0_2)) (fun _ hk => hk.2) (.int .i64 a0_3)) (fun _ hk => hk.2) (.slice Ao25 t369.length co25)) (fun _ hk => hk.2) (.bool a0_5)) (fun _ hk => hk.2) (.slice Ao16 t360.length co16)) (fun _ hk => hk.2) (.slice Ao18 t363.length co18)) (fun _ hk => hk.2) (.slice Ao20 t366.length co20)) (fun _ hk => trivial), by (with_reducible repeat (first | apply Kd.R_alloc | apply Kd.R_drewN | apply Kd.R_drew)); exact Kd.R_mono (Kd.R_far (p := ⟨gb356, 8, none⟩) (Kd.R_far (p := ⟨gb356, 7, none⟩) (Kd.R_far (p := ⟨gb356, 6, none⟩) (Kd.R_far (p := ⟨gb356, 5, none⟩) (Kd.R_far (p := ⟨gb356, 4, none⟩) (Kd.R_far (p := ⟨gb356, 3, none⟩) (Kd.R_far (p := ⟨gb356, 2, none⟩) (Kd.R_far (p := ⟨gb356, 1, none⟩) (Kd.R_far (p := ⟨gb356, 0, none⟩) (Kd.R_far (p := ⟨gb355, 4, none⟩) (Kd.R_types (Kd.R_types HO371.out BK355.out (by decide)) BK356.out (by decide)) (fun _ hk => hk.1.2) (.slice Ao25 t369.length co25)) (fun _ hk => hk.2) (.slice Ao14 t357.length co14)) (fun _ hk => hk.2) (.int .i64 a0_1)) (fun _ hk => hk.2) (.int .i64 a0_2)) (fun _ hk => hk.2) (.int .i64 a0_3)) (fun _ hk => hk.2) (.slice Ao25 t369.length co25)) (fun _ hk => hk.2) (.bool a0_5)) (fun _ hk => hk.2) (.slice Ao16 t360.length co16)) (fun _ hk => hk.2) (.slice Ao18 t363.length co18)) (fun _ hk => hk.2) (.slice Ao20 t366.length co20)) (fun _ hk => ⟨hk.1.1.1.2, hk.1.1.2⟩), by (with_reducible repeat (first | apply Kd.R_alloc | apply Kd.R_drewN | apply Kd.R_drew)); exact Kd.R_mono (Kd.R_far (p := ⟨gb356, 8, none⟩) (Kd.R_far (p := ⟨gb356, 7, none⟩) (Kd.R_far (p := ⟨gb356, 6, none⟩) (Kd.R_far (p := ⟨gb356, 5, none⟩) (Kd.R_far (p := ⟨gb356, 4, none⟩) (Kd.R_far (p := ⟨gb356, 3, none⟩) (Kd.R_far (p := ⟨gb356, 2, none⟩) (Kd.R_far (p := ⟨gb356, 1, none⟩) (Kd.R_far (p := ⟨gb356, 0, none⟩) (Kd.R_far (p := ⟨gb355, 4, none⟩) (Kd.R_types (Kd.R_types HO362.out BK355.out (by decide)) BK356.out (by decide)) (fun _ hk => hk.1.2) (.slice Ao25 t369.length co25)) (fun _ hk => hk.2) (.slice Ao14 t357.length co14)) (fun _ hk => hk.2) (.int .i64 a0_1)) (fun _ hk => hk.2) (.int .i64 a0_2)) (fun _ hk => hk.2) (.int .i64 a0_3)) (fun _ hk => hk.2) (.slice Ao25 t369.length co25)) (fun _ hk => hk.2) (.bool a0_5)) (fun _ hk => hk.2) (.slice Ao16 t360.length co16)) (fun _ hk => hk.2) (.slice Ao18 t363.length co18)) (fun _ hk => hk.2) (.slice Ao20 t366.length co20)) (fun _ hk => trivial), by (with_reducible repeat (first | apply Kd.R_alloc | apply Kd.R_drewN | apply Kd.R_drew)); exact Kd.R_mono (Kd.R_far (p := ⟨gb356, 8, none⟩) (Kd.R_far (p := ⟨gb356, 7, none⟩) (Kd.R_far (p := ⟨gb356, 6, none⟩) (Kd.R_far (p := ⟨gb356, 5, none⟩) (Kd.R_far (p := ⟨gb356, 4, none⟩) (Kd.R_far (p := ⟨gb356, 3, none⟩) (Kd.R_far (p := ⟨gb356, 2, none⟩) (Kd.R_far (p := ⟨gb356, 1, none⟩) (Kd.R_far (p := ⟨gb356, 0, none⟩) (Kd.R_far (p := ⟨gb355, 4, none⟩) (Kd.R_types (Kd.R_types HO365.out BK355.out (by decide)) BK356.out (by decide)) (fun _ hk => hk.1.2) (.slice Ao25 t369.length co25)) (fun _ hk => hk.2) (.slice Ao14 t357.length co14)) (fun _ hk => hk.2) (.int .i64 a0_1)) (fun _ hk => hk.2) (.int .i64 a0_2)) (fun _ hk => hk.2) (.int .i64 a0_3)) (fun _ hk => hk.2) (.slice Ao25 t369.length co25)) (fun _ hk => hk.2) (.bool a0_5)) (fun _ hk => hk.2) (.slice Ao16 t360.length co16)) (fun _ hk => hk.2) (.slice Ao18 t363.length co18)) (fun _ hk => hk.2) (.slice Ao20 t366.length co20)) (fun _ hk => ⟨hk.1.1.2, hk.1.1.1.2⟩), by (with_reducible repeat (first | apply Kd.R_alloc | apply Kd.R_drewN | apply Kd.R_drew)); exact Kd.R_mono (Kd.R_far (p := ⟨gb356, 8, none⟩) (Kd.R_far (p := ⟨gb356, 7, none⟩) (Kd.R_far (p := ⟨gb356, 6, none⟩) (Kd.R_far (p := ⟨gb356, 5, none⟩) (Kd.R_far (p := ⟨gb356, 4, none⟩) (Kd.R_far (p := ⟨gb356, 3, none⟩) (Kd.R_far (p := ⟨gb356, 2, none⟩) (Kd.R_far (p := ⟨gb356, 1, none⟩) (Kd.R_far (p := ⟨gb356, 0, none⟩) (Kd.R_far (p := ⟨gb355, 4, none⟩) (Kd.R_types (Kd.R_types HO368.out BK355.out (by decide)) BK356.out (by decide)) (fun _ hk => hk.1.2) (.slice Ao25 t369.length co25)) (fun _ hk => hk.2) (.slice Ao14 t357.length co14)) (fun _ hk => hk.2) (.int .i64 a0_1)) (fun _ hk => hk.2) (.int .i64 a0_2)) (fun _ hk => hk.2) (.int .i64 a0_3)) (fun _ hk => hk.2) (.slice Ao25 t369.length co25)) (fun _ hk => hk.2) (.bool a0_5)) (fun _ hk => hk.2) (.slice Ao16 t360.length co16)) (fun _ hk => hk.2) (.slice Ao18 t363.length co18)) (fun _ hk => hk.2) (.slice Ao20 t366.length co20)) (fun _ hk => ⟨hk.1.1.2, hk.1.1.1.2⟩), bb HB⟩
def impl_plays.f (a0_0 : Int) (a0_1 : Int) (a0_2 : Int) (a0_3 : Int) (a0_4 : Int) (a1 : Int) : Option (Bool) := if a0_0 = a1 then (some true) else (some (a0_1 == a1))
theorem impl_plays.calls (a0_0 : Int) (a0_1 : Int) (a0_2 : Int) (a0_3 : Int) (a0_4 : Int) (a1 : Int) (r : Bool) (w : World) (h : impl_plays.f a0_0 a0_1 a0_2 a0_3 a0_4 a1 = some r) :
  Calls Try.prog 80 #[.agg #[.int .i64 a0_0, .int .i64 a0_1, .int .i64 a0_2, .int .i64 a0_3, .int .i64 a0_4], .int .i64 a1] w fun e w' => e = .returned (.bool r) ∧ Below w.heap.size w w' := by
 have hu95 := Try.underlying95
 have HB := dk (Below.refl w.heap.size w)
 have H : (if a0_0 = a1 then (some true) else (some (a0_1 == a1))) = some r := h
 clear h
 by_cases c3 : a0_0 = a1
 ·rw [if_pos c3] at H
  have c3b0 : (a0_0 == a1) = true := beq_iff_eq.mpr c3
  have c3b1 : (a0_0 != a1) = false := bne_eq_false_iff_eq.mpr c3
  clear c3
  obtain rfl := Option.some.inj H
  go_enter Try.func80, Try.ntmps80
  go_wp2_with (first | ((with_reducible refine gate_dst (N := 2) rfl ?_); refine bx (N := 2) (cs := #[.int .i64 a0_0, .int .i64 a0_1, .int .i64 a0_2, .int .i64 a0_3, .int .i64 a0_4]) (t := 95) ?_; intro gb372 hg w4 hbox hb; have BK372 := dk (hbox); have GW372 := gs hg HB; have GE372 := gs hg HB; replace HB := hs_ HB hb; clear hb hbox hg; have ⟨z5_0, z5_1, z5_2, z5_3, z5_4, v5_0, v5_1, v5_2, v5_3, v5_4⟩ := rz5 BK372))
  go_ret
  exact ⟨ee, bb HB⟩
 ·rw [if_neg c3] at H
  have c3b0 : (a0_0 == a1) = false := beq_eq_false_iff_ne.mpr c3
  have c3b1 : (a0_0 != a1) = true := bne_iff_ne.mpr c3
  obtain rfl := Option.some.inj H
  go_enter Try.func80, Try.ntmps80
  go_wp2_with (first | ((with_reducible refine gate_dst (N := 2) rfl ?_); refine bx (N := 2) (cs := #[.int .i64 a0_0, .int .i64 a0_1, .int .i64 a0_2, .int .i64 a0_3, .int .i64 a0_4]) (t := 95) ?_; intro gb372 hg w6 hbox hb; have BK372 := dk (hbox); have GW372 := gs hg HB; have GE372 := gs hg HB; replace HB := hs_ HB hb; clear hb hbox hg; have ⟨z7_0, z7_1, z7_2, z7_3, z7_4, v7_0, v7_1, v7_2, v7_3, v7_4⟩ := rz5 BK372))
  go_ret
  exact ⟨ee, bb HB⟩
def impl_awarded.f (a0_0 : Int) (a0_1 : Int) (a0_2 : Int) (a0_3 : Int) (a0_4 : Int) (a1 : Int) : Option (Int × Int × Int × Int × Int) := if a0_1 = a1 then (some (a0_0, a0_1, 0, 0, 3)) else (some (a0_0, a0_1, 0, 0, 2))
theorem impl_awarded.calls (a0_0 : Int) (a0_1 : Int) (a0_2 : Int) (a0_3 : Int) (a0_4 : Int) (a1 : Int) (r1 : Int) (r2 : Int) (r3 : Int) (r4 : Int) (r5 : Int) (w : World) (h : impl_awarded.f a0_0 a0_1 a0_2 a0_3 a0_4 a1 = some (r1, r2, r3, r4, r5)) :
    Calls Try.prog 64 #[.agg #[.int .i64 a0_0, .int .i64 a0_1, .int .i64 a0_2, .int .i64 a0_3, .int .i64 a0_4], .int .i64 a1] w fun e w' => e = .returned (.agg #[.int .i64 r1, .int .i64 r2, .int .i64 r3, .int .i64 r4, .int .i64 r5]) ∧ Below w.heap.size w w' := by
  unfold impl_awarded.f at h
  by_cases hc : a0_1 = a1
  · rw [if_pos hc] at h
    have hb : (a0_1 == a1) = true := beq_iff_eq.mpr hc
    clear hc
    simp only [Option.some.injEq, Prod.mk.injEq] at h
    obtain ⟨rfl, rfl, rfl, rfl, rfl⟩ := h
    go_enter Try.func64, Try.ntmps64
    go_wp2
    exact bodyPost_ret (v := .agg #[.int .i64 _, .int .i64 _, .int .i64 _, .int .i64 _, .int .i64 _]) (by simp [results, Try.results64, go_sem]) rfl ⟨rfl, (by repeat (first | exact Below.refl _ _ | apply below_alloc | apply pw_below_drewN | apply below_drew1 | refine below_set ?_ (by simp; try omega)))⟩
  · rw [if_neg hc] at h
    have hb : (a0_1 == a1) = false := beq_eq_false_iff_ne.mpr hc
    clear hc
    simp only [Option.some.injEq, Prod.mk.injEq] at h
    obtain ⟨rfl, rfl, rfl, rfl, rfl⟩ := h
    go_enter Try.func64, Try.ntmps64
    go_wp2
    exact bodyPost_ret (v := .agg #[.int .i64 _, .int .i64 _, .int .i64 _, .int .i64 _, .int .i64 _]) (by simp [results, Try.results64, go_sem]) rfl ⟨rfl, (by repeat (first | exact Below.refl _ _ | apply below_alloc | apply pw_below_drewN | apply below_drew1 | refine below_set ?_ (by simp; try omega)))⟩
def impl_isTeam.f (l0_0 : List (S139)) (a0_1 : Int) (a0_2 : Int) (a0_3 : Int) (l0_4 : List Int) (a0_5 : Bool) (l0_6 : List (S95)) (l0_7 : List Int) (l0_8 : List Int) (a1 : Int) : Option (Bool) := (impl_within.f a1 0 (wrap64 ((l0_0.length : Int) - 1))).bind fun t908 => (some t908)
theorem impl_isTeam.calls (A0_0 : Option Addr) (c0_0 : Nat) (l0_0 : List (S139)) (a0_1 : Int) (a0_2 : Int) (a0_3 : Int) (A0_4 : Option Addr) (c0_4 : Nat) (l0_4 : List Int) (a0_5 : Bool) (A0_6 : Option Addr) (c0_6 : Nat) (l0_6 : List (S95)) (A0_7 : Option Addr) (c0_7 : Nat) (l0_7 : List Int) (A0_8 : Option Addr) (c0_8 : Nat) (l0_8 : List Int) (a1 : Int) (r : Bool) (w : World) (hr0_0 : Kd.C k139 w A0_0 l0_0.length l0_0) (hc0_0 : l0_0.length ≤ c0_0) (hr0_4 : Kd.C (Kd.int .i64) w A0_4 l0_4.length l0_4) (hc0_4 : l0_4.length ≤ c0_4) (hr0_6 : Kd.C k95 w A0_6 l0_6.length l0_6) (hc0_6 : l0_6.length ≤ c0_6) (hr0_7 : Kd.C (Kd.int .i64) w A0_7 l0_7.length l0_7) (hc0_7 : l0_7.length ≤ c0_7) (hr0_8 : Kd.C (Kd.int .i64) w A0_8 l0_8.length l0_8) (hc0_8 : l0_8.length ≤ c0_8) (h : impl_isTeam.f l0_0 a0_1 a0_2 a0_3 l0_4 a0_5 l0_6 l0_7 l0_8 a1 = some r) :
  Calls Try.prog 78 #[.agg #[.slice A0_0 l0_0.length c0_0, .int .i64 a0_1, .int .i64 a0_2, .int .i64 a0_3, .slice A0_4 l0_4.length c0_4, .bool a0_5, .slice A0_6 l0_6.length c0_6, .slice A0_7 l0_7.length c0_7, .slice A0_8 l0_8.length c0_8], .int .i64 a1] w fun e w' => e = .returned (.bool r) ∧ Below w.heap.size w w' := by
 have hu36 := Try.underlying36
 have HR0_0 := dk hr0_0
 have HC0_0 := dk hc0_0
 clear hr0_0 hc0_0
 have HR0_4 := dk hr0_4
 have HC0_4 := dk hc0_4
 clear hr0_4 hc0_4
 have HR0_6 := dk hr0_6
 have HC0_6 := dk hc0_6
 clear hr0_6 hc0_6
 have HR0_7 := dk hr0_7
 have HC0_7 := dk hc0_7
 clear hr0_7 hc0_7
 have HR0_8 := dk hr0_8
 have HC0_8 := dk hc0_8
 clear hr0_8 hc0_8
 have HB := dk (Below.refl w.heap.size w)
 have H : ((impl_within.f a1 0 (wrap64 ((l0_0.length : Int) - 1))).bind fun t908 => (some t908)) = some r := h
 clear h
 replace H := Option.bind_eq_some_iff.mp H
 obtain ⟨t908, A30, H⟩ := H
 try dsimp only at H
 have A3 := dk A30
 clear A30
 obtain rfl := Option.some.inj H
 go_enter Try.func78, Try.ntmps78
 go_wp2_with (first | ((with_reducible refine gate_dst (N := 2) rfl ?_); refine bx (N := 2) (cs := #[.slice A0_0 l0_0.length c0_0, .int .i64 a0_1, .int .i64 a0_2, .int .i64 a0_3, .slice A0_4 l0_4.length c0_4, .bool a0_5, .slice A0_6 l0_6.length c0_6, .slice A0_7 l0_7.length c0_7, .slice A0_8 l0_8.length c0_8]) (t := 36) ?_; intro gb907 hg w4 hbox hb; have BK907 := dk (hbox); have GW907 := gs hg HB; have GE907 := gs hg HB; replace HB := hs_ HB hb; clear hb hbox hg; have ⟨z5_0, z5_1, z5_2, z5_3, z5_4, z5_5, z5_6, z5_7, z5_8, v5_0, v5_1, v5_2, v5_3, v5_4, v5_5, v5_6, v5_7, v5_8⟩ := rz9 BK907) | ((with_reducible refine gate_callee (f := 128) rfl ?_); refine gl (some 10) Try.func128 #[.int .i64 a1, .int .i64 0, .int .i64 (wrap64 ((l0_0.length : Int) - 1))] ?_; (with_reducible refine (impl_within.calls a1 0 (wrap64 ((l0_0.length : Int) - 1)) t908 _ A3.out).mono ?_); rintro e w' ⟨rfl, ⟨nd, rfl⟩⟩; refine ⟨_, rfl, ?_⟩))
 go_ret
 exact ⟨ee, bb HB⟩
def impl_RuleName.f (a0 : Int) : Option (ByteArray) := if a0 = 1 then (some (⟨#[97, 110, 110, 117, 108]⟩ : ByteArray)) else (if a0 = 2 then (some (⟨#[102, 111, 114, 102, 101, 105, 116]⟩ : ByteArray)) else (some (⟨#[]⟩ : ByteArray)))
theorem impl_RuleName.calls (a0 : Int) (r : ByteArray) (w : World) (h : impl_RuleName.f a0 = some r) :
  Calls Try.prog 79 #[.int .i64 a0] w fun e w' => e = .returned (.string r) ∧ Drawn0 w w' := by
 have H : (if a0 = 1 then (some (⟨#[97, 110, 110, 117, 108]⟩ : ByteArray)) else (if a0 = 2 then (some (⟨#[102, 111, 114, 102, 101, 105, 116]⟩ : ByteArray)) else (some (⟨#[]⟩ : ByteArray)))) = some r := h
 clear h
 by_cases c2 : a0 = 1
 ·rw [if_pos c2] at H
  have c2b0 : (a0 == 1) = true := beq_iff_eq.mpr c2
  have c2b1 : (a0 != 1) = false := bne_eq_false_iff_eq.mpr c2
  clear c2
  obtain rfl := Option.some.inj H
  go_enter Try.func79, Try.ntmps79
  go_wp2
  go_ret
  exact ⟨e2_, by repeat (first | exact Drawn0.refl _ | apply Drawn0.step)⟩
 ·rw [if_neg c2] at H
  have c2b0 : (a0 == 1) = false := beq_eq_false_iff_ne.mpr c2
  have c2b1 : (a0 != 1) = true := bne_iff_ne.mpr c2
  by_cases c3 : a0 = 2
  ·rw [if_pos c3] at H
   have c3b0 : (a0 == 2) = true := beq_iff_eq.mpr c3
   have c3b1 : (a0 != 2) = false := bne_eq_false_iff_eq.mpr c3
   clear c3
   obtain rfl := Option.some.inj H
   go_enter Try.func79, Try.ntmps79
   go_wp2
   go_ret
   exact ⟨e2_, by repeat (first | exact Drawn0.refl _ | apply Drawn0.step)⟩
  ·rw [if_neg c3] at H
   have c3b0 : (a0 == 2) = false := beq_eq_false_iff_ne.mpr c3
   have c3b1 : (a0 != 2) = true := bne_iff_ne.mpr c3
   obtain rfl := Option.some.inj H
   go_enter Try.func79, Try.ntmps79
   go_wp2
   go_ret
   exact ⟨e2_, by repeat (first | exact Drawn0.refl _ | apply Drawn0.step)⟩
def impl_IsOpen.f (a0_0 : Int) (a0_1 : Int) (a0_2 : Int) (a0_3 : Int) (a0_4 : Int) : Option (Bool) := some (a0_4 == 0)
theorem impl_IsOpen.calls (a0_0 : Int) (a0_1 : Int) (a0_2 : Int) (a0_3 : Int) (a0_4 : Int) (r : Bool) (w : World) (h : impl_IsOpen.f a0_0 a0_1 a0_2 a0_3 a0_4 = some r) :
  Calls Try.prog 81 #[.agg #[.int .i64 a0_0, .int .i64 a0_1, .int .i64 a0_2, .int .i64 a0_3, .int .i64 a0_4]] w fun e w' => e = .returned (.bool r) ∧ Below w.heap.size w w' := by
 have hu95 := Try.underlying95
 have HB := dk (Below.refl w.heap.size w)
 have H : (some (a0_4 == 0)) = some r := h
 clear h
 obtain rfl := Option.some.inj H
 go_enter Try.func81, Try.ntmps81
 go_wp2_with (first | ((with_reducible refine gate_dst (N := 1) rfl ?_); refine bx (N := 1) (cs := #[.int .i64 a0_0, .int .i64 a0_1, .int .i64 a0_2, .int .i64 a0_3, .int .i64 a0_4]) (t := 95) ?_; intro gb909 hg w2 hbox hb; have BK909 := dk (hbox); have GW909 := gs hg HB; have GE909 := gs hg HB; replace HB := hs_ HB hb; clear hb hbox hg; have ⟨z3_0, z3_1, z3_2, z3_3, z3_4, v3_0, v3_1, v3_2, v3_3, v3_4⟩ := rz5 BK909))
 go_ret
 exact ⟨ee, bb HB⟩
end Go.Proofs.Ythfefanapneocaa.Q
