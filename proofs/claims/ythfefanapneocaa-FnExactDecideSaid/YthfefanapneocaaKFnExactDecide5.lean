/- A part of the proof of FnExactDecide: functions of the program, as plain functions, with the proof that the machine's call does what they say; plain lemmas; and those of the words that print.sh prints which this proof uses. No condition. -/
import Derived.Test.YthfefanapneocaaKFnExactDecide1
import Derived.Test.YthfefanapneocaaProg
import Derived.Below
import Derived.Deep.Draws
import Derived.Deep.AppendLies
import Derived.Maps.AppendAt
import Derived.OwnWalk
import Derived.Laws.BytesArg
import Derived.Laws.MakeOwn
import Derived.Laws.OwnMore
import Derived.Deep.OwnRows
import Derived.Tactics
import Derived.Lib.ConvBytes
import Derived.Laws.Slices
import Derived.WalkKit
import Derived.KernelRfl
import Derived.RowKit3
import Derived.Deep.LoopGhost
import Derived.Deep.QuietTactic
import Derived.BigQuiet
import Derived.WideLaws
import Derived.Deep.DeepCutAuto
import Derived.Deep.CutBlock
import Derived.Deep.RegionHeld3
import Derived.Laws.Rows
import Derived.Lib.AppendStr
import Derived.ArgAppend
import Derived.Laws.IdiomCopy
import Derived.OrdersHeld
import Derived.Laws.BitsLemmas
import Derived.RowKit
import Derived.WalkSpells
import Derived.Laws.StructEq
import Derived.Test.YthfefanapneocaaKFnExactDecide4
namespace Go.Proofs.Ythfefanapneocaa.Q
open Go.RowKit Go.Proofs.YthfefanapneocaaW.PrintWords Go.Proofs.YthfefanapneocaaW.PrintLast Go.Proofs.YthfefanapneocaaW.PrintMore
attribute [local go_sem] max2_int min2_int max_two min_two max_three min_three max_four min_four
set_option linter.unusedVariables false
set_option linter.unusedSimpArgs false
set_option maxRecDepth 100000
set_option maxHeartbeats 8000000
def laws_markGameS.l0 : Nat → List (S95) → Int → Int → Option (Int × (List (S95)))
 | 0, _, _, _ => none
 | k + 1, x0, x1, x5 => if x5 < (x0.length : Int) then (if 0 ≤ x5 then ((some (x0.set (x5 : Int).toNat (⟨x1, (rd_T95 x0 x5).f1, (rd_T95 x0 x5).f2, (rd_T95 x0 x5).f3, (rd_T95 x0 x5).f4⟩ : S95) : List (S95))).bind fun y457 => ((some (y457.set (x5 : Int).toNat (⟨(rd_T95 y457 x5).f0, wrap64 (x1 + 1), (rd_T95 y457 x5).f2, (rd_T95 y457 x5).f3, (rd_T95 y457 x5).f4⟩ : S95) : List (S95))).bind fun y458 => ((some (y458.set (x5 : Int).toNat (⟨(rd_T95 y458 x5).f0, (rd_T95 y458 x5).f1, wrap64 ((wrap64 (x1 + 1)) + 1), (rd_T95 y458 x5).f3, (rd_T95 y458 x5).f4⟩ : S95) : List (S95))).bind fun y459 => ((some (y459.set (x5 : Int).toNat (⟨(rd_T95 y459 x5).f0, (rd_T95 y459 x5).f1, (rd_T95 y459 x5).f2, wrap64 ((wrap64 ((wrap64 (x1 + 1)) + 1)) + 1), (rd_T95 y459 x5).f4⟩ : S95) : List (S95))).bind fun y460 => (laws_markGameS.l0 k (y460.set (x5 : Int).toNat (⟨(rd_T95 y460 x5).f0, (rd_T95 y460 x5).f1, (rd_T95 y460 x5).f2, (rd_T95 y460 x5).f3, wrap64 ((wrap64 ((wrap64 ((wrap64 (x1 + 1)) + 1)) + 1)) + 1)⟩ : S95)) (wrap64 ((wrap64 ((wrap64 ((wrap64 ((wrap64 (x1 + 1)) + 1)) + 1)) + 1)) + 1)) (wrap64 (x5 + 1))))))) else (none)) else (some (x1, x0))
def laws_markGameS.f (k : Nat) (l0 : List (S95)) (a1 : Int) : Option (Int × (List (S95))) := laws_markGameS.l0 k l0 a1 0
theorem laws_markGameS.calls (k : Nat) (P0_ : Nat → Prop) (u9000_ : Value) (l0 : List (S95)) (a1 : Int) (r1 : Int) (r2 : List (S95)) (w0 w : World) (hB : Below w0.heap.size w0 w) (ho0 : Kd.R k95 95 w w0.heap.size P0_ u9000_ l0) (h : laws_markGameS.f k l0 a1 = some (r1, r2)) :
  Calls Try.prog 70 #[u9000_, .int .i64 a1] w fun e w' => e = .returned (.int .i64 r1) ∧ Kd.R k95 95 w' w0.heap.size (fun k_ => (P0_ k_ ∨ w.heap.size ≤ k_)) u9000_ r2 ∧ Below w0.heap.size w0 w' ∧ Kept w w' (fun k_ => P0_ k_) := by
 have HO0 := dk (show Kd.R k95 95 w w0.heap.size (fun k_ => (P0_ k_ ∨ w.heap.size ≤ k_)) u9000_ l0 from Kd.R_mono ho0 (fun k_ hk => (.inl hk)))
 have HK := dk (Kept.refl w (fun k_ => P0_ k_))
 have HW0 := dk hB.size
 have HB := dk hB
 clear hB
 have H : (laws_markGameS.l0 k l0 a1 0) = some (r1, r2) := h
 clear h
 have H' := dk H
 clear H
 go_enter Try.func70, Try.ntmps70
 go_wp2
 go_loopg [1, 5] k (fun kq v1 v5 w' => ∃ (x0_1 : List (S95)) (x1_1 : Int) (x5_1 : Int), v1 = .int .i64 x1_1 ∧ v5 = .int .i64 x5_1 ∧ Aside0 (laws_markGameS.l0 kq x0_1 x1_1 x5_1 = some (r1, r2)) ∧ Aside0 (kq ≤ k) ∧ Aside0 (Kd.R k95 95 w' w0.heap.size (fun k_ => (P0_ k_ ∨ w.heap.size ≤ k_)) u9000_ x0_1) ∧ Aside0 (Kept w w' (fun k_ => P0_ k_)) ∧ Aside0 (Below w0.heap.size w0 w'))
 case atStart => exact ⟨(l0), (a1), (0), e2_, e2_, H', ⟨Nat.le_refl _⟩, ⟨rr HO0⟩, ⟨by repeat (first | (with_reducible first | exact HK.out | apply Kept.alloc | apply Kept.drewN | apply Kept.drew) | exact HK.out)⟩, ⟨bb HB⟩⟩
 case round =>
  clear H'
  (try clear p2)
  obtain ⟨x0_1, x1_1, x5_1, rfl, rfl, HA, HK1, HO_0, HK, HB⟩ := hrel
  cases gk with
  | zero => exact absurd HA.out (by simp [laws_markGameS.l0])
  | succ k1 =>
   have H := HA.out
   clear HA
   simp only [laws_markGameS.l0] at H
   by_cases c3 : x5_1 < (x0_1.length : Int)
   ·rw [if_pos c3] at H
    have c3b0 : decide (x5_1 < (x0_1.length : Int)) = true := decide_eq_true c3
    clear c3
    by_cases c4 : 0 ≤ x5_1
    ·rw [if_pos c4] at H
     have c4b0 : decide (0 ≤ x5_1) = true := decide_eq_true c4
     clear c4
     obtain ⟨y457, hy457⟩ : ∃ y_ : List (S95), y_ = (x0_1.set (x5_1 : Int).toNat (⟨x1_1, (rd_T95 x0_1 x5_1).f1, (rd_T95 x0_1 x5_1).f2, (rd_T95 x0_1 x5_1).f3, (rd_T95 x0_1 x5_1).f4⟩ : S95)) := ⟨_, rfl⟩
     replace H : ((some (y457.set (x5_1 : Int).toNat (⟨(rd_T95 y457 x5_1).f0, wrap64 (x1_1 + 1), (rd_T95 y457 x5_1).f2, (rd_T95 y457 x5_1).f3, (rd_T95 y457 x5_1).f4⟩ : S95) : List (S95))).bind fun y458 => ((some (y458.set (x5_1 : Int).toNat (⟨(rd_T95 y458 x5_1).f0, (rd_T95 y458 x5_1).f1, wrap64 ((wrap64 (x1_1 + 1)) + 1), (rd_T95 y458 x5_1).f3, (rd_T95 y458 x5_1).f4⟩ : S95) : List (S95))).bind fun y459 => ((some (y459.set (x5_1 : Int).toNat (⟨(rd_T95 y459 x5_1).f0, (rd_T95 y459 x5_1).f1, (rd_T95 y459 x5_1).f2, wrap64 ((wrap64 ((wrap64 (x1_1 + 1)) + 1)) + 1), (rd_T95 y459 x5_1).f4⟩ : S95) : List (S95))).bind fun y460 => (laws_markGameS.l0 k1 (y460.set (x5_1 : Int).toNat (⟨(rd_T95 y460 x5_1).f0, (rd_T95 y460 x5_1).f1, (rd_T95 y460 x5_1).f2, (rd_T95 y460 x5_1).f3, wrap64 ((wrap64 ((wrap64 ((wrap64 (x1_1 + 1)) + 1)) + 1)) + 1)⟩ : S95)) (wrap64 ((wrap64 ((wrap64 ((wrap64 ((wrap64 (x1_1 + 1)) + 1)) + 1)) + 1)) + 1)) (wrap64 (x5_1 + 1)))))) = some (r1, r2) := by first | (rw [hy457]; with_reducible exact H) | (have H2_ := (Option.bind_some _ _).symm.trans H; rw [hy457]; with_reducible exact H2_) | (have H2_ := (Option.bind_some _ _).symm.trans H; with_reducible exact H2_) | with_reducible exact H | (rw [hy457]; exact H) | exact H
     have Ny457 := dk hy457
     clear hy457
     obtain ⟨y458, hy458⟩ : ∃ y_ : List (S95), y_ = (y457.set (x5_1 : Int).toNat (⟨(rd_T95 y457 x5_1).f0, wrap64 (x1_1 + 1), (rd_T95 y457 x5_1).f2, (rd_T95 y457 x5_1).f3, (rd_T95 y457 x5_1).f4⟩ : S95)) := ⟨_, rfl⟩
     replace H : ((some (y458.set (x5_1 : Int).toNat (⟨(rd_T95 y458 x5_1).f0, (rd_T95 y458 x5_1).f1, wrap64 ((wrap64 (x1_1 + 1)) + 1), (rd_T95 y458 x5_1).f3, (rd_T95 y458 x5_1).f4⟩ : S95) : List (S95))).bind fun y459 => ((some (y459.set (x5_1 : Int).toNat (⟨(rd_T95 y459 x5_1).f0, (rd_T95 y459 x5_1).f1, (rd_T95 y459 x5_1).f2, wrap64 ((wrap64 ((wrap64 (x1_1 + 1)) + 1)) + 1), (rd_T95 y459 x5_1).f4⟩ : S95) : List (S95))).bind fun y460 => (laws_markGameS.l0 k1 (y460.set (x5_1 : Int).toNat (⟨(rd_T95 y460 x5_1).f0, (rd_T95 y460 x5_1).f1, (rd_T95 y460 x5_1).f2, (rd_T95 y460 x5_1).f3, wrap64 ((wrap64 ((wrap64 ((wrap64 (x1_1 + 1)) + 1)) + 1)) + 1)⟩ : S95)) (wrap64 ((wrap64 ((wrap64 ((wrap64 ((wrap64 (x1_1 + 1)) + 1)) + 1)) + 1)) + 1)) (wrap64 (x5_1 + 1))))) = some (r1, r2) := by first | (rw [hy458]; with_reducible exact H) | (have H2_ := (Option.bind_some _ _).symm.trans H; rw [hy458]; with_reducible exact H2_) | (have H2_ := (Option.bind_some _ _).symm.trans H; with_reducible exact H2_) | with_reducible exact H | (rw [hy458]; exact H) | exact H
     have Ny458 := dk hy458
     clear hy458
     obtain ⟨y459, hy459⟩ : ∃ y_ : List (S95), y_ = (y458.set (x5_1 : Int).toNat (⟨(rd_T95 y458 x5_1).f0, (rd_T95 y458 x5_1).f1, wrap64 ((wrap64 (x1_1 + 1)) + 1), (rd_T95 y458 x5_1).f3, (rd_T95 y458 x5_1).f4⟩ : S95)) := ⟨_, rfl⟩
     replace H : ((some (y459.set (x5_1 : Int).toNat (⟨(rd_T95 y459 x5_1).f0, (rd_T95 y459 x5_1).f1, (rd_T95 y459 x5_1).f2, wrap64 ((wrap64 ((wrap64 (x1_1 + 1)) + 1)) + 1), (rd_T95 y459 x5_1).f4⟩ : S95) : List (S95))).bind fun y460 => (laws_markGameS.l0 k1 (y460.set (x5_1 : Int).toNat (⟨(rd_T95 y460 x5_1).f0, (rd_T95 y460 x5_1).f1, (rd_T95 y460 x5_1).f2, (rd_T95 y460 x5_1).f3, wrap64 ((wrap64 ((wrap64 ((wrap64 (x1_1 + 1)) + 1)) + 1)) + 1)⟩ : S95)) (wrap64 ((wrap64 ((wrap64 ((wrap64 ((wrap64 (x1_1 + 1)) + 1)) + 1)) + 1)) + 1)) (wrap64 (x5_1 + 1)))) = some (r1, r2) := by first | (rw [hy459]; with_reducible exact H) | (have H2_ := (Option.bind_some _ _).symm.trans H; rw [hy459]; with_reducible exact H2_) | (have H2_ := (Option.bind_some _ _).symm.trans H; with_reducible exact H2_) | with_reducible exact H | (rw [hy459]; exact H) | exact H
     have Ny459 := dk hy459
     clear hy459
     obtain ⟨y460, hy460⟩ : ∃ y_ : List (S95), y_ = (y459.set (x5_1 : Int).toNat (⟨(rd_T95 y459 x5_1).f0, (rd_T95 y459 x5_1).f1, (rd_T95 y459 x5_1).f2, wrap64 ((wrap64 ((wrap64 (x1_1 + 1)) + 1)) + 1), (rd_T95 y459 x5_1).f4⟩ : S95)) := ⟨_, rfl⟩
     replace H : (laws_markGameS.l0 k1 (y460.set (x5_1 : Int).toNat (⟨(rd_T95 y460 x5_1).f0, (rd_T95 y460 x5_1).f1, (rd_T95 y460 x5_1).f2, (rd_T95 y460 x5_1).f3, wrap64 ((wrap64 ((wrap64 ((wrap64 (x1_1 + 1)) + 1)) + 1)) + 1)⟩ : S95)) (wrap64 ((wrap64 ((wrap64 ((wrap64 ((wrap64 (x1_1 + 1)) + 1)) + 1)) + 1)) + 1)) (wrap64 (x5_1 + 1))) = some (r1, r2) := by first | (rw [hy460]; with_reducible exact H) | (have H2_ := (Option.bind_some _ _).symm.trans H; rw [hy460]; with_reducible exact H2_) | (have H2_ := (Option.bind_some _ _).symm.trans H; with_reducible exact H2_) | with_reducible exact H | (rw [hy460]; exact H) | exact H
     have Ny460 := dk hy460
     clear hy460
     obtain ⟨y461, hy461⟩ : ∃ y_ : List (S95), y_ = (y460.set (x5_1 : Int).toNat (⟨(rd_T95 y460 x5_1).f0, (rd_T95 y460 x5_1).f1, (rd_T95 y460 x5_1).f2, (rd_T95 y460 x5_1).f3, wrap64 ((wrap64 ((wrap64 ((wrap64 (x1_1 + 1)) + 1)) + 1)) + 1)⟩ : S95)) := ⟨_, rfl⟩
     replace H : (laws_markGameS.l0 k1 y461 (wrap64 ((wrap64 ((wrap64 ((wrap64 ((wrap64 (x1_1 + 1)) + 1)) + 1)) + 1)) + 1)) (wrap64 (x5_1 + 1))) = some (r1, r2) := by first | (rw [hy461]; with_reducible exact H) | (have H2_ := (Option.bind_some _ _).symm.trans H; rw [hy461]; with_reducible exact H2_) | (have H2_ := (Option.bind_some _ _).symm.trans H; with_reducible exact H2_) | with_reducible exact H | (rw [hy461]; exact H) | exact H
     have Ny461 := dk hy461
     clear hy461
     have H' := dk H
     clear H
     obtain ⟨Ao10, co10, eo10⟩ := Kd.R_slice HO_0.out
     subst eo10
     have p5 : 0 ≤ (x5_1 : Int) := oa
     have q5 : (x5_1 : Int) < ((x0_1.length : Int) : Int) := oa
     obtain ⟨go5, co5, eo5, gb5, gl5, cl5, HG5⟩ := Kd.R_form HO_0.out (by omega)
     (first | cases eo5 | (injection eo5 with ea_ en_ ec_; (first | subst ea_ | (injection ea_ with ea_; subst ea_)); subst ec_; clear en_))
     have GB5 := dk gb5
     have GG5 := dk HG5
     clear gb5 gl5 HG5
     have HMgo5 := dk (show (P0_ go5 ∨ w.heap.size ≤ go5) from (HO_0.out.1 _ rfl))
     obtain ⟨ce5, hcl5, hM5, hcc5, hfr5⟩ := Kd.R_elem HO_0.out z95 (x5_1 : Int) p5 q5
     obtain rfl := k95_openM hM5
     have hx5_0 : wr.cell? ⟨go5, (x5_1 : Int).toNat * 5, none⟩ = some (.int .i64 ((rd_T95 x0_1 x5_1).f0)) := hcc5 0 _ rfl
     have hx5_1 : wr.cell? ⟨go5, (x5_1 : Int).toNat * 5 + 1, none⟩ = some (.int .i64 ((rd_T95 x0_1 x5_1).f1)) := hcc5 1 _ rfl
     have hx5_2 : wr.cell? ⟨go5, (x5_1 : Int).toNat * 5 + 2, none⟩ = some (.int .i64 ((rd_T95 x0_1 x5_1).f2)) := hcc5 2 _ rfl
     have hx5_3 : wr.cell? ⟨go5, (x5_1 : Int).toNat * 5 + 3, none⟩ = some (.int .i64 ((rd_T95 x0_1 x5_1).f3)) := hcc5 3 _ rfl
     have hx5_4 : wr.cell? ⟨go5, (x5_1 : Int).toNat * 5 + 4, none⟩ = some (.int .i64 ((rd_T95 x0_1 x5_1).f4)) := hcc5 4 _ rfl
     have hf5_0 : wr.frozen? ⟨go5, (x5_1 : Int).toNat * 5, none⟩ = false := hfr5 0
     have hf5_1 : wr.frozen? ⟨go5, (x5_1 : Int).toNat * 5 + 1, none⟩ = false := hfr5 1
     have hf5_2 : wr.frozen? ⟨go5, (x5_1 : Int).toNat * 5 + 2, none⟩ = false := hfr5 2
     have hf5_3 : wr.frozen? ⟨go5, (x5_1 : Int).toNat * 5 + 3, none⟩ = false := hfr5 3
     have hf5_4 : wr.frozen? ⟨go5, (x5_1 : Int).toNat * 5 + 4, none⟩ = false := hfr5 4
     clear hcl5 hcc5 hfr5; (try clear hM5)
     replace p5 := eq_true p5
     replace q5 := eq_true q5
     have HX11 := dk (show Kd.R k95 95 wr w0.heap.size (fun k_ => (P0_ k_ ∨ w.heap.size ≤ k_)) (.slice (some ⟨go5, 0, none⟩) x0_1.length co10) x0_1 from (rr HO_0))
     obtain ⟨ce11, hcl11, hM11, hcc11, hfr11⟩ := Kd.R_elem HX11.out z95 (x5_1 : Int) (oa) (by have h_ : (x5_1 : Int) < ((x0_1.length : Int) : Int) := oa; first | exact h_ | (have e_ := (Kd.R_reads' HO_0.out).1; omega) | simpa using h_)
     obtain rfl := k95_openM hM11
     have HP11 := Kd.R_seg HX11.out (x5_1 : Int) (oa) (by have h_ : (x5_1 : Int) < ((x0_1.length : Int) : Int) := oa; first | exact h_ | (have e_ := (Kd.R_reads' HO_0.out).1; omega) | simpa using h_) (seg := [.int .i64 x1_1]) (j := 0) hcl11 hcc11 (show 1 ≤ 5 from by decide) (x' := (⟨x1_1, (rd_T95 x0_1 x5_1).f1, (rd_T95 x0_1 x5_1).f2, (rd_T95 x0_1 x5_1).f3, (rd_T95 x0_1 x5_1).f4⟩ : S95)) (k95_mkM _ _ _ (⟨x1_1, (rd_T95 x0_1 x5_1).f1, (rd_T95 x0_1 x5_1).f2, (rd_T95 x0_1 x5_1).f3, (rd_T95 x0_1 x5_1).f4⟩ : S95) ) (fun _ hk => hk)
     have hx11_0 := hcc11 0 _ rfl
     (try simp only [show (k95).sz = 5 from rfl, Nat.mul_one, Nat.add_zero] at hx11_0)
     have hf11_0 := hfr11 0
     (try simp only [show (k95).sz = 5 from rfl, Nat.mul_one, Nat.add_zero] at hf11_0)
     clear hcl11 hcc11 hfr11; (try clear hM11)
     go_wp2_with (first | ((with_reducible refine gate_store (t := 3) (p := 16) rfl ?_); refine store_event (t := 3) (p := 16) (v := ?vo_w12) (w1 := (wr.setCell ⟨go5, (x5_1 : Int).toNat * 5, none⟩ (.int .i64 x1_1))) ?hg ?ho ?hn ?hr ?_; (case ho => rfl); (case hg => rfl); (case hn => rfl); (case hr => first | (go_simp; done) | (go_simp; rfl)); intro w12 hw; have hg : wr.grownBy w12 (some go5) := (by rw [hw]; exact HP11.2); have hp_ : Kd.R k95 95 w12 w0.heap.size (fun k_ => (P0_ k_ ∨ w.heap.size ≤ k_)) (.slice (some ⟨go5, 0, none⟩) x0_1.length co10) y457 := (by rw [hw, Ny457.out]; exact HP11.1); clear HP11; replace HB := dk (by rw [hw]; exact below_set (HB.out) GB5.out : Below w0.heap.size w0 w12); replace HK := dk (Kept.of_grown (S := (fun k_ => P0_ k_)) hg (by repeat (first | (with_reducible first | exact HK.out | apply Kept.alloc | apply Kept.drewN | apply Kept.drew) | exact HK.out)) (fun k_ e_ => (HO_0.out.1 k_ e_))); replace HO_0 := dk (hp_); clear hg hw hp_; have p6 : 0 ≤ (x5_1 : Int) := oa; have q6 : (x5_1 : Int) < ((x0_1.length : Int) : Int) := oa; obtain ⟨ce6, hcl6, hM6, hcc6, hfr6⟩ := Kd.R_elem HO_0.out z95 (x5_1 : Int) p6 q6; obtain rfl := k95_openM hM6; have hx6_0 : w12.cell? ⟨go5, (x5_1 : Int).toNat * 5, none⟩ = some (.int .i64 ((rd_T95 y457 x5_1).f0)) := hcc6 0 _ rfl; have hx6_1 : w12.cell? ⟨go5, (x5_1 : Int).toNat * 5 + 1, none⟩ = some (.int .i64 ((rd_T95 y457 x5_1).f1)) := hcc6 1 _ rfl; have hx6_2 : w12.cell? ⟨go5, (x5_1 : Int).toNat * 5 + 2, none⟩ = some (.int .i64 ((rd_T95 y457 x5_1).f2)) := hcc6 2 _ rfl; have hx6_3 : w12.cell? ⟨go5, (x5_1 : Int).toNat * 5 + 3, none⟩ = some (.int .i64 ((rd_T95 y457 x5_1).f3)) := hcc6 3 _ rfl; have hx6_4 : w12.cell? ⟨go5, (x5_1 : Int).toNat * 5 + 4, none⟩ = some (.int .i64 ((rd_T95 y457 x5_1).f4)) := hcc6 4 _ rfl; have hf6_0 : w12.frozen? ⟨go5, (x5_1 : Int).toNat * 5, none⟩ = false := hfr6 0; have hf6_1 : w12.frozen? ⟨go5, (x5_1 : Int).toNat * 5 + 1, none⟩ = false := hfr6 1; have hf6_2 : w12.frozen? ⟨go5, (x5_1 : Int).toNat * 5 + 2, none⟩ = false := hfr6 2; have hf6_3 : w12.frozen? ⟨go5, (x5_1 : Int).toNat * 5 + 3, none⟩ = false := hfr6 3; have hf6_4 : w12.frozen? ⟨go5, (x5_1 : Int).toNat * 5 + 4, none⟩ = false := hfr6 4; clear hcl6 hcc6 hfr6; (try clear hM6); replace p6 := eq_true p6; replace q6 := eq_true q6; have HX13 := dk (show Kd.R k95 95 w12 w0.heap.size (fun k_ => (P0_ k_ ∨ w.heap.size ≤ k_)) (.slice (some ⟨go5, 0, none⟩) x0_1.length co10) y457 from (rr HO_0)); obtain ⟨ce13, hcl13, hM13, hcc13, hfr13⟩ := Kd.R_elem HX13.out z95 (x5_1 : Int) (oa) (by have h_ : (x5_1 : Int) < ((x0_1.length : Int) : Int) := oa; first | exact h_ | (have e_ := (Kd.R_reads' HO_0.out).1; omega) | simpa using h_); obtain rfl := k95_openM hM13; have HP13 := Kd.R_seg HX13.out (x5_1 : Int) (oa) (by have h_ : (x5_1 : Int) < ((x0_1.length : Int) : Int) := oa; first | exact h_ | (have e_ := (Kd.R_reads' HO_0.out).1; omega) | simpa using h_) (seg := [.int .i64 (wrap64 (x1_1 + 1))]) (j := 1) hcl13 hcc13 (show 2 ≤ 5 from by decide) (x' := (⟨(rd_T95 y457 x5_1).f0, wrap64 (x1_1 + 1), (rd_T95 y457 x5_1).f2, (rd_T95 y457 x5_1).f3, (rd_T95 y457 x5_1).f4⟩ : S95)) (k95_mkM _ _ _ (⟨(rd_T95 y457 x5_1).f0, wrap64 (x1_1 + 1), (rd_T95 y457 x5_1).f2, (rd_T95 y457 x5_1).f3, (rd_T95 y457 x5_1).f4⟩ : S95) ) (fun _ hk => hk); have hx13_1 := hcc13 1 _ rfl; (try simp only [show (k95).sz = 5 from rfl, Nat.mul_one, Nat.add_zero] at hx13_1); have hf13_1 := hfr13 1; (try simp only [show (k95).sz = 5 from rfl, Nat.mul_one, Nat.add_zero] at hf13_1); clear hcl13 hcc13 hfr13; (try clear hM13)) | ((with_reducible refine gate_store (t := 3) (p := 23) rfl ?_); refine store_event (t := 3) (p := 23) (v := ?vo_w14) (w1 := (w12.setCell ⟨go5, (x5_1 : Int).toNat * 5 + 1, none⟩ (.int .i64 (wrap64 (x1_1 + 1))))) ?hg ?ho ?hn ?hr ?_; (case ho => rfl); (case hg => rfl); (case hn => rfl); (case hr => first | (go_simp; done) | (go_simp; rfl)); intro w14 hw; have hg : w12.grownBy w14 (some go5) := (by rw [hw]; exact HP13.2); have hp_ : Kd.R k95 95 w14 w0.heap.size (fun k_ => (P0_ k_ ∨ w.heap.size ≤ k_)) (.slice (some ⟨go5, 0, none⟩) x0_1.length co10) y458 := (by rw [hw, Ny458.out]; exact HP13.1); clear HP13; replace HB := dk (by rw [hw]; exact below_set (HB.out) GB5.out : Below w0.heap.size w0 w14); replace HK := dk (Kept.of_grown (S := (fun k_ => P0_ k_)) hg (by repeat (first | (with_reducible first | exact HK.out | apply Kept.alloc | apply Kept.drewN | apply Kept.drew) | exact HK.out)) (fun k_ e_ => (HO_0.out.1 k_ e_))); replace HO_0 := dk (hp_); clear hg hw hp_; have p7 : 0 ≤ (x5_1 : Int) := oa; have q7 : (x5_1 : Int) < ((x0_1.length : Int) : Int) := oa; obtain ⟨ce7, hcl7, hM7, hcc7, hfr7⟩ := Kd.R_elem HO_0.out z95 (x5_1 : Int) p7 q7; obtain rfl := k95_openM hM7; have hx7_0 : w14.cell? ⟨go5, (x5_1 : Int).toNat * 5, none⟩ = some (.int .i64 ((rd_T95 y458 x5_1).f0)) := hcc7 0 _ rfl; have hx7_1 : w14.cell? ⟨go5, (x5_1 : Int).toNat * 5 + 1, none⟩ = some (.int .i64 ((rd_T95 y458 x5_1).f1)) := hcc7 1 _ rfl; have hx7_2 : w14.cell? ⟨go5, (x5_1 : Int).toNat * 5 + 2, none⟩ = some (.int .i64 ((rd_T95 y458 x5_1).f2)) := hcc7 2 _ rfl; have hx7_3 : w14.cell? ⟨go5, (x5_1 : Int).toNat * 5 + 3, none⟩ = some (.int .i64 ((rd_T95 y458 x5_1).f3)) := hcc7 3 _ rfl; have hx7_4 : w14.cell? ⟨go5, (x5_1 : Int).toNat * 5 + 4, none⟩ = some (.int .i64 ((rd_T95 y458 x5_1).f4)) := hcc7 4 _ rfl; have hf7_0 : w14.frozen? ⟨go5, (x5_1 : Int).toNat * 5, none⟩ = false := hfr7 0; have hf7_1 : w14.frozen? ⟨go5, (x5_1 : Int).toNat * 5 + 1, none⟩ = false := hfr7 1; have hf7_2 : w14.frozen? ⟨go5, (x5_1 : Int).toNat * 5 + 2, none⟩ = false := hfr7 2; have hf7_3 : w14.frozen? ⟨go5, (x5_1 : Int).toNat * 5 + 3, none⟩ = false := hfr7 3; have hf7_4 : w14.frozen? ⟨go5, (x5_1 : Int).toNat * 5 + 4, none⟩ = false := hfr7 4; clear hcl7 hcc7 hfr7; (try clear hM7); replace p7 := eq_true p7; replace q7 := eq_true q7; have HX15 := dk (show Kd.R k95 95 w14 w0.heap.size (fun k_ => (P0_ k_ ∨ w.heap.size ≤ k_)) (.slice (some ⟨go5, 0, none⟩) x0_1.length co10) y458 from (rr HO_0)); obtain ⟨ce15, hcl15, hM15, hcc15, hfr15⟩ := Kd.R_elem HX15.out z95 (x5_1 : Int) (oa) (by have h_ : (x5_1 : Int) < ((x0_1.length : Int) : Int) := oa; first | exact h_ | (have e_ := (Kd.R_reads' HO_0.out).1; omega) | simpa using h_); obtain rfl := k95_openM hM15; have HP15 := Kd.R_seg HX15.out (x5_1 : Int) (oa) (by have h_ : (x5_1 : Int) < ((x0_1.length : Int) : Int) := oa; first | exact h_ | (have e_ := (Kd.R_reads' HO_0.out).1; omega) | simpa using h_) (seg := [.int .i64 (wrap64 ((wrap64 (x1_1 + 1)) + 1))]) (j := 2) hcl15 hcc15 (show 3 ≤ 5 from by decide) (x' := (⟨(rd_T95 y458 x5_1).f0, (rd_T95 y458 x5_1).f1, wrap64 ((wrap64 (x1_1 + 1)) + 1), (rd_T95 y458 x5_1).f3, (rd_T95 y458 x5_1).f4⟩ : S95)) (k95_mkM _ _ _ (⟨(rd_T95 y458 x5_1).f0, (rd_T95 y458 x5_1).f1, wrap64 ((wrap64 (x1_1 + 1)) + 1), (rd_T95 y458 x5_1).f3, (rd_T95 y458 x5_1).f4⟩ : S95) ) (fun _ hk => hk); have hx15_2 := hcc15 2 _ rfl; (try simp only [show (k95).sz = 5 from rfl, Nat.mul_one, Nat.add_zero] at hx15_2); have hf15_2 := hfr15 2; (try simp only [show (k95).sz = 5 from rfl, Nat.mul_one, Nat.add_zero] at hf15_2); clear hcl15 hcc15 hfr15; (try clear hM15)) | ((with_reducible refine gate_store (t := 3) (p := 30) rfl ?_); refine store_event (t := 3) (p := 30) (v := ?vo_w16) (w1 := (w14.setCell ⟨go5, (x5_1 : Int).toNat * 5 + 2, none⟩ (.int .i64 (wrap64 ((wrap64 (x1_1 + 1)) + 1))))) ?hg ?ho ?hn ?hr ?_; (case ho => rfl); (case hg => rfl); (case hn => rfl); (case hr => first | (go_simp; done) | (go_simp; rfl)); intro w16 hw; have hg : w14.grownBy w16 (some go5) := (by rw [hw]; exact HP15.2); have hp_ : Kd.R k95 95 w16 w0.heap.size (fun k_ => (P0_ k_ ∨ w.heap.size ≤ k_)) (.slice (some ⟨go5, 0, none⟩) x0_1.length co10) y459 := (by rw [hw, Ny459.out]; exact HP15.1); clear HP15; replace HB := dk (by rw [hw]; exact below_set (HB.out) GB5.out : Below w0.heap.size w0 w16); replace HK := dk (Kept.of_grown (S := (fun k_ => P0_ k_)) hg (by repeat (first | (with_reducible first | exact HK.out | apply Kept.alloc | apply Kept.drewN | apply Kept.drew) | exact HK.out)) (fun k_ e_ => (HO_0.out.1 k_ e_))); replace HO_0 := dk (hp_); clear hg hw hp_; have p8 : 0 ≤ (x5_1 : Int) := oa; have q8 : (x5_1 : Int) < ((x0_1.length : Int) : Int) := oa; obtain ⟨ce8, hcl8, hM8, hcc8, hfr8⟩ := Kd.R_elem HO_0.out z95 (x5_1 : Int) p8 q8; obtain rfl := k95_openM hM8; have hx8_0 : w16.cell? ⟨go5, (x5_1 : Int).toNat * 5, none⟩ = some (.int .i64 ((rd_T95 y459 x5_1).f0)) := hcc8 0 _ rfl; have hx8_1 : w16.cell? ⟨go5, (x5_1 : Int).toNat * 5 + 1, none⟩ = some (.int .i64 ((rd_T95 y459 x5_1).f1)) := hcc8 1 _ rfl; have hx8_2 : w16.cell? ⟨go5, (x5_1 : Int).toNat * 5 + 2, none⟩ = some (.int .i64 ((rd_T95 y459 x5_1).f2)) := hcc8 2 _ rfl; have hx8_3 : w16.cell? ⟨go5, (x5_1 : Int).toNat * 5 + 3, none⟩ = some (.int .i64 ((rd_T95 y459 x5_1).f3)) := hcc8 3 _ rfl; have hx8_4 : w16.cell? ⟨go5, (x5_1 : Int).toNat * 5 + 4, none⟩ = some (.int .i64 ((rd_T95 y459 x5_1).f4)) := hcc8 4 _ rfl; have hf8_0 : w16.frozen? ⟨go5, (x5_1 : Int).toNat * 5, none⟩ = false := hfr8 0; have hf8_1 : w16.frozen? ⟨go5, (x5_1 : Int).toNat * 5 + 1, none⟩ = false := hfr8 1; have hf8_2 : w16.frozen? ⟨go5, (x5_1 : Int).toNat * 5 + 2, none⟩ = false := hfr8 2; have hf8_3 : w16.frozen? ⟨go5, (x5_1 : Int).toNat * 5 + 3, none⟩ = false := hfr8 3; have hf8_4 : w16.frozen? ⟨go5, (x5_1 : Int).toNat * 5 + 4, none⟩ = false := hfr8 4; clear hcl8 hcc8 hfr8; (try clear hM8); replace p8 := eq_true p8; replace q8 := eq_true q8; have HX17 := dk (show Kd.R k95 95 w16 w0.heap.size (fun k_ => (P0_ k_ ∨ w.heap.size ≤ k_)) (.slice (some ⟨go5, 0, none⟩) x0_1.length co10) y459 from (rr HO_0)); obtain ⟨ce17, hcl17, hM17, hcc17, hfr17⟩ := Kd.R_elem HX17.out z95 (x5_1 : Int) (oa) (by have h_ : (x5_1 : Int) < ((x0_1.length : Int) : Int) := oa; first | exact h_ | (have e_ := (Kd.R_reads' HO_0.out).1; omega) | simpa using h_); obtain rfl := k95_openM hM17; have HP17 := Kd.R_seg HX17.out (x5_1 : Int) (oa) (by have h_ : (x5_1 : Int) < ((x0_1.length : Int) : Int) := oa; first | exact h_ | (have e_ := (Kd.R_reads' HO_0.out).1; omega) | simpa using h_) (seg := [.int .i64 (wrap64 ((wrap64 ((wrap64 (x1_1 + 1)) + 1)) + 1))]) (j := 3) hcl17 hcc17 (show 4 ≤ 5 from by decide) (x' := (⟨(rd_T95 y459 x5_1).f0, (rd_T95 y459 x5_1).f1, (rd_T95 y459 x5_1).f2, wrap64 ((wrap64 ((wrap64 (x1_1 + 1)) + 1)) + 1), (rd_T95 y459 x5_1).f4⟩ : S95)) (k95_mkM _ _ _ (⟨(rd_T95 y459 x5_1).f0, (rd_T95 y459 x5_1).f1, (rd_T95 y459 x5_1).f2, wrap64 ((wrap64 ((wrap64 (x1_1 + 1)) + 1)) + 1), (rd_T95 y459 x5_1).f4⟩ : S95) ) (fun _ hk => hk); have hx17_3 := hcc17 3 _ rfl; (try simp only [show (k95).sz = 5 from rfl, Nat.mul_one, Nat.add_zero] at hx17_3); have hf17_3 := hfr17 3; (try simp only [show (k95).sz = 5 from rfl, Nat.mul_one, Nat.add_zero] at hf17_3); clear hcl17 hcc17 hfr17; (try clear hM17)) | ((with_reducible refine gate_store (t := 3) (p := 37) rfl ?_); refine store_event (t := 3) (p := 37) (v := ?vo_w18) (w1 := (w16.setCell ⟨go5, (x5_1 : Int).toNat * 5 + 3, none⟩ (.int .i64 (wrap64 ((wrap64 ((wrap64 (x1_1 + 1)) + 1)) + 1))))) ?hg ?ho ?hn ?hr ?_; (case ho => rfl); (case hg => rfl); (case hn => rfl); (case hr => first | (go_simp; done) | (go_simp; rfl)); intro w18 hw; have hg : w16.grownBy w18 (some go5) := (by rw [hw]; exact HP17.2); have hp_ : Kd.R k95 95 w18 w0.heap.size (fun k_ => (P0_ k_ ∨ w.heap.size ≤ k_)) (.slice (some ⟨go5, 0, none⟩) x0_1.length co10) y460 := (by rw [hw, Ny460.out]; exact HP17.1); clear HP17; replace HB := dk (by rw [hw]; exact below_set (HB.out) GB5.out : Below w0.heap.size w0 w18); replace HK := dk (Kept.of_grown (S := (fun k_ => P0_ k_)) hg (by repeat (first | (with_reducible first | exact HK.out | apply Kept.alloc | apply Kept.drewN | apply Kept.drew) | exact HK.out)) (fun k_ e_ => (HO_0.out.1 k_ e_))); replace HO_0 := dk (hp_); clear hg hw hp_; have p9 : 0 ≤ (x5_1 : Int) := oa; have q9 : (x5_1 : Int) < ((x0_1.length : Int) : Int) := oa; obtain ⟨ce9, hcl9, hM9, hcc9, hfr9⟩ := Kd.R_elem HO_0.out z95 (x5_1 : Int) p9 q9; obtain rfl := k95_openM hM9; have hx9_0 : w18.cell? ⟨go5, (x5_1 : Int).toNat * 5, none⟩ = some (.int .i64 ((rd_T95 y460 x5_1).f0)) := hcc9 0 _ rfl; have hx9_1 : w18.cell? ⟨go5, (x5_1 : Int).toNat * 5 + 1, none⟩ = some (.int .i64 ((rd_T95 y460 x5_1).f1)) := hcc9 1 _ rfl; have hx9_2 : w18.cell? ⟨go5, (x5_1 : Int).toNat * 5 + 2, none⟩ = some (.int .i64 ((rd_T95 y460 x5_1).f2)) := hcc9 2 _ rfl; have hx9_3 : w18.cell? ⟨go5, (x5_1 : Int).toNat * 5 + 3, none⟩ = some (.int .i64 ((rd_T95 y460 x5_1).f3)) := hcc9 3 _ rfl; have hx9_4 : w18.cell? ⟨go5, (x5_1 : Int).toNat * 5 + 4, none⟩ = some (.int .i64 ((rd_T95 y460 x5_1).f4)) := hcc9 4 _ rfl; have hf9_0 : w18.frozen? ⟨go5, (x5_1 : Int).toNat * 5, none⟩ = false := hfr9 0; have hf9_1 : w18.frozen? ⟨go5, (x5_1 : Int).toNat * 5 + 1, none⟩ = false := hfr9 1; have hf9_2 : w18.frozen? ⟨go5, (x5_1 : Int).toNat * 5 + 2, none⟩ = false := hfr9 2; have hf9_3 : w18.frozen? ⟨go5, (x5_1 : Int).toNat * 5 + 3, none⟩ = false := hfr9 3; have hf9_4 : w18.frozen? ⟨go5, (x5_1 : Int).toNat * 5 + 4, none⟩ = false := hfr9 4; clear hcl9 hcc9 hfr9; (try clear hM9); replace p9 := eq_true p9; replace q9 := eq_true q9; have HX19 := dk (show Kd.R k95 95 w18 w0.heap.size (fun k_ => (P0_ k_ ∨ w.heap.size ≤ k_)) (.slice (some ⟨go5, 0, none⟩) x0_1.length co10) y460 from (rr HO_0)); obtain ⟨ce19, hcl19, hM19, hcc19, hfr19⟩ := Kd.R_elem HX19.out z95 (x5_1 : Int) (oa) (by have h_ : (x5_1 : Int) < ((x0_1.length : Int) : Int) := oa; first | exact h_ | (have e_ := (Kd.R_reads' HO_0.out).1; omega) | simpa using h_); obtain rfl := k95_openM hM19; have HP19 := Kd.R_seg HX19.out (x5_1 : Int) (oa) (by have h_ : (x5_1 : Int) < ((x0_1.length : Int) : Int) := oa; first | exact h_ | (have e_ := (Kd.R_reads' HO_0.out).1; omega) | simpa using h_) (seg := [.int .i64 (wrap64 ((wrap64 ((wrap64 ((wrap64 (x1_1 + 1)) + 1)) + 1)) + 1))]) (j := 4) hcl19 hcc19 (show 5 ≤ 5 from by decide) (x' := (⟨(rd_T95 y460 x5_1).f0, (rd_T95 y460 x5_1).f1, (rd_T95 y460 x5_1).f2, (rd_T95 y460 x5_1).f3, wrap64 ((wrap64 ((wrap64 ((wrap64 (x1_1 + 1)) + 1)) + 1)) + 1)⟩ : S95)) (k95_mkM _ _ _ (⟨(rd_T95 y460 x5_1).f0, (rd_T95 y460 x5_1).f1, (rd_T95 y460 x5_1).f2, (rd_T95 y460 x5_1).f3, wrap64 ((wrap64 ((wrap64 ((wrap64 (x1_1 + 1)) + 1)) + 1)) + 1)⟩ : S95) ) (fun _ hk => hk); have hx19_4 := hcc19 4 _ rfl; (try simp only [show (k95).sz = 5 from rfl, Nat.mul_one, Nat.add_zero] at hx19_4); have hf19_4 := hfr19 4; (try simp only [show (k95).sz = 5 from rfl, Nat.mul_one, Nat.add_zero] at hf19_4); clear hcl19 hcc19 hfr19; (try clear hM19)) | ((with_reducible refine gate_store (t := 3) (p := 44) rfl ?_); refine store_event (t := 3) (p := 44) (v := ?vo_w20) (w1 := (w18.setCell ⟨go5, (x5_1 : Int).toNat * 5 + 4, none⟩ (.int .i64 (wrap64 ((wrap64 ((wrap64 ((wrap64 (x1_1 + 1)) + 1)) + 1)) + 1))))) ?hg ?ho ?hn ?hr ?_; (case ho => rfl); (case hg => rfl); (case hn => rfl); (case hr => first | (go_simp; done) | (go_simp; rfl)); intro w20 hw; have hg : w18.grownBy w20 (some go5) := (by rw [hw]; exact HP19.2); have hp_ : Kd.R k95 95 w20 w0.heap.size (fun k_ => (P0_ k_ ∨ w.heap.size ≤ k_)) (.slice (some ⟨go5, 0, none⟩) x0_1.length co10) y461 := (by rw [hw, Ny461.out]; exact HP19.1); clear HP19; replace HB := dk (by rw [hw]; exact below_set (HB.out) GB5.out : Below w0.heap.size w0 w20); replace HK := dk (Kept.of_grown (S := (fun k_ => P0_ k_)) hg (by repeat (first | (with_reducible first | exact HK.out | apply Kept.alloc | apply Kept.drewN | apply Kept.drew) | exact HK.out)) (fun k_ e_ => (HO_0.out.1 k_ e_))); replace HO_0 := dk (hp_); clear hg hw hp_))
     go_roundg k1
     case measure => have := HK1.out; omega
     case rel => exact ⟨(y461), (wrap64 ((wrap64 ((wrap64 ((wrap64 ((wrap64 (x1_1 + 1)) + 1)) + 1)) + 1)) + 1)), (wrap64 (x5_1 + 1)), e2_, e2_, H', ⟨by have := HK1.out; omega⟩, ⟨rr HO_0⟩, ⟨by repeat (first | (with_reducible first | exact HK.out | apply Kept.alloc | apply Kept.drewN | apply Kept.drew) | exact HK.out)⟩, ⟨bb HB⟩⟩
    ·rw [if_neg c4] at H
     exact absurd H (by simp)
   ·rw [if_neg c3] at H
    have c3b0 : decide (x5_1 < (x0_1.length : Int)) = false := decide_eq_false c3
    clear c3
    simp only [Option.some.injEq, Prod.mk.injEq] at H
    obtain ⟨rfl, rfl⟩ := H
    obtain ⟨Ao21, co21, eo21⟩ := Kd.R_slice HO_0.out
    subst eo21
    go_wp2
    go_ret
    exact ⟨ee, rr HO_0, bb HB, by repeat (first | (with_reducible first | exact HK.out | apply Kept.alloc | apply Kept.drewN | apply Kept.drew) | exact HK.out)⟩
def laws_markBook.f (k : Nat) (l0_0 : List (S139)) (a0_1 : Int) (a0_2 : Int) (a0_3 : Int) (l0_4 : List Int) (a0_5 : Bool) (l0_6 : List (S95)) (l0_7 : List Int) (l0_8 : List Int) (a1 : Int) : Option (Int × (List (S139)) × List Int × (List (S95)) × List Int × List Int) := (laws_markTeamS.f k l0_0 a1).bind fun bt463 => ((laws_markRules.f k a0_1 a0_2 a0_3 l0_4 a0_5 bt463.1).bind fun bt465 => ((laws_markGameS.f k l0_6 bt465.1).bind fun bt467 => ((laws_markIntS.f k l0_7 bt467.1).bind fun bt469 => ((laws_markIntS.f k l0_8 bt469.1).bind fun bt471 => (some (bt471.1, bt463.2, bt465.2, bt467.2, bt469.2, bt471.2))))))
theorem laws_markBook.calls (k : Nat) (P0_0_ : Nat → Prop) (u9000_ : Value) (l0_0 : List (S139)) (a0_1 : Int) (a0_2 : Int) (a0_3 : Int) (P0_4_ : Nat → Prop) (u9001_ : Value) (l0_4 : List Int) (a0_5 : Bool) (P0_6_ : Nat → Prop) (u9002_ : Value) (l0_6 : List (S95)) (P0_7_ : Nat → Prop) (u9003_ : Value) (l0_7 : List Int) (P0_8_ : Nat → Prop) (u9004_ : Value) (l0_8 : List Int) (a1 : Int) (r1 : Int) (r2 : List (S139)) (r3 : List Int) (r4 : List (S95)) (r5 : List Int) (r6 : List Int) (w0 w : World) (hB : Below w0.heap.size w0 w) (ho0_0 : Kd.R k139 139 w w0.heap.size P0_0_ u9000_ l0_0) (ho0_4 : Kd.R (Kd.int .i64) 3 w w0.heap.size P0_4_ u9001_ l0_4) (hp0_4_0_7 : ∀ k_, P0_4_ k_ → ¬ P0_7_ k_) (hp0_4_0_8 : ∀ k_, P0_4_ k_ → ¬ P0_8_ k_) (ho0_6 : Kd.R k95 95 w w0.heap.size P0_6_ u9002_ l0_6) (ho0_7 : Kd.R (Kd.int .i64) 3 w w0.heap.size P0_7_ u9003_ l0_7) (hp0_7_0_4 : ∀ k_, P0_7_ k_ → ¬ P0_4_ k_) (hp0_7_0_8 : ∀ k_, P0_7_ k_ → ¬ P0_8_ k_) (ho0_8 : Kd.R (Kd.int .i64) 3 w w0.heap.size P0_8_ u9004_ l0_8) (hp0_8_0_4 : ∀ k_, P0_8_ k_ → ¬ P0_4_ k_) (hp0_8_0_7 : ∀ k_, P0_8_ k_ → ¬ P0_7_ k_) (h : laws_markBook.f k l0_0 a0_1 a0_2 a0_3 l0_4 a0_5 l0_6 l0_7 l0_8 a1 = some (r1, r2, r3, r4, r5, r6)) :
  Calls Try.prog 18 #[.agg #[u9000_, .int .i64 a0_1, .int .i64 a0_2, .int .i64 a0_3, u9001_, .bool a0_5, u9002_, u9003_, u9004_], .int .i64 a1] w fun e w' => e = .returned (.int .i64 r1) ∧ Kd.R k139 139 w' w0.heap.size (fun k_ => ((P0_0_ k_ ∨ P0_4_ k_ ∨ P0_6_ k_ ∨ P0_7_ k_ ∨ P0_8_ k_) ∨ w.heap.size ≤ k_)) u9000_ r2 ∧ Kd.R (Kd.int .i64) 3 w' w0.heap.size (fun k_ => ((P0_0_ k_ ∨ P0_4_ k_ ∨ P0_6_ k_ ∨ P0_7_ k_ ∨ P0_8_ k_) ∨ w.heap.size ≤ k_)) u9001_ r3 ∧ Kd.R k95 95 w' w0.heap.size (fun k_ => ((P0_0_ k_ ∨ P0_4_ k_ ∨ P0_6_ k_ ∨ P0_7_ k_ ∨ P0_8_ k_) ∨ w.heap.size ≤ k_)) u9002_ r4 ∧ Kd.R (Kd.int .i64) 3 w' w0.heap.size (fun k_ => ((P0_0_ k_ ∨ P0_4_ k_ ∨ P0_6_ k_ ∨ P0_7_ k_ ∨ P0_8_ k_) ∨ w.heap.size ≤ k_)) u9003_ r5 ∧ Kd.R (Kd.int .i64) 3 w' w0.heap.size (fun k_ => ((P0_0_ k_ ∨ P0_4_ k_ ∨ P0_6_ k_ ∨ P0_7_ k_ ∨ P0_8_ k_) ∨ w.heap.size ≤ k_)) u9004_ r6 ∧ Below w0.heap.size w0 w' ∧ Kept w w' (fun k_ => P0_0_ k_ ∨ P0_4_ k_ ∨ P0_6_ k_ ∨ P0_7_ k_ ∨ P0_8_ k_) := by
 have hu36 := Try.underlying36
 have hu33 := Try.underlying33
 have HO0_0 := dk (show Kd.R k139 139 w w0.heap.size (fun k_ => ((P0_0_ k_ ∨ P0_4_ k_ ∨ P0_6_ k_ ∨ P0_7_ k_ ∨ P0_8_ k_) ∨ w.heap.size ≤ k_)) u9000_ l0_0 from Kd.R_mono ho0_0 (fun k_ hk => (.inl (.inl hk))))
 have HO0_4 := dk (show Kd.R (Kd.int .i64) 3 w w0.heap.size (fun k_ => ((P0_0_ k_ ∨ P0_4_ k_ ∨ P0_6_ k_ ∨ P0_7_ k_ ∨ P0_8_ k_) ∨ w.heap.size ≤ k_) ∧ some k_ ≠ (u9003_ : Value).ownBlock ∧ some k_ ≠ (u9004_ : Value).ownBlock) u9001_ l0_4 from Kd.R_mono ho0_4 (fun k_ hk => ⟨(.inl (.inr (.inl hk))), fun e_ => hp0_4_0_7 k_ hk (ho0_7.1 k_ e_.symm), fun e_ => hp0_4_0_8 k_ hk (ho0_8.1 k_ e_.symm)⟩))
 have HO0_6 := dk (show Kd.R k95 95 w w0.heap.size (fun k_ => ((P0_0_ k_ ∨ P0_4_ k_ ∨ P0_6_ k_ ∨ P0_7_ k_ ∨ P0_8_ k_) ∨ w.heap.size ≤ k_)) u9002_ l0_6 from Kd.R_mono ho0_6 (fun k_ hk => (.inl (.inr (.inr (.inl hk))))))
 have HO0_7 := dk (show Kd.R (Kd.int .i64) 3 w w0.heap.size (fun k_ => ((P0_0_ k_ ∨ P0_4_ k_ ∨ P0_6_ k_ ∨ P0_7_ k_ ∨ P0_8_ k_) ∨ w.heap.size ≤ k_) ∧ some k_ ≠ (u9001_ : Value).ownBlock ∧ some k_ ≠ (u9004_ : Value).ownBlock) u9003_ l0_7 from Kd.R_mono ho0_7 (fun k_ hk => ⟨(.inl (.inr (.inr (.inr (.inl hk))))), fun e_ => hp0_7_0_4 k_ hk (ho0_4.1 k_ e_.symm), fun e_ => hp0_7_0_8 k_ hk (ho0_8.1 k_ e_.symm)⟩))
 have HO0_8 := dk (show Kd.R (Kd.int .i64) 3 w w0.heap.size (fun k_ => ((P0_0_ k_ ∨ P0_4_ k_ ∨ P0_6_ k_ ∨ P0_7_ k_ ∨ P0_8_ k_) ∨ w.heap.size ≤ k_) ∧ some k_ ≠ (u9001_ : Value).ownBlock ∧ some k_ ≠ (u9003_ : Value).ownBlock) u9004_ l0_8 from Kd.R_mono ho0_8 (fun k_ hk => ⟨(.inl (.inr (.inr (.inr (.inr hk))))), fun e_ => hp0_8_0_4 k_ hk (ho0_4.1 k_ e_.symm), fun e_ => hp0_8_0_7 k_ hk (ho0_7.1 k_ e_.symm)⟩))
 have HK := dk (Kept.refl w (fun k_ => P0_0_ k_ ∨ P0_4_ k_ ∨ P0_6_ k_ ∨ P0_7_ k_ ∨ P0_8_ k_))
 have HW0 := dk hB.size
 have HB := dk hB
 clear hB
 have H : ((laws_markTeamS.f k l0_0 a1).bind fun bt463 => ((laws_markRules.f k a0_1 a0_2 a0_3 l0_4 a0_5 bt463.1).bind fun bt465 => ((laws_markGameS.f k l0_6 bt465.1).bind fun bt467 => ((laws_markIntS.f k l0_7 bt467.1).bind fun bt469 => ((laws_markIntS.f k l0_8 bt469.1).bind fun bt471 => (some (bt471.1, bt463.2, bt465.2, bt467.2, bt469.2, bt471.2))))))) = some (r1, r2, r3, r4, r5, r6) := h
 clear h
 replace H := Option.bind_eq_some_iff.mp H
 obtain ⟨⟨t463, t464⟩, A30, H⟩ := H
 replace H : ((laws_markRules.f k a0_1 a0_2 a0_3 l0_4 a0_5 t463).bind fun bt465 => ((laws_markGameS.f k l0_6 bt465.1).bind fun bt467 => ((laws_markIntS.f k l0_7 bt467.1).bind fun bt469 => ((laws_markIntS.f k l0_8 bt469.1).bind fun bt471 => (some (bt471.1, t464, bt465.2, bt467.2, bt469.2, bt471.2)))))) = some (r1, r2, r3, r4, r5, r6) := H
 have A3 := dk A30
 clear A30
 replace H := Option.bind_eq_some_iff.mp H
 obtain ⟨⟨t465, t466⟩, A40, H⟩ := H
 replace H : ((laws_markGameS.f k l0_6 t465).bind fun bt467 => ((laws_markIntS.f k l0_7 bt467.1).bind fun bt469 => ((laws_markIntS.f k l0_8 bt469.1).bind fun bt471 => (some (bt471.1, t464, t466, bt467.2, bt469.2, bt471.2))))) = some (r1, r2, r3, r4, r5, r6) := H
 have A4 := dk A40
 clear A40
 replace H := Option.bind_eq_some_iff.mp H
 obtain ⟨⟨t467, t468⟩, A50, H⟩ := H
 replace H : ((laws_markIntS.f k l0_7 t467).bind fun bt469 => ((laws_markIntS.f k l0_8 bt469.1).bind fun bt471 => (some (bt471.1, t464, t466, t468, bt469.2, bt471.2)))) = some (r1, r2, r3, r4, r5, r6) := H
 have A5 := dk A50
 clear A50
 replace H := Option.bind_eq_some_iff.mp H
 obtain ⟨⟨t469, t470⟩, A60, H⟩ := H
 replace H : ((laws_markIntS.f k l0_8 t469).bind fun bt471 => (some (bt471.1, t464, t466, t468, t470, bt471.2))) = some (r1, r2, r3, r4, r5, r6) := H
 have A6 := dk A60
 clear A60
 replace H := Option.bind_eq_some_iff.mp H
 obtain ⟨⟨t471, t472⟩, A70, H⟩ := H
 replace H : (some (t471, t464, t466, t468, t470, t472)) = some (r1, r2, r3, r4, r5, r6) := H
 have A7 := dk A70
 clear A70
 simp only [Option.some.injEq, Prod.mk.injEq] at H
 obtain ⟨rfl, rfl, rfl, rfl, rfl, rfl⟩ := H
 obtain ⟨Ao8, co8, eo8⟩ := Kd.R_slice HO0_0.out
 subst eo8
 obtain ⟨Ao9, co9, eo9⟩ := Kd.R_slice HO0_4.out
 subst eo9
 obtain ⟨Ao10, co10, eo10⟩ := Kd.R_slice HO0_6.out
 subst eo10
 obtain ⟨Ao11, co11, eo11⟩ := Kd.R_slice HO0_7.out
 subst eo11
 obtain ⟨Ao12, co12, eo12⟩ := Kd.R_slice HO0_8.out
 subst eo12
 go_enter Try.func18, Try.ntmps18
 go_wp2_with (first | ((with_reducible refine gate_dst (N := 2) rfl ?_); refine bx (N := 2) (cs := #[.slice Ao8 l0_0.length co8, .int .i64 a0_1, .int .i64 a0_2, .int .i64 a0_3, .slice Ao9 l0_4.length co9, .bool a0_5, .slice Ao10 l0_6.length co10, .slice Ao11 l0_7.length co11, .slice Ao12 l0_8.length co12]) (t := 36) ?_; intro gb462 hg w13 hbox hb; replace HO0_0 := kr HO0_0 hb; replace HO0_4 := kr HO0_4 hb; replace HO0_6 := kr HO0_6 hb; replace HO0_7 := kr HO0_7 hb; replace HO0_8 := kr HO0_8 hb; have BK462 := dk (hbox); have GW462 := dk (by rw [hg]; exact (by first | exact HK.out.1 | exact (show Kept w _ (fun k_ => P0_0_ k_ ∨ P0_4_ k_ ∨ P0_6_ k_ ∨ P0_7_ k_ ∨ P0_8_ k_) from by repeat (first | (with_reducible first | exact HK.out | apply Kept.alloc | apply Kept.drewN | apply Kept.drew) | exact HK.out)).1) : w.heap.size ≤ gb462); replace HK := dk (Kept.below (S := (fun k_ => P0_0_ k_ ∨ P0_4_ k_ ∨ P0_6_ k_ ∨ P0_7_ k_ ∨ P0_8_ k_)) (by repeat (first | (with_reducible first | exact HK.out | apply Kept.alloc | apply Kept.drewN | apply Kept.drew) | exact HK.out)) hb); have GE462 := gs hg HB; replace HB := hs_ HB hb; clear hb hbox hg; have ⟨z14_0, z14_1, z14_2, z14_3, z14_4, z14_5, z14_6, z14_7, z14_8, v14_0, v14_1, v14_2, v14_3, v14_4, v14_5, v14_6, v14_7, v14_8⟩ := rz9 BK462) | ((with_reducible refine gate_callee (f := 68) rfl ?_); refine gl (some 8) Try.func68 #[.slice Ao8 l0_0.length co8, .int .i64 a1] ?_; (with_reducible refine (laws_markTeamS.calls k (fun k_ => some k_ = (.slice Ao8 l0_0.length co8 : Value).ownBlock) (.slice Ao8 l0_0.length co8) l0_0 a1 t463 t464 w0 _ ?side1 ?side2 A3.out).mono ?_); (case side1 => exact bb HB); (case side2 => exact Kd.R_tight rfl HO0_0.out); rintro e w15 ⟨rfl, hy0, hb, hkp⟩; refine ⟨_, rfl, ?_⟩; replace HO0_4 := km hkp (ra HO0_4.out HO0_0) (fun k_ hk_ => hk_.2) (fun k_ hk_ => ai hk_.1.1 (ai hk_.1.2.1 hk_.1.2.2)); replace HO0_6 := km hkp (ra HO0_6.out HO0_0) (fun k_ hk_ => hk_.2) (fun k_ hk_ => hk_.1); replace HO0_7 := km hkp (ra HO0_7.out HO0_0) (fun k_ hk_ => hk_.2) (fun k_ hk_ => ai hk_.1.1 (ai hk_.1.2.1 hk_.1.2.2)); replace HO0_8 := km hkp (ra HO0_8.out HO0_0) (fun k_ hk_ => hk_.2) (fun k_ hk_ => ai hk_.1.1 (ai hk_.1.2.1 hk_.1.2.2)); replace BK462 := dk (blk_kept (bk BK462) hkp (fun hs_ => (fun e_ => (Kd.R_ne HO0_0.out BK462.out (by decide)) e_) hs_)); replace HK := dk (Kept.then_ (S := (fun k_ => P0_0_ k_ ∨ P0_4_ k_ ∨ P0_6_ k_ ∨ P0_7_ k_ ∨ P0_8_ k_)) (by repeat (first | (with_reducible first | exact HK.out | apply Kept.alloc | apply Kept.drewN | apply Kept.drew | refine Kept.setCell ?_ (.inr GW462.out) _) | exact HK.out)) hkp (fun k_ hs_ => (fun e_ => (HO0_0.out.1 k_ e_.symm)) hs_)); replace HO0_0 := dk (Kd.R_reok rfl hy0 (fun k_ e_ => HO0_0.out.1 k_ e_)); replace HB := dk (hb); (try clear hb hkp hy0); have ⟨z16_0, z16_1, z16_2, z16_3, z16_4, z16_5, z16_6, z16_7, z16_8, v16_0, v16_1, v16_2, v16_3, v16_4, v16_5, v16_6, v16_7, v16_8⟩ := rz9 BK462) | ((with_reducible refine gate_callee (f := 69) rfl ?_); refine gl (some 12) Try.func69 #[.agg #[.int .i64 a0_1, .int .i64 a0_2, .int .i64 a0_3, .slice Ao9 l0_4.length co9, .bool a0_5], .int .i64 t463] ?_; (with_reducible refine (laws_markRules.calls k a0_1 a0_2 a0_3 (fun k_ => some k_ = (.slice Ao9 l0_4.length co9 : Value).ownBlock) (.slice Ao9 l0_4.length co9) l0_4 a0_5 t463 t465 t466 w0 _ ?side1 ?side2 A4.out).mono ?_); (case side1 => exact bb HB); (case side2 => exact Kd.R_tight rfl HO0_4.out); rintro e w17 ⟨rfl, hy0, hb, hkp⟩; refine ⟨_, rfl, ?_⟩; replace HO0_0 := km hkp (ra HO0_0.out HO0_4) (fun k_ hk_ => hk_.2) (fun k_ hk_ => hk_.1); replace HO0_6 := km hkp (ra HO0_6.out HO0_4) (fun k_ hk_ => hk_.2) (fun k_ hk_ => hk_.1); replace HO0_7 := km hkp HO0_7.out (fun k_ hk_ => hk_.2.1) (fun k_ hk_ => ai hk_.1 (ai hk_.2.1 hk_.2.2)); replace HO0_8 := km hkp HO0_8.out (fun k_ hk_ => hk_.2.1) (fun k_ hk_ => ai hk_.1 (ai hk_.2.1 hk_.2.2)); replace BK462 := dk (blk_kept (bk BK462) hkp (fun hs_ => (fun e_ => (Kd.R_ne HO0_4.out BK462.out (by decide)) e_) hs_)); replace HK := dk (Kept.then_ (S := (fun k_ => P0_0_ k_ ∨ P0_4_ k_ ∨ P0_6_ k_ ∨ P0_7_ k_ ∨ P0_8_ k_)) (by repeat (first | (with_reducible first | exact HK.out | apply Kept.alloc | apply Kept.drewN | apply Kept.drew | refine Kept.setCell ?_ (.inr GW462.out) _) | exact HK.out)) hkp (fun k_ hs_ => (fun e_ => (HO0_4.out.1 k_ e_.symm).1) hs_)); replace HO0_4 := dk (Kd.R_reok rfl hy0 (fun k_ e_ => HO0_4.out.1 k_ e_)); replace HB := dk (hb); (try clear hb hkp hy0); have ⟨z18_0, z18_1, z18_2, z18_3, z18_4, z18_5, z18_6, z18_7, z18_8, v18_0, v18_1, v18_2, v18_3, v18_4, v18_5, v18_6, v18_7, v18_8⟩ := rz9 BK462) | ((with_reducible refine gate_callee (f := 70) rfl ?_); refine gl (some 16) Try.func70 #[.slice Ao10 l0_6.length co10, .int .i64 t465] ?_; (with_reducible refine (laws_markGameS.calls k (fun k_ => some k_ = (.slice Ao10 l0_6.length co10 : Value).ownBlock) (.slice Ao10 l0_6.length co10) l0_6 t465 t467 t468 w0 _ ?side1 ?side2 A5.out).mono ?_); (case side1 => exact bb HB); (case side2 => exact Kd.R_tight rfl HO0_6.out); rintro e w19 ⟨rfl, hy0, hb, hkp⟩; refine ⟨_, rfl, ?_⟩; replace HO0_0 := km hkp (ra HO0_0.out HO0_6) (fun k_ hk_ => hk_.2) (fun k_ hk_ => hk_.1); replace HO0_4 := km hkp (ra HO0_4.out HO0_6) (fun k_ hk_ => hk_.2) (fun k_ hk_ => ai hk_.1.1 (ai hk_.1.2.1 hk_.1.2.2)); replace HO0_7 := km hkp (ra HO0_7.out HO0_6) (fun k_ hk_ => hk_.2) (fun k_ hk_ => ai hk_.1.1 (ai hk_.1.2.1 hk_.1.2.2)); replace HO0_8 := km hkp (ra HO0_8.out HO0_6) (fun k_ hk_ => hk_.2) (fun k_ hk_ => ai hk_.1.1 (ai hk_.1.2.1 hk_.1.2.2)); replace BK462 := dk (blk_kept (bk BK462) hkp (fun hs_ => (fun e_ => (Kd.R_ne HO0_6.out BK462.out (by decide)) e_) hs_)); replace HK := dk (Kept.then_ (S := (fun k_ => P0_0_ k_ ∨ P0_4_ k_ ∨ P0_6_ k_ ∨ P0_7_ k_ ∨ P0_8_ k_)) (by repeat (first | (with_reducible first | exact HK.out | apply Kept.alloc | apply Kept.drewN | apply Kept.drew | refine Kept.setCell ?_ (.inr GW462.out) _) | exact HK.out)) hkp (fun k_ hs_ => (fun e_ => (HO0_6.out.1 k_ e_.symm)) hs_)); replace HO0_6 := dk (Kd.R_reok rfl hy0 (fun k_ e_ => HO0_6.out.1 k_ e_)); replace HB := dk (hb); (try clear hb hkp hy0); have ⟨z20_0, z20_1, z20_2, z20_3, z20_4, z20_5, z20_6, z20_7, z20_8, v20_0, v20_1, v20_2, v20_3, v20_4, v20_5, v20_6, v20_7, v20_8⟩ := rz9 BK462) | ((with_reducible refine gate_callee (f := 29) rfl ?_); refine gl (some 20) Try.func29 #[.slice Ao11 l0_7.length co11, .int .i64 t467] ?_; (with_reducible refine (laws_markIntS.calls k (fun k_ => some k_ = (.slice Ao11 l0_7.length co11 : Value).ownBlock) (.slice Ao11 l0_7.length co11) l0_7 t467 t469 t470 w0 _ ?side1 ?side2 A6.out).mono ?_); (case side1 => exact bb HB); (case side2 => exact Kd.R_tight rfl HO0_7.out); rintro e w21 ⟨rfl, hy0, hb, hkp⟩; refine ⟨_, rfl, ?_⟩; replace HO0_0 := km hkp (ra HO0_0.out HO0_7) (fun k_ hk_ => hk_.2) (fun k_ hk_ => hk_.1); replace HO0_4 := km hkp HO0_4.out (fun k_ hk_ => hk_.2.1) (fun k_ hk_ => ai hk_.1 (ai hk_.2.1 hk_.2.2)); replace HO0_6 := km hkp (ra HO0_6.out HO0_7) (fun k_ hk_ => hk_.2) (fun k_ hk_ => hk_.1); replace HO0_8 := km hkp HO0_8.out (fun k_ hk_ => hk_.2.2) (fun k_ hk_ => ai hk_.1 (ai hk_.2.1 hk_.2.2)); replace BK462 := dk (blk_kept (bk BK462) hkp (fun hs_ => (fun e_ => (Kd.R_ne HO0_7.out BK462.out (by decide)) e_) hs_)); replace HK := dk (Kept.then_ (S := (fun k_ => P0_0_ k_ ∨ P0_4_ k_ ∨ P0_6_ k_ ∨ P0_7_ k_ ∨ P0_8_ k_)) (by repeat (first | (with_reducible first | exact HK.out | apply Kept.alloc | apply Kept.drewN | apply Kept.drew | refine Kept.setCell ?_ (.inr GW462.out) _) | exact HK.out)) hkp (fun k_ hs_ => (fun e_ => (HO0_7.out.1 k_ e_.symm).1) hs_)); replace HO0_7 := dk (Kd.R_reok rfl hy0 (fun k_ e_ => HO0_7.out.1 k_ e_)); replace HB := dk (hb); (try clear hb hkp hy0); have ⟨z22_0, z22_1, z22_2, z22_3, z22_4, z22_5, z22_6, z22_7, z22_8, v22_0, v22_1, v22_2, v22_3, v22_4, v22_5, v22_6, v22_7, v22_8⟩ := rz9 BK462) | ((with_reducible refine gate_callee (f := 29) rfl ?_); refine gl (some 24) Try.func29 #[.slice Ao12 l0_8.length co12, .int .i64 t469] ?_; (with_reducible refine (laws_markIntS.calls k (fun k_ => some k_ = (.slice Ao12 l0_8.length co12 : Value).ownBlock) (.slice Ao12 l0_8.length co12) l0_8 t469 t471 t472 w0 _ ?side1 ?side2 A7.out).mono ?_); (case side1 => exact bb HB); (case side2 => exact Kd.R_tight rfl HO0_8.out); rintro e w23 ⟨rfl, hy0, hb, hkp⟩; refine ⟨_, rfl, ?_⟩; replace HO0_0 := km hkp (ra HO0_0.out HO0_8) (fun k_ hk_ => hk_.2) (fun k_ hk_ => hk_.1); replace HO0_4 := km hkp HO0_4.out (fun k_ hk_ => hk_.2.2) (fun k_ hk_ => ai hk_.1 (ai hk_.2.1 hk_.2.2)); replace HO0_6 := km hkp (ra HO0_6.out HO0_8) (fun k_ hk_ => hk_.2) (fun k_ hk_ => hk_.1); replace HO0_7 := km hkp HO0_7.out (fun k_ hk_ => hk_.2.2) (fun k_ hk_ => ai hk_.1 (ai hk_.2.1 hk_.2.2)); replace BK462 := dk (blk_kept (bk BK462) hkp (fun hs_ => (fun e_ => (Kd.R_ne HO0_8.out BK462.out (by decide)) e_) hs_)); replace HK := dk (Kept.then_ (S := (fun k_ => P0_0_ k_ ∨ P0_4_ k_ ∨ P0_6_ k_ ∨ P0_7_ k_ ∨ P0_8_ k_)) (by repeat (first | (with_reducible first | exact HK.out | apply Kept.alloc | apply Kept.drewN | apply Kept.drew | refine Kept.setCell ?_ (.inr GW462.out) _) | exact HK.out)) hkp (fun k_ hs_ => (fun e_ => (HO0_8.out.1 k_ e_.symm).1) hs_)); replace HO0_8 := dk (Kd.R_reok rfl hy0 (fun k_ e_ => HO0_8.out.1 k_ e_)); replace HB := dk (hb); (try clear hb hkp hy0)))
 go_ret
 exact ⟨ee, rr HO0_0, ro HO0_4 (fun _ hk => hk.1), rr HO0_6, ro HO0_7 (fun _ hk => hk.1), ro HO0_8 (fun _ hk => hk.1), bb HB, by repeat (first | (with_reducible first | exact HK.out | apply Kept.alloc | apply Kept.drewN | apply Kept.drew | refine Kept.setCell ?_ (.inr GW462.out) _) | exact HK.out)⟩
def laws_markProtestS.l0 : Nat → List (S50) → Int → Int → Option (Int × (List (S50)))
 | 0, _, _, _ => none
 | k + 1, x0, x1, x5 => if x5 < (x0.length : Int) then (if 0 ≤ x5 then ((some (x0.set (x5 : Int).toNat (⟨x1, (rd_T50 x0 x5).f1, (rd_T50 x0 x5).f2⟩ : S50) : List (S50))).bind fun y473 => ((some (y473.set (x5 : Int).toNat (⟨(rd_T50 y473 x5).f0, wrap64 (x1 + 1), (rd_T50 y473 x5).f2⟩ : S50) : List (S50))).bind fun y474 => (laws_markProtestS.l0 k (y474.set (x5 : Int).toNat (⟨(rd_T50 y474 x5).f0, (rd_T50 y474 x5).f1, ((Int.tmod (wrap64 ((wrap64 (x1 + 1)) + 1)) 3) == 0)⟩ : S50)) (wrap64 ((wrap64 ((wrap64 (x1 + 1)) + 1)) + 1)) (wrap64 (x5 + 1))))) else (none)) else (some (x1, x0))
def laws_markProtestS.f (k : Nat) (l0 : List (S50)) (a1 : Int) : Option (Int × (List (S50))) := laws_markProtestS.l0 k l0 a1 0
theorem laws_markProtestS.calls (k : Nat) (P0_ : Nat → Prop) (u9000_ : Value) (l0 : List (S50)) (a1 : Int) (r1 : Int) (r2 : List (S50)) (w0 w : World) (hB : Below w0.heap.size w0 w) (ho0 : Kd.R k50 50 w w0.heap.size P0_ u9000_ l0) (h : laws_markProtestS.f k l0 a1 = some (r1, r2)) :
  Calls Try.prog 19 #[u9000_, .int .i64 a1] w fun e w' => e = .returned (.int .i64 r1) ∧ Kd.R k50 50 w' w0.heap.size (fun k_ => (P0_ k_ ∨ w.heap.size ≤ k_)) u9000_ r2 ∧ Below w0.heap.size w0 w' ∧ Kept w w' (fun k_ => P0_ k_) := by
 have HO0 := dk (show Kd.R k50 50 w w0.heap.size (fun k_ => (P0_ k_ ∨ w.heap.size ≤ k_)) u9000_ l0 from Kd.R_mono ho0 (fun k_ hk => (.inl hk)))
 have HK := dk (Kept.refl w (fun k_ => P0_ k_))
 have HW0 := dk hB.size
 have HB := dk hB
 clear hB
 have H : (laws_markProtestS.l0 k l0 a1 0) = some (r1, r2) := h
 clear h
 have H' := dk H
 clear H
 go_enter Try.func19, Try.ntmps19
 go_wp2
 go_loopg [1, 5] k (fun kq v1 v5 w' => ∃ (x0_1 : List (S50)) (x1_1 : Int) (x5_1 : Int), v1 = .int .i64 x1_1 ∧ v5 = .int .i64 x5_1 ∧ Aside0 (laws_markProtestS.l0 kq x0_1 x1_1 x5_1 = some (r1, r2)) ∧ Aside0 (kq ≤ k) ∧ Aside0 (Kd.R k50 50 w' w0.heap.size (fun k_ => (P0_ k_ ∨ w.heap.size ≤ k_)) u9000_ x0_1) ∧ Aside0 (Kept w w' (fun k_ => P0_ k_)) ∧ Aside0 (Below w0.heap.size w0 w'))
 case atStart => exact ⟨(l0), (a1), (0), e2_, e2_, H', ⟨Nat.le_refl _⟩, ⟨rr HO0⟩, ⟨by repeat (first | (with_reducible first | exact HK.out | apply Kept.alloc | apply Kept.drewN | apply Kept.drew) | exact HK.out)⟩, ⟨bb HB⟩⟩
 case round =>
  clear H'
  (try clear c1)
  (try clear p2)
  obtain ⟨x0_1, x1_1, x5_1, rfl, rfl, HA, HK1, HO_0, HK, HB⟩ := hrel
  cases gk with
  | zero => exact absurd HA.out (by simp [laws_markProtestS.l0])
  | succ k1 =>
   have H := HA.out
   clear HA
   simp only [laws_markProtestS.l0] at H
   by_cases c3 : x5_1 < (x0_1.length : Int)
   ·rw [if_pos c3] at H
    have c3b0 : decide (x5_1 < (x0_1.length : Int)) = true := decide_eq_true c3
    clear c3
    by_cases c4 : 0 ≤ x5_1
    ·rw [if_pos c4] at H
     have c4b0 : decide (0 ≤ x5_1) = true := decide_eq_true c4
     clear c4
     obtain ⟨y473, hy473⟩ : ∃ y_ : List (S50), y_ = (x0_1.set (x5_1 : Int).toNat (⟨x1_1, (rd_T50 x0_1 x5_1).f1, (rd_T50 x0_1 x5_1).f2⟩ : S50)) := ⟨_, rfl⟩
     replace H : ((some (y473.set (x5_1 : Int).toNat (⟨(rd_T50 y473 x5_1).f0, wrap64 (x1_1 + 1), (rd_T50 y473 x5_1).f2⟩ : S50) : List (S50))).bind fun y474 => (laws_markProtestS.l0 k1 (y474.set (x5_1 : Int).toNat (⟨(rd_T50 y474 x5_1).f0, (rd_T50 y474 x5_1).f1, ((Int.tmod (wrap64 ((wrap64 (x1_1 + 1)) + 1)) 3) == 0)⟩ : S50)) (wrap64 ((wrap64 ((wrap64 (x1_1 + 1)) + 1)) + 1)) (wrap64 (x5_1 + 1)))) = some (r1, r2) := by first | (rw [hy473]; with_reducible exact H) | (have H2_ := (Option.bind_some _ _).symm.trans H; rw [hy473]; with_reducible exact H2_) | (have H2_ := (Option.bind_some _ _).symm.trans H; with_reducible exact H2_) | with_reducible exact H | (rw [hy473]; exact H) | exact H
     have Ny473 := dk hy473
     clear hy473
     obtain ⟨y474, hy474⟩ : ∃ y_ : List (S50), y_ = (y473.set (x5_1 : Int).toNat (⟨(rd_T50 y473 x5_1).f0, wrap64 (x1_1 + 1), (rd_T50 y473 x5_1).f2⟩ : S50)) := ⟨_, rfl⟩
     replace H : (laws_markProtestS.l0 k1 (y474.set (x5_1 : Int).toNat (⟨(rd_T50 y474 x5_1).f0, (rd_T50 y474 x5_1).f1, ((Int.tmod (wrap64 ((wrap64 (x1_1 + 1)) + 1)) 3) == 0)⟩ : S50)) (wrap64 ((wrap64 ((wrap64 (x1_1 + 1)) + 1)) + 1)) (wrap64 (x5_1 + 1))) = some (r1, r2) := by first | (rw [hy474]; with_reducible exact H) | (have H2_ := (Option.bind_some _ _).symm.trans H; rw [hy474]; with_reducible exact H2_) | (have H2_ := (Option.bind_some _ _).symm.trans H; with_reducible exact H2_) | with_reducible exact H | (rw [hy474]; exact H) | exact H
     have Ny474 := dk hy474
     clear hy474
     obtain ⟨y475, hy475⟩ : ∃ y_ : List (S50), y_ = (y474.set (x5_1 : Int).toNat (⟨(rd_T50 y474 x5_1).f0, (rd_T50 y474 x5_1).f1, ((Int.tmod (wrap64 ((wrap64 (x1_1 + 1)) + 1)) 3) == 0)⟩ : S50)) := ⟨_, rfl⟩
     replace H : (laws_markProtestS.l0 k1 y475 (wrap64 ((wrap64 ((wrap64 (x1_1 + 1)) + 1)) + 1)) (wrap64 (x5_1 + 1))) = some (r1, r2) := by first | (rw [hy475]; with_reducible exact H) | (have H2_ := (Option.bind_some _ _).symm.trans H; rw [hy475]; with_reducible exact H2_) | (have H2_ := (Option.bind_some _ _).symm.trans H; with_reducible exact H2_) | with_reducible exact H | (rw [hy475]; exact H) | exact H
     have Ny475 := dk hy475
     clear hy475
     have H' := dk H
     clear H
     obtain ⟨Ao8, co8, eo8⟩ := Kd.R_slice HO_0.out
     subst eo8
     have p5 : 0 ≤ (x5_1 : Int) := oa
     have q5 : (x5_1 : Int) < ((x0_1.length : Int) : Int) := oa
     obtain ⟨go5, co5, eo5, gb5, gl5, cl5, HG5⟩ := Kd.R_form HO_0.out (by omega)
     (first | cases eo5 | (injection eo5 with ea_ en_ ec_; (first | subst ea_ | (injection ea_ with ea_; subst ea_)); subst ec_; clear en_))
     have GB5 := dk gb5
     have GG5 := dk HG5
     clear gb5 gl5 HG5
     have HMgo5 := dk (show (P0_ go5 ∨ w.heap.size ≤ go5) from (HO_0.out.1 _ rfl))
     obtain ⟨ce5, hcl5, hM5, hcc5, hfr5⟩ := Kd.R_elem HO_0.out z50 (x5_1 : Int) p5 q5
     obtain rfl := k50_openM hM5
     have hx5_0 : wr.cell? ⟨go5, (x5_1 : Int).toNat * 3, none⟩ = some (.int .i64 ((rd_T50 x0_1 x5_1).f0)) := hcc5 0 _ rfl
     have hx5_1 : wr.cell? ⟨go5, (x5_1 : Int).toNat * 3 + 1, none⟩ = some (.int .i64 ((rd_T50 x0_1 x5_1).f1)) := hcc5 1 _ rfl
     have hx5_2 : wr.cell? ⟨go5, (x5_1 : Int).toNat * 3 + 2, none⟩ = some (.bool ((rd_T50 x0_1 x5_1).f2)) := hcc5 2 _ rfl
     have hf5_0 : wr.frozen? ⟨go5, (x5_1 : Int).toNat * 3, none⟩ = false := hfr5 0
     have hf5_1 : wr.frozen? ⟨go5, (x5_1 : Int).toNat * 3 + 1, none⟩ = false := hfr5 1
     have hf5_2 : wr.frozen? ⟨go5, (x5_1 : Int).toNat * 3 + 2, none⟩ = false := hfr5 2
     clear hcl5 hcc5 hfr5; (try clear hM5)
     replace p5 := eq_true p5
     replace q5 := eq_true q5
     have HX9 := dk (show Kd.R k50 50 wr w0.heap.size (fun k_ => (P0_ k_ ∨ w.heap.size ≤ k_)) (.slice (some ⟨go5, 0, none⟩) x0_1.length co8) x0_1 from (rr HO_0))
     obtain ⟨ce9, hcl9, hM9, hcc9, hfr9⟩ := Kd.R_elem HX9.out z50 (x5_1 : Int) (oa) (by have h_ : (x5_1 : Int) < ((x0_1.length : Int) : Int) := oa; first | exact h_ | (have e_ := (Kd.R_reads' HO_0.out).1; omega) | simpa using h_)
     obtain rfl := k50_openM hM9
     have HP9 := Kd.R_seg HX9.out (x5_1 : Int) (oa) (by have h_ : (x5_1 : Int) < ((x0_1.length : Int) : Int) := oa; first | exact h_ | (have e_ := (Kd.R_reads' HO_0.out).1; omega) | simpa using h_) (seg := [.int .i64 x1_1]) (j := 0) hcl9 hcc9 (show 1 ≤ 3 from by decide) (x' := (⟨x1_1, (rd_T50 x0_1 x5_1).f1, (rd_T50 x0_1 x5_1).f2⟩ : S50)) (k50_mkM _ _ _ (⟨x1_1, (rd_T50 x0_1 x5_1).f1, (rd_T50 x0_1 x5_1).f2⟩ : S50) ) (fun _ hk => hk)
     have hx9_0 := hcc9 0 _ rfl
     (try simp only [show (k50).sz = 3 from rfl, Nat.mul_one, Nat.add_zero] at hx9_0)
     have hf9_0 := hfr9 0
     (try simp only [show (k50).sz = 3 from rfl, Nat.mul_one, Nat.add_zero] at hf9_0)
     clear hcl9 hcc9 hfr9; (try clear hM9)
     go_wp2_with (first | ((with_reducible refine gate_store (t := 3) (p := 16) rfl ?_); refine store_event (t := 3) (p := 16) (v := ?vo_w10) (w1 := (wr.setCell ⟨go5, (x5_1 : Int).toNat * 3, none⟩ (.int .i64 x1_1))) ?hg ?ho ?hn ?hr ?_; (case ho => rfl); (case hg => rfl); (case hn => rfl); (case hr => first | (go_simp; done) | (go_simp; rfl)); intro w10 hw; have hg : wr.grownBy w10 (some go5) := (by rw [hw]; exact HP9.2); have hp_ : Kd.R k50 50 w10 w0.heap.size (fun k_ => (P0_ k_ ∨ w.heap.size ≤ k_)) (.slice (some ⟨go5, 0, none⟩) x0_1.length co8) y473 := (by rw [hw, Ny473.out]; exact HP9.1); clear HP9; replace HB := dk (by rw [hw]; exact below_set (HB.out) GB5.out : Below w0.heap.size w0 w10); replace HK := dk (Kept.of_grown (S := (fun k_ => P0_ k_)) hg (by repeat (first | (with_reducible first | exact HK.out | apply Kept.alloc | apply Kept.drewN | apply Kept.drew) | exact HK.out)) (fun k_ e_ => (HO_0.out.1 k_ e_))); replace HO_0 := dk (hp_); clear hg hw hp_; have p6 : 0 ≤ (x5_1 : Int) := oa; have q6 : (x5_1 : Int) < ((x0_1.length : Int) : Int) := oa; obtain ⟨ce6, hcl6, hM6, hcc6, hfr6⟩ := Kd.R_elem HO_0.out z50 (x5_1 : Int) p6 q6; obtain rfl := k50_openM hM6; have hx6_0 : w10.cell? ⟨go5, (x5_1 : Int).toNat * 3, none⟩ = some (.int .i64 ((rd_T50 y473 x5_1).f0)) := hcc6 0 _ rfl; have hx6_1 : w10.cell? ⟨go5, (x5_1 : Int).toNat * 3 + 1, none⟩ = some (.int .i64 ((rd_T50 y473 x5_1).f1)) := hcc6 1 _ rfl; have hx6_2 : w10.cell? ⟨go5, (x5_1 : Int).toNat * 3 + 2, none⟩ = some (.bool ((rd_T50 y473 x5_1).f2)) := hcc6 2 _ rfl; have hf6_0 : w10.frozen? ⟨go5, (x5_1 : Int).toNat * 3, none⟩ = false := hfr6 0; have hf6_1 : w10.frozen? ⟨go5, (x5_1 : Int).toNat * 3 + 1, none⟩ = false := hfr6 1; have hf6_2 : w10.frozen? ⟨go5, (x5_1 : Int).toNat * 3 + 2, none⟩ = false := hfr6 2; clear hcl6 hcc6 hfr6; (try clear hM6); replace p6 := eq_true p6; replace q6 := eq_true q6; have HX11 := dk (show Kd.R k50 50 w10 w0.heap.size (fun k_ => (P0_ k_ ∨ w.heap.size ≤ k_)) (.slice (some ⟨go5, 0, none⟩) x0_1.length co8) y473 from (rr HO_0)); obtain ⟨ce11, hcl11, hM11, hcc11, hfr11⟩ := Kd.R_elem HX11.out z50 (x5_1 : Int) (oa) (by have h_ : (x5_1 : Int) < ((x0_1.length : Int) : Int) := oa; first | exact h_ | (have e_ := (Kd.R_reads' HO_0.out).1; omega) | simpa using h_); obtain rfl := k50_openM hM11; have HP11 := Kd.R_seg HX11.out (x5_1 : Int) (oa) (by have h_ : (x5_1 : Int) < ((x0_1.length : Int) : Int) := oa; first | exact h_ | (have e_ := (Kd.R_reads' HO_0.out).1; omega) | simpa using h_) (seg := [.int .i64 (wrap64 (x1_1 + 1))]) (j := 1) hcl11 hcc11 (show 2 ≤ 3 from by decide) (x' := (⟨(rd_T50 y473 x5_1).f0, wrap64 (x1_1 + 1), (rd_T50 y473 x5_1).f2⟩ : S50)) (k50_mkM _ _ _ (⟨(rd_T50 y473 x5_1).f0, wrap64 (x1_1 + 1), (rd_T50 y473 x5_1).f2⟩ : S50) ) (fun _ hk => hk); have hx11_1 := hcc11 1 _ rfl; (try simp only [show (k50).sz = 3 from rfl, Nat.mul_one, Nat.add_zero] at hx11_1); have hf11_1 := hfr11 1; (try simp only [show (k50).sz = 3 from rfl, Nat.mul_one, Nat.add_zero] at hf11_1); clear hcl11 hcc11 hfr11; (try clear hM11)) | ((with_reducible refine gate_store (t := 3) (p := 23) rfl ?_); refine store_event (t := 3) (p := 23) (v := ?vo_w12) (w1 := (w10.setCell ⟨go5, (x5_1 : Int).toNat * 3 + 1, none⟩ (.int .i64 (wrap64 (x1_1 + 1))))) ?hg ?ho ?hn ?hr ?_; (case ho => rfl); (case hg => rfl); (case hn => rfl); (case hr => first | (go_simp; done) | (go_simp; rfl)); intro w12 hw; have hg : w10.grownBy w12 (some go5) := (by rw [hw]; exact HP11.2); have hp_ : Kd.R k50 50 w12 w0.heap.size (fun k_ => (P0_ k_ ∨ w.heap.size ≤ k_)) (.slice (some ⟨go5, 0, none⟩) x0_1.length co8) y474 := (by rw [hw, Ny474.out]; exact HP11.1); clear HP11; replace HB := dk (by rw [hw]; exact below_set (HB.out) GB5.out : Below w0.heap.size w0 w12); replace HK := dk (Kept.of_grown (S := (fun k_ => P0_ k_)) hg (by repeat (first | (with_reducible first | exact HK.out | apply Kept.alloc | apply Kept.drewN | apply Kept.drew) | exact HK.out)) (fun k_ e_ => (HO_0.out.1 k_ e_))); replace HO_0 := dk (hp_); clear hg hw hp_; have p7 : 0 ≤ (x5_1 : Int) := oa; have q7 : (x5_1 : Int) < ((x0_1.length : Int) : Int) := oa; obtain ⟨ce7, hcl7, hM7, hcc7, hfr7⟩ := Kd.R_elem HO_0.out z50 (x5_1 : Int) p7 q7; obtain rfl := k50_openM hM7; have hx7_0 : w12.cell? ⟨go5, (x5_1 : Int).toNat * 3, none⟩ = some (.int .i64 ((rd_T50 y474 x5_1).f0)) := hcc7 0 _ rfl; have hx7_1 : w12.cell? ⟨go5, (x5_1 : Int).toNat * 3 + 1, none⟩ = some (.int .i64 ((rd_T50 y474 x5_1).f1)) := hcc7 1 _ rfl; have hx7_2 : w12.cell? ⟨go5, (x5_1 : Int).toNat * 3 + 2, none⟩ = some (.bool ((rd_T50 y474 x5_1).f2)) := hcc7 2 _ rfl; have hf7_0 : w12.frozen? ⟨go5, (x5_1 : Int).toNat * 3, none⟩ = false := hfr7 0; have hf7_1 : w12.frozen? ⟨go5, (x5_1 : Int).toNat * 3 + 1, none⟩ = false := hfr7 1; have hf7_2 : w12.frozen? ⟨go5, (x5_1 : Int).toNat * 3 + 2, none⟩ = false := hfr7 2; clear hcl7 hcc7 hfr7; (try clear hM7); replace p7 := eq_true p7; replace q7 := eq_true q7; have HX13 := dk (show Kd.R k50 50 w12 w0.heap.size (fun k_ => (P0_ k_ ∨ w.heap.size ≤ k_)) (.slice (some ⟨go5, 0, none⟩) x0_1.length co8) y474 from (rr HO_0)); obtain ⟨ce13, hcl13, hM13, hcc13, hfr13⟩ := Kd.R_elem HX13.out z50 (x5_1 : Int) (oa) (by have h_ : (x5_1 : Int) < ((x0_1.length : Int) : Int) := oa; first | exact h_ | (have e_ := (Kd.R_reads' HO_0.out).1; omega) | simpa using h_); obtain rfl := k50_openM hM13; have HP13 := Kd.R_seg HX13.out (x5_1 : Int) (oa) (by have h_ : (x5_1 : Int) < ((x0_1.length : Int) : Int) := oa; first | exact h_ | (have e_ := (Kd.R_reads' HO_0.out).1; omega) | simpa using h_) (seg := [.bool ((Int.tmod (wrap64 ((wrap64 (x1_1 + 1)) + 1)) 3) == 0)]) (j := 2) hcl13 hcc13 (show 3 ≤ 3 from by decide) (x' := (⟨(rd_T50 y474 x5_1).f0, (rd_T50 y474 x5_1).f1, ((Int.tmod (wrap64 ((wrap64 (x1_1 + 1)) + 1)) 3) == 0)⟩ : S50)) (k50_mkM _ _ _ (⟨(rd_T50 y474 x5_1).f0, (rd_T50 y474 x5_1).f1, ((Int.tmod (wrap64 ((wrap64 (x1_1 + 1)) + 1)) 3) == 0)⟩ : S50) ) (fun _ hk => hk); have hx13_2 := hcc13 2 _ rfl; (try simp only [show (k50).sz = 3 from rfl, Nat.mul_one, Nat.add_zero] at hx13_2); have hf13_2 := hfr13 2; (try simp only [show (k50).sz = 3 from rfl, Nat.mul_one, Nat.add_zero] at hf13_2); clear hcl13 hcc13 hfr13; (try clear hM13)) | ((with_reducible refine gate_store (t := 4) (p := 32) rfl ?_); refine store_event (t := 4) (p := 32) (v := ?vo_w14) (w1 := (w12.setCell ⟨go5, (x5_1 : Int).toNat * 3 + 2, none⟩ (.bool ((Int.tmod (wrap64 ((wrap64 (x1_1 + 1)) + 1)) 3) == 0)))) ?hg ?ho ?hn ?hr ?_; (case ho => rfl); (case hg => rfl); (case hn => rfl); (case hr => first | (go_simp; done) | (go_simp; rfl)); intro w14 hw; have hg : w12.grownBy w14 (some go5) := (by rw [hw]; exact HP13.2); have hp_ : Kd.R k50 50 w14 w0.heap.size (fun k_ => (P0_ k_ ∨ w.heap.size ≤ k_)) (.slice (some ⟨go5, 0, none⟩) x0_1.length co8) y475 := (by rw [hw, Ny475.out]; exact HP13.1); clear HP13; replace HB := dk (by rw [hw]; exact below_set (HB.out) GB5.out : Below w0.heap.size w0 w14); replace HK := dk (Kept.of_grown (S := (fun k_ => P0_ k_)) hg (by repeat (first | (with_reducible first | exact HK.out | apply Kept.alloc | apply Kept.drewN | apply Kept.drew) | exact HK.out)) (fun k_ e_ => (HO_0.out.1 k_ e_))); replace HO_0 := dk (hp_); clear hg hw hp_))
     go_roundg k1
     case measure => have := HK1.out; omega
     case rel => exact ⟨(y475), (wrap64 ((wrap64 ((wrap64 (x1_1 + 1)) + 1)) + 1)), (wrap64 (x5_1 + 1)), e2_, e2_, H', ⟨by have := HK1.out; omega⟩, ⟨rr HO_0⟩, ⟨by repeat (first | (with_reducible first | exact HK.out | apply Kept.alloc | apply Kept.drewN | apply Kept.drew) | exact HK.out)⟩, ⟨bb HB⟩⟩
    ·rw [if_neg c4] at H
     exact absurd H (by simp)
   ·rw [if_neg c3] at H
    have c3b0 : decide (x5_1 < (x0_1.length : Int)) = false := decide_eq_false c3
    clear c3
    simp only [Option.some.injEq, Prod.mk.injEq] at H
    obtain ⟨rfl, rfl⟩ := H
    obtain ⟨Ao15, co15, eo15⟩ := Kd.R_slice HO_0.out
    subst eo15
    go_wp2
    go_ret
    exact ⟨ee, rr HO_0, bb HB, by repeat (first | (with_reducible first | exact HK.out | apply Kept.alloc | apply Kept.drewN | apply Kept.drew) | exact HK.out)⟩
def laws_heldIntS.l0 : Nat → List Int → Int → Int → Option (Int)
 | 0, _, _, _ => none
 | k + 1, x0, x1, x5 => if x5 < (x0.length : Int) then (if 0 ≤ x5 then (if (rd x0 x5) = x1 then (laws_heldIntS.l0 k x0 (wrap64 (x1 + 1)) (wrap64 (x5 + 1))) else (some (-1))) else (none)) else (some x1)
def laws_heldIntS.f (k : Nat) (l0 : List Int) (a1 : Int) : Option (Int) := laws_heldIntS.l0 k l0 a1 0
theorem laws_heldIntS.calls (k : Nat) (A0 : Option Addr) (c0 : Nat) (l0 : List Int) (a1 : Int) (r : Int) (w : World) (hr0 : Kd.C (Kd.int .i64) w A0 l0.length l0) (hc0 : l0.length ≤ c0) (h : laws_heldIntS.f k l0 a1 = some r) :
  Calls Try.prog 30 #[.slice A0 l0.length c0, .int .i64 a1] w fun e w' => e = .returned (.int .i64 r) ∧ Drawn0 w w' := by
 have HR0 := dk hr0
 have HC0 := dk hc0
 clear hr0 hc0
 have H : (laws_heldIntS.l0 k l0 a1 0) = some r := h
 clear h
 have H' := dk H
 clear H
 go_enter Try.func30, Try.ntmps30
 go_wp2
 go_loopg [1, 5] k (fun kq v1 v5 w' => ∃ (x1_1 : Int) (x5_1 : Int), v1 = .int .i64 x1_1 ∧ v5 = .int .i64 x5_1 ∧ Aside0 (laws_heldIntS.l0 kq l0 x1_1 x5_1 = some r) ∧ Aside0 (kq ≤ k) ∧ Drawn0 w w')
 case atStart => exact ⟨(a1), (0), e2_, e2_, H', ⟨Nat.le_refl _⟩, by repeat (first | exact Drawn0.refl _ | apply Drawn0.step)⟩
 case round =>
  clear H'
  (try clear p2)
  obtain ⟨x1_1, x5_1, rfl, rfl, HA, HK1, ⟨m1, rfl⟩⟩ := hrel
  cases gk with
  | zero => exact absurd HA.out (by simp [laws_heldIntS.l0])
  | succ k1 =>
   have H := HA.out
   clear HA
   simp only [laws_heldIntS.l0] at H
   by_cases c3 : x5_1 < (l0.length : Int)
   ·rw [if_pos c3] at H
    have c3b0 : decide (x5_1 < (l0.length : Int)) = true := decide_eq_true c3
    clear c3
    by_cases c4 : 0 ≤ x5_1
    ·rw [if_pos c4] at H
     have c4b0 : decide (0 ≤ x5_1) = true := decide_eq_true c4
     clear c4
     by_cases c5 : (rd l0 x5_1) = x1_1
     ·rw [if_pos c5] at H
      have c5b0 : ((rd l0 x5_1) == x1_1) = true := beq_iff_eq.mpr c5
      have c5b1 : ((rd l0 x5_1) != x1_1) = false := bne_eq_false_iff_eq.mpr c5
      clear c5
      have H' := dk H
      clear H
      have p476 : 0 ≤ (x5_1 : Int) := oa
      have q476 : x5_1 < (l0.length : Int) := oa
      obtain ⟨ad476, e476, hx476_0⟩ := Kd.at_int HR0.out x5_1 p476 q476
      cases e476
      replace p476 := eq_true p476
      replace q476 := eq_true q476
      go_wp2
      go_roundg k1
      case measure => have := HK1.out; omega
      case rel => exact ⟨(wrap64 (x1_1 + 1)), (wrap64 (x5_1 + 1)), e2_, e2_, H', ⟨by have := HK1.out; omega⟩, by repeat (first | exact Drawn0.refl _ | apply Drawn0.step)⟩
     ·rw [if_neg c5] at H
      have c5b0 : ((rd l0 x5_1) == x1_1) = false := beq_eq_false_iff_ne.mpr c5
      have c5b1 : ((rd l0 x5_1) != x1_1) = true := bne_iff_ne.mpr c5
      obtain rfl := Option.some.inj H
      have p476 : 0 ≤ (x5_1 : Int) := oa
      have q476 : x5_1 < (l0.length : Int) := oa
      obtain ⟨ad476, e476, hx476_0⟩ := Kd.at_int HR0.out x5_1 p476 q476
      cases e476
      replace p476 := eq_true p476
      replace q476 := eq_true q476
      go_wp2
      go_ret
      exact ⟨e2_, by repeat (first | exact Drawn0.refl _ | apply Drawn0.step)⟩
    ·rw [if_neg c4] at H
     exact absurd H (by simp)
   ·rw [if_neg c3] at H
    have c3b0 : decide (x5_1 < (l0.length : Int)) = false := decide_eq_false c3
    clear c3
    obtain rfl := Option.some.inj H
    go_wp2
    go_ret
    exact ⟨e2_, by repeat (first | exact Drawn0.refl _ | apply Drawn0.step)⟩
def laws_heldTeamS.l0 : Nat → List (S139) → Int → Int → Option (Int)
 | 0, _, _, _ => none
 | k + 1, x0, x1, x5 => if x5 < (x0.length : Int) then (if 0 ≤ x5 then ((laws_markText.f k x1).bind fun t478 => (if ((rd_T139 x0 x5).f0).toList = t478.toList then (if ((rd_T139 x0 x5).f1) = (wrap64 (x1 + 1)) then (if ((rd_T139 x0 x5).f2) = (wrap64 ((wrap64 (x1 + 1)) + 1)) then (laws_heldTeamS.l0 k x0 (wrap64 ((wrap64 ((wrap64 (x1 + 1)) + 1)) + 1)) (wrap64 (x5 + 1))) else (some (-1))) else (some (-1))) else (some (-1)))) else (none)) else (some x1)
def laws_heldTeamS.f (k : Nat) (l0 : List (S139)) (a1 : Int) : Option (Int) := laws_heldTeamS.l0 k l0 a1 0
def laws_heldTeamS.T4 : Bool × List (List Nat × List Nat) := (true, [([], []), ([], []), ([0, 1], [0, 1]), ([2], [2]), ([3], [3]), ([], []), ([5], [5]), ([4, 6], [4, 6])])
def laws_heldTeamS.B4 : List Nat := [0, 0, 3, 7, 15, 0, 32, 127]
theorem laws_heldTeamS.tab4 : rtab .any (opsOf Try.f71 4) = laws_heldTeamS.T4 := by kernel_rfl
theorem laws_heldTeamS.bits4 : waitsOk laws_heldTeamS.T4.2 laws_heldTeamS.B4 = true := by kernel_rfl
theorem laws_heldTeamS.calls (k : Nat) (A0 : Option Addr) (c0 : Nat) (l0 : List (S139)) (a1 : Int) (r : Int) (w : World) (hr0 : Kd.C k139 w A0 l0.length l0) (hc0 : l0.length ≤ c0) (h : laws_heldTeamS.f k l0 a1 = some r) :
  Calls Try.prog 71 #[.slice A0 l0.length c0, .int .i64 a1] w fun e w' => e = .returned (.int .i64 r) ∧ Below w.heap.size w w' := by
 have HR0 := dk hr0
 have HC0 := dk hc0
 clear hr0 hc0
 have HB := dk (Below.refl w.heap.size w)
 have H : (laws_heldTeamS.l0 k l0 a1 0) = some r := h
 clear h
 have H' := dk H
 clear H
 go_enter Try.func71, Try.ntmps71
 go_wp2
 go_loopg [1, 5] k (fun kq v1 v5 w' => ∃ (x1_1 : Int) (x5_1 : Int), v1 = .int .i64 x1_1 ∧ v5 = .int .i64 x5_1 ∧ Aside0 (laws_heldTeamS.l0 kq l0 x1_1 x5_1 = some r) ∧ Aside0 (kq ≤ k) ∧ Aside0 (Below w.heap.size w w'))
 case atStart => exact ⟨(a1), (0), e2_, e2_, H', ⟨Nat.le_refl _⟩, ⟨bb HB⟩⟩
 case round =>
  clear H'
  (try clear p2)
  obtain ⟨x1_1, x5_1, rfl, rfl, HA, HK1, HB⟩ := hrel
  cases gk with
  | zero => exact absurd HA.out (by simp [laws_heldTeamS.l0])
  | succ k1 =>
   have H := HA.out
   clear HA
   simp only [laws_heldTeamS.l0] at H
   by_cases c3 : x5_1 < (l0.length : Int)
   ·rw [if_pos c3] at H
    have c3b0 : decide (x5_1 < (l0.length : Int)) = true := decide_eq_true c3
    clear c3
    by_cases c4 : 0 ≤ x5_1
    ·rw [if_pos c4] at H
     have c4b0 : decide (0 ≤ x5_1) = true := decide_eq_true c4
     clear c4
     replace H := Option.bind_eq_some_iff.mp H
     obtain ⟨t478, A50, H⟩ := H
     try dsimp only at H
     have A5 := dk A50
     clear A50
     by_cases c6 : ((rd_T139 l0 x5_1).f0).toList = t478.toList
     ·rw [if_pos c6] at H
      have c6b0 : (((rd_T139 l0 x5_1).f0).toList == t478.toList) = true := beq_iff_eq.mpr c6
      have c6b1 : (((rd_T139 l0 x5_1).f0).toList != t478.toList) = false := bne_eq_false_iff_eq.mpr c6
      clear c6
      by_cases c7 : ((rd_T139 l0 x5_1).f1) = (wrap64 (x1_1 + 1))
      ·rw [if_pos c7] at H
       have c7b0 : (((rd_T139 l0 x5_1).f1) == (wrap64 (x1_1 + 1))) = true := beq_iff_eq.mpr c7
       have c7b1 : (((rd_T139 l0 x5_1).f1) != (wrap64 (x1_1 + 1))) = false := bne_eq_false_iff_eq.mpr c7
       clear c7
       by_cases c8 : ((rd_T139 l0 x5_1).f2) = (wrap64 ((wrap64 (x1_1 + 1)) + 1))
       ·rw [if_pos c8] at H
        have c8b0 : (((rd_T139 l0 x5_1).f2) == (wrap64 ((wrap64 (x1_1 + 1)) + 1))) = true := beq_iff_eq.mpr c8
        have c8b1 : (((rd_T139 l0 x5_1).f2) != (wrap64 ((wrap64 (x1_1 + 1)) + 1))) = false := bne_eq_false_iff_eq.mpr c8
        clear c8
        have H' := dk H
        clear H
        try go_wp2
        replace HB := dk (below_drew1 HB.out)
        have p477 : 0 ≤ (x5_1 : Int) := oa
        have q477 : x5_1 < (l0.length : Int) := oa
        obtain ⟨ad477, e477, hx477_0, hx477_1, hx477_2⟩ := at_T139 HR0.out x5_1 p477 q477
        have hw477_2 := hx477_2
        have hw477_1 := hx477_1
        have hw477_0 := hx477_0
        cases e477
        replace hx477_0 := hc HB hx477_0
        replace hx477_1 := hc HB hx477_1
        replace hx477_2 := hc HB hx477_2
        replace p477 := eq_true p477
        replace q477 := eq_true q477
        refine start_ (n := 8) (S := fun w' => w'.cell? (ad477.add ((x5_1).toNat * 3)) = some (.string ((rd_T139 l0 x5_1).f0)) ∧ w'.cell? ⟨(ad477.add ((x5_1).toNat * 3)).block, (ad477.add ((x5_1).toNat * 3)).off + 1, none⟩ = some (.int .i64 ((rd_T139 l0 x5_1).f1)) ∧ w'.cell? ⟨(ad477.add ((x5_1).toNat * 3)).block, (ad477.add ((x5_1).toNat * 3)).off + 2, none⟩ = some (.int .i64 ((rd_T139 l0 x5_1).f2))) (ds := []) #[false, false, false, false, false, false, false, false] (by kernel_rfl) rfl rfl ⟨(hc HB hw477_0), (hc HB hw477_1), (hc HB hw477_2)⟩ (fun hHeld => ?_); refine with_tabW laws_heldTeamS.tab4 laws_heldTeamS.bits4 (fun HT_ HW_ => ?_)
        generalize wr.drew = w9 at HB hx477_0 hx477_1 hx477_2 hHeld ⊢
        refine pz_ 0 12 ?_
        refine pz_ 1 13 ?_
        refine pz_ 2 14 ?_
        refine pz_ 3 15 ?_
        refine pz_ 5 17 ?_
        refine take_ (i := 4) (N := some 16) (v := ?_) (a' := ?_) #[true, true, true, true, true, true, false, false] rfl rfl (take_ofW HT_.out HW_.out (by kernel_rfl)) (fun _ _ _ h => h) (Or.inl ⟨by rfl, ?_⟩) hHeld ?_ ?_
        rotate_left
        ·rintro w' ⟨s0, s1, s2⟩
         go_simp
         with_reducible rfl
        rotate_left
        ·simp only [Act.put, List.setIfInBounds_toArray, List.set_cons_zero, List.set_cons_succ, i64_w, i32_w]
         rfl
        refine one_ (i := 6) (N := some 18) #[true, true, true, true, true, true, true, false] rfl rfl (one_of HT_.out (by kernel_rfl)) (by decide) (fun K hK => ?_)
        refine goes_ Try.func130 (by kernel_rfl) rfl #[.int .i64 x1_1] (by rfl) rfl rfl (by (try simp only [List.map_toArray, List.map_cons, List.map_nil]); first | done | rfl | (simp only [List.length_drop, List.length_take]; rfl)) ?_
        with_reducible refine (laws_markText.calls k1 x1_1 t478 _ A5.out).mono ?_
        rintro e w10 ⟨rfl, hb⟩
        refine ⟨_, rfl, ?_⟩
        replace HB := hs_ HB hb
        (try clear hb hb2 hk hi)
        refine hK.out _ _ ⟨(hc HB hw477_0), (hc HB hw477_1), (hc HB hw477_2)⟩ (fun hHeld => ?_)
        clear hK K
        refine norm_ (a' := ?_) ?_ ?_
        rotate_left
        ·show Act.put _ (some 18) _ = _
         simp only [Act.put, List.setIfInBounds_toArray, List.set_cons_zero, List.set_cons_succ, i64_w, i32_w]
         rfl
        refine pz_ 7 19 ?_
        refine done_ (done_of HT_.out (by kernel_rfl)) ?_
        have p479 : 0 ≤ (x5_1 : Int) := oa
        have q479 : x5_1 < (l0.length : Int) := oa
        obtain ⟨ad479, e479, hx479_0, hx479_1, hx479_2⟩ := at_T139 HR0.out x5_1 p479 q479
        obtain rfl : ad477 = ad479 := (by injection e479)
        replace hx479_0 := hc HB hx479_0
        replace hx479_1 := hc HB hx479_1
        replace hx479_2 := hc HB hx479_2
        replace p479 := eq_true p479
        replace q479 := eq_true q479
        have p480 : 0 ≤ (x5_1 : Int) := oa
        have q480 : x5_1 < (l0.length : Int) := oa
        obtain ⟨ad480, e480, hx480_0, hx480_1, hx480_2⟩ := at_T139 HR0.out x5_1 p480 q480
        obtain rfl : ad477 = ad480 := (by injection e480)
        replace hx480_0 := hc HB hx480_0
        replace hx480_1 := hc HB hx480_1
        replace hx480_2 := hc HB hx480_2
        replace p480 := eq_true p480
        replace q480 := eq_true q480
        try go_wp2
        go_roundg k1
        case measure => have := HK1.out; omega
        case rel => exact ⟨(wrap64 ((wrap64 ((wrap64 (x1_1 + 1)) + 1)) + 1)), (wrap64 (x5_1 + 1)), e2_, e2_, H', ⟨by have := HK1.out; omega⟩, ⟨bb HB⟩⟩
       ·rw [if_neg c8] at H
        have c8b0 : (((rd_T139 l0 x5_1).f2) == (wrap64 ((wrap64 (x1_1 + 1)) + 1))) = false := beq_eq_false_iff_ne.mpr c8
        have c8b1 : (((rd_T139 l0 x5_1).f2) != (wrap64 ((wrap64 (x1_1 + 1)) + 1))) = true := bne_iff_ne.mpr c8
        obtain rfl := Option.some.inj H
        try go_wp2
        replace HB := dk (below_drew1 HB.out)
        have p477 : 0 ≤ (x5_1 : Int) := oa
        have q477 : x5_1 < (l0.length : Int) := oa
        obtain ⟨ad477, e477, hx477_0, hx477_1, hx477_2⟩ := at_T139 HR0.out x5_1 p477 q477
        have hw477_2 := hx477_2
        have hw477_1 := hx477_1
        have hw477_0 := hx477_0
        cases e477
        replace hx477_0 := hc HB hx477_0
        replace hx477_1 := hc HB hx477_1
        replace hx477_2 := hc HB hx477_2
        replace p477 := eq_true p477
        replace q477 := eq_true q477
        refine start_ (n := 8) (S := fun w' => w'.cell? (ad477.add ((x5_1).toNat * 3)) = some (.string ((rd_T139 l0 x5_1).f0)) ∧ w'.cell? ⟨(ad477.add ((x5_1).toNat * 3)).block, (ad477.add ((x5_1).toNat * 3)).off + 1, none⟩ = some (.int .i64 ((rd_T139 l0 x5_1).f1)) ∧ w'.cell? ⟨(ad477.add ((x5_1).toNat * 3)).block, (ad477.add ((x5_1).toNat * 3)).off + 2, none⟩ = some (.int .i64 ((rd_T139 l0 x5_1).f2))) (ds := []) #[false, false, false, false, false, false, false, false] (by kernel_rfl) rfl rfl ⟨(hc HB hw477_0), (hc HB hw477_1), (hc HB hw477_2)⟩ (fun hHeld => ?_); refine with_tabW laws_heldTeamS.tab4 laws_heldTeamS.bits4 (fun HT_ HW_ => ?_)
        generalize wr.drew = w11 at HB hx477_0 hx477_1 hx477_2 hHeld ⊢
        refine pz_ 0 12 ?_
        refine pz_ 1 13 ?_
        refine pz_ 2 14 ?_
        refine pz_ 3 15 ?_
        refine pz_ 5 17 ?_
        refine take_ (i := 4) (N := some 16) (v := ?_) (a' := ?_) #[true, true, true, true, true, true, false, false] rfl rfl (take_ofW HT_.out HW_.out (by kernel_rfl)) (fun _ _ _ h => h) (Or.inl ⟨by rfl, ?_⟩) hHeld ?_ ?_
        rotate_left
        ·rintro w' ⟨s0, s1, s2⟩
         go_simp
         with_reducible rfl
        rotate_left
        ·simp only [Act.put, List.setIfInBounds_toArray, List.set_cons_zero, List.set_cons_succ, i64_w, i32_w]
         rfl
        refine one_ (i := 6) (N := some 18) #[true, true, true, true, true, true, true, false] rfl rfl (one_of HT_.out (by kernel_rfl)) (by decide) (fun K hK => ?_)
        refine goes_ Try.func130 (by kernel_rfl) rfl #[.int .i64 x1_1] (by rfl) rfl rfl (by (try simp only [List.map_toArray, List.map_cons, List.map_nil]); first | done | rfl | (simp only [List.length_drop, List.length_take]; rfl)) ?_
        with_reducible refine (laws_markText.calls k1 x1_1 t478 _ A5.out).mono ?_
        rintro e w12 ⟨rfl, hb⟩
        refine ⟨_, rfl, ?_⟩
        replace HB := hs_ HB hb
        (try clear hb hb2 hk hi)
        refine hK.out _ _ ⟨(hc HB hw477_0), (hc HB hw477_1), (hc HB hw477_2)⟩ (fun hHeld => ?_)
        clear hK K
        refine norm_ (a' := ?_) ?_ ?_
        rotate_left
        ·show Act.put _ (some 18) _ = _
         simp only [Act.put, List.setIfInBounds_toArray, List.set_cons_zero, List.set_cons_succ, i64_w, i32_w]
         rfl
        refine pz_ 7 19 ?_
        refine done_ (done_of HT_.out (by kernel_rfl)) ?_
        have p479 : 0 ≤ (x5_1 : Int) := oa
        have q479 : x5_1 < (l0.length : Int) := oa
        obtain ⟨ad479, e479, hx479_0, hx479_1, hx479_2⟩ := at_T139 HR0.out x5_1 p479 q479
        obtain rfl : ad477 = ad479 := (by injection e479)
        replace hx479_0 := hc HB hx479_0
        replace hx479_1 := hc HB hx479_1
        replace hx479_2 := hc HB hx479_2
        replace p479 := eq_true p479
        replace q479 := eq_true q479
        have p480 : 0 ≤ (x5_1 : Int) := oa
        have q480 : x5_1 < (l0.length : Int) := oa
        obtain ⟨ad480, e480, hx480_0, hx480_1, hx480_2⟩ := at_T139 HR0.out x5_1 p480 q480
        obtain rfl : ad477 = ad480 := (by injection e480)
        replace hx480_0 := hc HB hx480_0
        replace hx480_1 := hc HB hx480_1
        replace hx480_2 := hc HB hx480_2
        replace p480 := eq_true p480
        replace q480 := eq_true q480
        try go_wp2
        go_ret
        exact ⟨ee, bb HB⟩
      ·rw [if_neg c7] at H
       have c7b0 : (((rd_T139 l0 x5_1).f1) == (wrap64 (x1_1 + 1))) = false := beq_eq_false_iff_ne.mpr c7
       have c7b1 : (((rd_T139 l0 x5_1).f1) != (wrap64 (x1_1 + 1))) = true := bne_iff_ne.mpr c7
       obtain rfl := Option.some.inj H
       try go_wp2
       replace HB := dk (below_drew1 HB.out)
       have p477 : 0 ≤ (x5_1 : Int) := oa
       have q477 : x5_1 < (l0.length : Int) := oa
       obtain ⟨ad477, e477, hx477_0, hx477_1, hx477_2⟩ := at_T139 HR0.out x5_1 p477 q477
       have hw477_2 := hx477_2
       have hw477_1 := hx477_1
       have hw477_0 := hx477_0
       cases e477
       replace hx477_0 := hc HB hx477_0
       replace hx477_1 := hc HB hx477_1
       replace hx477_2 := hc HB hx477_2
       replace p477 := eq_true p477
       replace q477 := eq_true q477
       refine start_ (n := 8) (S := fun w' => w'.cell? (ad477.add ((x5_1).toNat * 3)) = some (.string ((rd_T139 l0 x5_1).f0)) ∧ w'.cell? ⟨(ad477.add ((x5_1).toNat * 3)).block, (ad477.add ((x5_1).toNat * 3)).off + 1, none⟩ = some (.int .i64 ((rd_T139 l0 x5_1).f1)) ∧ w'.cell? ⟨(ad477.add ((x5_1).toNat * 3)).block, (ad477.add ((x5_1).toNat * 3)).off + 2, none⟩ = some (.int .i64 ((rd_T139 l0 x5_1).f2))) (ds := []) #[false, false, false, false, false, false, false, false] (by kernel_rfl) rfl rfl ⟨(hc HB hw477_0), (hc HB hw477_1), (hc HB hw477_2)⟩ (fun hHeld => ?_); refine with_tabW laws_heldTeamS.tab4 laws_heldTeamS.bits4 (fun HT_ HW_ => ?_)
       generalize wr.drew = w13 at HB hx477_0 hx477_1 hx477_2 hHeld ⊢
       refine pz_ 0 12 ?_
       refine pz_ 1 13 ?_
       refine pz_ 2 14 ?_
       refine pz_ 3 15 ?_
       refine pz_ 5 17 ?_
       refine take_ (i := 4) (N := some 16) (v := ?_) (a' := ?_) #[true, true, true, true, true, true, false, false] rfl rfl (take_ofW HT_.out HW_.out (by kernel_rfl)) (fun _ _ _ h => h) (Or.inl ⟨by rfl, ?_⟩) hHeld ?_ ?_
       rotate_left
       ·rintro w' ⟨s0, s1, s2⟩
        go_simp
        with_reducible rfl
       rotate_left
       ·simp only [Act.put, List.setIfInBounds_toArray, List.set_cons_zero, List.set_cons_succ, i64_w, i32_w]
        rfl
       refine one_ (i := 6) (N := some 18) #[true, true, true, true, true, true, true, false] rfl rfl (one_of HT_.out (by kernel_rfl)) (by decide) (fun K hK => ?_)
       refine goes_ Try.func130 (by kernel_rfl) rfl #[.int .i64 x1_1] (by rfl) rfl rfl (by (try simp only [List.map_toArray, List.map_cons, List.map_nil]); first | done | rfl | (simp only [List.length_drop, List.length_take]; rfl)) ?_
       with_reducible refine (laws_markText.calls k1 x1_1 t478 _ A5.out).mono ?_
       rintro e w14 ⟨rfl, hb⟩
       refine ⟨_, rfl, ?_⟩
       replace HB := hs_ HB hb
       (try clear hb hb2 hk hi)
       refine hK.out _ _ ⟨(hc HB hw477_0), (hc HB hw477_1), (hc HB hw477_2)⟩ (fun hHeld => ?_)
       clear hK K
       refine norm_ (a' := ?_) ?_ ?_
       rotate_left
       ·show Act.put _ (some 18) _ = _
        simp only [Act.put, List.setIfInBounds_toArray, List.set_cons_zero, List.set_cons_succ, i64_w, i32_w]
        rfl
       refine pz_ 7 19 ?_
       refine done_ (done_of HT_.out (by kernel_rfl)) ?_
       have p479 : 0 ≤ (x5_1 : Int) := oa
       have q479 : x5_1 < (l0.length : Int) := oa
       obtain ⟨ad479, e479, hx479_0, hx479_1, hx479_2⟩ := at_T139 HR0.out x5_1 p479 q479
       obtain rfl : ad477 = ad479 := (by injection e479)
       replace hx479_0 := hc HB hx479_0
       replace hx479_1 := hc HB hx479_1
       replace hx479_2 := hc HB hx479_2
       replace p479 := eq_true p479
       replace q479 := eq_true q479
       try go_wp2
       go_ret
       exact ⟨ee, bb HB⟩
     ·rw [if_neg c6] at H
      have c6b0 : (((rd_T139 l0 x5_1).f0).toList == t478.toList) = false := beq_eq_false_iff_ne.mpr c6
      have c6b1 : (((rd_T139 l0 x5_1).f0).toList != t478.toList) = true := bne_iff_ne.mpr c6
      obtain rfl := Option.some.inj H
      try go_wp2
      replace HB := dk (below_drew1 HB.out)
      have p477 : 0 ≤ (x5_1 : Int) := oa
      have q477 : x5_1 < (l0.length : Int) := oa
      obtain ⟨ad477, e477, hx477_0, hx477_1, hx477_2⟩ := at_T139 HR0.out x5_1 p477 q477
      have hw477_2 := hx477_2
      have hw477_1 := hx477_1
      have hw477_0 := hx477_0
      cases e477
      replace hx477_0 := hc HB hx477_0
      replace hx477_1 := hc HB hx477_1
      replace hx477_2 := hc HB hx477_2
      replace p477 := eq_true p477
      replace q477 := eq_true q477
      refine start_ (n := 8) (S := fun w' => w'.cell? (ad477.add ((x5_1).toNat * 3)) = some (.string ((rd_T139 l0 x5_1).f0)) ∧ w'.cell? ⟨(ad477.add ((x5_1).toNat * 3)).block, (ad477.add ((x5_1).toNat * 3)).off + 1, none⟩ = some (.int .i64 ((rd_T139 l0 x5_1).f1)) ∧ w'.cell? ⟨(ad477.add ((x5_1).toNat * 3)).block, (ad477.add ((x5_1).toNat * 3)).off + 2, none⟩ = some (.int .i64 ((rd_T139 l0 x5_1).f2))) (ds := []) #[false, false, false, false, false, false, false, false] (by kernel_rfl) rfl rfl ⟨(hc HB hw477_0), (hc HB hw477_1), (hc HB hw477_2)⟩ (fun hHeld => ?_); refine with_tabW laws_heldTeamS.tab4 laws_heldTeamS.bits4 (fun HT_ HW_ => ?_)
      generalize wr.drew = w15 at HB hx477_0 hx477_1 hx477_2 hHeld ⊢
      refine pz_ 0 12 ?_
      refine pz_ 1 13 ?_
      refine pz_ 2 14 ?_
      refine pz_ 3 15 ?_
      refine pz_ 5 17 ?_
      refine take_ (i := 4) (N := some 16) (v := ?_) (a' := ?_) #[true, true, true, true, true, true, false, false] rfl rfl (take_ofW HT_.out HW_.out (by kernel_rfl)) (fun _ _ _ h => h) (Or.inl ⟨by rfl, ?_⟩) hHeld ?_ ?_
      rotate_left
      ·rintro w' ⟨s0, s1, s2⟩
       go_simp
       with_reducible rfl
      rotate_left
      ·simp only [Act.put, List.setIfInBounds_toArray, List.set_cons_zero, List.set_cons_succ, i64_w, i32_w]
       rfl
      refine one_ (i := 6) (N := some 18) #[true, true, true, true, true, true, true, false] rfl rfl (one_of HT_.out (by kernel_rfl)) (by decide) (fun K hK => ?_)
      refine goes_ Try.func130 (by kernel_rfl) rfl #[.int .i64 x1_1] (by rfl) rfl rfl (by (try simp only [List.map_toArray, List.map_cons, List.map_nil]); first | done | rfl | (simp only [List.length_drop, List.length_take]; rfl)) ?_
      with_reducible refine (laws_markText.calls k1 x1_1 t478 _ A5.out).mono ?_
      rintro e w16 ⟨rfl, hb⟩
      refine ⟨_, rfl, ?_⟩
      replace HB := hs_ HB hb
      (try clear hb hb2 hk hi)
      refine hK.out _ _ ⟨(hc HB hw477_0), (hc HB hw477_1), (hc HB hw477_2)⟩ (fun hHeld => ?_)
      clear hK K
      refine norm_ (a' := ?_) ?_ ?_
      rotate_left
      ·show Act.put _ (some 18) _ = _
       simp only [Act.put, List.setIfInBounds_toArray, List.set_cons_zero, List.set_cons_succ, i64_w, i32_w]
       rfl
      refine pz_ 7 19 ?_
      refine done_ (done_of HT_.out (by kernel_rfl)) ?_
      try go_wp2
      go_ret
      exact ⟨ee, bb HB⟩
    ·rw [if_neg c4] at H
     exact absurd H (by simp)
   ·rw [if_neg c3] at H
    have c3b0 : decide (x5_1 < (l0.length : Int)) = false := decide_eq_false c3
    clear c3
    obtain rfl := Option.some.inj H
    go_wp2
    go_ret
    exact ⟨ee, bb HB⟩
def laws_heldRules.f (k : Nat) (a0_0 : Int) (a0_1 : Int) (a0_2 : Int) (l0_3 : List Int) (a0_4 : Bool) (a1 : Int) : Option (Int) := (laws_heldIntS.f k l0_3 a1).bind fun t482 => (if t482 < 0 then (some (-1)) else (some t482))
theorem laws_heldRules.calls (k : Nat) (a0_0 : Int) (a0_1 : Int) (a0_2 : Int) (A0_3 : Option Addr) (c0_3 : Nat) (l0_3 : List Int) (a0_4 : Bool) (a1 : Int) (r : Int) (w : World) (hr0_3 : Kd.C (Kd.int .i64) w A0_3 l0_3.length l0_3) (hc0_3 : l0_3.length ≤ c0_3) (h : laws_heldRules.f k a0_0 a0_1 a0_2 l0_3 a0_4 a1 = some r) :
  Calls Try.prog 72 #[.agg #[.int .i64 a0_0, .int .i64 a0_1, .int .i64 a0_2, .slice A0_3 l0_3.length c0_3, .bool a0_4], .int .i64 a1] w fun e w' => e = .returned (.int .i64 r) ∧ Below w.heap.size w w' := by
 have hu33 := Try.underlying33
 have HR0_3 := dk hr0_3
 have HC0_3 := dk hc0_3
 clear hr0_3 hc0_3
 have HB := dk (Below.refl w.heap.size w)
 have H : ((laws_heldIntS.f k l0_3 a1).bind fun t482 => (if t482 < 0 then (some (-1)) else (some t482))) = some r := h
 clear h
 replace H := Option.bind_eq_some_iff.mp H
 obtain ⟨t482, A30, H⟩ := H
 try dsimp only at H
 have A3 := dk A30
 clear A30
 by_cases c4 : t482 < 0
 ·rw [if_pos c4] at H
  have c4b0 : decide (t482 < 0) = true := decide_eq_true c4
  clear c4
  obtain rfl := Option.some.inj H
  go_enter Try.func72, Try.ntmps72
  go_wp2_with (first | ((with_reducible refine gate_dst (N := 2) rfl ?_); refine bx (N := 2) (cs := #[.int .i64 a0_0, .int .i64 a0_1, .int .i64 a0_2, .slice A0_3 l0_3.length c0_3, .bool a0_4]) (t := 33) ?_; intro gb481 hg w5 hbox hb; have BK481 := dk (hbox); have GW481 := gs hg HB; have GE481 := gs hg HB; replace HB := hs_ HB hb; clear hb hbox hg; have ⟨z6_0, z6_1, z6_2, z6_3, z6_4, v6_0, v6_1, v6_2, v6_3, v6_4⟩ := rz5 BK481) | ((with_reducible refine gate_callee (f := 30) rfl ?_); refine gl (some 8) Try.func30 #[.slice A0_3 l0_3.length c0_3, .int .i64 a1] ?_; (with_reducible refine (laws_heldIntS.calls k _ _ l0_3 a1 t482 _ ?side1 ?side2 A3.out).mono ?_); (case side1 => exact cc HR0_3 HB); (case side2 => exact HC0_3.out); rintro e w' ⟨rfl, ⟨nd, rfl⟩⟩; refine ⟨_, rfl, ?_⟩))
  go_ret
  exact ⟨ee, bb HB⟩
 ·rw [if_neg c4] at H
  have c4b0 : decide (t482 < 0) = false := decide_eq_false c4
  clear c4
  obtain rfl := Option.some.inj H
  go_enter Try.func72, Try.ntmps72
  go_wp2_with (first | ((with_reducible refine gate_dst (N := 2) rfl ?_); refine bx (N := 2) (cs := #[.int .i64 a0_0, .int .i64 a0_1, .int .i64 a0_2, .slice A0_3 l0_3.length c0_3, .bool a0_4]) (t := 33) ?_; intro gb481 hg w7 hbox hb; have BK481 := dk (hbox); have GW481 := gs hg HB; have GE481 := gs hg HB; replace HB := hs_ HB hb; clear hb hbox hg; have ⟨z8_0, z8_1, z8_2, z8_3, z8_4, v8_0, v8_1, v8_2, v8_3, v8_4⟩ := rz5 BK481) | ((with_reducible refine gate_callee (f := 30) rfl ?_); refine gl (some 8) Try.func30 #[.slice A0_3 l0_3.length c0_3, .int .i64 a1] ?_; (with_reducible refine (laws_heldIntS.calls k _ _ l0_3 a1 t482 _ ?side1 ?side2 A3.out).mono ?_); (case side1 => exact cc HR0_3 HB); (case side2 => exact HC0_3.out); rintro e w' ⟨rfl, ⟨nd, rfl⟩⟩; refine ⟨_, rfl, ?_⟩))
  go_ret
  exact ⟨ee, bb HB⟩
def laws_heldGameS.l0 : Nat → List (S95) → Int → Int → Option (Int)
 | 0, _, _, _ => none
 | k + 1, x0, x1, x5 => if x5 < (x0.length : Int) then (if 0 ≤ x5 then (if ((rd_T95 x0 x5).f0) = x1 then (if ((rd_T95 x0 x5).f1) = (wrap64 (x1 + 1)) then (if ((rd_T95 x0 x5).f2) = (wrap64 ((wrap64 (x1 + 1)) + 1)) then (if ((rd_T95 x0 x5).f3) = (wrap64 ((wrap64 ((wrap64 (x1 + 1)) + 1)) + 1)) then (if ((rd_T95 x0 x5).f4) = (wrap64 ((wrap64 ((wrap64 ((wrap64 (x1 + 1)) + 1)) + 1)) + 1)) then (laws_heldGameS.l0 k x0 (wrap64 ((wrap64 ((wrap64 ((wrap64 ((wrap64 (x1 + 1)) + 1)) + 1)) + 1)) + 1)) (wrap64 (x5 + 1))) else (some (-1))) else (some (-1))) else (some (-1))) else (some (-1))) else (some (-1))) else (none)) else (some x1)
def laws_heldGameS.f (k : Nat) (l0 : List (S95)) (a1 : Int) : Option (Int) := laws_heldGameS.l0 k l0 a1 0
theorem laws_heldGameS.calls (k : Nat) (A0 : Option Addr) (c0 : Nat) (l0 : List (S95)) (a1 : Int) (r : Int) (w : World) (hr0 : Kd.C k95 w A0 l0.length l0) (hc0 : l0.length ≤ c0) (h : laws_heldGameS.f k l0 a1 = some r) :
  Calls Try.prog 73 #[.slice A0 l0.length c0, .int .i64 a1] w fun e w' => e = .returned (.int .i64 r) ∧ Drawn0 w w' := by
 have HR0 := dk hr0
 have HC0 := dk hc0
 clear hr0 hc0
 have H : (laws_heldGameS.l0 k l0 a1 0) = some r := h
 clear h
 have H' := dk H
 clear H
 go_enter Try.func73, Try.ntmps73
 go_wp2
 go_loopg [1, 5] k (fun kq v1 v5 w' => ∃ (x1_1 : Int) (x5_1 : Int), v1 = .int .i64 x1_1 ∧ v5 = .int .i64 x5_1 ∧ Aside0 (laws_heldGameS.l0 kq l0 x1_1 x5_1 = some r) ∧ Aside0 (kq ≤ k) ∧ Drawn0 w w')
 case atStart => exact ⟨(a1), (0), e2_, e2_, H', ⟨Nat.le_refl _⟩, by repeat (first | exact Drawn0.refl _ | apply Drawn0.step)⟩
 case round =>
  clear H'
  (try clear p2)
  obtain ⟨x1_1, x5_1, rfl, rfl, HA, HK1, ⟨m1, rfl⟩⟩ := hrel
  cases gk with
  | zero => exact absurd HA.out (by simp [laws_heldGameS.l0])
  | succ k1 =>
   have H := HA.out
   clear HA
   simp only [laws_heldGameS.l0] at H
   by_cases c3 : x5_1 < (l0.length : Int)
   ·rw [if_pos c3] at H
    have c3b0 : decide (x5_1 < (l0.length : Int)) = true := decide_eq_true c3
    clear c3
    by_cases c4 : 0 ≤ x5_1
    ·rw [if_pos c4] at H
     have c4b0 : decide (0 ≤ x5_1) = true := decide_eq_true c4
     clear c4
     by_cases c5 : ((rd_T95 l0 x5_1).f0) = x1_1
     ·rw [if_pos c5] at H
      have c5b0 : (((rd_T95 l0 x5_1).f0) == x1_1) = true := beq_iff_eq.mpr c5
      have c5b1 : (((rd_T95 l0 x5_1).f0) != x1_1) = false := bne_eq_false_iff_eq.mpr c5
      clear c5
      by_cases c6 : ((rd_T95 l0 x5_1).f1) = (wrap64 (x1_1 + 1))
      ·rw [if_pos c6] at H
       have c6b0 : (((rd_T95 l0 x5_1).f1) == (wrap64 (x1_1 + 1))) = true := beq_iff_eq.mpr c6
       have c6b1 : (((rd_T95 l0 x5_1).f1) != (wrap64 (x1_1 + 1))) = false := bne_eq_false_iff_eq.mpr c6
       clear c6
       by_cases c7 : ((rd_T95 l0 x5_1).f2) = (wrap64 ((wrap64 (x1_1 + 1)) + 1))
       ·rw [if_pos c7] at H
        have c7b0 : (((rd_T95 l0 x5_1).f2) == (wrap64 ((wrap64 (x1_1 + 1)) + 1))) = true := beq_iff_eq.mpr c7
        have c7b1 : (((rd_T95 l0 x5_1).f2) != (wrap64 ((wrap64 (x1_1 + 1)) + 1))) = false := bne_eq_false_iff_eq.mpr c7
        clear c7
        by_cases c8 : ((rd_T95 l0 x5_1).f3) = (wrap64 ((wrap64 ((wrap64 (x1_1 + 1)) + 1)) + 1))
        ·rw [if_pos c8] at H
         have c8b0 : (((rd_T95 l0 x5_1).f3) == (wrap64 ((wrap64 ((wrap64 (x1_1 + 1)) + 1)) + 1))) = true := beq_iff_eq.mpr c8
         have c8b1 : (((rd_T95 l0 x5_1).f3) != (wrap64 ((wrap64 ((wrap64 (x1_1 + 1)) + 1)) + 1))) = false := bne_eq_false_iff_eq.mpr c8
         clear c8
         by_cases c9 : ((rd_T95 l0 x5_1).f4) = (wrap64 ((wrap64 ((wrap64 ((wrap64 (x1_1 + 1)) + 1)) + 1)) + 1))
         ·rw [if_pos c9] at H
          have c9b0 : (((rd_T95 l0 x5_1).f4) == (wrap64 ((wrap64 ((wrap64 ((wrap64 (x1_1 + 1)) + 1)) + 1)) + 1))) = true := beq_iff_eq.mpr c9
          have c9b1 : (((rd_T95 l0 x5_1).f4) != (wrap64 ((wrap64 ((wrap64 ((wrap64 (x1_1 + 1)) + 1)) + 1)) + 1))) = false := bne_eq_false_iff_eq.mpr c9
          clear c9
          have H' := dk H
          clear H
          have p483 : 0 ≤ (x5_1 : Int) := oa
          have q483 : x5_1 < (l0.length : Int) := oa
          obtain ⟨ad483, e483, hx483_0, hx483_1, hx483_2, hx483_3, hx483_4⟩ := at_T95 HR0.out x5_1 p483 q483
          cases e483
          replace p483 := eq_true p483
          replace q483 := eq_true q483
          have p484 : 0 ≤ (x5_1 : Int) := oa
          have q484 : x5_1 < (l0.length : Int) := oa
          obtain ⟨ad484, e484, hx484_0, hx484_1, hx484_2, hx484_3, hx484_4⟩ := at_T95 HR0.out x5_1 p484 q484
          obtain rfl : ad483 = ad484 := (by injection e484)
          replace p484 := eq_true p484
          replace q484 := eq_true q484
          have p485 : 0 ≤ (x5_1 : Int) := oa
          have q485 : x5_1 < (l0.length : Int) := oa
          obtain ⟨ad485, e485, hx485_0, hx485_1, hx485_2, hx485_3, hx485_4⟩ := at_T95 HR0.out x5_1 p485 q485
          obtain rfl : ad483 = ad485 := (by injection e485)
          replace p485 := eq_true p485
          replace q485 := eq_true q485
          have p486 : 0 ≤ (x5_1 : Int) := oa
          have q486 : x5_1 < (l0.length : Int) := oa
          obtain ⟨ad486, e486, hx486_0, hx486_1, hx486_2, hx486_3, hx486_4⟩ := at_T95 HR0.out x5_1 p486 q486
          obtain rfl : ad483 = ad486 := (by injection e486)
          replace p486 := eq_true p486
          replace q486 := eq_true q486
          have p487 : 0 ≤ (x5_1 : Int) := oa
          have q487 : x5_1 < (l0.length : Int) := oa
          obtain ⟨ad487, e487, hx487_0, hx487_1, hx487_2, hx487_3, hx487_4⟩ := at_T95 HR0.out x5_1 p487 q487
          obtain rfl : ad483 = ad487 := (by injection e487)
          replace p487 := eq_true p487
          replace q487 := eq_true q487
          go_wp2
          go_roundg k1
          case measure => have := HK1.out; omega
          case rel => exact ⟨(wrap64 ((wrap64 ((wrap64 ((wrap64 ((wrap64 (x1_1 + 1)) + 1)) + 1)) + 1)) + 1)), (wrap64 (x5_1 + 1)), e2_, e2_, H', ⟨by have := HK1.out; omega⟩, by repeat (first | exact Drawn0.refl _ | apply Drawn0.step)⟩
         ·rw [if_neg c9] at H
          have c9b0 : (((rd_T95 l0 x5_1).f4) == (wrap64 ((wrap64 ((wrap64 ((wrap64 (x1_1 + 1)) + 1)) + 1)) + 1))) = false := beq_eq_false_iff_ne.mpr c9
          have c9b1 : (((rd_T95 l0 x5_1).f4) != (wrap64 ((wrap64 ((wrap64 ((wrap64 (x1_1 + 1)) + 1)) + 1)) + 1))) = true := bne_iff_ne.mpr c9
          obtain rfl := Option.some.inj H
          have p483 : 0 ≤ (x5_1 : Int) := oa
          have q483 : x5_1 < (l0.length : Int) := oa
          obtain ⟨ad483, e483, hx483_0, hx483_1, hx483_2, hx483_3, hx483_4⟩ := at_T95 HR0.out x5_1 p483 q483
          cases e483
          replace p483 := eq_true p483
          replace q483 := eq_true q483
          have p484 : 0 ≤ (x5_1 : Int) := oa
          have q484 : x5_1 < (l0.length : Int) := oa
          obtain ⟨ad484, e484, hx484_0, hx484_1, hx484_2, hx484_3, hx484_4⟩ := at_T95 HR0.out x5_1 p484 q484
          obtain rfl : ad483 = ad484 := (by injection e484)
          replace p484 := eq_true p484
          replace q484 := eq_true q484
          have p485 : 0 ≤ (x5_1 : Int) := oa
          have q485 : x5_1 < (l0.length : Int) := oa
          obtain ⟨ad485, e485, hx485_0, hx485_1, hx485_2, hx485_3, hx485_4⟩ := at_T95 HR0.out x5_1 p485 q485
          obtain rfl : ad483 = ad485 := (by injection e485)
          replace p485 := eq_true p485
          replace q485 := eq_true q485
          have p486 : 0 ≤ (x5_1 : Int) := oa
          have q486 : x5_1 < (l0.length : Int) := oa
          obtain ⟨ad486, e486, hx486_0, hx486_1, hx486_2, hx486_3, hx486_4⟩ := at_T95 HR0.out x5_1 p486 q486
          obtain rfl : ad483 = ad486 := (by injection e486)
          replace p486 := eq_true p486
          replace q486 := eq_true q486
          have p487 : 0 ≤ (x5_1 : Int) := oa
          have q487 : x5_1 < (l0.length : Int) := oa
          obtain ⟨ad487, e487, hx487_0, hx487_1, hx487_2, hx487_3, hx487_4⟩ := at_T95 HR0.out x5_1 p487 q487
          obtain rfl : ad483 = ad487 := (by injection e487)
          replace p487 := eq_true p487
          replace q487 := eq_true q487
          go_wp2
          go_ret
          exact ⟨e2_, by repeat (first | exact Drawn0.refl _ | apply Drawn0.step)⟩
        ·rw [if_neg c8] at H
         have c8b0 : (((rd_T95 l0 x5_1).f3) == (wrap64 ((wrap64 ((wrap64 (x1_1 + 1)) + 1)) + 1))) = false := beq_eq_false_iff_ne.mpr c8
         have c8b1 : (((rd_T95 l0 x5_1).f3) != (wrap64 ((wrap64 ((wrap64 (x1_1 + 1)) + 1)) + 1))) = true := bne_iff_ne.mpr c8
         obtain rfl := Option.some.inj H
         have p483 : 0 ≤ (x5_1 : Int) := oa
         have q483 : x5_1 < (l0.length : Int) := oa
         obtain ⟨ad483, e483, hx483_0, hx483_1, hx483_2, hx483_3, hx483_4⟩ := at_T95 HR0.out x5_1 p483 q483
         cases e483
         replace p483 := eq_true p483
         replace q483 := eq_true q483
         have p484 : 0 ≤ (x5_1 : Int) := oa
         have q484 : x5_1 < (l0.length : Int) := oa
         obtain ⟨ad484, e484, hx484_0, hx484_1, hx484_2, hx484_3, hx484_4⟩ := at_T95 HR0.out x5_1 p484 q484
         obtain rfl : ad483 = ad484 := (by injection e484)
         replace p484 := eq_true p484
         replace q484 := eq_true q484
         have p485 : 0 ≤ (x5_1 : Int) := oa
         have q485 : x5_1 < (l0.length : Int) := oa
         obtain ⟨ad485, e485, hx485_0, hx485_1, hx485_2, hx485_3, hx485_4⟩ := at_T95 HR0.out x5_1 p485 q485
         obtain rfl : ad483 = ad485 := (by injection e485)
         replace p485 := eq_true p485
         replace q485 := eq_true q485
         have p486 : 0 ≤ (x5_1 : Int) := oa
         have q486 : x5_1 < (l0.length : Int) := oa
         obtain ⟨ad486, e486, hx486_0, hx486_1, hx486_2, hx486_3, hx486_4⟩ := at_T95 HR0.out x5_1 p486 q486
         obtain rfl : ad483 = ad486 := (by injection e486)
         replace p486 := eq_true p486
         replace q486 := eq_true q486
         go_wp2
         go_ret
         exact ⟨e2_, by repeat (first | exact Drawn0.refl _ | apply Drawn0.step)⟩
       ·rw [if_neg c7] at H
        have c7b0 : (((rd_T95 l0 x5_1).f2) == (wrap64 ((wrap64 (x1_1 + 1)) + 1))) = false := beq_eq_false_iff_ne.mpr c7
        have c7b1 : (((rd_T95 l0 x5_1).f2) != (wrap64 ((wrap64 (x1_1 + 1)) + 1))) = true := bne_iff_ne.mpr c7
        obtain rfl := Option.some.inj H
        have p483 : 0 ≤ (x5_1 : Int) := oa
        have q483 : x5_1 < (l0.length : Int) := oa
        obtain ⟨ad483, e483, hx483_0, hx483_1, hx483_2, hx483_3, hx483_4⟩ := at_T95 HR0.out x5_1 p483 q483
        cases e483
        replace p483 := eq_true p483
        replace q483 := eq_true q483
        have p484 : 0 ≤ (x5_1 : Int) := oa
        have q484 : x5_1 < (l0.length : Int) := oa
        obtain ⟨ad484, e484, hx484_0, hx484_1, hx484_2, hx484_3, hx484_4⟩ := at_T95 HR0.out x5_1 p484 q484
        obtain rfl : ad483 = ad484 := (by injection e484)
        replace p484 := eq_true p484
        replace q484 := eq_true q484
        have p485 : 0 ≤ (x5_1 : Int) := oa
        have q485 : x5_1 < (l0.length : Int) := oa
        obtain ⟨ad485, e485, hx485_0, hx485_1, hx485_2, hx485_3, hx485_4⟩ := at_T95 HR0.out x5_1 p485 q485
        obtain rfl : ad483 = ad485 := (by injection e485)
        replace p485 := eq_true p485
        replace q485 := eq_true q485
        go_wp2
        go_ret
        exact ⟨e2_, by repeat (first | exact Drawn0.refl _ | apply Drawn0.step)⟩
      ·rw [if_neg c6] at H
       have c6b0 : (((rd_T95 l0 x5_1).f1) == (wrap64 (x1_1 + 1))) = false := beq_eq_false_iff_ne.mpr c6
       have c6b1 : (((rd_T95 l0 x5_1).f1) != (wrap64 (x1_1 + 1))) = true := bne_iff_ne.mpr c6
       obtain rfl := Option.some.inj H
       have p483 : 0 ≤ (x5_1 : Int) := oa
       have q483 : x5_1 < (l0.length : Int) := oa
       obtain ⟨ad483, e483, hx483_0, hx483_1, hx483_2, hx483_3, hx483_4⟩ := at_T95 HR0.out x5_1 p483 q483
       cases e483
       replace p483 := eq_true p483
       replace q483 := eq_true q483
       have p484 : 0 ≤ (x5_1 : Int) := oa
       have q484 : x5_1 < (l0.length : Int) := oa
       obtain ⟨ad484, e484, hx484_0, hx484_1, hx484_2, hx484_3, hx484_4⟩ := at_T95 HR0.out x5_1 p484 q484
       obtain rfl : ad483 = ad484 := (by injection e484)
       replace p484 := eq_true p484
       replace q484 := eq_true q484
       go_wp2
       go_ret
       exact ⟨e2_, by repeat (first | exact Drawn0.refl _ | apply Drawn0.step)⟩
     ·rw [if_neg c5] at H
      have c5b0 : (((rd_T95 l0 x5_1).f0) == x1_1) = false := beq_eq_false_iff_ne.mpr c5
      have c5b1 : (((rd_T95 l0 x5_1).f0) != x1_1) = true := bne_iff_ne.mpr c5
      obtain rfl := Option.some.inj H
      have p483 : 0 ≤ (x5_1 : Int) := oa
      have q483 : x5_1 < (l0.length : Int) := oa
      obtain ⟨ad483, e483, hx483_0, hx483_1, hx483_2, hx483_3, hx483_4⟩ := at_T95 HR0.out x5_1 p483 q483
      cases e483
      replace p483 := eq_true p483
      replace q483 := eq_true q483
      go_wp2
      go_ret
      exact ⟨e2_, by repeat (first | exact Drawn0.refl _ | apply Drawn0.step)⟩
    ·rw [if_neg c4] at H
     exact absurd H (by simp)
   ·rw [if_neg c3] at H
    have c3b0 : decide (x5_1 < (l0.length : Int)) = false := decide_eq_false c3
    clear c3
    obtain rfl := Option.some.inj H
    go_wp2
    go_ret
    exact ⟨e2_, by repeat (first | exact Drawn0.refl _ | apply Drawn0.step)⟩
def laws_heldBook.f (k : Nat) (l0_0 : List (S139)) (a0_1 : Int) (a0_2 : Int) (a0_3 : Int) (l0_4 : List Int) (a0_5 : Bool) (l0_6 : List (S95)) (l0_7 : List Int) (l0_8 : List Int) (a1 : Int) : Option (Int) := (laws_heldTeamS.f k l0_0 a1).bind fun t489 => (if t489 < 0 then (some (-1)) else ((laws_heldRules.f k a0_1 a0_2 a0_3 l0_4 a0_5 t489).bind fun t490 => (if t490 < 0 then (some (-1)) else ((laws_heldGameS.f k l0_6 t490).bind fun t491 => (if t491 < 0 then (some (-1)) else ((laws_heldIntS.f k l0_7 t491).bind fun t492 => (if t492 < 0 then (some (-1)) else ((laws_heldIntS.f k l0_8 t492).bind fun t493 => (if t493 < 0 then (some (-1)) else (some t493))))))))))
theorem laws_heldBook.calls (k : Nat) (A0_0 : Option Addr) (c0_0 : Nat) (l0_0 : List (S139)) (a0_1 : Int) (a0_2 : Int) (a0_3 : Int) (A0_4 : Option Addr) (c0_4 : Nat) (l0_4 : List Int) (a0_5 : Bool) (A0_6 : Option Addr) (c0_6 : Nat) (l0_6 : List (S95)) (A0_7 : Option Addr) (c0_7 : Nat) (l0_7 : List Int) (A0_8 : Option Addr) (c0_8 : Nat) (l0_8 : List Int) (a1 : Int) (r : Int) (w : World) (hr0_0 : Kd.C k139 w A0_0 l0_0.length l0_0) (hc0_0 : l0_0.length ≤ c0_0) (hr0_4 : Kd.C (Kd.int .i64) w A0_4 l0_4.length l0_4) (hc0_4 : l0_4.length ≤ c0_4) (hr0_6 : Kd.C k95 w A0_6 l0_6.length l0_6) (hc0_6 : l0_6.length ≤ c0_6) (hr0_7 : Kd.C (Kd.int .i64) w A0_7 l0_7.length l0_7) (hc0_7 : l0_7.length ≤ c0_7) (hr0_8 : Kd.C (Kd.int .i64) w A0_8 l0_8.length l0_8) (hc0_8 : l0_8.length ≤ c0_8) (h : laws_heldBook.f k l0_0 a0_1 a0_2 a0_3 l0_4 a0_5 l0_6 l0_7 l0_8 a1 = some r) :
  Calls Try.prog 20 #[.agg #[.slice A0_0 l0_0.length c0_0, .int .i64 a0_1, .int .i64 a0_2, .int .i64 a0_3, .slice A0_4 l0_4.length c0_4, .bool a0_5, .slice A0_6 l0_6.length c0_6, .slice A0_7 l0_7.length c0_7, .slice A0_8 l0_8.length c0_8], .int .i64 a1] w fun e w' => e = .returned (.int .i64 r) ∧ Below w.heap.size w w' := by
 have hu36 := Try.underlying36
 have hu33 := Try.underlying33
 have HR0_0 := dk hr0_0
 have HC0_0 := dk hc0_0
 clear hr0_0 hc0_0
 have HR0_4 := dk hr0_4
 have HC0_4 := dk hc0_4
 clear hr0_4 hc0_4
 have HR0_6 := dk hr0_6
 have HC0_6 := dk hc0_6
 clear hr0_6 hc0_6
 have HR0_7 := dk hr0_7
 have HC0_7 := dk hc0_7
 clear hr0_7 hc0_7
 have HR0_8 := dk hr0_8
 have HC0_8 := dk hc0_8
 clear hr0_8 hc0_8
 have HB := dk (Below.refl w.heap.size w)
 have H : ((laws_heldTeamS.f k l0_0 a1).bind fun t489 => (if t489 < 0 then (some (-1)) else ((laws_heldRules.f k a0_1 a0_2 a0_3 l0_4 a0_5 t489).bind fun t490 => (if t490 < 0 then (some (-1)) else ((laws_heldGameS.f k l0_6 t490).bind fun t491 => (if t491 < 0 then (some (-1)) else ((laws_heldIntS.f k l0_7 t491).bind fun t492 => (if t492 < 0 then (some (-1)) else ((laws_heldIntS.f k l0_8 t492).bind fun t493 => (if t493 < 0 then (some (-1)) else (some t493))))))))))) = some r := h
 clear h
 replace H := Option.bind_eq_some_iff.mp H
 obtain ⟨t489, A30, H⟩ := H
 try dsimp only at H
 have A3 := dk A30
 clear A30
 by_cases c4 : t489 < 0
 ·rw [if_pos c4] at H
  have c4b0 : decide (t489 < 0) = true := decide_eq_true c4
  clear c4
  obtain rfl := Option.some.inj H
  go_enter Try.func20, Try.ntmps20
  go_wp2_with (first | ((with_reducible refine gate_dst (N := 2) rfl ?_); refine bx (N := 2) (cs := #[.slice A0_0 l0_0.length c0_0, .int .i64 a0_1, .int .i64 a0_2, .int .i64 a0_3, .slice A0_4 l0_4.length c0_4, .bool a0_5, .slice A0_6 l0_6.length c0_6, .slice A0_7 l0_7.length c0_7, .slice A0_8 l0_8.length c0_8]) (t := 36) ?_; intro gb488 hg w5 hbox hb; have BK488 := dk (hbox); have GW488 := gs hg HB; have GE488 := gs hg HB; replace HB := hs_ HB hb; clear hb hbox hg; have ⟨z6_0, z6_1, z6_2, z6_3, z6_4, z6_5, z6_6, z6_7, z6_8, v6_0, v6_1, v6_2, v6_3, v6_4, v6_5, v6_6, v6_7, v6_8⟩ := rz9 BK488) | ((with_reducible refine gate_callee (f := 71) rfl ?_); refine gl (some 8) Try.func71 #[.slice A0_0 l0_0.length c0_0, .int .i64 a1] ?_; (with_reducible refine (laws_heldTeamS.calls k _ _ l0_0 a1 t489 _ ?side1 ?side2 A3.out).mono ?_); (case side1 => exact cc HR0_0 HB); (case side2 => exact HC0_0.out); rintro e w7 ⟨rfl, hb⟩; refine ⟨_, rfl, ?_⟩; replace BK488 := kb BK488 hb; replace HB := hs_ HB hb; (try clear hb hb2 hk hi)))
  go_ret
  exact ⟨ee, bb HB⟩
 ·rw [if_neg c4] at H
  have c4b0 : decide (t489 < 0) = false := decide_eq_false c4
  clear c4
  replace H := Option.bind_eq_some_iff.mp H
  obtain ⟨t490, A80, H⟩ := H
  try dsimp only at H
  have A8 := dk A80
  clear A80
  by_cases c9 : t490 < 0
  ·rw [if_pos c9] at H
   have c9b0 : decide (t490 < 0) = true := decide_eq_true c9
   clear c9
   obtain rfl := Option.some.inj H
   go_enter Try.func20, Try.ntmps20
   go_wp2_with (first | ((with_reducible refine gate_dst (N := 2) rfl ?_); refine bx (N := 2) (cs := #[.slice A0_0 l0_0.length c0_0, .int .i64 a0_1, .int .i64 a0_2, .int .i64 a0_3, .slice A0_4 l0_4.length c0_4, .bool a0_5, .slice A0_6 l0_6.length c0_6, .slice A0_7 l0_7.length c0_7, .slice A0_8 l0_8.length c0_8]) (t := 36) ?_; intro gb488 hg w10 hbox hb; have BK488 := dk (hbox); have GW488 := gs hg HB; have GE488 := gs hg HB; replace HB := hs_ HB hb; clear hb hbox hg; have ⟨z11_0, z11_1, z11_2, z11_3, z11_4, z11_5, z11_6, z11_7, z11_8, v11_0, v11_1, v11_2, v11_3, v11_4, v11_5, v11_6, v11_7, v11_8⟩ := rz9 BK488) | ((with_reducible refine gate_callee (f := 71) rfl ?_); refine gl (some 8) Try.func71 #[.slice A0_0 l0_0.length c0_0, .int .i64 a1] ?_; (with_reducible refine (laws_heldTeamS.calls k _ _ l0_0 a1 t489 _ ?side1 ?side2 A3.out).mono ?_); (case side1 => exact cc HR0_0 HB); (case side2 => exact HC0_0.out); rintro e w12 ⟨rfl, hb⟩; refine ⟨_, rfl, ?_⟩; replace BK488 := kb BK488 hb; replace HB := hs_ HB hb; (try clear hb hb2 hk hi); have ⟨z13_0, z13_1, z13_2, z13_3, z13_4, z13_5, z13_6, z13_7, z13_8, v13_0, v13_1, v13_2, v13_3, v13_4, v13_5, v13_6, v13_7, v13_8⟩ := rz9 BK488) | ((with_reducible refine gate_callee (f := 72) rfl ?_); refine gl (some 14) Try.func72 #[.agg #[.int .i64 a0_1, .int .i64 a0_2, .int .i64 a0_3, .slice A0_4 l0_4.length c0_4, .bool a0_5], .int .i64 t489] ?_; (with_reducible refine (laws_heldRules.calls k a0_1 a0_2 a0_3 _ _ l0_4 a0_5 t489 t490 _ ?side1 ?side2 A8.out).mono ?_); (case side1 => exact cc HR0_4 HB); (case side2 => exact HC0_4.out); rintro e w14 ⟨rfl, hb⟩; refine ⟨_, rfl, ?_⟩; replace BK488 := kb BK488 hb; replace HB := hs_ HB hb; (try clear hb hb2 hk hi)))
   go_ret
   exact ⟨ee, bb HB⟩
  ·rw [if_neg c9] at H
   have c9b0 : decide (t490 < 0) = false := decide_eq_false c9
   clear c9
   replace H := Option.bind_eq_some_iff.mp H
   obtain ⟨t491, A150, H⟩ := H
   try dsimp only at H
   have A15 := dk A150
   clear A150
   by_cases c16 : t491 < 0
   ·rw [if_pos c16] at H
    have c16b0 : decide (t491 < 0) = true := decide_eq_true c16
    clear c16
    obtain rfl := Option.some.inj H
    go_enter Try.func20, Try.ntmps20
    go_wp2_with (first | ((with_reducible refine gate_dst (N := 2) rfl ?_); refine bx (N := 2) (cs := #[.slice A0_0 l0_0.length c0_0, .int .i64 a0_1, .int .i64 a0_2, .int .i64 a0_3, .slice A0_4 l0_4.length c0_4, .bool a0_5, .slice A0_6 l0_6.length c0_6, .slice A0_7 l0_7.length c0_7, .slice A0_8 l0_8.length c0_8]) (t := 36) ?_; intro gb488 hg w17 hbox hb; have BK488 := dk (hbox); have GW488 := gs hg HB; have GE488 := gs hg HB; replace HB := hs_ HB hb; clear hb hbox hg; have ⟨z18_0, z18_1, z18_2, z18_3, z18_4, z18_5, z18_6, z18_7, z18_8, v18_0, v18_1, v18_2, v18_3, v18_4, v18_5, v18_6, v18_7, v18_8⟩ := rz9 BK488) | ((with_reducible refine gate_callee (f := 71) rfl ?_); refine gl (some 8) Try.func71 #[.slice A0_0 l0_0.length c0_0, .int .i64 a1] ?_; (with_reducible refine (laws_heldTeamS.calls k _ _ l0_0 a1 t489 _ ?side1 ?side2 A3.out).mono ?_); (case side1 => exact cc HR0_0 HB); (case side2 => exact HC0_0.out); rintro e w19 ⟨rfl, hb⟩; refine ⟨_, rfl, ?_⟩; replace BK488 := kb BK488 hb; replace HB := hs_ HB hb; (try clear hb hb2 hk hi); have ⟨z20_0, z20_1, z20_2, z20_3, z20_4, z20_5, z20_6, z20_7, z20_8, v20_0, v20_1, v20_2, v20_3, v20_4, v20_5, v20_6, v20_7, v20_8⟩ := rz9 BK488) | ((with_reducible refine gate_callee (f := 72) rfl ?_); refine gl (some 14) Try.func72 #[.agg #[.int .i64 a0_1, .int .i64 a0_2, .int .i64 a0_3, .slice A0_4 l0_4.length c0_4, .bool a0_5], .int .i64 t489] ?_; (with_reducible refine (laws_heldRules.calls k a0_1 a0_2 a0_3 _ _ l0_4 a0_5 t489 t490 _ ?side1 ?side2 A8.out).mono ?_); (case side1 => exact cc HR0_4 HB); (case side2 => exact HC0_4.out); rintro e w21 ⟨rfl, hb⟩; refine ⟨_, rfl, ?_⟩; replace BK488 := kb BK488 hb; replace HB := hs_ HB hb; (try clear hb hb2 hk hi); have ⟨z22_0, z22_1, z22_2, z22_3, z22_4, z22_5, z22_6, z22_7, z22_8, v22_0, v22_1, v22_2, v22_3, v22_4, v22_5, v22_6, v22_7, v22_8⟩ := rz9 BK488) | ((with_reducible refine gate_callee (f := 73) rfl ?_); refine gl (some 20) Try.func73 #[.slice A0_6 l0_6.length c0_6, .int .i64 t490] ?_; (with_reducible refine (laws_heldGameS.calls k _ _ l0_6 t490 t491 _ ?side1 ?side2 A15.out).mono ?_); (case side1 => exact cc HR0_6 HB); (case side2 => exact HC0_6.out); rintro e w' ⟨rfl, ⟨nd, rfl⟩⟩; refine ⟨_, rfl, ?_⟩))
    go_ret
    exact ⟨ee, bb HB⟩
   ·rw [if_neg c16] at H
    have c16b0 : decide (t491 < 0) = false := decide_eq_false c16
    clear c16
    replace H := Option.bind_eq_some_iff.mp H
    obtain ⟨t492, A230, H⟩ := H
    try dsimp only at H
    have A23 := dk A230
    clear A230
    by_cases c24 : t492 < 0
    ·rw [if_pos c24] at H
     have c24b0 : decide (t492 < 0) = true := decide_eq_true c24
     clear c24
     obtain rfl := Option.some.inj H
     go_enter Try.func20, Try.ntmps20
     go_wp2_with (first | ((with_reducible refine gate_dst (N := 2) rfl ?_); refine bx (N := 2) (cs := #[.slice A0_0 l0_0.length c0_0, .int .i64 a0_1, .int .i64 a0_2, .int .i64 a0_3, .slice A0_4 l0_4.length c0_4, .bool a0_5, .slice A0_6 l0_6.length c0_6, .slice A0_7 l0_7.length c0_7, .slice A0_8 l0_8.length c0_8]) (t := 36) ?_; intro gb488 hg w25 hbox hb; have BK488 := dk (hbox); have GW488 := gs hg HB; have GE488 := gs hg HB; replace HB := hs_ HB hb; clear hb hbox hg; have ⟨z26_0, z26_1, z26_2, z26_3, z26_4, z26_5, z26_6, z26_7, z26_8, v26_0, v26_1, v26_2, v26_3, v26_4, v26_5, v26_6, v26_7, v26_8⟩ := rz9 BK488) | ((with_reducible refine gate_callee (f := 71) rfl ?_); refine gl (some 8) Try.func71 #[.slice A0_0 l0_0.length c0_0, .int .i64 a1] ?_; (with_reducible refine (laws_heldTeamS.calls k _ _ l0_0 a1 t489 _ ?side1 ?side2 A3.out).mono ?_); (case side1 => exact cc HR0_0 HB); (case side2 => exact HC0_0.out); rintro e w27 ⟨rfl, hb⟩; refine ⟨_, rfl, ?_⟩; replace BK488 := kb BK488 hb; replace HB := hs_ HB hb; (try clear hb hb2 hk hi); have ⟨z28_0, z28_1, z28_2, z28_3, z28_4, z28_5, z28_6, z28_7, z28_8, v28_0, v28_1, v28_2, v28_3, v28_4, v28_5, v28_6, v28_7, v28_8⟩ := rz9 BK488) | ((with_reducible refine gate_callee (f := 72) rfl ?_); refine gl (some 14) Try.func72 #[.agg #[.int .i64 a0_1, .int .i64 a0_2, .int .i64 a0_3, .slice A0_4 l0_4.length c0_4, .bool a0_5], .int .i64 t489] ?_; (with_reducible refine (laws_heldRules.calls k a0_1 a0_2 a0_3 _ _ l0_4 a0_5 t489 t490 _ ?side1 ?side2 A8.out).mono ?_); (case side1 => exact cc HR0_4 HB); (case side2 => exact HC0_4.out); rintro e w29 ⟨rfl, hb⟩; refine ⟨_, rfl, ?_⟩; replace BK488 := kb BK488 hb; replace HB := hs_ HB hb; (try clear hb hb2 hk hi); have ⟨z30_0, z30_1, z30_2, z30_3, z30_4, z30_5, z30_6, z30_7, z30_8, v30_0, v30_1, v30_2, v30_3, v30_4, v30_5, v30_6, v30_7, v30_8⟩ := rz9 BK488) | ((with_reducible refine gate_callee (f := 73) rfl ?_); refine gl (some 20) Try.func73 #[.slice A0_6 l0_6.length c0_6, .int .i64 t490] ?_; (with_reducible refine (laws_heldGameS.calls k _ _ l0_6 t490 t491 _ ?side1 ?side2 A15.out).mono ?_); (case side1 => exact cc HR0_6 HB); (case side2 => exact HC0_6.out); rintro e w' ⟨rfl, ⟨nd, rfl⟩⟩; refine ⟨_, rfl, ?_⟩) | ((with_reducible refine gate_callee (f := 30) rfl ?_); refine gl (some 26) Try.func30 #[.slice A0_7 l0_7.length c0_7, .int .i64 t491] ?_; (with_reducible refine (laws_heldIntS.calls k _ _ l0_7 t491 t492 _ ?side1 ?side2 A23.out).mono ?_); (case side1 => repeat (first | exact (Kd.C_below HR0_7.out (bb HB)) | (with_reducible refine Kd.C_alloc ?_ _) | (with_reducible refine Kd.C_drewN ?_ _) | (with_reducible refine Kd.C_drew ?_))); (case side2 => exact HC0_7.out); rintro e w' ⟨rfl, ⟨nd, rfl⟩⟩; refine ⟨_, rfl, ?_⟩))
     go_ret
     exact ⟨ee, bb HB⟩
    ·rw [if_neg c24] at H
     have c24b0 : decide (t492 < 0) = false := decide_eq_false c24
     clear c24
     replace H := Option.bind_eq_some_iff.mp H
     obtain ⟨t493, A310, H⟩ := H
     try dsimp only at H
     have A31 := dk A310
     clear A310
     by_cases c32 : t493 < 0
     ·rw [if_pos c32] at H
      have c32b0 : decide (t493 < 0) = true := decide_eq_true c32
      clear c32
      obtain rfl := Option.some.inj H
      go_enter Try.func20, Try.ntmps20
      go_wp2_with (first | ((with_reducible refine gate_dst (N := 2) rfl ?_); refine bx (N := 2) (cs := #[.slice A0_0 l0_0.length c0_0, .int .i64 a0_1, .int .i64 a0_2, .int .i64 a0_3, .slice A0_4 l0_4.length c0_4, .bool a0_5, .slice A0_6 l0_6.length c0_6, .slice A0_7 l0_7.length c0_7, .slice A0_8 l0_8.length c0_8]) (t := 36) ?_; intro gb488 hg w33 hbox hb; have BK488 := dk (hbox); have GW488 := gs hg HB; have GE488 := gs hg HB; replace HB := hs_ HB hb; clear hb hbox hg; have ⟨z34_0, z34_1, z34_2, z34_3, z34_4, z34_5, z34_6, z34_7, z34_8, v34_0, v34_1, v34_2, v34_3, v34_4, v34_5, v34_6, v34_7, v34_8⟩ := rz9 BK488) | ((with_reducible refine gate_callee (f := 71) rfl ?_); refine gl (some 8) Try.func71 #[.slice A0_0 l0_0.length c0_0, .int .i64 a1] ?_; (with_reducible refine (laws_heldTeamS.calls k _ _ l0_0 a1 t489 _ ?side1 ?side2 A3.out).mono ?_); (case side1 => exact cc HR0_0 HB); (case side2 => exact HC0_0.out); rintro e w35 ⟨rfl, hb⟩; refine ⟨_, rfl, ?_⟩; replace BK488 := kb BK488 hb; replace HB := hs_ HB hb; (try clear hb hb2 hk hi); have ⟨z36_0, z36_1, z36_2, z36_3, z36_4, z36_5, z36_6, z36_7, z36_8, v36_0, v36_1, v36_2, v36_3, v36_4, v36_5, v36_6, v36_7, v36_8⟩ := rz9 BK488) | ((with_reducible refine gate_callee (f := 72) rfl ?_); refine gl (some 14) Try.func72 #[.agg #[.int .i64 a0_1, .int .i64 a0_2, .int .i64 a0_3, .slice A0_4 l0_4.length c0_4, .bool a0_5], .int .i64 t489] ?_; (with_reducible refine (laws_heldRules.calls k a0_1 a0_2 a0_3 _ _ l0_4 a0_5 t489 t490 _ ?side1 ?side2 A8.out).mono ?_); (case side1 => exact cc HR0_4 HB); (case side2 => exact HC0_4.out); rintro e w37 ⟨rfl, hb⟩; refine ⟨_, rfl, ?_⟩; replace BK488 := kb BK488 hb; replace HB := hs_ HB hb; (try clear hb hb2 hk hi); have ⟨z38_0, z38_1, z38_2, z38_3, z38_4, z38_5, z38_6, z38_7, z38_8, v38_0, v38_1, v38_2, v38_3, v38_4, v38_5, v38_6, v38_7, v38_8⟩ := rz9 BK488) | ((with_reducible refine gate_callee (f := 73) rfl ?_); refine gl (some 20) Try.func73 #[.slice A0_6 l0_6.length c0_6, .int .i64 t490] ?_; (with_reducible refine (laws_heldGameS.calls k _ _ l0_6 t490 t491 _ ?side1 ?side2 A15.out).mono ?_); (case side1 => exact cc HR0_6 HB); (case side2 => exact HC0_6.out); rintro e w' ⟨rfl, ⟨nd, rfl⟩⟩; refine ⟨_, rfl, ?_⟩) | ((with_reducible refine gate_callee (f := 30) rfl ?_); refine gl (some 26) Try.func30 #[.slice A0_7 l0_7.length c0_7, .int .i64 t491] ?_; (with_reducible refine (laws_heldIntS.calls k _ _ l0_7 t491 t492 _ ?side1 ?side2 A23.out).mono ?_); (case side1 => repeat (first | exact (Kd.C_below HR0_7.out (bb HB)) | (with_reducible refine Kd.C_alloc ?_ _) | (with_reducible refine Kd.C_drewN ?_ _) | (with_reducible refine Kd.C_drew ?_))); (case side2 => exact HC0_7.out); rintro e w' ⟨rfl, ⟨nd, rfl⟩⟩; refine ⟨_, rfl, ?_⟩) | ((with_reducible refine gate_callee (f := 30) rfl ?_); refine gl (some 32) Try.func30 #[.slice A0_8 l0_8.length c0_8, .int .i64 t492] ?_; (with_reducible refine (laws_heldIntS.calls k _ _ l0_8 t492 t493 _ ?side1 ?side2 A31.out).mono ?_); (case side1 => repeat (first | exact (Kd.C_below HR0_8.out (bb HB)) | (with_reducible refine Kd.C_alloc ?_ _) | (with_reducible refine Kd.C_drewN ?_ _) | (with_reducible refine Kd.C_drew ?_))); (case side2 => exact HC0_8.out); rintro e w' ⟨rfl, ⟨nd, rfl⟩⟩; refine ⟨_, rfl, ?_⟩))
      go_ret
      exact ⟨ee, bb HB⟩
     ·rw [if_neg c32] at H
      have c32b0 : decide (t493 < 0) = false := decide_eq_false c32
      clear c32
      obtain rfl := Option.some.inj H
      go_enter Try.func20, Try.ntmps20
      go_wp2_with (first | ((with_reducible refine gate_dst (N := 2) rfl ?_); refine bx (N := 2) (cs := #[.slice A0_0 l0_0.length c0_0, .int .i64 a0_1, .int .i64 a0_2, .int .i64 a0_3, .slice A0_4 l0_4.length c0_4, .bool a0_5, .slice A0_6 l0_6.length c0_6, .slice A0_7 l0_7.length c0_7, .slice A0_8 l0_8.length c0_8]) (t := 36) ?_; intro gb488 hg w39 hbox hb; have BK488 := dk (hbox); have GW488 := gs hg HB; have GE488 := gs hg HB; replace HB := hs_ HB hb; clear hb hbox hg; have ⟨z40_0, z40_1, z40_2, z40_3, z40_4, z40_5, z40_6, z40_7, z40_8, v40_0, v40_1, v40_2, v40_3, v40_4, v40_5, v40_6, v40_7, v40_8⟩ := rz9 BK488) | ((with_reducible refine gate_callee (f := 71) rfl ?_); refine gl (some 8) Try.func71 #[.slice A0_0 l0_0.length c0_0, .int .i64 a1] ?_; (with_reducible refine (laws_heldTeamS.calls k _ _ l0_0 a1 t489 _ ?side1 ?side2 A3.out).mono ?_); (case side1 => exact cc HR0_0 HB); (case side2 => exact HC0_0.out); rintro e w41 ⟨rfl, hb⟩; refine ⟨_, rfl, ?_⟩; replace BK488 := kb BK488 hb; replace HB := hs_ HB hb; (try clear hb hb2 hk hi); have ⟨z42_0, z42_1, z42_2, z42_3, z42_4, z42_5, z42_6, z42_7, z42_8, v42_0, v42_1, v42_2, v42_3, v42_4, v42_5, v42_6, v42_7, v42_8⟩ := rz9 BK488) | ((with_reducible refine gate_callee (f := 72) rfl ?_); refine gl (some 14) Try.func72 #[.agg #[.int .i64 a0_1, .int .i64 a0_2, .int .i64 a0_3, .slice A0_4 l0_4.length c0_4, .bool a0_5], .int .i64 t489] ?_; (with_reducible refine (laws_heldRules.calls k a0_1 a0_2 a0_3 _ _ l0_4 a0_5 t489 t490 _ ?side1 ?side2 A8.out).mono ?_); (case side1 => exact cc HR0_4 HB); (case side2 => exact HC0_4.out); rintro e w43 ⟨rfl, hb⟩; refine ⟨_, rfl, ?_⟩; replace BK488 := kb BK488 hb; replace HB := hs_ HB hb; (try clear hb hb2 hk hi); have ⟨z44_0, z44_1, z44_2, z44_3, z44_4, z44_5, z44_6, z44_7, z44_8, v44_0, v44_1, v44_2, v44_3, v44_4, v44_5, v44_6, v44_7, v44_8⟩ := rz9 BK488) | ((with_reducible refine gate_callee (f := 73) rfl ?_); refine gl (some 20) Try.func73 #[.slice A0_6 l0_6.length c0_6, .int .i64 t490] ?_; (with_reducible refine (laws_heldGameS.calls k _ _ l0_6 t490 t491 _ ?side1 ?side2 A15.out).mono ?_); (case side1 => exact cc HR0_6 HB); (case side2 => exact HC0_6.out); rintro e w' ⟨rfl, ⟨nd, rfl⟩⟩; refine ⟨_, rfl, ?_⟩) | ((with_reducible refine gate_callee (f := 30) rfl ?_); refine gl (some 26) Try.func30 #[.slice A0_7 l0_7.length c0_7, .int .i64 t491] ?_; (with_reducible refine (laws_heldIntS.calls k _ _ l0_7 t491 t492 _ ?side1 ?side2 A23.out).mono ?_); (case side1 => repeat (first | exact (Kd.C_below HR0_7.out (bb HB)) | (with_reducible refine Kd.C_alloc ?_ _) | (with_reducible refine Kd.C_drewN ?_ _) | (with_reducible refine Kd.C_drew ?_))); (case side2 => exact HC0_7.out); rintro e w' ⟨rfl, ⟨nd, rfl⟩⟩; refine ⟨_, rfl, ?_⟩) | ((with_reducible refine gate_callee (f := 30) rfl ?_); refine gl (some 32) Try.func30 #[.slice A0_8 l0_8.length c0_8, .int .i64 t492] ?_; (with_reducible refine (laws_heldIntS.calls k _ _ l0_8 t492 t493 _ ?side1 ?side2 A31.out).mono ?_); (case side1 => repeat (first | exact (Kd.C_below HR0_8.out (bb HB)) | (with_reducible refine Kd.C_alloc ?_ _) | (with_reducible refine Kd.C_drewN ?_ _) | (with_reducible refine Kd.C_drew ?_))); (case side2 => exact HC0_8.out); rintro e w' ⟨rfl, ⟨nd, rfl⟩⟩; refine ⟨_, rfl, ?_⟩))
      go_ret
      exact ⟨ee, bb HB⟩
end Go.Proofs.Ythfefanapneocaa.Q
