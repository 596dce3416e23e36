/- A part of the proof of FnExactNewConsole: functions of the program, as plain functions, with the proof that the machine's call does what they say; plain lemmas; and those of the words that print.sh prints which this proof uses. No condition. -/
import Derived.Test.YtibmeomlokigjaaKFnExactNewConsole1
import Derived.Test.YtibmeomlokigjaaProg
import Derived.Below
import Derived.Deep.Draws
import Derived.Deep.AppendLies
import Derived.Maps.AppendAt
import Derived.OwnWalk
import Derived.Laws.BytesArg
import Derived.Laws.MakeOwn
import Derived.Laws.OwnMore
import Derived.Deep.OwnRows
import Derived.Tactics
import Derived.Lib.ConvBytes
import Derived.Laws.Slices
import Derived.WalkKit
import Derived.KernelRfl
import Derived.RowKit3
import Derived.Deep.LoopGhost
import Derived.Deep.QuietTactic
import Derived.BigQuiet
import Derived.WideLaws
import Derived.Deep.DeepCutAuto
import Derived.Deep.CutBlock
import Derived.Deep.RegionHeld3
import Derived.Laws.Rows
import Derived.Lib.AppendStr
import Derived.ArgAppend
import Derived.Laws.IdiomCopy
import Derived.OrdersHeld
import Derived.Laws.BitsLemmas
import Derived.RowKit
import Derived.WalkSpells
import Derived.Laws.StructEq
import Derived.Test.YtibmeomlokigjaaKFnExactNewConsole2
namespace Go.Proofs.Ytibmeomlokigjaa.Q
open Go.RowKit Go.Proofs.YtibmeomlokigjaaW.PrintWords Go.Proofs.YtibmeomlokigjaaW.PrintLast Go.Proofs.YtibmeomlokigjaaW.PrintMore
attribute [local go_sem] max2_int min2_int max_two min_two max_three min_three max_four min_four
set_option linter.unusedVariables false
set_option linter.unusedSimpArgs false
def laws_markBook.f (k : Nat) (l0_0 : List (S132)) (a0_1 : Int) (a0_2 : Int) (a0_3 : Int) (l0_4 : List Int) (a0_5 : Bool) (l0_6 : List (S47)) (l0_7 : List Int) (l0_8 : List Int) (a1 : Int) : Option (Int × (List (S132)) × List Int × (List (S47)) × List Int × List Int) := (laws_markTeamS.f k l0_0 a1).bind fun bt862 => ((laws_markRules.f k a0_1 a0_2 a0_3 l0_4 a0_5 bt862.1).bind fun bt864 => ((laws_markGameS.f k l0_6 bt864.1).bind fun bt866 => ((laws_markIntS.f k l0_7 bt866.1).bind fun bt868 => ((laws_markIntS.f k l0_8 bt868.1).bind fun bt870 => (some (bt870.1, bt862.2, bt864.2, bt866.2, bt868.2, bt870.2))))))
set_option maxHeartbeats 8000000 in
set_option maxRecDepth 100000 in
theorem laws_markBook.calls (k : Nat) (P0_0_ : Nat → Prop) (u9000_ : Value) (l0_0 : List (S132)) (a0_1 : Int) (a0_2 : Int) (a0_3 : Int) (P0_4_ : Nat → Prop) (u9001_ : Value) (l0_4 : List Int) (a0_5 : Bool) (P0_6_ : Nat → Prop) (u9002_ : Value) (l0_6 : List (S47)) (P0_7_ : Nat → Prop) (u9003_ : Value) (l0_7 : List Int) (P0_8_ : Nat → Prop) (u9004_ : Value) (l0_8 : List Int) (a1 : Int) (r1 : Int) (r2 : List (S132)) (r3 : List Int) (r4 : List (S47)) (r5 : List Int) (r6 : List Int) (w0 w : World) (hB : Below w0.heap.size w0 w) (ho0_0 : Kd.R k132 132 w w0.heap.size P0_0_ u9000_ l0_0) (ho0_4 : Kd.R (Kd.int .i64) 3 w w0.heap.size P0_4_ u9001_ l0_4) (hp0_4_0_7 : ∀ k_, P0_4_ k_ → ¬ P0_7_ k_) (hp0_4_0_8 : ∀ k_, P0_4_ k_ → ¬ P0_8_ k_) (ho0_6 : Kd.R k47 47 w w0.heap.size P0_6_ u9002_ l0_6) (ho0_7 : Kd.R (Kd.int .i64) 3 w w0.heap.size P0_7_ u9003_ l0_7) (hp0_7_0_4 : ∀ k_, P0_7_ k_ → ¬ P0_4_ k_) (hp0_7_0_8 : ∀ k_, P0_7_ k_ → ¬ P0_8_ k_) (ho0_8 : Kd.R (Kd.int .i64) 3 w w0.heap.size P0_8_ u9004_ l0_8) (hp0_8_0_4 : ∀ k_, P0_8_ k_ → ¬ P0_4_ k_) (hp0_8_0_7 : ∀ k_, P0_8_ k_ → ¬ P0_7_ k_) (h : laws_markBook.f k l0_0 a0_1 a0_2 a0_3 l0_4 a0_5 l0_6 l0_7 l0_8 a1 = some (r1, r2, r3, r4, r5, r6)) :
    Calls Try.prog 87 #[.agg #[u9000_, .int .i64 a0_1, .int .i64 a0_2, .int .i64 a0_3, u9001_, .bool a0_5, u9002_, u9003_, u9004_], .int .i64 a1] w fun e w' => e = .returned (.int .i64 r1) ∧ Kd.R k132 132 w' w0.heap.size (fun k_ => ((P0_0_ k_ ∨ P0_4_ k_ ∨ P0_6_ k_ ∨ P0_7_ k_ ∨ P0_8_ k_) ∨ w.heap.size ≤ k_)) u9000_ r2 ∧ Kd.R (Kd.int .i64) 3 w' w0.heap.size (fun k_ => ((P0_0_ k_ ∨ P0_4_ k_ ∨ P0_6_ k_ ∨ P0_7_ k_ ∨ P0_8_ k_) ∨ w.heap.size ≤ k_)) u9001_ r3 ∧ Kd.R k47 47 w' w0.heap.size (fun k_ => ((P0_0_ k_ ∨ P0_4_ k_ ∨ P0_6_ k_ ∨ P0_7_ k_ ∨ P0_8_ k_) ∨ w.heap.size ≤ k_)) u9002_ r4 ∧ Kd.R (Kd.int .i64) 3 w' w0.heap.size (fun k_ => ((P0_0_ k_ ∨ P0_4_ k_ ∨ P0_6_ k_ ∨ P0_7_ k_ ∨ P0_8_ k_) ∨ w.heap.size ≤ k_)) u9003_ r5 ∧ Kd.R (Kd.int .i64) 3 w' w0.heap.size (fun k_ => ((P0_0_ k_ ∨ P0_4_ k_ ∨ P0_6_ k_ ∨ P0_7_ k_ ∨ P0_8_ k_) ∨ w.heap.size ≤ k_)) u9004_ r6 ∧ Below w0.heap.size w0 w' ∧ Kept w w' (fun k_ => P0_0_ k_ ∨ P0_4_ k_ ∨ P0_6_ k_ ∨ P0_7_ k_ ∨ P0_8_ k_) := by
  have hu29 := Try.underlying29
  have hu26 := Try.underlying26
  have HO0_0 := Aside0.mk (show Kd.R k132 132 w w0.heap.size (fun k_ => ((P0_0_ k_ ∨ P0_4_ k_ ∨ P0_6_ k_ ∨ P0_7_ k_ ∨ P0_8_ k_) ∨ w.heap.size ≤ k_)) u9000_ l0_0 from Kd.R_mono ho0_0 (fun k_ hk => (.inl (.inl hk))))
  have HO0_4 := Aside0.mk (show Kd.R (Kd.int .i64) 3 w w0.heap.size (fun k_ => ((P0_0_ k_ ∨ P0_4_ k_ ∨ P0_6_ k_ ∨ P0_7_ k_ ∨ P0_8_ k_) ∨ w.heap.size ≤ k_) ∧ some k_ ≠ (u9003_ : Value).ownBlock ∧ some k_ ≠ (u9004_ : Value).ownBlock) u9001_ l0_4 from Kd.R_mono ho0_4 (fun k_ hk => ⟨(.inl (.inr (.inl hk))), fun e_ => hp0_4_0_7 k_ hk (ho0_7.1 k_ e_.symm), fun e_ => hp0_4_0_8 k_ hk (ho0_8.1 k_ e_.symm)⟩))
  have HO0_6 := Aside0.mk (show Kd.R k47 47 w w0.heap.size (fun k_ => ((P0_0_ k_ ∨ P0_4_ k_ ∨ P0_6_ k_ ∨ P0_7_ k_ ∨ P0_8_ k_) ∨ w.heap.size ≤ k_)) u9002_ l0_6 from Kd.R_mono ho0_6 (fun k_ hk => (.inl (.inr (.inr (.inl hk))))))
  have HO0_7 := Aside0.mk (show Kd.R (Kd.int .i64) 3 w w0.heap.size (fun k_ => ((P0_0_ k_ ∨ P0_4_ k_ ∨ P0_6_ k_ ∨ P0_7_ k_ ∨ P0_8_ k_) ∨ w.heap.size ≤ k_) ∧ some k_ ≠ (u9001_ : Value).ownBlock ∧ some k_ ≠ (u9004_ : Value).ownBlock) u9003_ l0_7 from Kd.R_mono ho0_7 (fun k_ hk => ⟨(.inl (.inr (.inr (.inr (.inl hk))))), fun e_ => hp0_7_0_4 k_ hk (ho0_4.1 k_ e_.symm), fun e_ => hp0_7_0_8 k_ hk (ho0_8.1 k_ e_.symm)⟩))
  have HO0_8 := Aside0.mk (show Kd.R (Kd.int .i64) 3 w w0.heap.size (fun k_ => ((P0_0_ k_ ∨ P0_4_ k_ ∨ P0_6_ k_ ∨ P0_7_ k_ ∨ P0_8_ k_) ∨ w.heap.size ≤ k_) ∧ some k_ ≠ (u9001_ : Value).ownBlock ∧ some k_ ≠ (u9003_ : Value).ownBlock) u9004_ l0_8 from Kd.R_mono ho0_8 (fun k_ hk => ⟨(.inl (.inr (.inr (.inr (.inr hk))))), fun e_ => hp0_8_0_4 k_ hk (ho0_4.1 k_ e_.symm), fun e_ => hp0_8_0_7 k_ hk (ho0_7.1 k_ e_.symm)⟩))
  have HK := Aside0.mk (Kept.refl w (fun k_ => P0_0_ k_ ∨ P0_4_ k_ ∨ P0_6_ k_ ∨ P0_7_ k_ ∨ P0_8_ k_))
  have HW0 := Aside0.mk hB.size
  have HB := Aside0.mk hB
  clear hB
  have H : ((laws_markTeamS.f k l0_0 a1).bind fun bt862 => ((laws_markRules.f k a0_1 a0_2 a0_3 l0_4 a0_5 bt862.1).bind fun bt864 => ((laws_markGameS.f k l0_6 bt864.1).bind fun bt866 => ((laws_markIntS.f k l0_7 bt866.1).bind fun bt868 => ((laws_markIntS.f k l0_8 bt868.1).bind fun bt870 => (some (bt870.1, bt862.2, bt864.2, bt866.2, bt868.2, bt870.2))))))) = some (r1, r2, r3, r4, r5, r6) := h
  clear h
  replace H := Option.bind_eq_some_iff.mp H
  obtain ⟨⟨t862, t863⟩, A30, H⟩ := H
  replace H : ((laws_markRules.f k a0_1 a0_2 a0_3 l0_4 a0_5 t862).bind fun bt864 => ((laws_markGameS.f k l0_6 bt864.1).bind fun bt866 => ((laws_markIntS.f k l0_7 bt866.1).bind fun bt868 => ((laws_markIntS.f k l0_8 bt868.1).bind fun bt870 => (some (bt870.1, t863, bt864.2, bt866.2, bt868.2, bt870.2)))))) = some (r1, r2, r3, r4, r5, r6) := H
  have A3 := Aside0.mk A30
  clear A30
  replace H := Option.bind_eq_some_iff.mp H
  obtain ⟨⟨t864, t865⟩, A40, H⟩ := H
  replace H : ((laws_markGameS.f k l0_6 t864).bind fun bt866 => ((laws_markIntS.f k l0_7 bt866.1).bind fun bt868 => ((laws_markIntS.f k l0_8 bt868.1).bind fun bt870 => (some (bt870.1, t863, t865, bt866.2, bt868.2, bt870.2))))) = some (r1, r2, r3, r4, r5, r6) := H
  have A4 := Aside0.mk A40
  clear A40
  replace H := Option.bind_eq_some_iff.mp H
  obtain ⟨⟨t866, t867⟩, A50, H⟩ := H
  replace H : ((laws_markIntS.f k l0_7 t866).bind fun bt868 => ((laws_markIntS.f k l0_8 bt868.1).bind fun bt870 => (some (bt870.1, t863, t865, t867, bt868.2, bt870.2)))) = some (r1, r2, r3, r4, r5, r6) := H
  have A5 := Aside0.mk A50
  clear A50
  replace H := Option.bind_eq_some_iff.mp H
  obtain ⟨⟨t868, t869⟩, A60, H⟩ := H
  replace H : ((laws_markIntS.f k l0_8 t868).bind fun bt870 => (some (bt870.1, t863, t865, t867, t869, bt870.2))) = some (r1, r2, r3, r4, r5, r6) := H
  have A6 := Aside0.mk A60
  clear A60
  replace H := Option.bind_eq_some_iff.mp H
  obtain ⟨⟨t870, t871⟩, A70, H⟩ := H
  replace H : (some (t870, t863, t865, t867, t869, t871)) = some (r1, r2, r3, r4, r5, r6) := H
  have A7 := Aside0.mk A70
  clear A70
  simp only [Option.some.injEq, Prod.mk.injEq] at H
  obtain ⟨rfl, rfl, rfl, rfl, rfl, rfl⟩ := H
  obtain ⟨Ao8, co8, eo8⟩ := Kd.R_slice HO0_0.out
  subst eo8
  obtain ⟨Ao9, co9, eo9⟩ := Kd.R_slice HO0_4.out
  subst eo9
  obtain ⟨Ao10, co10, eo10⟩ := Kd.R_slice HO0_6.out
  subst eo10
  obtain ⟨Ao11, co11, eo11⟩ := Kd.R_slice HO0_7.out
  subst eo11
  obtain ⟨Ao12, co12, eo12⟩ := Kd.R_slice HO0_8.out
  subst eo12
  go_enter Try.func87, Try.ntmps87
  go_wp2_with (first | ((with_reducible refine gate_dst (N := 2) rfl ?_); refine bx (N := 2) (cs := #[.slice Ao8 l0_0.length co8, .int .i64 a0_1, .int .i64 a0_2, .int .i64 a0_3, .slice Ao9 l0_4.length co9, .bool a0_5, .slice Ao10 l0_6.length co10, .slice Ao11 l0_7.length co11, .slice Ao12 l0_8.length co12]) (t := 29) ?_; intro gb861 hg w13 hbox hb; replace HO0_0 := kr HO0_0 hb; replace HO0_4 := kr HO0_4 hb; replace HO0_6 := kr HO0_6 hb; replace HO0_7 := kr HO0_7 hb; replace HO0_8 := kr HO0_8 hb; have BK861 := Aside0.mk (hbox); have GW861 := Aside0.mk (by rw [hg]; exact (by first | exact HK.out.1 | exact (show Kept w _ (fun k_ => P0_0_ k_ ∨ P0_4_ k_ ∨ P0_6_ k_ ∨ P0_7_ k_ ∨ P0_8_ k_) from by repeat (first | (with_reducible first | exact HK.out | apply Kept.alloc | apply Kept.drewN | apply Kept.drew) | exact HK.out)).1) : w.heap.size ≤ gb861); replace HK := Aside0.mk (Kept.below (S := (fun k_ => P0_0_ k_ ∨ P0_4_ k_ ∨ P0_6_ k_ ∨ P0_7_ k_ ∨ P0_8_ k_)) (by repeat (first | (with_reducible first | exact HK.out | apply Kept.alloc | apply Kept.drewN | apply Kept.drew) | exact HK.out)) hb); have GE861 := gs hg HB; replace HB := hs_ HB hb; clear hb hbox hg; have ⟨hcz14_0, hcz14_1, hcz14_2, hcz14_3, hcz14_4, hcz14_5, hcz14_6, hcz14_7, hcz14_8, hfz14_0, hfz14_1, hfz14_2, hfz14_3, hfz14_4, hfz14_5, hfz14_6, hfz14_7, hfz14_8⟩ := rz9 BK861) | ((with_reducible refine gate_callee (f := 125) rfl ?_); refine gl (some 8) Try.func125 #[.slice Ao8 l0_0.length co8, .int .i64 a1] ?_; (with_reducible refine (laws_markTeamS.calls k (fun k_ => some k_ = (.slice Ao8 l0_0.length co8 : Value).ownBlock) (.slice Ao8 l0_0.length co8) l0_0 a1 t862 t863 w0 _ ?side1 ?side2 A3.out).mono ?_); (case side1 => exact bb HB); (case side2 => exact Kd.R_tight rfl HO0_0.out); rintro e w15 ⟨rfl, hy0, hb, hkp⟩; refine ⟨_, rfl, ?_⟩; replace HO0_4 := Aside0.mk (Kd.R_mono (ok' := fun k_ => ((P0_0_ k_ ∨ P0_4_ k_ ∨ P0_6_ k_ ∨ P0_7_ k_ ∨ P0_8_ k_) ∨ w.heap.size ≤ k_) ∧ some k_ ≠ (.slice Ao11 l0_7.length co11 : Value).ownBlock ∧ some k_ ≠ (.slice Ao12 l0_8.length co12 : Value).ownBlock) (Kd.R_keptB ((Kd.R_apart' HO0_4.out (Kd.R_typed HO0_0.out) (by decide))) hkp (fun k_ hk_ hs_ => (hk_.2) hs_)) (fun k_ hk_ => ⟨hk_.1.1.1, hk_.1.1.2.1, hk_.1.1.2.2⟩)); replace HO0_6 := Aside0.mk (Kd.R_mono (ok' := fun k_ => ((P0_0_ k_ ∨ P0_4_ k_ ∨ P0_6_ k_ ∨ P0_7_ k_ ∨ P0_8_ k_) ∨ w.heap.size ≤ k_)) (Kd.R_keptB ((Kd.R_apart' HO0_6.out (Kd.R_typed HO0_0.out) (by decide))) hkp (fun k_ hk_ hs_ => (hk_.2) hs_)) (fun k_ hk_ => hk_.1.1)); replace HO0_7 := Aside0.mk (Kd.R_mono (ok' := fun k_ => ((P0_0_ k_ ∨ P0_4_ k_ ∨ P0_6_ k_ ∨ P0_7_ k_ ∨ P0_8_ k_) ∨ w.heap.size ≤ k_) ∧ some k_ ≠ (.slice Ao9 l0_4.length co9 : Value).ownBlock ∧ some k_ ≠ (.slice Ao12 l0_8.length co12 : Value).ownBlock) (Kd.R_keptB ((Kd.R_apart' HO0_7.out (Kd.R_typed HO0_0.out) (by decide))) hkp (fun k_ hk_ hs_ => (hk_.2) hs_)) (fun k_ hk_ => ⟨hk_.1.1.1, hk_.1.1.2.1, hk_.1.1.2.2⟩)); replace HO0_8 := Aside0.mk (Kd.R_mono (ok' := fun k_ => ((P0_0_ k_ ∨ P0_4_ k_ ∨ P0_6_ k_ ∨ P0_7_ k_ ∨ P0_8_ k_) ∨ w.heap.size ≤ k_) ∧ some k_ ≠ (.slice Ao9 l0_4.length co9 : Value).ownBlock ∧ some k_ ≠ (.slice Ao11 l0_7.length co11 : Value).ownBlock) (Kd.R_keptB ((Kd.R_apart' HO0_8.out (Kd.R_typed HO0_0.out) (by decide))) hkp (fun k_ hk_ hs_ => (hk_.2) hs_)) (fun k_ hk_ => ⟨hk_.1.1.1, hk_.1.1.2.1, hk_.1.1.2.2⟩)); replace BK861 := Aside0.mk (blk_kept (bk BK861) hkp (fun hs_ => (fun e_ => (Kd.R_ne HO0_0.out BK861.out (by decide)) e_) hs_)); replace HK := Aside0.mk (Kept.then_ (S := (fun k_ => P0_0_ k_ ∨ P0_4_ k_ ∨ P0_6_ k_ ∨ P0_7_ k_ ∨ P0_8_ k_)) (by repeat (first | (with_reducible first | exact HK.out | apply Kept.alloc | apply Kept.drewN | apply Kept.drew | refine Kept.setCell ?_ (.inr GW861.out) _) | exact HK.out)) hkp (fun k_ hs_ => (fun e_ => (HO0_0.out.1 k_ e_.symm)) hs_)); replace HO0_0 := Aside0.mk (Kd.R_reok rfl hy0 (fun k_ e_ => HO0_0.out.1 k_ e_)); replace HB := Aside0.mk (hb); (try clear hb); (try clear hkp); (try clear hy0); have ⟨hcz16_0, hcz16_1, hcz16_2, hcz16_3, hcz16_4, hcz16_5, hcz16_6, hcz16_7, hcz16_8, hfz16_0, hfz16_1, hfz16_2, hfz16_3, hfz16_4, hfz16_5, hfz16_6, hfz16_7, hfz16_8⟩ := rz9 BK861) | ((with_reducible refine gate_callee (f := 126) rfl ?_); refine gl (some 12) Try.func126 #[.agg #[.int .i64 a0_1, .int .i64 a0_2, .int .i64 a0_3, .slice Ao9 l0_4.length co9, .bool a0_5], .int .i64 t862] ?_; (with_reducible refine (laws_markRules.calls k a0_1 a0_2 a0_3 (fun k_ => some k_ = (.slice Ao9 l0_4.length co9 : Value).ownBlock) (.slice Ao9 l0_4.length co9) l0_4 a0_5 t862 t864 t865 w0 _ ?side1 ?side2 A4.out).mono ?_); (case side1 => exact bb HB); (case side2 => exact Kd.R_tight rfl HO0_4.out); rintro e w17 ⟨rfl, hy0, hb, hkp⟩; refine ⟨_, rfl, ?_⟩; replace HO0_0 := Aside0.mk (Kd.R_mono (ok' := fun k_ => ((P0_0_ k_ ∨ P0_4_ k_ ∨ P0_6_ k_ ∨ P0_7_ k_ ∨ P0_8_ k_) ∨ w.heap.size ≤ k_)) (Kd.R_keptB ((Kd.R_apart' HO0_0.out (Kd.R_typed HO0_4.out) (by decide))) hkp (fun k_ hk_ hs_ => (hk_.2) hs_)) (fun k_ hk_ => hk_.1.1)); replace HO0_6 := Aside0.mk (Kd.R_mono (ok' := fun k_ => ((P0_0_ k_ ∨ P0_4_ k_ ∨ P0_6_ k_ ∨ P0_7_ k_ ∨ P0_8_ k_) ∨ w.heap.size ≤ k_)) (Kd.R_keptB ((Kd.R_apart' HO0_6.out (Kd.R_typed HO0_4.out) (by decide))) hkp (fun k_ hk_ hs_ => (hk_.2) hs_)) (fun k_ hk_ => hk_.1.1)); replace HO0_7 := Aside0.mk (Kd.R_mono (ok' := fun k_ => ((P0_0_ k_ ∨ P0_4_ k_ ∨ P0_6_ k_ ∨ P0_7_ k_ ∨ P0_8_ k_) ∨ w.heap.size ≤ k_) ∧ some k_ ≠ (.slice Ao9 l0_4.length co9 : Value).ownBlock ∧ some k_ ≠ (.slice Ao12 l0_8.length co12 : Value).ownBlock) (Kd.R_keptB (HO0_7.out) hkp (fun k_ hk_ hs_ => (hk_.2.1) hs_)) (fun k_ hk_ => ⟨hk_.1.1, hk_.1.2.1, hk_.1.2.2⟩)); replace HO0_8 := Aside0.mk (Kd.R_mono (ok' := fun k_ => ((P0_0_ k_ ∨ P0_4_ k_ ∨ P0_6_ k_ ∨ P0_7_ k_ ∨ P0_8_ k_) ∨ w.heap.size ≤ k_) ∧ some k_ ≠ (.slice Ao9 l0_4.length co9 : Value).ownBlock ∧ some k_ ≠ (.slice Ao11 l0_7.length co11 : Value).ownBlock) (Kd.R_keptB (HO0_8.out) hkp (fun k_ hk_ hs_ => (hk_.2.1) hs_)) (fun k_ hk_ => ⟨hk_.1.1, hk_.1.2.1, hk_.1.2.2⟩)); replace BK861 := Aside0.mk (blk_kept (bk BK861) hkp (fun hs_ => (fun e_ => (Kd.R_ne HO0_4.out BK861.out (by decide)) e_) hs_)); replace HK := Aside0.mk (Kept.then_ (S := (fun k_ => P0_0_ k_ ∨ P0_4_ k_ ∨ P0_6_ k_ ∨ P0_7_ k_ ∨ P0_8_ k_)) (by repeat (first | (with_reducible first | exact HK.out | apply Kept.alloc | apply Kept.drewN | apply Kept.drew | refine Kept.setCell ?_ (.inr GW861.out) _) | exact HK.out)) hkp (fun k_ hs_ => (fun e_ => (HO0_4.out.1 k_ e_.symm).1) hs_)); replace HO0_4 := Aside0.mk (Kd.R_reok rfl hy0 (fun k_ e_ => HO0_4.out.1 k_ e_)); replace HB := Aside0.mk (hb); (try clear hb); (try clear hkp); (try clear hy0); have ⟨hcz18_0, hcz18_1, hcz18_2, hcz18_3, hcz18_4, hcz18_5, hcz18_6, hcz18_7, hcz18_8, hfz18_0, hfz18_1, hfz18_2, hfz18_3, hfz18_4, hfz18_5, hfz18_6, hfz18_7, hfz18_8⟩ := rz9 BK861) | ((with_reducible refine gate_callee (f := 127) rfl ?_); refine gl (some 16) Try.func127 #[.slice Ao10 l0_6.length co10, .int .i64 t864] ?_; (with_reducible refine (laws_markGameS.calls k (fun k_ => some k_ = (.slice Ao10 l0_6.length co10 : Value).ownBlock) (.slice Ao10 l0_6.length co10) l0_6 t864 t866 t867 w0 _ ?side1 ?side2 A5.out).mono ?_); (case side1 => exact bb HB); (case side2 => exact Kd.R_tight rfl HO0_6.out); rintro e w19 ⟨rfl, hy0, hb, hkp⟩; refine ⟨_, rfl, ?_⟩; replace HO0_0 := Aside0.mk (Kd.R_mono (ok' := fun k_ => ((P0_0_ k_ ∨ P0_4_ k_ ∨ P0_6_ k_ ∨ P0_7_ k_ ∨ P0_8_ k_) ∨ w.heap.size ≤ k_)) (Kd.R_keptB ((Kd.R_apart' HO0_0.out (Kd.R_typed HO0_6.out) (by decide))) hkp (fun k_ hk_ hs_ => (hk_.2) hs_)) (fun k_ hk_ => hk_.1.1)); replace HO0_4 := Aside0.mk (Kd.R_mono (ok' := fun k_ => ((P0_0_ k_ ∨ P0_4_ k_ ∨ P0_6_ k_ ∨ P0_7_ k_ ∨ P0_8_ k_) ∨ w.heap.size ≤ k_) ∧ some k_ ≠ (.slice Ao11 l0_7.length co11 : Value).ownBlock ∧ some k_ ≠ (.slice Ao12 l0_8.length co12 : Value).ownBlock) (Kd.R_keptB ((Kd.R_apart' HO0_4.out (Kd.R_typed HO0_6.out) (by decide))) hkp (fun k_ hk_ hs_ => (hk_.2) hs_)) (fun k_ hk_ => ⟨hk_.1.1.1, hk_.1.1.2.1, hk_.1.1.2.2⟩)); replace HO0_7 := Aside0.mk (Kd.R_mono (ok' := fun k_ => ((P0_0_ k_ ∨ P0_4_ k_ ∨ P0_6_ k_ ∨ P0_7_ k_ ∨ P0_8_ k_) ∨ w.heap.size ≤ k_) ∧ some k_ ≠ (.slice Ao9 l0_4.length co9 : Value).ownBlock ∧ some k_ ≠ (.slice Ao12 l0_8.length co12 : Value).ownBlock) (Kd.R_keptB ((Kd.R_apart' HO0_7.out (Kd.R_typed HO0_6.out) (by decide))) hkp (fun k_ hk_ hs_ => (hk_.2) hs_)) (fun k_ hk_ => ⟨hk_.1.1.1, hk_.1.1.2.1, hk_.1.1.2.2⟩)); replace HO0_8 := Aside0.mk (Kd.R_mono (ok' := fun k_ => ((P0_0_ k_ ∨ P0_4_ k_ ∨ P0_6_ k_ ∨ P0_7_ k_ ∨ P0_8_ k_) ∨ w.heap.size ≤ k_) ∧ some k_ ≠ (.slice Ao9 l0_4.length co9 : Value).ownBlock ∧ some k_ ≠ (.slice Ao11 l0_7.length co11 : Value).ownBlock) (Kd.R_keptB ((Kd.R_apart' HO0_8.out (Kd.R_typed HO0_6.out) (by decide))) hkp (fun k_ hk_ hs_ => (hk_.2) hs_)) (fun k_ hk_ => ⟨hk_.1.1.1, hk_.1.1.2.1, hk_.1.1.2.2⟩)); replace BK861 := Aside0.mk (blk_kept (bk BK861) hkp (fun hs_ => (fun e_ => (Kd.R_ne HO0_6.out BK861.out (by decide)) e_) hs_)); replace HK := Aside0.mk (Kept.then_ (S := (fun k_ => P0_0_ k_ ∨ P0_4_ k_ ∨ P0_6_ k_ ∨ P0_7_ k_ ∨ P0_8_ k_)) (by repeat (first | (with_reducible first | exact HK.out | apply Kept.alloc | apply Kept.drewN | apply Kept.drew | refine Kept.setCell ?_ (.inr GW861.out) _) | exact HK.out)) hkp (fun k_ hs_ => (fun e_ => (HO0_6.out.1 k_ e_.symm)) hs_)); replace HO0_6 := Aside0.mk (Kd.R_reok rfl hy0 (fun k_ e_ => HO0_6.out.1 k_ e_)); replace HB := Aside0.mk (hb); (try clear hb); (try clear hkp); (try clear hy0); have ⟨hcz20_0, hcz20_1, hcz20_2, hcz20_3, hcz20_4, hcz20_5, hcz20_6, hcz20_7, hcz20_8, hfz20_0, hfz20_1, hfz20_2, hfz20_3, hfz20_4, hfz20_5, hfz20_6, hfz20_7, hfz20_8⟩ := rz9 BK861) | ((with_reducible refine gate_callee (f := 128) rfl ?_); refine gl (some 20) Try.func128 #[.slice Ao11 l0_7.length co11, .int .i64 t866] ?_; (with_reducible refine (laws_markIntS.calls k (fun k_ => some k_ = (.slice Ao11 l0_7.length co11 : Value).ownBlock) (.slice Ao11 l0_7.length co11) l0_7 t866 t868 t869 w0 _ ?side1 ?side2 A6.out).mono ?_); (case side1 => exact bb HB); (case side2 => exact Kd.R_tight rfl HO0_7.out); rintro e w21 ⟨rfl, hy0, hb, hkp⟩; refine ⟨_, rfl, ?_⟩; replace HO0_0 := Aside0.mk (Kd.R_mono (ok' := fun k_ => ((P0_0_ k_ ∨ P0_4_ k_ ∨ P0_6_ k_ ∨ P0_7_ k_ ∨ P0_8_ k_) ∨ w.heap.size ≤ k_)) (Kd.R_keptB ((Kd.R_apart' HO0_0.out (Kd.R_typed HO0_7.out) (by decide))) hkp (fun k_ hk_ hs_ => (hk_.2) hs_)) (fun k_ hk_ => hk_.1.1)); replace HO0_4 := Aside0.mk (Kd.R_mono (ok' := fun k_ => ((P0_0_ k_ ∨ P0_4_ k_ ∨ P0_6_ k_ ∨ P0_7_ k_ ∨ P0_8_ k_) ∨ w.heap.size ≤ k_) ∧ some k_ ≠ (.slice Ao11 l0_7.length co11 : Value).ownBlock ∧ some k_ ≠ (.slice Ao12 l0_8.length co12 : Value).ownBlock) (Kd.R_keptB (HO0_4.out) hkp (fun k_ hk_ hs_ => (hk_.2.1) hs_)) (fun k_ hk_ => ⟨hk_.1.1, hk_.1.2.1, hk_.1.2.2⟩)); replace HO0_6 := Aside0.mk (Kd.R_mono (ok' := fun k_ => ((P0_0_ k_ ∨ P0_4_ k_ ∨ P0_6_ k_ ∨ P0_7_ k_ ∨ P0_8_ k_) ∨ w.heap.size ≤ k_)) (Kd.R_keptB ((Kd.R_apart' HO0_6.out (Kd.R_typed HO0_7.out) (by decide))) hkp (fun k_ hk_ hs_ => (hk_.2) hs_)) (fun k_ hk_ => hk_.1.1)); replace HO0_8 := Aside0.mk (Kd.R_mono (ok' := fun k_ => ((P0_0_ k_ ∨ P0_4_ k_ ∨ P0_6_ k_ ∨ P0_7_ k_ ∨ P0_8_ k_) ∨ w.heap.size ≤ k_) ∧ some k_ ≠ (.slice Ao9 l0_4.length co9 : Value).ownBlock ∧ some k_ ≠ (.slice Ao11 l0_7.length co11 : Value).ownBlock) (Kd.R_keptB (HO0_8.out) hkp (fun k_ hk_ hs_ => (hk_.2.2) hs_)) (fun k_ hk_ => ⟨hk_.1.1, hk_.1.2.1, hk_.1.2.2⟩)); replace BK861 := Aside0.mk (blk_kept (bk BK861) hkp (fun hs_ => (fun e_ => (Kd.R_ne HO0_7.out BK861.out (by decide)) e_) hs_)); replace HK := Aside0.mk (Kept.then_ (S := (fun k_ => P0_0_ k_ ∨ P0_4_ k_ ∨ P0_6_ k_ ∨ P0_7_ k_ ∨ P0_8_ k_)) (by repeat (first | (with_reducible first | exact HK.out | apply Kept.alloc | apply Kept.drewN | apply Kept.drew | refine Kept.setCell ?_ (.inr GW861.out) _) | exact HK.out)) hkp (fun k_ hs_ => (fun e_ => (HO0_7.out.1 k_ e_.symm).1) hs_)); replace HO0_7 := Aside0.mk (Kd.R_reok rfl hy0 (fun k_ e_ => HO0_7.out.1 k_ e_)); replace HB := Aside0.mk (hb); (try clear hb); (try clear hkp); (try clear hy0); have ⟨hcz22_0, hcz22_1, hcz22_2, hcz22_3, hcz22_4, hcz22_5, hcz22_6, hcz22_7, hcz22_8, hfz22_0, hfz22_1, hfz22_2, hfz22_3, hfz22_4, hfz22_5, hfz22_6, hfz22_7, hfz22_8⟩ := rz9 BK861) | ((with_reducible refine gate_callee (f := 128) rfl ?_); refine gl (some 24) Try.func128 #[.slice Ao12 l0_8.length co12, .int .i64 t868] ?_; (with_reducible refine (laws_markIntS.calls k (fun k_ => some k_ = (.slice Ao12 l0_8.length co12 : Value).ownBlock) (.slice Ao12 l0_8.length co12) l0_8 t868 t870 t871 w0 _ ?side1 ?side2 A7.out).mono ?_); (case side1 => exact bb HB); (case side2 => exact Kd.R_tight rfl HO0_8.out); rintro e w23 ⟨rfl, hy0, hb, hkp⟩; refine ⟨_, rfl, ?_⟩; replace HO0_0 := Aside0.mk (Kd.R_mono (ok' := fun k_ => ((P0_0_ k_ ∨ P0_4_ k_ ∨ P0_6_ k_ ∨ P0_7_ k_ ∨ P0_8_ k_) ∨ w.heap.size ≤ k_)) (Kd.R_keptB ((Kd.R_apart' HO0_0.out (Kd.R_typed HO0_8.out) (by decide))) hkp (fun k_ hk_ hs_ => (hk_.2) hs_)) (fun k_ hk_ => hk_.1.1)); replace HO0_4 := Aside0.mk (Kd.R_mono (ok' := fun k_ => ((P0_0_ k_ ∨ P0_4_ k_ ∨ P0_6_ k_ ∨ P0_7_ k_ ∨ P0_8_ k_) ∨ w.heap.size ≤ k_) ∧ some k_ ≠ (.slice Ao11 l0_7.length co11 : Value).ownBlock ∧ some k_ ≠ (.slice Ao12 l0_8.length co12 : Value).ownBlock) (Kd.R_keptB (HO0_4.out) hkp (fun k_ hk_ hs_ => (hk_.2.2) hs_)) (fun k_ hk_ => ⟨hk_.1.1, hk_.1.2.1, hk_.1.2.2⟩)); replace HO0_6 := Aside0.mk (Kd.R_mono (ok' := fun k_ => ((P0_0_ k_ ∨ P0_4_ k_ ∨ P0_6_ k_ ∨ P0_7_ k_ ∨ P0_8_ k_) ∨ w.heap.size ≤ k_)) (Kd.R_keptB ((Kd.R_apart' HO0_6.out (Kd.R_typed HO0_8.out) (by decide))) hkp (fun k_ hk_ hs_ => (hk_.2) hs_)) (fun k_ hk_ => hk_.1.1)); replace HO0_7 := Aside0.mk (Kd.R_mono (ok' := fun k_ => ((P0_0_ k_ ∨ P0_4_ k_ ∨ P0_6_ k_ ∨ P0_7_ k_ ∨ P0_8_ k_) ∨ w.heap.size ≤ k_) ∧ some k_ ≠ (.slice Ao9 l0_4.length co9 : Value).ownBlock ∧ some k_ ≠ (.slice Ao12 l0_8.length co12 : Value).ownBlock) (Kd.R_keptB (HO0_7.out) hkp (fun k_ hk_ hs_ => (hk_.2.2) hs_)) (fun k_ hk_ => ⟨hk_.1.1, hk_.1.2.1, hk_.1.2.2⟩)); replace BK861 := Aside0.mk (blk_kept (bk BK861) hkp (fun hs_ => (fun e_ => (Kd.R_ne HO0_8.out BK861.out (by decide)) e_) hs_)); replace HK := Aside0.mk (Kept.then_ (S := (fun k_ => P0_0_ k_ ∨ P0_4_ k_ ∨ P0_6_ k_ ∨ P0_7_ k_ ∨ P0_8_ k_)) (by repeat (first | (with_reducible first | exact HK.out | apply Kept.alloc | apply Kept.drewN | apply Kept.drew | refine Kept.setCell ?_ (.inr GW861.out) _) | exact HK.out)) hkp (fun k_ hs_ => (fun e_ => (HO0_8.out.1 k_ e_.symm).1) hs_)); replace HO0_8 := Aside0.mk (Kd.R_reok rfl hy0 (fun k_ e_ => HO0_8.out.1 k_ e_)); replace HB := Aside0.mk (hb); (try clear hb); (try clear hkp); (try clear hy0)))
  go_ret
  exact ⟨ee, rr HO0_0, ro HO0_4 (fun _ hk => hk.1), rr HO0_6, ro HO0_7 (fun _ hk => hk.1), ro HO0_8 (fun _ hk => hk.1), bb HB, by repeat (first | (with_reducible first | exact HK.out | apply Kept.alloc | apply Kept.drewN | apply Kept.drew | refine Kept.setCell ?_ (.inr GW861.out) _) | exact HK.out)⟩
end Go.Proofs.Ytibmeomlokigjaa.Q
namespace Go.Proofs.Ytibmeomlokigjaa.Q
open Go.RowKit Go.Proofs.YtibmeomlokigjaaW.PrintWords Go.Proofs.YtibmeomlokigjaaW.PrintLast Go.Proofs.YtibmeomlokigjaaW.PrintMore
attribute [local go_sem] max2_int min2_int max_two min_two max_three min_three max_four min_four
set_option linter.unusedVariables false
set_option linter.unusedSimpArgs false
def laws_markNoteS.f (l0 : List (S152)) (a1 : Int) : Option Int := if l0.length = 0 then some a1 else none
set_option maxHeartbeats 8000000 in
set_option maxRecDepth 100000 in
theorem laws_markNoteS.calls (A0 : Option Addr) (c0 : Nat) (l0 : List (S152)) (a1 : Int) (r : Int) (w : World) (hr0 : Kd.C k152 w A0 l0.length l0) (hc0 : l0.length ≤ c0) (h : laws_markNoteS.f l0 a1 = some r) :
    Calls Try.prog 88 #[.slice A0 l0.length c0, .int .i64 a1] w fun e w' => e = .returned (.int .i64 r) ∧ Drawn0 w w' := by
  unfold laws_markNoteS.f at h
  split at h
  case isFalse => cases h
  case isTrue hl =>
  obtain rfl := Option.some.inj h
  clear h hr0 hc0
  rw [hl]
  clear hl
  go_enter Try.func88, Try.ntmps88
  go_wp2
  go_loopg [1, 5] 0 (fun kq v1 v5 w' => v1 = .int .i64 a1 ∧ v5 = .int .i64 0 ∧ Drawn0 w w')
  case atStart => exact ⟨e2_, e2_, by repeat (first | exact Drawn0.refl _ | apply Drawn0.step)⟩
  case round =>
    obtain ⟨rfl, rfl, ⟨m1, rfl⟩⟩ := hrel
    go_wp2
    go_ret
    exact ⟨e2_, by repeat (first | exact Drawn0.refl _ | apply Drawn0.step)⟩
end Go.Proofs.Ytibmeomlokigjaa.Q
namespace Go.Proofs.Ytibmeomlokigjaa.Q
open Go.RowKit Go.Proofs.YtibmeomlokigjaaW.PrintWords Go.Proofs.YtibmeomlokigjaaW.PrintLast Go.Proofs.YtibmeomlokigjaaW.PrintMore
attribute [local go_sem] max2_int min2_int max_two min_two max_three min_three max_four min_four
set_option linter.unusedVariables false
set_option linter.unusedSimpArgs false
def laws_markSentS.f (l0 : List (S155)) (a1 : Int) : Option Int := if l0.length = 0 then some a1 else none
set_option maxHeartbeats 8000000 in
set_option maxRecDepth 100000 in
theorem laws_markSentS.calls (A0 : Option Addr) (c0 : Nat) (l0 : List (S155)) (a1 : Int) (r : Int) (w : World) (hr0 : Kd.C k155 w A0 l0.length l0) (hc0 : l0.length ≤ c0) (h : laws_markSentS.f l0 a1 = some r) :
    Calls Try.prog 89 #[.slice A0 l0.length c0, .int .i64 a1] w fun e w' => e = .returned (.int .i64 r) ∧ Drawn0 w w' := by
  unfold laws_markSentS.f at h
  split at h
  case isFalse => cases h
  case isTrue hl =>
  obtain rfl := Option.some.inj h
  clear h hr0 hc0
  rw [hl]
  clear hl
  go_enter Try.func89, Try.ntmps89
  go_wp2
  go_loopg [1, 5] 0 (fun kq v1 v5 w' => v1 = .int .i64 a1 ∧ v5 = .int .i64 0 ∧ Drawn0 w w')
  case atStart => exact ⟨e2_, e2_, by repeat (first | exact Drawn0.refl _ | apply Drawn0.step)⟩
  case round =>
    obtain ⟨rfl, rfl, ⟨m1, rfl⟩⟩ := hrel
    go_wp2
    go_ret
    exact ⟨e2_, by repeat (first | exact Drawn0.refl _ | apply Drawn0.step)⟩
end Go.Proofs.Ytibmeomlokigjaa.Q
namespace Go.Proofs.Ytibmeomlokigjaa.Q
open Go.RowKit Go.Proofs.YtibmeomlokigjaaW.PrintWords Go.Proofs.YtibmeomlokigjaaW.PrintLast Go.Proofs.YtibmeomlokigjaaW.PrintMore
attribute [local go_sem] max2_int min2_int max_two min_two max_three min_three max_four min_four
set_option linter.unusedVariables false
set_option linter.unusedSimpArgs false
def laws_markCup.f (k : Nat) (a0_0 : Int) (l0_1 : List Int) (a1 : Int) : Option (Int × List Int) := (laws_markIntS.f k l0_1 a1).bind fun bt873 => (some (bt873.1, bt873.2))
set_option maxHeartbeats 8000000 in
set_option maxRecDepth 100000 in
theorem laws_markCup.calls (k : Nat) (a0_0 : Int) (P0_1_ : Nat → Prop) (u9000_ : Value) (l0_1 : List Int) (a1 : Int) (r1 : Int) (r2 : List Int) (w0 w : World) (hB : Below w0.heap.size w0 w) (ho0_1 : Kd.R (Kd.int .i64) 3 w w0.heap.size P0_1_ u9000_ l0_1) (h : laws_markCup.f k a0_0 l0_1 a1 = some (r1, r2)) :
    Calls Try.prog 90 #[.agg #[.int .i64 a0_0, u9000_], .int .i64 a1] w fun e w' => e = .returned (.int .i64 r1) ∧ Kd.R (Kd.int .i64) 3 w' w0.heap.size (fun k_ => (P0_1_ k_ ∨ w.heap.size ≤ k_)) u9000_ r2 ∧ Below w0.heap.size w0 w' ∧ Kept w w' (fun k_ => P0_1_ k_) := by
  have hu71 := Try.underlying71
  have HO0_1 := Aside0.mk (show Kd.R (Kd.int .i64) 3 w w0.heap.size (fun k_ => (P0_1_ k_ ∨ w.heap.size ≤ k_)) u9000_ l0_1 from Kd.R_mono ho0_1 (fun k_ hk => (.inl hk)))
  have HK := Aside0.mk (Kept.refl w (fun k_ => P0_1_ k_))
  have HW0 := Aside0.mk hB.size
  have HB := Aside0.mk hB
  clear hB
  have H : ((laws_markIntS.f k l0_1 a1).bind fun bt873 => (some (bt873.1, bt873.2))) = some (r1, r2) := h
  clear h
  replace H := Option.bind_eq_some_iff.mp H
  obtain ⟨⟨t873, t874⟩, A30, H⟩ := H
  replace H : (some (t873, t874)) = some (r1, r2) := H
  have A3 := Aside0.mk A30
  clear A30
  simp only [Option.some.injEq, Prod.mk.injEq] at H
  obtain ⟨rfl, rfl⟩ := H
  obtain ⟨Ao4, co4, eo4⟩ := Kd.R_slice HO0_1.out
  subst eo4
  go_enter Try.func90, Try.ntmps90
  go_wp2_with (first | ((with_reducible refine gate_dst (N := 2) rfl ?_); refine bx (N := 2) (cs := #[.int .i64 a0_0, .slice Ao4 l0_1.length co4]) (t := 71) ?_; intro gb872 hg w5 hbox hb; replace HO0_1 := kr HO0_1 hb; have BK872 := Aside0.mk (hbox); have GW872 := Aside0.mk (by rw [hg]; exact (by first | exact HK.out.1 | exact (show Kept w _ (fun k_ => P0_1_ k_) from by repeat (first | (with_reducible first | exact HK.out | apply Kept.alloc | apply Kept.drewN | apply Kept.drew) | exact HK.out)).1) : w.heap.size ≤ gb872); replace HK := Aside0.mk (Kept.below (S := (fun k_ => P0_1_ k_)) (by repeat (first | (with_reducible first | exact HK.out | apply Kept.alloc | apply Kept.drewN | apply Kept.drew) | exact HK.out)) hb); have GE872 := gs hg HB; replace HB := hs_ HB hb; clear hb hbox hg; have ⟨hcz6_0, hcz6_1, hfz6_0, hfz6_1⟩ := rz2 BK872) | ((with_reducible refine gate_callee (f := 128) rfl ?_); refine gl (some 8) Try.func128 #[.slice Ao4 l0_1.length co4, .int .i64 a1] ?_; (with_reducible refine (laws_markIntS.calls k (fun k_ => some k_ = (.slice Ao4 l0_1.length co4 : Value).ownBlock) (.slice Ao4 l0_1.length co4) l0_1 a1 t873 t874 w0 _ ?side1 ?side2 A3.out).mono ?_); (case side1 => exact bb HB); (case side2 => exact Kd.R_tight rfl HO0_1.out); rintro e w7 ⟨rfl, hy0, hb, hkp⟩; refine ⟨_, rfl, ?_⟩; replace BK872 := Aside0.mk (blk_kept (bk BK872) hkp (fun hs_ => (fun e_ => (Kd.R_ne HO0_1.out BK872.out (by decide)) e_) hs_)); replace HK := Aside0.mk (Kept.then_ (S := (fun k_ => P0_1_ k_)) (by repeat (first | (with_reducible first | exact HK.out | apply Kept.alloc | apply Kept.drewN | apply Kept.drew | refine Kept.setCell ?_ (.inr GW872.out) _) | exact HK.out)) hkp (fun k_ hs_ => (fun e_ => (HO0_1.out.1 k_ e_.symm)) hs_)); replace HO0_1 := Aside0.mk (Kd.R_reok rfl hy0 (fun k_ e_ => HO0_1.out.1 k_ e_)); replace HB := Aside0.mk (hb); (try clear hb); (try clear hkp); (try clear hy0)))
  go_ret
  exact ⟨ee, rr HO0_1, bb HB, by repeat (first | (with_reducible first | exact HK.out | apply Kept.alloc | apply Kept.drewN | apply Kept.drew | refine Kept.setCell ?_ (.inr GW872.out) _) | exact HK.out)⟩
end Go.Proofs.Ytibmeomlokigjaa.Q
namespace Go.Proofs.Ytibmeomlokigjaa.Q
open Go.RowKit Go.Proofs.YtibmeomlokigjaaW.PrintWords Go.Proofs.YtibmeomlokigjaaW.PrintLast Go.Proofs.YtibmeomlokigjaaW.PrintMore
attribute [local go_sem] max2_int min2_int max_two min_two max_three min_three max_four min_four
set_option linter.unusedVariables false
set_option linter.unusedSimpArgs false
def laws_markConsole.f (k : Nat) (l0_0 : List (S132)) (a0_1 : Int) (a0_2 : Int) (a0_3 : Int) (l0_4 : List Int) (a0_5 : Bool) (l0_6 : List (S47)) (l0_7 : List Int) (l0_8 : List Int) (l0_9 : List (S152)) (l0_10 : List (S155)) (a0_11 : Int) (l0_12 : List Int) (a1 : Int) : Option (Int × (List (S132)) × List Int × (List (S47)) × List Int × List Int × List Int) := (laws_markBook.f k l0_0 a0_1 a0_2 a0_3 l0_4 a0_5 l0_6 l0_7 l0_8 a1).bind fun bt876 => ((laws_markNoteS.f l0_9 bt876.1).bind fun t882 => ((laws_markSentS.f l0_10 t882).bind fun t883 => ((laws_markCup.f k a0_11 l0_12 t883).bind fun bt884 => (some (bt884.1, bt876.2.1, bt876.2.2.1, bt876.2.2.2.1, bt876.2.2.2.2.1, bt876.2.2.2.2.2, bt884.2)))))
set_option maxHeartbeats 8000000 in
set_option maxRecDepth 100000 in
theorem laws_markConsole.calls (k : Nat) (P0_0_ : Nat → Prop) (u9000_ : Value) (l0_0 : List (S132)) (a0_1 : Int) (a0_2 : Int) (a0_3 : Int) (P0_4_ : Nat → Prop) (u9001_ : Value) (l0_4 : List Int) (a0_5 : Bool) (P0_6_ : Nat → Prop) (u9002_ : Value) (l0_6 : List (S47)) (P0_7_ : Nat → Prop) (u9003_ : Value) (l0_7 : List Int) (P0_8_ : Nat → Prop) (u9004_ : Value) (l0_8 : List Int) (A0_9 : Option Addr) (c0_9 : Nat) (l0_9 : List (S152)) (A0_10 : Option Addr) (c0_10 : Nat) (l0_10 : List (S155)) (a0_11 : Int) (P0_12_ : Nat → Prop) (u9005_ : Value) (l0_12 : List Int) (a1 : Int) (r1 : Int) (r2 : List (S132)) (r3 : List Int) (r4 : List (S47)) (r5 : List Int) (r6 : List Int) (r7 : List Int) (w0 w : World) (hB : Below w0.heap.size w0 w) (ho0_0 : Kd.R k132 132 w w0.heap.size P0_0_ u9000_ l0_0) (ho0_4 : Kd.R (Kd.int .i64) 3 w w0.heap.size P0_4_ u9001_ l0_4) (hp0_4_0_7 : ∀ k_, P0_4_ k_ → ¬ P0_7_ k_) (hp0_4_0_8 : ∀ k_, P0_4_ k_ → ¬ P0_8_ k_) (hp0_4_0_12 : ∀ k_, P0_4_ k_ → ¬ P0_12_ k_) (ho0_6 : Kd.R k47 47 w w0.heap.size P0_6_ u9002_ l0_6) (ho0_7 : Kd.R (Kd.int .i64) 3 w w0.heap.size P0_7_ u9003_ l0_7) (hp0_7_0_4 : ∀ k_, P0_7_ k_ → ¬ P0_4_ k_) (hp0_7_0_8 : ∀ k_, P0_7_ k_ → ¬ P0_8_ k_) (hp0_7_0_12 : ∀ k_, P0_7_ k_ → ¬ P0_12_ k_) (ho0_8 : Kd.R (Kd.int .i64) 3 w w0.heap.size P0_8_ u9004_ l0_8) (hp0_8_0_4 : ∀ k_, P0_8_ k_ → ¬ P0_4_ k_) (hp0_8_0_7 : ∀ k_, P0_8_ k_ → ¬ P0_7_ k_) (hp0_8_0_12 : ∀ k_, P0_8_ k_ → ¬ P0_12_ k_) (hr0_9 : ∀ W_, Kept w W_ (fun k_ => P0_0_ k_ ∨ P0_4_ k_ ∨ P0_6_ k_ ∨ P0_7_ k_ ∨ P0_8_ k_ ∨ P0_12_ k_) → Kd.C k152 W_ A0_9 l0_9.length l0_9) (hc0_9 : l0_9.length ≤ c0_9) (hr0_10 : ∀ W_, Kept w W_ (fun k_ => P0_0_ k_ ∨ P0_4_ k_ ∨ P0_6_ k_ ∨ P0_7_ k_ ∨ P0_8_ k_ ∨ P0_12_ k_) → Kd.C k155 W_ A0_10 l0_10.length l0_10) (hc0_10 : l0_10.length ≤ c0_10) (ho0_12 : Kd.R (Kd.int .i64) 3 w w0.heap.size P0_12_ u9005_ l0_12) (hp0_12_0_4 : ∀ k_, P0_12_ k_ → ¬ P0_4_ k_) (hp0_12_0_7 : ∀ k_, P0_12_ k_ → ¬ P0_7_ k_) (hp0_12_0_8 : ∀ k_, P0_12_ k_ → ¬ P0_8_ k_) (h : laws_markConsole.f k l0_0 a0_1 a0_2 a0_3 l0_4 a0_5 l0_6 l0_7 l0_8 l0_9 l0_10 a0_11 l0_12 a1 = some (r1, r2, r3, r4, r5, r6, r7)) :
    Calls Try.prog 39 #[.agg #[u9000_, .int .i64 a0_1, .int .i64 a0_2, .int .i64 a0_3, u9001_, .bool a0_5, u9002_, u9003_, u9004_, .slice A0_9 l0_9.length c0_9, .slice A0_10 l0_10.length c0_10, .int .i64 a0_11, u9005_], .int .i64 a1] w fun e w' => e = .returned (.int .i64 r1) ∧ Kd.R k132 132 w' w0.heap.size (fun k_ => ((P0_0_ k_ ∨ P0_4_ k_ ∨ P0_6_ k_ ∨ P0_7_ k_ ∨ P0_8_ k_ ∨ P0_12_ k_) ∨ w.heap.size ≤ k_)) u9000_ r2 ∧ Kd.R (Kd.int .i64) 3 w' w0.heap.size (fun k_ => ((P0_0_ k_ ∨ P0_4_ k_ ∨ P0_6_ k_ ∨ P0_7_ k_ ∨ P0_8_ k_ ∨ P0_12_ k_) ∨ w.heap.size ≤ k_)) u9001_ r3 ∧ Kd.R k47 47 w' w0.heap.size (fun k_ => ((P0_0_ k_ ∨ P0_4_ k_ ∨ P0_6_ k_ ∨ P0_7_ k_ ∨ P0_8_ k_ ∨ P0_12_ k_) ∨ w.heap.size ≤ k_)) u9002_ r4 ∧ Kd.R (Kd.int .i64) 3 w' w0.heap.size (fun k_ => ((P0_0_ k_ ∨ P0_4_ k_ ∨ P0_6_ k_ ∨ P0_7_ k_ ∨ P0_8_ k_ ∨ P0_12_ k_) ∨ w.heap.size ≤ k_)) u9003_ r5 ∧ Kd.R (Kd.int .i64) 3 w' w0.heap.size (fun k_ => ((P0_0_ k_ ∨ P0_4_ k_ ∨ P0_6_ k_ ∨ P0_7_ k_ ∨ P0_8_ k_ ∨ P0_12_ k_) ∨ w.heap.size ≤ k_)) u9004_ r6 ∧ Kd.R (Kd.int .i64) 3 w' w0.heap.size (fun k_ => ((P0_0_ k_ ∨ P0_4_ k_ ∨ P0_6_ k_ ∨ P0_7_ k_ ∨ P0_8_ k_ ∨ P0_12_ k_) ∨ w.heap.size ≤ k_)) u9005_ r7 ∧ Below w0.heap.size w0 w' ∧ Kept w w' (fun k_ => P0_0_ k_ ∨ P0_4_ k_ ∨ P0_6_ k_ ∨ P0_7_ k_ ∨ P0_8_ k_ ∨ P0_12_ k_) := by
  have hu73 := Try.underlying73
  have hu29 := Try.underlying29
  have hu71 := Try.underlying71
  have HO0_0 := Aside0.mk (show Kd.R k132 132 w w0.heap.size (fun k_ => ((P0_0_ k_ ∨ P0_4_ k_ ∨ P0_6_ k_ ∨ P0_7_ k_ ∨ P0_8_ k_ ∨ P0_12_ k_) ∨ w.heap.size ≤ k_)) u9000_ l0_0 from Kd.R_mono ho0_0 (fun k_ hk => (.inl (.inl hk))))
  have HO0_4 := Aside0.mk (show Kd.R (Kd.int .i64) 3 w w0.heap.size (fun k_ => ((P0_0_ k_ ∨ P0_4_ k_ ∨ P0_6_ k_ ∨ P0_7_ k_ ∨ P0_8_ k_ ∨ P0_12_ k_) ∨ w.heap.size ≤ k_) ∧ some k_ ≠ (u9003_ : Value).ownBlock ∧ some k_ ≠ (u9004_ : Value).ownBlock ∧ some k_ ≠ (u9005_ : Value).ownBlock) u9001_ l0_4 from Kd.R_mono ho0_4 (fun k_ hk => ⟨(.inl (.inr (.inl hk))), fun e_ => hp0_4_0_7 k_ hk (ho0_7.1 k_ e_.symm), fun e_ => hp0_4_0_8 k_ hk (ho0_8.1 k_ e_.symm), fun e_ => hp0_4_0_12 k_ hk (ho0_12.1 k_ e_.symm)⟩))
  have HO0_6 := Aside0.mk (show Kd.R k47 47 w w0.heap.size (fun k_ => ((P0_0_ k_ ∨ P0_4_ k_ ∨ P0_6_ k_ ∨ P0_7_ k_ ∨ P0_8_ k_ ∨ P0_12_ k_) ∨ w.heap.size ≤ k_)) u9002_ l0_6 from Kd.R_mono ho0_6 (fun k_ hk => (.inl (.inr (.inr (.inl hk))))))
  have HO0_7 := Aside0.mk (show Kd.R (Kd.int .i64) 3 w w0.heap.size (fun k_ => ((P0_0_ k_ ∨ P0_4_ k_ ∨ P0_6_ k_ ∨ P0_7_ k_ ∨ P0_8_ k_ ∨ P0_12_ k_) ∨ w.heap.size ≤ k_) ∧ some k_ ≠ (u9001_ : Value).ownBlock ∧ some k_ ≠ (u9004_ : Value).ownBlock ∧ some k_ ≠ (u9005_ : Value).ownBlock) u9003_ l0_7 from Kd.R_mono ho0_7 (fun k_ hk => ⟨(.inl (.inr (.inr (.inr (.inl hk))))), fun e_ => hp0_7_0_4 k_ hk (ho0_4.1 k_ e_.symm), fun e_ => hp0_7_0_8 k_ hk (ho0_8.1 k_ e_.symm), fun e_ => hp0_7_0_12 k_ hk (ho0_12.1 k_ e_.symm)⟩))
  have HO0_8 := Aside0.mk (show Kd.R (Kd.int .i64) 3 w w0.heap.size (fun k_ => ((P0_0_ k_ ∨ P0_4_ k_ ∨ P0_6_ k_ ∨ P0_7_ k_ ∨ P0_8_ k_ ∨ P0_12_ k_) ∨ w.heap.size ≤ k_) ∧ some k_ ≠ (u9001_ : Value).ownBlock ∧ some k_ ≠ (u9003_ : Value).ownBlock ∧ some k_ ≠ (u9005_ : Value).ownBlock) u9004_ l0_8 from Kd.R_mono ho0_8 (fun k_ hk => ⟨(.inl (.inr (.inr (.inr (.inr (.inl hk)))))), fun e_ => hp0_8_0_4 k_ hk (ho0_4.1 k_ e_.symm), fun e_ => hp0_8_0_7 k_ hk (ho0_7.1 k_ e_.symm), fun e_ => hp0_8_0_12 k_ hk (ho0_12.1 k_ e_.symm)⟩))
  have HR0_9 := Aside0.mk hr0_9
  have HC0_9 := Aside0.mk hc0_9
  clear hr0_9 hc0_9
  have HR0_10 := Aside0.mk hr0_10
  have HC0_10 := Aside0.mk hc0_10
  clear hr0_10 hc0_10
  have HO0_12 := Aside0.mk (show Kd.R (Kd.int .i64) 3 w w0.heap.size (fun k_ => ((P0_0_ k_ ∨ P0_4_ k_ ∨ P0_6_ k_ ∨ P0_7_ k_ ∨ P0_8_ k_ ∨ P0_12_ k_) ∨ w.heap.size ≤ k_) ∧ some k_ ≠ (u9001_ : Value).ownBlock ∧ some k_ ≠ (u9003_ : Value).ownBlock ∧ some k_ ≠ (u9004_ : Value).ownBlock) u9005_ l0_12 from Kd.R_mono ho0_12 (fun k_ hk => ⟨(.inl (.inr (.inr (.inr (.inr (.inr hk)))))), fun e_ => hp0_12_0_4 k_ hk (ho0_4.1 k_ e_.symm), fun e_ => hp0_12_0_7 k_ hk (ho0_7.1 k_ e_.symm), fun e_ => hp0_12_0_8 k_ hk (ho0_8.1 k_ e_.symm)⟩))
  have HK := Aside0.mk (Kept.refl w (fun k_ => P0_0_ k_ ∨ P0_4_ k_ ∨ P0_6_ k_ ∨ P0_7_ k_ ∨ P0_8_ k_ ∨ P0_12_ k_))
  have HW0 := Aside0.mk hB.size
  have HB := Aside0.mk hB
  clear hB
  have H : ((laws_markBook.f k l0_0 a0_1 a0_2 a0_3 l0_4 a0_5 l0_6 l0_7 l0_8 a1).bind fun bt876 => ((laws_markNoteS.f l0_9 bt876.1).bind fun t882 => ((laws_markSentS.f l0_10 t882).bind fun t883 => ((laws_markCup.f k a0_11 l0_12 t883).bind fun bt884 => (some (bt884.1, bt876.2.1, bt876.2.2.1, bt876.2.2.2.1, bt876.2.2.2.2.1, bt876.2.2.2.2.2, bt884.2)))))) = some (r1, r2, r3, r4, r5, r6, r7) := h
  clear h
  replace H := Option.bind_eq_some_iff.mp H
  obtain ⟨⟨t876, t877, t878, t879, t880, t881⟩, A30, H⟩ := H
  replace H : ((laws_markNoteS.f l0_9 t876).bind fun t882 => ((laws_markSentS.f l0_10 t882).bind fun t883 => ((laws_markCup.f k a0_11 l0_12 t883).bind fun bt884 => (some (bt884.1, t877, t878, t879, t880, t881, bt884.2))))) = some (r1, r2, r3, r4, r5, r6, r7) := H
  have A3 := Aside0.mk A30
  clear A30
  replace H := Option.bind_eq_some_iff.mp H
  obtain ⟨t882, A40, H⟩ := H
  replace H : ((laws_markSentS.f l0_10 t882).bind fun t883 => ((laws_markCup.f k a0_11 l0_12 t883).bind fun bt884 => (some (bt884.1, t877, t878, t879, t880, t881, bt884.2)))) = some (r1, r2, r3, r4, r5, r6, r7) := H
  have A4 := Aside0.mk A40
  clear A40
  replace H := Option.bind_eq_some_iff.mp H
  obtain ⟨t883, A50, H⟩ := H
  replace H : ((laws_markCup.f k a0_11 l0_12 t883).bind fun bt884 => (some (bt884.1, t877, t878, t879, t880, t881, bt884.2))) = some (r1, r2, r3, r4, r5, r6, r7) := H
  have A5 := Aside0.mk A50
  clear A50
  replace H := Option.bind_eq_some_iff.mp H
  obtain ⟨⟨t884, t885⟩, A60, H⟩ := H
  replace H : (some (t884, t877, t878, t879, t880, t881, t885)) = some (r1, r2, r3, r4, r5, r6, r7) := H
  have A6 := Aside0.mk A60
  clear A60
  simp only [Option.some.injEq, Prod.mk.injEq] at H
  obtain ⟨rfl, rfl, rfl, rfl, rfl, rfl, rfl⟩ := H
  obtain ⟨Ao7, co7, eo7⟩ := Kd.R_slice HO0_0.out
  subst eo7
  obtain ⟨Ao8, co8, eo8⟩ := Kd.R_slice HO0_4.out
  subst eo8
  obtain ⟨Ao9, co9, eo9⟩ := Kd.R_slice HO0_6.out
  subst eo9
  obtain ⟨Ao10, co10, eo10⟩ := Kd.R_slice HO0_7.out
  subst eo10
  obtain ⟨Ao11, co11, eo11⟩ := Kd.R_slice HO0_8.out
  subst eo11
  obtain ⟨Ao12, co12, eo12⟩ := Kd.R_slice HO0_12.out
  subst eo12
  go_enter Try.func39, Try.ntmps39
  go_wp2_with (first | ((with_reducible refine gate_dst (N := 2) rfl ?_); refine bx (N := 2) (cs := #[.slice Ao7 l0_0.length co7, .int .i64 a0_1, .int .i64 a0_2, .int .i64 a0_3, .slice Ao8 l0_4.length co8, .bool a0_5, .slice Ao9 l0_6.length co9, .slice Ao10 l0_7.length co10, .slice Ao11 l0_8.length co11, .slice A0_9 l0_9.length c0_9, .slice A0_10 l0_10.length c0_10, .int .i64 a0_11, .slice Ao12 l0_12.length co12]) (t := 73) ?_; intro gb875 hg w13 hbox hb; replace HO0_0 := kr HO0_0 hb; replace HO0_4 := kr HO0_4 hb; replace HO0_6 := kr HO0_6 hb; replace HO0_7 := kr HO0_7 hb; replace HO0_8 := kr HO0_8 hb; replace HO0_12 := kr HO0_12 hb; have BK875 := Aside0.mk (hbox); have GW875 := Aside0.mk (by rw [hg]; exact (by first | exact HK.out.1 | exact (show Kept w _ (fun k_ => P0_0_ k_ ∨ P0_4_ k_ ∨ P0_6_ k_ ∨ P0_7_ k_ ∨ P0_8_ k_ ∨ P0_12_ k_) from by repeat (first | (with_reducible first | exact HK.out | apply Kept.alloc | apply Kept.drewN | apply Kept.drew) | exact HK.out)).1) : w.heap.size ≤ gb875); replace HK := Aside0.mk (Kept.below (S := (fun k_ => P0_0_ k_ ∨ P0_4_ k_ ∨ P0_6_ k_ ∨ P0_7_ k_ ∨ P0_8_ k_ ∨ P0_12_ k_)) (by repeat (first | (with_reducible first | exact HK.out | apply Kept.alloc | apply Kept.drewN | apply Kept.drew) | exact HK.out)) hb); have GE875 := gs hg HB; replace HB := hs_ HB hb; clear hb hbox hg; have hcz14_0 : w13.cell? ⟨gb875, 0, none⟩ = some (.slice Ao7 l0_0.length co7) := (blk_cell BK875.out 0).trans rfl; have hcz14_1 : w13.cell? ⟨gb875, 1, none⟩ = some (.int .i64 a0_1) := (blk_cell BK875.out 1).trans rfl; have hcz14_2 : w13.cell? ⟨gb875, 2, none⟩ = some (.int .i64 a0_2) := (blk_cell BK875.out 2).trans rfl; have hcz14_3 : w13.cell? ⟨gb875, 3, none⟩ = some (.int .i64 a0_3) := (blk_cell BK875.out 3).trans rfl; have hcz14_4 : w13.cell? ⟨gb875, 4, none⟩ = some (.slice Ao8 l0_4.length co8) := (blk_cell BK875.out 4).trans rfl; have hcz14_5 : w13.cell? ⟨gb875, 5, none⟩ = some (.bool a0_5) := (blk_cell BK875.out 5).trans rfl; have hcz14_6 : w13.cell? ⟨gb875, 6, none⟩ = some (.slice Ao9 l0_6.length co9) := (blk_cell BK875.out 6).trans rfl; have hcz14_7 : w13.cell? ⟨gb875, 7, none⟩ = some (.slice Ao10 l0_7.length co10) := (blk_cell BK875.out 7).trans rfl; have hcz14_8 : w13.cell? ⟨gb875, 8, none⟩ = some (.slice Ao11 l0_8.length co11) := (blk_cell BK875.out 8).trans rfl; have hcz14_9 : w13.cell? ⟨gb875, 9, none⟩ = some (.slice A0_9 l0_9.length c0_9) := (blk_cell BK875.out 9).trans rfl; have hcz14_10 : w13.cell? ⟨gb875, 10, none⟩ = some (.slice A0_10 l0_10.length c0_10) := (blk_cell BK875.out 10).trans rfl; have hcz14_11 : w13.cell? ⟨gb875, 11, none⟩ = some (.int .i64 a0_11) := (blk_cell BK875.out 11).trans rfl; have hcz14_12 : w13.cell? ⟨gb875, 12, none⟩ = some (.slice Ao12 l0_12.length co12) := (blk_cell BK875.out 12).trans rfl; have hfz14_0 := blk_frozen BK875.out 0; have hfz14_1 := blk_frozen BK875.out 1; have hfz14_2 := blk_frozen BK875.out 2; have hfz14_3 := blk_frozen BK875.out 3; have hfz14_4 := blk_frozen BK875.out 4; have hfz14_5 := blk_frozen BK875.out 5; have hfz14_6 := blk_frozen BK875.out 6; have hfz14_7 := blk_frozen BK875.out 7; have hfz14_8 := blk_frozen BK875.out 8; have hfz14_9 := blk_frozen BK875.out 9; have hfz14_10 := blk_frozen BK875.out 10; have hfz14_11 := blk_frozen BK875.out 11; have hfz14_12 := blk_frozen BK875.out 12) | ((with_reducible refine gate_callee (f := 87) rfl ?_); refine gl (some 8) Try.func87 #[.agg #[.slice Ao7 l0_0.length co7, .int .i64 a0_1, .int .i64 a0_2, .int .i64 a0_3, .slice Ao8 l0_4.length co8, .bool a0_5, .slice Ao9 l0_6.length co9, .slice Ao10 l0_7.length co10, .slice Ao11 l0_8.length co11], .int .i64 a1] ?_; (with_reducible refine (laws_markBook.calls k (fun k_ => some k_ = (.slice Ao7 l0_0.length co7 : Value).ownBlock) (.slice Ao7 l0_0.length co7) l0_0 a0_1 a0_2 a0_3 (fun k_ => some k_ = (.slice Ao8 l0_4.length co8 : Value).ownBlock) (.slice Ao8 l0_4.length co8) l0_4 a0_5 (fun k_ => some k_ = (.slice Ao9 l0_6.length co9 : Value).ownBlock) (.slice Ao9 l0_6.length co9) l0_6 (fun k_ => some k_ = (.slice Ao10 l0_7.length co10 : Value).ownBlock) (.slice Ao10 l0_7.length co10) l0_7 (fun k_ => some k_ = (.slice Ao11 l0_8.length co11 : Value).ownBlock) (.slice Ao11 l0_8.length co11) l0_8 a1 t876 t877 t878 t879 t880 t881 w0 _ ?side1 ?side2 ?side3 ?side4 ?side5 ?side6 ?side7 ?side8 ?side9 ?side10 ?side11 ?side12 A3.out).mono ?_); (case side1 => exact bb HB); (case side2 => exact Kd.R_tight rfl HO0_0.out); (case side3 => exact Kd.R_tight rfl HO0_4.out); (case side4 => exact fun k_ e_ => (HO0_4.out.1 k_ e_.symm).2.1); (case side5 => exact fun k_ e_ => (HO0_4.out.1 k_ e_.symm).2.2.1); (case side6 => exact Kd.R_tight rfl HO0_6.out); (case side7 => exact Kd.R_tight rfl HO0_7.out); (case side8 => exact fun k_ e_ => (HO0_7.out.1 k_ e_.symm).2.1); (case side9 => exact fun k_ e_ => (HO0_7.out.1 k_ e_.symm).2.2.1); (case side10 => exact Kd.R_tight rfl HO0_8.out); (case side11 => exact fun k_ e_ => (HO0_8.out.1 k_ e_.symm).2.1); (case side12 => exact fun k_ e_ => (HO0_8.out.1 k_ e_.symm).2.2.1); rintro e w15 ⟨rfl, hy0, hy1, hy2, hy3, hy4, hb, hkp⟩; refine ⟨_, rfl, ?_⟩; replace HO0_12 := Aside0.mk (Kd.R_mono (ok' := fun k_ => ((P0_0_ k_ ∨ P0_4_ k_ ∨ P0_6_ k_ ∨ P0_7_ k_ ∨ P0_8_ k_ ∨ P0_12_ k_) ∨ w.heap.size ≤ k_) ∧ some k_ ≠ (.slice Ao8 l0_4.length co8 : Value).ownBlock ∧ some k_ ≠ (.slice Ao10 l0_7.length co10 : Value).ownBlock ∧ some k_ ≠ (.slice Ao11 l0_8.length co11 : Value).ownBlock) (Kd.R_keptB ((Kd.R_apart' (Kd.R_apart' HO0_12.out (Kd.R_typed HO0_0.out) (by decide)) (Kd.R_typed HO0_6.out) (by decide))) hkp (fun k_ hk_ hs_ => Or.elim hs_ (fun e_ => (hk_.1.2) e_) (fun e_ => Or.elim e_ (fun e_ => (hk_.1.1.2.1) e_) (fun e_ => Or.elim e_ (fun e_ => (hk_.2) e_) (fun e_ => Or.elim e_ (fun e_ => (hk_.1.1.2.2.1) e_) (fun e_ => (hk_.1.1.2.2.2) e_)))))) (fun k_ hk_ => ⟨hk_.1.1.1.1, hk_.1.1.1.2.1, hk_.1.1.1.2.2.1, hk_.1.1.1.2.2.2⟩)); replace BK875 := Aside0.mk (blk_kept (bk BK875) hkp (fun hs_ => Or.elim hs_ (fun e_ => (fun e_ => (Kd.R_ne HO0_0.out BK875.out (by decide)) e_) e_) (fun e_ => Or.elim e_ (fun e_ => (fun e_ => (Kd.R_ne HO0_4.out BK875.out (by decide)) e_) e_) (fun e_ => Or.elim e_ (fun e_ => (fun e_ => (Kd.R_ne HO0_6.out BK875.out (by decide)) e_) e_) (fun e_ => Or.elim e_ (fun e_ => (fun e_ => (Kd.R_ne HO0_7.out BK875.out (by decide)) e_) e_) (fun e_ => (fun e_ => (Kd.R_ne HO0_8.out BK875.out (by decide)) e_) e_)))))); replace HK := Aside0.mk (Kept.then_ (S := (fun k_ => P0_0_ k_ ∨ P0_4_ k_ ∨ P0_6_ k_ ∨ P0_7_ k_ ∨ P0_8_ k_ ∨ P0_12_ k_)) (by repeat (first | (with_reducible first | exact HK.out | apply Kept.alloc | apply Kept.drewN | apply Kept.drew | refine Kept.setCell ?_ (.inr GW875.out) _) | exact HK.out)) hkp (fun k_ hs_ => Or.elim hs_ (fun e_ => (fun e_ => (HO0_0.out.1 k_ e_.symm)) e_) (fun e_ => Or.elim e_ (fun e_ => (fun e_ => (HO0_4.out.1 k_ e_.symm).1) e_) (fun e_ => Or.elim e_ (fun e_ => (fun e_ => (HO0_6.out.1 k_ e_.symm)) e_) (fun e_ => Or.elim e_ (fun e_ => (fun e_ => (HO0_7.out.1 k_ e_.symm).1) e_) (fun e_ => (fun e_ => (HO0_8.out.1 k_ e_.symm).1) e_)))))); replace HO0_0 := Aside0.mk (Kd.R_reok rfl hy0 (fun k_ e_ => HO0_0.out.1 k_ e_)); replace HO0_4 := Aside0.mk (Kd.R_reok rfl hy1 (fun k_ e_ => HO0_4.out.1 k_ e_)); replace HO0_6 := Aside0.mk (Kd.R_reok rfl hy2 (fun k_ e_ => HO0_6.out.1 k_ e_)); replace HO0_7 := Aside0.mk (Kd.R_reok rfl hy3 (fun k_ e_ => HO0_7.out.1 k_ e_)); replace HO0_8 := Aside0.mk (Kd.R_reok rfl hy4 (fun k_ e_ => HO0_8.out.1 k_ e_)); replace HB := Aside0.mk (hb); (try clear hb); (try clear hkp); (try clear hy0); (try clear hy1); (try clear hy2); (try clear hy3); (try clear hy4); have hcz16_0 : w15.cell? ⟨gb875, 0, none⟩ = some (.slice Ao7 l0_0.length co7) := (blk_cell BK875.out 0).trans rfl; have hcz16_1 : w15.cell? ⟨gb875, 1, none⟩ = some (.int .i64 a0_1) := (blk_cell BK875.out 1).trans rfl; have hcz16_2 : w15.cell? ⟨gb875, 2, none⟩ = some (.int .i64 a0_2) := (blk_cell BK875.out 2).trans rfl; have hcz16_3 : w15.cell? ⟨gb875, 3, none⟩ = some (.int .i64 a0_3) := (blk_cell BK875.out 3).trans rfl; have hcz16_4 : w15.cell? ⟨gb875, 4, none⟩ = some (.slice Ao8 l0_4.length co8) := (blk_cell BK875.out 4).trans rfl; have hcz16_5 : w15.cell? ⟨gb875, 5, none⟩ = some (.bool a0_5) := (blk_cell BK875.out 5).trans rfl; have hcz16_6 : w15.cell? ⟨gb875, 6, none⟩ = some (.slice Ao9 l0_6.length co9) := (blk_cell BK875.out 6).trans rfl; have hcz16_7 : w15.cell? ⟨gb875, 7, none⟩ = some (.slice Ao10 l0_7.length co10) := (blk_cell BK875.out 7).trans rfl; have hcz16_8 : w15.cell? ⟨gb875, 8, none⟩ = some (.slice Ao11 l0_8.length co11) := (blk_cell BK875.out 8).trans rfl; have hcz16_9 : w15.cell? ⟨gb875, 9, none⟩ = some (.slice A0_9 l0_9.length c0_9) := (blk_cell BK875.out 9).trans rfl; have hcz16_10 : w15.cell? ⟨gb875, 10, none⟩ = some (.slice A0_10 l0_10.length c0_10) := (blk_cell BK875.out 10).trans rfl; have hcz16_11 : w15.cell? ⟨gb875, 11, none⟩ = some (.int .i64 a0_11) := (blk_cell BK875.out 11).trans rfl; have hcz16_12 : w15.cell? ⟨gb875, 12, none⟩ = some (.slice Ao12 l0_12.length co12) := (blk_cell BK875.out 12).trans rfl; have hfz16_0 := blk_frozen BK875.out 0; have hfz16_1 := blk_frozen BK875.out 1; have hfz16_2 := blk_frozen BK875.out 2; have hfz16_3 := blk_frozen BK875.out 3; have hfz16_4 := blk_frozen BK875.out 4; have hfz16_5 := blk_frozen BK875.out 5; have hfz16_6 := blk_frozen BK875.out 6; have hfz16_7 := blk_frozen BK875.out 7; have hfz16_8 := blk_frozen BK875.out 8; have hfz16_9 := blk_frozen BK875.out 9; have hfz16_10 := blk_frozen BK875.out 10; have hfz16_11 := blk_frozen BK875.out 11; have hfz16_12 := blk_frozen BK875.out 12) | ((with_reducible refine gate_callee (f := 88) rfl ?_); refine gl (some 12) Try.func88 #[.slice A0_9 l0_9.length c0_9, .int .i64 t876] ?_; (with_reducible refine (laws_markNoteS.calls _ _ l0_9 t876 t882 _ ?side1 ?side2 A4.out).mono ?_); (case side1 => exact Kd.C_kept_now HR0_9.out (by repeat (first | (with_reducible first | exact HK.out | apply Kept.alloc | apply Kept.drewN | apply Kept.drew | refine Kept.setCell ?_ (.inr GW875.out) _) | exact HK.out))); (case side2 => exact HC0_9.out); rintro e w' ⟨rfl, ⟨nd, rfl⟩⟩; refine ⟨_, rfl, ?_⟩) | ((with_reducible refine gate_callee (f := 89) rfl ?_); refine gl (some 16) Try.func89 #[.slice A0_10 l0_10.length c0_10, .int .i64 t882] ?_; (with_reducible refine (laws_markSentS.calls _ _ l0_10 t882 t883 _ ?side1 ?side2 A5.out).mono ?_); (case side1 => exact Kd.C_kept_now HR0_10.out (by repeat (first | (with_reducible first | exact HK.out | apply Kept.alloc | apply Kept.drewN | apply Kept.drew | refine Kept.setCell ?_ (.inr GW875.out) _) | exact HK.out))); (case side2 => exact HC0_10.out); rintro e w' ⟨rfl, ⟨nd, rfl⟩⟩; refine ⟨_, rfl, ?_⟩) | ((with_reducible refine gate_callee (f := 90) rfl ?_); refine gl (some 20) Try.func90 #[.agg #[.int .i64 a0_11, .slice Ao12 l0_12.length co12], .int .i64 t883] ?_; (with_reducible refine (laws_markCup.calls k a0_11 (fun k_ => some k_ = (.slice Ao12 l0_12.length co12 : Value).ownBlock) (.slice Ao12 l0_12.length co12) l0_12 t883 t884 t885 w0 _ ?side1 ?side2 A6.out).mono ?_); (case side1 => exact bb HB); (case side2 => exact Kd.R_tight rfl HO0_12.out); rintro e w17 ⟨rfl, hy0, hb, hkp⟩; refine ⟨_, rfl, ?_⟩; replace HO0_0 := Aside0.mk (Kd.R_mono (ok' := fun k_ => ((P0_0_ k_ ∨ P0_4_ k_ ∨ P0_6_ k_ ∨ P0_7_ k_ ∨ P0_8_ k_ ∨ P0_12_ k_) ∨ w.heap.size ≤ k_)) (Kd.R_keptB ((Kd.R_apart' HO0_0.out (Kd.R_typed HO0_12.out) (by decide))) hkp (fun k_ hk_ hs_ => (hk_.2) hs_)) (fun k_ hk_ => hk_.1.1)); replace HO0_4 := Aside0.mk (Kd.R_mono (ok' := fun k_ => ((P0_0_ k_ ∨ P0_4_ k_ ∨ P0_6_ k_ ∨ P0_7_ k_ ∨ P0_8_ k_ ∨ P0_12_ k_) ∨ w.heap.size ≤ k_) ∧ some k_ ≠ (.slice Ao10 l0_7.length co10 : Value).ownBlock ∧ some k_ ≠ (.slice Ao11 l0_8.length co11 : Value).ownBlock ∧ some k_ ≠ (.slice Ao12 l0_12.length co12 : Value).ownBlock) (Kd.R_keptB (HO0_4.out) hkp (fun k_ hk_ hs_ => (hk_.2.2.2) hs_)) (fun k_ hk_ => ⟨hk_.1.1, hk_.1.2.1, hk_.1.2.2.1, hk_.1.2.2.2⟩)); replace HO0_6 := Aside0.mk (Kd.R_mono (ok' := fun k_ => ((P0_0_ k_ ∨ P0_4_ k_ ∨ P0_6_ k_ ∨ P0_7_ k_ ∨ P0_8_ k_ ∨ P0_12_ k_) ∨ w.heap.size ≤ k_)) (Kd.R_keptB ((Kd.R_apart' HO0_6.out (Kd.R_typed HO0_12.out) (by decide))) hkp (fun k_ hk_ hs_ => (hk_.2) hs_)) (fun k_ hk_ => hk_.1.1)); replace HO0_7 := Aside0.mk (Kd.R_mono (ok' := fun k_ => ((P0_0_ k_ ∨ P0_4_ k_ ∨ P0_6_ k_ ∨ P0_7_ k_ ∨ P0_8_ k_ ∨ P0_12_ k_) ∨ w.heap.size ≤ k_) ∧ some k_ ≠ (.slice Ao8 l0_4.length co8 : Value).ownBlock ∧ some k_ ≠ (.slice Ao11 l0_8.length co11 : Value).ownBlock ∧ some k_ ≠ (.slice Ao12 l0_12.length co12 : Value).ownBlock) (Kd.R_keptB (HO0_7.out) hkp (fun k_ hk_ hs_ => (hk_.2.2.2) hs_)) (fun k_ hk_ => ⟨hk_.1.1, hk_.1.2.1, hk_.1.2.2.1, hk_.1.2.2.2⟩)); replace HO0_8 := Aside0.mk (Kd.R_mono (ok' := fun k_ => ((P0_0_ k_ ∨ P0_4_ k_ ∨ P0_6_ k_ ∨ P0_7_ k_ ∨ P0_8_ k_ ∨ P0_12_ k_) ∨ w.heap.size ≤ k_) ∧ some k_ ≠ (.slice Ao8 l0_4.length co8 : Value).ownBlock ∧ some k_ ≠ (.slice Ao10 l0_7.length co10 : Value).ownBlock ∧ some k_ ≠ (.slice Ao12 l0_12.length co12 : Value).ownBlock) (Kd.R_keptB (HO0_8.out) hkp (fun k_ hk_ hs_ => (hk_.2.2.2) hs_)) (fun k_ hk_ => ⟨hk_.1.1, hk_.1.2.1, hk_.1.2.2.1, hk_.1.2.2.2⟩)); replace BK875 := Aside0.mk (blk_kept (bk BK875) hkp (fun hs_ => (fun e_ => (Kd.R_ne HO0_12.out BK875.out (by decide)) e_) hs_)); replace HK := Aside0.mk (Kept.then_ (S := (fun k_ => P0_0_ k_ ∨ P0_4_ k_ ∨ P0_6_ k_ ∨ P0_7_ k_ ∨ P0_8_ k_ ∨ P0_12_ k_)) (by repeat (first | (with_reducible first | exact HK.out | apply Kept.alloc | apply Kept.drewN | apply Kept.drew | refine Kept.setCell ?_ (.inr GW875.out) _) | exact HK.out)) hkp (fun k_ hs_ => (fun e_ => (HO0_12.out.1 k_ e_.symm).1) hs_)); replace HO0_12 := Aside0.mk (Kd.R_reok rfl hy0 (fun k_ e_ => HO0_12.out.1 k_ e_)); replace HB := Aside0.mk (hb); (try clear hb); (try clear hkp); (try clear hy0)))
  go_ret
  exact ⟨ee, rr HO0_0, ro HO0_4 (fun _ hk => hk.1), rr HO0_6, ro HO0_7 (fun _ hk => hk.1), ro HO0_8 (fun _ hk => hk.1), ro HO0_12 (fun _ hk => hk.1), bb HB, by repeat (first | (with_reducible first | exact HK.out | apply Kept.alloc | apply Kept.drewN | apply Kept.drew | refine Kept.setCell ?_ (.inr GW875.out) _) | exact HK.out)⟩
end Go.Proofs.Ytibmeomlokigjaa.Q
namespace Go.Proofs.Ytibmeomlokigjaa.Q
open Go.RowKit Go.Proofs.YtibmeomlokigjaaW.PrintWords Go.Proofs.YtibmeomlokigjaaW.PrintLast Go.Proofs.YtibmeomlokigjaaW.PrintMore
attribute [local go_sem] max2_int min2_int max_two min_two max_three min_three max_four min_four
set_option linter.unusedVariables false
set_option linter.unusedSimpArgs false
def laws_heldTeamS.l0 : Nat → List (S132) → Int → Int → Option (Int)
  | 0, _, _, _ => none
  | k + 1, x0, x1, x5 => if x5 < (x0.length : Int) then (if 0 ≤ x5 then ((laws_markText.f k x1).bind fun t887 => (if ((rd_T132 x0 x5).f0).toList = t887.toList then (if ((rd_T132 x0 x5).f1) = (wrap64 (x1 + 1)) then (if ((rd_T132 x0 x5).f2) = (wrap64 ((wrap64 (x1 + 1)) + 1)) then (laws_heldTeamS.l0 k x0 (wrap64 ((wrap64 ((wrap64 (x1 + 1)) + 1)) + 1)) (wrap64 (x5 + 1))) else (some (-1))) else (some (-1))) else (some (-1)))) else (none)) else (some x1)
def laws_heldTeamS.f (k : Nat) (l0 : List (S132)) (a1 : Int) : Option (Int) := laws_heldTeamS.l0 k l0 a1 0
def laws_heldTeamS.T4 : Bool × List (List Nat × List Nat) := (true, [([], []), ([], []), ([0, 1], [0, 1]), ([2], [2]), ([3], [3]), ([], []), ([5], [5]), ([4, 6], [4, 6])])
def laws_heldTeamS.B4 : List Nat := [0, 0, 3, 7, 15, 0, 32, 127]
theorem laws_heldTeamS.tab4 : rtab .any (opsOf Try.f129 4) = laws_heldTeamS.T4 := by kernel_rfl
theorem laws_heldTeamS.bits4 : waitsOk laws_heldTeamS.T4.2 laws_heldTeamS.B4 = true := by kernel_rfl
set_option maxHeartbeats 8000000 in
set_option maxRecDepth 100000 in
theorem laws_heldTeamS.calls (k : Nat) (A0 : Option Addr) (c0 : Nat) (l0 : List (S132)) (a1 : Int) (r : Int) (w : World) (hr0 : Kd.C k132 w A0 l0.length l0) (hc0 : l0.length ≤ c0) (h : laws_heldTeamS.f k l0 a1 = some r) :
    Calls Try.prog 129 #[.slice A0 l0.length c0, .int .i64 a1] w fun e w' => e = .returned (.int .i64 r) ∧ Below w.heap.size w w' := by
  have HR0 := Aside0.mk hr0
  have HC0 := Aside0.mk hc0
  clear hr0 hc0
  have HB := Aside0.mk (Below.refl w.heap.size w)
  have H : (laws_heldTeamS.l0 k l0 a1 0) = some r := h
  clear h
  have H' := Aside0.mk H
  clear H
  go_enter Try.func129, Try.ntmps129
  go_wp2
  go_loopg [1, 5] k (fun kq v1 v5 w' => ∃ (x1_1 : Int) (x5_1 : Int), v1 = .int .i64 x1_1 ∧ v5 = .int .i64 x5_1 ∧ Aside0 (laws_heldTeamS.l0 kq l0 x1_1 x5_1 = some r) ∧ Aside0 (kq ≤ k) ∧ Aside0 (Below w.heap.size w w'))
  case atStart => exact ⟨(a1), (0), e2_, e2_, H', ⟨Nat.le_refl _⟩, ⟨bb HB⟩⟩
  case round =>
    clear H'
    (try clear c1)
    (try clear p2)
    obtain ⟨x1_1, x5_1, rfl, rfl, HA, HK1, HB⟩ := hrel
    cases gk with
    | zero => exact absurd HA.out (by simp [laws_heldTeamS.l0])
    | succ k1 =>
      have H := HA.out
      clear HA
      simp only [laws_heldTeamS.l0] at H
      by_cases c3 : x5_1 < (l0.length : Int)
      · rw [if_pos c3] at H
        have c3b0 : decide (x5_1 < (l0.length : Int)) = true := decide_eq_true c3
        clear c3
        by_cases c4 : 0 ≤ x5_1
        · rw [if_pos c4] at H
          have c4b0 : decide (0 ≤ x5_1) = true := decide_eq_true c4
          clear c4
          replace H := Option.bind_eq_some_iff.mp H
          obtain ⟨t887, A50, H⟩ := H
          replace H : (if ((rd_T132 l0 x5_1).f0).toList = t887.toList then (if ((rd_T132 l0 x5_1).f1) = (wrap64 (x1_1 + 1)) then (if ((rd_T132 l0 x5_1).f2) = (wrap64 ((wrap64 (x1_1 + 1)) + 1)) then (laws_heldTeamS.l0 k1 l0 (wrap64 ((wrap64 ((wrap64 (x1_1 + 1)) + 1)) + 1)) (wrap64 (x5_1 + 1))) else (some (-1))) else (some (-1))) else (some (-1))) = some r := H
          have A5 := Aside0.mk A50
          clear A50
          by_cases c6 : ((rd_T132 l0 x5_1).f0).toList = t887.toList
          · rw [if_pos c6] at H
            have c6b0 : (((rd_T132 l0 x5_1).f0).toList == t887.toList) = true := beq_iff_eq.mpr c6
            have c6b1 : (((rd_T132 l0 x5_1).f0).toList != t887.toList) = false := bne_eq_false_iff_eq.mpr c6
            clear c6
            by_cases c7 : ((rd_T132 l0 x5_1).f1) = (wrap64 (x1_1 + 1))
            · rw [if_pos c7] at H
              have c7b0 : (((rd_T132 l0 x5_1).f1) == (wrap64 (x1_1 + 1))) = true := beq_iff_eq.mpr c7
              have c7b1 : (((rd_T132 l0 x5_1).f1) != (wrap64 (x1_1 + 1))) = false := bne_eq_false_iff_eq.mpr c7
              clear c7
              by_cases c8 : ((rd_T132 l0 x5_1).f2) = (wrap64 ((wrap64 (x1_1 + 1)) + 1))
              · rw [if_pos c8] at H
                have c8b0 : (((rd_T132 l0 x5_1).f2) == (wrap64 ((wrap64 (x1_1 + 1)) + 1))) = true := beq_iff_eq.mpr c8
                have c8b1 : (((rd_T132 l0 x5_1).f2) != (wrap64 ((wrap64 (x1_1 + 1)) + 1))) = false := bne_eq_false_iff_eq.mpr c8
                clear c8
                have H' := Aside0.mk H
                clear H
                try go_wp2
                replace HB := Aside0.mk (below_drew1 HB.out)
                have p886 : 0 ≤ (x5_1 : Int) := of_decide_eq_true (by first | (with_reducible assumption) | assumption)
                have q886 : x5_1 < (l0.length : Int) := of_decide_eq_true (by first | (with_reducible assumption) | assumption)
                obtain ⟨ad886, e886, hx886_0, hx886_1, hx886_2⟩ := at_T132 HR0.out x5_1 p886 q886
                have hw886_2 := hx886_2
                have hw886_1 := hx886_1
                have hw886_0 := hx886_0
                cases e886
                replace hx886_0 := (HB.out.cell (World.block_lt_of_cell? w _ hx886_0)).trans hx886_0
                replace hx886_1 := (HB.out.cell (World.block_lt_of_cell? w _ hx886_1)).trans hx886_1
                replace hx886_2 := (HB.out.cell (World.block_lt_of_cell? w _ hx886_2)).trans hx886_2
                replace p886 := eq_true p886
                replace q886 := eq_true q886
                refine start_ (n := 8) (S := fun w' => w'.cell? (ad886.add ((x5_1).toNat * 3)) = some (.string ((rd_T132 l0 x5_1).f0)) ∧ w'.cell? ⟨(ad886.add ((x5_1).toNat * 3)).block, (ad886.add ((x5_1).toNat * 3)).off + 1, none⟩ = some (.int .i64 ((rd_T132 l0 x5_1).f1)) ∧ w'.cell? ⟨(ad886.add ((x5_1).toNat * 3)).block, (ad886.add ((x5_1).toNat * 3)).off + 2, none⟩ = some (.int .i64 ((rd_T132 l0 x5_1).f2))) (ds := []) #[false, false, false, false, false, false, false, false] (by kernel_rfl) rfl rfl ⟨((HB.out.cell (World.block_lt_of_cell? w _ hw886_0)).trans hw886_0), ((HB.out.cell (World.block_lt_of_cell? w _ hw886_1)).trans hw886_1), ((HB.out.cell (World.block_lt_of_cell? w _ hw886_2)).trans hw886_2)⟩ (fun hHeld => ?_); refine with_tabW laws_heldTeamS.tab4 laws_heldTeamS.bits4 (fun HT_ HW_ => ?_)
                generalize wr.drew = w9 at HB hx886_0 hx886_1 hx886_2 hHeld ⊢
                refine pure_ (i := 0) (N := some 12) (v := ?_) (a' := ?_) #[true, false, false, false, false, false, false, false] rfl rfl (any_of HT_.out (by kernel_rfl)) (fun _ _ _ h => h) (Or.inl ⟨by rfl, ?_⟩) ?_ ?_
                rotate_left
                · intro w'
                  go_simp
                  with_reducible rfl
                rotate_left
                · simp only [Act.put, List.setIfInBounds_toArray, List.set_cons_zero, List.set_cons_succ, i64_w, i32_w]
                  rfl
                refine pure_ (i := 1) (N := some 13) (v := ?_) (a' := ?_) #[true, true, false, false, false, false, false, false] rfl rfl (any_of HT_.out (by kernel_rfl)) (fun _ _ _ h => h) (Or.inl ⟨by rfl, ?_⟩) ?_ ?_
                rotate_left
                · intro w'
                  go_simp
                  with_reducible rfl
                rotate_left
                · simp only [Act.put, List.setIfInBounds_toArray, List.set_cons_zero, List.set_cons_succ, i64_w, i32_w]
                  rfl
                refine pure_ (i := 2) (N := some 14) (v := ?_) (a' := ?_) #[true, true, true, false, false, false, false, false] rfl rfl (any_of HT_.out (by kernel_rfl)) (fun _ _ _ h => h) (Or.inl ⟨by rfl, ?_⟩) ?_ ?_
                rotate_left
                · intro w'
                  go_simp
                  with_reducible rfl
                rotate_left
                · simp only [Act.put, List.setIfInBounds_toArray, List.set_cons_zero, List.set_cons_succ, i64_w, i32_w]
                  rfl
                refine pure_ (i := 3) (N := some 15) (v := ?_) (a' := ?_) #[true, true, true, true, false, false, false, false] rfl rfl (any_of HT_.out (by kernel_rfl)) (fun _ _ _ h => h) (Or.inl ⟨by rfl, ?_⟩) ?_ ?_
                rotate_left
                · intro w'
                  go_simp
                  with_reducible rfl
                rotate_left
                · simp only [Act.put, List.setIfInBounds_toArray, List.set_cons_zero, List.set_cons_succ, i64_w, i32_w]
                  rfl
                refine pure_ (i := 5) (N := some 17) (v := ?_) (a' := ?_) #[true, true, true, true, false, true, false, false] rfl rfl (any_of HT_.out (by kernel_rfl)) (fun _ _ _ h => h) (Or.inl ⟨by rfl, ?_⟩) ?_ ?_
                rotate_left
                · intro w'
                  go_simp
                  with_reducible rfl
                rotate_left
                · simp only [Act.put, List.setIfInBounds_toArray, List.set_cons_zero, List.set_cons_succ, i64_w, i32_w]
                  rfl
                refine take_ (i := 4) (N := some 16) (v := ?_) (a' := ?_) #[true, true, true, true, true, true, false, false] rfl rfl (take_ofW HT_.out HW_.out (by kernel_rfl)) (fun _ _ _ h => h) (Or.inl ⟨by rfl, ?_⟩) hHeld ?_ ?_
                rotate_left
                · rintro w' ⟨s0, s1, s2⟩
                  go_simp
                  with_reducible rfl
                rotate_left
                · simp only [Act.put, List.setIfInBounds_toArray, List.set_cons_zero, List.set_cons_succ, i64_w, i32_w]
                  rfl
                refine one_ (i := 6) (N := some 18) #[true, true, true, true, true, true, true, false] rfl rfl (one_of HT_.out (by kernel_rfl)) (by decide) (fun K hK => ?_)
                refine goes_ Try.func147 (by kernel_rfl) rfl #[.int .i64 x1_1] (by rfl) rfl rfl (by (try simp only [List.map_toArray, List.map_cons, List.map_nil]); first | done | rfl | (simp only [List.length_drop, List.length_take]; rfl)) ?_
                with_reducible refine (laws_markText.calls k1 x1_1 t887 _ A5.out).mono ?_
                rintro e w10 ⟨rfl, hb⟩
                refine ⟨_, rfl, ?_⟩
                replace HB := hs_ HB hb
                (try clear hb)
                (try clear hb2)
                (try clear hk)
                (try clear hi)
                refine hK.out _ _ ⟨((HB.out.cell (World.block_lt_of_cell? w _ hw886_0)).trans hw886_0), ((HB.out.cell (World.block_lt_of_cell? w _ hw886_1)).trans hw886_1), ((HB.out.cell (World.block_lt_of_cell? w _ hw886_2)).trans hw886_2)⟩ (fun hHeld => ?_)
                clear hK K
                refine norm_ (a' := ?_) ?_ ?_
                rotate_left
                · show Act.put _ (some 18) _ = _
                  simp only [Act.put, List.setIfInBounds_toArray, List.set_cons_zero, List.set_cons_succ, i64_w, i32_w]
                  rfl
                refine pure_ (i := 7) (N := some 19) (v := ?_) (a' := ?_) #[true, true, true, true, true, true, true, true] rfl rfl (any_of HT_.out (by kernel_rfl)) (fun _ _ _ h => h) (Or.inl ⟨by rfl, ?_⟩) ?_ ?_
                rotate_left
                · intro w'
                  go_simp
                  with_reducible rfl
                rotate_left
                · simp only [Act.put, List.setIfInBounds_toArray, List.set_cons_zero, List.set_cons_succ, i64_w, i32_w]
                  rfl
                refine done_ (done_of HT_.out (by kernel_rfl)) ?_
                have p888 : 0 ≤ (x5_1 : Int) := of_decide_eq_true (by first | (with_reducible assumption) | assumption)
                have q888 : x5_1 < (l0.length : Int) := of_decide_eq_true (by first | (with_reducible assumption) | assumption)
                obtain ⟨ad888, e888, hx888_0, hx888_1, hx888_2⟩ := at_T132 HR0.out x5_1 p888 q888
                obtain rfl : ad886 = ad888 := (by injection e888)
                replace hx888_0 := (HB.out.cell (World.block_lt_of_cell? w _ hx888_0)).trans hx888_0
                replace hx888_1 := (HB.out.cell (World.block_lt_of_cell? w _ hx888_1)).trans hx888_1
                replace hx888_2 := (HB.out.cell (World.block_lt_of_cell? w _ hx888_2)).trans hx888_2
                replace p888 := eq_true p888
                replace q888 := eq_true q888
                have p889 : 0 ≤ (x5_1 : Int) := of_decide_eq_true (by first | (with_reducible assumption) | assumption)
                have q889 : x5_1 < (l0.length : Int) := of_decide_eq_true (by first | (with_reducible assumption) | assumption)
                obtain ⟨ad889, e889, hx889_0, hx889_1, hx889_2⟩ := at_T132 HR0.out x5_1 p889 q889
                obtain rfl : ad886 = ad889 := (by injection e889)
                replace hx889_0 := (HB.out.cell (World.block_lt_of_cell? w _ hx889_0)).trans hx889_0
                replace hx889_1 := (HB.out.cell (World.block_lt_of_cell? w _ hx889_1)).trans hx889_1
                replace hx889_2 := (HB.out.cell (World.block_lt_of_cell? w _ hx889_2)).trans hx889_2
                replace p889 := eq_true p889
                replace q889 := eq_true q889
                try go_wp2
                go_roundg k1
                case measure => have := HK1.out; omega
                case rel => exact ⟨(wrap64 ((wrap64 ((wrap64 (x1_1 + 1)) + 1)) + 1)), (wrap64 (x5_1 + 1)), e2_, e2_, H', ⟨by have := HK1.out; omega⟩, ⟨bb HB⟩⟩
              · rw [if_neg c8] at H
                have c8b0 : (((rd_T132 l0 x5_1).f2) == (wrap64 ((wrap64 (x1_1 + 1)) + 1))) = false := beq_eq_false_iff_ne.mpr c8
                have c8b1 : (((rd_T132 l0 x5_1).f2) != (wrap64 ((wrap64 (x1_1 + 1)) + 1))) = true := bne_iff_ne.mpr c8
                obtain rfl := Option.some.inj H
                try go_wp2
                replace HB := Aside0.mk (below_drew1 HB.out)
                have p886 : 0 ≤ (x5_1 : Int) := of_decide_eq_true (by first | (with_reducible assumption) | assumption)
                have q886 : x5_1 < (l0.length : Int) := of_decide_eq_true (by first | (with_reducible assumption) | assumption)
                obtain ⟨ad886, e886, hx886_0, hx886_1, hx886_2⟩ := at_T132 HR0.out x5_1 p886 q886
                have hw886_2 := hx886_2
                have hw886_1 := hx886_1
                have hw886_0 := hx886_0
                cases e886
                replace hx886_0 := (HB.out.cell (World.block_lt_of_cell? w _ hx886_0)).trans hx886_0
                replace hx886_1 := (HB.out.cell (World.block_lt_of_cell? w _ hx886_1)).trans hx886_1
                replace hx886_2 := (HB.out.cell (World.block_lt_of_cell? w _ hx886_2)).trans hx886_2
                replace p886 := eq_true p886
                replace q886 := eq_true q886
                refine start_ (n := 8) (S := fun w' => w'.cell? (ad886.add ((x5_1).toNat * 3)) = some (.string ((rd_T132 l0 x5_1).f0)) ∧ w'.cell? ⟨(ad886.add ((x5_1).toNat * 3)).block, (ad886.add ((x5_1).toNat * 3)).off + 1, none⟩ = some (.int .i64 ((rd_T132 l0 x5_1).f1)) ∧ w'.cell? ⟨(ad886.add ((x5_1).toNat * 3)).block, (ad886.add ((x5_1).toNat * 3)).off + 2, none⟩ = some (.int .i64 ((rd_T132 l0 x5_1).f2))) (ds := []) #[false, false, false, false, false, false, false, false] (by kernel_rfl) rfl rfl ⟨((HB.out.cell (World.block_lt_of_cell? w _ hw886_0)).trans hw886_0), ((HB.out.cell (World.block_lt_of_cell? w _ hw886_1)).trans hw886_1), ((HB.out.cell (World.block_lt_of_cell? w _ hw886_2)).trans hw886_2)⟩ (fun hHeld => ?_); refine with_tabW laws_heldTeamS.tab4 laws_heldTeamS.bits4 (fun HT_ HW_ => ?_)
                generalize wr.drew = w11 at HB hx886_0 hx886_1 hx886_2 hHeld ⊢
                refine pure_ (i := 0) (N := some 12) (v := ?_) (a' := ?_) #[true, false, false, false, false, false, false, false] rfl rfl (any_of HT_.out (by kernel_rfl)) (fun _ _ _ h => h) (Or.inl ⟨by rfl, ?_⟩) ?_ ?_
                rotate_left
                · intro w'
                  go_simp
                  with_reducible rfl
                rotate_left
                · simp only [Act.put, List.setIfInBounds_toArray, List.set_cons_zero, List.set_cons_succ, i64_w, i32_w]
                  rfl
                refine pure_ (i := 1) (N := some 13) (v := ?_) (a' := ?_) #[true, true, false, false, false, false, false, false] rfl rfl (any_of HT_.out (by kernel_rfl)) (fun _ _ _ h => h) (Or.inl ⟨by rfl, ?_⟩) ?_ ?_
                rotate_left
                · intro w'
                  go_simp
                  with_reducible rfl
                rotate_left
                · simp only [Act.put, List.setIfInBounds_toArray, List.set_cons_zero, List.set_cons_succ, i64_w, i32_w]
                  rfl
                refine pure_ (i := 2) (N := some 14) (v := ?_) (a' := ?_) #[true, true, true, false, false, false, false, false] rfl rfl (any_of HT_.out (by kernel_rfl)) (fun _ _ _ h => h) (Or.inl ⟨by rfl, ?_⟩) ?_ ?_
                rotate_left
                · intro w'
                  go_simp
                  with_reducible rfl
                rotate_left
                · simp only [Act.put, List.setIfInBounds_toArray, List.set_cons_zero, List.set_cons_succ, i64_w, i32_w]
                  rfl
                refine pure_ (i := 3) (N := some 15) (v := ?_) (a' := ?_) #[true, true, true, true, false, false, false, false] rfl rfl (any_of HT_.out (by kernel_rfl)) (fun _ _ _ h => h) (Or.inl ⟨by rfl, ?_⟩) ?_ ?_
                rotate_left
                · intro w'
                  go_simp
                  with_reducible rfl
                rotate_left
                · simp only [Act.put, List.setIfInBounds_toArray, List.set_cons_zero, List.set_cons_succ, i64_w, i32_w]
                  rfl
                refine pure_ (i := 5) (N := some 17) (v := ?_) (a' := ?_) #[true, true, true, true, false, true, false, false] rfl rfl (any_of HT_.out (by kernel_rfl)) (fun _ _ _ h => h) (Or.inl ⟨by rfl, ?_⟩) ?_ ?_
                rotate_left
                · intro w'
                  go_simp
                  with_reducible rfl
                rotate_left
                · simp only [Act.put, List.setIfInBounds_toArray, List.set_cons_zero, List.set_cons_succ, i64_w, i32_w]
                  rfl
                refine take_ (i := 4) (N := some 16) (v := ?_) (a' := ?_) #[true, true, true, true, true, true, false, false] rfl rfl (take_ofW HT_.out HW_.out (by kernel_rfl)) (fun _ _ _ h => h) (Or.inl ⟨by rfl, ?_⟩) hHeld ?_ ?_
                rotate_left
                · rintro w' ⟨s0, s1, s2⟩
                  go_simp
                  with_reducible rfl
                rotate_left
                · simp only [Act.put, List.setIfInBounds_toArray, List.set_cons_zero, List.set_cons_succ, i64_w, i32_w]
                  rfl
                refine one_ (i := 6) (N := some 18) #[true, true, true, true, true, true, true, false] rfl rfl (one_of HT_.out (by kernel_rfl)) (by decide) (fun K hK => ?_)
                refine goes_ Try.func147 (by kernel_rfl) rfl #[.int .i64 x1_1] (by rfl) rfl rfl (by (try simp only [List.map_toArray, List.map_cons, List.map_nil]); first | done | rfl | (simp only [List.length_drop, List.length_take]; rfl)) ?_
                with_reducible refine (laws_markText.calls k1 x1_1 t887 _ A5.out).mono ?_
                rintro e w12 ⟨rfl, hb⟩
                refine ⟨_, rfl, ?_⟩
                replace HB := hs_ HB hb
                (try clear hb)
                (try clear hb2)
                (try clear hk)
                (try clear hi)
                refine hK.out _ _ ⟨((HB.out.cell (World.block_lt_of_cell? w _ hw886_0)).trans hw886_0), ((HB.out.cell (World.block_lt_of_cell? w _ hw886_1)).trans hw886_1), ((HB.out.cell (World.block_lt_of_cell? w _ hw886_2)).trans hw886_2)⟩ (fun hHeld => ?_)
                clear hK K
                refine norm_ (a' := ?_) ?_ ?_
                rotate_left
                · show Act.put _ (some 18) _ = _
                  simp only [Act.put, List.setIfInBounds_toArray, List.set_cons_zero, List.set_cons_succ, i64_w, i32_w]
                  rfl
                refine pure_ (i := 7) (N := some 19) (v := ?_) (a' := ?_) #[true, true, true, true, true, true, true, true] rfl rfl (any_of HT_.out (by kernel_rfl)) (fun _ _ _ h => h) (Or.inl ⟨by rfl, ?_⟩) ?_ ?_
                rotate_left
                · intro w'
                  go_simp
                  with_reducible rfl
                rotate_left
                · simp only [Act.put, List.setIfInBounds_toArray, List.set_cons_zero, List.set_cons_succ, i64_w, i32_w]
                  rfl
                refine done_ (done_of HT_.out (by kernel_rfl)) ?_
                have p888 : 0 ≤ (x5_1 : Int) := of_decide_eq_true (by first | (with_reducible assumption) | assumption)
                have q888 : x5_1 < (l0.length : Int) := of_decide_eq_true (by first | (with_reducible assumption) | assumption)
                obtain ⟨ad888, e888, hx888_0, hx888_1, hx888_2⟩ := at_T132 HR0.out x5_1 p888 q888
                obtain rfl : ad886 = ad888 := (by injection e888)
                replace hx888_0 := (HB.out.cell (World.block_lt_of_cell? w _ hx888_0)).trans hx888_0
                replace hx888_1 := (HB.out.cell (World.block_lt_of_cell? w _ hx888_1)).trans hx888_1
                replace hx888_2 := (HB.out.cell (World.block_lt_of_cell? w _ hx888_2)).trans hx888_2
                replace p888 := eq_true p888
                replace q888 := eq_true q888
                have p889 : 0 ≤ (x5_1 : Int) := of_decide_eq_true (by first | (with_reducible assumption) | assumption)
                have q889 : x5_1 < (l0.length : Int) := of_decide_eq_true (by first | (with_reducible assumption) | assumption)
                obtain ⟨ad889, e889, hx889_0, hx889_1, hx889_2⟩ := at_T132 HR0.out x5_1 p889 q889
                obtain rfl : ad886 = ad889 := (by injection e889)
                replace hx889_0 := (HB.out.cell (World.block_lt_of_cell? w _ hx889_0)).trans hx889_0
                replace hx889_1 := (HB.out.cell (World.block_lt_of_cell? w _ hx889_1)).trans hx889_1
                replace hx889_2 := (HB.out.cell (World.block_lt_of_cell? w _ hx889_2)).trans hx889_2
                replace p889 := eq_true p889
                replace q889 := eq_true q889
                try go_wp2
                go_ret
                exact ⟨ee, bb HB⟩
            · rw [if_neg c7] at H
              have c7b0 : (((rd_T132 l0 x5_1).f1) == (wrap64 (x1_1 + 1))) = false := beq_eq_false_iff_ne.mpr c7
              have c7b1 : (((rd_T132 l0 x5_1).f1) != (wrap64 (x1_1 + 1))) = true := bne_iff_ne.mpr c7
              obtain rfl := Option.some.inj H
              try go_wp2
              replace HB := Aside0.mk (below_drew1 HB.out)
              have p886 : 0 ≤ (x5_1 : Int) := of_decide_eq_true (by first | (with_reducible assumption) | assumption)
              have q886 : x5_1 < (l0.length : Int) := of_decide_eq_true (by first | (with_reducible assumption) | assumption)
              obtain ⟨ad886, e886, hx886_0, hx886_1, hx886_2⟩ := at_T132 HR0.out x5_1 p886 q886
              have hw886_2 := hx886_2
              have hw886_1 := hx886_1
              have hw886_0 := hx886_0
              cases e886
              replace hx886_0 := (HB.out.cell (World.block_lt_of_cell? w _ hx886_0)).trans hx886_0
              replace hx886_1 := (HB.out.cell (World.block_lt_of_cell? w _ hx886_1)).trans hx886_1
              replace hx886_2 := (HB.out.cell (World.block_lt_of_cell? w _ hx886_2)).trans hx886_2
              replace p886 := eq_true p886
              replace q886 := eq_true q886
              refine start_ (n := 8) (S := fun w' => w'.cell? (ad886.add ((x5_1).toNat * 3)) = some (.string ((rd_T132 l0 x5_1).f0)) ∧ w'.cell? ⟨(ad886.add ((x5_1).toNat * 3)).block, (ad886.add ((x5_1).toNat * 3)).off + 1, none⟩ = some (.int .i64 ((rd_T132 l0 x5_1).f1)) ∧ w'.cell? ⟨(ad886.add ((x5_1).toNat * 3)).block, (ad886.add ((x5_1).toNat * 3)).off + 2, none⟩ = some (.int .i64 ((rd_T132 l0 x5_1).f2))) (ds := []) #[false, false, false, false, false, false, false, false] (by kernel_rfl) rfl rfl ⟨((HB.out.cell (World.block_lt_of_cell? w _ hw886_0)).trans hw886_0), ((HB.out.cell (World.block_lt_of_cell? w _ hw886_1)).trans hw886_1), ((HB.out.cell (World.block_lt_of_cell? w _ hw886_2)).trans hw886_2)⟩ (fun hHeld => ?_); refine with_tabW laws_heldTeamS.tab4 laws_heldTeamS.bits4 (fun HT_ HW_ => ?_)
              generalize wr.drew = w13 at HB hx886_0 hx886_1 hx886_2 hHeld ⊢
              refine pure_ (i := 0) (N := some 12) (v := ?_) (a' := ?_) #[true, false, false, false, false, false, false, false] rfl rfl (any_of HT_.out (by kernel_rfl)) (fun _ _ _ h => h) (Or.inl ⟨by rfl, ?_⟩) ?_ ?_
              rotate_left
              · intro w'
                go_simp
                with_reducible rfl
              rotate_left
              · simp only [Act.put, List.setIfInBounds_toArray, List.set_cons_zero, List.set_cons_succ, i64_w, i32_w]
                rfl
              refine pure_ (i := 1) (N := some 13) (v := ?_) (a' := ?_) #[true, true, false, false, false, false, false, false] rfl rfl (any_of HT_.out (by kernel_rfl)) (fun _ _ _ h => h) (Or.inl ⟨by rfl, ?_⟩) ?_ ?_
              rotate_left
              · intro w'
                go_simp
                with_reducible rfl
              rotate_left
              · simp only [Act.put, List.setIfInBounds_toArray, List.set_cons_zero, List.set_cons_succ, i64_w, i32_w]
                rfl
              refine pure_ (i := 2) (N := some 14) (v := ?_) (a' := ?_) #[true, true, true, false, false, false, false, false] rfl rfl (any_of HT_.out (by kernel_rfl)) (fun _ _ _ h => h) (Or.inl ⟨by rfl, ?_⟩) ?_ ?_
              rotate_left
              · intro w'
                go_simp
                with_reducible rfl
              rotate_left
              · simp only [Act.put, List.setIfInBounds_toArray, List.set_cons_zero, List.set_cons_succ, i64_w, i32_w]
                rfl
              refine pure_ (i := 3) (N := some 15) (v := ?_) (a' := ?_) #[true, true, true, true, false, false, false, false] rfl rfl (any_of HT_.out (by kernel_rfl)) (fun _ _ _ h => h) (Or.inl ⟨by rfl, ?_⟩) ?_ ?_
              rotate_left
              · intro w'
                go_simp
                with_reducible rfl
              rotate_left
              · simp only [Act.put, List.setIfInBounds_toArray, List.set_cons_zero, List.set_cons_succ, i64_w, i32_w]
                rfl
              refine pure_ (i := 5) (N := some 17) (v := ?_) (a' := ?_) #[true, true, true, true, false, true, false, false] rfl rfl (any_of HT_.out (by kernel_rfl)) (fun _ _ _ h => h) (Or.inl ⟨by rfl, ?_⟩) ?_ ?_
              rotate_left
              · intro w'
                go_simp
                with_reducible rfl
              rotate_left
              · simp only [Act.put, List.setIfInBounds_toArray, List.set_cons_zero, List.set_cons_succ, i64_w, i32_w]
                rfl
              refine take_ (i := 4) (N := some 16) (v := ?_) (a' := ?_) #[true, true, true, true, true, true, false, false] rfl rfl (take_ofW HT_.out HW_.out (by kernel_rfl)) (fun _ _ _ h => h) (Or.inl ⟨by rfl, ?_⟩) hHeld ?_ ?_
              rotate_left
              · rintro w' ⟨s0, s1, s2⟩
                go_simp
                with_reducible rfl
              rotate_left
              · simp only [Act.put, List.setIfInBounds_toArray, List.set_cons_zero, List.set_cons_succ, i64_w, i32_w]
                rfl
              refine one_ (i := 6) (N := some 18) #[true, true, true, true, true, true, true, false] rfl rfl (one_of HT_.out (by kernel_rfl)) (by decide) (fun K hK => ?_)
              refine goes_ Try.func147 (by kernel_rfl) rfl #[.int .i64 x1_1] (by rfl) rfl rfl (by (try simp only [List.map_toArray, List.map_cons, List.map_nil]); first | done | rfl | (simp only [List.length_drop, List.length_take]; rfl)) ?_
              with_reducible refine (laws_markText.calls k1 x1_1 t887 _ A5.out).mono ?_
              rintro e w14 ⟨rfl, hb⟩
              refine ⟨_, rfl, ?_⟩
              replace HB := hs_ HB hb
              (try clear hb)
              (try clear hb2)
              (try clear hk)
              (try clear hi)
              refine hK.out _ _ ⟨((HB.out.cell (World.block_lt_of_cell? w _ hw886_0)).trans hw886_0), ((HB.out.cell (World.block_lt_of_cell? w _ hw886_1)).trans hw886_1), ((HB.out.cell (World.block_lt_of_cell? w _ hw886_2)).trans hw886_2)⟩ (fun hHeld => ?_)
              clear hK K
              refine norm_ (a' := ?_) ?_ ?_
              rotate_left
              · show Act.put _ (some 18) _ = _
                simp only [Act.put, List.setIfInBounds_toArray, List.set_cons_zero, List.set_cons_succ, i64_w, i32_w]
                rfl
              refine pure_ (i := 7) (N := some 19) (v := ?_) (a' := ?_) #[true, true, true, true, true, true, true, true] rfl rfl (any_of HT_.out (by kernel_rfl)) (fun _ _ _ h => h) (Or.inl ⟨by rfl, ?_⟩) ?_ ?_
              rotate_left
              · intro w'
                go_simp
                with_reducible rfl
              rotate_left
              · simp only [Act.put, List.setIfInBounds_toArray, List.set_cons_zero, List.set_cons_succ, i64_w, i32_w]
                rfl
              refine done_ (done_of HT_.out (by kernel_rfl)) ?_
              have p888 : 0 ≤ (x5_1 : Int) := of_decide_eq_true (by first | (with_reducible assumption) | assumption)
              have q888 : x5_1 < (l0.length : Int) := of_decide_eq_true (by first | (with_reducible assumption) | assumption)
              obtain ⟨ad888, e888, hx888_0, hx888_1, hx888_2⟩ := at_T132 HR0.out x5_1 p888 q888
              obtain rfl : ad886 = ad888 := (by injection e888)
              replace hx888_0 := (HB.out.cell (World.block_lt_of_cell? w _ hx888_0)).trans hx888_0
              replace hx888_1 := (HB.out.cell (World.block_lt_of_cell? w _ hx888_1)).trans hx888_1
              replace hx888_2 := (HB.out.cell (World.block_lt_of_cell? w _ hx888_2)).trans hx888_2
              replace p888 := eq_true p888
              replace q888 := eq_true q888
              try go_wp2
              go_ret
              exact ⟨ee, bb HB⟩
          · rw [if_neg c6] at H
            have c6b0 : (((rd_T132 l0 x5_1).f0).toList == t887.toList) = false := beq_eq_false_iff_ne.mpr c6
            have c6b1 : (((rd_T132 l0 x5_1).f0).toList != t887.toList) = true := bne_iff_ne.mpr c6
            obtain rfl := Option.some.inj H
            try go_wp2
            replace HB := Aside0.mk (below_drew1 HB.out)
            have p886 : 0 ≤ (x5_1 : Int) := of_decide_eq_true (by first | (with_reducible assumption) | assumption)
            have q886 : x5_1 < (l0.length : Int) := of_decide_eq_true (by first | (with_reducible assumption) | assumption)
            obtain ⟨ad886, e886, hx886_0, hx886_1, hx886_2⟩ := at_T132 HR0.out x5_1 p886 q886
            have hw886_2 := hx886_2
            have hw886_1 := hx886_1
            have hw886_0 := hx886_0
            cases e886
            replace hx886_0 := (HB.out.cell (World.block_lt_of_cell? w _ hx886_0)).trans hx886_0
            replace hx886_1 := (HB.out.cell (World.block_lt_of_cell? w _ hx886_1)).trans hx886_1
            replace hx886_2 := (HB.out.cell (World.block_lt_of_cell? w _ hx886_2)).trans hx886_2
            replace p886 := eq_true p886
            replace q886 := eq_true q886
            refine start_ (n := 8) (S := fun w' => w'.cell? (ad886.add ((x5_1).toNat * 3)) = some (.string ((rd_T132 l0 x5_1).f0)) ∧ w'.cell? ⟨(ad886.add ((x5_1).toNat * 3)).block, (ad886.add ((x5_1).toNat * 3)).off + 1, none⟩ = some (.int .i64 ((rd_T132 l0 x5_1).f1)) ∧ w'.cell? ⟨(ad886.add ((x5_1).toNat * 3)).block, (ad886.add ((x5_1).toNat * 3)).off + 2, none⟩ = some (.int .i64 ((rd_T132 l0 x5_1).f2))) (ds := []) #[false, false, false, false, false, false, false, false] (by kernel_rfl) rfl rfl ⟨((HB.out.cell (World.block_lt_of_cell? w _ hw886_0)).trans hw886_0), ((HB.out.cell (World.block_lt_of_cell? w _ hw886_1)).trans hw886_1), ((HB.out.cell (World.block_lt_of_cell? w _ hw886_2)).trans hw886_2)⟩ (fun hHeld => ?_); refine with_tabW laws_heldTeamS.tab4 laws_heldTeamS.bits4 (fun HT_ HW_ => ?_)
            generalize wr.drew = w15 at HB hx886_0 hx886_1 hx886_2 hHeld ⊢
            refine pure_ (i := 0) (N := some 12) (v := ?_) (a' := ?_) #[true, false, false, false, false, false, false, false] rfl rfl (any_of HT_.out (by kernel_rfl)) (fun _ _ _ h => h) (Or.inl ⟨by rfl, ?_⟩) ?_ ?_
            rotate_left
            · intro w'
              go_simp
              with_reducible rfl
            rotate_left
            · simp only [Act.put, List.setIfInBounds_toArray, List.set_cons_zero, List.set_cons_succ, i64_w, i32_w]
              rfl
            refine pure_ (i := 1) (N := some 13) (v := ?_) (a' := ?_) #[true, true, false, false, false, false, false, false] rfl rfl (any_of HT_.out (by kernel_rfl)) (fun _ _ _ h => h) (Or.inl ⟨by rfl, ?_⟩) ?_ ?_
            rotate_left
            · intro w'
              go_simp
              with_reducible rfl
            rotate_left
            · simp only [Act.put, List.setIfInBounds_toArray, List.set_cons_zero, List.set_cons_succ, i64_w, i32_w]
              rfl
            refine pure_ (i := 2) (N := some 14) (v := ?_) (a' := ?_) #[true, true, true, false, false, false, false, false] rfl rfl (any_of HT_.out (by kernel_rfl)) (fun _ _ _ h => h) (Or.inl ⟨by rfl, ?_⟩) ?_ ?_
            rotate_left
            · intro w'
              go_simp
              with_reducible rfl
            rotate_left
            · simp only [Act.put, List.setIfInBounds_toArray, List.set_cons_zero, List.set_cons_succ, i64_w, i32_w]
              rfl
            refine pure_ (i := 3) (N := some 15) (v := ?_) (a' := ?_) #[true, true, true, true, false, false, false, false] rfl rfl (any_of HT_.out (by kernel_rfl)) (fun _ _ _ h => h) (Or.inl ⟨by rfl, ?_⟩) ?_ ?_
            rotate_left
            · intro w'
              go_simp
              with_reducible rfl
            rotate_left
            · simp only [Act.put, List.setIfInBounds_toArray, List.set_cons_zero, List.set_cons_succ, i64_w, i32_w]
              rfl
            refine pure_ (i := 5) (N := some 17) (v := ?_) (a' := ?_) #[true, true, true, true, false, true, false, false] rfl rfl (any_of HT_.out (by kernel_rfl)) (fun _ _ _ h => h) (Or.inl ⟨by rfl, ?_⟩) ?_ ?_
            rotate_left
            · intro w'
              go_simp
              with_reducible rfl
            rotate_left
            · simp only [Act.put, List.setIfInBounds_toArray, List.set_cons_zero, List.set_cons_succ, i64_w, i32_w]
              rfl
            refine take_ (i := 4) (N := some 16) (v := ?_) (a' := ?_) #[true, true, true, true, true, true, false, false] rfl rfl (take_ofW HT_.out HW_.out (by kernel_rfl)) (fun _ _ _ h => h) (Or.inl ⟨by rfl, ?_⟩) hHeld ?_ ?_
            rotate_left
            · rintro w' ⟨s0, s1, s2⟩
              go_simp
              with_reducible rfl
            rotate_left
            · simp only [Act.put, List.setIfInBounds_toArray, List.set_cons_zero, List.set_cons_succ, i64_w, i32_w]
              rfl
            refine one_ (i := 6) (N := some 18) #[true, true, true, true, true, true, true, false] rfl rfl (one_of HT_.out (by kernel_rfl)) (by decide) (fun K hK => ?_)
            refine goes_ Try.func147 (by kernel_rfl) rfl #[.int .i64 x1_1] (by rfl) rfl rfl (by (try simp only [List.map_toArray, List.map_cons, List.map_nil]); first | done | rfl | (simp only [List.length_drop, List.length_take]; rfl)) ?_
            with_reducible refine (laws_markText.calls k1 x1_1 t887 _ A5.out).mono ?_
            rintro e w16 ⟨rfl, hb⟩
            refine ⟨_, rfl, ?_⟩
            replace HB := hs_ HB hb
            (try clear hb)
            (try clear hb2)
            (try clear hk)
            (try clear hi)
            refine hK.out _ _ ⟨((HB.out.cell (World.block_lt_of_cell? w _ hw886_0)).trans hw886_0), ((HB.out.cell (World.block_lt_of_cell? w _ hw886_1)).trans hw886_1), ((HB.out.cell (World.block_lt_of_cell? w _ hw886_2)).trans hw886_2)⟩ (fun hHeld => ?_)
            clear hK K
            refine norm_ (a' := ?_) ?_ ?_
            rotate_left
            · show Act.put _ (some 18) _ = _
              simp only [Act.put, List.setIfInBounds_toArray, List.set_cons_zero, List.set_cons_succ, i64_w, i32_w]
              rfl
            refine pure_ (i := 7) (N := some 19) (v := ?_) (a' := ?_) #[true, true, true, true, true, true, true, true] rfl rfl (any_of HT_.out (by kernel_rfl)) (fun _ _ _ h => h) (Or.inl ⟨by rfl, ?_⟩) ?_ ?_
            rotate_left
            · intro w'
              go_simp
              with_reducible rfl
            rotate_left
            · simp only [Act.put, List.setIfInBounds_toArray, List.set_cons_zero, List.set_cons_succ, i64_w, i32_w]
              rfl
            refine done_ (done_of HT_.out (by kernel_rfl)) ?_
            try go_wp2
            go_ret
            exact ⟨ee, bb HB⟩
        · rw [if_neg c4] at H
          exact absurd H (by simp)
      · rw [if_neg c3] at H
        have c3b0 : decide (x5_1 < (l0.length : Int)) = false := decide_eq_false c3
        clear c3
        obtain rfl := Option.some.inj H
        go_wp2
        go_ret
        exact ⟨ee, bb HB⟩
end Go.Proofs.Ytibmeomlokigjaa.Q
namespace Go.Proofs.Ytibmeomlokigjaa.Q
open Go.RowKit Go.Proofs.YtibmeomlokigjaaW.PrintWords Go.Proofs.YtibmeomlokigjaaW.PrintLast Go.Proofs.YtibmeomlokigjaaW.PrintMore
attribute [local go_sem] max2_int min2_int max_two min_two max_three min_three max_four min_four
set_option linter.unusedVariables false
set_option linter.unusedSimpArgs false
def laws_heldIntS.l0 : Nat → List Int → Int → Int → Option (Int)
  | 0, _, _, _ => none
  | k + 1, x0, x1, x5 => if x5 < (x0.length : Int) then (if 0 ≤ x5 then (if (rd x0 x5) = x1 then (laws_heldIntS.l0 k x0 (wrap64 (x1 + 1)) (wrap64 (x5 + 1))) else (some (-1))) else (none)) else (some x1)
def laws_heldIntS.f (k : Nat) (l0 : List Int) (a1 : Int) : Option (Int) := laws_heldIntS.l0 k l0 a1 0
set_option maxHeartbeats 8000000 in
set_option maxRecDepth 100000 in
theorem laws_heldIntS.calls (k : Nat) (A0 : Option Addr) (c0 : Nat) (l0 : List Int) (a1 : Int) (r : Int) (w : World) (hr0 : Kd.C (Kd.int .i64) w A0 l0.length l0) (hc0 : l0.length ≤ c0) (h : laws_heldIntS.f k l0 a1 = some r) :
    Calls Try.prog 132 #[.slice A0 l0.length c0, .int .i64 a1] w fun e w' => e = .returned (.int .i64 r) ∧ Drawn0 w w' := by
  have HR0 := Aside0.mk hr0
  have HC0 := Aside0.mk hc0
  clear hr0 hc0
  have H : (laws_heldIntS.l0 k l0 a1 0) = some r := h
  clear h
  have H' := Aside0.mk H
  clear H
  go_enter Try.func132, Try.ntmps132
  go_wp2
  go_loopg [1, 5] k (fun kq v1 v5 w' => ∃ (x1_1 : Int) (x5_1 : Int), v1 = .int .i64 x1_1 ∧ v5 = .int .i64 x5_1 ∧ Aside0 (laws_heldIntS.l0 kq l0 x1_1 x5_1 = some r) ∧ Aside0 (kq ≤ k) ∧ Drawn0 w w')
  case atStart => exact ⟨(a1), (0), e2_, e2_, H', ⟨Nat.le_refl _⟩, by repeat (first | exact Drawn0.refl _ | apply Drawn0.step)⟩
  case round =>
    clear H'
    (try clear c1)
    (try clear p2)
    obtain ⟨x1_1, x5_1, rfl, rfl, HA, HK1, ⟨m1, rfl⟩⟩ := hrel
    cases gk with
    | zero => exact absurd HA.out (by simp [laws_heldIntS.l0])
    | succ k1 =>
      have H := HA.out
      clear HA
      simp only [laws_heldIntS.l0] at H
      by_cases c3 : x5_1 < (l0.length : Int)
      · rw [if_pos c3] at H
        have c3b0 : decide (x5_1 < (l0.length : Int)) = true := decide_eq_true c3
        clear c3
        by_cases c4 : 0 ≤ x5_1
        · rw [if_pos c4] at H
          have c4b0 : decide (0 ≤ x5_1) = true := decide_eq_true c4
          clear c4
          by_cases c5 : (rd l0 x5_1) = x1_1
          · rw [if_pos c5] at H
            have c5b0 : ((rd l0 x5_1) == x1_1) = true := beq_iff_eq.mpr c5
            have c5b1 : ((rd l0 x5_1) != x1_1) = false := bne_eq_false_iff_eq.mpr c5
            clear c5
            have H' := Aside0.mk H
            clear H
            have p890 : 0 ≤ (x5_1 : Int) := of_decide_eq_true (by first | (with_reducible assumption) | assumption)
            have q890 : x5_1 < (l0.length : Int) := of_decide_eq_true (by first | (with_reducible assumption) | assumption)
            obtain ⟨ad890, e890, hx890_0⟩ := Kd.at_int HR0.out x5_1 p890 q890
            cases e890
            replace p890 := eq_true p890
            replace q890 := eq_true q890
            go_wp2
            go_roundg k1
            case measure => have := HK1.out; omega
            case rel => exact ⟨(wrap64 (x1_1 + 1)), (wrap64 (x5_1 + 1)), e2_, e2_, H', ⟨by have := HK1.out; omega⟩, by repeat (first | exact Drawn0.refl _ | apply Drawn0.step)⟩
          · rw [if_neg c5] at H
            have c5b0 : ((rd l0 x5_1) == x1_1) = false := beq_eq_false_iff_ne.mpr c5
            have c5b1 : ((rd l0 x5_1) != x1_1) = true := bne_iff_ne.mpr c5
            obtain rfl := Option.some.inj H
            have p890 : 0 ≤ (x5_1 : Int) := of_decide_eq_true (by first | (with_reducible assumption) | assumption)
            have q890 : x5_1 < (l0.length : Int) := of_decide_eq_true (by first | (with_reducible assumption) | assumption)
            obtain ⟨ad890, e890, hx890_0⟩ := Kd.at_int HR0.out x5_1 p890 q890
            cases e890
            replace p890 := eq_true p890
            replace q890 := eq_true q890
            go_wp2
            go_ret
            exact ⟨e2_, by repeat (first | exact Drawn0.refl _ | apply Drawn0.step)⟩
        · rw [if_neg c4] at H
          exact absurd H (by simp)
      · rw [if_neg c3] at H
        have c3b0 : decide (x5_1 < (l0.length : Int)) = false := decide_eq_false c3
        clear c3
        obtain rfl := Option.some.inj H
        go_wp2
        go_ret
        exact ⟨e2_, by repeat (first | exact Drawn0.refl _ | apply Drawn0.step)⟩
end Go.Proofs.Ytibmeomlokigjaa.Q
namespace Go.Proofs.Ytibmeomlokigjaa.Q
open Go.RowKit Go.Proofs.YtibmeomlokigjaaW.PrintWords Go.Proofs.YtibmeomlokigjaaW.PrintLast Go.Proofs.YtibmeomlokigjaaW.PrintMore
attribute [local go_sem] max2_int min2_int max_two min_two max_three min_three max_four min_four
set_option linter.unusedVariables false
set_option linter.unusedSimpArgs false
def laws_heldRules.f (k : Nat) (a0_0 : Int) (a0_1 : Int) (a0_2 : Int) (l0_3 : List Int) (a0_4 : Bool) (a1 : Int) : Option (Int) := (laws_heldIntS.f k l0_3 a1).bind fun t892 => (if t892 < 0 then (some (-1)) else (some t892))
set_option maxHeartbeats 8000000 in
set_option maxRecDepth 100000 in
theorem laws_heldRules.calls (k : Nat) (a0_0 : Int) (a0_1 : Int) (a0_2 : Int) (A0_3 : Option Addr) (c0_3 : Nat) (l0_3 : List Int) (a0_4 : Bool) (a1 : Int) (r : Int) (w : World) (hr0_3 : Kd.C (Kd.int .i64) w A0_3 l0_3.length l0_3) (hc0_3 : l0_3.length ≤ c0_3) (h : laws_heldRules.f k a0_0 a0_1 a0_2 l0_3 a0_4 a1 = some r) :
    Calls Try.prog 130 #[.agg #[.int .i64 a0_0, .int .i64 a0_1, .int .i64 a0_2, .slice A0_3 l0_3.length c0_3, .bool a0_4], .int .i64 a1] w fun e w' => e = .returned (.int .i64 r) ∧ Below w.heap.size w w' := by
  have hu26 := Try.underlying26
  have HR0_3 := Aside0.mk hr0_3
  have HC0_3 := Aside0.mk hc0_3
  clear hr0_3 hc0_3
  have HB := Aside0.mk (Below.refl w.heap.size w)
  have H : ((laws_heldIntS.f k l0_3 a1).bind fun t892 => (if t892 < 0 then (some (-1)) else (some t892))) = some r := h
  clear h
  replace H := Option.bind_eq_some_iff.mp H
  obtain ⟨t892, A30, H⟩ := H
  replace H : (if t892 < 0 then (some (-1)) else (some t892)) = some r := H
  have A3 := Aside0.mk A30
  clear A30
  by_cases c4 : t892 < 0
  · rw [if_pos c4] at H
    have c4b0 : decide (t892 < 0) = true := decide_eq_true c4
    clear c4
    obtain rfl := Option.some.inj H
    go_enter Try.func130, Try.ntmps130
    go_wp2_with (first | ((with_reducible refine gate_dst (N := 2) rfl ?_); refine bx (N := 2) (cs := #[.int .i64 a0_0, .int .i64 a0_1, .int .i64 a0_2, .slice A0_3 l0_3.length c0_3, .bool a0_4]) (t := 26) ?_; intro gb891 hg w5 hbox hb; have BK891 := Aside0.mk (hbox); have GW891 := gs hg HB; have GE891 := gs hg HB; replace HB := hs_ HB hb; clear hb hbox hg; have ⟨hcz6_0, hcz6_1, hcz6_2, hcz6_3, hcz6_4, hfz6_0, hfz6_1, hfz6_2, hfz6_3, hfz6_4⟩ := rz5 BK891) | ((with_reducible refine gate_callee (f := 132) rfl ?_); refine gl (some 8) Try.func132 #[.slice A0_3 l0_3.length c0_3, .int .i64 a1] ?_; (with_reducible refine (laws_heldIntS.calls k _ _ l0_3 a1 t892 _ ?side1 ?side2 A3.out).mono ?_); (case side1 => exact cc HR0_3 HB); (case side2 => exact HC0_3.out); rintro e w' ⟨rfl, ⟨nd, rfl⟩⟩; refine ⟨_, rfl, ?_⟩))
    go_ret
    exact ⟨ee, bb HB⟩
  · rw [if_neg c4] at H
    have c4b0 : decide (t892 < 0) = false := decide_eq_false c4
    clear c4
    obtain rfl := Option.some.inj H
    go_enter Try.func130, Try.ntmps130
    go_wp2_with (first | ((with_reducible refine gate_dst (N := 2) rfl ?_); refine bx (N := 2) (cs := #[.int .i64 a0_0, .int .i64 a0_1, .int .i64 a0_2, .slice A0_3 l0_3.length c0_3, .bool a0_4]) (t := 26) ?_; intro gb891 hg w7 hbox hb; have BK891 := Aside0.mk (hbox); have GW891 := gs hg HB; have GE891 := gs hg HB; replace HB := hs_ HB hb; clear hb hbox hg; have ⟨hcz8_0, hcz8_1, hcz8_2, hcz8_3, hcz8_4, hfz8_0, hfz8_1, hfz8_2, hfz8_3, hfz8_4⟩ := rz5 BK891) | ((with_reducible refine gate_callee (f := 132) rfl ?_); refine gl (some 8) Try.func132 #[.slice A0_3 l0_3.length c0_3, .int .i64 a1] ?_; (with_reducible refine (laws_heldIntS.calls k _ _ l0_3 a1 t892 _ ?side1 ?side2 A3.out).mono ?_); (case side1 => exact cc HR0_3 HB); (case side2 => exact HC0_3.out); rintro e w' ⟨rfl, ⟨nd, rfl⟩⟩; refine ⟨_, rfl, ?_⟩))
    go_ret
    exact ⟨ee, bb HB⟩
end Go.Proofs.Ytibmeomlokigjaa.Q
namespace Go.Proofs.Ytibmeomlokigjaa.Q
open Go.RowKit Go.Proofs.YtibmeomlokigjaaW.PrintWords Go.Proofs.YtibmeomlokigjaaW.PrintLast Go.Proofs.YtibmeomlokigjaaW.PrintMore
attribute [local go_sem] max2_int min2_int max_two min_two max_three min_three max_four min_four
set_option linter.unusedVariables false
set_option linter.unusedSimpArgs false
def laws_heldGameS.l0 : Nat → List (S47) → Int → Int → Option (Int)
  | 0, _, _, _ => none
  | k + 1, x0, x1, x5 => if x5 < (x0.length : Int) then (if 0 ≤ x5 then (if ((rd_T47 x0 x5).f0) = x1 then (if ((rd_T47 x0 x5).f1) = (wrap64 (x1 + 1)) then (if ((rd_T47 x0 x5).f2) = (wrap64 ((wrap64 (x1 + 1)) + 1)) then (if ((rd_T47 x0 x5).f3) = (wrap64 ((wrap64 ((wrap64 (x1 + 1)) + 1)) + 1)) then (if ((rd_T47 x0 x5).f4) = (wrap64 ((wrap64 ((wrap64 ((wrap64 (x1 + 1)) + 1)) + 1)) + 1)) then (laws_heldGameS.l0 k x0 (wrap64 ((wrap64 ((wrap64 ((wrap64 ((wrap64 (x1 + 1)) + 1)) + 1)) + 1)) + 1)) (wrap64 (x5 + 1))) else (some (-1))) else (some (-1))) else (some (-1))) else (some (-1))) else (some (-1))) else (none)) else (some x1)
def laws_heldGameS.f (k : Nat) (l0 : List (S47)) (a1 : Int) : Option (Int) := laws_heldGameS.l0 k l0 a1 0
set_option maxHeartbeats 8000000 in
set_option maxRecDepth 100000 in
theorem laws_heldGameS.calls (k : Nat) (A0 : Option Addr) (c0 : Nat) (l0 : List (S47)) (a1 : Int) (r : Int) (w : World) (hr0 : Kd.C k47 w A0 l0.length l0) (hc0 : l0.length ≤ c0) (h : laws_heldGameS.f k l0 a1 = some r) :
    Calls Try.prog 131 #[.slice A0 l0.length c0, .int .i64 a1] w fun e w' => e = .returned (.int .i64 r) ∧ Drawn0 w w' := by
  have HR0 := Aside0.mk hr0
  have HC0 := Aside0.mk hc0
  clear hr0 hc0
  have H : (laws_heldGameS.l0 k l0 a1 0) = some r := h
  clear h
  have H' := Aside0.mk H
  clear H
  go_enter Try.func131, Try.ntmps131
  go_wp2
  go_loopg [1, 5] k (fun kq v1 v5 w' => ∃ (x1_1 : Int) (x5_1 : Int), v1 = .int .i64 x1_1 ∧ v5 = .int .i64 x5_1 ∧ Aside0 (laws_heldGameS.l0 kq l0 x1_1 x5_1 = some r) ∧ Aside0 (kq ≤ k) ∧ Drawn0 w w')
  case atStart => exact ⟨(a1), (0), e2_, e2_, H', ⟨Nat.le_refl _⟩, by repeat (first | exact Drawn0.refl _ | apply Drawn0.step)⟩
  case round =>
    clear H'
    (try clear c1)
    (try clear p2)
    obtain ⟨x1_1, x5_1, rfl, rfl, HA, HK1, ⟨m1, rfl⟩⟩ := hrel
    cases gk with
    | zero => exact absurd HA.out (by simp [laws_heldGameS.l0])
    | succ k1 =>
      have H := HA.out
      clear HA
      simp only [laws_heldGameS.l0] at H
      by_cases c3 : x5_1 < (l0.length : Int)
      · rw [if_pos c3] at H
        have c3b0 : decide (x5_1 < (l0.length : Int)) = true := decide_eq_true c3
        clear c3
        by_cases c4 : 0 ≤ x5_1
        · rw [if_pos c4] at H
          have c4b0 : decide (0 ≤ x5_1) = true := decide_eq_true c4
          clear c4
          by_cases c5 : ((rd_T47 l0 x5_1).f0) = x1_1
          · rw [if_pos c5] at H
            have c5b0 : (((rd_T47 l0 x5_1).f0) == x1_1) = true := beq_iff_eq.mpr c5
            have c5b1 : (((rd_T47 l0 x5_1).f0) != x1_1) = false := bne_eq_false_iff_eq.mpr c5
            clear c5
            by_cases c6 : ((rd_T47 l0 x5_1).f1) = (wrap64 (x1_1 + 1))
            · rw [if_pos c6] at H
              have c6b0 : (((rd_T47 l0 x5_1).f1) == (wrap64 (x1_1 + 1))) = true := beq_iff_eq.mpr c6
              have c6b1 : (((rd_T47 l0 x5_1).f1) != (wrap64 (x1_1 + 1))) = false := bne_eq_false_iff_eq.mpr c6
              clear c6
              by_cases c7 : ((rd_T47 l0 x5_1).f2) = (wrap64 ((wrap64 (x1_1 + 1)) + 1))
              · rw [if_pos c7] at H
                have c7b0 : (((rd_T47 l0 x5_1).f2) == (wrap64 ((wrap64 (x1_1 + 1)) + 1))) = true := beq_iff_eq.mpr c7
                have c7b1 : (((rd_T47 l0 x5_1).f2) != (wrap64 ((wrap64 (x1_1 + 1)) + 1))) = false := bne_eq_false_iff_eq.mpr c7
                clear c7
                by_cases c8 : ((rd_T47 l0 x5_1).f3) = (wrap64 ((wrap64 ((wrap64 (x1_1 + 1)) + 1)) + 1))
                · rw [if_pos c8] at H
                  have c8b0 : (((rd_T47 l0 x5_1).f3) == (wrap64 ((wrap64 ((wrap64 (x1_1 + 1)) + 1)) + 1))) = true := beq_iff_eq.mpr c8
                  have c8b1 : (((rd_T47 l0 x5_1).f3) != (wrap64 ((wrap64 ((wrap64 (x1_1 + 1)) + 1)) + 1))) = false := bne_eq_false_iff_eq.mpr c8
                  clear c8
                  by_cases c9 : ((rd_T47 l0 x5_1).f4) = (wrap64 ((wrap64 ((wrap64 ((wrap64 (x1_1 + 1)) + 1)) + 1)) + 1))
                  · rw [if_pos c9] at H
                    have c9b0 : (((rd_T47 l0 x5_1).f4) == (wrap64 ((wrap64 ((wrap64 ((wrap64 (x1_1 + 1)) + 1)) + 1)) + 1))) = true := beq_iff_eq.mpr c9
                    have c9b1 : (((rd_T47 l0 x5_1).f4) != (wrap64 ((wrap64 ((wrap64 ((wrap64 (x1_1 + 1)) + 1)) + 1)) + 1))) = false := bne_eq_false_iff_eq.mpr c9
                    clear c9
                    have H' := Aside0.mk H
                    clear H
                    have p893 : 0 ≤ (x5_1 : Int) := of_decide_eq_true (by first | (with_reducible assumption) | assumption)
                    have q893 : x5_1 < (l0.length : Int) := of_decide_eq_true (by first | (with_reducible assumption) | assumption)
                    obtain ⟨ad893, e893, hx893_0, hx893_1, hx893_2, hx893_3, hx893_4⟩ := at_T47 HR0.out x5_1 p893 q893
                    cases e893
                    replace p893 := eq_true p893
                    replace q893 := eq_true q893
                    have p894 : 0 ≤ (x5_1 : Int) := of_decide_eq_true (by first | (with_reducible assumption) | assumption)
                    have q894 : x5_1 < (l0.length : Int) := of_decide_eq_true (by first | (with_reducible assumption) | assumption)
                    obtain ⟨ad894, e894, hx894_0, hx894_1, hx894_2, hx894_3, hx894_4⟩ := at_T47 HR0.out x5_1 p894 q894
                    obtain rfl : ad893 = ad894 := (by injection e894)
                    replace p894 := eq_true p894
                    replace q894 := eq_true q894
                    have p895 : 0 ≤ (x5_1 : Int) := of_decide_eq_true (by first | (with_reducible assumption) | assumption)
                    have q895 : x5_1 < (l0.length : Int) := of_decide_eq_true (by first | (with_reducible assumption) | assumption)
                    obtain ⟨ad895, e895, hx895_0, hx895_1, hx895_2, hx895_3, hx895_4⟩ := at_T47 HR0.out x5_1 p895 q895
                    obtain rfl : ad893 = ad895 := (by injection e895)
                    replace p895 := eq_true p895
                    replace q895 := eq_true q895
                    have p896 : 0 ≤ (x5_1 : Int) := of_decide_eq_true (by first | (with_reducible assumption) | assumption)
                    have q896 : x5_1 < (l0.length : Int) := of_decide_eq_true (by first | (with_reducible assumption) | assumption)
                    obtain ⟨ad896, e896, hx896_0, hx896_1, hx896_2, hx896_3, hx896_4⟩ := at_T47 HR0.out x5_1 p896 q896
                    obtain rfl : ad893 = ad896 := (by injection e896)
                    replace p896 := eq_true p896
                    replace q896 := eq_true q896
                    have p897 : 0 ≤ (x5_1 : Int) := of_decide_eq_true (by first | (with_reducible assumption) | assumption)
                    have q897 : x5_1 < (l0.length : Int) := of_decide_eq_true (by first | (with_reducible assumption) | assumption)
                    obtain ⟨ad897, e897, hx897_0, hx897_1, hx897_2, hx897_3, hx897_4⟩ := at_T47 HR0.out x5_1 p897 q897
                    obtain rfl : ad893 = ad897 := (by injection e897)
                    replace p897 := eq_true p897
                    replace q897 := eq_true q897
                    go_wp2
                    go_roundg k1
                    case measure => have := HK1.out; omega
                    case rel => exact ⟨(wrap64 ((wrap64 ((wrap64 ((wrap64 ((wrap64 (x1_1 + 1)) + 1)) + 1)) + 1)) + 1)), (wrap64 (x5_1 + 1)), e2_, e2_, H', ⟨by have := HK1.out; omega⟩, by repeat (first | exact Drawn0.refl _ | apply Drawn0.step)⟩
                  · rw [if_neg c9] at H
                    have c9b0 : (((rd_T47 l0 x5_1).f4) == (wrap64 ((wrap64 ((wrap64 ((wrap64 (x1_1 + 1)) + 1)) + 1)) + 1))) = false := beq_eq_false_iff_ne.mpr c9
                    have c9b1 : (((rd_T47 l0 x5_1).f4) != (wrap64 ((wrap64 ((wrap64 ((wrap64 (x1_1 + 1)) + 1)) + 1)) + 1))) = true := bne_iff_ne.mpr c9
                    obtain rfl := Option.some.inj H
                    have p893 : 0 ≤ (x5_1 : Int) := of_decide_eq_true (by first | (with_reducible assumption) | assumption)
                    have q893 : x5_1 < (l0.length : Int) := of_decide_eq_true (by first | (with_reducible assumption) | assumption)
                    obtain ⟨ad893, e893, hx893_0, hx893_1, hx893_2, hx893_3, hx893_4⟩ := at_T47 HR0.out x5_1 p893 q893
                    cases e893
                    replace p893 := eq_true p893
                    replace q893 := eq_true q893
                    have p894 : 0 ≤ (x5_1 : Int) := of_decide_eq_true (by first | (with_reducible assumption) | assumption)
                    have q894 : x5_1 < (l0.length : Int) := of_decide_eq_true (by first | (with_reducible assumption) | assumption)
                    obtain ⟨ad894, e894, hx894_0, hx894_1, hx894_2, hx894_3, hx894_4⟩ := at_T47 HR0.out x5_1 p894 q894
                    obtain rfl : ad893 = ad894 := (by injection e894)
                    replace p894 := eq_true p894
                    replace q894 := eq_true q894
                    have p895 : 0 ≤ (x5_1 : Int) := of_decide_eq_true (by first | (with_reducible assumption) | assumption)
                    have q895 : x5_1 < (l0.length : Int) := of_decide_eq_true (by first | (with_reducible assumption) | assumption)
                    obtain ⟨ad895, e895, hx895_0, hx895_1, hx895_2, hx895_3, hx895_4⟩ := at_T47 HR0.out x5_1 p895 q895
                    obtain rfl : ad893 = ad895 := (by injection e895)
                    replace p895 := eq_true p895
                    replace q895 := eq_true q895
                    have p896 : 0 ≤ (x5_1 : Int) := of_decide_eq_true (by first | (with_reducible assumption) | assumption)
                    have q896 : x5_1 < (l0.length : Int) := of_decide_eq_true (by first | (with_reducible assumption) | assumption)
                    obtain ⟨ad896, e896, hx896_0, hx896_1, hx896_2, hx896_3, hx896_4⟩ := at_T47 HR0.out x5_1 p896 q896
                    obtain rfl : ad893 = ad896 := (by injection e896)
                    replace p896 := eq_true p896
                    replace q896 := eq_true q896
                    have p897 : 0 ≤ (x5_1 : Int) := of_decide_eq_true (by first | (with_reducible assumption) | assumption)
                    have q897 : x5_1 < (l0.length : Int) := of_decide_eq_true (by first | (with_reducible assumption) | assumption)
                    obtain ⟨ad897, e897, hx897_0, hx897_1, hx897_2, hx897_3, hx897_4⟩ := at_T47 HR0.out x5_1 p897 q897
                    obtain rfl : ad893 = ad897 := (by injection e897)
                    replace p897 := eq_true p897
                    replace q897 := eq_true q897
                    go_wp2
                    go_ret
                    exact ⟨e2_, by repeat (first | exact Drawn0.refl _ | apply Drawn0.step)⟩
                · rw [if_neg c8] at H
                  have c8b0 : (((rd_T47 l0 x5_1).f3) == (wrap64 ((wrap64 ((wrap64 (x1_1 + 1)) + 1)) + 1))) = false := beq_eq_false_iff_ne.mpr c8
                  have c8b1 : (((rd_T47 l0 x5_1).f3) != (wrap64 ((wrap64 ((wrap64 (x1_1 + 1)) + 1)) + 1))) = true := bne_iff_ne.mpr c8
                  obtain rfl := Option.some.inj H
                  have p893 : 0 ≤ (x5_1 : Int) := of_decide_eq_true (by first | (with_reducible assumption) | assumption)
                  have q893 : x5_1 < (l0.length : Int) := of_decide_eq_true (by first | (with_reducible assumption) | assumption)
                  obtain ⟨ad893, e893, hx893_0, hx893_1, hx893_2, hx893_3, hx893_4⟩ := at_T47 HR0.out x5_1 p893 q893
                  cases e893
                  replace p893 := eq_true p893
                  replace q893 := eq_true q893
                  have p894 : 0 ≤ (x5_1 : Int) := of_decide_eq_true (by first | (with_reducible assumption) | assumption)
                  have q894 : x5_1 < (l0.length : Int) := of_decide_eq_true (by first | (with_reducible assumption) | assumption)
                  obtain ⟨ad894, e894, hx894_0, hx894_1, hx894_2, hx894_3, hx894_4⟩ := at_T47 HR0.out x5_1 p894 q894
                  obtain rfl : ad893 = ad894 := (by injection e894)
                  replace p894 := eq_true p894
                  replace q894 := eq_true q894
                  have p895 : 0 ≤ (x5_1 : Int) := of_decide_eq_true (by first | (with_reducible assumption) | assumption)
                  have q895 : x5_1 < (l0.length : Int) := of_decide_eq_true (by first | (with_reducible assumption) | assumption)
                  obtain ⟨ad895, e895, hx895_0, hx895_1, hx895_2, hx895_3, hx895_4⟩ := at_T47 HR0.out x5_1 p895 q895
                  obtain rfl : ad893 = ad895 := (by injection e895)
                  replace p895 := eq_true p895
                  replace q895 := eq_true q895
                  have p896 : 0 ≤ (x5_1 : Int) := of_decide_eq_true (by first | (with_reducible assumption) | assumption)
                  have q896 : x5_1 < (l0.length : Int) := of_decide_eq_true (by first | (with_reducible assumption) | assumption)
                  obtain ⟨ad896, e896, hx896_0, hx896_1, hx896_2, hx896_3, hx896_4⟩ := at_T47 HR0.out x5_1 p896 q896
                  obtain rfl : ad893 = ad896 := (by injection e896)
                  replace p896 := eq_true p896
                  replace q896 := eq_true q896
                  go_wp2
                  go_ret
                  exact ⟨e2_, by repeat (first | exact Drawn0.refl _ | apply Drawn0.step)⟩
              · rw [if_neg c7] at H
                have c7b0 : (((rd_T47 l0 x5_1).f2) == (wrap64 ((wrap64 (x1_1 + 1)) + 1))) = false := beq_eq_false_iff_ne.mpr c7
                have c7b1 : (((rd_T47 l0 x5_1).f2) != (wrap64 ((wrap64 (x1_1 + 1)) + 1))) = true := bne_iff_ne.mpr c7
                obtain rfl := Option.some.inj H
                have p893 : 0 ≤ (x5_1 : Int) := of_decide_eq_true (by first | (with_reducible assumption) | assumption)
                have q893 : x5_1 < (l0.length : Int) := of_decide_eq_true (by first | (with_reducible assumption) | assumption)
                obtain ⟨ad893, e893, hx893_0, hx893_1, hx893_2, hx893_3, hx893_4⟩ := at_T47 HR0.out x5_1 p893 q893
                cases e893
                replace p893 := eq_true p893
                replace q893 := eq_true q893
                have p894 : 0 ≤ (x5_1 : Int) := of_decide_eq_true (by first | (with_reducible assumption) | assumption)
                have q894 : x5_1 < (l0.length : Int) := of_decide_eq_true (by first | (with_reducible assumption) | assumption)
                obtain ⟨ad894, e894, hx894_0, hx894_1, hx894_2, hx894_3, hx894_4⟩ := at_T47 HR0.out x5_1 p894 q894
                obtain rfl : ad893 = ad894 := (by injection e894)
                replace p894 := eq_true p894
                replace q894 := eq_true q894
                have p895 : 0 ≤ (x5_1 : Int) := of_decide_eq_true (by first | (with_reducible assumption) | assumption)
                have q895 : x5_1 < (l0.length : Int) := of_decide_eq_true (by first | (with_reducible assumption) | assumption)
                obtain ⟨ad895, e895, hx895_0, hx895_1, hx895_2, hx895_3, hx895_4⟩ := at_T47 HR0.out x5_1 p895 q895
                obtain rfl : ad893 = ad895 := (by injection e895)
                replace p895 := eq_true p895
                replace q895 := eq_true q895
                go_wp2
                go_ret
                exact ⟨e2_, by repeat (first | exact Drawn0.refl _ | apply Drawn0.step)⟩
            · rw [if_neg c6] at H
              have c6b0 : (((rd_T47 l0 x5_1).f1) == (wrap64 (x1_1 + 1))) = false := beq_eq_false_iff_ne.mpr c6
              have c6b1 : (((rd_T47 l0 x5_1).f1) != (wrap64 (x1_1 + 1))) = true := bne_iff_ne.mpr c6
              obtain rfl := Option.some.inj H
              have p893 : 0 ≤ (x5_1 : Int) := of_decide_eq_true (by first | (with_reducible assumption) | assumption)
              have q893 : x5_1 < (l0.length : Int) := of_decide_eq_true (by first | (with_reducible assumption) | assumption)
              obtain ⟨ad893, e893, hx893_0, hx893_1, hx893_2, hx893_3, hx893_4⟩ := at_T47 HR0.out x5_1 p893 q893
              cases e893
              replace p893 := eq_true p893
              replace q893 := eq_true q893
              have p894 : 0 ≤ (x5_1 : Int) := of_decide_eq_true (by first | (with_reducible assumption) | assumption)
              have q894 : x5_1 < (l0.length : Int) := of_decide_eq_true (by first | (with_reducible assumption) | assumption)
              obtain ⟨ad894, e894, hx894_0, hx894_1, hx894_2, hx894_3, hx894_4⟩ := at_T47 HR0.out x5_1 p894 q894
              obtain rfl : ad893 = ad894 := (by injection e894)
              replace p894 := eq_true p894
              replace q894 := eq_true q894
              go_wp2
              go_ret
              exact ⟨e2_, by repeat (first | exact Drawn0.refl _ | apply Drawn0.step)⟩
          · rw [if_neg c5] at H
            have c5b0 : (((rd_T47 l0 x5_1).f0) == x1_1) = false := beq_eq_false_iff_ne.mpr c5
            have c5b1 : (((rd_T47 l0 x5_1).f0) != x1_1) = true := bne_iff_ne.mpr c5
            obtain rfl := Option.some.inj H
            have p893 : 0 ≤ (x5_1 : Int) := of_decide_eq_true (by first | (with_reducible assumption) | assumption)
            have q893 : x5_1 < (l0.length : Int) := of_decide_eq_true (by first | (with_reducible assumption) | assumption)
            obtain ⟨ad893, e893, hx893_0, hx893_1, hx893_2, hx893_3, hx893_4⟩ := at_T47 HR0.out x5_1 p893 q893
            cases e893
            replace p893 := eq_true p893
            replace q893 := eq_true q893
            go_wp2
            go_ret
            exact ⟨e2_, by repeat (first | exact Drawn0.refl _ | apply Drawn0.step)⟩
        · rw [if_neg c4] at H
          exact absurd H (by simp)
      · rw [if_neg c3] at H
        have c3b0 : decide (x5_1 < (l0.length : Int)) = false := decide_eq_false c3
        clear c3
        obtain rfl := Option.some.inj H
        go_wp2
        go_ret
        exact ⟨e2_, by repeat (first | exact Drawn0.refl _ | apply Drawn0.step)⟩
end Go.Proofs.Ytibmeomlokigjaa.Q
namespace Go.Proofs.Ytibmeomlokigjaa.Q
open Go.RowKit Go.Proofs.YtibmeomlokigjaaW.PrintWords Go.Proofs.YtibmeomlokigjaaW.PrintLast Go.Proofs.YtibmeomlokigjaaW.PrintMore
attribute [local go_sem] max2_int min2_int max_two min_two max_three min_three max_four min_four
set_option linter.unusedVariables false
set_option linter.unusedSimpArgs false
def laws_heldBook.f (k : Nat) (l0_0 : List (S132)) (a0_1 : Int) (a0_2 : Int) (a0_3 : Int) (l0_4 : List Int) (a0_5 : Bool) (l0_6 : List (S47)) (l0_7 : List Int) (l0_8 : List Int) (a1 : Int) : Option (Int) := (laws_heldTeamS.f k l0_0 a1).bind fun t899 => (if t899 < 0 then (some (-1)) else ((laws_heldRules.f k a0_1 a0_2 a0_3 l0_4 a0_5 t899).bind fun t900 => (if t900 < 0 then (some (-1)) else ((laws_heldGameS.f k l0_6 t900).bind fun t901 => (if t901 < 0 then (some (-1)) else ((laws_heldIntS.f k l0_7 t901).bind fun t902 => (if t902 < 0 then (some (-1)) else ((laws_heldIntS.f k l0_8 t902).bind fun t903 => (if t903 < 0 then (some (-1)) else (some t903))))))))))
set_option maxHeartbeats 8000000 in
set_option maxRecDepth 100000 in
theorem laws_heldBook.calls (k : Nat) (A0_0 : Option Addr) (c0_0 : Nat) (l0_0 : List (S132)) (a0_1 : Int) (a0_2 : Int) (a0_3 : Int) (A0_4 : Option Addr) (c0_4 : Nat) (l0_4 : List Int) (a0_5 : Bool) (A0_6 : Option Addr) (c0_6 : Nat) (l0_6 : List (S47)) (A0_7 : Option Addr) (c0_7 : Nat) (l0_7 : List Int) (A0_8 : Option Addr) (c0_8 : Nat) (l0_8 : List Int) (a1 : Int) (r : Int) (w : World) (hr0_0 : Kd.C k132 w A0_0 l0_0.length l0_0) (hc0_0 : l0_0.length ≤ c0_0) (hr0_4 : Kd.C (Kd.int .i64) w A0_4 l0_4.length l0_4) (hc0_4 : l0_4.length ≤ c0_4) (hr0_6 : Kd.C k47 w A0_6 l0_6.length l0_6) (hc0_6 : l0_6.length ≤ c0_6) (hr0_7 : Kd.C (Kd.int .i64) w A0_7 l0_7.length l0_7) (hc0_7 : l0_7.length ≤ c0_7) (hr0_8 : Kd.C (Kd.int .i64) w A0_8 l0_8.length l0_8) (hc0_8 : l0_8.length ≤ c0_8) (h : laws_heldBook.f k l0_0 a0_1 a0_2 a0_3 l0_4 a0_5 l0_6 l0_7 l0_8 a1 = some r) :
    Calls Try.prog 91 #[.agg #[.slice A0_0 l0_0.length c0_0, .int .i64 a0_1, .int .i64 a0_2, .int .i64 a0_3, .slice A0_4 l0_4.length c0_4, .bool a0_5, .slice A0_6 l0_6.length c0_6, .slice A0_7 l0_7.length c0_7, .slice A0_8 l0_8.length c0_8], .int .i64 a1] w fun e w' => e = .returned (.int .i64 r) ∧ Below w.heap.size w w' := by
  have hu29 := Try.underlying29
  have hu26 := Try.underlying26
  have HR0_0 := Aside0.mk hr0_0
  have HC0_0 := Aside0.mk hc0_0
  clear hr0_0 hc0_0
  have HR0_4 := Aside0.mk hr0_4
  have HC0_4 := Aside0.mk hc0_4
  clear hr0_4 hc0_4
  have HR0_6 := Aside0.mk hr0_6
  have HC0_6 := Aside0.mk hc0_6
  clear hr0_6 hc0_6
  have HR0_7 := Aside0.mk hr0_7
  have HC0_7 := Aside0.mk hc0_7
  clear hr0_7 hc0_7
  have HR0_8 := Aside0.mk hr0_8
  have HC0_8 := Aside0.mk hc0_8
  clear hr0_8 hc0_8
  have HB := Aside0.mk (Below.refl w.heap.size w)
  have H : ((laws_heldTeamS.f k l0_0 a1).bind fun t899 => (if t899 < 0 then (some (-1)) else ((laws_heldRules.f k a0_1 a0_2 a0_3 l0_4 a0_5 t899).bind fun t900 => (if t900 < 0 then (some (-1)) else ((laws_heldGameS.f k l0_6 t900).bind fun t901 => (if t901 < 0 then (some (-1)) else ((laws_heldIntS.f k l0_7 t901).bind fun t902 => (if t902 < 0 then (some (-1)) else ((laws_heldIntS.f k l0_8 t902).bind fun t903 => (if t903 < 0 then (some (-1)) else (some t903))))))))))) = some r := h
  clear h
  replace H := Option.bind_eq_some_iff.mp H
  obtain ⟨t899, A30, H⟩ := H
  replace H : (if t899 < 0 then (some (-1)) else ((laws_heldRules.f k a0_1 a0_2 a0_3 l0_4 a0_5 t899).bind fun t900 => (if t900 < 0 then (some (-1)) else ((laws_heldGameS.f k l0_6 t900).bind fun t901 => (if t901 < 0 then (some (-1)) else ((laws_heldIntS.f k l0_7 t901).bind fun t902 => (if t902 < 0 then (some (-1)) else ((laws_heldIntS.f k l0_8 t902).bind fun t903 => (if t903 < 0 then (some (-1)) else (some t903)))))))))) = some r := H
  have A3 := Aside0.mk A30
  clear A30
  by_cases c4 : t899 < 0
  · rw [if_pos c4] at H
    have c4b0 : decide (t899 < 0) = true := decide_eq_true c4
    clear c4
    obtain rfl := Option.some.inj H
    go_enter Try.func91, Try.ntmps91
    go_wp2_with (first | ((with_reducible refine gate_dst (N := 2) rfl ?_); refine bx (N := 2) (cs := #[.slice A0_0 l0_0.length c0_0, .int .i64 a0_1, .int .i64 a0_2, .int .i64 a0_3, .slice A0_4 l0_4.length c0_4, .bool a0_5, .slice A0_6 l0_6.length c0_6, .slice A0_7 l0_7.length c0_7, .slice A0_8 l0_8.length c0_8]) (t := 29) ?_; intro gb898 hg w5 hbox hb; have BK898 := Aside0.mk (hbox); have GW898 := gs hg HB; have GE898 := gs hg HB; replace HB := hs_ HB hb; clear hb hbox hg; have ⟨hcz6_0, hcz6_1, hcz6_2, hcz6_3, hcz6_4, hcz6_5, hcz6_6, hcz6_7, hcz6_8, hfz6_0, hfz6_1, hfz6_2, hfz6_3, hfz6_4, hfz6_5, hfz6_6, hfz6_7, hfz6_8⟩ := rz9 BK898) | ((with_reducible refine gate_callee (f := 129) rfl ?_); refine gl (some 8) Try.func129 #[.slice A0_0 l0_0.length c0_0, .int .i64 a1] ?_; (with_reducible refine (laws_heldTeamS.calls k _ _ l0_0 a1 t899 _ ?side1 ?side2 A3.out).mono ?_); (case side1 => exact cc HR0_0 HB); (case side2 => exact HC0_0.out); rintro e w7 ⟨rfl, hb⟩; refine ⟨_, rfl, ?_⟩; replace BK898 := kb BK898 hb; replace HB := hs_ HB hb; (try clear hb); (try clear hb2); (try clear hk); (try clear hi)))
    go_ret
    exact ⟨ee, bb HB⟩
  · rw [if_neg c4] at H
    have c4b0 : decide (t899 < 0) = false := decide_eq_false c4
    clear c4
    replace H := Option.bind_eq_some_iff.mp H
    obtain ⟨t900, A80, H⟩ := H
    replace H : (if t900 < 0 then (some (-1)) else ((laws_heldGameS.f k l0_6 t900).bind fun t901 => (if t901 < 0 then (some (-1)) else ((laws_heldIntS.f k l0_7 t901).bind fun t902 => (if t902 < 0 then (some (-1)) else ((laws_heldIntS.f k l0_8 t902).bind fun t903 => (if t903 < 0 then (some (-1)) else (some t903)))))))) = some r := H
    have A8 := Aside0.mk A80
    clear A80
    by_cases c9 : t900 < 0
    · rw [if_pos c9] at H
      have c9b0 : decide (t900 < 0) = true := decide_eq_true c9
      clear c9
      obtain rfl := Option.some.inj H
      go_enter Try.func91, Try.ntmps91
      go_wp2_with (first | ((with_reducible refine gate_dst (N := 2) rfl ?_); refine bx (N := 2) (cs := #[.slice A0_0 l0_0.length c0_0, .int .i64 a0_1, .int .i64 a0_2, .int .i64 a0_3, .slice A0_4 l0_4.length c0_4, .bool a0_5, .slice A0_6 l0_6.length c0_6, .slice A0_7 l0_7.length c0_7, .slice A0_8 l0_8.length c0_8]) (t := 29) ?_; intro gb898 hg w10 hbox hb; have BK898 := Aside0.mk (hbox); have GW898 := gs hg HB; have GE898 := gs hg HB; replace HB := hs_ HB hb; clear hb hbox hg; have ⟨hcz11_0, hcz11_1, hcz11_2, hcz11_3, hcz11_4, hcz11_5, hcz11_6, hcz11_7, hcz11_8, hfz11_0, hfz11_1, hfz11_2, hfz11_3, hfz11_4, hfz11_5, hfz11_6, hfz11_7, hfz11_8⟩ := rz9 BK898) | ((with_reducible refine gate_callee (f := 129) rfl ?_); refine gl (some 8) Try.func129 #[.slice A0_0 l0_0.length c0_0, .int .i64 a1] ?_; (with_reducible refine (laws_heldTeamS.calls k _ _ l0_0 a1 t899 _ ?side1 ?side2 A3.out).mono ?_); (case side1 => exact cc HR0_0 HB); (case side2 => exact HC0_0.out); rintro e w12 ⟨rfl, hb⟩; refine ⟨_, rfl, ?_⟩; replace BK898 := kb BK898 hb; replace HB := hs_ HB hb; (try clear hb); (try clear hb2); (try clear hk); (try clear hi); have ⟨hcz13_0, hcz13_1, hcz13_2, hcz13_3, hcz13_4, hcz13_5, hcz13_6, hcz13_7, hcz13_8, hfz13_0, hfz13_1, hfz13_2, hfz13_3, hfz13_4, hfz13_5, hfz13_6, hfz13_7, hfz13_8⟩ := rz9 BK898) | ((with_reducible refine gate_callee (f := 130) rfl ?_); refine gl (some 14) Try.func130 #[.agg #[.int .i64 a0_1, .int .i64 a0_2, .int .i64 a0_3, .slice A0_4 l0_4.length c0_4, .bool a0_5], .int .i64 t899] ?_; (with_reducible refine (laws_heldRules.calls k a0_1 a0_2 a0_3 _ _ l0_4 a0_5 t899 t900 _ ?side1 ?side2 A8.out).mono ?_); (case side1 => exact cc HR0_4 HB); (case side2 => exact HC0_4.out); rintro e w14 ⟨rfl, hb⟩; refine ⟨_, rfl, ?_⟩; replace BK898 := kb BK898 hb; replace HB := hs_ HB hb; (try clear hb); (try clear hb2); (try clear hk); (try clear hi)))
      go_ret
      exact ⟨ee, bb HB⟩
    · rw [if_neg c9] at H
      have c9b0 : decide (t900 < 0) = false := decide_eq_false c9
      clear c9
      replace H := Option.bind_eq_some_iff.mp H
      obtain ⟨t901, A150, H⟩ := H
      replace H : (if t901 < 0 then (some (-1)) else ((laws_heldIntS.f k l0_7 t901).bind fun t902 => (if t902 < 0 then (some (-1)) else ((laws_heldIntS.f k l0_8 t902).bind fun t903 => (if t903 < 0 then (some (-1)) else (some t903)))))) = some r := H
      have A15 := Aside0.mk A150
      clear A150
      by_cases c16 : t901 < 0
      · rw [if_pos c16] at H
        have c16b0 : decide (t901 < 0) = true := decide_eq_true c16
        clear c16
        obtain rfl := Option.some.inj H
        go_enter Try.func91, Try.ntmps91
        go_wp2_with (first | ((with_reducible refine gate_dst (N := 2) rfl ?_); refine bx (N := 2) (cs := #[.slice A0_0 l0_0.length c0_0, .int .i64 a0_1, .int .i64 a0_2, .int .i64 a0_3, .slice A0_4 l0_4.length c0_4, .bool a0_5, .slice A0_6 l0_6.length c0_6, .slice A0_7 l0_7.length c0_7, .slice A0_8 l0_8.length c0_8]) (t := 29) ?_; intro gb898 hg w17 hbox hb; have BK898 := Aside0.mk (hbox); have GW898 := gs hg HB; have GE898 := gs hg HB; replace HB := hs_ HB hb; clear hb hbox hg; have ⟨hcz18_0, hcz18_1, hcz18_2, hcz18_3, hcz18_4, hcz18_5, hcz18_6, hcz18_7, hcz18_8, hfz18_0, hfz18_1, hfz18_2, hfz18_3, hfz18_4, hfz18_5, hfz18_6, hfz18_7, hfz18_8⟩ := rz9 BK898) | ((with_reducible refine gate_callee (f := 129) rfl ?_); refine gl (some 8) Try.func129 #[.slice A0_0 l0_0.length c0_0, .int .i64 a1] ?_; (with_reducible refine (laws_heldTeamS.calls k _ _ l0_0 a1 t899 _ ?side1 ?side2 A3.out).mono ?_); (case side1 => exact cc HR0_0 HB); (case side2 => exact HC0_0.out); rintro e w19 ⟨rfl, hb⟩; refine ⟨_, rfl, ?_⟩; replace BK898 := kb BK898 hb; replace HB := hs_ HB hb; (try clear hb); (try clear hb2); (try clear hk); (try clear hi); have ⟨hcz20_0, hcz20_1, hcz20_2, hcz20_3, hcz20_4, hcz20_5, hcz20_6, hcz20_7, hcz20_8, hfz20_0, hfz20_1, hfz20_2, hfz20_3, hfz20_4, hfz20_5, hfz20_6, hfz20_7, hfz20_8⟩ := rz9 BK898) | ((with_reducible refine gate_callee (f := 130) rfl ?_); refine gl (some 14) Try.func130 #[.agg #[.int .i64 a0_1, .int .i64 a0_2, .int .i64 a0_3, .slice A0_4 l0_4.length c0_4, .bool a0_5], .int .i64 t899] ?_; (with_reducible refine (laws_heldRules.calls k a0_1 a0_2 a0_3 _ _ l0_4 a0_5 t899 t900 _ ?side1 ?side2 A8.out).mono ?_); (case side1 => exact cc HR0_4 HB); (case side2 => exact HC0_4.out); rintro e w21 ⟨rfl, hb⟩; refine ⟨_, rfl, ?_⟩; replace BK898 := kb BK898 hb; replace HB := hs_ HB hb; (try clear hb); (try clear hb2); (try clear hk); (try clear hi); have ⟨hcz22_0, hcz22_1, hcz22_2, hcz22_3, hcz22_4, hcz22_5, hcz22_6, hcz22_7, hcz22_8, hfz22_0, hfz22_1, hfz22_2, hfz22_3, hfz22_4, hfz22_5, hfz22_6, hfz22_7, hfz22_8⟩ := rz9 BK898) | ((with_reducible refine gate_callee (f := 131) rfl ?_); refine gl (some 20) Try.func131 #[.slice A0_6 l0_6.length c0_6, .int .i64 t900] ?_; (with_reducible refine (laws_heldGameS.calls k _ _ l0_6 t900 t901 _ ?side1 ?side2 A15.out).mono ?_); (case side1 => exact cc HR0_6 HB); (case side2 => exact HC0_6.out); rintro e w' ⟨rfl, ⟨nd, rfl⟩⟩; refine ⟨_, rfl, ?_⟩))
        go_ret
        exact ⟨ee, bb HB⟩
      · rw [if_neg c16] at H
        have c16b0 : decide (t901 < 0) = false := decide_eq_false c16
        clear c16
        replace H := Option.bind_eq_some_iff.mp H
        obtain ⟨t902, A230, H⟩ := H
        replace H : (if t902 < 0 then (some (-1)) else ((laws_heldIntS.f k l0_8 t902).bind fun t903 => (if t903 < 0 then (some (-1)) else (some t903)))) = some r := H
        have A23 := Aside0.mk A230
        clear A230
        by_cases c24 : t902 < 0
        · rw [if_pos c24] at H
          have c24b0 : decide (t902 < 0) = true := decide_eq_true c24
          clear c24
          obtain rfl := Option.some.inj H
          go_enter Try.func91, Try.ntmps91
          go_wp2_with (first | ((with_reducible refine gate_dst (N := 2) rfl ?_); refine bx (N := 2) (cs := #[.slice A0_0 l0_0.length c0_0, .int .i64 a0_1, .int .i64 a0_2, .int .i64 a0_3, .slice A0_4 l0_4.length c0_4, .bool a0_5, .slice A0_6 l0_6.length c0_6, .slice A0_7 l0_7.length c0_7, .slice A0_8 l0_8.length c0_8]) (t := 29) ?_; intro gb898 hg w25 hbox hb; have BK898 := Aside0.mk (hbox); have GW898 := gs hg HB; have GE898 := gs hg HB; replace HB := hs_ HB hb; clear hb hbox hg; have ⟨hcz26_0, hcz26_1, hcz26_2, hcz26_3, hcz26_4, hcz26_5, hcz26_6, hcz26_7, hcz26_8, hfz26_0, hfz26_1, hfz26_2, hfz26_3, hfz26_4, hfz26_5, hfz26_6, hfz26_7, hfz26_8⟩ := rz9 BK898) | ((with_reducible refine gate_callee (f := 129) rfl ?_); refine gl (some 8) Try.func129 #[.slice A0_0 l0_0.length c0_0, .int .i64 a1] ?_; (with_reducible refine (laws_heldTeamS.calls k _ _ l0_0 a1 t899 _ ?side1 ?side2 A3.out).mono ?_); (case side1 => exact cc HR0_0 HB); (case side2 => exact HC0_0.out); rintro e w27 ⟨rfl, hb⟩; refine ⟨_, rfl, ?_⟩; replace BK898 := kb BK898 hb; replace HB := hs_ HB hb; (try clear hb); (try clear hb2); (try clear hk); (try clear hi); have ⟨hcz28_0, hcz28_1, hcz28_2, hcz28_3, hcz28_4, hcz28_5, hcz28_6, hcz28_7, hcz28_8, hfz28_0, hfz28_1, hfz28_2, hfz28_3, hfz28_4, hfz28_5, hfz28_6, hfz28_7, hfz28_8⟩ := rz9 BK898) | ((with_reducible refine gate_callee (f := 130) rfl ?_); refine gl (some 14) Try.func130 #[.agg #[.int .i64 a0_1, .int .i64 a0_2, .int .i64 a0_3, .slice A0_4 l0_4.length c0_4, .bool a0_5], .int .i64 t899] ?_; (with_reducible refine (laws_heldRules.calls k a0_1 a0_2 a0_3 _ _ l0_4 a0_5 t899 t900 _ ?side1 ?side2 A8.out).mono ?_); (case side1 => exact cc HR0_4 HB); (case side2 => exact HC0_4.out); rintro e w29 ⟨rfl, hb⟩; refine ⟨_, rfl, ?_⟩; replace BK898 := kb BK898 hb; replace HB := hs_ HB hb; (try clear hb); (try clear hb2); (try clear hk); (try clear hi); have ⟨hcz30_0, hcz30_1, hcz30_2, hcz30_3, hcz30_4, hcz30_5, hcz30_6, hcz30_7, hcz30_8, hfz30_0, hfz30_1, hfz30_2, hfz30_3, hfz30_4, hfz30_5, hfz30_6, hfz30_7, hfz30_8⟩ := rz9 BK898) | ((with_reducible refine gate_callee (f := 131) rfl ?_); refine gl (some 20) Try.func131 #[.slice A0_6 l0_6.length c0_6, .int .i64 t900] ?_; (with_reducible refine (laws_heldGameS.calls k _ _ l0_6 t900 t901 _ ?side1 ?side2 A15.out).mono ?_); (case side1 => exact cc HR0_6 HB); (case side2 => exact HC0_6.out); rintro e w' ⟨rfl, ⟨nd, rfl⟩⟩; refine ⟨_, rfl, ?_⟩) | ((with_reducible refine gate_callee (f := 132) rfl ?_); refine gl (some 26) Try.func132 #[.slice A0_7 l0_7.length c0_7, .int .i64 t901] ?_; (with_reducible refine (laws_heldIntS.calls k _ _ l0_7 t901 t902 _ ?side1 ?side2 A23.out).mono ?_); (case side1 => repeat (first | exact (Kd.C_below HR0_7.out (bb HB)) | (with_reducible refine Kd.C_alloc ?_ _) | (with_reducible refine Kd.C_drewN ?_ _) | (with_reducible refine Kd.C_drew ?_))); (case side2 => exact HC0_7.out); rintro e w' ⟨rfl, ⟨nd, rfl⟩⟩; refine ⟨_, rfl, ?_⟩))
          go_ret
          exact ⟨ee, bb HB⟩
        · rw [if_neg c24] at H
          have c24b0 : decide (t902 < 0) = false := decide_eq_false c24
          clear c24
          replace H := Option.bind_eq_some_iff.mp H
          obtain ⟨t903, A310, H⟩ := H
          replace H : (if t903 < 0 then (some (-1)) else (some t903)) = some r := H
          have A31 := Aside0.mk A310
          clear A310
          by_cases c32 : t903 < 0
          · rw [if_pos c32] at H
            have c32b0 : decide (t903 < 0) = true := decide_eq_true c32
            clear c32
            obtain rfl := Option.some.inj H
            go_enter Try.func91, Try.ntmps91
            go_wp2_with (first | ((with_reducible refine gate_dst (N := 2) rfl ?_); refine bx (N := 2) (cs := #[.slice A0_0 l0_0.length c0_0, .int .i64 a0_1, .int .i64 a0_2, .int .i64 a0_3, .slice A0_4 l0_4.length c0_4, .bool a0_5, .slice A0_6 l0_6.length c0_6, .slice A0_7 l0_7.length c0_7, .slice A0_8 l0_8.length c0_8]) (t := 29) ?_; intro gb898 hg w33 hbox hb; have BK898 := Aside0.mk (hbox); have GW898 := gs hg HB; have GE898 := gs hg HB; replace HB := hs_ HB hb; clear hb hbox hg; have ⟨hcz34_0, hcz34_1, hcz34_2, hcz34_3, hcz34_4, hcz34_5, hcz34_6, hcz34_7, hcz34_8, hfz34_0, hfz34_1, hfz34_2, hfz34_3, hfz34_4, hfz34_5, hfz34_6, hfz34_7, hfz34_8⟩ := rz9 BK898) | ((with_reducible refine gate_callee (f := 129) rfl ?_); refine gl (some 8) Try.func129 #[.slice A0_0 l0_0.length c0_0, .int .i64 a1] ?_; (with_reducible refine (laws_heldTeamS.calls k _ _ l0_0 a1 t899 _ ?side1 ?side2 A3.out).mono ?_); (case side1 => exact cc HR0_0 HB); (case side2 => exact HC0_0.out); rintro e w35 ⟨rfl, hb⟩; refine ⟨_, rfl, ?_⟩; replace BK898 := kb BK898 hb; replace HB := hs_ HB hb; (try clear hb); (try clear hb2); (try clear hk); (try clear hi); have ⟨hcz36_0, hcz36_1, hcz36_2, hcz36_3, hcz36_4, hcz36_5, hcz36_6, hcz36_7, hcz36_8, hfz36_0, hfz36_1, hfz36_2, hfz36_3, hfz36_4, hfz36_5, hfz36_6, hfz36_7, hfz36_8⟩ := rz9 BK898) | ((with_reducible refine gate_callee (f := 130) rfl ?_); refine gl (some 14) Try.func130 #[.agg #[.int .i64 a0_1, .int .i64 a0_2, .int .i64 a0_3, .slice A0_4 l0_4.length c0_4, .bool a0_5], .int .i64 t899] ?_; (with_reducible refine (laws_heldRules.calls k a0_1 a0_2 a0_3 _ _ l0_4 a0_5 t899 t900 _ ?side1 ?side2 A8.out).mono ?_); (case side1 => exact cc HR0_4 HB); (case side2 => exact HC0_4.out); rintro e w37 ⟨rfl, hb⟩; refine ⟨_, rfl, ?_⟩; replace BK898 := kb BK898 hb; replace HB := hs_ HB hb; (try clear hb); (try clear hb2); (try clear hk); (try clear hi); have ⟨hcz38_0, hcz38_1, hcz38_2, hcz38_3, hcz38_4, hcz38_5, hcz38_6, hcz38_7, hcz38_8, hfz38_0, hfz38_1, hfz38_2, hfz38_3, hfz38_4, hfz38_5, hfz38_6, hfz38_7, hfz38_8⟩ := rz9 BK898) | ((with_reducible refine gate_callee (f := 131) rfl ?_); refine gl (some 20) Try.func131 #[.slice A0_6 l0_6.length c0_6, .int .i64 t900] ?_; (with_reducible refine (laws_heldGameS.calls k _ _ l0_6 t900 t901 _ ?side1 ?side2 A15.out).mono ?_); (case side1 => exact cc HR0_6 HB); (case side2 => exact HC0_6.out); rintro e w' ⟨rfl, ⟨nd, rfl⟩⟩; refine ⟨_, rfl, ?_⟩) | ((with_reducible refine gate_callee (f := 132) rfl ?_); refine gl (some 26) Try.func132 #[.slice A0_7 l0_7.length c0_7, .int .i64 t901] ?_; (with_reducible refine (laws_heldIntS.calls k _ _ l0_7 t901 t902 _ ?side1 ?side2 A23.out).mono ?_); (case side1 => repeat (first | exact (Kd.C_below HR0_7.out (bb HB)) | (with_reducible refine Kd.C_alloc ?_ _) | (with_reducible refine Kd.C_drewN ?_ _) | (with_reducible refine Kd.C_drew ?_))); (case side2 => exact HC0_7.out); rintro e w' ⟨rfl, ⟨nd, rfl⟩⟩; refine ⟨_, rfl, ?_⟩) | ((with_reducible refine gate_callee (f := 132) rfl ?_); refine gl (some 32) Try.func132 #[.slice A0_8 l0_8.length c0_8, .int .i64 t902] ?_; (with_reducible refine (laws_heldIntS.calls k _ _ l0_8 t902 t903 _ ?side1 ?side2 A31.out).mono ?_); (case side1 => repeat (first | exact (Kd.C_below HR0_8.out (bb HB)) | (with_reducible refine Kd.C_alloc ?_ _) | (with_reducible refine Kd.C_drewN ?_ _) | (with_reducible refine Kd.C_drew ?_))); (case side2 => exact HC0_8.out); rintro e w' ⟨rfl, ⟨nd, rfl⟩⟩; refine ⟨_, rfl, ?_⟩))
            go_ret
            exact ⟨ee, bb HB⟩
          · rw [if_neg c32] at H
            have c32b0 : decide (t903 < 0) = false := decide_eq_false c32
            clear c32
            obtain rfl := Option.some.inj H
            go_enter Try.func91, Try.ntmps91
            go_wp2_with (first | ((with_reducible refine gate_dst (N := 2) rfl ?_); refine bx (N := 2) (cs := #[.slice A0_0 l0_0.length c0_0, .int .i64 a0_1, .int .i64 a0_2, .int .i64 a0_3, .slice A0_4 l0_4.length c0_4, .bool a0_5, .slice A0_6 l0_6.length c0_6, .slice A0_7 l0_7.length c0_7, .slice A0_8 l0_8.length c0_8]) (t := 29) ?_; intro gb898 hg w39 hbox hb; have BK898 := Aside0.mk (hbox); have GW898 := gs hg HB; have GE898 := gs hg HB; replace HB := hs_ HB hb; clear hb hbox hg; have ⟨hcz40_0, hcz40_1, hcz40_2, hcz40_3, hcz40_4, hcz40_5, hcz40_6, hcz40_7, hcz40_8, hfz40_0, hfz40_1, hfz40_2, hfz40_3, hfz40_4, hfz40_5, hfz40_6, hfz40_7, hfz40_8⟩ := rz9 BK898) | ((with_reducible refine gate_callee (f := 129) rfl ?_); refine gl (some 8) Try.func129 #[.slice A0_0 l0_0.length c0_0, .int .i64 a1] ?_; (with_reducible refine (laws_heldTeamS.calls k _ _ l0_0 a1 t899 _ ?side1 ?side2 A3.out).mono ?_); (case side1 => exact cc HR0_0 HB); (case side2 => exact HC0_0.out); rintro e w41 ⟨rfl, hb⟩; refine ⟨_, rfl, ?_⟩; replace BK898 := kb BK898 hb; replace HB := hs_ HB hb; (try clear hb); (try clear hb2); (try clear hk); (try clear hi); have ⟨hcz42_0, hcz42_1, hcz42_2, hcz42_3, hcz42_4, hcz42_5, hcz42_6, hcz42_7, hcz42_8, hfz42_0, hfz42_1, hfz42_2, hfz42_3, hfz42_4, hfz42_5, hfz42_6, hfz42_7, hfz42_8⟩ := rz9 BK898) | ((with_reducible refine gate_callee (f := 130) rfl ?_); refine gl (some 14) Try.func130 #[.agg #[.int .i64 a0_1, .int .i64 a0_2, .int .i64 a0_3, .slice A0_4 l0_4.length c0_4, .bool a0_5], .int .i64 t899] ?_; (with_reducible refine (laws_heldRules.calls k a0_1 a0_2 a0_3 _ _ l0_4 a0_5 t899 t900 _ ?side1 ?side2 A8.out).mono ?_); (case side1 => exact cc HR0_4 HB); (case side2 => exact HC0_4.out); rintro e w43 ⟨rfl, hb⟩; refine ⟨_, rfl, ?_⟩; replace BK898 := kb BK898 hb; replace HB := hs_ HB hb; (try clear hb); (try clear hb2); (try clear hk); (try clear hi); have ⟨hcz44_0, hcz44_1, hcz44_2, hcz44_3, hcz44_4, hcz44_5, hcz44_6, hcz44_7, hcz44_8, hfz44_0, hfz44_1, hfz44_2, hfz44_3, hfz44_4, hfz44_5, hfz44_6, hfz44_7, hfz44_8⟩ := rz9 BK898) | ((with_reducible refine gate_callee (f := 131) rfl ?_); refine gl (some 20) Try.func131 #[.slice A0_6 l0_6.length c0_6, .int .i64 t900] ?_; (with_reducible refine (laws_heldGameS.calls k _ _ l0_6 t900 t901 _ ?side1 ?side2 A15.out).mono ?_); (case side1 => exact cc HR0_6 HB); (case side2 => exact HC0_6.out); rintro e w' ⟨rfl, ⟨nd, rfl⟩⟩; refine ⟨_, rfl, ?_⟩) | ((with_reducible refine gate_callee (f := 132) rfl ?_); refine gl (some 26) Try.func132 #[.slice A0_7 l0_7.length c0_7, .int .i64 t901] ?_; (with_reducible refine (laws_heldIntS.calls k _ _ l0_7 t901 t902 _ ?side1 ?side2 A23.out).mono ?_); (case side1 => repeat (first | exact (Kd.C_below HR0_7.out (bb HB)) | (with_reducible refine Kd.C_alloc ?_ _) | (with_reducible refine Kd.C_drewN ?_ _) | (with_reducible refine Kd.C_drew ?_))); (case side2 => exact HC0_7.out); rintro e w' ⟨rfl, ⟨nd, rfl⟩⟩; refine ⟨_, rfl, ?_⟩) | ((with_reducible refine gate_callee (f := 132) rfl ?_); refine gl (some 32) Try.func132 #[.slice A0_8 l0_8.length c0_8, .int .i64 t902] ?_; (with_reducible refine (laws_heldIntS.calls k _ _ l0_8 t902 t903 _ ?side1 ?side2 A31.out).mono ?_); (case side1 => repeat (first | exact (Kd.C_below HR0_8.out (bb HB)) | (with_reducible refine Kd.C_alloc ?_ _) | (with_reducible refine Kd.C_drewN ?_ _) | (with_reducible refine Kd.C_drew ?_))); (case side2 => exact HC0_8.out); rintro e w' ⟨rfl, ⟨nd, rfl⟩⟩; refine ⟨_, rfl, ?_⟩))
            go_ret
            exact ⟨ee, bb HB⟩
end Go.Proofs.Ytibmeomlokigjaa.Q
namespace Go.Proofs.Ytibmeomlokigjaa.Q
open Go.RowKit Go.Proofs.YtibmeomlokigjaaW.PrintWords Go.Proofs.YtibmeomlokigjaaW.PrintLast Go.Proofs.YtibmeomlokigjaaW.PrintMore
attribute [local go_sem] max2_int min2_int max_two min_two max_three min_three max_four min_four
set_option linter.unusedVariables false
set_option linter.unusedSimpArgs false
def laws_heldNoteS.l0 : Nat → List (S152) → Int → Int → Option (Int)
  | 0, _, _, _ => none
  | k + 1, x0, x1, x5 => if x5 < (x0.length : Int) then (if 0 ≤ x5 then (if ((rd_T152 x0 x5).f0) = x1 then (if ((rd_T152 x0 x5).f1) = (wrap64 (x1 + 1)) then (if ((rd_T152 x0 x5).f2.f0) = (wrap64 ((wrap64 (x1 + 1)) + 1)) then (if ((rd_T152 x0 x5).f2.f1) = (wrap64 ((wrap64 ((wrap64 (x1 + 1)) + 1)) + 1)) then (if ((rd_T152 x0 x5).f2.f2) = (wrap64 ((wrap64 ((wrap64 ((wrap64 (x1 + 1)) + 1)) + 1)) + 1)) then (if ((rd_T152 x0 x5).f2.f3) = (wrap64 ((wrap64 ((wrap64 ((wrap64 ((wrap64 (x1 + 1)) + 1)) + 1)) + 1)) + 1)) then (if ((rd_T152 x0 x5).f2.f4) = (wrap64 ((wrap64 ((wrap64 ((wrap64 ((wrap64 ((wrap64 (x1 + 1)) + 1)) + 1)) + 1)) + 1)) + 1)) then (laws_heldNoteS.l0 k x0 (wrap64 ((wrap64 ((wrap64 ((wrap64 ((wrap64 ((wrap64 ((wrap64 (x1 + 1)) + 1)) + 1)) + 1)) + 1)) + 1)) + 1)) (wrap64 (x5 + 1))) else (some (-1))) else (some (-1))) else (some (-1))) else (some (-1))) else (some (-1))) else (some (-1))) else (some (-1))) else (none)) else (some x1)
def laws_heldNoteS.f (k : Nat) (l0 : List (S152)) (a1 : Int) : Option (Int) := laws_heldNoteS.l0 k l0 a1 0
set_option maxHeartbeats 8000000 in
set_option maxRecDepth 100000 in
theorem laws_heldNoteS.calls (k : Nat) (A0 : Option Addr) (c0 : Nat) (l0 : List (S152)) (a1 : Int) (r : Int) (w : World) (hr0 : Kd.C k152 w A0 l0.length l0) (hc0 : l0.length ≤ c0) (h : laws_heldNoteS.f k l0 a1 = some r) :
    Calls Try.prog 92 #[.slice A0 l0.length c0, .int .i64 a1] w fun e w' => e = .returned (.int .i64 r) ∧ Drawn0 w w' := by
  have HR0 := Aside0.mk hr0
  have HC0 := Aside0.mk hc0
  clear hr0 hc0
  have H : (laws_heldNoteS.l0 k l0 a1 0) = some r := h
  clear h
  have H' := Aside0.mk H
  clear H
  go_enter Try.func92, Try.ntmps92
  go_wp2
  go_loopg [1, 5] k (fun kq v1 v5 w' => ∃ (x1_1 : Int) (x5_1 : Int), v1 = .int .i64 x1_1 ∧ v5 = .int .i64 x5_1 ∧ Aside0 (laws_heldNoteS.l0 kq l0 x1_1 x5_1 = some r) ∧ Aside0 (kq ≤ k) ∧ Drawn0 w w')
  case atStart => exact ⟨(a1), (0), e2_, e2_, H', ⟨Nat.le_refl _⟩, by repeat (first | exact Drawn0.refl _ | apply Drawn0.step)⟩
  case round =>
    clear H'
    (try clear p2)
    obtain ⟨x1_1, x5_1, rfl, rfl, HA, HK1, ⟨m1, rfl⟩⟩ := hrel
    cases gk with
    | zero => exact absurd HA.out (by simp [laws_heldNoteS.l0])
    | succ k1 =>
      have H := HA.out
      clear HA
      simp only [laws_heldNoteS.l0] at H
      by_cases c3 : x5_1 < (l0.length : Int)
      · rw [if_pos c3] at H
        have c3b0 : decide (x5_1 < (l0.length : Int)) = true := decide_eq_true c3
        clear c3
        by_cases c4 : 0 ≤ x5_1
        · rw [if_pos c4] at H
          have c4b0 : decide (0 ≤ x5_1) = true := decide_eq_true c4
          clear c4
          by_cases c5 : ((rd_T152 l0 x5_1).f0) = x1_1
          · rw [if_pos c5] at H
            have c5b0 : (((rd_T152 l0 x5_1).f0) == x1_1) = true := beq_iff_eq.mpr c5
            have c5b1 : (((rd_T152 l0 x5_1).f0) != x1_1) = false := bne_eq_false_iff_eq.mpr c5
            clear c5
            by_cases c6 : ((rd_T152 l0 x5_1).f1) = (wrap64 (x1_1 + 1))
            · rw [if_pos c6] at H
              have c6b0 : (((rd_T152 l0 x5_1).f1) == (wrap64 (x1_1 + 1))) = true := beq_iff_eq.mpr c6
              have c6b1 : (((rd_T152 l0 x5_1).f1) != (wrap64 (x1_1 + 1))) = false := bne_eq_false_iff_eq.mpr c6
              clear c6
              by_cases c7 : ((rd_T152 l0 x5_1).f2.f0) = (wrap64 ((wrap64 (x1_1 + 1)) + 1))
              · rw [if_pos c7] at H
                have c7b0 : (((rd_T152 l0 x5_1).f2.f0) == (wrap64 ((wrap64 (x1_1 + 1)) + 1))) = true := beq_iff_eq.mpr c7
                have c7b1 : (((rd_T152 l0 x5_1).f2.f0) != (wrap64 ((wrap64 (x1_1 + 1)) + 1))) = false := bne_eq_false_iff_eq.mpr c7
                clear c7
                by_cases c8 : ((rd_T152 l0 x5_1).f2.f1) = (wrap64 ((wrap64 ((wrap64 (x1_1 + 1)) + 1)) + 1))
                · rw [if_pos c8] at H
                  have c8b0 : (((rd_T152 l0 x5_1).f2.f1) == (wrap64 ((wrap64 ((wrap64 (x1_1 + 1)) + 1)) + 1))) = true := beq_iff_eq.mpr c8
                  have c8b1 : (((rd_T152 l0 x5_1).f2.f1) != (wrap64 ((wrap64 ((wrap64 (x1_1 + 1)) + 1)) + 1))) = false := bne_eq_false_iff_eq.mpr c8
                  clear c8
                  by_cases c9 : ((rd_T152 l0 x5_1).f2.f2) = (wrap64 ((wrap64 ((wrap64 ((wrap64 (x1_1 + 1)) + 1)) + 1)) + 1))
                  · rw [if_pos c9] at H
                    have c9b0 : (((rd_T152 l0 x5_1).f2.f2) == (wrap64 ((wrap64 ((wrap64 ((wrap64 (x1_1 + 1)) + 1)) + 1)) + 1))) = true := beq_iff_eq.mpr c9
                    have c9b1 : (((rd_T152 l0 x5_1).f2.f2) != (wrap64 ((wrap64 ((wrap64 ((wrap64 (x1_1 + 1)) + 1)) + 1)) + 1))) = false := bne_eq_false_iff_eq.mpr c9
                    clear c9
                    by_cases c10 : ((rd_T152 l0 x5_1).f2.f3) = (wrap64 ((wrap64 ((wrap64 ((wrap64 ((wrap64 (x1_1 + 1)) + 1)) + 1)) + 1)) + 1))
                    · rw [if_pos c10] at H
                      have c10b0 : (((rd_T152 l0 x5_1).f2.f3) == (wrap64 ((wrap64 ((wrap64 ((wrap64 ((wrap64 (x1_1 + 1)) + 1)) + 1)) + 1)) + 1))) = true := beq_iff_eq.mpr c10
                      have c10b1 : (((rd_T152 l0 x5_1).f2.f3) != (wrap64 ((wrap64 ((wrap64 ((wrap64 ((wrap64 (x1_1 + 1)) + 1)) + 1)) + 1)) + 1))) = false := bne_eq_false_iff_eq.mpr c10
                      clear c10
                      by_cases c11 : ((rd_T152 l0 x5_1).f2.f4) = (wrap64 ((wrap64 ((wrap64 ((wrap64 ((wrap64 ((wrap64 (x1_1 + 1)) + 1)) + 1)) + 1)) + 1)) + 1))
                      · rw [if_pos c11] at H
                        have c11b0 : (((rd_T152 l0 x5_1).f2.f4) == (wrap64 ((wrap64 ((wrap64 ((wrap64 ((wrap64 ((wrap64 (x1_1 + 1)) + 1)) + 1)) + 1)) + 1)) + 1))) = true := beq_iff_eq.mpr c11
                        have c11b1 : (((rd_T152 l0 x5_1).f2.f4) != (wrap64 ((wrap64 ((wrap64 ((wrap64 ((wrap64 ((wrap64 (x1_1 + 1)) + 1)) + 1)) + 1)) + 1)) + 1))) = false := bne_eq_false_iff_eq.mpr c11
                        clear c11
                        have H' := Aside0.mk H
                        clear H
                        have p904 : 0 ≤ (x5_1 : Int) := of_decide_eq_true (by first | (with_reducible assumption) | assumption)
                        have q904 : x5_1 < (l0.length : Int) := of_decide_eq_true (by first | (with_reducible assumption) | assumption)
                        obtain ⟨ad904, e904, hx904_0, hx904_1, hx904_2, hx904_3, hx904_4, hx904_5, hx904_6⟩ := at_T152 HR0.out x5_1 p904 q904
                        cases e904
                        replace p904 := eq_true p904
                        replace q904 := eq_true q904
                        have p905 : 0 ≤ (x5_1 : Int) := of_decide_eq_true (by first | (with_reducible assumption) | assumption)
                        have q905 : x5_1 < (l0.length : Int) := of_decide_eq_true (by first | (with_reducible assumption) | assumption)
                        obtain ⟨ad905, e905, hx905_0, hx905_1, hx905_2, hx905_3, hx905_4, hx905_5, hx905_6⟩ := at_T152 HR0.out x5_1 p905 q905
                        obtain rfl : ad904 = ad905 := (by injection e905)
                        replace p905 := eq_true p905
                        replace q905 := eq_true q905
                        have p906 : 0 ≤ (x5_1 : Int) := of_decide_eq_true (by first | (with_reducible assumption) | assumption)
                        have q906 : x5_1 < (l0.length : Int) := of_decide_eq_true (by first | (with_reducible assumption) | assumption)
                        obtain ⟨ad906, e906, hx906_0, hx906_1, hx906_2, hx906_3, hx906_4, hx906_5, hx906_6⟩ := at_T152 HR0.out x5_1 p906 q906
                        obtain rfl : ad904 = ad906 := (by injection e906)
                        replace p906 := eq_true p906
                        replace q906 := eq_true q906
                        have p907 : 0 ≤ (x5_1 : Int) := of_decide_eq_true (by first | (with_reducible assumption) | assumption)
                        have q907 : x5_1 < (l0.length : Int) := of_decide_eq_true (by first | (with_reducible assumption) | assumption)
                        obtain ⟨ad907, e907, hx907_0, hx907_1, hx907_2, hx907_3, hx907_4, hx907_5, hx907_6⟩ := at_T152 HR0.out x5_1 p907 q907
                        obtain rfl : ad904 = ad907 := (by injection e907)
                        replace p907 := eq_true p907
                        replace q907 := eq_true q907
                        have p908 : 0 ≤ (x5_1 : Int) := of_decide_eq_true (by first | (with_reducible assumption) | assumption)
                        have q908 : x5_1 < (l0.length : Int) := of_decide_eq_true (by first | (with_reducible assumption) | assumption)
                        obtain ⟨ad908, e908, hx908_0, hx908_1, hx908_2, hx908_3, hx908_4, hx908_5, hx908_6⟩ := at_T152 HR0.out x5_1 p908 q908
                        obtain rfl : ad904 = ad908 := (by injection e908)
                        replace p908 := eq_true p908
                        replace q908 := eq_true q908
                        have p909 : 0 ≤ (x5_1 : Int) := of_decide_eq_true (by first | (with_reducible assumption) | assumption)
                        have q909 : x5_1 < (l0.length : Int) := of_decide_eq_true (by first | (with_reducible assumption) | assumption)
                        obtain ⟨ad909, e909, hx909_0, hx909_1, hx909_2, hx909_3, hx909_4, hx909_5, hx909_6⟩ := at_T152 HR0.out x5_1 p909 q909
                        obtain rfl : ad904 = ad909 := (by injection e909)
                        replace p909 := eq_true p909
                        replace q909 := eq_true q909
                        have p910 : 0 ≤ (x5_1 : Int) := of_decide_eq_true (by first | (with_reducible assumption) | assumption)
                        have q910 : x5_1 < (l0.length : Int) := of_decide_eq_true (by first | (with_reducible assumption) | assumption)
                        obtain ⟨ad910, e910, hx910_0, hx910_1, hx910_2, hx910_3, hx910_4, hx910_5, hx910_6⟩ := at_T152 HR0.out x5_1 p910 q910
                        obtain rfl : ad904 = ad910 := (by injection e910)
                        replace p910 := eq_true p910
                        replace q910 := eq_true q910
                        go_wp2
                        go_roundg k1
                        case measure => have := HK1.out; omega
                        case rel => exact ⟨(wrap64 ((wrap64 ((wrap64 ((wrap64 ((wrap64 ((wrap64 ((wrap64 (x1_1 + 1)) + 1)) + 1)) + 1)) + 1)) + 1)) + 1)), (wrap64 (x5_1 + 1)), e2_, e2_, H', ⟨by have := HK1.out; omega⟩, by repeat (first | exact Drawn0.refl _ | apply Drawn0.step)⟩
                      · rw [if_neg c11] at H
                        have c11b0 : (((rd_T152 l0 x5_1).f2.f4) == (wrap64 ((wrap64 ((wrap64 ((wrap64 ((wrap64 ((wrap64 (x1_1 + 1)) + 1)) + 1)) + 1)) + 1)) + 1))) = false := beq_eq_false_iff_ne.mpr c11
                        have c11b1 : (((rd_T152 l0 x5_1).f2.f4) != (wrap64 ((wrap64 ((wrap64 ((wrap64 ((wrap64 ((wrap64 (x1_1 + 1)) + 1)) + 1)) + 1)) + 1)) + 1))) = true := bne_iff_ne.mpr c11
                        obtain rfl := Option.some.inj H
                        have p904 : 0 ≤ (x5_1 : Int) := of_decide_eq_true (by first | (with_reducible assumption) | assumption)
                        have q904 : x5_1 < (l0.length : Int) := of_decide_eq_true (by first | (with_reducible assumption) | assumption)
                        obtain ⟨ad904, e904, hx904_0, hx904_1, hx904_2, hx904_3, hx904_4, hx904_5, hx904_6⟩ := at_T152 HR0.out x5_1 p904 q904
                        cases e904
                        replace p904 := eq_true p904
                        replace q904 := eq_true q904
                        have p905 : 0 ≤ (x5_1 : Int) := of_decide_eq_true (by first | (with_reducible assumption) | assumption)
                        have q905 : x5_1 < (l0.length : Int) := of_decide_eq_true (by first | (with_reducible assumption) | assumption)
                        obtain ⟨ad905, e905, hx905_0, hx905_1, hx905_2, hx905_3, hx905_4, hx905_5, hx905_6⟩ := at_T152 HR0.out x5_1 p905 q905
                        obtain rfl : ad904 = ad905 := (by injection e905)
                        replace p905 := eq_true p905
                        replace q905 := eq_true q905
                        have p906 : 0 ≤ (x5_1 : Int) := of_decide_eq_true (by first | (with_reducible assumption) | assumption)
                        have q906 : x5_1 < (l0.length : Int) := of_decide_eq_true (by first | (with_reducible assumption) | assumption)
                        obtain ⟨ad906, e906, hx906_0, hx906_1, hx906_2, hx906_3, hx906_4, hx906_5, hx906_6⟩ := at_T152 HR0.out x5_1 p906 q906
                        obtain rfl : ad904 = ad906 := (by injection e906)
                        replace p906 := eq_true p906
                        replace q906 := eq_true q906
                        have p907 : 0 ≤ (x5_1 : Int) := of_decide_eq_true (by first | (with_reducible assumption) | assumption)
                        have q907 : x5_1 < (l0.length : Int) := of_decide_eq_true (by first | (with_reducible assumption) | assumption)
                        obtain ⟨ad907, e907, hx907_0, hx907_1, hx907_2, hx907_3, hx907_4, hx907_5, hx907_6⟩ := at_T152 HR0.out x5_1 p907 q907
                        obtain rfl : ad904 = ad907 := (by injection e907)
                        replace p907 := eq_true p907
                        replace q907 := eq_true q907
                        have p908 : 0 ≤ (x5_1 : Int) := of_decide_eq_true (by first | (with_reducible assumption) | assumption)
                        have q908 : x5_1 < (l0.length : Int) := of_decide_eq_true (by first | (with_reducible assumption) | assumption)
                        obtain ⟨ad908, e908, hx908_0, hx908_1, hx908_2, hx908_3, hx908_4, hx908_5, hx908_6⟩ := at_T152 HR0.out x5_1 p908 q908
                        obtain rfl : ad904 = ad908 := (by injection e908)
                        replace p908 := eq_true p908
                        replace q908 := eq_true q908
                        have p909 : 0 ≤ (x5_1 : Int) := of_decide_eq_true (by first | (with_reducible assumption) | assumption)
                        have q909 : x5_1 < (l0.length : Int) := of_decide_eq_true (by first | (with_reducible assumption) | assumption)
                        obtain ⟨ad909, e909, hx909_0, hx909_1, hx909_2, hx909_3, hx909_4, hx909_5, hx909_6⟩ := at_T152 HR0.out x5_1 p909 q909
                        obtain rfl : ad904 = ad909 := (by injection e909)
                        replace p909 := eq_true p909
                        replace q909 := eq_true q909
                        have p910 : 0 ≤ (x5_1 : Int) := of_decide_eq_true (by first | (with_reducible assumption) | assumption)
                        have q910 : x5_1 < (l0.length : Int) := of_decide_eq_true (by first | (with_reducible assumption) | assumption)
                        obtain ⟨ad910, e910, hx910_0, hx910_1, hx910_2, hx910_3, hx910_4, hx910_5, hx910_6⟩ := at_T152 HR0.out x5_1 p910 q910
                        obtain rfl : ad904 = ad910 := (by injection e910)
                        replace p910 := eq_true p910
                        replace q910 := eq_true q910
                        go_wp2
                        go_ret
                        exact ⟨e2_, by repeat (first | exact Drawn0.refl _ | apply Drawn0.step)⟩
                    · rw [if_neg c10] at H
                      have c10b0 : (((rd_T152 l0 x5_1).f2.f3) == (wrap64 ((wrap64 ((wrap64 ((wrap64 ((wrap64 (x1_1 + 1)) + 1)) + 1)) + 1)) + 1))) = false := beq_eq_false_iff_ne.mpr c10
                      have c10b1 : (((rd_T152 l0 x5_1).f2.f3) != (wrap64 ((wrap64 ((wrap64 ((wrap64 ((wrap64 (x1_1 + 1)) + 1)) + 1)) + 1)) + 1))) = true := bne_iff_ne.mpr c10
                      obtain rfl := Option.some.inj H
                      have p904 : 0 ≤ (x5_1 : Int) := of_decide_eq_true (by first | (with_reducible assumption) | assumption)
                      have q904 : x5_1 < (l0.length : Int) := of_decide_eq_true (by first | (with_reducible assumption) | assumption)
                      obtain ⟨ad904, e904, hx904_0, hx904_1, hx904_2, hx904_3, hx904_4, hx904_5, hx904_6⟩ := at_T152 HR0.out x5_1 p904 q904
                      cases e904
                      replace p904 := eq_true p904
                      replace q904 := eq_true q904
                      have p905 : 0 ≤ (x5_1 : Int) := of_decide_eq_true (by first | (with_reducible assumption) | assumption)
                      have q905 : x5_1 < (l0.length : Int) := of_decide_eq_true (by first | (with_reducible assumption) | assumption)
                      obtain ⟨ad905, e905, hx905_0, hx905_1, hx905_2, hx905_3, hx905_4, hx905_5, hx905_6⟩ := at_T152 HR0.out x5_1 p905 q905
                      obtain rfl : ad904 = ad905 := (by injection e905)
                      replace p905 := eq_true p905
                      replace q905 := eq_true q905
                      have p906 : 0 ≤ (x5_1 : Int) := of_decide_eq_true (by first | (with_reducible assumption) | assumption)
                      have q906 : x5_1 < (l0.length : Int) := of_decide_eq_true (by first | (with_reducible assumption) | assumption)
                      obtain ⟨ad906, e906, hx906_0, hx906_1, hx906_2, hx906_3, hx906_4, hx906_5, hx906_6⟩ := at_T152 HR0.out x5_1 p906 q906
                      obtain rfl : ad904 = ad906 := (by injection e906)
                      replace p906 := eq_true p906
                      replace q906 := eq_true q906
                      have p907 : 0 ≤ (x5_1 : Int) := of_decide_eq_true (by first | (with_reducible assumption) | assumption)
                      have q907 : x5_1 < (l0.length : Int) := of_decide_eq_true (by first | (with_reducible assumption) | assumption)
                      obtain ⟨ad907, e907, hx907_0, hx907_1, hx907_2, hx907_3, hx907_4, hx907_5, hx907_6⟩ := at_T152 HR0.out x5_1 p907 q907
                      obtain rfl : ad904 = ad907 := (by injection e907)
                      replace p907 := eq_true p907
                      replace q907 := eq_true q907
                      have p908 : 0 ≤ (x5_1 : Int) := of_decide_eq_true (by first | (with_reducible assumption) | assumption)
                      have q908 : x5_1 < (l0.length : Int) := of_decide_eq_true (by first | (with_reducible assumption) | assumption)
                      obtain ⟨ad908, e908, hx908_0, hx908_1, hx908_2, hx908_3, hx908_4, hx908_5, hx908_6⟩ := at_T152 HR0.out x5_1 p908 q908
                      obtain rfl : ad904 = ad908 := (by injection e908)
                      replace p908 := eq_true p908
                      replace q908 := eq_true q908
                      have p909 : 0 ≤ (x5_1 : Int) := of_decide_eq_true (by first | (with_reducible assumption) | assumption)
                      have q909 : x5_1 < (l0.length : Int) := of_decide_eq_true (by first | (with_reducible assumption) | assumption)
                      obtain ⟨ad909, e909, hx909_0, hx909_1, hx909_2, hx909_3, hx909_4, hx909_5, hx909_6⟩ := at_T152 HR0.out x5_1 p909 q909
                      obtain rfl : ad904 = ad909 := (by injection e909)
                      replace p909 := eq_true p909
                      replace q909 := eq_true q909
                      go_wp2
                      go_ret
                      exact ⟨e2_, by repeat (first | exact Drawn0.refl _ | apply Drawn0.step)⟩
                  · rw [if_neg c9] at H
                    have c9b0 : (((rd_T152 l0 x5_1).f2.f2) == (wrap64 ((wrap64 ((wrap64 ((wrap64 (x1_1 + 1)) + 1)) + 1)) + 1))) = false := beq_eq_false_iff_ne.mpr c9
                    have c9b1 : (((rd_T152 l0 x5_1).f2.f2) != (wrap64 ((wrap64 ((wrap64 ((wrap64 (x1_1 + 1)) + 1)) + 1)) + 1))) = true := bne_iff_ne.mpr c9
                    obtain rfl := Option.some.inj H
                    have p904 : 0 ≤ (x5_1 : Int) := of_decide_eq_true (by first | (with_reducible assumption) | assumption)
                    have q904 : x5_1 < (l0.length : Int) := of_decide_eq_true (by first | (with_reducible assumption) | assumption)
                    obtain ⟨ad904, e904, hx904_0, hx904_1, hx904_2, hx904_3, hx904_4, hx904_5, hx904_6⟩ := at_T152 HR0.out x5_1 p904 q904
                    cases e904
                    replace p904 := eq_true p904
                    replace q904 := eq_true q904
                    have p905 : 0 ≤ (x5_1 : Int) := of_decide_eq_true (by first | (with_reducible assumption) | assumption)
                    have q905 : x5_1 < (l0.length : Int) := of_decide_eq_true (by first | (with_reducible assumption) | assumption)
                    obtain ⟨ad905, e905, hx905_0, hx905_1, hx905_2, hx905_3, hx905_4, hx905_5, hx905_6⟩ := at_T152 HR0.out x5_1 p905 q905
                    obtain rfl : ad904 = ad905 := (by injection e905)
                    replace p905 := eq_true p905
                    replace q905 := eq_true q905
                    have p906 : 0 ≤ (x5_1 : Int) := of_decide_eq_true (by first | (with_reducible assumption) | assumption)
                    have q906 : x5_1 < (l0.length : Int) := of_decide_eq_true (by first | (with_reducible assumption) | assumption)
                    obtain ⟨ad906, e906, hx906_0, hx906_1, hx906_2, hx906_3, hx906_4, hx906_5, hx906_6⟩ := at_T152 HR0.out x5_1 p906 q906
                    obtain rfl : ad904 = ad906 := (by injection e906)
                    replace p906 := eq_true p906
                    replace q906 := eq_true q906
                    have p907 : 0 ≤ (x5_1 : Int) := of_decide_eq_true (by first | (with_reducible assumption) | assumption)
                    have q907 : x5_1 < (l0.length : Int) := of_decide_eq_true (by first | (with_reducible assumption) | assumption)
                    obtain ⟨ad907, e907, hx907_0, hx907_1, hx907_2, hx907_3, hx907_4, hx907_5, hx907_6⟩ := at_T152 HR0.out x5_1 p907 q907
                    obtain rfl : ad904 = ad907 := (by injection e907)
                    replace p907 := eq_true p907
                    replace q907 := eq_true q907
                    have p908 : 0 ≤ (x5_1 : Int) := of_decide_eq_true (by first | (with_reducible assumption) | assumption)
                    have q908 : x5_1 < (l0.length : Int) := of_decide_eq_true (by first | (with_reducible assumption) | assumption)
                    obtain ⟨ad908, e908, hx908_0, hx908_1, hx908_2, hx908_3, hx908_4, hx908_5, hx908_6⟩ := at_T152 HR0.out x5_1 p908 q908
                    obtain rfl : ad904 = ad908 := (by injection e908)
                    replace p908 := eq_true p908
                    replace q908 := eq_true q908
                    go_wp2
                    go_ret
                    exact ⟨e2_, by repeat (first | exact Drawn0.refl _ | apply Drawn0.step)⟩
                · rw [if_neg c8] at H
                  have c8b0 : (((rd_T152 l0 x5_1).f2.f1) == (wrap64 ((wrap64 ((wrap64 (x1_1 + 1)) + 1)) + 1))) = false := beq_eq_false_iff_ne.mpr c8
                  have c8b1 : (((rd_T152 l0 x5_1).f2.f1) != (wrap64 ((wrap64 ((wrap64 (x1_1 + 1)) + 1)) + 1))) = true := bne_iff_ne.mpr c8
                  obtain rfl := Option.some.inj H
                  have p904 : 0 ≤ (x5_1 : Int) := of_decide_eq_true (by first | (with_reducible assumption) | assumption)
                  have q904 : x5_1 < (l0.length : Int) := of_decide_eq_true (by first | (with_reducible assumption) | assumption)
                  obtain ⟨ad904, e904, hx904_0, hx904_1, hx904_2, hx904_3, hx904_4, hx904_5, hx904_6⟩ := at_T152 HR0.out x5_1 p904 q904
                  cases e904
                  replace p904 := eq_true p904
                  replace q904 := eq_true q904
                  have p905 : 0 ≤ (x5_1 : Int) := of_decide_eq_true (by first | (with_reducible assumption) | assumption)
                  have q905 : x5_1 < (l0.length : Int) := of_decide_eq_true (by first | (with_reducible assumption) | assumption)
                  obtain ⟨ad905, e905, hx905_0, hx905_1, hx905_2, hx905_3, hx905_4, hx905_5, hx905_6⟩ := at_T152 HR0.out x5_1 p905 q905
                  obtain rfl : ad904 = ad905 := (by injection e905)
                  replace p905 := eq_true p905
                  replace q905 := eq_true q905
                  have p906 : 0 ≤ (x5_1 : Int) := of_decide_eq_true (by first | (with_reducible assumption) | assumption)
                  have q906 : x5_1 < (l0.length : Int) := of_decide_eq_true (by first | (with_reducible assumption) | assumption)
                  obtain ⟨ad906, e906, hx906_0, hx906_1, hx906_2, hx906_3, hx906_4, hx906_5, hx906_6⟩ := at_T152 HR0.out x5_1 p906 q906
                  obtain rfl : ad904 = ad906 := (by injection e906)
                  replace p906 := eq_true p906
                  replace q906 := eq_true q906
                  have p907 : 0 ≤ (x5_1 : Int) := of_decide_eq_true (by first | (with_reducible assumption) | assumption)
                  have q907 : x5_1 < (l0.length : Int) := of_decide_eq_true (by first | (with_reducible assumption) | assumption)
                  obtain ⟨ad907, e907, hx907_0, hx907_1, hx907_2, hx907_3, hx907_4, hx907_5, hx907_6⟩ := at_T152 HR0.out x5_1 p907 q907
                  obtain rfl : ad904 = ad907 := (by injection e907)
                  replace p907 := eq_true p907
                  replace q907 := eq_true q907
                  go_wp2
                  go_ret
                  exact ⟨e2_, by repeat (first | exact Drawn0.refl _ | apply Drawn0.step)⟩
              · rw [if_neg c7] at H
                have c7b0 : (((rd_T152 l0 x5_1).f2.f0) == (wrap64 ((wrap64 (x1_1 + 1)) + 1))) = false := beq_eq_false_iff_ne.mpr c7
                have c7b1 : (((rd_T152 l0 x5_1).f2.f0) != (wrap64 ((wrap64 (x1_1 + 1)) + 1))) = true := bne_iff_ne.mpr c7
                obtain rfl := Option.some.inj H
                have p904 : 0 ≤ (x5_1 : Int) := of_decide_eq_true (by first | (with_reducible assumption) | assumption)
                have q904 : x5_1 < (l0.length : Int) := of_decide_eq_true (by first | (with_reducible assumption) | assumption)
                obtain ⟨ad904, e904, hx904_0, hx904_1, hx904_2, hx904_3, hx904_4, hx904_5, hx904_6⟩ := at_T152 HR0.out x5_1 p904 q904
                cases e904
                replace p904 := eq_true p904
                replace q904 := eq_true q904
                have p905 : 0 ≤ (x5_1 : Int) := of_decide_eq_true (by first | (with_reducible assumption) | assumption)
                have q905 : x5_1 < (l0.length : Int) := of_decide_eq_true (by first | (with_reducible assumption) | assumption)
                obtain ⟨ad905, e905, hx905_0, hx905_1, hx905_2, hx905_3, hx905_4, hx905_5, hx905_6⟩ := at_T152 HR0.out x5_1 p905 q905
                obtain rfl : ad904 = ad905 := (by injection e905)
                replace p905 := eq_true p905
                replace q905 := eq_true q905
                have p906 : 0 ≤ (x5_1 : Int) := of_decide_eq_true (by first | (with_reducible assumption) | assumption)
                have q906 : x5_1 < (l0.length : Int) := of_decide_eq_true (by first | (with_reducible assumption) | assumption)
                obtain ⟨ad906, e906, hx906_0, hx906_1, hx906_2, hx906_3, hx906_4, hx906_5, hx906_6⟩ := at_T152 HR0.out x5_1 p906 q906
                obtain rfl : ad904 = ad906 := (by injection e906)
                replace p906 := eq_true p906
                replace q906 := eq_true q906
                go_wp2
                go_ret
                exact ⟨e2_, by repeat (first | exact Drawn0.refl _ | apply Drawn0.step)⟩
            · rw [if_neg c6] at H
              have c6b0 : (((rd_T152 l0 x5_1).f1) == (wrap64 (x1_1 + 1))) = false := beq_eq_false_iff_ne.mpr c6
              have c6b1 : (((rd_T152 l0 x5_1).f1) != (wrap64 (x1_1 + 1))) = true := bne_iff_ne.mpr c6
              obtain rfl := Option.some.inj H
              have p904 : 0 ≤ (x5_1 : Int) := of_decide_eq_true (by first | (with_reducible assumption) | assumption)
              have q904 : x5_1 < (l0.length : Int) := of_decide_eq_true (by first | (with_reducible assumption) | assumption)
              obtain ⟨ad904, e904, hx904_0, hx904_1, hx904_2, hx904_3, hx904_4, hx904_5, hx904_6⟩ := at_T152 HR0.out x5_1 p904 q904
              cases e904
              replace p904 := eq_true p904
              replace q904 := eq_true q904
              have p905 : 0 ≤ (x5_1 : Int) := of_decide_eq_true (by first | (with_reducible assumption) | assumption)
              have q905 : x5_1 < (l0.length : Int) := of_decide_eq_true (by first | (with_reducible assumption) | assumption)
              obtain ⟨ad905, e905, hx905_0, hx905_1, hx905_2, hx905_3, hx905_4, hx905_5, hx905_6⟩ := at_T152 HR0.out x5_1 p905 q905
              obtain rfl : ad904 = ad905 := (by injection e905)
              replace p905 := eq_true p905
              replace q905 := eq_true q905
              go_wp2
              go_ret
              exact ⟨e2_, by repeat (first | exact Drawn0.refl _ | apply Drawn0.step)⟩
          · rw [if_neg c5] at H
            have c5b0 : (((rd_T152 l0 x5_1).f0) == x1_1) = false := beq_eq_false_iff_ne.mpr c5
            have c5b1 : (((rd_T152 l0 x5_1).f0) != x1_1) = true := bne_iff_ne.mpr c5
            obtain rfl := Option.some.inj H
            have p904 : 0 ≤ (x5_1 : Int) := of_decide_eq_true (by first | (with_reducible assumption) | assumption)
            have q904 : x5_1 < (l0.length : Int) := of_decide_eq_true (by first | (with_reducible assumption) | assumption)
            obtain ⟨ad904, e904, hx904_0, hx904_1, hx904_2, hx904_3, hx904_4, hx904_5, hx904_6⟩ := at_T152 HR0.out x5_1 p904 q904
            cases e904
            replace p904 := eq_true p904
            replace q904 := eq_true q904
            go_wp2
            go_ret
            exact ⟨e2_, by repeat (first | exact Drawn0.refl _ | apply Drawn0.step)⟩
        · rw [if_neg c4] at H
          exact absurd H (by simp)
      · rw [if_neg c3] at H
        have c3b0 : decide (x5_1 < (l0.length : Int)) = false := decide_eq_false c3
        clear c3
        obtain rfl := Option.some.inj H
        go_wp2
        go_ret
        exact ⟨e2_, by repeat (first | exact Drawn0.refl _ | apply Drawn0.step)⟩
end Go.Proofs.Ytibmeomlokigjaa.Q
namespace Go.Proofs.Ytibmeomlokigjaa.Q
open Go.RowKit Go.Proofs.YtibmeomlokigjaaW.PrintWords Go.Proofs.YtibmeomlokigjaaW.PrintLast Go.Proofs.YtibmeomlokigjaaW.PrintMore
attribute [local go_sem] max2_int min2_int max_two min_two max_three min_three max_four min_four
set_option linter.unusedVariables false
set_option linter.unusedSimpArgs false
def laws_heldSentS.l0 : Nat → List (S155) → Int → Int → Option (Int)
  | 0, _, _, _ => none
  | k + 1, x0, x1, x5 => if x5 < (x0.length : Int) then (if 0 ≤ x5 then (if ((rd_T155 x0 x5).f0) = x1 then ((laws_heldIntS.f k ((rd_T155 x0 x5).f1) (wrap64 (x1 + 1))).bind fun t913 => (if t913 < 0 then (some (-1)) else (laws_heldSentS.l0 k x0 t913 (wrap64 (x5 + 1))))) else (some (-1))) else (none)) else (some x1)
def laws_heldSentS.f (k : Nat) (l0 : List (S155)) (a1 : Int) : Option (Int) := laws_heldSentS.l0 k l0 a1 0
set_option maxHeartbeats 8000000 in
set_option maxRecDepth 100000 in
theorem laws_heldSentS.calls (k : Nat) (A0 : Option Addr) (c0 : Nat) (l0 : List (S155)) (a1 : Int) (r : Int) (w : World) (hr0 : Kd.C k155 w A0 l0.length l0) (hc0 : l0.length ≤ c0) (h : laws_heldSentS.f k l0 a1 = some r) :
    Calls Try.prog 93 #[.slice A0 l0.length c0, .int .i64 a1] w fun e w' => e = .returned (.int .i64 r) ∧ Drawn0 w w' := by
  have HR0 := Aside0.mk hr0
  have HC0 := Aside0.mk hc0
  clear hr0 hc0
  have H : (laws_heldSentS.l0 k l0 a1 0) = some r := h
  clear h
  have H' := Aside0.mk H
  clear H
  go_enter Try.func93, Try.ntmps93
  go_wp2
  go_loopg [1, 5] k (fun kq v1 v5 w' => ∃ (x1_1 : Int) (x5_1 : Int), v1 = .int .i64 x1_1 ∧ v5 = .int .i64 x5_1 ∧ Aside0 (laws_heldSentS.l0 kq l0 x1_1 x5_1 = some r) ∧ Aside0 (kq ≤ k) ∧ Drawn0 w w')
  case atStart => exact ⟨(a1), (0), e2_, e2_, H', ⟨Nat.le_refl _⟩, by repeat (first | exact Drawn0.refl _ | apply Drawn0.step)⟩
  case round =>
    clear H'
    (try clear p2)
    obtain ⟨x1_1, x5_1, rfl, rfl, HA, HK1, ⟨m1, rfl⟩⟩ := hrel
    cases gk with
    | zero => exact absurd HA.out (by simp [laws_heldSentS.l0])
    | succ k1 =>
      have H := HA.out
      clear HA
      simp only [laws_heldSentS.l0] at H
      by_cases c3 : x5_1 < (l0.length : Int)
      · rw [if_pos c3] at H
        have c3b0 : decide (x5_1 < (l0.length : Int)) = true := decide_eq_true c3
        clear c3
        by_cases c4 : 0 ≤ x5_1
        · rw [if_pos c4] at H
          have c4b0 : decide (0 ≤ x5_1) = true := decide_eq_true c4
          clear c4
          by_cases c5 : ((rd_T155 l0 x5_1).f0) = x1_1
          · rw [if_pos c5] at H
            have c5b0 : (((rd_T155 l0 x5_1).f0) == x1_1) = true := beq_iff_eq.mpr c5
            have c5b1 : (((rd_T155 l0 x5_1).f0) != x1_1) = false := bne_eq_false_iff_eq.mpr c5
            clear c5
            replace H := Option.bind_eq_some_iff.mp H
            obtain ⟨t913, A60, H⟩ := H
            replace H : (if t913 < 0 then (some (-1)) else (laws_heldSentS.l0 k1 l0 t913 (wrap64 (x5_1 + 1)))) = some r := H
            have A6 := Aside0.mk A60
            clear A60
            by_cases c7 : t913 < 0
            · rw [if_pos c7] at H
              have c7b0 : decide (t913 < 0) = true := decide_eq_true c7
              clear c7
              obtain rfl := Option.some.inj H
              have p911 : 0 ≤ (x5_1 : Int) := of_decide_eq_true (by first | (with_reducible assumption) | assumption)
              have q911 : x5_1 < (l0.length : Int) := of_decide_eq_true (by first | (with_reducible assumption) | assumption)
              obtain ⟨ad911, A911_1, c911_1, e911, hx911_0, hx911_1, hl911_1, hi911_1⟩ := at_T155 HR0.out x5_1 p911 q911
              cases e911
              have HR911_1 := Aside0.mk hi911_1
              have HC911_1 := Aside0.mk hl911_1
              clear hi911_1 hl911_1
              replace p911 := eq_true p911
              replace q911 := eq_true q911
              have p912 : 0 ≤ (x5_1 : Int) := of_decide_eq_true (by first | (with_reducible assumption) | assumption)
              have q912 : x5_1 < (l0.length : Int) := of_decide_eq_true (by first | (with_reducible assumption) | assumption)
              obtain ⟨ad912, A912_1, c912_1, e912, hx912_0, hx912_1, hl912_1, hi912_1⟩ := at_T155 HR0.out x5_1 p912 q912
              obtain rfl : ad911 = ad912 := (by injection e912)
              have HR912_1 := Aside0.mk hi912_1
              have HC912_1 := Aside0.mk hl912_1
              clear hi912_1 hl912_1
              replace p912 := eq_true p912
              replace q912 := eq_true q912
              have ea_ := Option.some.inj (hx911_1.symm.trans hx912_1)
              injection ea_ with ea_ en_ ec_
              subst ea_
              subst ec_
              clear en_
              go_wp2_with (first | ((with_reducible refine gate_callee (f := 132) rfl ?_); refine gl (some 27) Try.func132 #[.slice A911_1 ((rd_T155 l0 x5_1).f1).length c911_1, .int .i64 (wrap64 (x1_1 + 1))] ?_; (with_reducible refine (laws_heldIntS.calls k1 _ _ ((rd_T155 l0 x5_1).f1) (wrap64 (x1_1 + 1)) t913 _ ?side1 ?side2 A6.out).mono ?_); (case side1 => exact cz_ HR912_1); (case side2 => exact HC912_1.out); rintro e w' ⟨rfl, ⟨nd, rfl⟩⟩; refine ⟨_, rfl, ?_⟩))
              go_ret
              exact ⟨e2_, by repeat (first | exact Drawn0.refl _ | apply Drawn0.step)⟩
            · rw [if_neg c7] at H
              have c7b0 : decide (t913 < 0) = false := decide_eq_false c7
              clear c7
              have H' := Aside0.mk H
              clear H
              have p911 : 0 ≤ (x5_1 : Int) := of_decide_eq_true (by first | (with_reducible assumption) | assumption)
              have q911 : x5_1 < (l0.length : Int) := of_decide_eq_true (by first | (with_reducible assumption) | assumption)
              obtain ⟨ad911, A911_1, c911_1, e911, hx911_0, hx911_1, hl911_1, hi911_1⟩ := at_T155 HR0.out x5_1 p911 q911
              cases e911
              have HR911_1 := Aside0.mk hi911_1
              have HC911_1 := Aside0.mk hl911_1
              clear hi911_1 hl911_1
              replace p911 := eq_true p911
              replace q911 := eq_true q911
              have p912 : 0 ≤ (x5_1 : Int) := of_decide_eq_true (by first | (with_reducible assumption) | assumption)
              have q912 : x5_1 < (l0.length : Int) := of_decide_eq_true (by first | (with_reducible assumption) | assumption)
              obtain ⟨ad912, A912_1, c912_1, e912, hx912_0, hx912_1, hl912_1, hi912_1⟩ := at_T155 HR0.out x5_1 p912 q912
              obtain rfl : ad911 = ad912 := (by injection e912)
              have HR912_1 := Aside0.mk hi912_1
              have HC912_1 := Aside0.mk hl912_1
              clear hi912_1 hl912_1
              replace p912 := eq_true p912
              replace q912 := eq_true q912
              have ea_ := Option.some.inj (hx911_1.symm.trans hx912_1)
              injection ea_ with ea_ en_ ec_
              subst ea_
              subst ec_
              clear en_
              go_wp2_with (first | ((with_reducible refine gate_callee (f := 132) rfl ?_); refine gl (some 27) Try.func132 #[.slice A911_1 ((rd_T155 l0 x5_1).f1).length c911_1, .int .i64 (wrap64 (x1_1 + 1))] ?_; (with_reducible refine (laws_heldIntS.calls k1 _ _ ((rd_T155 l0 x5_1).f1) (wrap64 (x1_1 + 1)) t913 _ ?side1 ?side2 A6.out).mono ?_); (case side1 => exact cz_ HR912_1); (case side2 => exact HC912_1.out); rintro e w' ⟨rfl, ⟨nd, rfl⟩⟩; refine ⟨_, rfl, ?_⟩))
              go_roundg k1
              case measure => have := HK1.out; omega
              case rel => exact ⟨(t913), (wrap64 (x5_1 + 1)), e2_, e2_, H', ⟨by have := HK1.out; omega⟩, by repeat (first | exact Drawn0.refl _ | apply Drawn0.step)⟩
          · rw [if_neg c5] at H
            have c5b0 : (((rd_T155 l0 x5_1).f0) == x1_1) = false := beq_eq_false_iff_ne.mpr c5
            have c5b1 : (((rd_T155 l0 x5_1).f0) != x1_1) = true := bne_iff_ne.mpr c5
            obtain rfl := Option.some.inj H
            have p911 : 0 ≤ (x5_1 : Int) := of_decide_eq_true (by first | (with_reducible assumption) | assumption)
            have q911 : x5_1 < (l0.length : Int) := of_decide_eq_true (by first | (with_reducible assumption) | assumption)
            obtain ⟨ad911, A911_1, c911_1, e911, hx911_0, hx911_1, hl911_1, hi911_1⟩ := at_T155 HR0.out x5_1 p911 q911
            cases e911
            have HR911_1 := Aside0.mk hi911_1
            have HC911_1 := Aside0.mk hl911_1
            clear hi911_1 hl911_1
            replace p911 := eq_true p911
            replace q911 := eq_true q911
            go_wp2
            go_ret
            exact ⟨e2_, by repeat (first | exact Drawn0.refl _ | apply Drawn0.step)⟩
        · rw [if_neg c4] at H
          exact absurd H (by simp)
      · rw [if_neg c3] at H
        have c3b0 : decide (x5_1 < (l0.length : Int)) = false := decide_eq_false c3
        clear c3
        obtain rfl := Option.some.inj H
        go_wp2
        go_ret
        exact ⟨e2_, by repeat (first | exact Drawn0.refl _ | apply Drawn0.step)⟩
end Go.Proofs.Ytibmeomlokigjaa.Q
namespace Go.Proofs.Ytibmeomlokigjaa.Q
open Go.RowKit Go.Proofs.YtibmeomlokigjaaW.PrintWords Go.Proofs.YtibmeomlokigjaaW.PrintLast Go.Proofs.YtibmeomlokigjaaW.PrintMore
attribute [local go_sem] max2_int min2_int max_two min_two max_three min_three max_four min_four
set_option linter.unusedVariables false
set_option linter.unusedSimpArgs false
def laws_heldCup.f (k : Nat) (a0_0 : Int) (l0_1 : List Int) (a1 : Int) : Option (Int) := (laws_heldIntS.f k l0_1 a1).bind fun t915 => (if t915 < 0 then (some (-1)) else (some t915))
set_option maxHeartbeats 8000000 in
set_option maxRecDepth 100000 in
theorem laws_heldCup.calls (k : Nat) (a0_0 : Int) (A0_1 : Option Addr) (c0_1 : Nat) (l0_1 : List Int) (a1 : Int) (r : Int) (w : World) (hr0_1 : Kd.C (Kd.int .i64) w A0_1 l0_1.length l0_1) (hc0_1 : l0_1.length ≤ c0_1) (h : laws_heldCup.f k a0_0 l0_1 a1 = some r) :
    Calls Try.prog 94 #[.agg #[.int .i64 a0_0, .slice A0_1 l0_1.length c0_1], .int .i64 a1] w fun e w' => e = .returned (.int .i64 r) ∧ Below w.heap.size w w' := by
  have hu71 := Try.underlying71
  have HR0_1 := Aside0.mk hr0_1
  have HC0_1 := Aside0.mk hc0_1
  clear hr0_1 hc0_1
  have HB := Aside0.mk (Below.refl w.heap.size w)
  have H : ((laws_heldIntS.f k l0_1 a1).bind fun t915 => (if t915 < 0 then (some (-1)) else (some t915))) = some r := h
  clear h
  replace H := Option.bind_eq_some_iff.mp H
  obtain ⟨t915, A30, H⟩ := H
  replace H : (if t915 < 0 then (some (-1)) else (some t915)) = some r := H
  have A3 := Aside0.mk A30
  clear A30
  by_cases c4 : t915 < 0
  · rw [if_pos c4] at H
    have c4b0 : decide (t915 < 0) = true := decide_eq_true c4
    clear c4
    obtain rfl := Option.some.inj H
    go_enter Try.func94, Try.ntmps94
    go_wp2_with (first | ((with_reducible refine gate_dst (N := 2) rfl ?_); refine bx (N := 2) (cs := #[.int .i64 a0_0, .slice A0_1 l0_1.length c0_1]) (t := 71) ?_; intro gb914 hg w5 hbox hb; have BK914 := Aside0.mk (hbox); have GW914 := gs hg HB; have GE914 := gs hg HB; replace HB := hs_ HB hb; clear hb hbox hg; have ⟨hcz6_0, hcz6_1, hfz6_0, hfz6_1⟩ := rz2 BK914) | ((with_reducible refine gate_callee (f := 132) rfl ?_); refine gl (some 8) Try.func132 #[.slice A0_1 l0_1.length c0_1, .int .i64 a1] ?_; (with_reducible refine (laws_heldIntS.calls k _ _ l0_1 a1 t915 _ ?side1 ?side2 A3.out).mono ?_); (case side1 => exact cc HR0_1 HB); (case side2 => exact HC0_1.out); rintro e w' ⟨rfl, ⟨nd, rfl⟩⟩; refine ⟨_, rfl, ?_⟩))
    go_ret
    exact ⟨ee, bb HB⟩
  · rw [if_neg c4] at H
    have c4b0 : decide (t915 < 0) = false := decide_eq_false c4
    clear c4
    obtain rfl := Option.some.inj H
    go_enter Try.func94, Try.ntmps94
    go_wp2_with (first | ((with_reducible refine gate_dst (N := 2) rfl ?_); refine bx (N := 2) (cs := #[.int .i64 a0_0, .slice A0_1 l0_1.length c0_1]) (t := 71) ?_; intro gb914 hg w7 hbox hb; have BK914 := Aside0.mk (hbox); have GW914 := gs hg HB; have GE914 := gs hg HB; replace HB := hs_ HB hb; clear hb hbox hg; have ⟨hcz8_0, hcz8_1, hfz8_0, hfz8_1⟩ := rz2 BK914) | ((with_reducible refine gate_callee (f := 132) rfl ?_); refine gl (some 8) Try.func132 #[.slice A0_1 l0_1.length c0_1, .int .i64 a1] ?_; (with_reducible refine (laws_heldIntS.calls k _ _ l0_1 a1 t915 _ ?side1 ?side2 A3.out).mono ?_); (case side1 => exact cc HR0_1 HB); (case side2 => exact HC0_1.out); rintro e w' ⟨rfl, ⟨nd, rfl⟩⟩; refine ⟨_, rfl, ?_⟩))
    go_ret
    exact ⟨ee, bb HB⟩
end Go.Proofs.Ytibmeomlokigjaa.Q
namespace Go.Proofs.Ytibmeomlokigjaa.Q
open Go.RowKit Go.Proofs.YtibmeomlokigjaaW.PrintWords Go.Proofs.YtibmeomlokigjaaW.PrintLast Go.Proofs.YtibmeomlokigjaaW.PrintMore
attribute [local go_sem] max2_int min2_int max_two min_two max_three min_three max_four min_four
set_option linter.unusedVariables false
set_option linter.unusedSimpArgs false
def laws_heldConsole.f (k : Nat) (l0_0 : List (S132)) (a0_1 : Int) (a0_2 : Int) (a0_3 : Int) (l0_4 : List Int) (a0_5 : Bool) (l0_6 : List (S47)) (l0_7 : List Int) (l0_8 : List Int) (l0_9 : List (S152)) (l0_10 : List (S155)) (a0_11 : Int) (l0_12 : List Int) (a1 : Int) : Option (Int) := (laws_heldBook.f k l0_0 a0_1 a0_2 a0_3 l0_4 a0_5 l0_6 l0_7 l0_8 a1).bind fun t917 => (if t917 < 0 then (some (-1)) else ((laws_heldNoteS.f k l0_9 t917).bind fun t918 => (if t918 < 0 then (some (-1)) else ((laws_heldSentS.f k l0_10 t918).bind fun t919 => (if t919 < 0 then (some (-1)) else ((laws_heldCup.f k a0_11 l0_12 t919).bind fun t920 => (if t920 < 0 then (some (-1)) else (some t920))))))))
set_option maxHeartbeats 8000000 in
set_option maxRecDepth 100000 in
theorem laws_heldConsole.calls (k : Nat) (A0_0 : Option Addr) (c0_0 : Nat) (l0_0 : List (S132)) (a0_1 : Int) (a0_2 : Int) (a0_3 : Int) (A0_4 : Option Addr) (c0_4 : Nat) (l0_4 : List Int) (a0_5 : Bool) (A0_6 : Option Addr) (c0_6 : Nat) (l0_6 : List (S47)) (A0_7 : Option Addr) (c0_7 : Nat) (l0_7 : List Int) (A0_8 : Option Addr) (c0_8 : Nat) (l0_8 : List Int) (A0_9 : Option Addr) (c0_9 : Nat) (l0_9 : List (S152)) (A0_10 : Option Addr) (c0_10 : Nat) (l0_10 : List (S155)) (a0_11 : Int) (A0_12 : Option Addr) (c0_12 : Nat) (l0_12 : List Int) (a1 : Int) (r : Int) (w : World) (hr0_0 : Kd.C k132 w A0_0 l0_0.length l0_0) (hc0_0 : l0_0.length ≤ c0_0) (hr0_4 : Kd.C (Kd.int .i64) w A0_4 l0_4.length l0_4) (hc0_4 : l0_4.length ≤ c0_4) (hr0_6 : Kd.C k47 w A0_6 l0_6.length l0_6) (hc0_6 : l0_6.length ≤ c0_6) (hr0_7 : Kd.C (Kd.int .i64) w A0_7 l0_7.length l0_7) (hc0_7 : l0_7.length ≤ c0_7) (hr0_8 : Kd.C (Kd.int .i64) w A0_8 l0_8.length l0_8) (hc0_8 : l0_8.length ≤ c0_8) (hr0_9 : Kd.C k152 w A0_9 l0_9.length l0_9) (hc0_9 : l0_9.length ≤ c0_9) (hr0_10 : Kd.C k155 w A0_10 l0_10.length l0_10) (hc0_10 : l0_10.length ≤ c0_10) (hr0_12 : Kd.C (Kd.int .i64) w A0_12 l0_12.length l0_12) (hc0_12 : l0_12.length ≤ c0_12) (h : laws_heldConsole.f k l0_0 a0_1 a0_2 a0_3 l0_4 a0_5 l0_6 l0_7 l0_8 l0_9 l0_10 a0_11 l0_12 a1 = some r) :
    Calls Try.prog 40 #[.agg #[.slice A0_0 l0_0.length c0_0, .int .i64 a0_1, .int .i64 a0_2, .int .i64 a0_3, .slice A0_4 l0_4.length c0_4, .bool a0_5, .slice A0_6 l0_6.length c0_6, .slice A0_7 l0_7.length c0_7, .slice A0_8 l0_8.length c0_8, .slice A0_9 l0_9.length c0_9, .slice A0_10 l0_10.length c0_10, .int .i64 a0_11, .slice A0_12 l0_12.length c0_12], .int .i64 a1] w fun e w' => e = .returned (.int .i64 r) ∧ Below w.heap.size w w' := by
  have hu73 := Try.underlying73
  have hu29 := Try.underlying29
  have hu71 := Try.underlying71
  have HR0_0 := Aside0.mk hr0_0
  have HC0_0 := Aside0.mk hc0_0
  clear hr0_0 hc0_0
  have HR0_4 := Aside0.mk hr0_4
  have HC0_4 := Aside0.mk hc0_4
  clear hr0_4 hc0_4
  have HR0_6 := Aside0.mk hr0_6
  have HC0_6 := Aside0.mk hc0_6
  clear hr0_6 hc0_6
  have HR0_7 := Aside0.mk hr0_7
  have HC0_7 := Aside0.mk hc0_7
  clear hr0_7 hc0_7
  have HR0_8 := Aside0.mk hr0_8
  have HC0_8 := Aside0.mk hc0_8
  clear hr0_8 hc0_8
  have HR0_9 := Aside0.mk hr0_9
  have HC0_9 := Aside0.mk hc0_9
  clear hr0_9 hc0_9
  have HR0_10 := Aside0.mk hr0_10
  have HC0_10 := Aside0.mk hc0_10
  clear hr0_10 hc0_10
  have HR0_12 := Aside0.mk hr0_12
  have HC0_12 := Aside0.mk hc0_12
  clear hr0_12 hc0_12
  have HB := Aside0.mk (Below.refl w.heap.size w)
  have H : ((laws_heldBook.f k l0_0 a0_1 a0_2 a0_3 l0_4 a0_5 l0_6 l0_7 l0_8 a1).bind fun t917 => (if t917 < 0 then (some (-1)) else ((laws_heldNoteS.f k l0_9 t917).bind fun t918 => (if t918 < 0 then (some (-1)) else ((laws_heldSentS.f k l0_10 t918).bind fun t919 => (if t919 < 0 then (some (-1)) else ((laws_heldCup.f k a0_11 l0_12 t919).bind fun t920 => (if t920 < 0 then (some (-1)) else (some t920))))))))) = some r := h
  clear h
  replace H := Option.bind_eq_some_iff.mp H
  obtain ⟨t917, A30, H⟩ := H
  replace H : (if t917 < 0 then (some (-1)) else ((laws_heldNoteS.f k l0_9 t917).bind fun t918 => (if t918 < 0 then (some (-1)) else ((laws_heldSentS.f k l0_10 t918).bind fun t919 => (if t919 < 0 then (some (-1)) else ((laws_heldCup.f k a0_11 l0_12 t919).bind fun t920 => (if t920 < 0 then (some (-1)) else (some t920)))))))) = some r := H
  have A3 := Aside0.mk A30
  clear A30
  by_cases c4 : t917 < 0
  · rw [if_pos c4] at H
    have c4b0 : decide (t917 < 0) = true := decide_eq_true c4
    clear c4
    obtain rfl := Option.some.inj H
    go_enter Try.func40, Try.ntmps40
    go_wp2_with (first | ((with_reducible refine gate_dst (N := 2) rfl ?_); refine bx (N := 2) (cs := #[.slice A0_0 l0_0.length c0_0, .int .i64 a0_1, .int .i64 a0_2, .int .i64 a0_3, .slice A0_4 l0_4.length c0_4, .bool a0_5, .slice A0_6 l0_6.length c0_6, .slice A0_7 l0_7.length c0_7, .slice A0_8 l0_8.length c0_8, .slice A0_9 l0_9.length c0_9, .slice A0_10 l0_10.length c0_10, .int .i64 a0_11, .slice A0_12 l0_12.length c0_12]) (t := 73) ?_; intro gb916 hg w5 hbox hb; have BK916 := Aside0.mk (hbox); have GW916 := gs hg HB; have GE916 := gs hg HB; replace HB := hs_ HB hb; clear hb hbox hg; have hcz6_0 : w5.cell? ⟨gb916, 0, none⟩ = some (.slice A0_0 l0_0.length c0_0) := (blk_cell BK916.out 0).trans rfl; have hcz6_1 : w5.cell? ⟨gb916, 1, none⟩ = some (.int .i64 a0_1) := (blk_cell BK916.out 1).trans rfl; have hcz6_2 : w5.cell? ⟨gb916, 2, none⟩ = some (.int .i64 a0_2) := (blk_cell BK916.out 2).trans rfl; have hcz6_3 : w5.cell? ⟨gb916, 3, none⟩ = some (.int .i64 a0_3) := (blk_cell BK916.out 3).trans rfl; have hcz6_4 : w5.cell? ⟨gb916, 4, none⟩ = some (.slice A0_4 l0_4.length c0_4) := (blk_cell BK916.out 4).trans rfl; have hcz6_5 : w5.cell? ⟨gb916, 5, none⟩ = some (.bool a0_5) := (blk_cell BK916.out 5).trans rfl; have hcz6_6 : w5.cell? ⟨gb916, 6, none⟩ = some (.slice A0_6 l0_6.length c0_6) := (blk_cell BK916.out 6).trans rfl; have hcz6_7 : w5.cell? ⟨gb916, 7, none⟩ = some (.slice A0_7 l0_7.length c0_7) := (blk_cell BK916.out 7).trans rfl; have hcz6_8 : w5.cell? ⟨gb916, 8, none⟩ = some (.slice A0_8 l0_8.length c0_8) := (blk_cell BK916.out 8).trans rfl; have hcz6_9 : w5.cell? ⟨gb916, 9, none⟩ = some (.slice A0_9 l0_9.length c0_9) := (blk_cell BK916.out 9).trans rfl; have hcz6_10 : w5.cell? ⟨gb916, 10, none⟩ = some (.slice A0_10 l0_10.length c0_10) := (blk_cell BK916.out 10).trans rfl; have hcz6_11 : w5.cell? ⟨gb916, 11, none⟩ = some (.int .i64 a0_11) := (blk_cell BK916.out 11).trans rfl; have hcz6_12 : w5.cell? ⟨gb916, 12, none⟩ = some (.slice A0_12 l0_12.length c0_12) := (blk_cell BK916.out 12).trans rfl; have hfz6_0 := blk_frozen BK916.out 0; have hfz6_1 := blk_frozen BK916.out 1; have hfz6_2 := blk_frozen BK916.out 2; have hfz6_3 := blk_frozen BK916.out 3; have hfz6_4 := blk_frozen BK916.out 4; have hfz6_5 := blk_frozen BK916.out 5; have hfz6_6 := blk_frozen BK916.out 6; have hfz6_7 := blk_frozen BK916.out 7; have hfz6_8 := blk_frozen BK916.out 8; have hfz6_9 := blk_frozen BK916.out 9; have hfz6_10 := blk_frozen BK916.out 10; have hfz6_11 := blk_frozen BK916.out 11; have hfz6_12 := blk_frozen BK916.out 12) | ((with_reducible refine gate_callee (f := 91) rfl ?_); refine gl (some 8) Try.func91 #[.agg #[.slice A0_0 l0_0.length c0_0, .int .i64 a0_1, .int .i64 a0_2, .int .i64 a0_3, .slice A0_4 l0_4.length c0_4, .bool a0_5, .slice A0_6 l0_6.length c0_6, .slice A0_7 l0_7.length c0_7, .slice A0_8 l0_8.length c0_8], .int .i64 a1] ?_; (with_reducible refine (laws_heldBook.calls k _ _ l0_0 a0_1 a0_2 a0_3 _ _ l0_4 a0_5 _ _ l0_6 _ _ l0_7 _ _ l0_8 a1 t917 _ ?side1 ?side2 ?side3 ?side4 ?side5 ?side6 ?side7 ?side8 ?side9 ?side10 A3.out).mono ?_); (case side1 => exact cc HR0_0 HB); (case side2 => exact HC0_0.out); (case side3 => exact cc HR0_4 HB); (case side4 => exact HC0_4.out); (case side5 => exact cc HR0_6 HB); (case side6 => exact HC0_6.out); (case side7 => exact cc HR0_7 HB); (case side8 => exact HC0_7.out); (case side9 => exact cc HR0_8 HB); (case side10 => exact HC0_8.out); rintro e w7 ⟨rfl, hb⟩; refine ⟨_, rfl, ?_⟩; replace BK916 := kb BK916 hb; replace HB := hs_ HB hb; (try clear hb); (try clear hb2); (try clear hk); (try clear hi)))
    go_ret
    exact ⟨ee, bb HB⟩
  · rw [if_neg c4] at H
    have c4b0 : decide (t917 < 0) = false := decide_eq_false c4
    clear c4
    replace H := Option.bind_eq_some_iff.mp H
    obtain ⟨t918, A80, H⟩ := H
    replace H : (if t918 < 0 then (some (-1)) else ((laws_heldSentS.f k l0_10 t918).bind fun t919 => (if t919 < 0 then (some (-1)) else ((laws_heldCup.f k a0_11 l0_12 t919).bind fun t920 => (if t920 < 0 then (some (-1)) else (some t920)))))) = some r := H
    have A8 := Aside0.mk A80
    clear A80
    by_cases c9 : t918 < 0
    · rw [if_pos c9] at H
      have c9b0 : decide (t918 < 0) = true := decide_eq_true c9
      clear c9
      obtain rfl := Option.some.inj H
      go_enter Try.func40, Try.ntmps40
      go_wp2_with (first | ((with_reducible refine gate_dst (N := 2) rfl ?_); refine bx (N := 2) (cs := #[.slice A0_0 l0_0.length c0_0, .int .i64 a0_1, .int .i64 a0_2, .int .i64 a0_3, .slice A0_4 l0_4.length c0_4, .bool a0_5, .slice A0_6 l0_6.length c0_6, .slice A0_7 l0_7.length c0_7, .slice A0_8 l0_8.length c0_8, .slice A0_9 l0_9.length c0_9, .slice A0_10 l0_10.length c0_10, .int .i64 a0_11, .slice A0_12 l0_12.length c0_12]) (t := 73) ?_; intro gb916 hg w10 hbox hb; have BK916 := Aside0.mk (hbox); have GW916 := gs hg HB; have GE916 := gs hg HB; replace HB := hs_ HB hb; clear hb hbox hg; have hcz11_0 : w10.cell? ⟨gb916, 0, none⟩ = some (.slice A0_0 l0_0.length c0_0) := (blk_cell BK916.out 0).trans rfl; have hcz11_1 : w10.cell? ⟨gb916, 1, none⟩ = some (.int .i64 a0_1) := (blk_cell BK916.out 1).trans rfl; have hcz11_2 : w10.cell? ⟨gb916, 2, none⟩ = some (.int .i64 a0_2) := (blk_cell BK916.out 2).trans rfl; have hcz11_3 : w10.cell? ⟨gb916, 3, none⟩ = some (.int .i64 a0_3) := (blk_cell BK916.out 3).trans rfl; have hcz11_4 : w10.cell? ⟨gb916, 4, none⟩ = some (.slice A0_4 l0_4.length c0_4) := (blk_cell BK916.out 4).trans rfl; have hcz11_5 : w10.cell? ⟨gb916, 5, none⟩ = some (.bool a0_5) := (blk_cell BK916.out 5).trans rfl; have hcz11_6 : w10.cell? ⟨gb916, 6, none⟩ = some (.slice A0_6 l0_6.length c0_6) := (blk_cell BK916.out 6).trans rfl; have hcz11_7 : w10.cell? ⟨gb916, 7, none⟩ = some (.slice A0_7 l0_7.length c0_7) := (blk_cell BK916.out 7).trans rfl; have hcz11_8 : w10.cell? ⟨gb916, 8, none⟩ = some (.slice A0_8 l0_8.length c0_8) := (blk_cell BK916.out 8).trans rfl; have hcz11_9 : w10.cell? ⟨gb916, 9, none⟩ = some (.slice A0_9 l0_9.length c0_9) := (blk_cell BK916.out 9).trans rfl; have hcz11_10 : w10.cell? ⟨gb916, 10, none⟩ = some (.slice A0_10 l0_10.length c0_10) := (blk_cell BK916.out 10).trans rfl; have hcz11_11 : w10.cell? ⟨gb916, 11, none⟩ = some (.int .i64 a0_11) := (blk_cell BK916.out 11).trans rfl; have hcz11_12 : w10.cell? ⟨gb916, 12, none⟩ = some (.slice A0_12 l0_12.length c0_12) := (blk_cell BK916.out 12).trans rfl; have hfz11_0 := blk_frozen BK916.out 0; have hfz11_1 := blk_frozen BK916.out 1; have hfz11_2 := blk_frozen BK916.out 2; have hfz11_3 := blk_frozen BK916.out 3; have hfz11_4 := blk_frozen BK916.out 4; have hfz11_5 := blk_frozen BK916.out 5; have hfz11_6 := blk_frozen BK916.out 6; have hfz11_7 := blk_frozen BK916.out 7; have hfz11_8 := blk_frozen BK916.out 8; have hfz11_9 := blk_frozen BK916.out 9; have hfz11_10 := blk_frozen BK916.out 10; have hfz11_11 := blk_frozen BK916.out 11; have hfz11_12 := blk_frozen BK916.out 12) | ((with_reducible refine gate_callee (f := 91) rfl ?_); refine gl (some 8) Try.func91 #[.agg #[.slice A0_0 l0_0.length c0_0, .int .i64 a0_1, .int .i64 a0_2, .int .i64 a0_3, .slice A0_4 l0_4.length c0_4, .bool a0_5, .slice A0_6 l0_6.length c0_6, .slice A0_7 l0_7.length c0_7, .slice A0_8 l0_8.length c0_8], .int .i64 a1] ?_; (with_reducible refine (laws_heldBook.calls k _ _ l0_0 a0_1 a0_2 a0_3 _ _ l0_4 a0_5 _ _ l0_6 _ _ l0_7 _ _ l0_8 a1 t917 _ ?side1 ?side2 ?side3 ?side4 ?side5 ?side6 ?side7 ?side8 ?side9 ?side10 A3.out).mono ?_); (case side1 => exact cc HR0_0 HB); (case side2 => exact HC0_0.out); (case side3 => exact cc HR0_4 HB); (case side4 => exact HC0_4.out); (case side5 => exact cc HR0_6 HB); (case side6 => exact HC0_6.out); (case side7 => exact cc HR0_7 HB); (case side8 => exact HC0_7.out); (case side9 => exact cc HR0_8 HB); (case side10 => exact HC0_8.out); rintro e w12 ⟨rfl, hb⟩; refine ⟨_, rfl, ?_⟩; replace BK916 := kb BK916 hb; replace HB := hs_ HB hb; (try clear hb); (try clear hb2); (try clear hk); (try clear hi); have hcz13_0 : w12.cell? ⟨gb916, 0, none⟩ = some (.slice A0_0 l0_0.length c0_0) := (blk_cell BK916.out 0).trans rfl; have hcz13_1 : w12.cell? ⟨gb916, 1, none⟩ = some (.int .i64 a0_1) := (blk_cell BK916.out 1).trans rfl; have hcz13_2 : w12.cell? ⟨gb916, 2, none⟩ = some (.int .i64 a0_2) := (blk_cell BK916.out 2).trans rfl; have hcz13_3 : w12.cell? ⟨gb916, 3, none⟩ = some (.int .i64 a0_3) := (blk_cell BK916.out 3).trans rfl; have hcz13_4 : w12.cell? ⟨gb916, 4, none⟩ = some (.slice A0_4 l0_4.length c0_4) := (blk_cell BK916.out 4).trans rfl; have hcz13_5 : w12.cell? ⟨gb916, 5, none⟩ = some (.bool a0_5) := (blk_cell BK916.out 5).trans rfl; have hcz13_6 : w12.cell? ⟨gb916, 6, none⟩ = some (.slice A0_6 l0_6.length c0_6) := (blk_cell BK916.out 6).trans rfl; have hcz13_7 : w12.cell? ⟨gb916, 7, none⟩ = some (.slice A0_7 l0_7.length c0_7) := (blk_cell BK916.out 7).trans rfl; have hcz13_8 : w12.cell? ⟨gb916, 8, none⟩ = some (.slice A0_8 l0_8.length c0_8) := (blk_cell BK916.out 8).trans rfl; have hcz13_9 : w12.cell? ⟨gb916, 9, none⟩ = some (.slice A0_9 l0_9.length c0_9) := (blk_cell BK916.out 9).trans rfl; have hcz13_10 : w12.cell? ⟨gb916, 10, none⟩ = some (.slice A0_10 l0_10.length c0_10) := (blk_cell BK916.out 10).trans rfl; have hcz13_11 : w12.cell? ⟨gb916, 11, none⟩ = some (.int .i64 a0_11) := (blk_cell BK916.out 11).trans rfl; have hcz13_12 : w12.cell? ⟨gb916, 12, none⟩ = some (.slice A0_12 l0_12.length c0_12) := (blk_cell BK916.out 12).trans rfl; have hfz13_0 := blk_frozen BK916.out 0; have hfz13_1 := blk_frozen BK916.out 1; have hfz13_2 := blk_frozen BK916.out 2; have hfz13_3 := blk_frozen BK916.out 3; have hfz13_4 := blk_frozen BK916.out 4; have hfz13_5 := blk_frozen BK916.out 5; have hfz13_6 := blk_frozen BK916.out 6; have hfz13_7 := blk_frozen BK916.out 7; have hfz13_8 := blk_frozen BK916.out 8; have hfz13_9 := blk_frozen BK916.out 9; have hfz13_10 := blk_frozen BK916.out 10; have hfz13_11 := blk_frozen BK916.out 11; have hfz13_12 := blk_frozen BK916.out 12) | ((with_reducible refine gate_callee (f := 92) rfl ?_); refine gl (some 14) Try.func92 #[.slice A0_9 l0_9.length c0_9, .int .i64 t917] ?_; (with_reducible refine (laws_heldNoteS.calls k _ _ l0_9 t917 t918 _ ?side1 ?side2 A8.out).mono ?_); (case side1 => exact cc HR0_9 HB); (case side2 => exact HC0_9.out); rintro e w' ⟨rfl, ⟨nd, rfl⟩⟩; refine ⟨_, rfl, ?_⟩))
      go_ret
      exact ⟨ee, bb HB⟩
    · rw [if_neg c9] at H
      have c9b0 : decide (t918 < 0) = false := decide_eq_false c9
      clear c9
      replace H := Option.bind_eq_some_iff.mp H
      obtain ⟨t919, A140, H⟩ := H
      replace H : (if t919 < 0 then (some (-1)) else ((laws_heldCup.f k a0_11 l0_12 t919).bind fun t920 => (if t920 < 0 then (some (-1)) else (some t920)))) = some r := H
      have A14 := Aside0.mk A140
      clear A140
      by_cases c15 : t919 < 0
      · rw [if_pos c15] at H
        have c15b0 : decide (t919 < 0) = true := decide_eq_true c15
        clear c15
        obtain rfl := Option.some.inj H
        go_enter Try.func40, Try.ntmps40
        go_wp2_with (first | ((with_reducible refine gate_dst (N := 2) rfl ?_); refine bx (N := 2) (cs := #[.slice A0_0 l0_0.length c0_0, .int .i64 a0_1, .int .i64 a0_2, .int .i64 a0_3, .slice A0_4 l0_4.length c0_4, .bool a0_5, .slice A0_6 l0_6.length c0_6, .slice A0_7 l0_7.length c0_7, .slice A0_8 l0_8.length c0_8, .slice A0_9 l0_9.length c0_9, .slice A0_10 l0_10.length c0_10, .int .i64 a0_11, .slice A0_12 l0_12.length c0_12]) (t := 73) ?_; intro gb916 hg w16 hbox hb; have BK916 := Aside0.mk (hbox); have GW916 := gs hg HB; have GE916 := gs hg HB; replace HB := hs_ HB hb; clear hb hbox hg; have hcz17_0 : w16.cell? ⟨gb916, 0, none⟩ = some (.slice A0_0 l0_0.length c0_0) := (blk_cell BK916.out 0).trans rfl; have hcz17_1 : w16.cell? ⟨gb916, 1, none⟩ = some (.int .i64 a0_1) := (blk_cell BK916.out 1).trans rfl; have hcz17_2 : w16.cell? ⟨gb916, 2, none⟩ = some (.int .i64 a0_2) := (blk_cell BK916.out 2).trans rfl; have hcz17_3 : w16.cell? ⟨gb916, 3, none⟩ = some (.int .i64 a0_3) := (blk_cell BK916.out 3).trans rfl; have hcz17_4 : w16.cell? ⟨gb916, 4, none⟩ = some (.slice A0_4 l0_4.length c0_4) := (blk_cell BK916.out 4).trans rfl; have hcz17_5 : w16.cell? ⟨gb916, 5, none⟩ = some (.bool a0_5) := (blk_cell BK916.out 5).trans rfl; have hcz17_6 : w16.cell? ⟨gb916, 6, none⟩ = some (.slice A0_6 l0_6.length c0_6) := (blk_cell BK916.out 6).trans rfl; have hcz17_7 : w16.cell? ⟨gb916, 7, none⟩ = some (.slice A0_7 l0_7.length c0_7) := (blk_cell BK916.out 7).trans rfl; have hcz17_8 : w16.cell? ⟨gb916, 8, none⟩ = some (.slice A0_8 l0_8.length c0_8) := (blk_cell BK916.out 8).trans rfl; have hcz17_9 : w16.cell? ⟨gb916, 9, none⟩ = some (.slice A0_9 l0_9.length c0_9) := (blk_cell BK916.out 9).trans rfl; have hcz17_10 : w16.cell? ⟨gb916, 10, none⟩ = some (.slice A0_10 l0_10.length c0_10) := (blk_cell BK916.out 10).trans rfl; have hcz17_11 : w16.cell? ⟨gb916, 11, none⟩ = some (.int .i64 a0_11) := (blk_cell BK916.out 11).trans rfl; have hcz17_12 : w16.cell? ⟨gb916, 12, none⟩ = some (.slice A0_12 l0_12.length c0_12) := (blk_cell BK916.out 12).trans rfl; have hfz17_0 := blk_frozen BK916.out 0; have hfz17_1 := blk_frozen BK916.out 1; have hfz17_2 := blk_frozen BK916.out 2; have hfz17_3 := blk_frozen BK916.out 3; have hfz17_4 := blk_frozen BK916.out 4; have hfz17_5 := blk_frozen BK916.out 5; have hfz17_6 := blk_frozen BK916.out 6; have hfz17_7 := blk_frozen BK916.out 7; have hfz17_8 := blk_frozen BK916.out 8; have hfz17_9 := blk_frozen BK916.out 9; have hfz17_10 := blk_frozen BK916.out 10; have hfz17_11 := blk_frozen BK916.out 11; have hfz17_12 := blk_frozen BK916.out 12) | ((with_reducible refine gate_callee (f := 91) rfl ?_); refine gl (some 8) Try.func91 #[.agg #[.slice A0_0 l0_0.length c0_0, .int .i64 a0_1, .int .i64 a0_2, .int .i64 a0_3, .slice A0_4 l0_4.length c0_4, .bool a0_5, .slice A0_6 l0_6.length c0_6, .slice A0_7 l0_7.length c0_7, .slice A0_8 l0_8.length c0_8], .int .i64 a1] ?_; (with_reducible refine (laws_heldBook.calls k _ _ l0_0 a0_1 a0_2 a0_3 _ _ l0_4 a0_5 _ _ l0_6 _ _ l0_7 _ _ l0_8 a1 t917 _ ?side1 ?side2 ?side3 ?side4 ?side5 ?side6 ?side7 ?side8 ?side9 ?side10 A3.out).mono ?_); (case side1 => exact cc HR0_0 HB); (case side2 => exact HC0_0.out); (case side3 => exact cc HR0_4 HB); (case side4 => exact HC0_4.out); (case side5 => exact cc HR0_6 HB); (case side6 => exact HC0_6.out); (case side7 => exact cc HR0_7 HB); (case side8 => exact HC0_7.out); (case side9 => exact cc HR0_8 HB); (case side10 => exact HC0_8.out); rintro e w18 ⟨rfl, hb⟩; refine ⟨_, rfl, ?_⟩; replace BK916 := kb BK916 hb; replace HB := hs_ HB hb; (try clear hb); (try clear hb2); (try clear hk); (try clear hi); have hcz19_0 : w18.cell? ⟨gb916, 0, none⟩ = some (.slice A0_0 l0_0.length c0_0) := (blk_cell BK916.out 0).trans rfl; have hcz19_1 : w18.cell? ⟨gb916, 1, none⟩ = some (.int .i64 a0_1) := (blk_cell BK916.out 1).trans rfl; have hcz19_2 : w18.cell? ⟨gb916, 2, none⟩ = some (.int .i64 a0_2) := (blk_cell BK916.out 2).trans rfl; have hcz19_3 : w18.cell? ⟨gb916, 3, none⟩ = some (.int .i64 a0_3) := (blk_cell BK916.out 3).trans rfl; have hcz19_4 : w18.cell? ⟨gb916, 4, none⟩ = some (.slice A0_4 l0_4.length c0_4) := (blk_cell BK916.out 4).trans rfl; have hcz19_5 : w18.cell? ⟨gb916, 5, none⟩ = some (.bool a0_5) := (blk_cell BK916.out 5).trans rfl; have hcz19_6 : w18.cell? ⟨gb916, 6, none⟩ = some (.slice A0_6 l0_6.length c0_6) := (blk_cell BK916.out 6).trans rfl; have hcz19_7 : w18.cell? ⟨gb916, 7, none⟩ = some (.slice A0_7 l0_7.length c0_7) := (blk_cell BK916.out 7).trans rfl; have hcz19_8 : w18.cell? ⟨gb916, 8, none⟩ = some (.slice A0_8 l0_8.length c0_8) := (blk_cell BK916.out 8).trans rfl; have hcz19_9 : w18.cell? ⟨gb916, 9, none⟩ = some (.slice A0_9 l0_9.length c0_9) := (blk_cell BK916.out 9).trans rfl; have hcz19_10 : w18.cell? ⟨gb916, 10, none⟩ = some (.slice A0_10 l0_10.length c0_10) := (blk_cell BK916.out 10).trans rfl; have hcz19_11 : w18.cell? ⟨gb916, 11, none⟩ = some (.int .i64 a0_11) := (blk_cell BK916.out 11).trans rfl; have hcz19_12 : w18.cell? ⟨gb916, 12, none⟩ = some (.slice A0_12 l0_12.length c0_12) := (blk_cell BK916.out 12).trans rfl; have hfz19_0 := blk_frozen BK916.out 0; have hfz19_1 := blk_frozen BK916.out 1; have hfz19_2 := blk_frozen BK916.out 2; have hfz19_3 := blk_frozen BK916.out 3; have hfz19_4 := blk_frozen BK916.out 4; have hfz19_5 := blk_frozen BK916.out 5; have hfz19_6 := blk_frozen BK916.out 6; have hfz19_7 := blk_frozen BK916.out 7; have hfz19_8 := blk_frozen BK916.out 8; have hfz19_9 := blk_frozen BK916.out 9; have hfz19_10 := blk_frozen BK916.out 10; have hfz19_11 := blk_frozen BK916.out 11; have hfz19_12 := blk_frozen BK916.out 12) | ((with_reducible refine gate_callee (f := 92) rfl ?_); refine gl (some 14) Try.func92 #[.slice A0_9 l0_9.length c0_9, .int .i64 t917] ?_; (with_reducible refine (laws_heldNoteS.calls k _ _ l0_9 t917 t918 _ ?side1 ?side2 A8.out).mono ?_); (case side1 => exact cc HR0_9 HB); (case side2 => exact HC0_9.out); rintro e w' ⟨rfl, ⟨nd, rfl⟩⟩; refine ⟨_, rfl, ?_⟩) | ((with_reducible refine gate_callee (f := 93) rfl ?_); refine gl (some 20) Try.func93 #[.slice A0_10 l0_10.length c0_10, .int .i64 t918] ?_; (with_reducible refine (laws_heldSentS.calls k _ _ l0_10 t918 t919 _ ?side1 ?side2 A14.out).mono ?_); (case side1 => repeat (first | exact (Kd.C_below HR0_10.out (bb HB)) | (with_reducible refine Kd.C_alloc ?_ _) | (with_reducible refine Kd.C_drewN ?_ _) | (with_reducible refine Kd.C_drew ?_))); (case side2 => exact HC0_10.out); rintro e w' ⟨rfl, ⟨nd, rfl⟩⟩; refine ⟨_, rfl, ?_⟩))
        go_ret
        exact ⟨ee, bb HB⟩
      · rw [if_neg c15] at H
        have c15b0 : decide (t919 < 0) = false := decide_eq_false c15
        clear c15
        replace H := Option.bind_eq_some_iff.mp H
        obtain ⟨t920, A200, H⟩ := H
        replace H : (if t920 < 0 then (some (-1)) else (some t920)) = some r := H
        have A20 := Aside0.mk A200
        clear A200
        by_cases c21 : t920 < 0
        · rw [if_pos c21] at H
          have c21b0 : decide (t920 < 0) = true := decide_eq_true c21
          clear c21
          obtain rfl := Option.some.inj H
          go_enter Try.func40, Try.ntmps40
          go_wp2_with (first | ((with_reducible refine gate_dst (N := 2) rfl ?_); refine bx (N := 2) (cs := #[.slice A0_0 l0_0.length c0_0, .int .i64 a0_1, .int .i64 a0_2, .int .i64 a0_3, .slice A0_4 l0_4.length c0_4, .bool a0_5, .slice A0_6 l0_6.length c0_6, .slice A0_7 l0_7.length c0_7, .slice A0_8 l0_8.length c0_8, .slice A0_9 l0_9.length c0_9, .slice A0_10 l0_10.length c0_10, .int .i64 a0_11, .slice A0_12 l0_12.length c0_12]) (t := 73) ?_; intro gb916 hg w22 hbox hb; have BK916 := Aside0.mk (hbox); have GW916 := gs hg HB; have GE916 := gs hg HB; replace HB := hs_ HB hb; clear hb hbox hg; have hcz23_0 : w22.cell? ⟨gb916, 0, none⟩ = some (.slice A0_0 l0_0.length c0_0) := (blk_cell BK916.out 0).trans rfl; have hcz23_1 : w22.cell? ⟨gb916, 1, none⟩ = some (.int .i64 a0_1) := (blk_cell BK916.out 1).trans rfl; have hcz23_2 : w22.cell? ⟨gb916, 2, none⟩ = some (.int .i64 a0_2) := (blk_cell BK916.out 2).trans rfl; have hcz23_3 : w22.cell? ⟨gb916, 3, none⟩ = some (.int .i64 a0_3) := (blk_cell BK916.out 3).trans rfl; have hcz23_4 : w22.cell? ⟨gb916, 4, none⟩ = some (.slice A0_4 l0_4.length c0_4) := (blk_cell BK916.out 4).trans rfl; have hcz23_5 : w22.cell? ⟨gb916, 5, none⟩ = some (.bool a0_5) := (blk_cell BK916.out 5).trans rfl; have hcz23_6 : w22.cell? ⟨gb916, 6, none⟩ = some (.slice A0_6 l0_6.length c0_6) := (blk_cell BK916.out 6).trans rfl; have hcz23_7 : w22.cell? ⟨gb916, 7, none⟩ = some (.slice A0_7 l0_7.length c0_7) := (blk_cell BK916.out 7).trans rfl; have hcz23_8 : w22.cell? ⟨gb916, 8, none⟩ = some (.slice A0_8 l0_8.length c0_8) := (blk_cell BK916.out 8).trans rfl; have hcz23_9 : w22.cell? ⟨gb916, 9, none⟩ = some (.slice A0_9 l0_9.length c0_9) := (blk_cell BK916.out 9).trans rfl; have hcz23_10 : w22.cell? ⟨gb916, 10, none⟩ = some (.slice A0_10 l0_10.length c0_10) := (blk_cell BK916.out 10).trans rfl; have hcz23_11 : w22.cell? ⟨gb916, 11, none⟩ = some (.int .i64 a0_11) := (blk_cell BK916.out 11).trans rfl; have hcz23_12 : w22.cell? ⟨gb916, 12, none⟩ = some (.slice A0_12 l0_12.length c0_12) := (blk_cell BK916.out 12).trans rfl; have hfz23_0 := blk_frozen BK916.out 0; have hfz23_1 := blk_frozen BK916.out 1; have hfz23_2 := blk_frozen BK916.out 2; have hfz23_3 := blk_frozen BK916.out 3; have hfz23_4 := blk_frozen BK916.out 4; have hfz23_5 := blk_frozen BK916.out 5; have hfz23_6 := blk_frozen BK916.out 6; have hfz23_7 := blk_frozen BK916.out 7; have hfz23_8 := blk_frozen BK916.out 8; have hfz23_9 := blk_frozen BK916.out 9; have hfz23_10 := blk_frozen BK916.out 10; have hfz23_11 := blk_frozen BK916.out 11; have hfz23_12 := blk_frozen BK916.out 12) | ((with_reducible refine gate_callee (f := 91) rfl ?_); refine gl (some 8) Try.func91 #[.agg #[.slice A0_0 l0_0.length c0_0, .int .i64 a0_1, .int .i64 a0_2, .int .i64 a0_3, .slice A0_4 l0_4.length c0_4, .bool a0_5, .slice A0_6 l0_6.length c0_6, .slice A0_7 l0_7.length c0_7, .slice A0_8 l0_8.length c0_8], .int .i64 a1] ?_; (with_reducible refine (laws_heldBook.calls k _ _ l0_0 a0_1 a0_2 a0_3 _ _ l0_4 a0_5 _ _ l0_6 _ _ l0_7 _ _ l0_8 a1 t917 _ ?side1 ?side2 ?side3 ?side4 ?side5 ?side6 ?side7 ?side8 ?side9 ?side10 A3.out).mono ?_); (case side1 => exact cc HR0_0 HB); (case side2 => exact HC0_0.out); (case side3 => exact cc HR0_4 HB); (case side4 => exact HC0_4.out); (case side5 => exact cc HR0_6 HB); (case side6 => exact HC0_6.out); (case side7 => exact cc HR0_7 HB); (case side8 => exact HC0_7.out); (case side9 => exact cc HR0_8 HB); (case side10 => exact HC0_8.out); rintro e w24 ⟨rfl, hb⟩; refine ⟨_, rfl, ?_⟩; replace BK916 := kb BK916 hb; replace HB := hs_ HB hb; (try clear hb); (try clear hb2); (try clear hk); (try clear hi); have hcz25_0 : w24.cell? ⟨gb916, 0, none⟩ = some (.slice A0_0 l0_0.length c0_0) := (blk_cell BK916.out 0).trans rfl; have hcz25_1 : w24.cell? ⟨gb916, 1, none⟩ = some (.int .i64 a0_1) := (blk_cell BK916.out 1).trans rfl; have hcz25_2 : w24.cell? ⟨gb916, 2, none⟩ = some (.int .i64 a0_2) := (blk_cell BK916.out 2).trans rfl; have hcz25_3 : w24.cell? ⟨gb916, 3, none⟩ = some (.int .i64 a0_3) := (blk_cell BK916.out 3).trans rfl; have hcz25_4 : w24.cell? ⟨gb916, 4, none⟩ = some (.slice A0_4 l0_4.length c0_4) := (blk_cell BK916.out 4).trans rfl; have hcz25_5 : w24.cell? ⟨gb916, 5, none⟩ = some (.bool a0_5) := (blk_cell BK916.out 5).trans rfl; have hcz25_6 : w24.cell? ⟨gb916, 6, none⟩ = some (.slice A0_6 l0_6.length c0_6) := (blk_cell BK916.out 6).trans rfl; have hcz25_7 : w24.cell? ⟨gb916, 7, none⟩ = some (.slice A0_7 l0_7.length c0_7) := (blk_cell BK916.out 7).trans rfl; have hcz25_8 : w24.cell? ⟨gb916, 8, none⟩ = some (.slice A0_8 l0_8.length c0_8) := (blk_cell BK916.out 8).trans rfl; have hcz25_9 : w24.cell? ⟨gb916, 9, none⟩ = some (.slice A0_9 l0_9.length c0_9) := (blk_cell BK916.out 9).trans rfl; have hcz25_10 : w24.cell? ⟨gb916, 10, none⟩ = some (.slice A0_10 l0_10.length c0_10) := (blk_cell BK916.out 10).trans rfl; have hcz25_11 : w24.cell? ⟨gb916, 11, none⟩ = some (.int .i64 a0_11) := (blk_cell BK916.out 11).trans rfl; have hcz25_12 : w24.cell? ⟨gb916, 12, none⟩ = some (.slice A0_12 l0_12.length c0_12) := (blk_cell BK916.out 12).trans rfl; have hfz25_0 := blk_frozen BK916.out 0; have hfz25_1 := blk_frozen BK916.out 1; have hfz25_2 := blk_frozen BK916.out 2; have hfz25_3 := blk_frozen BK916.out 3; have hfz25_4 := blk_frozen BK916.out 4; have hfz25_5 := blk_frozen BK916.out 5; have hfz25_6 := blk_frozen BK916.out 6; have hfz25_7 := blk_frozen BK916.out 7; have hfz25_8 := blk_frozen BK916.out 8; have hfz25_9 := blk_frozen BK916.out 9; have hfz25_10 := blk_frozen BK916.out 10; have hfz25_11 := blk_frozen BK916.out 11; have hfz25_12 := blk_frozen BK916.out 12) | ((with_reducible refine gate_callee (f := 92) rfl ?_); refine gl (some 14) Try.func92 #[.slice A0_9 l0_9.length c0_9, .int .i64 t917] ?_; (with_reducible refine (laws_heldNoteS.calls k _ _ l0_9 t917 t918 _ ?side1 ?side2 A8.out).mono ?_); (case side1 => exact cc HR0_9 HB); (case side2 => exact HC0_9.out); rintro e w' ⟨rfl, ⟨nd, rfl⟩⟩; refine ⟨_, rfl, ?_⟩) | ((with_reducible refine gate_callee (f := 93) rfl ?_); refine gl (some 20) Try.func93 #[.slice A0_10 l0_10.length c0_10, .int .i64 t918] ?_; (with_reducible refine (laws_heldSentS.calls k _ _ l0_10 t918 t919 _ ?side1 ?side2 A14.out).mono ?_); (case side1 => repeat (first | exact (Kd.C_below HR0_10.out (bb HB)) | (with_reducible refine Kd.C_alloc ?_ _) | (with_reducible refine Kd.C_drewN ?_ _) | (with_reducible refine Kd.C_drew ?_))); (case side2 => exact HC0_10.out); rintro e w' ⟨rfl, ⟨nd, rfl⟩⟩; refine ⟨_, rfl, ?_⟩) | ((with_reducible refine gate_callee (f := 94) rfl ?_); refine gl (some 26) Try.func94 #[.agg #[.int .i64 a0_11, .slice A0_12 l0_12.length c0_12], .int .i64 t919] ?_; (with_reducible refine (laws_heldCup.calls k a0_11 _ _ l0_12 t919 t920 _ ?side1 ?side2 A20.out).mono ?_); (case side1 => repeat (first | exact (Kd.C_below HR0_12.out (bb HB)) | (with_reducible refine Kd.C_alloc ?_ _) | (with_reducible refine Kd.C_drewN ?_ _) | (with_reducible refine Kd.C_drew ?_))); (case side2 => exact HC0_12.out); rintro e w26 ⟨rfl, hb⟩; refine ⟨_, rfl, ?_⟩; replace BK916 := kb BK916 hb; replace HB := hs_ HB hb; (try clear hb); (try clear hb2); (try clear hk); (try clear hi)))
          go_ret
          exact ⟨ee, bb HB⟩
        · rw [if_neg c21] at H
          have c21b0 : decide (t920 < 0) = false := decide_eq_false c21
          clear c21
          obtain rfl := Option.some.inj H
          go_enter Try.func40, Try.ntmps40
          go_wp2_with (first | ((with_reducible refine gate_dst (N := 2) rfl ?_); refine bx (N := 2) (cs := #[.slice A0_0 l0_0.length c0_0, .int .i64 a0_1, .int .i64 a0_2, .int .i64 a0_3, .slice A0_4 l0_4.length c0_4, .bool a0_5, .slice A0_6 l0_6.length c0_6, .slice A0_7 l0_7.length c0_7, .slice A0_8 l0_8.length c0_8, .slice A0_9 l0_9.length c0_9, .slice A0_10 l0_10.length c0_10, .int .i64 a0_11, .slice A0_12 l0_12.length c0_12]) (t := 73) ?_; intro gb916 hg w27 hbox hb; have BK916 := Aside0.mk (hbox); have GW916 := gs hg HB; have GE916 := gs hg HB; replace HB := hs_ HB hb; clear hb hbox hg; have hcz28_0 : w27.cell? ⟨gb916, 0, none⟩ = some (.slice A0_0 l0_0.length c0_0) := (blk_cell BK916.out 0).trans rfl; have hcz28_1 : w27.cell? ⟨gb916, 1, none⟩ = some (.int .i64 a0_1) := (blk_cell BK916.out 1).trans rfl; have hcz28_2 : w27.cell? ⟨gb916, 2, none⟩ = some (.int .i64 a0_2) := (blk_cell BK916.out 2).trans rfl; have hcz28_3 : w27.cell? ⟨gb916, 3, none⟩ = some (.int .i64 a0_3) := (blk_cell BK916.out 3).trans rfl; have hcz28_4 : w27.cell? ⟨gb916, 4, none⟩ = some (.slice A0_4 l0_4.length c0_4) := (blk_cell BK916.out 4).trans rfl; have hcz28_5 : w27.cell? ⟨gb916, 5, none⟩ = some (.bool a0_5) := (blk_cell BK916.out 5).trans rfl; have hcz28_6 : w27.cell? ⟨gb916, 6, none⟩ = some (.slice A0_6 l0_6.length c0_6) := (blk_cell BK916.out 6).trans rfl; have hcz28_7 : w27.cell? ⟨gb916, 7, none⟩ = some (.slice A0_7 l0_7.length c0_7) := (blk_cell BK916.out 7).trans rfl; have hcz28_8 : w27.cell? ⟨gb916, 8, none⟩ = some (.slice A0_8 l0_8.length c0_8) := (blk_cell BK916.out 8).trans rfl; have hcz28_9 : w27.cell? ⟨gb916, 9, none⟩ = some (.slice A0_9 l0_9.length c0_9) := (blk_cell BK916.out 9).trans rfl; have hcz28_10 : w27.cell? ⟨gb916, 10, none⟩ = some (.slice A0_10 l0_10.length c0_10) := (blk_cell BK916.out 10).trans rfl; have hcz28_11 : w27.cell? ⟨gb916, 11, none⟩ = some (.int .i64 a0_11) := (blk_cell BK916.out 11).trans rfl; have hcz28_12 : w27.cell? ⟨gb916, 12, none⟩ = some (.slice A0_12 l0_12.length c0_12) := (blk_cell BK916.out 12).trans rfl; have hfz28_0 := blk_frozen BK916.out 0; have hfz28_1 := blk_frozen BK916.out 1; have hfz28_2 := blk_frozen BK916.out 2; have hfz28_3 := blk_frozen BK916.out 3; have hfz28_4 := blk_frozen BK916.out 4; have hfz28_5 := blk_frozen BK916.out 5; have hfz28_6 := blk_frozen BK916.out 6; have hfz28_7 := blk_frozen BK916.out 7; have hfz28_8 := blk_frozen BK916.out 8; have hfz28_9 := blk_frozen BK916.out 9; have hfz28_10 := blk_frozen BK916.out 10; have hfz28_11 := blk_frozen BK916.out 11; have hfz28_12 := blk_frozen BK916.out 12) | ((with_reducible refine gate_callee (f := 91) rfl ?_); refine gl (some 8) Try.func91 #[.agg #[.slice A0_0 l0_0.length c0_0, .int .i64 a0_1, .int .i64 a0_2, .int .i64 a0_3, .slice A0_4 l0_4.length c0_4, .bool a0_5, .slice A0_6 l0_6.length c0_6, .slice A0_7 l0_7.length c0_7, .slice A0_8 l0_8.length c0_8], .int .i64 a1] ?_; (with_reducible refine (laws_heldBook.calls k _ _ l0_0 a0_1 a0_2 a0_3 _ _ l0_4 a0_5 _ _ l0_6 _ _ l0_7 _ _ l0_8 a1 t917 _ ?side1 ?side2 ?side3 ?side4 ?side5 ?side6 ?side7 ?side8 ?side9 ?side10 A3.out).mono ?_); (case side1 => exact cc HR0_0 HB); (case side2 => exact HC0_0.out); (case side3 => exact cc HR0_4 HB); (case side4 => exact HC0_4.out); (case side5 => exact cc HR0_6 HB); (case side6 => exact HC0_6.out); (case side7 => exact cc HR0_7 HB); (case side8 => exact HC0_7.out); (case side9 => exact cc HR0_8 HB); (case side10 => exact HC0_8.out); rintro e w29 ⟨rfl, hb⟩; refine ⟨_, rfl, ?_⟩; replace BK916 := kb BK916 hb; replace HB := hs_ HB hb; (try clear hb); (try clear hb2); (try clear hk); (try clear hi); have hcz30_0 : w29.cell? ⟨gb916, 0, none⟩ = some (.slice A0_0 l0_0.length c0_0) := (blk_cell BK916.out 0).trans rfl; have hcz30_1 : w29.cell? ⟨gb916, 1, none⟩ = some (.int .i64 a0_1) := (blk_cell BK916.out 1).trans rfl; have hcz30_2 : w29.cell? ⟨gb916, 2, none⟩ = some (.int .i64 a0_2) := (blk_cell BK916.out 2).trans rfl; have hcz30_3 : w29.cell? ⟨gb916, 3, none⟩ = some (.int .i64 a0_3) := (blk_cell BK916.out 3).trans rfl; have hcz30_4 : w29.cell? ⟨gb916, 4, none⟩ = some (.slice A0_4 l0_4.length c0_4) := (blk_cell BK916.out 4).trans rfl; have hcz30_5 : w29.cell? ⟨gb916, 5, none⟩ = some (.bool a0_5) := (blk_cell BK916.out 5).trans rfl; have hcz30_6 : w29.cell? ⟨gb916, 6, none⟩ = some (.slice A0_6 l0_6.length c0_6) := (blk_cell BK916.out 6).trans rfl; have hcz30_7 : w29.cell? ⟨gb916, 7, none⟩ = some (.slice A0_7 l0_7.length c0_7) := (blk_cell BK916.out 7).trans rfl; have hcz30_8 : w29.cell? ⟨gb916, 8, none⟩ = some (.slice A0_8 l0_8.length c0_8) := (blk_cell BK916.out 8).trans rfl; have hcz30_9 : w29.cell? ⟨gb916, 9, none⟩ = some (.slice A0_9 l0_9.length c0_9) := (blk_cell BK916.out 9).trans rfl; have hcz30_10 : w29.cell? ⟨gb916, 10, none⟩ = some (.slice A0_10 l0_10.length c0_10) := (blk_cell BK916.out 10).trans rfl; have hcz30_11 : w29.cell? ⟨gb916, 11, none⟩ = some (.int .i64 a0_11) := (blk_cell BK916.out 11).trans rfl; have hcz30_12 : w29.cell? ⟨gb916, 12, none⟩ = some (.slice A0_12 l0_12.length c0_12) := (blk_cell BK916.out 12).trans rfl; have hfz30_0 := blk_frozen BK916.out 0; have hfz30_1 := blk_frozen BK916.out 1; have hfz30_2 := blk_frozen BK916.out 2; have hfz30_3 := blk_frozen BK916.out 3; have hfz30_4 := blk_frozen BK916.out 4; have hfz30_5 := blk_frozen BK916.out 5; have hfz30_6 := blk_frozen BK916.out 6; have hfz30_7 := blk_frozen BK916.out 7; have hfz30_8 := blk_frozen BK916.out 8; have hfz30_9 := blk_frozen BK916.out 9; have hfz30_10 := blk_frozen BK916.out 10; have hfz30_11 := blk_frozen BK916.out 11; have hfz30_12 := blk_frozen BK916.out 12) | ((with_reducible refine gate_callee (f := 92) rfl ?_); refine gl (some 14) Try.func92 #[.slice A0_9 l0_9.length c0_9, .int .i64 t917] ?_; (with_reducible refine (laws_heldNoteS.calls k _ _ l0_9 t917 t918 _ ?side1 ?side2 A8.out).mono ?_); (case side1 => exact cc HR0_9 HB); (case side2 => exact HC0_9.out); rintro e w' ⟨rfl, ⟨nd, rfl⟩⟩; refine ⟨_, rfl, ?_⟩) | ((with_reducible refine gate_callee (f := 93) rfl ?_); refine gl (some 20) Try.func93 #[.slice A0_10 l0_10.length c0_10, .int .i64 t918] ?_; (with_reducible refine (laws_heldSentS.calls k _ _ l0_10 t918 t919 _ ?side1 ?side2 A14.out).mono ?_); (case side1 => repeat (first | exact (Kd.C_below HR0_10.out (bb HB)) | (with_reducible refine Kd.C_alloc ?_ _) | (with_reducible refine Kd.C_drewN ?_ _) | (with_reducible refine Kd.C_drew ?_))); (case side2 => exact HC0_10.out); rintro e w' ⟨rfl, ⟨nd, rfl⟩⟩; refine ⟨_, rfl, ?_⟩) | ((with_reducible refine gate_callee (f := 94) rfl ?_); refine gl (some 26) Try.func94 #[.agg #[.int .i64 a0_11, .slice A0_12 l0_12.length c0_12], .int .i64 t919] ?_; (with_reducible refine (laws_heldCup.calls k a0_11 _ _ l0_12 t919 t920 _ ?side1 ?side2 A20.out).mono ?_); (case side1 => repeat (first | exact (Kd.C_below HR0_12.out (bb HB)) | (with_reducible refine Kd.C_alloc ?_ _) | (with_reducible refine Kd.C_drewN ?_ _) | (with_reducible refine Kd.C_drew ?_))); (case side2 => exact HC0_12.out); rintro e w31 ⟨rfl, hb⟩; refine ⟨_, rfl, ?_⟩; replace BK916 := kb BK916 hb; replace HB := hs_ HB hb; (try clear hb); (try clear hb2); (try clear hk); (try clear hi)))
          go_ret
          exact ⟨ee, bb HB⟩
end Go.Proofs.Ytibmeomlokigjaa.Q
