/- A part of the proof of FnExactWithdraw: functions of the program, as plain functions, with the proof that the machine's call does what they say; plain lemmas; and those of the words that print.sh prints which this proof uses. No condition. -/
import Derived.Test.YthfefanapneocaaKFnExactWithdraw1
import Derived.Test.YthfefanapneocaaProg
import Derived.Below
import Derived.Deep.Draws
import Derived.Deep.AppendLies
import Derived.Maps.AppendAt
import Derived.OwnWalk
import Derived.Laws.BytesArg
import Derived.Laws.MakeOwn
import Derived.Laws.OwnMore
import Derived.Deep.OwnRows
import Derived.Tactics
import Derived.Lib.ConvBytes
import Derived.Laws.Slices
import Derived.WalkKit
import Derived.KernelRfl
import Derived.RowKit3
import Derived.Deep.LoopGhost
import Derived.Deep.QuietTactic
import Derived.BigQuiet
import Derived.WideLaws
import Derived.Deep.DeepCutAuto
import Derived.Deep.CutBlock
import Derived.Deep.RegionHeld3
import Derived.Laws.Rows
import Derived.Lib.AppendStr
import Derived.ArgAppend
import Derived.Laws.IdiomCopy
import Derived.OrdersHeld
import Derived.Laws.BitsLemmas
import Derived.RowKit
import Derived.WalkSpells
import Derived.Laws.StructEq
import Derived.Test.YthfefanapneocaaKFnExactWithdraw3
namespace Go.Proofs.Ythfefanapneocaa.Q
open Go.RowKit Go.Proofs.YthfefanapneocaaW.PrintWords Go.Proofs.YthfefanapneocaaW.PrintLast Go.Proofs.YthfefanapneocaaW.PrintMore
attribute [local go_sem] max2_int min2_int max_two min_two max_three min_three max_four min_four
set_option linter.unusedVariables false
set_option linter.unusedSimpArgs false
set_option maxRecDepth 100000
set_option maxHeartbeats 8000000
def impl_GameOk.j0 : Nat → Int → Int → Int → Int → Int → Int → Int → Option (Bool)
 | 0, _, _, _, _, _, _, _ => none
 | k + 1, x0, x5, x317000, x317001, x317002, x317003, x317004 => (impl_within.f x0 2 8).bind fun t317 => (if t317 = true then (if x317000 = x317001 then (some false) else ((impl_within.f x317000 0 (wrap64 (x0 - 1))).bind fun t318 => (if t318 = true then ((impl_within.f x317001 0 (wrap64 (x0 - 1))).bind fun t319 => (if t319 = true then ((impl_within.f x317004 0 4).bind fun t320 => (if t320 = true then ((impl_within.f x317002 0 x5).bind fun t321 => (if t321 = true then ((impl_within.f x317003 0 x5).bind fun t322 => (some t322)) else (some false))) else (some false))) else (some false))) else (some false)))) else (some false))
def impl_GameOk.f (k : Nat) (a0 : Int) (a1_0 : Int) (a1_1 : Int) (a1_2 : Int) (a1_3 : Int) (a1_4 : Int) : Option (Bool) := if a1_4 = 1 then (impl_GameOk.j0 k a0 99 a1_0 a1_1 a1_2 a1_3 a1_4) else (impl_GameOk.j0 k a0 0 a1_0 a1_1 a1_2 a1_3 a1_4)
theorem impl_GameOk.calls (k : Nat) (a0 : Int) (a1_0 : Int) (a1_1 : Int) (a1_2 : Int) (a1_3 : Int) (a1_4 : Int) (r : Bool) (w : World) (h : impl_GameOk.f k a0 a1_0 a1_1 a1_2 a1_3 a1_4 = some r) :
  Calls Try.prog 164 #[.int .i64 a0, .agg #[.int .i64 a1_0, .int .i64 a1_1, .int .i64 a1_2, .int .i64 a1_3, .int .i64 a1_4]] w fun e w' => e = .returned (.bool r) ∧ Below w.heap.size w w' := by
 have hu95 := Try.underlying95
 have HB := dk (Below.refl w.heap.size w)
 have H : (if a1_4 = 1 then (impl_GameOk.j0 k a0 99 a1_0 a1_1 a1_2 a1_3 a1_4) else (impl_GameOk.j0 k a0 0 a1_0 a1_1 a1_2 a1_3 a1_4)) = some r := h
 clear h
 have HC3 := dk H
 clear H
 go_enter Try.func164, Try.ntmps164
 go_upto_if 8 with (first | ((with_reducible refine gate_dst (N := 3) rfl ?_); refine bx (N := 3) (cs := #[.int .i64 a1_0, .int .i64 a1_1, .int .i64 a1_2, .int .i64 a1_3, .int .i64 a1_4]) (t := 95) ?_; intro gb316 hg w4 hbox hb; have BK316 := dk (hbox); have GW316 := gs hg HB; have GE316 := gs hg HB; replace HB := hs_ HB hb; clear hb hbox hg; have ⟨z5_0, z5_1, z5_2, z5_3, z5_4, v5_0, v5_1, v5_2, v5_3, v5_4⟩ := rz5 BK316))
 (try simp only [Act.put, List.setIfInBounds_toArray, List.set_cons_zero, List.set_cons_succ])
 go_cut [5] (fun v5 wc => ∃ (kq : Nat) (x5_2 : Int), v5 = .int .i64 x5_2 ∧ Aside0 (impl_GameOk.j0 kq a0 x5_2 a1_0 a1_1 a1_2 a1_3 a1_4 = some r) ∧ Aside0 (kq ≤ k) ∧ Aside0 (wc.heap[gb316]? = some (.cells #[.int .i64 a1_0, .int .i64 a1_1, .int .i64 a1_2, .int .i64 a1_3, .int .i64 a1_4] 95 (0, 0))) ∧ Aside0 (Below w.heap.size w wc))
 case first =>
  have H := HC3.out
  clear HC3
  by_cases c6 : a1_4 = 1
  ·rw [if_pos c6] at H
   have c6b0 : (a1_4 == 1) = true := beq_iff_eq.mpr c6
   have c6b1 : (a1_4 != 1) = false := bne_eq_false_iff_eq.mpr c6
   clear c6
   (first | rw [c6b0] | rw [c6b1] | (simp only [i64_w, i32_w]; rw [c6b0]) | skip)
   have H' := dk H
   clear H
   go_wp2
   go_meet
   case rel => exact ⟨_, (99), e2_, H', ⟨by first | omega | exact Nat.le_refl _⟩, ⟨bk BK316⟩, ⟨bb HB⟩⟩
  ·rw [if_neg c6] at H
   have c6b0 : (a1_4 == 1) = false := beq_eq_false_iff_ne.mpr c6
   have c6b1 : (a1_4 != 1) = true := bne_iff_ne.mpr c6
   (first | rw [c6b0] | rw [c6b1] | (simp only [i64_w, i32_w]; rw [c6b0]) | skip)
   have H' := dk H
   clear H
   go_wp2
   go_meet
   case rel => exact ⟨_, (0), e2_, H', ⟨by first | omega | exact Nat.le_refl _⟩, ⟨bk BK316⟩, ⟨bb HB⟩⟩
 case rest =>
  clear HC3
  (try clear c1)
  (try clear p2)
  (try clear c6)
  (try clear c6b0)
  (try clear c6b1)
  (try clear z5_0 z5_1 z5_2 z5_3 z5_4)
  (try clear v5_0 v5_1 v5_2 v5_3 v5_4)
  obtain ⟨kq, x5_2, rfl, HA, HJ2, BK316, HB⟩ := hcut
  cases kq with
  | zero => exact absurd HA.out (by simp [impl_GameOk.j0])
  | succ kj2 =>
   have H := HA.out
   clear HA
   simp only [impl_GameOk.j0] at H
   replace H := Option.bind_eq_some_iff.mp H
   obtain ⟨t317, A70, H⟩ := H
   try dsimp only at H
   have A7 := dk A70
   clear A70
   by_cases c8 : t317 = true
   ·subst c8
    rw [if_pos rfl] at H
    by_cases c9 : a1_0 = a1_1
    ·rw [if_pos c9] at H
     have c9b0 : (a1_0 == a1_1) = true := beq_iff_eq.mpr c9
     have c9b1 : (a1_0 != a1_1) = false := bne_eq_false_iff_eq.mpr c9
     clear c9
     obtain rfl := Option.some.inj H
     go_wp2_with (first | ((with_reducible refine gate_callee (f := 128) rfl ?_); refine gl (some 10) Try.func128 #[.int .i64 a0, .int .i64 2, .int .i64 8] ?_; (with_reducible refine (impl_within.calls a0 2 8 true _ A7.out).mono ?_); rintro e w' ⟨rfl, ⟨nd, rfl⟩⟩; refine ⟨_, rfl, ?_⟩; have ⟨z10_0, z10_1, z10_2, z10_3, z10_4, v10_0, v10_1, v10_2, v10_3, v10_4⟩ := rz5 BK316))
     go_ret
     exact ⟨ee, bb HB⟩
    ·rw [if_neg c9] at H
     have c9b0 : (a1_0 == a1_1) = false := beq_eq_false_iff_ne.mpr c9
     have c9b1 : (a1_0 != a1_1) = true := bne_iff_ne.mpr c9
     replace H := Option.bind_eq_some_iff.mp H
     obtain ⟨t318, A110, H⟩ := H
     try dsimp only at H
     have A11 := dk A110
     clear A110
     by_cases c12 : t318 = true
     ·subst c12
      rw [if_pos rfl] at H
      replace H := Option.bind_eq_some_iff.mp H
      obtain ⟨t319, A130, H⟩ := H
      try dsimp only at H
      have A13 := dk A130
      clear A130
      by_cases c14 : t319 = true
      ·subst c14
       rw [if_pos rfl] at H
       replace H := Option.bind_eq_some_iff.mp H
       obtain ⟨t320, A150, H⟩ := H
       try dsimp only at H
       have A15 := dk A150
       clear A150
       by_cases c16 : t320 = true
       ·subst c16
        rw [if_pos rfl] at H
        replace H := Option.bind_eq_some_iff.mp H
        obtain ⟨t321, A170, H⟩ := H
        try dsimp only at H
        have A17 := dk A170
        clear A170
        by_cases c18 : t321 = true
        ·subst c18
         rw [if_pos rfl] at H
         replace H := Option.bind_eq_some_iff.mp H
         obtain ⟨t322, A190, H⟩ := H
         try dsimp only at H
         have A19 := dk A190
         clear A190
         obtain rfl := Option.some.inj H
         go_wp2_with (first | ((with_reducible refine gate_callee (f := 128) rfl ?_); refine gl (some 10) Try.func128 #[.int .i64 a0, .int .i64 2, .int .i64 8] ?_; (with_reducible refine (impl_within.calls a0 2 8 true _ A7.out).mono ?_); rintro e w' ⟨rfl, ⟨nd, rfl⟩⟩; refine ⟨_, rfl, ?_⟩; have ⟨z20_0, z20_1, z20_2, z20_3, z20_4, v20_0, v20_1, v20_2, v20_3, v20_4⟩ := rz5 BK316) | (go_at_call 128; (with_reducible refine (impl_within.calls a1_0 0 (wrap64 (a0 - 1)) true _ A11.out).mono ?_); rintro e w' ⟨rfl, ⟨nd, rfl⟩⟩) | (go_at_call 128; (with_reducible refine (impl_within.calls a1_1 0 (wrap64 (a0 - 1)) true _ A13.out).mono ?_); rintro e w' ⟨rfl, ⟨nd, rfl⟩⟩) | (go_at_call 128; (with_reducible refine (impl_within.calls a1_4 0 4 true _ A15.out).mono ?_); rintro e w' ⟨rfl, ⟨nd, rfl⟩⟩) | (go_at_call 128; (with_reducible refine (impl_within.calls a1_2 0 x5_2 true _ A17.out).mono ?_); rintro e w' ⟨rfl, ⟨nd, rfl⟩⟩) | (go_at_call 128; (with_reducible refine (impl_within.calls a1_3 0 x5_2 t322 _ A19.out).mono ?_); rintro e w' ⟨rfl, ⟨nd, rfl⟩⟩))
         go_ret
         exact ⟨ee, bb HB⟩
        ·replace c18 := Bool.eq_false_iff.mpr c18
         subst c18
         rw [if_neg (show ¬ (false = true) by decide)] at H
         obtain rfl := Option.some.inj H
         go_wp2_with (first | ((with_reducible refine gate_callee (f := 128) rfl ?_); refine gl (some 10) Try.func128 #[.int .i64 a0, .int .i64 2, .int .i64 8] ?_; (with_reducible refine (impl_within.calls a0 2 8 true _ A7.out).mono ?_); rintro e w' ⟨rfl, ⟨nd, rfl⟩⟩; refine ⟨_, rfl, ?_⟩; have ⟨z21_0, z21_1, z21_2, z21_3, z21_4, v21_0, v21_1, v21_2, v21_3, v21_4⟩ := rz5 BK316) | (go_at_call 128; (with_reducible refine (impl_within.calls a1_0 0 (wrap64 (a0 - 1)) true _ A11.out).mono ?_); rintro e w' ⟨rfl, ⟨nd, rfl⟩⟩) | (go_at_call 128; (with_reducible refine (impl_within.calls a1_1 0 (wrap64 (a0 - 1)) true _ A13.out).mono ?_); rintro e w' ⟨rfl, ⟨nd, rfl⟩⟩) | (go_at_call 128; (with_reducible refine (impl_within.calls a1_4 0 4 true _ A15.out).mono ?_); rintro e w' ⟨rfl, ⟨nd, rfl⟩⟩) | (go_at_call 128; (with_reducible refine (impl_within.calls a1_2 0 x5_2 false _ A17.out).mono ?_); rintro e w' ⟨rfl, ⟨nd, rfl⟩⟩))
         go_ret
         exact ⟨ee, bb HB⟩
       ·replace c16 := Bool.eq_false_iff.mpr c16
        subst c16
        rw [if_neg (show ¬ (false = true) by decide)] at H
        obtain rfl := Option.some.inj H
        go_wp2_with (first | ((with_reducible refine gate_callee (f := 128) rfl ?_); refine gl (some 10) Try.func128 #[.int .i64 a0, .int .i64 2, .int .i64 8] ?_; (with_reducible refine (impl_within.calls a0 2 8 true _ A7.out).mono ?_); rintro e w' ⟨rfl, ⟨nd, rfl⟩⟩; refine ⟨_, rfl, ?_⟩; have ⟨z22_0, z22_1, z22_2, z22_3, z22_4, v22_0, v22_1, v22_2, v22_3, v22_4⟩ := rz5 BK316) | (go_at_call 128; (with_reducible refine (impl_within.calls a1_0 0 (wrap64 (a0 - 1)) true _ A11.out).mono ?_); rintro e w' ⟨rfl, ⟨nd, rfl⟩⟩) | (go_at_call 128; (with_reducible refine (impl_within.calls a1_1 0 (wrap64 (a0 - 1)) true _ A13.out).mono ?_); rintro e w' ⟨rfl, ⟨nd, rfl⟩⟩) | (go_at_call 128; (with_reducible refine (impl_within.calls a1_4 0 4 false _ A15.out).mono ?_); rintro e w' ⟨rfl, ⟨nd, rfl⟩⟩))
        go_ret
        exact ⟨ee, bb HB⟩
      ·replace c14 := Bool.eq_false_iff.mpr c14
       subst c14
       rw [if_neg (show ¬ (false = true) by decide)] at H
       obtain rfl := Option.some.inj H
       go_wp2_with (first | ((with_reducible refine gate_callee (f := 128) rfl ?_); refine gl (some 10) Try.func128 #[.int .i64 a0, .int .i64 2, .int .i64 8] ?_; (with_reducible refine (impl_within.calls a0 2 8 true _ A7.out).mono ?_); rintro e w' ⟨rfl, ⟨nd, rfl⟩⟩; refine ⟨_, rfl, ?_⟩; have ⟨z23_0, z23_1, z23_2, z23_3, z23_4, v23_0, v23_1, v23_2, v23_3, v23_4⟩ := rz5 BK316) | (go_at_call 128; (with_reducible refine (impl_within.calls a1_0 0 (wrap64 (a0 - 1)) true _ A11.out).mono ?_); rintro e w' ⟨rfl, ⟨nd, rfl⟩⟩) | (go_at_call 128; (with_reducible refine (impl_within.calls a1_1 0 (wrap64 (a0 - 1)) false _ A13.out).mono ?_); rintro e w' ⟨rfl, ⟨nd, rfl⟩⟩))
       go_ret
       exact ⟨ee, bb HB⟩
     ·replace c12 := Bool.eq_false_iff.mpr c12
      subst c12
      rw [if_neg (show ¬ (false = true) by decide)] at H
      obtain rfl := Option.some.inj H
      go_wp2_with (first | ((with_reducible refine gate_callee (f := 128) rfl ?_); refine gl (some 10) Try.func128 #[.int .i64 a0, .int .i64 2, .int .i64 8] ?_; (with_reducible refine (impl_within.calls a0 2 8 true _ A7.out).mono ?_); rintro e w' ⟨rfl, ⟨nd, rfl⟩⟩; refine ⟨_, rfl, ?_⟩; have ⟨z24_0, z24_1, z24_2, z24_3, z24_4, v24_0, v24_1, v24_2, v24_3, v24_4⟩ := rz5 BK316) | (go_at_call 128; (with_reducible refine (impl_within.calls a1_0 0 (wrap64 (a0 - 1)) false _ A11.out).mono ?_); rintro e w' ⟨rfl, ⟨nd, rfl⟩⟩))
      go_ret
      exact ⟨ee, bb HB⟩
   ·replace c8 := Bool.eq_false_iff.mpr c8
    subst c8
    rw [if_neg (show ¬ (false = true) by decide)] at H
    obtain rfl := Option.some.inj H
    go_wp2_with (first | ((with_reducible refine gate_callee (f := 128) rfl ?_); refine gl (some 10) Try.func128 #[.int .i64 a0, .int .i64 2, .int .i64 8] ?_; (with_reducible refine (impl_within.calls a0 2 8 false _ A7.out).mono ?_); rintro e w' ⟨rfl, ⟨nd, rfl⟩⟩; refine ⟨_, rfl, ?_⟩))
    go_ret
    exact ⟨ee, bb HB⟩
set_option maxHeartbeats 4000000 in
theorem slices_IndexFunc_impl_Game_impl_Game.calls (g : Nat) (lb : Array Value) (eg : ∀ args w, (callFunc g args).run Try.prog w = .ok (.enter g args) w) (p : S95 → Bool) (A0 : Option Addr) (c0 n0 : Nat) (l0 : List (S95)) (w0 w : World) (hB : Below w0.heap.size w0 w) (hr0 : Kd.C k95 w0 A0 n0 l0)
    (hp : ∀ (W : World) (x : S95), Below w.heap.size w W → x ∈ l0 → Calls Try.prog g (#[.agg #[.int .i64 x.f0, .int .i64 x.f1, .int .i64 x.f2, .int .i64 x.f3, .int .i64 x.f4]] ++ lb) W fun e w' => e = .returned (.bool (p x)) ∧ Below W.heap.size W w') :
    Calls Try.prog 186 #[.slice A0 n0 c0, .func (.func g) #[] lb] w fun e w' => e = .returned (.int .i64 (idxI p l0)) ∧ Below w.heap.size w w' := by
  obtain rfl := Kd.C_len hr0
  have hm : l0.length ≤ 9223372036854775807 := hr0.2.1
  have HR0 := dk hr0
  have HP := dk hp
  have HW := dk hB.size
  have HB0 := dk hB
  clear hr0 hp hB
  go_enter Try.func186, Try.ntmps186
  go_wp2
  go_loopg [5, 8] l0.length (fun gg _ s8 wr => ∃ kk : Nat, kk ≤ l0.length ∧ l0.length - kk ≤ gg ∧ s8 = .int .i64 kk ∧ Aside0 (Below w.heap.size w wr) ∧ Aside0 (∀ j, j < kk → p (rd_T95 l0 j) = false))
  case atStart => exact ⟨0, Nat.zero_le _, by omega, rfl, ⟨Below.refl _ w⟩, ⟨fun j hj => absurd hj (Nat.not_lt_zero _)⟩⟩
  case round =>
    obtain ⟨kk, hkk, hg, rfl, BW, HA⟩ := hrel
    by_cases hlt : kk < l0.length
    · have hltz : (kk : Int) < (l0.length : Int) := by omega
      obtain ⟨ad, ead, h0, h1, h2, h3, h4⟩ := at_T95 HR0.out kk (by omega) hltz
      subst ead
      have hb1 : Below w0.heap.size w0 wr := below_then HB0.out HW.out BW.out
      have hcall := HP.out wr (rd_T95 l0 kk) BW.out (by unfold rd_T95; simp [hlt])
      replace h0 := pw_cell_below hb1 h0
      replace h1 := pw_cell_below hb1 h1
      replace h2 := pw_cell_below hb1 h2
      replace h3 := pw_cell_below hb1 h3
      replace h4 := pw_cell_below hb1 h4
      simp only [Int.toNat_natCast] at h0 h1 h2 h3 h4
      have HB1 := dk hb1
      clear hb1
      generalize hy : rd_T95 l0 kk = y at h0 h1 h2 h3 h4 hcall
      have B := dk hy
      clear hy
      cases hq : p y with
      | true =>
        rw [hq] at hcall
        have Q := dk hq
        have HC := dk hcall
        clear hq hcall
        go_wp2_with fail
        refine HC.out.mono ?_
        rintro e w' ⟨rfl, hb'⟩
        go_wp2_with fail
        go_ret
        refine ⟨?_, below_step BW.out hb'⟩
        rw [idxI_hit p l0 kk hlt z95 (by have := B.out; unfold rd_T95 at this; simp only [Int.toNat_natCast] at this; rw [this]; exact Q.out) (fun j hj => by have := HA.out j hj; unfold rd_T95 at this; simpa using this)]
        rfl
      | false =>
        rw [hq] at hcall
        have Q := dk hq
        have HC := dk hcall
        clear hq hcall
        go_wp2_with fail
        refine HC.out.mono ?_
        rintro e w' ⟨rfl, hb'⟩
        go_wp2_with fail
        go_roundg (l0.length - (kk + 1))
        case measure => omega
        case rel =>
          refine ⟨kk + 1, by omega, by omega, by go_num, ⟨below_step BW.out hb'⟩, ⟨fun j hj => ?_⟩⟩
          by_cases e : j = kk
          · subst e
            rw [B.out]; exact Q.out
          · exact HA.out j (by omega)
    · have hltz : ¬ (kk : Int) < (l0.length : Int) := by omega
      have hd : decide ((kk : Int) < (l0.length : Int)) = false := by simp; omega
      have hd2 : decide (kk < l0.length) = false := by simp; omega
      have hk := dk (show kk = l0.length by omega)
      clear hlt hltz hg
      go_wp2_with fail
      go_ret
      obtain rfl := hk.out
      refine ⟨?_, BW.out⟩
      rw [idxI_miss p l0 z95 (fun j hj => by have := HA.out j hj; unfold rd_T95 at this; simpa using this)]
      rfl
def gameIs (h a : Int) (g : S95) : Bool := (g.f0 == h) && (g.f1 == a)
def impl_GameOf.f (l0 : List (S95)) (a1 : Int) (a2 : Int) : Option Int := some (idxI (gameIs a1 a2) l0)
set_option maxHeartbeats 4000000 in
theorem impl_GameOf_1.calls (gh ga : Nat) (h a : Int) (x : S95) (W : World) (hh : W.cell? ⟨gh, 0, none⟩ = some (.int .i64 h)) (ha : W.cell? ⟨ga, 0, none⟩ = some (.int .i64 a)) :
    Calls Try.prog 187 #[.agg #[.int .i64 x.f0, .int .i64 x.f1, .int .i64 x.f2, .int .i64 x.f3, .int .i64 x.f4], .pointer (some ⟨gh, 0, none⟩), .pointer (some ⟨ga, 0, none⟩)] W fun e w' => e = .returned (.bool (gameIs h a x)) ∧ Below W.heap.size W w' := by
  have hl1 : gh < W.heap.size := World.block_lt_of_cell? W _ hh
  have hl2 : ga < W.heap.size := World.block_lt_of_cell? W _ ha
  have hT : ∀ b, gameIs h a x = b → ((x.f0 == h) && (x.f1 == a)) = b := fun b h => h
  generalize gameIs h a x = b at hT
  have HT := dk (hT b rfl)
  clear hT
  cases h3 : x.f0 == h with
  | true =>
    have hb : b = (x.f1 == a) := by rw [← HT.out, h3]; rfl
    subst hb
    clear HT
    go_enter Try.func187, Try.ntmps187
    go_wp2
    go_ret
    exact ⟨rfl, below_alloc (Below.refl _ _) _⟩
  | false =>
    have hb : b = false := by rw [← HT.out, h3]; rfl
    subst hb
    clear HT
    go_enter Try.func187, Try.ntmps187
    go_wp2
    go_ret
    exact ⟨rfl, below_alloc (Below.refl _ _) _⟩
set_option maxHeartbeats 4000000 in
theorem impl_GameOf.calls (A0 : Option Addr) (c0 : Nat) (l0 : List (S95)) (a1 : Int) (a2 : Int) (r : Int) (w : World) (hr0 : Kd.C k95 w A0 l0.length l0) (hc0 : l0.length ≤ c0) (h : impl_GameOf.f l0 a1 a2 = some r) :
    Calls Try.prog 165 #[.slice A0 l0.length c0, .int .i64 a1, .int .i64 a2] w fun e w' => e = .returned (.int .i64 r) ∧ Below w.heap.size w w' := by
  have HR := dk (Option.some.inj h)
  have HR0 := dk hr0
  clear h hr0 hc0
  have eg := my_enters Try.func187 (by kernel_rfl) rfl
  have HG := dk eg
  clear eg
  go_enter Try.func165, Try.ntmps165
  go_wp2_with fail
  refine ((slices_IndexFunc_impl_Game_impl_Game.calls 187 #[.pointer (some ⟨w.heap.size, 0, none⟩), .pointer (some ⟨w.heap.size + 1, 0, none⟩)] HG.out (gameIs a1 a2) A0 c0 l0.length l0 w _ (below_alloc (below_alloc (Below.refl _ _) _) _) HR0.out (fun W x hW _ => impl_GameOf_1.calls w.heap.size (w.heap.size + 1) a1 a2 x W ?_ ?_)).mono ?_)
  · exact pw_cell_below hW (by simp)
  · exact pw_cell_below hW (by simp)
  rintro e w2 ⟨rfl, hb2⟩
  have HB2 := dk (below_step (below_alloc (below_alloc (Below.refl _ _) _) _) hb2)
  clear hb2
  generalize hi : idxI (gameIs a1 a2) l0 = i at HR
  have HI := dk hi
  clear hi
  go_wp2_with fail
  go_ret
  exact ⟨by rw [← HR.out]; rfl, HB2.out⟩
def impl_SeasonOk.l0 : Nat → Int → List (S95) → List (S95) → Int → Int → Option (Bool)
 | 0, _, _, _, _, _ => none
 | k + 1, x0, x1, x7, x8, x9 => if x9 < x8 then (if 0 ≤ x9 then (if x9 < (x7.length : Int) then ((impl_GameOk.f k x0 ((rd_T95 x7 x9).f0) ((rd_T95 x7 x9).f1) ((rd_T95 x7 x9).f2) ((rd_T95 x7 x9).f3) ((rd_T95 x7 x9).f4)).bind fun t325 => (if t325 = true then (if x9 ≤ (x1.length : Int) then ((impl_GameOf.f (x1.take (x9 : Int).toNat) ((rd_T95 x7 x9).f0) ((rd_T95 x7 x9).f1)).bind fun t330 => (if t330 ≥ 0 then (some false) else (impl_SeasonOk.l0 k x0 x1 x7 x8 (wrap64 (x9 + 1))))) else (none)) else (some false))) else (none)) else (none)) else (some (decide ((x1.length : Int) ≤ 60)))
def impl_SeasonOk.f (k : Nat) (a0 : Int) (l1 : List (S95)) : Option (Bool) := impl_SeasonOk.l0 k a0 l1 l1 (l1.length : Int) 0
def impl_SeasonOk.T4 : Bool × List (List Nat × List Nat) := (true, [([], []), ([], []), ([0, 1], [0, 1]), ([2], [2]), ([3, 2], [3]), ([4], [4]), ([4], [4]), ([5, 6, 4], [4, 5, 6]), ([4], [4]), ([8, 4], [4, 8]), ([4], [4]), ([10, 4], [4, 10]), ([7, 9, 11, 4, 4], [4, 7, 9, 11]), ([12, 4], [4, 12]), ([4, 13], [4, 13])])
def impl_SeasonOk.B4 : List Nat := [0, 0, 3, 7, 15, 31, 31, 127, 31, 287, 31, 1055, 4095, 8191, 16383]
theorem impl_SeasonOk.tab4 : rtab .any (opsOf Try.f124 4) = impl_SeasonOk.T4 := by kernel_rfl
theorem impl_SeasonOk.bits4 : waitsOk impl_SeasonOk.T4.2 impl_SeasonOk.B4 = true := by kernel_rfl
theorem impl_SeasonOk.calls (k : Nat) (a0 : Int) (A1 : Option Addr) (c1 : Nat) (l1 : List (S95)) (r : Bool) (w : World) (hr1 : Kd.C k95 w A1 l1.length l1) (hc1 : l1.length ≤ c1) (h : impl_SeasonOk.f k a0 l1 = some r) :
  Calls Try.prog 124 #[.int .i64 a0, .slice A1 l1.length c1] w fun e w' => e = .returned (.bool r) ∧ Below w.heap.size w w' := by
 have hu95 := Try.underlying95
 have HR1 := dk hr1
 have HC1 := dk hc1
 clear hr1 hc1
 have HB := dk (Below.refl w.heap.size w)
 have H : (impl_SeasonOk.l0 k a0 l1 l1 (l1.length : Int) 0) = some r := h
 clear h
 have H' := dk H
 clear H
 go_enter Try.func124, Try.ntmps124
 go_wp2
 go_loopg [9] k (fun kq v9 w' => ∃ (x9_1 : Int), v9 = .int .i64 x9_1 ∧ Aside0 (impl_SeasonOk.l0 kq a0 l1 l1 (l1.length : Int) x9_1 = some r) ∧ Aside0 (kq ≤ k) ∧ Aside0 (Below w.heap.size w w'))
 case atStart => exact ⟨(0), e2_, H', ⟨Nat.le_refl _⟩, ⟨bb HB⟩⟩
 case round =>
  clear H'
  (try clear c1)
  (try clear p2)
  obtain ⟨x9_1, rfl, HA, HK1, HB⟩ := hrel
  cases gk with
  | zero => exact absurd HA.out (by simp [impl_SeasonOk.l0])
  | succ k1 =>
   have H := HA.out
   clear HA
   simp only [impl_SeasonOk.l0] at H
   by_cases c3 : x9_1 < (l1.length : Int)
   ·rw [if_pos c3] at H
    have c3b0 : decide (x9_1 < (l1.length : Int)) = true := decide_eq_true c3
    clear c3
    by_cases c4 : 0 ≤ x9_1
    ·rw [if_pos c4] at H
     have c4b0 : decide (0 ≤ x9_1) = true := decide_eq_true c4
     clear c4
     by_cases c5 : x9_1 < (l1.length : Int)
     ·rw [if_pos c5] at H
      have c5b0 : decide (x9_1 < (l1.length : Int)) = true := decide_eq_true c5
      clear c5
      replace H := Option.bind_eq_some_iff.mp H
      obtain ⟨t325, A60, H⟩ := H
      try dsimp only at H
      have A6 := dk A60
      clear A60
      by_cases c7 : t325 = true
      ·subst c7
       rw [if_pos rfl] at H
       have c8b0 := eq_true (oa : 0 ≤ x9_1)
       by_cases c9 : x9_1 ≤ (l1.length : Int)
       ·rw [if_pos c9] at H
        have c9b0 := eq_true c9
        have c9b1 : decide (x9_1 ≤ (l1.length : Int)) = true := decide_eq_true c9
        clear c9
        obtain ⟨y326, hy326⟩ : ∃ y_ : List (S95), y_ = (l1.take (x9_1 : Int).toNat) := ⟨_, rfl⟩
        replace H : ((impl_GameOf.f y326 ((rd_T95 l1 x9_1).f0) ((rd_T95 l1 x9_1).f1)).bind fun t330 => (if t330 ≥ 0 then (some false) else (impl_SeasonOk.l0 k1 a0 l1 l1 (l1.length : Int) (wrap64 (x9_1 + 1))))) = some r := by first | (rw [hy326]; with_reducible exact H) | (have H2_ := (Option.bind_some _ _).symm.trans H; rw [hy326]; with_reducible exact H2_) | (have H2_ := (Option.bind_some _ _).symm.trans H; with_reducible exact H2_) | with_reducible exact H | (rw [hy326]; exact H) | exact H
        have Ny326 := dk hy326
        clear hy326
        replace H := Option.bind_eq_some_iff.mp H
        obtain ⟨t330, A100, H⟩ := H
        try dsimp only at H
        have A10 := dk A100
        clear A100
        by_cases c11 : t330 ≥ 0
        ·rw [if_pos c11] at H
         have c11b0 : decide (0 ≤ t330) = true := decide_eq_true c11
         clear c11
         obtain rfl := Option.some.inj H
         have p323 : 0 ≤ (x9_1 : Int) := oa
         have q323 : x9_1 < (l1.length : Int) := oa
         obtain ⟨ad323, e323, hx323_0, hx323_1, hx323_2, hx323_3, hx323_4⟩ := at_T95 HR1.out x9_1 p323 q323
         cases e323
         replace hx323_0 := hc HB hx323_0
         replace hx323_1 := hc HB hx323_1
         replace hx323_2 := hc HB hx323_2
         replace hx323_3 := hc HB hx323_3
         replace hx323_4 := hc HB hx323_4
         replace p323 := eq_true p323
         replace q323 := eq_true q323
         try go_wp2_with (first | ((with_reducible refine gate_dst (N := 6) rfl ?_); refine bx (N := 6) (cs := #[.int .i64 0, .int .i64 0, .int .i64 0, .int .i64 0, .int .i64 0]) (t := 95) ?_; intro gb324 hg w12 hbox hb; have BK324 := dk (hbox); have GW324 := gs hg HB; have GE324 := gs hg HB; replace HB := hs_ HB hb; clear hb hbox hg; have ⟨z13_0, z13_1, z13_2, z13_3, z13_4, v13_0, v13_1, v13_2, v13_3, v13_4⟩ := rz5 BK324))
         have n0_ : Aside0 ((((((w12.setCell ⟨gb324, 0, none⟩ (.int .i64 ((rd_T95 l1 x9_1).f0))).setCell ⟨gb324, 1, none⟩ (.int .i64 ((rd_T95 l1 x9_1).f1))).setCell ⟨gb324, 2, none⟩ (.int .i64 ((rd_T95 l1 x9_1).f2))).setCell ⟨gb324, 3, none⟩ (.int .i64 ((rd_T95 l1 x9_1).f3))).setCell ⟨gb324, 4, none⟩ (.int .i64 ((rd_T95 l1 x9_1).f4))).heap[gb324]? = some (.cells #[.int .i64 ((rd_T95 l1 x9_1).f0), .int .i64 ((rd_T95 l1 x9_1).f1), .int .i64 ((rd_T95 l1 x9_1).f2), .int .i64 ((rd_T95 l1 x9_1).f3), .int .i64 ((rd_T95 l1 x9_1).f4)] 95 (0, 0))) := ⟨by (with_reducible repeat (first | refine blk_drewN ?_ _ | refine blk_drew ?_ | refine blk_alloc ?_ _)); refine blk_put (cs := #[.int .i64 ((rd_T95 l1 x9_1).f0), .int .i64 ((rd_T95 l1 x9_1).f1), .int .i64 ((rd_T95 l1 x9_1).f2), .int .i64 ((rd_T95 l1 x9_1).f3), .int .i64 0]) ?_ 4 _ rfl; (with_reducible repeat (first | refine blk_drewN ?_ _ | refine blk_drew ?_ | refine blk_alloc ?_ _)); refine blk_put (cs := #[.int .i64 ((rd_T95 l1 x9_1).f0), .int .i64 ((rd_T95 l1 x9_1).f1), .int .i64 ((rd_T95 l1 x9_1).f2), .int .i64 0, .int .i64 0]) ?_ 3 _ rfl; (with_reducible repeat (first | refine blk_drewN ?_ _ | refine blk_drew ?_ | refine blk_alloc ?_ _)); refine blk_put (cs := #[.int .i64 ((rd_T95 l1 x9_1).f0), .int .i64 ((rd_T95 l1 x9_1).f1), .int .i64 0, .int .i64 0, .int .i64 0]) ?_ 2 _ rfl; (with_reducible repeat (first | refine blk_drewN ?_ _ | refine blk_drew ?_ | refine blk_alloc ?_ _)); refine blk_put (cs := #[.int .i64 ((rd_T95 l1 x9_1).f0), .int .i64 0, .int .i64 0, .int .i64 0, .int .i64 0]) ?_ 1 _ rfl; (with_reducible repeat (first | refine blk_drewN ?_ _ | refine blk_drew ?_ | refine blk_alloc ?_ _)); refine blk_put (cs := #[.int .i64 0, .int .i64 0, .int .i64 0, .int .i64 0, .int .i64 0]) ?_ 0 _ rfl; (with_reducible repeat (first | refine blk_drewN ?_ _ | refine blk_drew ?_ | refine blk_alloc ?_ _)); exact BK324.out⟩
         have n1_ : Aside0 (Below w.heap.size w (((((w12.setCell ⟨gb324, 0, none⟩ (.int .i64 ((rd_T95 l1 x9_1).f0))).setCell ⟨gb324, 1, none⟩ (.int .i64 ((rd_T95 l1 x9_1).f1))).setCell ⟨gb324, 2, none⟩ (.int .i64 ((rd_T95 l1 x9_1).f2))).setCell ⟨gb324, 3, none⟩ (.int .i64 ((rd_T95 l1 x9_1).f3))).setCell ⟨gb324, 4, none⟩ (.int .i64 ((rd_T95 l1 x9_1).f4)))) := ⟨bb HB⟩
         (try clear BK324)
         (try clear HB)
         generalize (((((w12.setCell ⟨gb324, 0, none⟩ (.int .i64 ((rd_T95 l1 x9_1).f0))).setCell ⟨gb324, 1, none⟩ (.int .i64 ((rd_T95 l1 x9_1).f1))).setCell ⟨gb324, 2, none⟩ (.int .i64 ((rd_T95 l1 x9_1).f2))).setCell ⟨gb324, 3, none⟩ (.int .i64 ((rd_T95 l1 x9_1).f3))).setCell ⟨gb324, 4, none⟩ (.int .i64 ((rd_T95 l1 x9_1).f4))) = w14 at n0_ n1_ ⊢
         have BK324 := n0_
         have HB := n1_
         clear n0_ n1_
         replace BK324 := dk (blk_drew BK324.out)
         replace HB := dk (below_drew1 HB.out)
         refine start_ (n := 15) (S := fun w' => w'.cell? ⟨gb324, 0, none⟩ = some (.int .i64 ((rd_T95 l1 x9_1).f0)) ∧ w'.cell? ⟨gb324, 1, none⟩ = some (.int .i64 ((rd_T95 l1 x9_1).f1)) ∧ w'.cell? ⟨gb324, 2, none⟩ = some (.int .i64 ((rd_T95 l1 x9_1).f2)) ∧ w'.cell? ⟨gb324, 3, none⟩ = some (.int .i64 ((rd_T95 l1 x9_1).f3)) ∧ w'.cell? ⟨gb324, 4, none⟩ = some (.int .i64 ((rd_T95 l1 x9_1).f4))) (ds := []) #[false, false, false, false, false, false, false, false, false, false, false, false, false, false, false] (by kernel_rfl) rfl rfl ⟨bc BK324 0, bc BK324 1, bc BK324 2, bc BK324 3, bc BK324 4⟩ (fun hHeld => ?_); refine with_tabW impl_SeasonOk.tab4 impl_SeasonOk.bits4 (fun HT_ HW_ => ?_)
         generalize w14.drew = w15 at BK324 HB hHeld ⊢
         refine pz_ 0 14 ?_
         refine take_ (i := 1) (N := some 15) (v := ?_) (a' := ?_) #[true, true, false, false, false, false, false, false, false, false, false, false, false, false, false] rfl rfl (take_ofW HT_.out HW_.out (by kernel_rfl)) (fun _ _ _ h => h) (Or.inl ⟨by rfl, ?_⟩) hHeld ?_ ?_
         rotate_left
         ·rintro w' ⟨s0, s1, s2, s3, s4⟩
          go_simp
          with_reducible rfl
         rotate_left
         ·simp only [Act.put, List.setIfInBounds_toArray, List.set_cons_zero, List.set_cons_succ, i64_w, i32_w]
          rfl
         refine one_ (i := 2) (N := some 16) #[true, true, true, false, false, false, false, false, false, false, false, false, false, false, false] rfl rfl (one_of HT_.out (by kernel_rfl)) (by decide) (fun K hK => ?_)
         refine goes_ Try.func164 (by kernel_rfl) rfl #[.int .i64 a0, .agg #[.int .i64 ((rd_T95 l1 x9_1).f0), .int .i64 ((rd_T95 l1 x9_1).f1), .int .i64 ((rd_T95 l1 x9_1).f2), .int .i64 ((rd_T95 l1 x9_1).f3), .int .i64 ((rd_T95 l1 x9_1).f4)]] (by rfl) rfl rfl (by (try simp only [List.map_toArray, List.map_cons, List.map_nil]); first | done | rfl | (simp only [List.length_drop, List.length_take]; rfl)) ?_
         with_reducible refine (impl_GameOk.calls k1 a0 ((rd_T95 l1 x9_1).f0) ((rd_T95 l1 x9_1).f1) ((rd_T95 l1 x9_1).f2) ((rd_T95 l1 x9_1).f3) ((rd_T95 l1 x9_1).f4) true _ A6.out).mono ?_
         rintro e w16 ⟨rfl, hb⟩
         refine ⟨_, rfl, ?_⟩
         replace BK324 := kb BK324 hb
         replace HB := hs_ HB hb
         (try clear hb hb2 hk hi)
         have q17 : (x9_1 : Int) ≤ ((l1.length : Int) : Int) := oa
         obtain ⟨i017, hi017, _, hsz17, _⟩ := info_parts info95
         have hroom17 : l1.length ≤ c1 := HC1.out
         have hC17 : Kd.C k95 _ (some ad323) l1.length l1 := HR1.out
         have hcut17 := cut_to (P := Try.prog) 34 95 .i64 Try.underlying34 hi017 (some ad323) l1.length c1 x9_1 (oa) q17 hroom17
         have hr17 := Kd.C_take (m := (x9_1 : Int).toNat) hC17 (by omega)
         have hy17 : y326.length = (x9_1 : Int).toNat := (by rw [Ny326.out, List.length_take]; omega)
         rw [← Ny326.out] at hr17
         rw [← hy17] at hcut17
         have HR329 := dk hr17
         have HC329 := dk (show y326.length ≤ c1 from by omega)
         clear hr17 hC17 hroom17 hi017 hsz17
         have KY17 := dk hy17
         clear hy17
         replace q17 := eq_true q17
         refine hK.out _ _ ⟨bc BK324 0, bc BK324 1, bc BK324 2, bc BK324 3, bc BK324 4⟩ (fun hHeld => ?_)
         clear hK K
         refine norm_ (a' := ?_) ?_ ?_
         rotate_left
         ·show Act.put _ (some 16) _ = _
          simp only [Act.put, List.setIfInBounds_toArray, List.set_cons_zero, List.set_cons_succ, i64_w, i32_w]
          rfl
         refine pz_ 3 17 ?_
         refine pz_ 4 18 ?_
         refine pz_ 5 19 ?_
         refine pz_ 6 20 ?_
         refine pz_ 7 21 ?_
         refine pz_ 8 22 ?_
         refine pz_ 10 24 ?_
         refine take_ (i := 9) (N := some 23) (v := ?_) (a' := ?_) #[true, true, true, true, true, true, true, true, true, true, true, false, false, false, false] rfl rfl (take_ofW HT_.out HW_.out (by kernel_rfl)) (fun _ _ _ h => h) (Or.inl ⟨by rfl, ?_⟩) hHeld ?_ ?_
         rotate_left
         ·rintro w' ⟨s0, s1, s2, s3, s4⟩
          go_simp
          with_reducible rfl
         rotate_left
         ·simp only [Act.put, List.setIfInBounds_toArray, List.set_cons_zero, List.set_cons_succ, i64_w, i32_w]
          rfl
         refine take_ (i := 11) (N := some 25) (v := ?_) (a' := ?_) #[true, true, true, true, true, true, true, true, true, true, true, true, false, false, false] rfl rfl (take_ofW HT_.out HW_.out (by kernel_rfl)) (fun _ _ _ h => h) (Or.inl ⟨by rfl, ?_⟩) hHeld ?_ ?_
         rotate_left
         ·rintro w' ⟨s0, s1, s2, s3, s4⟩
          go_simp
          with_reducible rfl
         rotate_left
         ·simp only [Act.put, List.setIfInBounds_toArray, List.set_cons_zero, List.set_cons_succ, i64_w, i32_w]
          rfl
         refine one_ (i := 12) (N := some 26) #[true, true, true, true, true, true, true, true, true, true, true, true, true, false, false] rfl rfl (one_of HT_.out (by kernel_rfl)) (by decide) (fun K hK => ?_)
         refine goes_ Try.func165 (by kernel_rfl) rfl #[.slice (some ad323) y326.length c1, .int .i64 ((rd_T95 l1 x9_1).f0), .int .i64 ((rd_T95 l1 x9_1).f1)] (by rfl) rfl rfl (by (try simp only [List.map_toArray, List.map_cons, List.map_nil]); first | done | rfl | (simp only [List.length_drop, List.length_take]; rfl)) ?_
         with_reducible refine (impl_GameOf.calls _ _ y326 ((rd_T95 l1 x9_1).f0) ((rd_T95 l1 x9_1).f1) t330 _ ?side1 ?side2 A10.out).mono ?_
         (case side1 => exact cc HR329 HB)
         (case side2 => exact HC329.out)
         rintro e w18 ⟨rfl, hb⟩
         refine ⟨_, rfl, ?_⟩
         replace BK324 := kb BK324 hb
         replace HB := hs_ HB hb
         (try clear hb hb2 hk hi)
         refine hK.out _ _ ⟨bc BK324 0, bc BK324 1, bc BK324 2, bc BK324 3, bc BK324 4⟩ (fun hHeld => ?_)
         clear hK K
         refine norm_ (a' := ?_) ?_ ?_
         rotate_left
         ·show Act.put _ (some 26) _ = _
          simp only [Act.put, List.setIfInBounds_toArray, List.set_cons_zero, List.set_cons_succ, i64_w, i32_w]
          rfl
         refine pz_ 13 27 ?_
         refine pz_ 14 28 ?_
         refine done_ (done_of HT_.out (by kernel_rfl)) ?_
         try go_wp2
         go_ret
         exact ⟨ee, bb HB⟩
        ·rw [if_neg c11] at H
         have c11b0 : decide (0 ≤ t330) = false := decide_eq_false c11
         clear c11
         have H' := dk H
         clear H
         have p323 : 0 ≤ (x9_1 : Int) := oa
         have q323 : x9_1 < (l1.length : Int) := oa
         obtain ⟨ad323, e323, hx323_0, hx323_1, hx323_2, hx323_3, hx323_4⟩ := at_T95 HR1.out x9_1 p323 q323
         cases e323
         replace hx323_0 := hc HB hx323_0
         replace hx323_1 := hc HB hx323_1
         replace hx323_2 := hc HB hx323_2
         replace hx323_3 := hc HB hx323_3
         replace hx323_4 := hc HB hx323_4
         replace p323 := eq_true p323
         replace q323 := eq_true q323
         try go_wp2_with (first | ((with_reducible refine gate_dst (N := 6) rfl ?_); refine bx (N := 6) (cs := #[.int .i64 0, .int .i64 0, .int .i64 0, .int .i64 0, .int .i64 0]) (t := 95) ?_; intro gb324 hg w19 hbox hb; have BK324 := dk (hbox); have GW324 := gs hg HB; have GE324 := gs hg HB; replace HB := hs_ HB hb; clear hb hbox hg; have ⟨z20_0, z20_1, z20_2, z20_3, z20_4, v20_0, v20_1, v20_2, v20_3, v20_4⟩ := rz5 BK324))
         have n0_ : Aside0 ((((((w19.setCell ⟨gb324, 0, none⟩ (.int .i64 ((rd_T95 l1 x9_1).f0))).setCell ⟨gb324, 1, none⟩ (.int .i64 ((rd_T95 l1 x9_1).f1))).setCell ⟨gb324, 2, none⟩ (.int .i64 ((rd_T95 l1 x9_1).f2))).setCell ⟨gb324, 3, none⟩ (.int .i64 ((rd_T95 l1 x9_1).f3))).setCell ⟨gb324, 4, none⟩ (.int .i64 ((rd_T95 l1 x9_1).f4))).heap[gb324]? = some (.cells #[.int .i64 ((rd_T95 l1 x9_1).f0), .int .i64 ((rd_T95 l1 x9_1).f1), .int .i64 ((rd_T95 l1 x9_1).f2), .int .i64 ((rd_T95 l1 x9_1).f3), .int .i64 ((rd_T95 l1 x9_1).f4)] 95 (0, 0))) := ⟨by (with_reducible repeat (first | refine blk_drewN ?_ _ | refine blk_drew ?_ | refine blk_alloc ?_ _)); refine blk_put (cs := #[.int .i64 ((rd_T95 l1 x9_1).f0), .int .i64 ((rd_T95 l1 x9_1).f1), .int .i64 ((rd_T95 l1 x9_1).f2), .int .i64 ((rd_T95 l1 x9_1).f3), .int .i64 0]) ?_ 4 _ rfl; (with_reducible repeat (first | refine blk_drewN ?_ _ | refine blk_drew ?_ | refine blk_alloc ?_ _)); refine blk_put (cs := #[.int .i64 ((rd_T95 l1 x9_1).f0), .int .i64 ((rd_T95 l1 x9_1).f1), .int .i64 ((rd_T95 l1 x9_1).f2), .int .i64 0, .int .i64 0]) ?_ 3 _ rfl; (with_reducible repeat (first | refine blk_drewN ?_ _ | refine blk_drew ?_ | refine blk_alloc ?_ _)); refine blk_put (cs := #[.int .i64 ((rd_T95 l1 x9_1).f0), .int .i64 ((rd_T95 l1 x9_1).f1), .int .i64 0, .int .i64 0, .int .i64 0]) ?_ 2 _ rfl; (with_reducible repeat (first | refine blk_drewN ?_ _ | refine blk_drew ?_ | refine blk_alloc ?_ _)); refine blk_put (cs := #[.int .i64 ((rd_T95 l1 x9_1).f0), .int .i64 0, .int .i64 0, .int .i64 0, .int .i64 0]) ?_ 1 _ rfl; (with_reducible repeat (first | refine blk_drewN ?_ _ | refine blk_drew ?_ | refine blk_alloc ?_ _)); refine blk_put (cs := #[.int .i64 0, .int .i64 0, .int .i64 0, .int .i64 0, .int .i64 0]) ?_ 0 _ rfl; (with_reducible repeat (first | refine blk_drewN ?_ _ | refine blk_drew ?_ | refine blk_alloc ?_ _)); exact BK324.out⟩
         have n1_ : Aside0 (Below w.heap.size w (((((w19.setCell ⟨gb324, 0, none⟩ (.int .i64 ((rd_T95 l1 x9_1).f0))).setCell ⟨gb324, 1, none⟩ (.int .i64 ((rd_T95 l1 x9_1).f1))).setCell ⟨gb324, 2, none⟩ (.int .i64 ((rd_T95 l1 x9_1).f2))).setCell ⟨gb324, 3, none⟩ (.int .i64 ((rd_T95 l1 x9_1).f3))).setCell ⟨gb324, 4, none⟩ (.int .i64 ((rd_T95 l1 x9_1).f4)))) := ⟨bb HB⟩
         (try clear BK324)
         (try clear HB)
         generalize (((((w19.setCell ⟨gb324, 0, none⟩ (.int .i64 ((rd_T95 l1 x9_1).f0))).setCell ⟨gb324, 1, none⟩ (.int .i64 ((rd_T95 l1 x9_1).f1))).setCell ⟨gb324, 2, none⟩ (.int .i64 ((rd_T95 l1 x9_1).f2))).setCell ⟨gb324, 3, none⟩ (.int .i64 ((rd_T95 l1 x9_1).f3))).setCell ⟨gb324, 4, none⟩ (.int .i64 ((rd_T95 l1 x9_1).f4))) = w21 at n0_ n1_ ⊢
         have BK324 := n0_
         have HB := n1_
         clear n0_ n1_
         replace BK324 := dk (blk_drew BK324.out)
         replace HB := dk (below_drew1 HB.out)
         refine start_ (n := 15) (S := fun w' => w'.cell? ⟨gb324, 0, none⟩ = some (.int .i64 ((rd_T95 l1 x9_1).f0)) ∧ w'.cell? ⟨gb324, 1, none⟩ = some (.int .i64 ((rd_T95 l1 x9_1).f1)) ∧ w'.cell? ⟨gb324, 2, none⟩ = some (.int .i64 ((rd_T95 l1 x9_1).f2)) ∧ w'.cell? ⟨gb324, 3, none⟩ = some (.int .i64 ((rd_T95 l1 x9_1).f3)) ∧ w'.cell? ⟨gb324, 4, none⟩ = some (.int .i64 ((rd_T95 l1 x9_1).f4))) (ds := []) #[false, false, false, false, false, false, false, false, false, false, false, false, false, false, false] (by kernel_rfl) rfl rfl ⟨bc BK324 0, bc BK324 1, bc BK324 2, bc BK324 3, bc BK324 4⟩ (fun hHeld => ?_); refine with_tabW impl_SeasonOk.tab4 impl_SeasonOk.bits4 (fun HT_ HW_ => ?_)
         generalize w21.drew = w22 at BK324 HB hHeld ⊢
         refine pz_ 0 14 ?_
         refine take_ (i := 1) (N := some 15) (v := ?_) (a' := ?_) #[true, true, false, false, false, false, false, false, false, false, false, false, false, false, false] rfl rfl (take_ofW HT_.out HW_.out (by kernel_rfl)) (fun _ _ _ h => h) (Or.inl ⟨by rfl, ?_⟩) hHeld ?_ ?_
         rotate_left
         ·rintro w' ⟨s0, s1, s2, s3, s4⟩
          go_simp
          with_reducible rfl
         rotate_left
         ·simp only [Act.put, List.setIfInBounds_toArray, List.set_cons_zero, List.set_cons_succ, i64_w, i32_w]
          rfl
         refine one_ (i := 2) (N := some 16) #[true, true, true, false, false, false, false, false, false, false, false, false, false, false, false] rfl rfl (one_of HT_.out (by kernel_rfl)) (by decide) (fun K hK => ?_)
         refine goes_ Try.func164 (by kernel_rfl) rfl #[.int .i64 a0, .agg #[.int .i64 ((rd_T95 l1 x9_1).f0), .int .i64 ((rd_T95 l1 x9_1).f1), .int .i64 ((rd_T95 l1 x9_1).f2), .int .i64 ((rd_T95 l1 x9_1).f3), .int .i64 ((rd_T95 l1 x9_1).f4)]] (by rfl) rfl rfl (by (try simp only [List.map_toArray, List.map_cons, List.map_nil]); first | done | rfl | (simp only [List.length_drop, List.length_take]; rfl)) ?_
         with_reducible refine (impl_GameOk.calls k1 a0 ((rd_T95 l1 x9_1).f0) ((rd_T95 l1 x9_1).f1) ((rd_T95 l1 x9_1).f2) ((rd_T95 l1 x9_1).f3) ((rd_T95 l1 x9_1).f4) true _ A6.out).mono ?_
         rintro e w23 ⟨rfl, hb⟩
         refine ⟨_, rfl, ?_⟩
         replace BK324 := kb BK324 hb
         replace HB := hs_ HB hb
         (try clear hb hb2 hk hi)
         have q24 : (x9_1 : Int) ≤ ((l1.length : Int) : Int) := oa
         obtain ⟨i024, hi024, _, hsz24, _⟩ := info_parts info95
         have hroom24 : l1.length ≤ c1 := HC1.out
         have hC24 : Kd.C k95 _ (some ad323) l1.length l1 := HR1.out
         have hcut24 := cut_to (P := Try.prog) 34 95 .i64 Try.underlying34 hi024 (some ad323) l1.length c1 x9_1 (oa) q24 hroom24
         have hr24 := Kd.C_take (m := (x9_1 : Int).toNat) hC24 (by omega)
         have hy24 : y326.length = (x9_1 : Int).toNat := (by rw [Ny326.out, List.length_take]; omega)
         rw [← Ny326.out] at hr24
         rw [← hy24] at hcut24
         have HR329 := dk hr24
         have HC329 := dk (show y326.length ≤ c1 from by omega)
         clear hr24 hC24 hroom24 hi024 hsz24
         have KY24 := dk hy24
         clear hy24
         replace q24 := eq_true q24
         refine hK.out _ _ ⟨bc BK324 0, bc BK324 1, bc BK324 2, bc BK324 3, bc BK324 4⟩ (fun hHeld => ?_)
         clear hK K
         refine norm_ (a' := ?_) ?_ ?_
         rotate_left
         ·show Act.put _ (some 16) _ = _
          simp only [Act.put, List.setIfInBounds_toArray, List.set_cons_zero, List.set_cons_succ, i64_w, i32_w]
          rfl
         refine pz_ 3 17 ?_
         refine pz_ 4 18 ?_
         refine pz_ 5 19 ?_
         refine pz_ 6 20 ?_
         refine pz_ 7 21 ?_
         refine pz_ 8 22 ?_
         refine pz_ 10 24 ?_
         refine take_ (i := 9) (N := some 23) (v := ?_) (a' := ?_) #[true, true, true, true, true, true, true, true, true, true, true, false, false, false, false] rfl rfl (take_ofW HT_.out HW_.out (by kernel_rfl)) (fun _ _ _ h => h) (Or.inl ⟨by rfl, ?_⟩) hHeld ?_ ?_
         rotate_left
         ·rintro w' ⟨s0, s1, s2, s3, s4⟩
          go_simp
          with_reducible rfl
         rotate_left
         ·simp only [Act.put, List.setIfInBounds_toArray, List.set_cons_zero, List.set_cons_succ, i64_w, i32_w]
          rfl
         refine take_ (i := 11) (N := some 25) (v := ?_) (a' := ?_) #[true, true, true, true, true, true, true, true, true, true, true, true, false, false, false] rfl rfl (take_ofW HT_.out HW_.out (by kernel_rfl)) (fun _ _ _ h => h) (Or.inl ⟨by rfl, ?_⟩) hHeld ?_ ?_
         rotate_left
         ·rintro w' ⟨s0, s1, s2, s3, s4⟩
          go_simp
          with_reducible rfl
         rotate_left
         ·simp only [Act.put, List.setIfInBounds_toArray, List.set_cons_zero, List.set_cons_succ, i64_w, i32_w]
          rfl
         refine one_ (i := 12) (N := some 26) #[true, true, true, true, true, true, true, true, true, true, true, true, true, false, false] rfl rfl (one_of HT_.out (by kernel_rfl)) (by decide) (fun K hK => ?_)
         refine goes_ Try.func165 (by kernel_rfl) rfl #[.slice (some ad323) y326.length c1, .int .i64 ((rd_T95 l1 x9_1).f0), .int .i64 ((rd_T95 l1 x9_1).f1)] (by rfl) rfl rfl (by (try simp only [List.map_toArray, List.map_cons, List.map_nil]); first | done | rfl | (simp only [List.length_drop, List.length_take]; rfl)) ?_
         with_reducible refine (impl_GameOf.calls _ _ y326 ((rd_T95 l1 x9_1).f0) ((rd_T95 l1 x9_1).f1) t330 _ ?side1 ?side2 A10.out).mono ?_
         (case side1 => exact cc HR329 HB)
         (case side2 => exact HC329.out)
         rintro e w25 ⟨rfl, hb⟩
         refine ⟨_, rfl, ?_⟩
         replace BK324 := kb BK324 hb
         replace HB := hs_ HB hb
         (try clear hb hb2 hk hi)
         refine hK.out _ _ ⟨bc BK324 0, bc BK324 1, bc BK324 2, bc BK324 3, bc BK324 4⟩ (fun hHeld => ?_)
         clear hK K
         refine norm_ (a' := ?_) ?_ ?_
         rotate_left
         ·show Act.put _ (some 26) _ = _
          simp only [Act.put, List.setIfInBounds_toArray, List.set_cons_zero, List.set_cons_succ, i64_w, i32_w]
          rfl
         refine pz_ 13 27 ?_
         refine pz_ 14 28 ?_
         refine done_ (done_of HT_.out (by kernel_rfl)) ?_
         try go_wp2
         go_roundg k1
         case measure => have := HK1.out; omega
         case rel => exact ⟨(wrap64 (x9_1 + 1)), e2_, H', ⟨by have := HK1.out; omega⟩, ⟨bb HB⟩⟩
       ·rw [if_neg c9] at H
        exact absurd H (by simp)
      ·replace c7 := Bool.eq_false_iff.mpr c7
       subst c7
       rw [if_neg (show ¬ (false = true) by decide)] at H
       obtain rfl := Option.some.inj H
       have p323 : 0 ≤ (x9_1 : Int) := oa
       have q323 : x9_1 < (l1.length : Int) := oa
       obtain ⟨ad323, e323, hx323_0, hx323_1, hx323_2, hx323_3, hx323_4⟩ := at_T95 HR1.out x9_1 p323 q323
       cases e323
       replace hx323_0 := hc HB hx323_0
       replace hx323_1 := hc HB hx323_1
       replace hx323_2 := hc HB hx323_2
       replace hx323_3 := hc HB hx323_3
       replace hx323_4 := hc HB hx323_4
       replace p323 := eq_true p323
       replace q323 := eq_true q323
       try go_wp2_with (first | ((with_reducible refine gate_dst (N := 6) rfl ?_); refine bx (N := 6) (cs := #[.int .i64 0, .int .i64 0, .int .i64 0, .int .i64 0, .int .i64 0]) (t := 95) ?_; intro gb324 hg w26 hbox hb; have BK324 := dk (hbox); have GW324 := gs hg HB; have GE324 := gs hg HB; replace HB := hs_ HB hb; clear hb hbox hg; have ⟨z27_0, z27_1, z27_2, z27_3, z27_4, v27_0, v27_1, v27_2, v27_3, v27_4⟩ := rz5 BK324))
       have n0_ : Aside0 ((((((w26.setCell ⟨gb324, 0, none⟩ (.int .i64 ((rd_T95 l1 x9_1).f0))).setCell ⟨gb324, 1, none⟩ (.int .i64 ((rd_T95 l1 x9_1).f1))).setCell ⟨gb324, 2, none⟩ (.int .i64 ((rd_T95 l1 x9_1).f2))).setCell ⟨gb324, 3, none⟩ (.int .i64 ((rd_T95 l1 x9_1).f3))).setCell ⟨gb324, 4, none⟩ (.int .i64 ((rd_T95 l1 x9_1).f4))).heap[gb324]? = some (.cells #[.int .i64 ((rd_T95 l1 x9_1).f0), .int .i64 ((rd_T95 l1 x9_1).f1), .int .i64 ((rd_T95 l1 x9_1).f2), .int .i64 ((rd_T95 l1 x9_1).f3), .int .i64 ((rd_T95 l1 x9_1).f4)] 95 (0, 0))) := ⟨by (with_reducible repeat (first | refine blk_drewN ?_ _ | refine blk_drew ?_ | refine blk_alloc ?_ _)); refine blk_put (cs := #[.int .i64 ((rd_T95 l1 x9_1).f0), .int .i64 ((rd_T95 l1 x9_1).f1), .int .i64 ((rd_T95 l1 x9_1).f2), .int .i64 ((rd_T95 l1 x9_1).f3), .int .i64 0]) ?_ 4 _ rfl; (with_reducible repeat (first | refine blk_drewN ?_ _ | refine blk_drew ?_ | refine blk_alloc ?_ _)); refine blk_put (cs := #[.int .i64 ((rd_T95 l1 x9_1).f0), .int .i64 ((rd_T95 l1 x9_1).f1), .int .i64 ((rd_T95 l1 x9_1).f2), .int .i64 0, .int .i64 0]) ?_ 3 _ rfl; (with_reducible repeat (first | refine blk_drewN ?_ _ | refine blk_drew ?_ | refine blk_alloc ?_ _)); refine blk_put (cs := #[.int .i64 ((rd_T95 l1 x9_1).f0), .int .i64 ((rd_T95 l1 x9_1).f1), .int .i64 0, .int .i64 0, .int .i64 0]) ?_ 2 _ rfl; (with_reducible repeat (first | refine blk_drewN ?_ _ | refine blk_drew ?_ | refine blk_alloc ?_ _)); refine blk_put (cs := #[.int .i64 ((rd_T95 l1 x9_1).f0), .int .i64 0, .int .i64 0, .int .i64 0, .int .i64 0]) ?_ 1 _ rfl; (with_reducible repeat (first | refine blk_drewN ?_ _ | refine blk_drew ?_ | refine blk_alloc ?_ _)); refine blk_put (cs := #[.int .i64 0, .int .i64 0, .int .i64 0, .int .i64 0, .int .i64 0]) ?_ 0 _ rfl; (with_reducible repeat (first | refine blk_drewN ?_ _ | refine blk_drew ?_ | refine blk_alloc ?_ _)); exact BK324.out⟩
       have n1_ : Aside0 (Below w.heap.size w (((((w26.setCell ⟨gb324, 0, none⟩ (.int .i64 ((rd_T95 l1 x9_1).f0))).setCell ⟨gb324, 1, none⟩ (.int .i64 ((rd_T95 l1 x9_1).f1))).setCell ⟨gb324, 2, none⟩ (.int .i64 ((rd_T95 l1 x9_1).f2))).setCell ⟨gb324, 3, none⟩ (.int .i64 ((rd_T95 l1 x9_1).f3))).setCell ⟨gb324, 4, none⟩ (.int .i64 ((rd_T95 l1 x9_1).f4)))) := ⟨bb HB⟩
       (try clear BK324)
       (try clear HB)
       generalize (((((w26.setCell ⟨gb324, 0, none⟩ (.int .i64 ((rd_T95 l1 x9_1).f0))).setCell ⟨gb324, 1, none⟩ (.int .i64 ((rd_T95 l1 x9_1).f1))).setCell ⟨gb324, 2, none⟩ (.int .i64 ((rd_T95 l1 x9_1).f2))).setCell ⟨gb324, 3, none⟩ (.int .i64 ((rd_T95 l1 x9_1).f3))).setCell ⟨gb324, 4, none⟩ (.int .i64 ((rd_T95 l1 x9_1).f4))) = w28 at n0_ n1_ ⊢
       have BK324 := n0_
       have HB := n1_
       clear n0_ n1_
       replace BK324 := dk (blk_drew BK324.out)
       replace HB := dk (below_drew1 HB.out)
       refine start_ (n := 15) (S := fun w' => w'.cell? ⟨gb324, 0, none⟩ = some (.int .i64 ((rd_T95 l1 x9_1).f0)) ∧ w'.cell? ⟨gb324, 1, none⟩ = some (.int .i64 ((rd_T95 l1 x9_1).f1)) ∧ w'.cell? ⟨gb324, 2, none⟩ = some (.int .i64 ((rd_T95 l1 x9_1).f2)) ∧ w'.cell? ⟨gb324, 3, none⟩ = some (.int .i64 ((rd_T95 l1 x9_1).f3)) ∧ w'.cell? ⟨gb324, 4, none⟩ = some (.int .i64 ((rd_T95 l1 x9_1).f4))) (ds := []) #[false, false, false, false, false, false, false, false, false, false, false, false, false, false, false] (by kernel_rfl) rfl rfl ⟨bc BK324 0, bc BK324 1, bc BK324 2, bc BK324 3, bc BK324 4⟩ (fun hHeld => ?_); refine with_tabW impl_SeasonOk.tab4 impl_SeasonOk.bits4 (fun HT_ HW_ => ?_)
       generalize w28.drew = w29 at BK324 HB hHeld ⊢
       refine pz_ 0 14 ?_
       refine take_ (i := 1) (N := some 15) (v := ?_) (a' := ?_) #[true, true, false, false, false, false, false, false, false, false, false, false, false, false, false] rfl rfl (take_ofW HT_.out HW_.out (by kernel_rfl)) (fun _ _ _ h => h) (Or.inl ⟨by rfl, ?_⟩) hHeld ?_ ?_
       rotate_left
       ·rintro w' ⟨s0, s1, s2, s3, s4⟩
        go_simp
        with_reducible rfl
       rotate_left
       ·simp only [Act.put, List.setIfInBounds_toArray, List.set_cons_zero, List.set_cons_succ, i64_w, i32_w]
        rfl
       refine one_ (i := 2) (N := some 16) #[true, true, true, false, false, false, false, false, false, false, false, false, false, false, false] rfl rfl (one_of HT_.out (by kernel_rfl)) (by decide) (fun K hK => ?_)
       refine goes_ Try.func164 (by kernel_rfl) rfl #[.int .i64 a0, .agg #[.int .i64 ((rd_T95 l1 x9_1).f0), .int .i64 ((rd_T95 l1 x9_1).f1), .int .i64 ((rd_T95 l1 x9_1).f2), .int .i64 ((rd_T95 l1 x9_1).f3), .int .i64 ((rd_T95 l1 x9_1).f4)]] (by rfl) rfl rfl (by (try simp only [List.map_toArray, List.map_cons, List.map_nil]); first | done | rfl | (simp only [List.length_drop, List.length_take]; rfl)) ?_
       with_reducible refine (impl_GameOk.calls k1 a0 ((rd_T95 l1 x9_1).f0) ((rd_T95 l1 x9_1).f1) ((rd_T95 l1 x9_1).f2) ((rd_T95 l1 x9_1).f3) ((rd_T95 l1 x9_1).f4) false _ A6.out).mono ?_
       rintro e w30 ⟨rfl, hb⟩
       refine ⟨_, rfl, ?_⟩
       replace BK324 := kb BK324 hb
       replace HB := hs_ HB hb
       (try clear hb hb2 hk hi)
       refine hK.out _ _ ⟨bc BK324 0, bc BK324 1, bc BK324 2, bc BK324 3, bc BK324 4⟩ (fun hHeld => ?_)
       clear hK K
       refine norm_ (a' := ?_) ?_ ?_
       rotate_left
       ·show Act.put _ (some 16) _ = _
        simp only [Act.put, List.setIfInBounds_toArray, List.set_cons_zero, List.set_cons_succ, i64_w, i32_w]
        rfl
       refine pz_ 3 17 ?_
       refine pz_ 4 18 ?_
       refine pu_ 5 19 ?_
       refine pu_ 6 20 ?_
       refine pu_ 7 21 ?_
       refine pu_ 8 22 ?_
       refine pu_ 9 23 ?_
       refine pu_ 10 24 ?_
       refine pu_ 11 25 ?_
       refine pu_ 12 26 ?_
       refine pu_ 13 27 ?_
       refine pz_ 14 28 ?_
       refine done_ (done_of HT_.out (by kernel_rfl)) ?_
       try go_wp2
       go_ret
       exact ⟨ee, bb HB⟩
     ·rw [if_neg c5] at H
      exact absurd H (by simp)
    ·rw [if_neg c4] at H
     exact absurd H (by simp)
   ·rw [if_neg c3] at H
    have c3b0 : decide (x9_1 < (l1.length : Int)) = false := decide_eq_false c3
    clear c3
    obtain rfl := Option.some.inj H
    go_wp2
    go_ret
    exact ⟨ee, bb HB⟩
set_option maxHeartbeats 4000000 in
theorem slices_IndexFunc_int_int.calls (g : Nat) (lb : Array Value) (eg : ∀ args w, (callFunc g args).run Try.prog w = .ok (.enter g args) w) (p : Int → Bool) (A0 : Option Addr) (c0 n0 : Nat) (l0 : List (Int)) (w0 w : World) (hB : Below w0.heap.size w0 w) (hr0 : Kd.C (Kd.int .i64) w0 A0 n0 l0)
    (hp : ∀ (W : World) (x : Int), Below w.heap.size w W → x ∈ l0 → Calls Try.prog g (#[.int .i64 x] ++ lb) W fun e w' => e = .returned (.bool (p x)) ∧ Below W.heap.size W w') :
    Calls Try.prog 167 #[.slice A0 n0 c0, .func (.func g) #[] lb] w fun e w' => e = .returned (.int .i64 (idxI p l0)) ∧ Below w.heap.size w w' := by
  obtain rfl := Kd.C_len hr0
  have hm : l0.length ≤ 9223372036854775807 := hr0.2.1
  have HR0 := dk hr0
  have HP := dk hp
  have HW := dk hB.size
  have HB0 := dk hB
  clear hr0 hp hB
  go_enter Try.func167, Try.ntmps167
  go_wp2
  go_loopg [5, 8] l0.length (fun gg _ s8 wr => ∃ kk : Nat, kk ≤ l0.length ∧ l0.length - kk ≤ gg ∧ s8 = .int .i64 kk ∧ Aside0 (Below w.heap.size w wr) ∧ Aside0 (∀ j, j < kk → p (rd l0 j) = false))
  case atStart => exact ⟨0, Nat.zero_le _, by omega, rfl, ⟨Below.refl _ w⟩, ⟨fun j hj => absurd hj (Nat.not_lt_zero _)⟩⟩
  case round =>
    obtain ⟨kk, hkk, hg, rfl, BW, HA⟩ := hrel
    by_cases hlt : kk < l0.length
    · have hltz : (kk : Int) < (l0.length : Int) := by omega
      obtain ⟨ad, ead, h0⟩ := Kd.at_int HR0.out kk (by omega) hltz
      subst ead
      have hb1 : Below w0.heap.size w0 wr := below_then HB0.out HW.out BW.out
      have hcall := HP.out wr (rd l0 kk) BW.out (by unfold rd; simp [hlt])
      replace h0 := pw_cell_below hb1 h0
      simp only [Int.toNat_natCast] at h0
      have HB1 := dk hb1
      clear hb1
      generalize hy : rd l0 kk = y at h0 hcall
      have B := dk hy
      clear hy
      cases hq : p y with
      | true =>
        rw [hq] at hcall
        have Q := dk hq
        have HC := dk hcall
        clear hq hcall
        go_wp2_with fail
        refine HC.out.mono ?_
        rintro e w' ⟨rfl, hb'⟩
        go_wp2_with fail
        go_ret
        refine ⟨?_, below_step BW.out hb'⟩
        rw [idxI_hit p l0 kk hlt 0 (by have := B.out; unfold rd at this; simp only [Int.toNat_natCast] at this; rw [this]; exact Q.out) (fun j hj => by have := HA.out j hj; unfold rd at this; simpa using this)]
        rfl
      | false =>
        rw [hq] at hcall
        have Q := dk hq
        have HC := dk hcall
        clear hq hcall
        go_wp2_with fail
        refine HC.out.mono ?_
        rintro e w' ⟨rfl, hb'⟩
        go_wp2_with fail
        go_roundg (l0.length - (kk + 1))
        case measure => omega
        case rel =>
          refine ⟨kk + 1, by omega, by omega, by go_num, ⟨below_step BW.out hb'⟩, ⟨fun j hj => ?_⟩⟩
          by_cases e : j = kk
          · subst e
            rw [B.out]; exact Q.out
          · exact HA.out j (by omega)
    · have hltz : ¬ (kk : Int) < (l0.length : Int) := by omega
      have hd : decide ((kk : Int) < (l0.length : Int)) = false := by simp; omega
      have hd2 : decide (kk < l0.length) = false := by simp; omega
      have hk := dk (show kk = l0.length by omega)
      clear hlt hltz hg
      go_wp2_with fail
      go_ret
      obtain rfl := hk.out
      refine ⟨?_, BW.out⟩
      rw [idxI_miss p l0 0 (fun j hj => by have := HA.out j hj; unfold rd at this; simpa using this)]
      rfl
set_option maxHeartbeats 4000000 in
theorem slices_ContainsFunc_int_int.calls (g : Nat) (lb : Array Value) (eg : ∀ args w, (callFunc g args).run Try.prog w = .ok (.enter g args) w) (p : Int → Bool) (A0 : Option Addr) (c0 n0 : Nat) (l0 : List (Int)) (w0 w : World) (hB : Below w0.heap.size w0 w) (hr0 : Kd.C (Kd.int .i64) w0 A0 n0 l0)
    (hp : ∀ (W : World) (x : Int), Below w.heap.size w W → x ∈ l0 → Calls Try.prog g (#[.int .i64 x] ++ lb) W fun e w' => e = .returned (.bool (p x)) ∧ Below W.heap.size W w') :
    Calls Try.prog 141 #[.slice A0 n0 c0, .func (.func g) #[] lb] w fun e w' => e = .returned (.bool (l0.any p)) ∧ Below w.heap.size w w' := by
  rw [← idxI_any p l0]
  have HC := dk (slices_IndexFunc_int_int.calls g lb eg p A0 c0 n0 l0 w0 w hB hr0 hp)
  clear hr0 hp hB eg
  generalize hy : idxI p l0 = y at HC
  have HY := dk hy
  clear hy
  go_enter Try.func141, Try.ntmps141
  go_wp2_with fail
  refine HC.out.mono ?_
  rintro e w' ⟨rfl, hb'⟩
  go_wp2_with fail
  go_ret
  exact ⟨rfl, hb'⟩
def impl_arePenalties.f (l0 : List Int) (a1 : Int) : Option Bool := some (decide ((l0.length : Int) = a1) && !l0.any (fun x => !withinB x 0 1000))
set_option maxHeartbeats 4000000 in
theorem impl_arePenalties_1.calls (x : Int) (W : World) : Calls Try.prog 166 #[.int .i64 x] W fun e w' => e = .returned (.bool (!withinB x 0 1000)) ∧ Below W.heap.size W w' := by
  have HW := dk (within_eq x 0 1000)
  generalize withinB x 0 1000 = b at HW
  go_enter Try.func166, Try.ntmps166
  go_wp2_with fail
  refine (impl_within.calls _ _ _ _ _ HW.out).mono ?_
  rintro e w' ⟨rfl, ⟨nd, rfl⟩⟩
  go_wp2_with fail
  go_ret
  exact ⟨rfl, pw_below_drewN (Below.refl _ _) _⟩
set_option maxHeartbeats 4000000 in
theorem impl_arePenalties.calls (A0 : Option Addr) (c0 : Nat) (l0 : List Int) (a1 : Int) (r : Bool) (w : World) (hr0 : Kd.C (Kd.int .i64) w A0 l0.length l0) (hc0 : l0.length ≤ c0) (h : impl_arePenalties.f l0 a1 = some r) :
    Calls Try.prog 125 #[.slice A0 l0.length c0, .int .i64 a1] w fun e w' => e = .returned (.bool r) ∧ Below w.heap.size w w' := by
  have HR := dk (Option.some.inj h)
  have HR0 := dk hr0
  clear h hr0 hc0
  have eg := my_enters Try.func166 (by kernel_rfl) rfl
  have HG := dk eg
  clear eg
  by_cases hn : (l0.length : Int) = a1
  · have hb : ((l0.length : Int) == a1) = true := by simpa using hn
    have HN := dk hn
    clear hn
    go_enter Try.func125, Try.ntmps125
    go_wp2_with fail
    refine ((slices_ContainsFunc_int_int.calls 166 #[] HG.out (fun x => !withinB x 0 1000) A0 c0 l0.length l0 w _ (Below.refl _ _) HR0.out (fun W x hW _ => impl_arePenalties_1.calls x W)).mono ?_)
    rintro e w2 ⟨rfl, hb2⟩
    have HB2 := dk hb2
    clear hb2
    generalize hi : l0.any (fun x => !withinB x 0 1000) = i at HR
    have HI := dk hi
    clear hi
    go_wp2_with fail
    go_ret
    exact ⟨by rw [← HR.out, decide_eq_true HN.out]; rfl, HB2.out⟩
  · have hb : ((l0.length : Int) == a1) = false := by simpa using hn
    have HN := dk hn
    clear hn
    go_enter Try.func125, Try.ntmps125
    go_wp2_with fail
    go_ret
    exact ⟨by rw [← HR.out, decide_eq_false HN.out]; rfl, Below.refl _ _⟩
def impl_BookOk.f (k : Nat) (l0_0 : List (S139)) (a0_1 : Int) (a0_2 : Int) (a0_3 : Int) (l0_4 : List Int) (a0_5 : Bool) (l0_6 : List (S95)) (l0_7 : List Int) (l0_8 : List Int) : Option (Bool) := (impl_FieldOk.f l0_0).bind fun t332 => (if t332 = true then ((impl_RulesOk.f k a0_1 a0_2 a0_3 l0_4 a0_5).bind fun t333 => (if t333 = true then ((impl_SeasonOk.f k (l0_0.length : Int) l0_6).bind fun t334 => (if t334 = true then ((impl_arePenalties.f l0_7 (l0_0.length : Int)).bind fun t335 => (if t335 = true then ((impl_arePenalties.f l0_8 (l0_0.length : Int)).bind fun t336 => (some t336)) else (some false))) else (some false))) else (some false))) else (some false))
theorem impl_BookOk.calls (k : Nat) (A0_0 : Option Addr) (c0_0 : Nat) (l0_0 : List (S139)) (a0_1 : Int) (a0_2 : Int) (a0_3 : Int) (A0_4 : Option Addr) (c0_4 : Nat) (l0_4 : List Int) (a0_5 : Bool) (A0_6 : Option Addr) (c0_6 : Nat) (l0_6 : List (S95)) (A0_7 : Option Addr) (c0_7 : Nat) (l0_7 : List Int) (A0_8 : Option Addr) (c0_8 : Nat) (l0_8 : List Int) (r : Bool) (w : World) (hr0_0 : Kd.C k139 w A0_0 l0_0.length l0_0) (hc0_0 : l0_0.length ≤ c0_0) (hr0_4 : Kd.C (Kd.int .i64) w A0_4 l0_4.length l0_4) (hc0_4 : l0_4.length ≤ c0_4) (hr0_6 : Kd.C k95 w A0_6 l0_6.length l0_6) (hc0_6 : l0_6.length ≤ c0_6) (hr0_7 : Kd.C (Kd.int .i64) w A0_7 l0_7.length l0_7) (hc0_7 : l0_7.length ≤ c0_7) (hr0_8 : Kd.C (Kd.int .i64) w A0_8 l0_8.length l0_8) (hc0_8 : l0_8.length ≤ c0_8) (h : impl_BookOk.f k l0_0 a0_1 a0_2 a0_3 l0_4 a0_5 l0_6 l0_7 l0_8 = some r) :
  Calls Try.prog 61 #[.agg #[.slice A0_0 l0_0.length c0_0, .int .i64 a0_1, .int .i64 a0_2, .int .i64 a0_3, .slice A0_4 l0_4.length c0_4, .bool a0_5, .slice A0_6 l0_6.length c0_6, .slice A0_7 l0_7.length c0_7, .slice A0_8 l0_8.length c0_8]] w fun e w' => e = .returned (.bool r) ∧ Below w.heap.size w w' := by
 have hu36 := Try.underlying36
 have hu33 := Try.underlying33
 have HR0_0 := dk hr0_0
 have HC0_0 := dk hc0_0
 clear hr0_0 hc0_0
 have HR0_4 := dk hr0_4
 have HC0_4 := dk hc0_4
 clear hr0_4 hc0_4
 have HR0_6 := dk hr0_6
 have HC0_6 := dk hc0_6
 clear hr0_6 hc0_6
 have HR0_7 := dk hr0_7
 have HC0_7 := dk hc0_7
 clear hr0_7 hc0_7
 have HR0_8 := dk hr0_8
 have HC0_8 := dk hc0_8
 clear hr0_8 hc0_8
 have HB := dk (Below.refl w.heap.size w)
 have H : ((impl_FieldOk.f l0_0).bind fun t332 => (if t332 = true then ((impl_RulesOk.f k a0_1 a0_2 a0_3 l0_4 a0_5).bind fun t333 => (if t333 = true then ((impl_SeasonOk.f k (l0_0.length : Int) l0_6).bind fun t334 => (if t334 = true then ((impl_arePenalties.f l0_7 (l0_0.length : Int)).bind fun t335 => (if t335 = true then ((impl_arePenalties.f l0_8 (l0_0.length : Int)).bind fun t336 => (some t336)) else (some false))) else (some false))) else (some false))) else (some false))) = some r := h
 clear h
 replace H := Option.bind_eq_some_iff.mp H
 obtain ⟨t332, A20, H⟩ := H
 try dsimp only at H
 have A2 := dk A20
 clear A20
 by_cases c3 : t332 = true
 ·subst c3
  rw [if_pos rfl] at H
  replace H := Option.bind_eq_some_iff.mp H
  obtain ⟨t333, A40, H⟩ := H
  try dsimp only at H
  have A4 := dk A40
  clear A40
  by_cases c5 : t333 = true
  ·subst c5
   rw [if_pos rfl] at H
   replace H := Option.bind_eq_some_iff.mp H
   obtain ⟨t334, A60, H⟩ := H
   try dsimp only at H
   have A6 := dk A60
   clear A60
   by_cases c7 : t334 = true
   ·subst c7
    rw [if_pos rfl] at H
    replace H := Option.bind_eq_some_iff.mp H
    obtain ⟨t335, A80, H⟩ := H
    try dsimp only at H
    have A8 := dk A80
    clear A80
    by_cases c9 : t335 = true
    ·subst c9
     rw [if_pos rfl] at H
     replace H := Option.bind_eq_some_iff.mp H
     obtain ⟨t336, A100, H⟩ := H
     try dsimp only at H
     have A10 := dk A100
     clear A100
     obtain rfl := Option.some.inj H
     go_enter Try.func61, Try.ntmps61
     go_wp2_with (first | ((with_reducible refine gate_dst (N := 1) rfl ?_); refine bx (N := 1) (cs := #[.slice A0_0 l0_0.length c0_0, .int .i64 a0_1, .int .i64 a0_2, .int .i64 a0_3, .slice A0_4 l0_4.length c0_4, .bool a0_5, .slice A0_6 l0_6.length c0_6, .slice A0_7 l0_7.length c0_7, .slice A0_8 l0_8.length c0_8]) (t := 36) ?_; intro gb331 hg w11 hbox hb; have BK331 := dk (hbox); have GW331 := gs hg HB; have GE331 := gs hg HB; replace HB := hs_ HB hb; clear hb hbox hg; have ⟨z12_0, z12_1, z12_2, z12_3, z12_4, z12_5, z12_6, z12_7, z12_8, v12_0, v12_1, v12_2, v12_3, v12_4, v12_5, v12_6, v12_7, v12_8⟩ := rz9 BK331) | ((with_reducible refine gate_callee (f := 122) rfl ?_); refine gl (some 9) Try.func122 #[.slice A0_0 l0_0.length c0_0] ?_; (with_reducible refine (impl_FieldOk.calls _ _ l0_0 true _ ?side1 ?side2 A2.out).mono ?_); (case side1 => exact cc HR0_0 HB); (case side2 => exact HC0_0.out); rintro e w13 ⟨rfl, hb⟩; refine ⟨_, rfl, ?_⟩; replace BK331 := kb BK331 hb; replace HB := hs_ HB hb; (try clear hb hb2 hk hi); have ⟨z14_0, z14_1, z14_2, z14_3, z14_4, z14_5, z14_6, z14_7, z14_8, v14_0, v14_1, v14_2, v14_3, v14_4, v14_5, v14_6, v14_7, v14_8⟩ := rz9 BK331) | (go_at_call 123; (with_reducible refine (impl_RulesOk.calls k a0_1 a0_2 a0_3 _ _ l0_4 a0_5 true _ ?side1 ?side2 A4.out).mono ?_); (case side1 => exact cc HR0_4 HB); (case side2 => exact HC0_4.out); rintro e w15 ⟨rfl, hb⟩; replace BK331 := kb BK331 hb; replace HB := hs_ HB hb; (try clear hb hb2 hk hi); have ⟨z16_0, z16_1, z16_2, z16_3, z16_4, z16_5, z16_6, z16_7, z16_8, v16_0, v16_1, v16_2, v16_3, v16_4, v16_5, v16_6, v16_7, v16_8⟩ := rz9 BK331) | (go_at_call 124; (with_reducible refine (impl_SeasonOk.calls k (l0_0.length : Int) _ _ l0_6 true _ ?side1 ?side2 A6.out).mono ?_); (case side1 => exact cc HR0_6 HB); (case side2 => exact HC0_6.out); rintro e w17 ⟨rfl, hb⟩; replace BK331 := kb BK331 hb; replace HB := hs_ HB hb; (try clear hb hb2 hk hi); have ⟨z18_0, z18_1, z18_2, z18_3, z18_4, z18_5, z18_6, z18_7, z18_8, v18_0, v18_1, v18_2, v18_3, v18_4, v18_5, v18_6, v18_7, v18_8⟩ := rz9 BK331) | (go_at_call 125; (with_reducible refine (impl_arePenalties.calls _ _ l0_7 (l0_0.length : Int) true _ ?side1 ?side2 A8.out).mono ?_); (case side1 => exact cc HR0_7 HB); (case side2 => exact HC0_7.out); rintro e w19 ⟨rfl, hb⟩; replace BK331 := kb BK331 hb; replace HB := hs_ HB hb; (try clear hb hb2 hk hi); have ⟨z20_0, z20_1, z20_2, z20_3, z20_4, z20_5, z20_6, z20_7, z20_8, v20_0, v20_1, v20_2, v20_3, v20_4, v20_5, v20_6, v20_7, v20_8⟩ := rz9 BK331) | (go_at_call 125; (with_reducible refine (impl_arePenalties.calls _ _ l0_8 (l0_0.length : Int) t336 _ ?side1 ?side2 A10.out).mono ?_); (case side1 => exact cc HR0_8 HB); (case side2 => exact HC0_8.out); rintro e w21 ⟨rfl, hb⟩; replace BK331 := kb BK331 hb; replace HB := hs_ HB hb; (try clear hb hb2 hk hi)))
     go_ret
     exact ⟨ee, bb HB⟩
    ·replace c9 := Bool.eq_false_iff.mpr c9
     subst c9
     rw [if_neg (show ¬ (false = true) by decide)] at H
     obtain rfl := Option.some.inj H
     go_enter Try.func61, Try.ntmps61
     go_wp2_with (first | ((with_reducible refine gate_dst (N := 1) rfl ?_); refine bx (N := 1) (cs := #[.slice A0_0 l0_0.length c0_0, .int .i64 a0_1, .int .i64 a0_2, .int .i64 a0_3, .slice A0_4 l0_4.length c0_4, .bool a0_5, .slice A0_6 l0_6.length c0_6, .slice A0_7 l0_7.length c0_7, .slice A0_8 l0_8.length c0_8]) (t := 36) ?_; intro gb331 hg w22 hbox hb; have BK331 := dk (hbox); have GW331 := gs hg HB; have GE331 := gs hg HB; replace HB := hs_ HB hb; clear hb hbox hg; have ⟨z23_0, z23_1, z23_2, z23_3, z23_4, z23_5, z23_6, z23_7, z23_8, v23_0, v23_1, v23_2, v23_3, v23_4, v23_5, v23_6, v23_7, v23_8⟩ := rz9 BK331) | ((with_reducible refine gate_callee (f := 122) rfl ?_); refine gl (some 9) Try.func122 #[.slice A0_0 l0_0.length c0_0] ?_; (with_reducible refine (impl_FieldOk.calls _ _ l0_0 true _ ?side1 ?side2 A2.out).mono ?_); (case side1 => exact cc HR0_0 HB); (case side2 => exact HC0_0.out); rintro e w24 ⟨rfl, hb⟩; refine ⟨_, rfl, ?_⟩; replace BK331 := kb BK331 hb; replace HB := hs_ HB hb; (try clear hb hb2 hk hi); have ⟨z25_0, z25_1, z25_2, z25_3, z25_4, z25_5, z25_6, z25_7, z25_8, v25_0, v25_1, v25_2, v25_3, v25_4, v25_5, v25_6, v25_7, v25_8⟩ := rz9 BK331) | (go_at_call 123; (with_reducible refine (impl_RulesOk.calls k a0_1 a0_2 a0_3 _ _ l0_4 a0_5 true _ ?side1 ?side2 A4.out).mono ?_); (case side1 => exact cc HR0_4 HB); (case side2 => exact HC0_4.out); rintro e w26 ⟨rfl, hb⟩; replace BK331 := kb BK331 hb; replace HB := hs_ HB hb; (try clear hb hb2 hk hi); have ⟨z27_0, z27_1, z27_2, z27_3, z27_4, z27_5, z27_6, z27_7, z27_8, v27_0, v27_1, v27_2, v27_3, v27_4, v27_5, v27_6, v27_7, v27_8⟩ := rz9 BK331) | (go_at_call 124; (with_reducible refine (impl_SeasonOk.calls k (l0_0.length : Int) _ _ l0_6 true _ ?side1 ?side2 A6.out).mono ?_); (case side1 => exact cc HR0_6 HB); (case side2 => exact HC0_6.out); rintro e w28 ⟨rfl, hb⟩; replace BK331 := kb BK331 hb; replace HB := hs_ HB hb; (try clear hb hb2 hk hi); have ⟨z29_0, z29_1, z29_2, z29_3, z29_4, z29_5, z29_6, z29_7, z29_8, v29_0, v29_1, v29_2, v29_3, v29_4, v29_5, v29_6, v29_7, v29_8⟩ := rz9 BK331) | (go_at_call 125; (with_reducible refine (impl_arePenalties.calls _ _ l0_7 (l0_0.length : Int) false _ ?side1 ?side2 A8.out).mono ?_); (case side1 => exact cc HR0_7 HB); (case side2 => exact HC0_7.out); rintro e w30 ⟨rfl, hb⟩; replace BK331 := kb BK331 hb; replace HB := hs_ HB hb; (try clear hb hb2 hk hi)))
     go_ret
     exact ⟨ee, bb HB⟩
   ·replace c7 := Bool.eq_false_iff.mpr c7
    subst c7
    rw [if_neg (show ¬ (false = true) by decide)] at H
    obtain rfl := Option.some.inj H
    go_enter Try.func61, Try.ntmps61
    go_wp2_with (first | ((with_reducible refine gate_dst (N := 1) rfl ?_); refine bx (N := 1) (cs := #[.slice A0_0 l0_0.length c0_0, .int .i64 a0_1, .int .i64 a0_2, .int .i64 a0_3, .slice A0_4 l0_4.length c0_4, .bool a0_5, .slice A0_6 l0_6.length c0_6, .slice A0_7 l0_7.length c0_7, .slice A0_8 l0_8.length c0_8]) (t := 36) ?_; intro gb331 hg w31 hbox hb; have BK331 := dk (hbox); have GW331 := gs hg HB; have GE331 := gs hg HB; replace HB := hs_ HB hb; clear hb hbox hg; have ⟨z32_0, z32_1, z32_2, z32_3, z32_4, z32_5, z32_6, z32_7, z32_8, v32_0, v32_1, v32_2, v32_3, v32_4, v32_5, v32_6, v32_7, v32_8⟩ := rz9 BK331) | ((with_reducible refine gate_callee (f := 122) rfl ?_); refine gl (some 9) Try.func122 #[.slice A0_0 l0_0.length c0_0] ?_; (with_reducible refine (impl_FieldOk.calls _ _ l0_0 true _ ?side1 ?side2 A2.out).mono ?_); (case side1 => exact cc HR0_0 HB); (case side2 => exact HC0_0.out); rintro e w33 ⟨rfl, hb⟩; refine ⟨_, rfl, ?_⟩; replace BK331 := kb BK331 hb; replace HB := hs_ HB hb; (try clear hb hb2 hk hi); have ⟨z34_0, z34_1, z34_2, z34_3, z34_4, z34_5, z34_6, z34_7, z34_8, v34_0, v34_1, v34_2, v34_3, v34_4, v34_5, v34_6, v34_7, v34_8⟩ := rz9 BK331) | (go_at_call 123; (with_reducible refine (impl_RulesOk.calls k a0_1 a0_2 a0_3 _ _ l0_4 a0_5 true _ ?side1 ?side2 A4.out).mono ?_); (case side1 => exact cc HR0_4 HB); (case side2 => exact HC0_4.out); rintro e w35 ⟨rfl, hb⟩; replace BK331 := kb BK331 hb; replace HB := hs_ HB hb; (try clear hb hb2 hk hi); have ⟨z36_0, z36_1, z36_2, z36_3, z36_4, z36_5, z36_6, z36_7, z36_8, v36_0, v36_1, v36_2, v36_3, v36_4, v36_5, v36_6, v36_7, v36_8⟩ := rz9 BK331) | (go_at_call 124; (with_reducible refine (impl_SeasonOk.calls k (l0_0.length : Int) _ _ l0_6 false _ ?side1 ?side2 A6.out).mono ?_); (case side1 => exact cc HR0_6 HB); (case side2 => exact HC0_6.out); rintro e w37 ⟨rfl, hb⟩; replace BK331 := kb BK331 hb; replace HB := hs_ HB hb; (try clear hb hb2 hk hi)))
    go_ret
    exact ⟨ee, bb HB⟩
  ·replace c5 := Bool.eq_false_iff.mpr c5
   subst c5
   rw [if_neg (show ¬ (false = true) by decide)] at H
   obtain rfl := Option.some.inj H
   go_enter Try.func61, Try.ntmps61
   go_wp2_with (first | ((with_reducible refine gate_dst (N := 1) rfl ?_); refine bx (N := 1) (cs := #[.slice A0_0 l0_0.length c0_0, .int .i64 a0_1, .int .i64 a0_2, .int .i64 a0_3, .slice A0_4 l0_4.length c0_4, .bool a0_5, .slice A0_6 l0_6.length c0_6, .slice A0_7 l0_7.length c0_7, .slice A0_8 l0_8.length c0_8]) (t := 36) ?_; intro gb331 hg w38 hbox hb; have BK331 := dk (hbox); have GW331 := gs hg HB; have GE331 := gs hg HB; replace HB := hs_ HB hb; clear hb hbox hg; have ⟨z39_0, z39_1, z39_2, z39_3, z39_4, z39_5, z39_6, z39_7, z39_8, v39_0, v39_1, v39_2, v39_3, v39_4, v39_5, v39_6, v39_7, v39_8⟩ := rz9 BK331) | ((with_reducible refine gate_callee (f := 122) rfl ?_); refine gl (some 9) Try.func122 #[.slice A0_0 l0_0.length c0_0] ?_; (with_reducible refine (impl_FieldOk.calls _ _ l0_0 true _ ?side1 ?side2 A2.out).mono ?_); (case side1 => exact cc HR0_0 HB); (case side2 => exact HC0_0.out); rintro e w40 ⟨rfl, hb⟩; refine ⟨_, rfl, ?_⟩; replace BK331 := kb BK331 hb; replace HB := hs_ HB hb; (try clear hb hb2 hk hi); have ⟨z41_0, z41_1, z41_2, z41_3, z41_4, z41_5, z41_6, z41_7, z41_8, v41_0, v41_1, v41_2, v41_3, v41_4, v41_5, v41_6, v41_7, v41_8⟩ := rz9 BK331) | (go_at_call 123; (with_reducible refine (impl_RulesOk.calls k a0_1 a0_2 a0_3 _ _ l0_4 a0_5 false _ ?side1 ?side2 A4.out).mono ?_); (case side1 => exact cc HR0_4 HB); (case side2 => exact HC0_4.out); rintro e w42 ⟨rfl, hb⟩; replace BK331 := kb BK331 hb; replace HB := hs_ HB hb; (try clear hb hb2 hk hi)))
   go_ret
   exact ⟨ee, bb HB⟩
 ·replace c3 := Bool.eq_false_iff.mpr c3
  subst c3
  rw [if_neg (show ¬ (false = true) by decide)] at H
  obtain rfl := Option.some.inj H
  go_enter Try.func61, Try.ntmps61
  go_wp2_with (first | ((with_reducible refine gate_dst (N := 1) rfl ?_); refine bx (N := 1) (cs := #[.slice A0_0 l0_0.length c0_0, .int .i64 a0_1, .int .i64 a0_2, .int .i64 a0_3, .slice A0_4 l0_4.length c0_4, .bool a0_5, .slice A0_6 l0_6.length c0_6, .slice A0_7 l0_7.length c0_7, .slice A0_8 l0_8.length c0_8]) (t := 36) ?_; intro gb331 hg w43 hbox hb; have BK331 := dk (hbox); have GW331 := gs hg HB; have GE331 := gs hg HB; replace HB := hs_ HB hb; clear hb hbox hg; have ⟨z44_0, z44_1, z44_2, z44_3, z44_4, z44_5, z44_6, z44_7, z44_8, v44_0, v44_1, v44_2, v44_3, v44_4, v44_5, v44_6, v44_7, v44_8⟩ := rz9 BK331) | ((with_reducible refine gate_callee (f := 122) rfl ?_); refine gl (some 9) Try.func122 #[.slice A0_0 l0_0.length c0_0] ?_; (with_reducible refine (impl_FieldOk.calls _ _ l0_0 false _ ?side1 ?side2 A2.out).mono ?_); (case side1 => exact cc HR0_0 HB); (case side2 => exact HC0_0.out); rintro e w45 ⟨rfl, hb⟩; refine ⟨_, rfl, ?_⟩; replace BK331 := kb BK331 hb; replace HB := hs_ HB hb; (try clear hb hb2 hk hi)))
  go_ret
  exact ⟨ee, bb HB⟩
def slices_Clone_int_int.f (l0 : List Int) : Option (List Int) := (some (([] : List Int) : List Int)).bind fun y337 => (if y337.length + l0.length < 17592186044416 then (some (y337 ++ l0)) else (none))
theorem slices_Clone_int_int.calls_some (ad0 : Addr) (c0 : Nat) (l0 : List Int) (r : List Int) (w : World) (hr0 : Kd.C (Kd.int .i64) w (some ad0) l0.length l0) (hc0 : l0.length ≤ c0) (h : slices_Clone_int_int.f l0 = some r) :
  Calls Try.prog 102 #[.slice (some ad0) l0.length c0] w fun e w' => ∃ v0_ : Value, e = .returned (v0_) ∧ Kd.R (Kd.int .i64) 3 w' w.heap.size (fun _ => True) v0_ r ∧ Below w.heap.size w w' := by
 have hnil_ := fun (w : World) => Lib.run_eql_slice_nil (P := Try.prog) w 23 3 (some ad0) l0.length c0 0 0 Try.underlying23
 have HR0 := dk hr0
 have HC0 := dk hc0
 clear hr0 hc0
 have HB := dk (Below.refl w.heap.size w)
 have H : ((some (([] : List Int) : List Int)).bind fun y337 => (if y337.length + l0.length < 17592186044416 then (some (y337 ++ l0)) else (none))) = some r := h
 clear h
 obtain ⟨y337, hy337⟩ : ∃ y_ : List Int, y_ = (([] : List Int)) := ⟨_, rfl⟩
 replace H : (if y337.length + l0.length < 17592186044416 then (some (y337 ++ l0)) else (none)) = some r := by first | (rw [hy337]; with_reducible exact H) | (have H2_ := (Option.bind_some _ _).symm.trans H; rw [hy337]; with_reducible exact H2_) | (have H2_ := (Option.bind_some _ _).symm.trans H; with_reducible exact H2_) | with_reducible exact H | (rw [hy337]; exact H) | exact H
 have Ny337 := dk hy337
 clear hy337
 by_cases c2 : y337.length + l0.length < 17592186044416
 ·rw [if_pos c2] at H
  have LMc2 := dk c2
  clear c2
  obtain ⟨y340, hy340⟩ : ∃ y_ : List Int, y_ = (y337 ++ l0) := ⟨_, rfl⟩
  replace H : (some y340) = some r := by first | (rw [hy340]; with_reducible exact H) | (have H2_ := (Option.bind_some _ _).symm.trans H; rw [hy340]; with_reducible exact H2_) | (have H2_ := (Option.bind_some _ _).symm.trans H; with_reducible exact H2_) | with_reducible exact H | (rw [hy340]; exact H) | exact H
  have Ny340 := dk hy340
  clear hy340
  obtain rfl := Option.some.inj H
  go_enter Try.func102, Try.ntmps102
  go_wp2_with (first | ((with_reducible refine gate_dst (N := 5) rfl ?_); refine Kd.R_lit (Kd.int .i64) _ 3 ?hg (N := 5) ?hd (xs := ([] : List Int)) (inner := []) (ok := fun _ => True) (okp := fun _ => True) ?hr ?hp (fun _ hk => hk) trivial (Below.refl _ _) (Nat.le_refl _) (by simp) ?_; (case hd => rfl); (case hg => rfl); (case hr => first | (go_simp; done) | (go_simp; rfl)); (case hp => exact (Reps.none _ _)); intro v338 w3 ho4 hb hg_ hnew_; clear hg_ hnew_; (first | rw [← Ny337.out] at ho4 | (simp only [Int.reduceToNat] at ho4; rw [← Ny337.out] at ho4)); have HO339 := kl ho4 HB; replace HB := hs_ HB hb; clear hb ho4) | ((with_reducible refine gate_builtin (b := .append) (xs := #[.tmp 5, .tmp 6]) rfl ?_); at_builtin; refine Kd.R_append_rows (Kd.int .i64) (w0 := w) w.heap.size rfl (.tmp 5) (.tmp 6) 23 3 (.int .i64 0) 8 rfl Try.underlying23 info3 rfl (by decide) (by omega) v338 y337 l0 _ _ _ (fun _ => True) (fun _ => False) rfl rfl ?aO ?aR (fun _ _ h => h) (fun _ h => h.elim) ?aF ?aB ?aS ?aL ?_; (case aR => exact cc HR0 HB); (case aB => exact (bb HB)); (case aF => exact (fun _ _ => trivial)); (case aO => exact (rr HO339)); (case aS => exact (below_size (bb HB))); (case aL => have := LMc2.out; omega); intro v341 w5 ho hb hg hat; rw [← Ny340.out] at ho; replace HB := dk (hb); have HO342 := dk (ho); clear HO339 ho hb hg hat))
  go_ret
  exact ⟨_, ee, rr HO342, bb HB⟩
 ·rw [if_neg c2] at H
  exact absurd H (by simp)
theorem slices_Clone_int_int.calls (A0 : Option Addr) (c0 : Nat) (l0 : List Int) (r : List Int) (w : World) (hr0 : Kd.C (Kd.int .i64) w A0 l0.length l0) (hc0 : l0.length ≤ c0) (h : slices_Clone_int_int.f l0 = some r) :
  Calls Try.prog 102 #[.slice A0 l0.length c0] w fun e w' => ∃ v0_ : Value, e = .returned (v0_) ∧ Kd.R (Kd.int .i64) 3 w' w.heap.size (fun _ => True) v0_ r ∧ Below w.heap.size w w' := by
 cases A0 with
 | some ad0 => exact slices_Clone_int_int.calls_some ad0 c0 l0 r w hr0 hc0 h
 | none =>
  have hl : l0 = [] := Kd.C_none hr0
  subst hl
  have hr : r = [] := by
   unfold slices_Clone_int_int.f at h
   simpa using h.symm
  subst hr
  have hnil_ := fun (w : World) => Lib.run_eql_slice_nil (P := Try.prog) w 23 3 none 0 c0 0 0 Try.underlying23
  go_enter Try.func102, Try.ntmps102
  go_wp2
  go_ret
  exact ⟨_, rfl, Kd.R_nil _ _ _ _ _, Below.refl _ _⟩
def slices_Clone_impl_Team_impl_Team.f (l0 : List (S139)) : Option ((List (S139))) := (some (([] : List (S139)) : List (S139))).bind fun y343 => (if y343.length + l0.length < 4398046511104 then (some (y343 ++ l0)) else (none))
theorem slices_Clone_impl_Team_impl_Team.calls_some (ad0 : Addr) (c0 : Nat) (l0 : List (S139)) (r : List (S139)) (w : World) (hr0 : Kd.C k139 w (some ad0) l0.length l0) (hc0 : l0.length ≤ c0) (h : slices_Clone_impl_Team_impl_Team.f l0 = some r) :
  Calls Try.prog 126 #[.slice (some ad0) l0.length c0] w fun e w' => ∃ v0_ : Value, e = .returned (v0_) ∧ Kd.R k139 139 w' w.heap.size (fun _ => True) v0_ r ∧ Below w.heap.size w w' := by
 have hnil_ := fun (w : World) => Lib.run_eql_slice_nil (P := Try.prog) w 32 139 (some ad0) l0.length c0 0 0 Try.underlying32
 have HR0 := dk hr0
 have HC0 := dk hc0
 clear hr0 hc0
 have HB := dk (Below.refl w.heap.size w)
 have H : ((some (([] : List (S139)) : List (S139))).bind fun y343 => (if y343.length + l0.length < 4398046511104 then (some (y343 ++ l0)) else (none))) = some r := h
 clear h
 obtain ⟨y343, hy343⟩ : ∃ y_ : List (S139), y_ = (([] : List (S139))) := ⟨_, rfl⟩
 replace H : (if y343.length + l0.length < 4398046511104 then (some (y343 ++ l0)) else (none)) = some r := by first | (rw [hy343]; with_reducible exact H) | (have H2_ := (Option.bind_some _ _).symm.trans H; rw [hy343]; with_reducible exact H2_) | (have H2_ := (Option.bind_some _ _).symm.trans H; with_reducible exact H2_) | with_reducible exact H | (rw [hy343]; exact H) | exact H
 have Ny343 := dk hy343
 clear hy343
 by_cases c2 : y343.length + l0.length < 4398046511104
 ·rw [if_pos c2] at H
  have LMc2 := dk c2
  clear c2
  obtain ⟨y346, hy346⟩ : ∃ y_ : List (S139), y_ = (y343 ++ l0) := ⟨_, rfl⟩
  replace H : (some y346) = some r := by first | (rw [hy346]; with_reducible exact H) | (have H2_ := (Option.bind_some _ _).symm.trans H; rw [hy346]; with_reducible exact H2_) | (have H2_ := (Option.bind_some _ _).symm.trans H; with_reducible exact H2_) | with_reducible exact H | (rw [hy346]; exact H) | exact H
  have Ny346 := dk hy346
  clear hy346
  obtain rfl := Option.some.inj H
  go_enter Try.func126, Try.ntmps126
  go_wp2_with (first | ((with_reducible refine gate_dst (N := 5) rfl ?_); refine Kd.R_lit k139 _ 139 ?hg (N := 5) ?hd (xs := ([] : List (S139))) (inner := []) (ok := fun _ => True) (okp := fun _ => True) ?hr ?hp (fun _ hk => hk) trivial (Below.refl _ _) (Nat.le_refl _) (by simp) ?_; (case hd => rfl); (case hg => rfl); (case hr => first | (go_simp; done) | (go_simp; rfl)); (case hp => exact (Reps.none _ _)); intro v344 w3 ho4 hb hg_ hnew_; clear hg_ hnew_; (first | rw [← Ny343.out] at ho4 | (simp only [Int.reduceToNat] at ho4; rw [← Ny343.out] at ho4)); have HO345 := kl ho4 HB; replace HB := hs_ HB hb; clear hb ho4) | ((with_reducible refine gate_builtin (b := .append) (xs := #[.tmp 5, .tmp 6]) rfl ?_); at_builtin; refine Kd.R_append_rows k139 (w0 := w) w.heap.size rfl (.tmp 5) (.tmp 6) 32 139 (.agg #[(.string ⟨#[]⟩), (.int .i64 0), (.int .i64 0)]) 32 rfl Try.underlying32 info139 rfl (by decide) (by omega) v344 y343 l0 _ _ _ (fun _ => True) (fun _ => False) rfl rfl ?aO ?aR (fun _ _ h => h) (fun _ h => h.elim) ?aF ?aB ?aS ?aL ?_; (case aR => exact cc HR0 HB); (case aB => exact (bb HB)); (case aF => exact (fun _ _ => trivial)); (case aO => exact (rr HO345)); (case aS => exact (below_size (bb HB))); (case aL => have := LMc2.out; omega); intro v347 w5 ho hb hg hat; rw [← Ny346.out] at ho; replace HB := dk (hb); have HO348 := dk (ho); clear HO345 ho hb hg hat))
  go_ret
  exact ⟨_, ee, rr HO348, bb HB⟩
 ·rw [if_neg c2] at H
  exact absurd H (by simp)
theorem slices_Clone_impl_Team_impl_Team.calls (A0 : Option Addr) (c0 : Nat) (l0 : List (S139)) (r : List (S139)) (w : World) (hr0 : Kd.C k139 w A0 l0.length l0) (hc0 : l0.length ≤ c0) (h : slices_Clone_impl_Team_impl_Team.f l0 = some r) :
  Calls Try.prog 126 #[.slice A0 l0.length c0] w fun e w' => ∃ v0_ : Value, e = .returned (v0_) ∧ Kd.R k139 139 w' w.heap.size (fun _ => True) v0_ r ∧ Below w.heap.size w w' := by
 cases A0 with
 | some ad0 => exact slices_Clone_impl_Team_impl_Team.calls_some ad0 c0 l0 r w hr0 hc0 h
 | none =>
  have hl : l0 = [] := Kd.C_none hr0
  subst hl
  have hr : r = [] := by
   unfold slices_Clone_impl_Team_impl_Team.f at h
   simpa using h.symm
  subst hr
  have hnil_ := fun (w : World) => Lib.run_eql_slice_nil (P := Try.prog) w 32 139 none 0 c0 0 0 Try.underlying32
  go_enter Try.func126, Try.ntmps126
  go_wp2
  go_ret
  exact ⟨_, rfl, Kd.R_nil _ _ _ _ _, Below.refl _ _⟩
def slices_Clone_impl_Game_impl_Game.f (l0 : List (S95)) : Option ((List (S95))) := (some (([] : List (S95)) : List (S95))).bind fun y349 => (if y349.length + l0.length < 3518437208883 then (some (y349 ++ l0)) else (none))
theorem slices_Clone_impl_Game_impl_Game.calls_some (ad0 : Addr) (c0 : Nat) (l0 : List (S95)) (r : List (S95)) (w : World) (hr0 : Kd.C k95 w (some ad0) l0.length l0) (hc0 : l0.length ≤ c0) (h : slices_Clone_impl_Game_impl_Game.f l0 = some r) :
  Calls Try.prog 127 #[.slice (some ad0) l0.length c0] w fun e w' => ∃ v0_ : Value, e = .returned (v0_) ∧ Kd.R k95 95 w' w.heap.size (fun _ => True) v0_ r ∧ Below w.heap.size w w' := by
 have hnil_ := fun (w : World) => Lib.run_eql_slice_nil (P := Try.prog) w 34 95 (some ad0) l0.length c0 0 0 Try.underlying34
 have HR0 := dk hr0
 have HC0 := dk hc0
 clear hr0 hc0
 have HB := dk (Below.refl w.heap.size w)
 have H : ((some (([] : List (S95)) : List (S95))).bind fun y349 => (if y349.length + l0.length < 3518437208883 then (some (y349 ++ l0)) else (none))) = some r := h
 clear h
 obtain ⟨y349, hy349⟩ : ∃ y_ : List (S95), y_ = (([] : List (S95))) := ⟨_, rfl⟩
 replace H : (if y349.length + l0.length < 3518437208883 then (some (y349 ++ l0)) else (none)) = some r := by first | (rw [hy349]; with_reducible exact H) | (have H2_ := (Option.bind_some _ _).symm.trans H; rw [hy349]; with_reducible exact H2_) | (have H2_ := (Option.bind_some _ _).symm.trans H; with_reducible exact H2_) | with_reducible exact H | (rw [hy349]; exact H) | exact H
 have Ny349 := dk hy349
 clear hy349
 by_cases c2 : y349.length + l0.length < 3518437208883
 ·rw [if_pos c2] at H
  have LMc2 := dk c2
  clear c2
  obtain ⟨y352, hy352⟩ : ∃ y_ : List (S95), y_ = (y349 ++ l0) := ⟨_, rfl⟩
  replace H : (some y352) = some r := by first | (rw [hy352]; with_reducible exact H) | (have H2_ := (Option.bind_some _ _).symm.trans H; rw [hy352]; with_reducible exact H2_) | (have H2_ := (Option.bind_some _ _).symm.trans H; with_reducible exact H2_) | with_reducible exact H | (rw [hy352]; exact H) | exact H
  have Ny352 := dk hy352
  clear hy352
  obtain rfl := Option.some.inj H
  go_enter Try.func127, Try.ntmps127
  go_wp2_with (first | ((with_reducible refine gate_dst (N := 5) rfl ?_); refine Kd.R_lit k95 _ 95 ?hg (N := 5) ?hd (xs := ([] : List (S95))) (inner := []) (ok := fun _ => True) (okp := fun _ => True) ?hr ?hp (fun _ hk => hk) trivial (Below.refl _ _) (Nat.le_refl _) (by simp) ?_; (case hd => rfl); (case hg => rfl); (case hr => first | (go_simp; done) | (go_simp; rfl)); (case hp => exact (Reps.none _ _)); intro v350 w3 ho4 hb hg_ hnew_; clear hg_ hnew_; (first | rw [← Ny349.out] at ho4 | (simp only [Int.reduceToNat] at ho4; rw [← Ny349.out] at ho4)); have HO351 := kl ho4 HB; replace HB := hs_ HB hb; clear hb ho4) | ((with_reducible refine gate_builtin (b := .append) (xs := #[.tmp 5, .tmp 6]) rfl ?_); at_builtin; refine Kd.R_append_rows k95 (w0 := w) w.heap.size rfl (.tmp 5) (.tmp 6) 34 95 (.agg #[(.int .i64 0), (.int .i64 0), (.int .i64 0), (.int .i64 0), (.int .i64 0)]) 40 rfl Try.underlying34 info95 rfl (by decide) (by omega) v350 y349 l0 _ _ _ (fun _ => True) (fun _ => False) rfl rfl ?aO ?aR (fun _ _ h => h) (fun _ h => h.elim) ?aF ?aB ?aS ?aL ?_; (case aR => exact cc HR0 HB); (case aB => exact (bb HB)); (case aF => exact (fun _ _ => trivial)); (case aO => exact (rr HO351)); (case aS => exact (below_size (bb HB))); (case aL => have := LMc2.out; omega); intro v353 w5 ho hb hg hat; rw [← Ny352.out] at ho; replace HB := dk (hb); have HO354 := dk (ho); clear HO351 ho hb hg hat))
  go_ret
  exact ⟨_, ee, rr HO354, bb HB⟩
 ·rw [if_neg c2] at H
  exact absurd H (by simp)
theorem slices_Clone_impl_Game_impl_Game.calls (A0 : Option Addr) (c0 : Nat) (l0 : List (S95)) (r : List (S95)) (w : World) (hr0 : Kd.C k95 w A0 l0.length l0) (hc0 : l0.length ≤ c0) (h : slices_Clone_impl_Game_impl_Game.f l0 = some r) :
  Calls Try.prog 127 #[.slice A0 l0.length c0] w fun e w' => ∃ v0_ : Value, e = .returned (v0_) ∧ Kd.R k95 95 w' w.heap.size (fun _ => True) v0_ r ∧ Below w.heap.size w w' := by
 cases A0 with
 | some ad0 => exact slices_Clone_impl_Game_impl_Game.calls_some ad0 c0 l0 r w hr0 hc0 h
 | none =>
  have hl : l0 = [] := Kd.C_none hr0
  subst hl
  have hr : r = [] := by
   unfold slices_Clone_impl_Game_impl_Game.f at h
   simpa using h.symm
  subst hr
  have hnil_ := fun (w : World) => Lib.run_eql_slice_nil (P := Try.prog) w 34 95 none 0 c0 0 0 Try.underlying34
  go_enter Try.func127, Try.ntmps127
  go_wp2
  go_ret
  exact ⟨_, rfl, Kd.R_nil _ _ _ _ _, Below.refl _ _⟩
def impl_Book_copied.f (l0_0 : List (S139)) (a0_1 : Int) (a0_2 : Int) (a0_3 : Int) (l0_4 : List Int) (a0_5 : Bool) (l0_6 : List (S95)) (l0_7 : List Int) (l0_8 : List Int) : Option ((List (S139)) × Int × Int × Int × List Int × Bool × (List (S95)) × List Int × List Int) := (slices_Clone_impl_Team_impl_Team.f l0_0).bind fun t357 => ((slices_Clone_impl_Game_impl_Game.f l0_6).bind fun t360 => ((slices_Clone_int_int.f l0_7).bind fun t363 => ((slices_Clone_int_int.f l0_8).bind fun t366 => ((slices_Clone_int_int.f l0_4).bind fun t369 => (some (t357, a0_1, a0_2, a0_3, t369, a0_5, t360, t363, t366))))))
def impl_Book_copied.T1 : Bool × List (List Nat × List Nat) := (true, [([], []), ([0], [0]), ([1], [1]), ([], []), ([3], [3]), ([4, 2], [4]), ([], []), ([6], [6]), ([7, 5], [7]), ([], []), ([9], [9]), ([10, 8], [10]), ([0, 1, 2, 3, 4, 6, 7, 9, 10], []), ([12, 2, 11, 0, 1, 2, 3, 4, 6, 7, 9, 10], [2, 12]), ([0, 1, 2, 3, 4, 5, 6, 7, 9, 10, 12, 13], []), ([14, 5, 13, 0, 1, 2, 3, 4, 5, 6, 7, 9, 10, 12, 13], [5, 14]), ([0, 1, 2, 3, 4, 5, 6, 7, 8, 9, 10, 12, 13, 14, 15], []), ([16, 8, 15, 0, 1, 2, 3, 4, 5, 6, 7, 8, 9, 10, 12, 13, 14, 15], [8, 16]), ([0, 1, 2, 3, 4, 5, 6, 7, 8, 9, 10, 11, 12, 13, 14, 15, 16, 17], []), ([18, 11, 17, 0, 1, 2, 3, 4, 5, 6, 7, 8, 9, 10, 11, 12, 13, 14, 15, 16, 17], [11, 18])])
def impl_Book_copied.B1 : List Nat := [0, 1, 3, 0, 8, 31, 0, 64, 255, 0, 512, 2047, 1759, 8191, 16383, 32767, 65535, 131071, 262143, 524287]
theorem impl_Book_copied.tab1 : rtab .any (opsOf Try.f62 1) = impl_Book_copied.T1 := by kernel_rfl
theorem impl_Book_copied.bits1 : waitsOk impl_Book_copied.T1.2 impl_Book_copied.B1 = true := by kernel_rfl
theorem impl_Book_copied.calls (A0_0 : Option Addr) (c0_0 : Nat) (l0_0 : List (S139)) (a0_1 : Int) (a0_2 : Int) (a0_3 : Int) (A0_4 : Option Addr) (c0_4 : Nat) (l0_4 : List Int) (a0_5 : Bool) (A0_6 : Option Addr) (c0_6 : Nat) (l0_6 : List (S95)) (A0_7 : Option Addr) (c0_7 : Nat) (l0_7 : List Int) (A0_8 : Option Addr) (c0_8 : Nat) (l0_8 : List Int) (r1 : List (S139)) (r2 : Int) (r3 : Int) (r4 : Int) (r5 : List Int) (r6 : Bool) (r7 : List (S95)) (r8 : List Int) (r9 : List Int) (w : World) (hr0_0 : Kd.C k139 w A0_0 l0_0.length l0_0) (hc0_0 : l0_0.length ≤ c0_0) (hr0_4 : Kd.C (Kd.int .i64) w A0_4 l0_4.length l0_4) (hc0_4 : l0_4.length ≤ c0_4) (hr0_6 : Kd.C k95 w A0_6 l0_6.length l0_6) (hc0_6 : l0_6.length ≤ c0_6) (hr0_7 : Kd.C (Kd.int .i64) w A0_7 l0_7.length l0_7) (hc0_7 : l0_7.length ≤ c0_7) (hr0_8 : Kd.C (Kd.int .i64) w A0_8 l0_8.length l0_8) (hc0_8 : l0_8.length ≤ c0_8) (h : impl_Book_copied.f l0_0 a0_1 a0_2 a0_3 l0_4 a0_5 l0_6 l0_7 l0_8 = some (r1, r2, r3, r4, r5, r6, r7, r8, r9)) :
  Calls Try.prog 62 #[.agg #[.slice A0_0 l0_0.length c0_0, .int .i64 a0_1, .int .i64 a0_2, .int .i64 a0_3, .slice A0_4 l0_4.length c0_4, .bool a0_5, .slice A0_6 l0_6.length c0_6, .slice A0_7 l0_7.length c0_7, .slice A0_8 l0_8.length c0_8]] w fun e w' => ∃ v0_ v4_ v6_ v7_ v8_ : Value, e = .returned (.agg #[v0_, .int .i64 r2, .int .i64 r3, .int .i64 r4, v4_, .bool r6, v6_, v7_, v8_]) ∧ Kd.R k139 139 w' w.heap.size (fun _ => True) v0_ r1 ∧ Kd.R (Kd.int .i64) 3 w' w.heap.size (fun k_ => some k_ ≠ (v7_ : Value).ownBlock ∧ some k_ ≠ (v8_ : Value).ownBlock) v4_ r5 ∧ Kd.R k95 95 w' w.heap.size (fun _ => True) v6_ r7 ∧ Kd.R (Kd.int .i64) 3 w' w.heap.size (fun k_ => some k_ ≠ (v4_ : Value).ownBlock ∧ some k_ ≠ (v8_ : Value).ownBlock) v7_ r8 ∧ Kd.R (Kd.int .i64) 3 w' w.heap.size (fun k_ => some k_ ≠ (v4_ : Value).ownBlock ∧ some k_ ≠ (v7_ : Value).ownBlock) v8_ r9 ∧ Below w.heap.size w w' := by
 have hu36 := Try.underlying36
 have HR0_0 := dk hr0_0
 have HC0_0 := dk hc0_0
 clear hr0_0 hc0_0
 have HR0_4 := dk hr0_4
 have HC0_4 := dk hc0_4
 clear hr0_4 hc0_4
 have HR0_6 := dk hr0_6
 have HC0_6 := dk hc0_6
 clear hr0_6 hc0_6
 have HR0_7 := dk hr0_7
 have HC0_7 := dk hc0_7
 clear hr0_7 hc0_7
 have HR0_8 := dk hr0_8
 have HC0_8 := dk hc0_8
 clear hr0_8 hc0_8
 have HB := dk (Below.refl w.heap.size w)
 have H : ((slices_Clone_impl_Team_impl_Team.f l0_0).bind fun t357 => ((slices_Clone_impl_Game_impl_Game.f l0_6).bind fun t360 => ((slices_Clone_int_int.f l0_7).bind fun t363 => ((slices_Clone_int_int.f l0_8).bind fun t366 => ((slices_Clone_int_int.f l0_4).bind fun t369 => (some (t357, a0_1, a0_2, a0_3, t369, a0_5, t360, t363, t366))))))) = some (r1, r2, r3, r4, r5, r6, r7, r8, r9) := h
 clear h
 replace H := Option.bind_eq_some_iff.mp H
 obtain ⟨t357, A20, H⟩ := H
 replace H : ((slices_Clone_impl_Game_impl_Game.f l0_6).bind fun t360 => ((slices_Clone_int_int.f l0_7).bind fun t363 => ((slices_Clone_int_int.f l0_8).bind fun t366 => ((slices_Clone_int_int.f l0_4).bind fun t369 => (some (t357, a0_1, a0_2, a0_3, t369, a0_5, t360, t363, t366)))))) = some (r1, r2, r3, r4, r5, r6, r7, r8, r9) := H
 have A2 := dk A20
 clear A20
 replace H := Option.bind_eq_some_iff.mp H
 obtain ⟨t360, A30, H⟩ := H
 replace H : ((slices_Clone_int_int.f l0_7).bind fun t363 => ((slices_Clone_int_int.f l0_8).bind fun t366 => ((slices_Clone_int_int.f l0_4).bind fun t369 => (some (t357, a0_1, a0_2, a0_3, t369, a0_5, t360, t363, t366))))) = some (r1, r2, r3, r4, r5, r6, r7, r8, r9) := H
 have A3 := dk A30
 clear A30
 replace H := Option.bind_eq_some_iff.mp H
 obtain ⟨t363, A40, H⟩ := H
 replace H : ((slices_Clone_int_int.f l0_8).bind fun t366 => ((slices_Clone_int_int.f l0_4).bind fun t369 => (some (t357, a0_1, a0_2, a0_3, t369, a0_5, t360, t363, t366)))) = some (r1, r2, r3, r4, r5, r6, r7, r8, r9) := H
 have A4 := dk A40
 clear A40
 replace H := Option.bind_eq_some_iff.mp H
 obtain ⟨t366, A50, H⟩ := H
 replace H : ((slices_Clone_int_int.f l0_4).bind fun t369 => (some (t357, a0_1, a0_2, a0_3, t369, a0_5, t360, t363, t366))) = some (r1, r2, r3, r4, r5, r6, r7, r8, r9) := H
 have A5 := dk A50
 clear A50
 replace H := Option.bind_eq_some_iff.mp H
 obtain ⟨t369, A60, H⟩ := H
 replace H : (some (t357, a0_1, a0_2, a0_3, t369, a0_5, t360, t363, t366)) = some (r1, r2, r3, r4, r5, r6, r7, r8, r9) := H
 have A6 := dk A60
 clear A60
 simp only [Option.some.injEq, Prod.mk.injEq] at H
 obtain ⟨rfl, rfl, rfl, rfl, rfl, rfl, rfl, rfl, rfl⟩ := H
 go_enter Try.func62, Try.ntmps62
 try go_wp2_with (first | ((with_reducible refine gate_dst (N := 1) rfl ?_); refine bx (N := 1) (cs := #[.slice A0_0 l0_0.length c0_0, .int .i64 a0_1, .int .i64 a0_2, .int .i64 a0_3, .slice A0_4 l0_4.length c0_4, .bool a0_5, .slice A0_6 l0_6.length c0_6, .slice A0_7 l0_7.length c0_7, .slice A0_8 l0_8.length c0_8]) (t := 36) ?_; intro gb355 hg w7 hbox hb; have BK355 := dk (hbox); have GW355 := gs hg HB; have GE355 := gs hg HB; replace HB := hs_ HB hb; clear hb hbox hg) | ((with_reducible refine gate_dst (N := 2) rfl ?_); refine bx (N := 2) (cs := #[.slice none 0 0, .int .i64 0, .int .i64 0, .int .i64 0, .slice none 0 0, .bool false, .slice none 0 0, .slice none 0 0, .slice none 0 0]) (t := 36) ?_; intro gb356 hg w8 hbox hb; have BK356 := dk (hbox); have GW356 := gs hg HB; have GE356 := gs hg HB; replace HB := hs_ HB hb; have NB355_356 := gn hg BK355; have NB356_355 := gm hg BK355; replace BK355 := kb BK355 hb; clear hb hbox hg))
 replace BK355 := dk (blk_drew BK355.out)
 replace BK356 := dk (blk_drew BK356.out)
 replace HB := dk (below_drew1 HB.out)
 refine start_ (n := 20) (S := fun w' => w'.cell? ⟨gb355, 0, none⟩ = some (.slice A0_0 l0_0.length c0_0) ∧ w'.cell? ⟨gb355, 1, none⟩ = some (.int .i64 a0_1) ∧ w'.cell? ⟨gb355, 2, none⟩ = some (.int .i64 a0_2) ∧ w'.cell? ⟨gb355, 3, none⟩ = some (.int .i64 a0_3) ∧ w'.cell? ⟨gb355, 4, none⟩ = some (.slice A0_4 l0_4.length c0_4) ∧ w'.cell? ⟨gb355, 5, none⟩ = some (.bool a0_5) ∧ w'.cell? ⟨gb355, 6, none⟩ = some (.slice A0_6 l0_6.length c0_6) ∧ w'.cell? ⟨gb355, 7, none⟩ = some (.slice A0_7 l0_7.length c0_7) ∧ w'.cell? ⟨gb355, 8, none⟩ = some (.slice A0_8 l0_8.length c0_8)) (ds := [13, 15, 17, 19]) #[false, false, false, false, false, false, false, false, false, false, false, false, false, false, false, false, false, false, false, false] (by kernel_rfl) rfl rfl ⟨bc BK355 0, bc BK355 1, bc BK355 2, bc BK355 3, bc BK355 4, bc BK355 5, bc BK355 6, bc BK355 7, bc BK355 8⟩ (fun hHeld => ?_); refine with_tabW impl_Book_copied.tab1 impl_Book_copied.bits1 (fun HT_ HW_ => ?_)
 generalize w8.drew = w9 at BK355 BK356 HB hHeld ⊢
 refine pz_ 0 3 ?_
 refine pz_ 3 6 ?_
 refine pz_ 6 9 ?_
 refine pz_ 9 12 ?_
 refine take_ (i := 1) (N := some 4) (v := ?_) (a' := ?_) #[true, true, false, true, false, false, true, false, false, true, false, false, false, false, false, false, false, false, false, false] rfl rfl (take_ofW HT_.out HW_.out (by kernel_rfl)) (fun _ _ _ h => h) (Or.inl ⟨by rfl, ?_⟩) hHeld ?_ ?_
 rotate_left
 ·rintro w' ⟨s0, s1, s2, s3, s4, s5, s6, s7, s8⟩
  go_simp
  with_reducible rfl
 rotate_left
 ·simp only [Act.put, List.setIfInBounds_toArray, List.set_cons_zero, List.set_cons_succ, i64_w, i32_w]
  rfl
 refine take_ (i := 4) (N := some 7) (v := ?_) (a' := ?_) #[true, true, false, true, true, false, true, false, false, true, false, false, false, false, false, false, false, false, false, false] rfl rfl (take_ofW HT_.out HW_.out (by kernel_rfl)) (fun _ _ _ h => h) (Or.inl ⟨by rfl, ?_⟩) hHeld ?_ ?_
 rotate_left
 ·rintro w' ⟨s0, s1, s2, s3, s4, s5, s6, s7, s8⟩
  go_simp
  with_reducible rfl
 rotate_left
 ·simp only [Act.put, List.setIfInBounds_toArray, List.set_cons_zero, List.set_cons_succ, i64_w, i32_w]
  rfl
 refine take_ (i := 7) (N := some 10) (v := ?_) (a' := ?_) #[true, true, false, true, true, false, true, true, false, true, false, false, false, false, false, false, false, false, false, false] rfl rfl (take_ofW HT_.out HW_.out (by kernel_rfl)) (fun _ _ _ h => h) (Or.inl ⟨by rfl, ?_⟩) hHeld ?_ ?_
 rotate_left
 ·rintro w' ⟨s0, s1, s2, s3, s4, s5, s6, s7, s8⟩
  go_simp
  with_reducible rfl
 rotate_left
 ·simp only [Act.put, List.setIfInBounds_toArray, List.set_cons_zero, List.set_cons_succ, i64_w, i32_w]
  rfl
 refine take_ (i := 10) (N := some 13) (v := ?_) (a' := ?_) #[true, true, false, true, true, false, true, true, false, true, true, false, false, false, false, false, false, false, false, false] rfl rfl (take_ofW HT_.out HW_.out (by kernel_rfl)) (fun _ _ _ h => h) (Or.inl ⟨by rfl, ?_⟩) hHeld ?_ ?_
 rotate_left
 ·rintro w' ⟨s0, s1, s2, s3, s4, s5, s6, s7, s8⟩
  go_simp
  with_reducible rfl
 rotate_left
 ·simp only [Act.put, List.setIfInBounds_toArray, List.set_cons_zero, List.set_cons_succ, i64_w, i32_w]
  rfl
 refine one_ (i := 2) (N := some 5) #[true, true, true, true, true, false, true, true, false, true, true, false, false, false, false, false, false, false, false, false] rfl rfl (one_of HT_.out (by kernel_rfl)) (by decide) (fun K hK => ?_)
 refine goes_ Try.func126 (by kernel_rfl) rfl #[.slice A0_0 l0_0.length c0_0] (by rfl) rfl rfl (by (try simp only [List.map_toArray, List.map_cons, List.map_nil]); first | done | rfl | (simp only [List.length_drop, List.length_take]; rfl)) ?_
 with_reducible refine (slices_Clone_impl_Team_impl_Team.calls _ _ l0_0 t357 _ ?side1 ?side2 A2.out).mono ?_
 (case side1 => exact cc HR0_0 HB)
 (case side2 => exact HC0_0.out)
 rintro e w10 ⟨v358, rfl, ho0, hb⟩
 refine ⟨_, rfl, ?_⟩
 have HO359 := kl ho0 HB
 replace BK355 := kb BK355 hb
 replace BK356 := kb BK356 hb
 replace HB := hs_ HB hb
 (try clear hb hb2 hk hi ho0)
 refine hK.out _ _ ⟨bc BK355 0, bc BK355 1, bc BK355 2, bc BK355 3, bc BK355 4, bc BK355 5, bc BK355 6, bc BK355 7, bc BK355 8⟩ (fun hHeld => ?_)
 clear hK K
 refine norm_ (a' := ?_) ?_ ?_
 rotate_left
 ·show Act.put _ (some 5) _ = _
  simp only [Act.put, List.setIfInBounds_toArray, List.set_cons_zero, List.set_cons_succ, i64_w, i32_w]
  rfl
 refine pz_ 12 15 ?_
 refine one_ (i := 5) (N := some 8) #[true, true, true, true, true, true, true, true, false, true, true, false, true, false, false, false, false, false, false, false] rfl rfl (one_of HT_.out (by kernel_rfl)) (by decide) (fun K hK => ?_)
 refine goes_ Try.func127 (by kernel_rfl) rfl #[.slice A0_6 l0_6.length c0_6] (by rfl) rfl rfl (by (try simp only [List.map_toArray, List.map_cons, List.map_nil]); first | done | rfl | (simp only [List.length_drop, List.length_take]; rfl)) ?_
 with_reducible refine (slices_Clone_impl_Game_impl_Game.calls _ _ l0_6 t360 _ ?side1 ?side2 A3.out).mono ?_
 (case side1 => exact cc HR0_6 HB)
 (case side2 => exact HC0_6.out)
 rintro e w11 ⟨v361, rfl, ho0, hb⟩
 refine ⟨_, rfl, ?_⟩
 replace HO359 := kr HO359 hb
 have HO362 := kl ho0 HB
 replace BK355 := kb BK355 hb
 replace BK356 := kb BK356 hb
 replace HB := hs_ HB hb
 (try clear hb hb2 hk hi ho0)
 refine hK.out _ _ ⟨bc BK355 0, bc BK355 1, bc BK355 2, bc BK355 3, bc BK355 4, bc BK355 5, bc BK355 6, bc BK355 7, bc BK355 8⟩ (fun hHeld => ?_)
 clear hK K
 refine norm_ (a' := ?_) ?_ ?_
 rotate_left
 ·show Act.put _ (some 8) _ = _
  simp only [Act.put, List.setIfInBounds_toArray, List.set_cons_zero, List.set_cons_succ, i64_w, i32_w]
  rfl
 refine one_ (i := 8) (N := some 11) #[true, true, true, true, true, true, true, true, true, true, true, false, true, false, false, false, false, false, false, false] rfl rfl (one_of HT_.out (by kernel_rfl)) (by decide) (fun K hK => ?_)
 refine goes_ Try.func102 (by kernel_rfl) rfl #[.slice A0_7 l0_7.length c0_7] (by rfl) rfl rfl (by (try simp only [List.map_toArray, List.map_cons, List.map_nil]); first | done | rfl | (simp only [List.length_drop, List.length_take]; rfl)) ?_
 with_reducible refine (slices_Clone_int_int.calls _ _ l0_7 t363 _ ?side1 ?side2 A4.out).mono ?_
 (case side1 => exact cc HR0_7 HB)
 (case side2 => exact HC0_7.out)
 rintro e w12 ⟨v364, rfl, ho0, hb⟩
 refine ⟨_, rfl, ?_⟩
 replace HO359 := kr HO359 hb
 replace HO362 := kr HO362 hb
 have HO365 := kl ho0 HB
 replace BK355 := kb BK355 hb
 replace BK356 := kb BK356 hb
 replace HB := hs_ HB hb
 (try clear hb hb2 hk hi ho0)
 refine hK.out _ _ ⟨bc BK355 0, bc BK355 1, bc BK355 2, bc BK355 3, bc BK355 4, bc BK355 5, bc BK355 6, bc BK355 7, bc BK355 8⟩ (fun hHeld => ?_)
 clear hK K
 refine norm_ (a' := ?_) ?_ ?_
 rotate_left
 ·show Act.put _ (some 11) _ = _
  simp only [Act.put, List.setIfInBounds_toArray, List.set_cons_zero, List.set_cons_succ, i64_w, i32_w]
  rfl
 refine one_ (i := 11) (N := some 14) #[true, true, true, true, true, true, true, true, true, true, true, true, true, false, false, false, false, false, false, false] rfl rfl (one_of HT_.out (by kernel_rfl)) (by decide) (fun K hK => ?_)
 refine goes_ Try.func102 (by kernel_rfl) rfl #[.slice A0_8 l0_8.length c0_8] (by rfl) rfl rfl (by (try simp only [List.map_toArray, List.map_cons, List.map_nil]); first | done | rfl | (simp only [List.length_drop, List.length_take]; rfl)) ?_
 with_reducible refine (slices_Clone_int_int.calls _ _ l0_8 t366 _ ?side1 ?side2 A5.out).mono ?_
 (case side1 => exact cc HR0_8 HB)
 (case side2 => exact HC0_8.out)
 rintro e w13 ⟨v367, rfl, ho0, hb⟩
 refine ⟨_, rfl, ?_⟩
 replace HO359 := kr HO359 hb
 replace HO362 := kr HO362 hb
 have HO368 := dk (Kd.R_lower (Kd.R_new' ho0 (rt HO365)) (below_size (bb HB)))
 replace HO365 := ke HO365 ho0 hb
 replace BK355 := kb BK355 hb
 replace BK356 := kb BK356 hb
 replace HB := hs_ HB hb
 (try clear hb hb2 hk hi ho0)
 obtain ⟨Ao14, co14, eo14⟩ := Kd.R_slice HO359.out
 (first | subst eo14 | (injection eo14 with f1_ f2_ f3_; have f4_ := f1_.symm; have f5_ := f3_.symm; clear f1_ f2_ f3_; subst f4_; subst f5_))
 obtain ⟨Ao16, co16, eo16⟩ := Kd.R_slice HO362.out
 (first | subst eo16 | (injection eo16 with f1_ f2_ f3_; have f4_ := f1_.symm; have f5_ := f3_.symm; clear f1_ f2_ f3_; subst f4_; subst f5_))
 obtain ⟨Ao18, co18, eo18⟩ := Kd.R_slice HO365.out
 (first | subst eo18 | (injection eo18 with f1_ f2_ f3_; have f4_ := f1_.symm; have f5_ := f3_.symm; clear f1_ f2_ f3_; subst f4_; subst f5_))
 obtain ⟨Ao20, co20, eo20⟩ := Kd.R_slice HO368.out
 (first | subst eo20 | (injection eo20 with f1_ f2_ f3_; have f4_ := f1_.symm; have f5_ := f3_.symm; clear f1_ f2_ f3_; subst f4_; subst f5_))
 refine hK.out _ _ ⟨bc BK355 0, bc BK355 1, bc BK355 2, bc BK355 3, bc BK355 4, bc BK355 5, bc BK355 6, bc BK355 7, bc BK355 8⟩ (fun hHeld => ?_)
 clear hK K
 refine norm_ (a' := ?_) ?_ ?_
 rotate_left
 ·show Act.put _ (some 14) _ = _
  simp only [Act.put, List.setIfInBounds_toArray, List.set_cons_zero, List.set_cons_succ, i64_w, i32_w]
  rfl
 refine last_ (i := 13) (N := none) #[true, true, true, true, true, true, true, true, true, true, true, true, true, true, false, false, false, false, false, false] rfl rfl (one_of HT_.out (by kernel_rfl)) (by decide) (fun K hK => ?_)
 have hs15 : w13.cell? ⟨gb355, 0, none⟩ = some (.slice A0_0 l0_0.length c0_0) := bc BK355 0
 have hfs15 := blk_frozen BK355.out 0
 have hns15_1 := NB356_355.out
 have hms15_1 := NB355_356.out
 refine skip_ (w1 := ?_) (by rfl) rfl ?_ ?_
 rotate_left
 ·go_simp
  rfl
 refine hK.out _ _ ?_
 clear hK K
 refine pz_ 14 16 ?_
 refine last_ (i := 15) (N := none) #[true, true, true, true, true, true, true, true, true, true, true, true, true, true, true, true, false, false, false, false] rfl rfl (one_of HT_.out (by kernel_rfl)) (by decide) (fun K hK => ?_)
 have hs17 : w13.cell? ⟨gb355, 6, none⟩ = some (.slice A0_6 l0_6.length c0_6) := bc BK355 6
 have hfs17 := blk_frozen BK355.out 6
 have hns17_1 := NB356_355.out
 have hms17_1 := NB355_356.out
 refine skip_ (w1 := ?_) (by rfl) rfl ?_ ?_
 rotate_left
 ·go_simp
  rfl
 refine hK.out _ _ ?_
 clear hK K
 refine pz_ 16 17 ?_
 refine last_ (i := 17) (N := none) #[true, true, true, true, true, true, true, true, true, true, true, true, true, true, true, true, true, true, false, false] rfl rfl (one_of HT_.out (by kernel_rfl)) (by decide) (fun K hK => ?_)
 have hs19 : w13.cell? ⟨gb355, 7, none⟩ = some (.slice A0_7 l0_7.length c0_7) := bc BK355 7
 have hfs19 := blk_frozen BK355.out 7
 have hns19_1 := NB356_355.out
 have hms19_1 := NB355_356.out
 refine skip_ (w1 := ?_) (by rfl) rfl ?_ ?_
 rotate_left
 ·go_simp
  rfl
 refine hK.out _ _ ?_
 clear hK K
 refine pz_ 18 18 ?_
 refine last_ (i := 19) (N := none) #[true, true, true, true, true, true, true, true, true, true, true, true, true, true, true, true, true, true, true, true] rfl rfl (one_of HT_.out (by kernel_rfl)) (by decide) (fun K hK => ?_)
 have hs21 : w13.cell? ⟨gb355, 8, none⟩ = some (.slice A0_8 l0_8.length c0_8) := bc BK355 8
 have hfs21 := blk_frozen BK355.out 8
 have hns21_1 := NB356_355.out
 have hms21_1 := NB355_356.out
 refine skip_ (w1 := ?_) (by rfl) rfl ?_ ?_
 rotate_left
 ·go_simp
  rfl
 refine hK.out _ _ ?_
 clear hK K
 refine done_ (done_of HT_.out (by kernel_rfl)) ?_
 have hnb22 := NB355_356.out
 have hnc22 := NB356_355.out
 have ⟨z23_0, z23_1, z23_2, z23_3, z23_4, z23_5, z23_6, z23_7, z23_8, v23_0, v23_1, v23_2, v23_3, v23_4, v23_5, v23_6, v23_7, v23_8⟩ := rz9 BK355
 try go_wp2_with (first | ((with_reducible refine gate_callee (f := 102) rfl ?_); refine gl (some 22) Try.func102 #[.slice A0_4 l0_4.length c0_4] ?_; (with_reducible refine (slices_Clone_int_int.calls _ _ l0_4 t369 _ ?side1 ?side2 A6.out).mono ?_); (case side1 => exact Kd.C_below HR0_4.out (bb HB)); (case side2 => exact HC0_4.out); rintro e w24 ⟨v370, rfl, ho0, hb⟩; refine ⟨_, rfl, ?_⟩; replace HO359 := kf HO359 BK355 hb; replace HO362 := kf HO362 BK355 hb; have HO371 := dk (Kd.R_lower (Kd.R_new' (Kd.R_new' ho0 (Kd.R_lt (rf HO365 BK355 (fun _ h_ => h_.1)))) (Kd.R_lt (rf HO368 BK355 (fun _ h_ => h_.1)))) (below_size (bb HB))); replace HO365 := dk (Kd.R_elder' (rf HO365 BK355 (fun _ h_ => h_.1)) (Kd.R_base ho0) hb); replace HO368 := dk (Kd.R_elder' (rf HO368 BK355 (fun _ h_ => h_.1)) (Kd.R_base ho0) hb); replace BK355 := dk (blk_below (g := gb355) (o := .cells #[.slice Ao14 t357.length co14, .int .i64 a0_1, .int .i64 a0_2, .int .i64 a0_3, .slice A0_4 l0_4.length c0_4, .bool a0_5, .slice Ao16 t360.length co16, .slice Ao18 t363.length co18, .slice Ao20 t366.length co20] 36 (0, 0)) (bp BK355) hb); replace BK356 := dk (blk_below (bf NB356_355.out BK356) hb); replace HB := hs_ HB hb; (try clear hb hb2 hk hi ho0); obtain ⟨Ao25, co25, eo25⟩ := Kd.R_slice HO371.out; subst eo25; have ⟨z26_0, z26_1, z26_2, z26_3, z26_4, z26_5, z26_6, z26_7, z26_8, v26_0, v26_1, v26_2, v26_3, v26_4, v26_5, v26_6, v26_7, v26_8⟩ := rz9 BK355; have ⟨z27_0, z27_1, z27_2, z27_3, z27_4, z27_5, z27_6, z27_7, z27_8, v27_0, v27_1, v27_2, v27_3, v27_4, v27_5, v27_6, v27_7, v27_8⟩ := rz9 BK356))
 refine bodyPost_ret (results_cell_row rfl _ _ gb356 36 #[.slice Ao14 t357.length co14, .int .i64 a0_1, .int .i64 a0_2, .int .i64 a0_3, .slice Ao25 t369.length co25, .bool a0_5, .slice Ao16 t360.length co16, .slice Ao18 t363.length co18, .slice Ao20 t366.length co20] (0, 0) _ rfl (by (with_reducible repeat (first | refine blk_drewN ?_ _ | refine blk_drew ?_ | refine blk_alloc ?_ _)); refine blk_put (cs := #[.slice Ao14 t357.length co14, .int .i64 a0_1, .int .i64 a0_2, .int .i64 a0_3, .slice Ao25 t369.length co25, .bool a0_5, .slice Ao16 t360.length co16, .slice Ao18 t363.length co18, .slice none 0 0]) ?_ 8 _ rfl; (with_reducible repeat (first | refine blk_drewN ?_ _ | refine blk_drew ?_ | refine blk_alloc ?_ _)); refine blk_put (cs := #[.slice Ao14 t357.length co14, .int .i64 a0_1, .int .i64 a0_2, .int .i64 a0_3, .slice Ao25 t369.length co25, .bool a0_5, .slice Ao16 t360.length co16, .slice none 0 0, .slice none 0 0]) ?_ 7 _ rfl; (with_reducible repeat (first | refine blk_drewN ?_ _ | refine blk_drew ?_ | refine blk_alloc ?_ _)); refine blk_put (cs := #[.slice Ao14 t357.length co14, .int .i64 a0_1, .int .i64 a0_2, .int .i64 a0_3, .slice Ao25 t369.length co25, .bool a0_5, .slice none 0 0, .slice none 0 0, .slice none 0 0]) ?_ 6 _ rfl; (with_reducible repeat (first | refine blk_drewN ?_ _ | refine blk_drew ?_ | refine blk_alloc ?_ _)); refine blk_put (cs := #[.slice Ao14 t357.length co14, .int .i64 a0_1, .int .i64 a0_2, .int .i64 a0_3, .slice Ao25 t369.length co25, .bool false, .slice none 0 0, .slice none 0 0, .slice none 0 0]) ?_ 5 _ rfl; (with_reducible repeat (first | refine blk_drewN ?_ _ | refine blk_drew ?_ | refine blk_alloc ?_ _)); refine blk_put (cs := #[.slice Ao14 t357.length co14, .int .i64 a0_1, .int .i64 a0_2, .int .i64 a0_3, .slice none 0 0, .bool false, .slice none 0 0, .slice none 0 0, .slice none 0 0]) ?_ 4 _ rfl; (with_reducible repeat (first | refine blk_drewN ?_ _ | refine blk_drew ?_ | refine blk_alloc ?_ _)); refine blk_put (cs := #[.slice Ao14 t357.length co14, .int .i64 a0_1, .int .i64 a0_2, .int .i64 0, .slice none 0 0, .bool false, .slice none 0 0, .slice none 0 0, .slice none 0 0]) ?_ 3 _ rfl; (with_reducible repeat (first | refine blk_drewN ?_ _ | refine blk_drew ?_ | refine blk_alloc ?_ _)); refine blk_put (cs := #[.slice Ao14 t357.length co14, .int .i64 a0_1, .int .i64 0, .int .i64 0, .slice none 0 0, .bool false, .slice none 0 0, .slice none 0 0, .slice none 0 0]) ?_ 2 _ rfl; (with_reducible repeat (first | refine blk_drewN ?_ _ | refine blk_drew ?_ | refine blk_alloc ?_ _)); refine blk_put (cs := #[.slice Ao14 t357.length co14, .int .i64 0, .int .i64 0, .int .i64 0, .slice none 0 0, .bool false, .slice none 0 0, .slice none 0 0, .slice none 0 0]) ?_ 1 _ rfl; (with_reducible repeat (first | refine blk_drewN ?_ _ | refine blk_drew ?_ | refine blk_alloc ?_ _)); refine blk_put (cs := #[.slice none 0 0, .int .i64 0, .int .i64 0, .int .i64 0, .slice none 0 0, .bool false, .slice none 0 0, .slice none 0 0, .slice none 0 0]) ?_ 0 _ rfl; exact bf NB356_355.out BK356) Try.underlying36 rfl (by kernel_rfl)) rfl ?_
 exact ⟨_, _, _, _, _, ee, by (with_reducible repeat (first | apply Kd.R_alloc | apply Kd.R_drewN | apply Kd.R_drew)); exact Kd.R_mono (Kd.R_far (p := ⟨gb356, 8, none⟩) (Kd.R_far (p := ⟨gb356, 7, none⟩) (Kd.R_far (p := ⟨gb356, 6, none⟩) (Kd.R_far (p := ⟨gb356, 5, none⟩) (Kd.R_far (p := ⟨gb356, 4, none⟩) (Kd.R_far (p := ⟨gb356, 3, none⟩) (Kd.R_far (p := ⟨gb356, 2, none⟩) (Kd.R_far (p := ⟨gb356, 1, none⟩) (Kd.R_far (p := ⟨gb356, 0, none⟩) (Kd.R_far (p := ⟨gb355, 4, none⟩) (Kd.R_types (Kd.R_types HO359.out BK355.out (by decide)) BK356.out (by decide)) (fun _ hk => hk.1.2) (.slice Ao25 t369.length co25)) (fun _ hk => hk.2) (.slice Ao14 t357.length co14)) (fun _ hk => hk.2) (.int .i64 a0_1)) (fun _ hk => hk.2) (.int .i64 a0_2)) (fun _ hk => hk.2) (.int .i64 a0_3)) (fun _ hk => hk.2) (.slice Ao25 t369.length co25)) (fun _ hk => hk.2) (.bool a0_5)) (fun _ hk => hk.2) (.slice Ao16 t360.length co16)) (fun _ hk => hk.2) (.slice Ao18 t363.length co18)) (fun _ hk => hk.2) (.slice Ao20 t366.length co20)) (fun _ hk => trivial), by (with_reducible repeat (first | apply Kd.R_alloc | apply Kd.R_drewN | apply Kd.R_drew)); exact Kd.R_mono (Kd.R_far (p := ⟨gb356, 8, none⟩) (Kd.R_far (p := ⟨gb356, 7, none⟩) (Kd.R_far (p := ⟨gb356, 6, none⟩) (Kd.R_far (p := ⟨gb356, 5, none⟩) (Kd.R_far (p := ⟨gb356, 4, none⟩) (Kd.R_far (p := ⟨gb356, 3, none⟩) (Kd.R_far (p := ⟨gb356, 2, none⟩) (Kd.R_far (p := ⟨gb356, 1, none⟩) (Kd.R_far (p := ⟨gb356, 0, none⟩) (Kd.R_far (p := ⟨gb355, 4, none⟩) (Kd.R_types (Kd.R_types HO371.out BK355.out (by decide)) BK356.out (by decide)) (fun _ hk => hk.1.2) (.slice Ao25 t369.length co25)) (fun _ hk => hk.2) (.slice Ao14 t357.length co14)) (fun _ hk => hk.2) (.int .i64 a0_1)) (fun _ hk => hk.2) (.int .i64 a0_2)) (fun _ hk => hk.2) (.int .i64 a0_3)) (fun _ hk => hk.2) (.slice Ao25 t369.length co25)) (fun _ hk => hk.2) (.bool a0_5)) (fun _ hk => hk.2) (.slice Ao16 t360.length co16)) (fun _ hk => hk.2) (.slice Ao18 t363.length co18)) (fun _ hk => hk.2) (.slice Ao20 t366.length co20)) (fun _ hk => ⟨hk.1.1.1.2, hk.1.1.2⟩), by (with_reducible repeat (first | apply Kd.R_alloc | apply Kd.R_drewN | apply Kd.R_drew)); exact Kd.R_mono (Kd.R_far (p := ⟨gb356, 8, none⟩) (Kd.R_far (p := ⟨gb356, 7, none⟩) (Kd.R_far (p := ⟨gb356, 6, none⟩) (Kd.R_far (p := ⟨gb356, 5, none⟩) (Kd.R_far (p := ⟨gb356, 4, none⟩) (Kd.R_far (p := ⟨gb356, 3, none⟩) (Kd.R_far (p := ⟨gb356, 2, none⟩) (Kd.R_far (p := ⟨gb356, 1, none⟩) (Kd.R_far (p := ⟨gb356, 0, none⟩) (Kd.R_far (p := ⟨gb355, 4, none⟩) (Kd.R_types (Kd.R_types HO362.out BK355.out (by decide)) BK356.out (by decide)) (fun _ hk => hk.1.2) (.slice Ao25 t369.length co25)) (fun _ hk => hk.2) (.slice Ao14 t357.length co14)) (fun _ hk => hk.2) (.int .i64 a0_1)) (fun _ hk => hk.2) (.int .i64 a0_2)) (fun _ hk => hk.2) (.int .i64 a0_3)) (fun _ hk => hk.2) (.slice Ao25 t369.length co25)) (fun _ hk => hk.2) (.bool a0_5)) (fun _ hk => hk.2) (.slice Ao16 t360.length co16)) (fun _ hk => hk.2) (.slice Ao18 t363.length co18)) (fun _ hk => hk.2) (.slice Ao20 t366.length co20)) (fun _ hk => trivial), by (with_reducible repeat (first | apply Kd.R_alloc | apply Kd.R_drewN | apply Kd.R_drew)); exact Kd.R_mono (Kd.R_far (p := ⟨gb356, 8, none⟩) (Kd.R_far (p := ⟨gb356, 7, none⟩) (Kd.R_far (p := ⟨gb356, 6, none⟩) (Kd.R_far (p := ⟨gb356, 5, none⟩) (Kd.R_far (p := ⟨gb356, 4, none⟩) (Kd.R_far (p := ⟨gb356, 3, none⟩) (Kd.R_far (p := ⟨gb356, 2, none⟩) (Kd.R_far (p := ⟨gb356, 1, none⟩) (Kd.R_far (p := ⟨gb356, 0, none⟩) (Kd.R_far (p := ⟨gb355, 4, none⟩) (Kd.R_types (Kd.R_types HO365.out BK355.out (by decide)) BK356.out (by decide)) (fun _ hk => hk.1.2) (.slice Ao25 t369.length co25)) (fun _ hk => hk.2) (.slice Ao14 t357.length co14)) (fun _ hk => hk.2) (.int .i64 a0_1)) (fun _ hk => hk.2) (.int .i64 a0_2)) (fun _ hk => hk.2) (.int .i64 a0_3)) (fun _ hk => hk.2) (.slice Ao25 t369.length co25)) (fun _ hk => hk.2) (.bool a0_5)) (fun _ hk => hk.2) (.slice Ao16 t360.length co16)) (fun _ hk => hk.2) (.slice Ao18 t363.length co18)) (fun _ hk => hk.2) (.slice Ao20 t366.length co20)) (fun _ hk => ⟨hk.1.1.2, hk.1.1.1.2⟩), by (with_reducible repeat (first | apply Kd.R_alloc | apply Kd.R_drewN | apply Kd.R_drew)); exact Kd.R_mono (Kd.R_far (p := ⟨gb356, 8, none⟩) (Kd.R_far (p := ⟨gb356, 7, none⟩) (Kd.R_far (p := ⟨gb356, 6, none⟩) (Kd.R_far (p := ⟨gb356, 5, none⟩) (Kd.R_far (p := ⟨gb356, 4, none⟩) (Kd.R_far (p := ⟨gb356, 3, none⟩) (Kd.R_far (p := ⟨gb356, 2, none⟩) (Kd.R_far (p := ⟨gb356, 1, none⟩) (Kd.R_far (p := ⟨gb356, 0, none⟩) (Kd.R_far (p := ⟨gb355, 4, none⟩) (Kd.R_types (Kd.R_types HO368.out BK355.out (by decide)) BK356.out (by decide)) (fun _ hk => hk.1.2) (.slice Ao25 t369.length co25)) (fun _ hk => hk.2) (.slice Ao14 t357.length co14)) (fun _ hk => hk.2) (.int .i64 a0_1)) (fun _ hk => hk.2) (.int .i64 a0_2)) (fun _ hk => hk.2) (.int .i64 a0_3)) (fun _ hk => hk.2) (.slice Ao25 t369.length co25)) (fun _ hk => hk.2) (.bool a0_5)) (fun _ hk => hk.2) (.slice Ao16 t360.length co16)) (fun _ hk => hk.2) (.slice Ao18 t363.length co18)) (fun _ hk => hk.2) (.slice Ao20 t366.length co20)) (fun _ hk => ⟨hk.1.1.2, hk.1.1.1.2⟩), bb HB⟩
def impl_plays.f (a0_0 : Int) (a0_1 : Int) (a0_2 : Int) (a0_3 : Int) (a0_4 : Int) (a1 : Int) : Option (Bool) := if a0_0 = a1 then (some true) else (some (a0_1 == a1))
theorem impl_plays.calls (a0_0 : Int) (a0_1 : Int) (a0_2 : Int) (a0_3 : Int) (a0_4 : Int) (a1 : Int) (r : Bool) (w : World) (h : impl_plays.f a0_0 a0_1 a0_2 a0_3 a0_4 a1 = some r) :
  Calls Try.prog 80 #[.agg #[.int .i64 a0_0, .int .i64 a0_1, .int .i64 a0_2, .int .i64 a0_3, .int .i64 a0_4], .int .i64 a1] w fun e w' => e = .returned (.bool r) ∧ Below w.heap.size w w' := by
 have hu95 := Try.underlying95
 have HB := dk (Below.refl w.heap.size w)
 have H : (if a0_0 = a1 then (some true) else (some (a0_1 == a1))) = some r := h
 clear h
 by_cases c3 : a0_0 = a1
 ·rw [if_pos c3] at H
  have c3b0 : (a0_0 == a1) = true := beq_iff_eq.mpr c3
  have c3b1 : (a0_0 != a1) = false := bne_eq_false_iff_eq.mpr c3
  clear c3
  obtain rfl := Option.some.inj H
  go_enter Try.func80, Try.ntmps80
  go_wp2_with (first | ((with_reducible refine gate_dst (N := 2) rfl ?_); refine bx (N := 2) (cs := #[.int .i64 a0_0, .int .i64 a0_1, .int .i64 a0_2, .int .i64 a0_3, .int .i64 a0_4]) (t := 95) ?_; intro gb372 hg w4 hbox hb; have BK372 := dk (hbox); have GW372 := gs hg HB; have GE372 := gs hg HB; replace HB := hs_ HB hb; clear hb hbox hg; have ⟨z5_0, z5_1, z5_2, z5_3, z5_4, v5_0, v5_1, v5_2, v5_3, v5_4⟩ := rz5 BK372))
  go_ret
  exact ⟨ee, bb HB⟩
 ·rw [if_neg c3] at H
  have c3b0 : (a0_0 == a1) = false := beq_eq_false_iff_ne.mpr c3
  have c3b1 : (a0_0 != a1) = true := bne_iff_ne.mpr c3
  obtain rfl := Option.some.inj H
  go_enter Try.func80, Try.ntmps80
  go_wp2_with (first | ((with_reducible refine gate_dst (N := 2) rfl ?_); refine bx (N := 2) (cs := #[.int .i64 a0_0, .int .i64 a0_1, .int .i64 a0_2, .int .i64 a0_3, .int .i64 a0_4]) (t := 95) ?_; intro gb372 hg w6 hbox hb; have BK372 := dk (hbox); have GW372 := gs hg HB; have GE372 := gs hg HB; replace HB := hs_ HB hb; clear hb hbox hg; have ⟨z7_0, z7_1, z7_2, z7_3, z7_4, v7_0, v7_1, v7_2, v7_3, v7_4⟩ := rz5 BK372))
  go_ret
  exact ⟨ee, bb HB⟩
def impl_awarded.f (a0_0 : Int) (a0_1 : Int) (a0_2 : Int) (a0_3 : Int) (a0_4 : Int) (a1 : Int) : Option (Int × Int × Int × Int × Int) := if a0_1 = a1 then (some (a0_0, a0_1, 0, 0, 3)) else (some (a0_0, a0_1, 0, 0, 2))
theorem impl_awarded.calls (a0_0 : Int) (a0_1 : Int) (a0_2 : Int) (a0_3 : Int) (a0_4 : Int) (a1 : Int) (r1 : Int) (r2 : Int) (r3 : Int) (r4 : Int) (r5 : Int) (w : World) (h : impl_awarded.f a0_0 a0_1 a0_2 a0_3 a0_4 a1 = some (r1, r2, r3, r4, r5)) :
    Calls Try.prog 64 #[.agg #[.int .i64 a0_0, .int .i64 a0_1, .int .i64 a0_2, .int .i64 a0_3, .int .i64 a0_4], .int .i64 a1] w fun e w' => e = .returned (.agg #[.int .i64 r1, .int .i64 r2, .int .i64 r3, .int .i64 r4, .int .i64 r5]) ∧ Below w.heap.size w w' := by
  unfold impl_awarded.f at h
  by_cases hc : a0_1 = a1
  · rw [if_pos hc] at h
    have hb : (a0_1 == a1) = true := beq_iff_eq.mpr hc
    clear hc
    simp only [Option.some.injEq, Prod.mk.injEq] at h
    obtain ⟨rfl, rfl, rfl, rfl, rfl⟩ := h
    go_enter Try.func64, Try.ntmps64
    go_wp2
    exact bodyPost_ret (v := .agg #[.int .i64 _, .int .i64 _, .int .i64 _, .int .i64 _, .int .i64 _]) (by simp [results, Try.results64, go_sem]) rfl ⟨rfl, (by repeat (first | exact Below.refl _ _ | apply below_alloc | apply pw_below_drewN | apply below_drew1 | refine below_set ?_ (by simp; try omega)))⟩
  · rw [if_neg hc] at h
    have hb : (a0_1 == a1) = false := beq_eq_false_iff_ne.mpr hc
    clear hc
    simp only [Option.some.injEq, Prod.mk.injEq] at h
    obtain ⟨rfl, rfl, rfl, rfl, rfl⟩ := h
    go_enter Try.func64, Try.ntmps64
    go_wp2
    exact bodyPost_ret (v := .agg #[.int .i64 _, .int .i64 _, .int .i64 _, .int .i64 _, .int .i64 _]) (by simp [results, Try.results64, go_sem]) rfl ⟨rfl, (by repeat (first | exact Below.refl _ _ | apply below_alloc | apply pw_below_drewN | apply below_drew1 | refine below_set ?_ (by simp; try omega)))⟩
def impl_isTeam.f (l0_0 : List (S139)) (a0_1 : Int) (a0_2 : Int) (a0_3 : Int) (l0_4 : List Int) (a0_5 : Bool) (l0_6 : List (S95)) (l0_7 : List Int) (l0_8 : List Int) (a1 : Int) : Option (Bool) := (impl_within.f a1 0 (wrap64 ((l0_0.length : Int) - 1))).bind fun t889 => (some t889)
theorem impl_isTeam.calls (A0_0 : Option Addr) (c0_0 : Nat) (l0_0 : List (S139)) (a0_1 : Int) (a0_2 : Int) (a0_3 : Int) (A0_4 : Option Addr) (c0_4 : Nat) (l0_4 : List Int) (a0_5 : Bool) (A0_6 : Option Addr) (c0_6 : Nat) (l0_6 : List (S95)) (A0_7 : Option Addr) (c0_7 : Nat) (l0_7 : List Int) (A0_8 : Option Addr) (c0_8 : Nat) (l0_8 : List Int) (a1 : Int) (r : Bool) (w : World) (hr0_0 : Kd.C k139 w A0_0 l0_0.length l0_0) (hc0_0 : l0_0.length ≤ c0_0) (hr0_4 : Kd.C (Kd.int .i64) w A0_4 l0_4.length l0_4) (hc0_4 : l0_4.length ≤ c0_4) (hr0_6 : Kd.C k95 w A0_6 l0_6.length l0_6) (hc0_6 : l0_6.length ≤ c0_6) (hr0_7 : Kd.C (Kd.int .i64) w A0_7 l0_7.length l0_7) (hc0_7 : l0_7.length ≤ c0_7) (hr0_8 : Kd.C (Kd.int .i64) w A0_8 l0_8.length l0_8) (hc0_8 : l0_8.length ≤ c0_8) (h : impl_isTeam.f l0_0 a0_1 a0_2 a0_3 l0_4 a0_5 l0_6 l0_7 l0_8 a1 = some r) :
  Calls Try.prog 78 #[.agg #[.slice A0_0 l0_0.length c0_0, .int .i64 a0_1, .int .i64 a0_2, .int .i64 a0_3, .slice A0_4 l0_4.length c0_4, .bool a0_5, .slice A0_6 l0_6.length c0_6, .slice A0_7 l0_7.length c0_7, .slice A0_8 l0_8.length c0_8], .int .i64 a1] w fun e w' => e = .returned (.bool r) ∧ Below w.heap.size w w' := by
 have hu36 := Try.underlying36
 have HR0_0 := dk hr0_0
 have HC0_0 := dk hc0_0
 clear hr0_0 hc0_0
 have HR0_4 := dk hr0_4
 have HC0_4 := dk hc0_4
 clear hr0_4 hc0_4
 have HR0_6 := dk hr0_6
 have HC0_6 := dk hc0_6
 clear hr0_6 hc0_6
 have HR0_7 := dk hr0_7
 have HC0_7 := dk hc0_7
 clear hr0_7 hc0_7
 have HR0_8 := dk hr0_8
 have HC0_8 := dk hc0_8
 clear hr0_8 hc0_8
 have HB := dk (Below.refl w.heap.size w)
 have H : ((impl_within.f a1 0 (wrap64 ((l0_0.length : Int) - 1))).bind fun t889 => (some t889)) = some r := h
 clear h
 replace H := Option.bind_eq_some_iff.mp H
 obtain ⟨t889, A30, H⟩ := H
 try dsimp only at H
 have A3 := dk A30
 clear A30
 obtain rfl := Option.some.inj H
 go_enter Try.func78, Try.ntmps78
 go_wp2_with (first | ((with_reducible refine gate_dst (N := 2) rfl ?_); refine bx (N := 2) (cs := #[.slice A0_0 l0_0.length c0_0, .int .i64 a0_1, .int .i64 a0_2, .int .i64 a0_3, .slice A0_4 l0_4.length c0_4, .bool a0_5, .slice A0_6 l0_6.length c0_6, .slice A0_7 l0_7.length c0_7, .slice A0_8 l0_8.length c0_8]) (t := 36) ?_; intro gb888 hg w4 hbox hb; have BK888 := dk (hbox); have GW888 := gs hg HB; have GE888 := gs hg HB; replace HB := hs_ HB hb; clear hb hbox hg; have ⟨z5_0, z5_1, z5_2, z5_3, z5_4, z5_5, z5_6, z5_7, z5_8, v5_0, v5_1, v5_2, v5_3, v5_4, v5_5, v5_6, v5_7, v5_8⟩ := rz9 BK888) | ((with_reducible refine gate_callee (f := 128) rfl ?_); refine gl (some 10) Try.func128 #[.int .i64 a1, .int .i64 0, .int .i64 (wrap64 ((l0_0.length : Int) - 1))] ?_; (with_reducible refine (impl_within.calls a1 0 (wrap64 ((l0_0.length : Int) - 1)) t889 _ A3.out).mono ?_); rintro e w' ⟨rfl, ⟨nd, rfl⟩⟩; refine ⟨_, rfl, ?_⟩))
 go_ret
 exact ⟨ee, bb HB⟩
def impl_RuleName.f (a0 : Int) : Option (ByteArray) := if a0 = 1 then (some (⟨#[97, 110, 110, 117, 108]⟩ : ByteArray)) else (if a0 = 2 then (some (⟨#[102, 111, 114, 102, 101, 105, 116]⟩ : ByteArray)) else (some (⟨#[]⟩ : ByteArray)))
theorem impl_RuleName.calls (a0 : Int) (r : ByteArray) (w : World) (h : impl_RuleName.f a0 = some r) :
  Calls Try.prog 79 #[.int .i64 a0] w fun e w' => e = .returned (.string r) ∧ Drawn0 w w' := by
 have H : (if a0 = 1 then (some (⟨#[97, 110, 110, 117, 108]⟩ : ByteArray)) else (if a0 = 2 then (some (⟨#[102, 111, 114, 102, 101, 105, 116]⟩ : ByteArray)) else (some (⟨#[]⟩ : ByteArray)))) = some r := h
 clear h
 by_cases c2 : a0 = 1
 ·rw [if_pos c2] at H
  have c2b0 : (a0 == 1) = true := beq_iff_eq.mpr c2
  have c2b1 : (a0 != 1) = false := bne_eq_false_iff_eq.mpr c2
  clear c2
  obtain rfl := Option.some.inj H
  go_enter Try.func79, Try.ntmps79
  go_wp2
  go_ret
  exact ⟨e2_, by repeat (first | exact Drawn0.refl _ | apply Drawn0.step)⟩
 ·rw [if_neg c2] at H
  have c2b0 : (a0 == 1) = false := beq_eq_false_iff_ne.mpr c2
  have c2b1 : (a0 != 1) = true := bne_iff_ne.mpr c2
  by_cases c3 : a0 = 2
  ·rw [if_pos c3] at H
   have c3b0 : (a0 == 2) = true := beq_iff_eq.mpr c3
   have c3b1 : (a0 != 2) = false := bne_eq_false_iff_eq.mpr c3
   clear c3
   obtain rfl := Option.some.inj H
   go_enter Try.func79, Try.ntmps79
   go_wp2
   go_ret
   exact ⟨e2_, by repeat (first | exact Drawn0.refl _ | apply Drawn0.step)⟩
  ·rw [if_neg c3] at H
   have c3b0 : (a0 == 2) = false := beq_eq_false_iff_ne.mpr c3
   have c3b1 : (a0 != 2) = true := bne_iff_ne.mpr c3
   obtain rfl := Option.some.inj H
   go_enter Try.func79, Try.ntmps79
   go_wp2
   go_ret
   exact ⟨e2_, by repeat (first | exact Drawn0.refl _ | apply Drawn0.step)⟩
def impl_IsOpen.f (a0_0 : Int) (a0_1 : Int) (a0_2 : Int) (a0_3 : Int) (a0_4 : Int) : Option (Bool) := some (a0_4 == 0)
theorem impl_IsOpen.calls (a0_0 : Int) (a0_1 : Int) (a0_2 : Int) (a0_3 : Int) (a0_4 : Int) (r : Bool) (w : World) (h : impl_IsOpen.f a0_0 a0_1 a0_2 a0_3 a0_4 = some r) :
  Calls Try.prog 81 #[.agg #[.int .i64 a0_0, .int .i64 a0_1, .int .i64 a0_2, .int .i64 a0_3, .int .i64 a0_4]] w fun e w' => e = .returned (.bool r) ∧ Below w.heap.size w w' := by
 have hu95 := Try.underlying95
 have HB := dk (Below.refl w.heap.size w)
 have H : (some (a0_4 == 0)) = some r := h
 clear h
 obtain rfl := Option.some.inj H
 go_enter Try.func81, Try.ntmps81
 go_wp2_with (first | ((with_reducible refine gate_dst (N := 1) rfl ?_); refine bx (N := 1) (cs := #[.int .i64 a0_0, .int .i64 a0_1, .int .i64 a0_2, .int .i64 a0_3, .int .i64 a0_4]) (t := 95) ?_; intro gb890 hg w2 hbox hb; have BK890 := dk (hbox); have GW890 := gs hg HB; have GE890 := gs hg HB; replace HB := hs_ HB hb; clear hb hbox hg; have ⟨z3_0, z3_1, z3_2, z3_3, z3_4, v3_0, v3_1, v3_2, v3_3, v3_4⟩ := rz5 BK890))
 go_ret
 exact ⟨ee, bb HB⟩
end Go.Proofs.Ythfefanapneocaa.Q
section
namespace Go.Proofs.Ythfefanapneocaa.Q
open Go.RowKit Go.Proofs.YthfefanapneocaaW.PrintWords Go.Proofs.YthfefanapneocaaW.PrintLast Go.Proofs.YthfefanapneocaaW.PrintMore
attribute [local go_sem] max2_int min2_int max_two min_two max_three min_three max_four min_four
set_option linter.unusedVariables false
set_option linter.unusedSimpArgs false
set_option maxRecDepth 100000
set_option maxHeartbeats 8000000
mutual
def impl_Withdraw.j0 : Nat → Int → Int → Bool → List (S139) → Int → Int → Int → List Int → Bool → List (S95) → List Int → List Int → Option ((List (S139)) × Int × Int × Int × List Int × Bool × (List (S95)) × List Int × List Int × Bool)
 | 0, _, _, _, _, _, _, _, _, _, _, _, _ => none
 | k + 1, x1, x2, x24, x892000, x892001, x892002, x892003, x892004, x892005, x892006, x892007, x892008 => if x24 = true then (some (([] : List (S139)), 0, 0, 0, ([] : List Int), false, ([] : List (S95)), ([] : List Int), ([] : List Int), false)) else ((impl_Book_copied.f x892000 x892001 x892002 x892003 x892004 x892005 x892006 x892007 x892008).bind fun bt896 => (impl_Withdraw.l0 k x1 x2 (bt896.2.2.2.2.2.2.1.length : Int) 0 bt896.1 bt896.2.1 bt896.2.2.1 bt896.2.2.2.1 bt896.2.2.2.2.1 bt896.2.2.2.2.2.1 bt896.2.2.2.2.2.2.1 bt896.2.2.2.2.2.2.2.1 bt896.2.2.2.2.2.2.2.2))
def impl_Withdraw.l0 : Nat → Int → Int → Int → Int → List (S139) → Int → Int → Int → List Int → Bool → List (S95) → List Int → List Int → Option ((List (S139)) × Int × Int × Int × List Int × Bool × (List (S95)) × List Int × List Int × Bool)
 | 0, _, _, _, _, _, _, _, _, _, _, _, _, _ => none
 | k + 1, x1, x2, x30, x31, x916000, x916001, x916002, x916003, x916004, x916005, x916006, x916007, x916008 => if x31 < x30 then (if 0 ≤ x31 then (if x31 < (x916006.length : Int) then ((impl_plays.f ((rd_T95 x916006 x31).f0) ((rd_T95 x916006 x31).f1) ((rd_T95 x916006 x31).f2) ((rd_T95 x916006 x31).f3) ((rd_T95 x916006 x31).f4) x1).bind fun t918 => (if t918 = true then (if x2 = 1 then (impl_Withdraw.l0 k x1 x2 x30 (wrap64 (x31 + 1)) x916000 x916001 x916002 x916003 x916004 x916005 (x916006.set (x31 : Int).toNat (⟨(rd_T95 x916006 x31).f0, (rd_T95 x916006 x31).f1, 0, 0, 4⟩ : S95)) x916007 x916008) else ((impl_IsOpen.f ((rd_T95 x916006 x31).f0) ((rd_T95 x916006 x31).f1) ((rd_T95 x916006 x31).f2) ((rd_T95 x916006 x31).f3) ((rd_T95 x916006 x31).f4)).bind fun t920 => (if t920 = true then ((impl_awarded.f ((rd_T95 x916006 x31).f0) ((rd_T95 x916006 x31).f1) ((rd_T95 x916006 x31).f2) ((rd_T95 x916006 x31).f3) ((rd_T95 x916006 x31).f4) (wrap64 ((wrap64 (((rd_T95 x916006 x31).f0) + ((rd_T95 x916006 x31).f1))) - x1))).bind fun bt921 => (impl_Withdraw.l0 k x1 x2 x30 (wrap64 (x31 + 1)) x916000 x916001 x916002 x916003 x916004 x916005 (x916006.set (x31 : Int).toNat (⟨bt921.1, bt921.2.1, bt921.2.2.1, bt921.2.2.2.1, bt921.2.2.2.2⟩ : S95)) x916007 x916008)) else (impl_Withdraw.l0 k x1 x2 x30 (wrap64 (x31 + 1)) x916000 x916001 x916002 x916003 x916004 x916005 x916006 x916007 x916008)))) else (impl_Withdraw.l0 k x1 x2 x30 (wrap64 (x31 + 1)) x916000 x916001 x916002 x916003 x916004 x916005 x916006 x916007 x916008))) else (none)) else (none)) else (some (x916000, x916001, x916002, x916003, x916004, x916005, x916006, x916007, x916008, true))
end
def impl_Withdraw.f (k : Nat) (l0_0 : List (S139)) (a0_1 : Int) (a0_2 : Int) (a0_3 : Int) (l0_4 : List Int) (a0_5 : Bool) (l0_6 : List (S95)) (l0_7 : List Int) (l0_8 : List Int) (a1 : Int) (a2 : Int) : Option ((List (S139)) × Int × Int × Int × List Int × Bool × (List (S95)) × List Int × List Int × Bool) := (impl_BookOk.f k l0_0 a0_1 a0_2 a0_3 l0_4 a0_5 l0_6 l0_7 l0_8).bind fun t893 => (if t893 = true then ((impl_isTeam.f l0_0 a0_1 a0_2 a0_3 l0_4 a0_5 l0_6 l0_7 l0_8 a1).bind fun t894 => (if t894 = true then ((impl_RuleName.f a2).bind fun t895 => (impl_Withdraw.j0 k a1 a2 (t895.toList == ([] : List UInt8)) l0_0 a0_1 a0_2 a0_3 l0_4 a0_5 l0_6 l0_7 l0_8)) else (impl_Withdraw.j0 k a1 a2 true l0_0 a0_1 a0_2 a0_3 l0_4 a0_5 l0_6 l0_7 l0_8))) else (impl_Withdraw.j0 k a1 a2 true l0_0 a0_1 a0_2 a0_3 l0_4 a0_5 l0_6 l0_7 l0_8))
def impl_Withdraw.T11 : Bool × List (List Nat × List Nat) := (true, [([], []), ([0], [0]), ([], []), ([], []), ([], []), ([4], [4]), ([], []), ([6], [6]), ([5, 7], [5, 7]), ([], []), ([8, 9], [8, 9]), ([3, 10], [3, 10]), ([1, 2, 0, 1, 2, 3, 4, 5, 6, 7, 8, 9, 10, 11], [1, 2]), ([12, 11, 11, 0, 1, 2, 3, 4, 5, 6, 7, 8, 9, 10, 11], [11, 12])])
def impl_Withdraw.B11 : List Nat := [0, 1, 0, 0, 0, 16, 0, 64, 240, 0, 1008, 2040, 4095, 8191]
theorem impl_Withdraw.tab11 : rtab .any (opsOf Try.f25 11) = impl_Withdraw.T11 := by kernel_rfl
theorem impl_Withdraw.bits11 : waitsOk impl_Withdraw.T11.2 impl_Withdraw.B11 = true := by kernel_rfl
theorem impl_Withdraw.calls (k : Nat) (A0_0 : Option Addr) (c0_0 : Nat) (l0_0 : List (S139)) (a0_1 : Int) (a0_2 : Int) (a0_3 : Int) (A0_4 : Option Addr) (c0_4 : Nat) (l0_4 : List Int) (a0_5 : Bool) (A0_6 : Option Addr) (c0_6 : Nat) (l0_6 : List (S95)) (A0_7 : Option Addr) (c0_7 : Nat) (l0_7 : List Int) (A0_8 : Option Addr) (c0_8 : Nat) (l0_8 : List Int) (a1 : Int) (a2 : Int) (r1 : List (S139)) (r2 : Int) (r3 : Int) (r4 : Int) (r5 : List Int) (r6 : Bool) (r7 : List (S95)) (r8 : List Int) (r9 : List Int) (r10 : Bool) (w : World) (hr0_0 : Kd.C k139 w A0_0 l0_0.length l0_0) (hc0_0 : l0_0.length ≤ c0_0) (hr0_4 : Kd.C (Kd.int .i64) w A0_4 l0_4.length l0_4) (hc0_4 : l0_4.length ≤ c0_4) (hr0_6 : Kd.C k95 w A0_6 l0_6.length l0_6) (hc0_6 : l0_6.length ≤ c0_6) (hr0_7 : Kd.C (Kd.int .i64) w A0_7 l0_7.length l0_7) (hc0_7 : l0_7.length ≤ c0_7) (hr0_8 : Kd.C (Kd.int .i64) w A0_8 l0_8.length l0_8) (hc0_8 : l0_8.length ≤ c0_8) (h : impl_Withdraw.f k l0_0 a0_1 a0_2 a0_3 l0_4 a0_5 l0_6 l0_7 l0_8 a1 a2 = some (r1, r2, r3, r4, r5, r6, r7, r8, r9, r10)) :
  Calls Try.prog 25 #[.agg #[.slice A0_0 l0_0.length c0_0, .int .i64 a0_1, .int .i64 a0_2, .int .i64 a0_3, .slice A0_4 l0_4.length c0_4, .bool a0_5, .slice A0_6 l0_6.length c0_6, .slice A0_7 l0_7.length c0_7, .slice A0_8 l0_8.length c0_8], .int .i64 a1, .int .i64 a2] w fun e w' => ∃ v0_ v4_ v6_ v7_ v8_ : Value, e = .returned (.tuple #[.agg #[v0_, .int .i64 r2, .int .i64 r3, .int .i64 r4, v4_, .bool r6, v6_, v7_, v8_], .bool r10]) ∧ Kd.R k139 139 w' w.heap.size (fun _ => True) v0_ r1 ∧ Kd.R (Kd.int .i64) 3 w' w.heap.size (fun k_ => some k_ ≠ (v7_ : Value).ownBlock ∧ some k_ ≠ (v8_ : Value).ownBlock) v4_ r5 ∧ Kd.R k95 95 w' w.heap.size (fun _ => True) v6_ r7 ∧ Kd.R (Kd.int .i64) 3 w' w.heap.size (fun k_ => some k_ ≠ (v4_ : Value).ownBlock ∧ some k_ ≠ (v8_ : Value).ownBlock) v7_ r8 ∧ Kd.R (Kd.int .i64) 3 w' w.heap.size (fun k_ => some k_ ≠ (v4_ : Value).ownBlock ∧ some k_ ≠ (v7_ : Value).ownBlock) v8_ r9 ∧ Below w.heap.size w w' := by
 have hu36 := Try.underlying36
 have hu95 := Try.underlying95
 have HR0_0 := dk hr0_0
 have HC0_0 := dk hc0_0
 clear hr0_0 hc0_0
 have HR0_4 := dk hr0_4
 have HC0_4 := dk hc0_4
 clear hr0_4 hc0_4
 have HR0_6 := dk hr0_6
 have HC0_6 := dk hc0_6
 clear hr0_6 hc0_6
 have HR0_7 := dk hr0_7
 have HC0_7 := dk hc0_7
 clear hr0_7 hc0_7
 have HR0_8 := dk hr0_8
 have HC0_8 := dk hc0_8
 clear hr0_8 hc0_8
 have HB := dk (Below.refl w.heap.size w)
 have H : ((impl_BookOk.f k l0_0 a0_1 a0_2 a0_3 l0_4 a0_5 l0_6 l0_7 l0_8).bind fun t893 => (if t893 = true then ((impl_isTeam.f l0_0 a0_1 a0_2 a0_3 l0_4 a0_5 l0_6 l0_7 l0_8 a1).bind fun t894 => (if t894 = true then ((impl_RuleName.f a2).bind fun t895 => (impl_Withdraw.j0 k a1 a2 (t895.toList == ([] : List UInt8)) l0_0 a0_1 a0_2 a0_3 l0_4 a0_5 l0_6 l0_7 l0_8)) else (impl_Withdraw.j0 k a1 a2 true l0_0 a0_1 a0_2 a0_3 l0_4 a0_5 l0_6 l0_7 l0_8))) else (impl_Withdraw.j0 k a1 a2 true l0_0 a0_1 a0_2 a0_3 l0_4 a0_5 l0_6 l0_7 l0_8))) = some (r1, r2, r3, r4, r5, r6, r7, r8, r9, r10) := h
 clear h
 have HC4 := dk H
 clear H
 go_enter Try.func25, Try.ntmps25
 go_upto_region 1 with (first | ((with_reducible refine gate_dst (N := 3) rfl ?_); refine bx (N := 3) (cs := #[.slice A0_0 l0_0.length c0_0, .int .i64 a0_1, .int .i64 a0_2, .int .i64 a0_3, .slice A0_4 l0_4.length c0_4, .bool a0_5, .slice A0_6 l0_6.length c0_6, .slice A0_7 l0_7.length c0_7, .slice A0_8 l0_8.length c0_8]) (t := 36) ?_; intro gb891 hg w5 hbox hb; have BK891 := dk (hbox); have GW891 := gs hg HB; have GE891 := gs hg HB; replace HB := hs_ HB hb; clear hb hbox hg) | ((with_reducible refine gate_dst (N := 6) rfl ?_); refine bx (N := 6) (cs := #[.slice none 0 0, .int .i64 0, .int .i64 0, .int .i64 0, .slice none 0 0, .bool false, .slice none 0 0, .slice none 0 0, .slice none 0 0]) (t := 36) ?_; intro gb892 hg w6 hbox hb; have BK892 := dk (hbox); have GW892 := gs hg HB; have GE892 := gs hg HB; replace HB := hs_ HB hb; have NB891_892 := gn hg BK891; have NB892_891 := gm hg BK891; replace BK891 := kb BK891 hb; clear hb hbox hg))
 (try simp only [Act.put, List.setIfInBounds_toArray, List.set_cons_zero, List.set_cons_succ])
 go_cut [24] (fun v24 wc => ∃ (kq : Nat) (x24_3 : Bool), v24 = .bool x24_3 ∧ Aside0 (impl_Withdraw.j0 kq a1 a2 x24_3 l0_0 a0_1 a0_2 a0_3 l0_4 a0_5 l0_6 l0_7 l0_8 = some (r1, r2, r3, r4, r5, r6, r7, r8, r9, r10)) ∧ Aside0 (kq ≤ k) ∧ Aside0 (wc.heap[gb891]? = some (.cells #[(.slice A0_0 l0_0.length c0_0), .int .i64 a0_1, .int .i64 a0_2, .int .i64 a0_3, (.slice A0_4 l0_4.length c0_4), .bool a0_5, (.slice A0_6 l0_6.length c0_6), (.slice A0_7 l0_7.length c0_7), (.slice A0_8 l0_8.length c0_8)] 36 (0, 0))) ∧ Aside0 (wc.heap[gb892]? = some (.cells #[(.slice none 0 0), .int .i64 0, .int .i64 0, .int .i64 0, (.slice none 0 0), .bool false, (.slice none 0 0), (.slice none 0 0), (.slice none 0 0)] 36 (0, 0))) ∧ Aside0 (Below w.heap.size w wc))
 case first =>
  have H := HC4.out
  clear HC4
  replace H := Option.bind_eq_some_iff.mp H
  obtain ⟨t893, A70, H⟩ := H
  replace H : (if t893 = true then ((impl_isTeam.f l0_0 a0_1 a0_2 a0_3 l0_4 a0_5 l0_6 l0_7 l0_8 a1).bind fun t894 => (if t894 = true then ((impl_RuleName.f a2).bind fun t895 => (impl_Withdraw.j0 k a1 a2 (t895.toList == ([] : List UInt8)) l0_0 a0_1 a0_2 a0_3 l0_4 a0_5 l0_6 l0_7 l0_8)) else (impl_Withdraw.j0 k a1 a2 true l0_0 a0_1 a0_2 a0_3 l0_4 a0_5 l0_6 l0_7 l0_8))) else (impl_Withdraw.j0 k a1 a2 true l0_0 a0_1 a0_2 a0_3 l0_4 a0_5 l0_6 l0_7 l0_8)) = some (r1, r2, r3, r4, r5, r6, r7, r8, r9, r10) := H
  have A7 := dk A70
  clear A70
  by_cases c8 : t893 = true
  ·subst c8
   have H1 : ((impl_isTeam.f l0_0 a0_1 a0_2 a0_3 l0_4 a0_5 l0_6 l0_7 l0_8 a1).bind fun t894 => (if t894 = true then ((impl_RuleName.f a2).bind fun t895 => (impl_Withdraw.j0 k a1 a2 (t895.toList == ([] : List UInt8)) l0_0 a0_1 a0_2 a0_3 l0_4 a0_5 l0_6 l0_7 l0_8)) else (impl_Withdraw.j0 k a1 a2 true l0_0 a0_1 a0_2 a0_3 l0_4 a0_5 l0_6 l0_7 l0_8))) = some (r1, r2, r3, r4, r5, r6, r7, r8, r9, r10) := by rw [if_pos rfl] at H; exact H
   clear H
   have H := H1
   clear H1
   replace H := Option.bind_eq_some_iff.mp H
   obtain ⟨t894, A90, H⟩ := H
   replace H : (if t894 = true then ((impl_RuleName.f a2).bind fun t895 => (impl_Withdraw.j0 k a1 a2 (t895.toList == ([] : List UInt8)) l0_0 a0_1 a0_2 a0_3 l0_4 a0_5 l0_6 l0_7 l0_8)) else (impl_Withdraw.j0 k a1 a2 true l0_0 a0_1 a0_2 a0_3 l0_4 a0_5 l0_6 l0_7 l0_8)) = some (r1, r2, r3, r4, r5, r6, r7, r8, r9, r10) := H
   have A9 := dk A90
   clear A90
   by_cases c10 : t894 = true
   ·subst c10
    have H1 : ((impl_RuleName.f a2).bind fun t895 => (impl_Withdraw.j0 k a1 a2 (t895.toList == ([] : List UInt8)) l0_0 a0_1 a0_2 a0_3 l0_4 a0_5 l0_6 l0_7 l0_8)) = some (r1, r2, r3, r4, r5, r6, r7, r8, r9, r10) := by rw [if_pos rfl] at H; exact H
    clear H
    have H := H1
    clear H1
    replace H := Option.bind_eq_some_iff.mp H
    obtain ⟨t895, A110, H⟩ := H
    replace H : (impl_Withdraw.j0 k a1 a2 (t895.toList == ([] : List UInt8)) l0_0 a0_1 a0_2 a0_3 l0_4 a0_5 l0_6 l0_7 l0_8) = some (r1, r2, r3, r4, r5, r6, r7, r8, r9, r10) := H
    have A11 := dk A110
    clear A110
    have H' := dk H
    clear H
    have hnb12 := NB891_892.out
    have hnc12 := NB892_891.out
    have ⟨z13_0, z13_1, z13_2, z13_3, z13_4, z13_5, z13_6, z13_7, z13_8, v13_0, v13_1, v13_2, v13_3, v13_4, v13_5, v13_6, v13_7, v13_8⟩ := rz9 BK891
    go_wp2_with (first | ((with_reducible refine gate_callee (f := 61) rfl ?_); refine gl (some 12) Try.func61 #[.agg #[.slice A0_0 l0_0.length c0_0, .int .i64 a0_1, .int .i64 a0_2, .int .i64 a0_3, .slice A0_4 l0_4.length c0_4, .bool a0_5, .slice A0_6 l0_6.length c0_6, .slice A0_7 l0_7.length c0_7, .slice A0_8 l0_8.length c0_8]] ?_; (with_reducible refine (impl_BookOk.calls k _ _ l0_0 a0_1 a0_2 a0_3 _ _ l0_4 a0_5 _ _ l0_6 _ _ l0_7 _ _ l0_8 true _ ?side1 ?side2 ?side3 ?side4 ?side5 ?side6 ?side7 ?side8 ?side9 ?side10 A7.out).mono ?_); (case side1 => exact cc HR0_0 HB); (case side2 => exact HC0_0.out); (case side3 => exact cc HR0_4 HB); (case side4 => exact HC0_4.out); (case side5 => exact cc HR0_6 HB); (case side6 => exact HC0_6.out); (case side7 => exact cc HR0_7 HB); (case side8 => exact HC0_7.out); (case side9 => exact cc HR0_8 HB); (case side10 => exact HC0_8.out); rintro e w14 ⟨rfl, hb⟩; refine ⟨_, rfl, ?_⟩; replace BK891 := kb BK891 hb; replace BK892 := kb BK892 hb; replace HB := hs_ HB hb; (try clear hb hb2 hk hi); have ⟨z15_0, z15_1, z15_2, z15_3, z15_4, z15_5, z15_6, z15_7, z15_8, v15_0, v15_1, v15_2, v15_3, v15_4, v15_5, v15_6, v15_7, v15_8⟩ := rz9 BK891) | (go_at_call 78; (with_reducible refine (impl_isTeam.calls _ _ l0_0 a0_1 a0_2 a0_3 _ _ l0_4 a0_5 _ _ l0_6 _ _ l0_7 _ _ l0_8 a1 true _ ?side1 ?side2 ?side3 ?side4 ?side5 ?side6 ?side7 ?side8 ?side9 ?side10 A9.out).mono ?_); (case side1 => exact cc HR0_0 HB); (case side2 => exact HC0_0.out); (case side3 => exact cc HR0_4 HB); (case side4 => exact HC0_4.out); (case side5 => exact cc HR0_6 HB); (case side6 => exact HC0_6.out); (case side7 => exact cc HR0_7 HB); (case side8 => exact HC0_7.out); (case side9 => exact cc HR0_8 HB); (case side10 => exact HC0_8.out); rintro e w16 ⟨rfl, hb⟩; replace BK891 := kb BK891 hb; replace BK892 := kb BK892 hb; replace HB := hs_ HB hb; (try clear hb hb2 hk hi)) | (go_at_call 79; (with_reducible refine (impl_RuleName.calls a2 t895 _ A11.out).mono ?_); rintro e w' ⟨rfl, ⟨nd, rfl⟩⟩))
    go_meet
    case rel => exact ⟨_, ((t895.toList == ([] : List UInt8))), e2_, H', ⟨by first | omega | exact Nat.le_refl _⟩, ⟨bk BK891⟩, ⟨bk BK892⟩, ⟨bb HB⟩⟩
   ·replace c10 := Bool.eq_false_iff.mpr c10
    subst c10
    have H1 : (impl_Withdraw.j0 k a1 a2 true l0_0 a0_1 a0_2 a0_3 l0_4 a0_5 l0_6 l0_7 l0_8) = some (r1, r2, r3, r4, r5, r6, r7, r8, r9, r10) := by rw [if_neg (show ¬ (false = true) by decide)] at H; exact H
    clear H
    have H := H1
    clear H1
    have H' := dk H
    clear H
    have hnb17 := NB891_892.out
    have hnc17 := NB892_891.out
    have ⟨z18_0, z18_1, z18_2, z18_3, z18_4, z18_5, z18_6, z18_7, z18_8, v18_0, v18_1, v18_2, v18_3, v18_4, v18_5, v18_6, v18_7, v18_8⟩ := rz9 BK891
    go_wp2_with (first | ((with_reducible refine gate_callee (f := 61) rfl ?_); refine gl (some 12) Try.func61 #[.agg #[.slice A0_0 l0_0.length c0_0, .int .i64 a0_1, .int .i64 a0_2, .int .i64 a0_3, .slice A0_4 l0_4.length c0_4, .bool a0_5, .slice A0_6 l0_6.length c0_6, .slice A0_7 l0_7.length c0_7, .slice A0_8 l0_8.length c0_8]] ?_; (with_reducible refine (impl_BookOk.calls k _ _ l0_0 a0_1 a0_2 a0_3 _ _ l0_4 a0_5 _ _ l0_6 _ _ l0_7 _ _ l0_8 true _ ?side1 ?side2 ?side3 ?side4 ?side5 ?side6 ?side7 ?side8 ?side9 ?side10 A7.out).mono ?_); (case side1 => exact cc HR0_0 HB); (case side2 => exact HC0_0.out); (case side3 => exact cc HR0_4 HB); (case side4 => exact HC0_4.out); (case side5 => exact cc HR0_6 HB); (case side6 => exact HC0_6.out); (case side7 => exact cc HR0_7 HB); (case side8 => exact HC0_7.out); (case side9 => exact cc HR0_8 HB); (case side10 => exact HC0_8.out); rintro e w19 ⟨rfl, hb⟩; refine ⟨_, rfl, ?_⟩; replace BK891 := kb BK891 hb; replace BK892 := kb BK892 hb; replace HB := hs_ HB hb; (try clear hb hb2 hk hi); have ⟨z20_0, z20_1, z20_2, z20_3, z20_4, z20_5, z20_6, z20_7, z20_8, v20_0, v20_1, v20_2, v20_3, v20_4, v20_5, v20_6, v20_7, v20_8⟩ := rz9 BK891) | (go_at_call 78; (with_reducible refine (impl_isTeam.calls _ _ l0_0 a0_1 a0_2 a0_3 _ _ l0_4 a0_5 _ _ l0_6 _ _ l0_7 _ _ l0_8 a1 false _ ?side1 ?side2 ?side3 ?side4 ?side5 ?side6 ?side7 ?side8 ?side9 ?side10 A9.out).mono ?_); (case side1 => exact cc HR0_0 HB); (case side2 => exact HC0_0.out); (case side3 => exact cc HR0_4 HB); (case side4 => exact HC0_4.out); (case side5 => exact cc HR0_6 HB); (case side6 => exact HC0_6.out); (case side7 => exact cc HR0_7 HB); (case side8 => exact HC0_7.out); (case side9 => exact cc HR0_8 HB); (case side10 => exact HC0_8.out); rintro e w21 ⟨rfl, hb⟩; replace BK891 := kb BK891 hb; replace BK892 := kb BK892 hb; replace HB := hs_ HB hb; (try clear hb hb2 hk hi)))
    go_meet
    case rel => exact ⟨_, (true), e2_, H', ⟨by first | omega | exact Nat.le_refl _⟩, ⟨bk BK891⟩, ⟨bk BK892⟩, ⟨bb HB⟩⟩
  ·replace c8 := Bool.eq_false_iff.mpr c8
   subst c8
   have H1 : (impl_Withdraw.j0 k a1 a2 true l0_0 a0_1 a0_2 a0_3 l0_4 a0_5 l0_6 l0_7 l0_8) = some (r1, r2, r3, r4, r5, r6, r7, r8, r9, r10) := by rw [if_neg (show ¬ (false = true) by decide)] at H; exact H
   clear H
   have H := H1
   clear H1
   have H' := dk H
   clear H
   have hnb22 := NB891_892.out
   have hnc22 := NB892_891.out
   have ⟨z23_0, z23_1, z23_2, z23_3, z23_4, z23_5, z23_6, z23_7, z23_8, v23_0, v23_1, v23_2, v23_3, v23_4, v23_5, v23_6, v23_7, v23_8⟩ := rz9 BK891
   go_wp2_with (first | ((with_reducible refine gate_callee (f := 61) rfl ?_); refine gl (some 12) Try.func61 #[.agg #[.slice A0_0 l0_0.length c0_0, .int .i64 a0_1, .int .i64 a0_2, .int .i64 a0_3, .slice A0_4 l0_4.length c0_4, .bool a0_5, .slice A0_6 l0_6.length c0_6, .slice A0_7 l0_7.length c0_7, .slice A0_8 l0_8.length c0_8]] ?_; (with_reducible refine (impl_BookOk.calls k _ _ l0_0 a0_1 a0_2 a0_3 _ _ l0_4 a0_5 _ _ l0_6 _ _ l0_7 _ _ l0_8 false _ ?side1 ?side2 ?side3 ?side4 ?side5 ?side6 ?side7 ?side8 ?side9 ?side10 A7.out).mono ?_); (case side1 => exact cc HR0_0 HB); (case side2 => exact HC0_0.out); (case side3 => exact cc HR0_4 HB); (case side4 => exact HC0_4.out); (case side5 => exact cc HR0_6 HB); (case side6 => exact HC0_6.out); (case side7 => exact cc HR0_7 HB); (case side8 => exact HC0_7.out); (case side9 => exact cc HR0_8 HB); (case side10 => exact HC0_8.out); rintro e w24 ⟨rfl, hb⟩; refine ⟨_, rfl, ?_⟩; replace BK891 := kb BK891 hb; replace BK892 := kb BK892 hb; replace HB := hs_ HB hb; (try clear hb hb2 hk hi)))
   go_meet
   case rel => exact ⟨_, (true), e2_, H', ⟨by first | omega | exact Nat.le_refl _⟩, ⟨bk BK891⟩, ⟨bk BK892⟩, ⟨bb HB⟩⟩
 case rest =>
  clear HC4
  (try clear c1)
  (try clear c2)
  (try clear p2)
  (try clear c6)
  (try clear c8)
  (try clear c10)
  (try clear c12)
  (try clear c17)
  (try clear c22)
  (try clear z13_0 z13_1 z13_2 z13_3 z13_4 z13_5 z13_6 z13_7 z13_8)
  (try clear z15_0 z15_1 z15_2 z15_3 z15_4 z15_5 z15_6 z15_7 z15_8)
  (try clear z18_0 z18_1 z18_2 z18_3 z18_4 z18_5 z18_6 z18_7 z18_8)
  (try clear z20_0 z20_1 z20_2 z20_3 z20_4 z20_5 z20_6 z20_7 z20_8)
  (try clear z23_0 z23_1 z23_2 z23_3 z23_4 z23_5 z23_6 z23_7 z23_8)
  (try clear v13_0 v13_1 v13_2 v13_3 v13_4 v13_5 v13_6 v13_7 v13_8)
  (try clear v15_0 v15_1 v15_2 v15_3 v15_4 v15_5 v15_6 v15_7 v15_8)
  (try clear v18_0 v18_1 v18_2 v18_3 v18_4 v18_5 v18_6 v18_7 v18_8)
  (try clear v20_0 v20_1 v20_2 v20_3 v20_4 v20_5 v20_6 v20_7 v20_8)
  (try clear v23_0 v23_1 v23_2 v23_3 v23_4 v23_5 v23_6 v23_7 v23_8)
  obtain ⟨kq, x24_3, rfl, HA, HJ3, BK891, BK892, HB⟩ := hcut
  cases kq with
  | zero => exact absurd HA.out (by simp [impl_Withdraw.j0])
  | succ kj3 =>
   have H := HA.out
   clear HA
   simp only [impl_Withdraw.j0] at H
   by_cases c25 : x24_3 = true
   ·subst c25
    have H1 : (some (([] : List (S139)), 0, 0, 0, ([] : List Int), false, ([] : List (S95)), ([] : List Int), ([] : List Int), false)) = some (r1, r2, r3, r4, r5, r6, r7, r8, r9, r10) := by rw [if_pos rfl] at H; exact H
    clear H
    have H := H1
    clear H1
    simp only [Option.some.injEq, Prod.mk.injEq] at H
    obtain ⟨rfl, rfl, rfl, rfl, rfl, rfl, rfl, rfl, rfl, rfl⟩ := H
    have hnb26 := NB892_891.out
    have hnc26 := NB891_892.out
    have ⟨z27_0, z27_1, z27_2, z27_3, z27_4, z27_5, z27_6, z27_7, z27_8, v27_0, v27_1, v27_2, v27_3, v27_4, v27_5, v27_6, v27_7, v27_8⟩ := rz9 BK892
    go_wp2
    refine bodyPost_ret (results_ct rfl _ _ gb892 36 #[.slice none 0 0, .int .i64 0, .int .i64 0, .int .i64 0, .slice none 0 0, .bool false, .slice none 0 0, .slice none 0 0, .slice none 0 0] (0, 0) _ rfl (by (with_reducible repeat (first | refine blk_drewN ?_ _ | refine blk_drew ?_ | refine blk_alloc ?_ _)); refine blk_put (cs := #[.slice none 0 0, .int .i64 0, .int .i64 0, .int .i64 0, .slice none 0 0, .bool false, .slice none 0 0, .slice none 0 0, .slice none 0 0]) ?_ 8 _ rfl; (with_reducible repeat (first | refine blk_drewN ?_ _ | refine blk_drew ?_ | refine blk_alloc ?_ _)); refine blk_put (cs := #[.slice none 0 0, .int .i64 0, .int .i64 0, .int .i64 0, .slice none 0 0, .bool false, .slice none 0 0, .slice none 0 0, .slice none 0 0]) ?_ 7 _ rfl; (with_reducible repeat (first | refine blk_drewN ?_ _ | refine blk_drew ?_ | refine blk_alloc ?_ _)); refine blk_put (cs := #[.slice none 0 0, .int .i64 0, .int .i64 0, .int .i64 0, .slice none 0 0, .bool false, .slice none 0 0, .slice none 0 0, .slice none 0 0]) ?_ 6 _ rfl; (with_reducible repeat (first | refine blk_drewN ?_ _ | refine blk_drew ?_ | refine blk_alloc ?_ _)); refine blk_put (cs := #[.slice none 0 0, .int .i64 0, .int .i64 0, .int .i64 0, .slice none 0 0, .bool false, .slice none 0 0, .slice none 0 0, .slice none 0 0]) ?_ 5 _ rfl; (with_reducible repeat (first | refine blk_drewN ?_ _ | refine blk_drew ?_ | refine blk_alloc ?_ _)); refine blk_put (cs := #[.slice none 0 0, .int .i64 0, .int .i64 0, .int .i64 0, .slice none 0 0, .bool false, .slice none 0 0, .slice none 0 0, .slice none 0 0]) ?_ 4 _ rfl; (with_reducible repeat (first | refine blk_drewN ?_ _ | refine blk_drew ?_ | refine blk_alloc ?_ _)); refine blk_put (cs := #[.slice none 0 0, .int .i64 0, .int .i64 0, .int .i64 0, .slice none 0 0, .bool false, .slice none 0 0, .slice none 0 0, .slice none 0 0]) ?_ 3 _ rfl; (with_reducible repeat (first | refine blk_drewN ?_ _ | refine blk_drew ?_ | refine blk_alloc ?_ _)); refine blk_put (cs := #[.slice none 0 0, .int .i64 0, .int .i64 0, .int .i64 0, .slice none 0 0, .bool false, .slice none 0 0, .slice none 0 0, .slice none 0 0]) ?_ 2 _ rfl; (with_reducible repeat (first | refine blk_drewN ?_ _ | refine blk_drew ?_ | refine blk_alloc ?_ _)); refine blk_put (cs := #[.slice none 0 0, .int .i64 0, .int .i64 0, .int .i64 0, .slice none 0 0, .bool false, .slice none 0 0, .slice none 0 0, .slice none 0 0]) ?_ 1 _ rfl; (with_reducible repeat (first | refine blk_drewN ?_ _ | refine blk_drew ?_ | refine blk_alloc ?_ _)); refine blk_put (cs := #[.slice none 0 0, .int .i64 0, .int .i64 0, .int .i64 0, .slice none 0 0, .bool false, .slice none 0 0, .slice none 0 0, .slice none 0 0]) ?_ 0 _ rfl; (with_reducible repeat (first | refine blk_drewN ?_ _ | refine blk_drew ?_ | refine blk_alloc ?_ _)); exact BK892.out) Try.underlying36 rfl (by kernel_rfl)) rfl ?_
    exact ⟨_, _, _, _, _, ee, by first | exact Kd.R_nil _ _ _ _ _ | exact Kd.N_nil _ _ _ _ _ | exact Kd.V_nil _ _ _ _ _ | exact Kd.Q_nil _ _ _ _ _ | exact Kd.S_nil _ _ _ _ _, by first | exact Kd.R_nil _ _ _ _ _ | exact Kd.N_nil _ _ _ _ _ | exact Kd.V_nil _ _ _ _ _ | exact Kd.Q_nil _ _ _ _ _ | exact Kd.S_nil _ _ _ _ _, by first | exact Kd.R_nil _ _ _ _ _ | exact Kd.N_nil _ _ _ _ _ | exact Kd.V_nil _ _ _ _ _ | exact Kd.Q_nil _ _ _ _ _ | exact Kd.S_nil _ _ _ _ _, by first | exact Kd.R_nil _ _ _ _ _ | exact Kd.N_nil _ _ _ _ _ | exact Kd.V_nil _ _ _ _ _ | exact Kd.Q_nil _ _ _ _ _ | exact Kd.S_nil _ _ _ _ _, by first | exact Kd.R_nil _ _ _ _ _ | exact Kd.N_nil _ _ _ _ _ | exact Kd.V_nil _ _ _ _ _ | exact Kd.Q_nil _ _ _ _ _ | exact Kd.S_nil _ _ _ _ _, bb HB⟩
   ·replace c25 := Bool.eq_false_iff.mpr c25
    subst c25
    have H1 : ((impl_Book_copied.f l0_0 a0_1 a0_2 a0_3 l0_4 a0_5 l0_6 l0_7 l0_8).bind fun bt896 => (impl_Withdraw.l0 kj3 a1 a2 (bt896.2.2.2.2.2.2.1.length : Int) 0 bt896.1 bt896.2.1 bt896.2.2.1 bt896.2.2.2.1 bt896.2.2.2.2.1 bt896.2.2.2.2.2.1 bt896.2.2.2.2.2.2.1 bt896.2.2.2.2.2.2.2.1 bt896.2.2.2.2.2.2.2.2)) = some (r1, r2, r3, r4, r5, r6, r7, r8, r9, r10) := by rw [if_neg (show ¬ (false = true) by decide)] at H; exact H
    clear H
    have H := H1
    clear H1
    replace H := Option.bind_eq_some_iff.mp H
    obtain ⟨⟨t896, t899, t900, t901, t902, t905, t906, t909, t912⟩, A280, H⟩ := H
    replace H : (impl_Withdraw.l0 kj3 a1 a2 (t906.length : Int) 0 t896 t899 t900 t901 t902 t905 t906 t909 t912) = some (r1, r2, r3, r4, r5, r6, r7, r8, r9, r10) := H
    have A28 := dk A280
    clear A280
    have H' := dk H
    clear H
    have hnb29 := NB891_892.out
    have hnc29 := NB892_891.out
    have ⟨z30_0, z30_1, z30_2, z30_3, z30_4, z30_5, z30_6, z30_7, z30_8, v30_0, v30_1, v30_2, v30_3, v30_4, v30_5, v30_6, v30_7, v30_8⟩ := rz9 BK891
    go_wp2_with (first | ((with_reducible refine gate_callee (f := 62) rfl ?_); refine gl (some 27) Try.func62 #[.agg #[.slice A0_0 l0_0.length c0_0, .int .i64 a0_1, .int .i64 a0_2, .int .i64 a0_3, .slice A0_4 l0_4.length c0_4, .bool a0_5, .slice A0_6 l0_6.length c0_6, .slice A0_7 l0_7.length c0_7, .slice A0_8 l0_8.length c0_8]] ?_; (with_reducible refine (impl_Book_copied.calls _ _ l0_0 a0_1 a0_2 a0_3 _ _ l0_4 a0_5 _ _ l0_6 _ _ l0_7 _ _ l0_8 t896 t899 t900 t901 t902 t905 t906 t909 t912 _ ?side1 ?side2 ?side3 ?side4 ?side5 ?side6 ?side7 ?side8 ?side9 ?side10 A28.out).mono ?_); (case side1 => exact cc HR0_0 HB); (case side2 => exact HC0_0.out); (case side3 => exact cc HR0_4 HB); (case side4 => exact HC0_4.out); (case side5 => exact cc HR0_6 HB); (case side6 => exact HC0_6.out); (case side7 => exact cc HR0_7 HB); (case side8 => exact HC0_7.out); (case side9 => exact cc HR0_8 HB); (case side10 => exact HC0_8.out); rintro e w31 ⟨v897, v903, v907, v910, v913, rfl, ho0, ho1, ho2, ho3, ho4, hb⟩; refine ⟨_, rfl, ?_⟩; have HO898 := kl ho0 HB; have HO904 := kl ho1 HB; have HO908 := kl ho2 HB; have HO911 := kl ho3 HB; have HO914 := kl ho4 HB; replace BK891 := kb BK891 hb; replace BK892 := kb BK892 hb; replace HB := hs_ HB hb; (try clear hb hb2 hk hi ho0 ho1 ho2 ho3 ho4)) | ((with_reducible refine gate_dst (N := 8) rfl ?_); refine bx (N := 8) (cs := #[.slice none 0 0, .int .i64 0, .int .i64 0, .int .i64 0, .slice none 0 0, .bool false, .slice none 0 0, .slice none 0 0, .slice none 0 0]) (t := 36) ?_; intro gb915 hg w32 hbox hb; replace HO898 := kr HO898 hb; replace HO904 := kr HO904 hb; replace HO908 := kr HO908 hb; replace HO911 := kr HO911 hb; replace HO914 := kr HO914 hb; have BK915 := dk (hbox); have GW915 := gs hg HB; have GE915 := gs hg HB; replace HB := hs_ HB hb; have NB891_915 := gn hg BK891; have NB915_891 := gm hg BK891; replace BK891 := kb BK891 hb; have NB892_915 := gn hg BK892; have NB915_892 := gm hg BK892; replace BK892 := kb BK892 hb; clear hb hbox hg; obtain ⟨Ao33, co33, eo33⟩ := Kd.R_slice HO898.out; subst eo33; have hnb34 := NB915_891.out; have hnc34 := NB891_915.out; have hnb35 := NB915_892.out; have hnc35 := NB892_915.out; have ⟨z36_0, z36_1, z36_2, z36_3, z36_4, z36_5, z36_6, z36_7, z36_8, v36_0, v36_1, v36_2, v36_3, v36_4, v36_5, v36_6, v36_7, v36_8⟩ := rz9 BK915; obtain ⟨Ao37, co37, eo37⟩ := Kd.R_slice HO904.out; subst eo37; obtain ⟨Ao38, co38, eo38⟩ := Kd.R_slice HO908.out; subst eo38; obtain ⟨Ao39, co39, eo39⟩ := Kd.R_slice HO911.out; subst eo39; obtain ⟨Ao40, co40, eo40⟩ := Kd.R_slice HO914.out; subst eo40))
    go_loopg [31] kj3 (fun kq v31 w' => ∃ (x31_2 : Int) (x916006_2 : List (S95)), v31 = .int .i64 x31_2 ∧ Aside0 (impl_Withdraw.l0 kq a1 a2 (t906.length : Int) x31_2 t896 t899 t900 t901 t902 t905 x916006_2 t909 t912 = some (r1, r2, r3, r4, r5, r6, r7, r8, r9, r10)) ∧ Aside0 (kq ≤ kj3) ∧ Aside0 (Kd.R k139 139 w' w.heap.size (fun _ => True) (.slice Ao33 t896.length co33) t896) ∧ Aside0 (Kd.R (Kd.int .i64) 3 w' w.heap.size (fun k_ => nb k_ Ao39 t909.length co39 ∧ nb k_ Ao40 t912.length co40) (.slice Ao37 t902.length co37) t902) ∧ Aside0 (Kd.R k95 95 w' w.heap.size (fun _ => True) (.slice Ao38 t906.length co38) x916006_2) ∧ Aside0 (Kd.R (Kd.int .i64) 3 w' w.heap.size (fun k_ => nb k_ Ao37 t902.length co37 ∧ nb k_ Ao40 t912.length co40) (.slice Ao39 t909.length co39) t909) ∧ Aside0 (Kd.R (Kd.int .i64) 3 w' w.heap.size (fun k_ => nb k_ Ao37 t902.length co37 ∧ nb k_ Ao39 t909.length co39) (.slice Ao40 t912.length co40) t912) ∧ Aside0 (w'.heap[gb891]? = some (.cells #[(.slice A0_0 l0_0.length c0_0), .int .i64 a0_1, .int .i64 a0_2, .int .i64 a0_3, (.slice A0_4 l0_4.length c0_4), .bool a0_5, (.slice A0_6 l0_6.length c0_6), (.slice A0_7 l0_7.length c0_7), (.slice A0_8 l0_8.length c0_8)] 36 (0, 0))) ∧ Aside0 (w'.heap[gb892]? = some (.cells #[(.slice none 0 0), .int .i64 0, .int .i64 0, .int .i64 0, (.slice none 0 0), .bool false, (.slice none 0 0), (.slice none 0 0), (.slice none 0 0)] 36 (0, 0))) ∧ Aside0 (w'.heap[gb915]? = some (.cells #[(.slice Ao33 t896.length co33), .int .i64 t899, .int .i64 t900, .int .i64 t901, (.slice Ao37 t902.length co37), .bool t905, (.slice Ao38 t906.length co38), (.slice Ao39 t909.length co39), (.slice Ao40 t912.length co40)] 36 (0, 0))) ∧ Aside0 (Below w.heap.size w w'))
    case atStart => exact ⟨(0), (t906), e2_, H', ⟨Nat.le_refl _⟩, ⟨rf HO898 BK915 (fun _ hk => trivial)⟩, ⟨rf HO904 BK915 (fun _ hk => ⟨hk.1.1, hk.1.2⟩)⟩, ⟨rf HO908 BK915 (fun _ hk => trivial)⟩, ⟨rf HO911 BK915 (fun _ hk => ⟨hk.1.1, hk.1.2⟩)⟩, ⟨rf HO914 BK915 (fun _ hk => ⟨hk.1.1, hk.1.2⟩)⟩, ⟨bf NB891_915.out BK891⟩, ⟨bf NB892_915.out BK892⟩, ⟨by (with_reducible repeat (first | refine blk_drewN ?_ _ | refine blk_drew ?_ | refine blk_alloc ?_ _)); refine blk_put (cs := #[.slice Ao33 t896.length co33, .int .i64 t899, .int .i64 t900, .int .i64 t901, .slice Ao37 t902.length co37, .bool t905, .slice Ao38 t906.length co38, .slice Ao39 t909.length co39, .slice none 0 0]) ?_ 8 _ rfl; (with_reducible repeat (first | refine blk_drewN ?_ _ | refine blk_drew ?_ | refine blk_alloc ?_ _)); refine blk_put (cs := #[.slice Ao33 t896.length co33, .int .i64 t899, .int .i64 t900, .int .i64 t901, .slice Ao37 t902.length co37, .bool t905, .slice Ao38 t906.length co38, .slice none 0 0, .slice none 0 0]) ?_ 7 _ rfl; (with_reducible repeat (first | refine blk_drewN ?_ _ | refine blk_drew ?_ | refine blk_alloc ?_ _)); refine blk_put (cs := #[.slice Ao33 t896.length co33, .int .i64 t899, .int .i64 t900, .int .i64 t901, .slice Ao37 t902.length co37, .bool t905, .slice none 0 0, .slice none 0 0, .slice none 0 0]) ?_ 6 _ rfl; (with_reducible repeat (first | refine blk_drewN ?_ _ | refine blk_drew ?_ | refine blk_alloc ?_ _)); refine blk_put (cs := #[.slice Ao33 t896.length co33, .int .i64 t899, .int .i64 t900, .int .i64 t901, .slice Ao37 t902.length co37, .bool false, .slice none 0 0, .slice none 0 0, .slice none 0 0]) ?_ 5 _ rfl; (with_reducible repeat (first | refine blk_drewN ?_ _ | refine blk_drew ?_ | refine blk_alloc ?_ _)); refine blk_put (cs := #[.slice Ao33 t896.length co33, .int .i64 t899, .int .i64 t900, .int .i64 t901, .slice none 0 0, .bool false, .slice none 0 0, .slice none 0 0, .slice none 0 0]) ?_ 4 _ rfl; (with_reducible repeat (first | refine blk_drewN ?_ _ | refine blk_drew ?_ | refine blk_alloc ?_ _)); refine blk_put (cs := #[.slice Ao33 t896.length co33, .int .i64 t899, .int .i64 t900, .int .i64 0, .slice none 0 0, .bool false, .slice none 0 0, .slice none 0 0, .slice none 0 0]) ?_ 3 _ rfl; (with_reducible repeat (first | refine blk_drewN ?_ _ | refine blk_drew ?_ | refine blk_alloc ?_ _)); refine blk_put (cs := #[.slice Ao33 t896.length co33, .int .i64 t899, .int .i64 0, .int .i64 0, .slice none 0 0, .bool false, .slice none 0 0, .slice none 0 0, .slice none 0 0]) ?_ 2 _ rfl; (with_reducible repeat (first | refine blk_drewN ?_ _ | refine blk_drew ?_ | refine blk_alloc ?_ _)); refine blk_put (cs := #[.slice Ao33 t896.length co33, .int .i64 0, .int .i64 0, .int .i64 0, .slice none 0 0, .bool false, .slice none 0 0, .slice none 0 0, .slice none 0 0]) ?_ 1 _ rfl; (with_reducible repeat (first | refine blk_drewN ?_ _ | refine blk_drew ?_ | refine blk_alloc ?_ _)); refine blk_put (cs := #[.slice none 0 0, .int .i64 0, .int .i64 0, .int .i64 0, .slice none 0 0, .bool false, .slice none 0 0, .slice none 0 0, .slice none 0 0]) ?_ 0 _ rfl; (with_reducible repeat (first | refine blk_drewN ?_ _ | refine blk_drew ?_ | refine blk_alloc ?_ _)); exact BK915.out⟩, ⟨bb HB⟩⟩
    case round =>
     clear H'
     (try clear c1)
     (try clear c2)
     (try clear p2)
     (try clear c3)
     (try clear c6)
     (try clear c8)
     (try clear c10)
     (try clear c12)
     (try clear c17)
     (try clear c22)
     (try clear c25)
     (try clear c26)
     (try clear c29)
     (try clear c34)
     (try clear c35)
     (try clear z13_0 z13_1 z13_2 z13_3 z13_4 z13_5 z13_6 z13_7 z13_8)
     (try clear z15_0 z15_1 z15_2 z15_3 z15_4 z15_5 z15_6 z15_7 z15_8)
     (try clear z18_0 z18_1 z18_2 z18_3 z18_4 z18_5 z18_6 z18_7 z18_8)
     (try clear z20_0 z20_1 z20_2 z20_3 z20_4 z20_5 z20_6 z20_7 z20_8)
     (try clear z23_0 z23_1 z23_2 z23_3 z23_4 z23_5 z23_6 z23_7 z23_8)
     (try clear z27_0 z27_1 z27_2 z27_3 z27_4 z27_5 z27_6 z27_7 z27_8)
     (try clear z30_0 z30_1 z30_2 z30_3 z30_4 z30_5 z30_6 z30_7 z30_8)
     (try clear z36_0 z36_1 z36_2 z36_3 z36_4 z36_5 z36_6 z36_7 z36_8)
     (try clear v13_0 v13_1 v13_2 v13_3 v13_4 v13_5 v13_6 v13_7 v13_8)
     (try clear v15_0 v15_1 v15_2 v15_3 v15_4 v15_5 v15_6 v15_7 v15_8)
     (try clear v18_0 v18_1 v18_2 v18_3 v18_4 v18_5 v18_6 v18_7 v18_8)
     (try clear v20_0 v20_1 v20_2 v20_3 v20_4 v20_5 v20_6 v20_7 v20_8)
     (try clear v23_0 v23_1 v23_2 v23_3 v23_4 v23_5 v23_6 v23_7 v23_8)
     (try clear v27_0 v27_1 v27_2 v27_3 v27_4 v27_5 v27_6 v27_7 v27_8)
     (try clear v30_0 v30_1 v30_2 v30_3 v30_4 v30_5 v30_6 v30_7 v30_8)
     (try clear v36_0 v36_1 v36_2 v36_3 v36_4 v36_5 v36_6 v36_7 v36_8)
     (try clear p2)
     obtain ⟨x31_2, x916006_2, rfl, HA, HK2, HO_916000, HO_916004, HO_916006, HO_916007, HO_916008, BK891, BK892, BK915, HB⟩ := hrel
     have hl916006_2 := (Kd.R_reads' HO_916006.out).1
     rw [hl916006_2] at HO_916006
     (try simp only [hl916006_2] at BK891 BK892 BK915 HO_916000 HO_916004 HO_916007 HO_916008 ⊢)
     cases gk with
     | zero => exact absurd HA.out (by simp [impl_Withdraw.l0])
     | succ k2 =>
      have H := HA.out
      clear HA
      simp only [impl_Withdraw.l0] at H
      by_cases c41 : x31_2 < (t906.length : Int)
      ·rw [if_pos c41] at H
       have c41b0 : decide (x31_2 < (t906.length : Int)) = true := decide_eq_true c41
       clear c41
       by_cases c42 : 0 ≤ x31_2
       ·rw [if_pos c42] at H
        have c42b0 : decide (0 ≤ x31_2) = true := decide_eq_true c42
        clear c42
        by_cases c43 : x31_2 < (x916006_2.length : Int)
        ·rw [if_pos c43] at H
         have c43b0 : decide (x31_2 < (x916006_2.length : Int)) = true := decide_eq_true c43
         clear c43
         replace H := Option.bind_eq_some_iff.mp H
         obtain ⟨t918, A440, H⟩ := H
         replace H : (if t918 = true then (if a2 = 1 then (impl_Withdraw.l0 k2 a1 a2 (t906.length : Int) (wrap64 (x31_2 + 1)) t896 t899 t900 t901 t902 t905 (x916006_2.set (x31_2 : Int).toNat (⟨(rd_T95 x916006_2 x31_2).f0, (rd_T95 x916006_2 x31_2).f1, 0, 0, 4⟩ : S95)) t909 t912) else ((impl_IsOpen.f ((rd_T95 x916006_2 x31_2).f0) ((rd_T95 x916006_2 x31_2).f1) ((rd_T95 x916006_2 x31_2).f2) ((rd_T95 x916006_2 x31_2).f3) ((rd_T95 x916006_2 x31_2).f4)).bind fun t920 => (if t920 = true then ((impl_awarded.f ((rd_T95 x916006_2 x31_2).f0) ((rd_T95 x916006_2 x31_2).f1) ((rd_T95 x916006_2 x31_2).f2) ((rd_T95 x916006_2 x31_2).f3) ((rd_T95 x916006_2 x31_2).f4) (wrap64 ((wrap64 (((rd_T95 x916006_2 x31_2).f0) + ((rd_T95 x916006_2 x31_2).f1))) - a1))).bind fun bt921 => (impl_Withdraw.l0 k2 a1 a2 (t906.length : Int) (wrap64 (x31_2 + 1)) t896 t899 t900 t901 t902 t905 (x916006_2.set (x31_2 : Int).toNat (⟨bt921.1, bt921.2.1, bt921.2.2.1, bt921.2.2.2.1, bt921.2.2.2.2⟩ : S95)) t909 t912)) else (impl_Withdraw.l0 k2 a1 a2 (t906.length : Int) (wrap64 (x31_2 + 1)) t896 t899 t900 t901 t902 t905 x916006_2 t909 t912)))) else (impl_Withdraw.l0 k2 a1 a2 (t906.length : Int) (wrap64 (x31_2 + 1)) t896 t899 t900 t901 t902 t905 x916006_2 t909 t912)) = some (r1, r2, r3, r4, r5, r6, r7, r8, r9, r10) := H
         have A44 := dk A440
         clear A440
         by_cases c45 : t918 = true
         ·subst c45
          have H1 : (if a2 = 1 then (impl_Withdraw.l0 k2 a1 a2 (t906.length : Int) (wrap64 (x31_2 + 1)) t896 t899 t900 t901 t902 t905 (x916006_2.set (x31_2 : Int).toNat (⟨(rd_T95 x916006_2 x31_2).f0, (rd_T95 x916006_2 x31_2).f1, 0, 0, 4⟩ : S95)) t909 t912) else ((impl_IsOpen.f ((rd_T95 x916006_2 x31_2).f0) ((rd_T95 x916006_2 x31_2).f1) ((rd_T95 x916006_2 x31_2).f2) ((rd_T95 x916006_2 x31_2).f3) ((rd_T95 x916006_2 x31_2).f4)).bind fun t920 => (if t920 = true then ((impl_awarded.f ((rd_T95 x916006_2 x31_2).f0) ((rd_T95 x916006_2 x31_2).f1) ((rd_T95 x916006_2 x31_2).f2) ((rd_T95 x916006_2 x31_2).f3) ((rd_T95 x916006_2 x31_2).f4) (wrap64 ((wrap64 (((rd_T95 x916006_2 x31_2).f0) + ((rd_T95 x916006_2 x31_2).f1))) - a1))).bind fun bt921 => (impl_Withdraw.l0 k2 a1 a2 (t906.length : Int) (wrap64 (x31_2 + 1)) t896 t899 t900 t901 t902 t905 (x916006_2.set (x31_2 : Int).toNat (⟨bt921.1, bt921.2.1, bt921.2.2.1, bt921.2.2.2.1, bt921.2.2.2.2⟩ : S95)) t909 t912)) else (impl_Withdraw.l0 k2 a1 a2 (t906.length : Int) (wrap64 (x31_2 + 1)) t896 t899 t900 t901 t902 t905 x916006_2 t909 t912)))) = some (r1, r2, r3, r4, r5, r6, r7, r8, r9, r10) := by rw [if_pos rfl] at H; exact H
          clear H
          have H := H1
          clear H1
          by_cases c46 : a2 = 1
          ·rw [if_pos c46] at H
           have c46b0 : (a2 == 1) = true := beq_iff_eq.mpr c46
           have c46b1 : (a2 != 1) = false := bne_eq_false_iff_eq.mpr c46
           clear c46
           obtain ⟨y919, hy919⟩ : ∃ y_ : List (S95), y_ = (x916006_2.set (x31_2 : Int).toNat (⟨(rd_T95 x916006_2 x31_2).f0, (rd_T95 x916006_2 x31_2).f1, 0, 0, 4⟩ : S95)) := ⟨_, rfl⟩
           replace H : (impl_Withdraw.l0 k2 a1 a2 (t906.length : Int) (wrap64 (x31_2 + 1)) t896 t899 t900 t901 t902 t905 y919 t909 t912) = some (r1, r2, r3, r4, r5, r6, r7, r8, r9, r10) := by first | (rw [hy919]; with_reducible exact H) | (have H2_ := (Option.bind_some _ _).symm.trans H; rw [hy919]; with_reducible exact H2_) | (have H2_ := (Option.bind_some _ _).symm.trans H; with_reducible exact H2_) | with_reducible exact H | (rw [hy919]; exact H) | exact H
           have Ny919 := dk hy919
           clear hy919
           have H' := dk H
           clear H
           have p916 : 0 ≤ (x31_2 : Int) := oa
           have q916 : x31_2 < (x916006_2.length : Int) := oa
           obtain ⟨ad916, e916, hx916_0, hx916_1, hx916_2, hx916_3, hx916_4⟩ := at_T95 (Kd.R_reads' HO_916006.out).2.2 x31_2 p916 q916
           cases e916
           replace p916 := eq_true p916
           replace q916 := eq_true q916
           go_wp2_with (first | ((with_reducible refine gate_dst (N := 10) rfl ?_); refine bx (N := 10) (cs := #[.int .i64 0, .int .i64 0, .int .i64 0, .int .i64 0, .int .i64 0]) (t := 95) ?_; intro gb917 hg w48 hbox hb; replace HO_916000 := kr HO_916000 hb; replace HO_916004 := kr HO_916004 hb; replace HO_916006 := dk (Kd.R_below (Kd.R_elderB (rr HO_916006) gb917 (Nat.le_of_eq hg.symm)) hb); replace HO_916007 := kr HO_916007 hb; replace HO_916008 := kr HO_916008 hb; have BK917 := dk (hbox); have GW917 := gs hg HB; have GE917 := gs hg HB; replace HB := hs_ HB hb; have NB891_917 := gn hg BK891; have NB917_891 := gm hg BK891; replace BK891 := kb BK891 hb; have NB892_917 := gn hg BK892; have NB917_892 := gm hg BK892; replace BK892 := kb BK892 hb; have NB915_917 := gn hg BK915; have NB917_915 := gm hg BK915; replace BK915 := kb BK915 hb; clear hb hbox hg; have hnb49 := NB917_891.out; have hnc49 := NB891_917.out; have hnb50 := NB917_892.out; have hnc50 := NB892_917.out; have hnb51 := NB917_915.out; have hnc51 := NB915_917.out; have ⟨z52_0, z52_1, z52_2, z52_3, z52_4, v52_0, v52_1, v52_2, v52_3, v52_4⟩ := rz5 BK917) | ((with_reducible refine gate_callee (f := 80) rfl ?_); refine gl (some 39) Try.func80 #[.agg #[.int .i64 ((rd_T95 x916006_2 x31_2).f0), .int .i64 ((rd_T95 x916006_2 x31_2).f1), .int .i64 ((rd_T95 x916006_2 x31_2).f2), .int .i64 ((rd_T95 x916006_2 x31_2).f3), .int .i64 ((rd_T95 x916006_2 x31_2).f4)], .int .i64 a1] ?_; (with_reducible refine (impl_plays.calls ((rd_T95 x916006_2 x31_2).f0) ((rd_T95 x916006_2 x31_2).f1) ((rd_T95 x916006_2 x31_2).f2) ((rd_T95 x916006_2 x31_2).f3) ((rd_T95 x916006_2 x31_2).f4) a1 true _ A44.out).mono ?_); rintro e w53 ⟨rfl, hb⟩; refine ⟨_, rfl, ?_⟩; replace HO_916000 := kf HO_916000 BK917 hb; replace HO_916004 := kf HO_916004 BK917 hb; replace HO_916006 := dk (Kd.R_below (by (with_reducible repeat (first | apply Kd.R_alloc | apply Kd.R_drewN | apply Kd.R_drew)); exact (Kd.R_mono (Kd.R_far (p := ⟨gb917, 4, none⟩) (Kd.R_far (p := ⟨gb917, 3, none⟩) (Kd.R_far (p := ⟨gb917, 2, none⟩) (Kd.R_far (p := ⟨gb917, 1, none⟩) (Kd.R_far (p := ⟨gb917, 0, none⟩) (Kd.R_mono HO_916006.out (fun k_ hk => (⟨hk, hk.2⟩ : _ ∧ k_ ≠ gb917))) (fun _ hk => hk.2) (.int .i64 ((rd_T95 x916006_2 x31_2).f0))) (fun _ hk => hk.2) (.int .i64 ((rd_T95 x916006_2 x31_2).f1))) (fun _ hk => hk.2) (.int .i64 ((rd_T95 x916006_2 x31_2).f2))) (fun _ hk => hk.2) (.int .i64 ((rd_T95 x916006_2 x31_2).f3))) (fun _ hk => hk.2) (.int .i64 ((rd_T95 x916006_2 x31_2).f4))) (fun _ h_ => h_.1))) hb); replace HO_916007 := kf HO_916007 BK917 hb; replace HO_916008 := kf HO_916008 BK917 hb; replace BK891 := dk (blk_below (bf NB891_917.out BK891) hb); replace BK892 := dk (blk_below (bf NB892_917.out BK892) hb); replace BK915 := dk (blk_below (bf NB915_917.out BK915) hb); replace BK917 := dk (blk_below (g := gb917) (o := .cells #[.int .i64 ((rd_T95 x916006_2 x31_2).f0), .int .i64 ((rd_T95 x916006_2 x31_2).f1), .int .i64 ((rd_T95 x916006_2 x31_2).f2), .int .i64 ((rd_T95 x916006_2 x31_2).f3), .int .i64 ((rd_T95 x916006_2 x31_2).f4)] 95 (0, 0)) (bp BK917) hb); replace HB := hs_ HB hb; (try clear hb hb2 hk hi); have hnb54 := NB915_891.out; have hnc54 := NB891_915.out; have hnb55 := NB915_892.out; have hnc55 := NB892_915.out; have ⟨z56_0, z56_1, z56_2, z56_3, z56_4, z56_5, z56_6, z56_7, z56_8, v56_0, v56_1, v56_2, v56_3, v56_4, v56_5, v56_6, v56_7, v56_8⟩ := rz9 BK915; have ⟨z57_0, z57_1, z57_2, z57_3, z57_4, v57_0, v57_1, v57_2, v57_3, v57_4⟩ := rz5 BK917; have p47 : 0 ≤ (x31_2 : Int) := oa; have q47 : (x31_2 : Int) < ((x916006_2.length : Int) : Int) := oa; obtain ⟨go47, co47, eo47, gb47, gl47, cl47, HG47⟩ := Kd.R_form HO_916006.out (by omega); (first | cases eo47 | (injection eo47 with ea_ en_ ec_; (first | subst ea_ | (injection ea_ with ea_; subst ea_)); subst ec_; clear en_)); have GB47 := dk gb47; have GG47 := dk HG47; clear gb47 gl47 HG47; (first | simp only [add_plain] at hx916_0 | skip); (first | simp only [add_plain] at hx916_1 | skip); (first | simp only [add_plain] at hx916_2 | skip); (first | simp only [add_plain] at hx916_3 | skip); (first | simp only [add_plain] at hx916_4 | skip); obtain ⟨ce47, hcl47, hM47, hcc47, hfr47⟩ := Kd.R_elem HO_916006.out z95 (x31_2 : Int) p47 q47; obtain rfl := k95_openM hM47; have hx47_0 : w53.cell? ⟨go47, (x31_2 : Int).toNat * 5, none⟩ = some (.int .i64 ((rd_T95 x916006_2 x31_2).f0)) := hcc47 0 _ rfl; have hx47_1 : w53.cell? ⟨go47, (x31_2 : Int).toNat * 5 + 1, none⟩ = some (.int .i64 ((rd_T95 x916006_2 x31_2).f1)) := hcc47 1 _ rfl; have hx47_2 : w53.cell? ⟨go47, (x31_2 : Int).toNat * 5 + 2, none⟩ = some (.int .i64 ((rd_T95 x916006_2 x31_2).f2)) := hcc47 2 _ rfl; have hx47_3 : w53.cell? ⟨go47, (x31_2 : Int).toNat * 5 + 3, none⟩ = some (.int .i64 ((rd_T95 x916006_2 x31_2).f3)) := hcc47 3 _ rfl; have hx47_4 : w53.cell? ⟨go47, (x31_2 : Int).toNat * 5 + 4, none⟩ = some (.int .i64 ((rd_T95 x916006_2 x31_2).f4)) := hcc47 4 _ rfl; have hf47_0 : w53.frozen? ⟨go47, (x31_2 : Int).toNat * 5, none⟩ = false := hfr47 0; have hf47_1 : w53.frozen? ⟨go47, (x31_2 : Int).toNat * 5 + 1, none⟩ = false := hfr47 1; have hf47_2 : w53.frozen? ⟨go47, (x31_2 : Int).toNat * 5 + 2, none⟩ = false := hfr47 2; have hf47_3 : w53.frozen? ⟨go47, (x31_2 : Int).toNat * 5 + 3, none⟩ = false := hfr47 3; have hf47_4 : w53.frozen? ⟨go47, (x31_2 : Int).toNat * 5 + 4, none⟩ = false := hfr47 4; clear hcl47 hcc47 hfr47; (try clear hM47); replace p47 := eq_true p47; replace q47 := eq_true q47; have n_ := dk (Kd.R_mono (ok' := (fun k_ => k_ ≠ gb917)) HO_916006.out (fun k_ hk => hk.2)); clear HO_916006; have HO_916006 := n_; clear n_; have HX58 := dk (show Kd.R k95 95 w53 w.heap.size (fun k_ => k_ ≠ gb917) (.slice (some ⟨go47, 0, none⟩) x916006_2.length co38) x916006_2 from (rr HO_916006)); obtain ⟨ce58, hcl58, hM58, hcc58, hfr58⟩ := Kd.R_elem HX58.out z95 (x31_2 : Int) (oa) (by have h_ : (x31_2 : Int) < ((x916006_2.length : Int) : Int) := oa; first | exact h_ | (have e_ := (Kd.R_reads' HO_916006.out).1; omega) | simpa using h_); obtain rfl := k95_openM hM58; have HP58 := Kd.R_seg HX58.out (x31_2 : Int) (oa) (by have h_ : (x31_2 : Int) < ((x916006_2.length : Int) : Int) := oa; first | exact h_ | (have e_ := (Kd.R_reads' HO_916006.out).1; omega) | simpa using h_) (seg := [.int .i64 ((rd_T95 x916006_2 x31_2).f0), .int .i64 ((rd_T95 x916006_2 x31_2).f1), .int .i64 0, .int .i64 0, .int .i64 4]) (j := 0) hcl58 hcc58 (show 5 ≤ 5 from by decide) (x' := (⟨(rd_T95 x916006_2 x31_2).f0, (rd_T95 x916006_2 x31_2).f1, 0, 0, 4⟩ : S95)) (k95_mkM _ _ _ (⟨(rd_T95 x916006_2 x31_2).f0, (rd_T95 x916006_2 x31_2).f1, 0, 0, 4⟩ : S95) ) (fun _ hk => hk); have hx58_0 := hcc58 0 _ rfl; (try simp only [show (k95).sz = 5 from rfl, Nat.mul_one, Nat.add_zero] at hx58_0); have hf58_0 := hfr58 0; (try simp only [show (k95).sz = 5 from rfl, Nat.mul_one, Nat.add_zero] at hf58_0); have hx58_1 := hcc58 1 _ rfl; (try simp only [show (k95).sz = 5 from rfl, Nat.mul_one, Nat.add_zero] at hx58_1); have hf58_1 := hfr58 1; (try simp only [show (k95).sz = 5 from rfl, Nat.mul_one, Nat.add_zero] at hf58_1); have hx58_2 := hcc58 2 _ rfl; (try simp only [show (k95).sz = 5 from rfl, Nat.mul_one, Nat.add_zero] at hx58_2); have hf58_2 := hfr58 2; (try simp only [show (k95).sz = 5 from rfl, Nat.mul_one, Nat.add_zero] at hf58_2); have hx58_3 := hcc58 3 _ rfl; (try simp only [show (k95).sz = 5 from rfl, Nat.mul_one, Nat.add_zero] at hx58_3); have hf58_3 := hfr58 3; (try simp only [show (k95).sz = 5 from rfl, Nat.mul_one, Nat.add_zero] at hf58_3); have hx58_4 := hcc58 4 _ rfl; (try simp only [show (k95).sz = 5 from rfl, Nat.mul_one, Nat.add_zero] at hx58_4); have hf58_4 := hfr58 4; (try simp only [show (k95).sz = 5 from rfl, Nat.mul_one, Nat.add_zero] at hf58_4); clear hcl58 hcc58 hfr58; (try clear hM58)) | ((with_reducible refine gate_store (t := 95) (p := 52) rfl ?_); refine store_event (t := 95) (p := 52) (v := ?vo_w59) (w1 := (((((w53.setCell ⟨go47, (x31_2 : Int).toNat * 5, none⟩ (.int .i64 ((rd_T95 x916006_2 x31_2).f0))).setCell ⟨go47, (x31_2 : Int).toNat * 5 + 1, none⟩ (.int .i64 ((rd_T95 x916006_2 x31_2).f1))).setCell ⟨go47, (x31_2 : Int).toNat * 5 + 2, none⟩ (.int .i64 0)).setCell ⟨go47, (x31_2 : Int).toNat * 5 + 3, none⟩ (.int .i64 0)).setCell ⟨go47, (x31_2 : Int).toNat * 5 + 4, none⟩ (.int .i64 4))) ?hg ?ho ?hn ?hr ?_; (case ho => rfl); (case hg => rfl); (case hn => rfl); (case hr => first | (go_simp; done) | (go_simp; rfl)); intro w59 hw; have hg : w53.grownBy w59 (some go47) := (by rw [hw]; exact HP58.2); have hp_ : Kd.R k95 95 w59 w.heap.size (fun k_ => k_ ≠ gb917) (.slice (some ⟨go47, 0, none⟩) x916006_2.length co38) y919 := (by rw [hw, Ny919.out]; exact HP58.1); clear HP58; replace HO_916000 := dk (Kd.R_over' (v := (.slice (some ⟨go47, 0, none⟩) x916006_2.length co38)) (rr HO_916000) (Kd.R_typed HO_916006.out) (by decide) hg); replace HO_916004 := dk (Kd.R_over' (v := (.slice (some ⟨go47, 0, none⟩) x916006_2.length co38)) (rr HO_916004) (Kd.R_typed HO_916006.out) (by decide) hg); replace HO_916007 := dk (Kd.R_over' (v := (.slice (some ⟨go47, 0, none⟩) x916006_2.length co38)) (rr HO_916007) (Kd.R_typed HO_916006.out) (by decide) hg); replace HO_916008 := dk (Kd.R_over' (v := (.slice (some ⟨go47, 0, none⟩) x916006_2.length co38)) (rr HO_916008) (Kd.R_typed HO_916006.out) (by decide) hg); replace BK891 := dk (blk_grown (g := gb891) (o := .cells #[.slice A0_0 l0_0.length c0_0, .int .i64 a0_1, .int .i64 a0_2, .int .i64 a0_3, .slice A0_4 l0_4.length c0_4, .bool a0_5, .slice A0_6 l0_6.length c0_6, .slice A0_7 l0_7.length c0_7, .slice A0_8 l0_8.length c0_8] 36 (0, 0)) (bk BK891) hg (Kd.R_ne HO_916006.out BK891.out (by decide))); replace BK892 := dk (blk_grown (g := gb892) (o := .cells #[.slice none 0 0, .int .i64 0, .int .i64 0, .int .i64 0, .slice none 0 0, .bool false, .slice none 0 0, .slice none 0 0, .slice none 0 0] 36 (0, 0)) (bk BK892) hg (Kd.R_ne HO_916006.out BK892.out (by decide))); replace BK915 := dk (blk_grown (g := gb915) (o := .cells #[.slice Ao33 t896.length co33, .int .i64 t899, .int .i64 t900, .int .i64 t901, .slice Ao37 t902.length co37, .bool t905, .slice (some ⟨go47, 0, none⟩) x916006_2.length co38, .slice Ao39 t909.length co39, .slice Ao40 t912.length co40] 36 (0, 0)) (bk BK915) hg (Kd.R_ne HO_916006.out BK915.out (by decide))); replace BK917 := dk (blk_grown (g := gb917) (o := .cells #[.int .i64 ((rd_T95 x916006_2 x31_2).f0), .int .i64 ((rd_T95 x916006_2 x31_2).f1), .int .i64 ((rd_T95 x916006_2 x31_2).f2), .int .i64 ((rd_T95 x916006_2 x31_2).f3), .int .i64 ((rd_T95 x916006_2 x31_2).f4)] 95 (0, 0)) (bk BK917) hg (Kd.R_away HO_916006.out (fun _ hk => hk))); replace HO_916006 := dk (hp_); replace HB := dk (by rw [hw]; exact below_set (below_set (below_set (below_set (below_set (HB.out) GB47.out) GB47.out) GB47.out) GB47.out) GB47.out : Below w.heap.size w w59); clear hg hw hp_))
           (try simp only [← hl916006_2])
           go_roundg k2
           case measure => have := HJ3.out; have := HK2.out; omega
           case rel => exact ⟨(wrap64 (x31_2 + 1)), (y919), e2_, H', ⟨by have := HJ3.out; have := HK2.out; omega⟩, ⟨by (try simp only [hl916006_2]); (with_reducible repeat (first | apply Kd.R_alloc | apply Kd.R_drewN | apply Kd.R_drew)); exact HO_916000.out⟩, ⟨by (try simp only [hl916006_2]); (with_reducible repeat (first | apply Kd.R_alloc | apply Kd.R_drewN | apply Kd.R_drew)); exact HO_916004.out⟩, ⟨by (try simp only [hl916006_2]); (with_reducible repeat (first | apply Kd.R_alloc | apply Kd.R_drewN | apply Kd.R_drew)); exact Kd.R_mono HO_916006.out (fun _ hk => trivial)⟩, ⟨by (try simp only [hl916006_2]); (with_reducible repeat (first | apply Kd.R_alloc | apply Kd.R_drewN | apply Kd.R_drew)); exact HO_916007.out⟩, ⟨by (try simp only [hl916006_2]); (with_reducible repeat (first | apply Kd.R_alloc | apply Kd.R_drewN | apply Kd.R_drew)); exact HO_916008.out⟩, ⟨by (try simp only [hl916006_2]); (with_reducible repeat (first | refine blk_drewN ?_ _ | refine blk_drew ?_ | refine blk_alloc ?_ _)); exact BK891.out⟩, ⟨by (try simp only [hl916006_2]); (with_reducible repeat (first | refine blk_drewN ?_ _ | refine blk_drew ?_ | refine blk_alloc ?_ _)); exact BK892.out⟩, ⟨by (try simp only [hl916006_2]); (with_reducible repeat (first | refine blk_drewN ?_ _ | refine blk_drew ?_ | refine blk_alloc ?_ _)); exact BK915.out⟩, ⟨bb HB⟩⟩
          ·rw [if_neg c46] at H
           have c46b0 : (a2 == 1) = false := beq_eq_false_iff_ne.mpr c46
           have c46b1 : (a2 != 1) = true := bne_iff_ne.mpr c46
           replace H := Option.bind_eq_some_iff.mp H
           obtain ⟨t920, A600, H⟩ := H
           replace H : (if t920 = true then ((impl_awarded.f ((rd_T95 x916006_2 x31_2).f0) ((rd_T95 x916006_2 x31_2).f1) ((rd_T95 x916006_2 x31_2).f2) ((rd_T95 x916006_2 x31_2).f3) ((rd_T95 x916006_2 x31_2).f4) (wrap64 ((wrap64 (((rd_T95 x916006_2 x31_2).f0) + ((rd_T95 x916006_2 x31_2).f1))) - a1))).bind fun bt921 => (impl_Withdraw.l0 k2 a1 a2 (t906.length : Int) (wrap64 (x31_2 + 1)) t896 t899 t900 t901 t902 t905 (x916006_2.set (x31_2 : Int).toNat (⟨bt921.1, bt921.2.1, bt921.2.2.1, bt921.2.2.2.1, bt921.2.2.2.2⟩ : S95)) t909 t912)) else (impl_Withdraw.l0 k2 a1 a2 (t906.length : Int) (wrap64 (x31_2 + 1)) t896 t899 t900 t901 t902 t905 x916006_2 t909 t912)) = some (r1, r2, r3, r4, r5, r6, r7, r8, r9, r10) := H
           have A60 := dk A600
           clear A600
           by_cases c61 : t920 = true
           ·subst c61
            have H1 : ((impl_awarded.f ((rd_T95 x916006_2 x31_2).f0) ((rd_T95 x916006_2 x31_2).f1) ((rd_T95 x916006_2 x31_2).f2) ((rd_T95 x916006_2 x31_2).f3) ((rd_T95 x916006_2 x31_2).f4) (wrap64 ((wrap64 (((rd_T95 x916006_2 x31_2).f0) + ((rd_T95 x916006_2 x31_2).f1))) - a1))).bind fun bt921 => (impl_Withdraw.l0 k2 a1 a2 (t906.length : Int) (wrap64 (x31_2 + 1)) t896 t899 t900 t901 t902 t905 (x916006_2.set (x31_2 : Int).toNat (⟨bt921.1, bt921.2.1, bt921.2.2.1, bt921.2.2.2.1, bt921.2.2.2.2⟩ : S95)) t909 t912)) = some (r1, r2, r3, r4, r5, r6, r7, r8, r9, r10) := by rw [if_pos rfl] at H; exact H
            clear H
            have H := H1
            clear H1
            replace H := Option.bind_eq_some_iff.mp H
            obtain ⟨⟨t921, t922, t923, t924, t925⟩, A620, H⟩ := H
            replace H : (impl_Withdraw.l0 k2 a1 a2 (t906.length : Int) (wrap64 (x31_2 + 1)) t896 t899 t900 t901 t902 t905 (x916006_2.set (x31_2 : Int).toNat (⟨t921, t922, t923, t924, t925⟩ : S95)) t909 t912) = some (r1, r2, r3, r4, r5, r6, r7, r8, r9, r10) := H
            have A62 := dk A620
            clear A620
            obtain ⟨y926, hy926⟩ : ∃ y_ : List (S95), y_ = (x916006_2.set (x31_2 : Int).toNat (⟨t921, t922, t923, t924, t925⟩ : S95)) := ⟨_, rfl⟩
            replace H : (impl_Withdraw.l0 k2 a1 a2 (t906.length : Int) (wrap64 (x31_2 + 1)) t896 t899 t900 t901 t902 t905 y926 t909 t912) = some (r1, r2, r3, r4, r5, r6, r7, r8, r9, r10) := by first | (rw [hy926]; with_reducible exact H) | (have H2_ := (Option.bind_some _ _).symm.trans H; rw [hy926]; with_reducible exact H2_) | (have H2_ := (Option.bind_some _ _).symm.trans H; with_reducible exact H2_) | with_reducible exact H | (rw [hy926]; exact H) | exact H
            have Ny926 := dk hy926
            clear hy926
            have H' := dk H
            clear H
            have p916 : 0 ≤ (x31_2 : Int) := oa
            have q916 : x31_2 < (x916006_2.length : Int) := oa
            obtain ⟨ad916, e916, hx916_0, hx916_1, hx916_2, hx916_3, hx916_4⟩ := at_T95 (Kd.R_reads' HO_916006.out).2.2 x31_2 p916 q916
            cases e916
            replace p916 := eq_true p916
            replace q916 := eq_true q916
            try go_wp2_with (first | ((with_reducible refine gate_dst (N := 10) rfl ?_); refine bx (N := 10) (cs := #[.int .i64 0, .int .i64 0, .int .i64 0, .int .i64 0, .int .i64 0]) (t := 95) ?_; intro gb917 hg w64 hbox hb; replace HO_916000 := kr HO_916000 hb; replace HO_916004 := kr HO_916004 hb; replace HO_916006 := dk (Kd.R_below (Kd.R_elderB (rr HO_916006) gb917 (Nat.le_of_eq hg.symm)) hb); replace HO_916007 := kr HO_916007 hb; replace HO_916008 := kr HO_916008 hb; have BK917 := dk (hbox); have GW917 := gs hg HB; have GE917 := gs hg HB; replace HB := hs_ HB hb; have NB891_917 := gn hg BK891; have NB917_891 := gm hg BK891; replace BK891 := kb BK891 hb; have NB892_917 := gn hg BK892; have NB917_892 := gm hg BK892; replace BK892 := kb BK892 hb; have NB915_917 := gn hg BK915; have NB917_915 := gm hg BK915; replace BK915 := kb BK915 hb; clear hb hbox hg; have hnb65 := NB917_891.out; have hnc65 := NB891_917.out; have hnb66 := NB917_892.out; have hnc66 := NB892_917.out; have hnb67 := NB917_915.out; have hnc67 := NB915_917.out; have ⟨z68_0, z68_1, z68_2, z68_3, z68_4, v68_0, v68_1, v68_2, v68_3, v68_4⟩ := rz5 BK917) | ((with_reducible refine gate_callee (f := 80) rfl ?_); refine gl (some 39) Try.func80 #[.agg #[.int .i64 ((rd_T95 x916006_2 x31_2).f0), .int .i64 ((rd_T95 x916006_2 x31_2).f1), .int .i64 ((rd_T95 x916006_2 x31_2).f2), .int .i64 ((rd_T95 x916006_2 x31_2).f3), .int .i64 ((rd_T95 x916006_2 x31_2).f4)], .int .i64 a1] ?_; (with_reducible refine (impl_plays.calls ((rd_T95 x916006_2 x31_2).f0) ((rd_T95 x916006_2 x31_2).f1) ((rd_T95 x916006_2 x31_2).f2) ((rd_T95 x916006_2 x31_2).f3) ((rd_T95 x916006_2 x31_2).f4) a1 true _ A44.out).mono ?_); rintro e w69 ⟨rfl, hb⟩; refine ⟨_, rfl, ?_⟩; replace HO_916000 := kf HO_916000 BK917 hb; replace HO_916004 := kf HO_916004 BK917 hb; replace HO_916006 := dk (Kd.R_below (by (with_reducible repeat (first | apply Kd.R_alloc | apply Kd.R_drewN | apply Kd.R_drew)); exact (Kd.R_mono (Kd.R_far (p := ⟨gb917, 4, none⟩) (Kd.R_far (p := ⟨gb917, 3, none⟩) (Kd.R_far (p := ⟨gb917, 2, none⟩) (Kd.R_far (p := ⟨gb917, 1, none⟩) (Kd.R_far (p := ⟨gb917, 0, none⟩) (Kd.R_mono HO_916006.out (fun k_ hk => (⟨hk, hk.2⟩ : _ ∧ k_ ≠ gb917))) (fun _ hk => hk.2) (.int .i64 ((rd_T95 x916006_2 x31_2).f0))) (fun _ hk => hk.2) (.int .i64 ((rd_T95 x916006_2 x31_2).f1))) (fun _ hk => hk.2) (.int .i64 ((rd_T95 x916006_2 x31_2).f2))) (fun _ hk => hk.2) (.int .i64 ((rd_T95 x916006_2 x31_2).f3))) (fun _ hk => hk.2) (.int .i64 ((rd_T95 x916006_2 x31_2).f4))) (fun _ h_ => h_.1))) hb); replace HO_916007 := kf HO_916007 BK917 hb; replace HO_916008 := kf HO_916008 BK917 hb; replace BK891 := dk (blk_below (bf NB891_917.out BK891) hb); replace BK892 := dk (blk_below (bf NB892_917.out BK892) hb); replace BK915 := dk (blk_below (bf NB915_917.out BK915) hb); replace BK917 := dk (blk_below (g := gb917) (o := .cells #[.int .i64 ((rd_T95 x916006_2 x31_2).f0), .int .i64 ((rd_T95 x916006_2 x31_2).f1), .int .i64 ((rd_T95 x916006_2 x31_2).f2), .int .i64 ((rd_T95 x916006_2 x31_2).f3), .int .i64 ((rd_T95 x916006_2 x31_2).f4)] 95 (0, 0)) (bp BK917) hb); replace HB := hs_ HB hb; (try clear hb hb2 hk hi); have ⟨z70_0, z70_1, z70_2, z70_3, z70_4, v70_0, v70_1, v70_2, v70_3, v70_4⟩ := rz5 BK917) | ((with_reducible refine gate_callee (f := 81) rfl ?_); refine gl (some 55) Try.func81 #[.agg #[.int .i64 ((rd_T95 x916006_2 x31_2).f0), .int .i64 ((rd_T95 x916006_2 x31_2).f1), .int .i64 ((rd_T95 x916006_2 x31_2).f2), .int .i64 ((rd_T95 x916006_2 x31_2).f3), .int .i64 ((rd_T95 x916006_2 x31_2).f4)]] ?_; (with_reducible refine (impl_IsOpen.calls ((rd_T95 x916006_2 x31_2).f0) ((rd_T95 x916006_2 x31_2).f1) ((rd_T95 x916006_2 x31_2).f2) ((rd_T95 x916006_2 x31_2).f3) ((rd_T95 x916006_2 x31_2).f4) true _ A60.out).mono ?_); rintro e w71 ⟨rfl, hb⟩; refine ⟨_, rfl, ?_⟩; replace HO_916000 := kr HO_916000 hb; replace HO_916004 := kr HO_916004 hb; replace HO_916006 := kr HO_916006 hb; replace HO_916007 := kr HO_916007 hb; replace HO_916008 := kr HO_916008 hb; replace BK891 := kb BK891 hb; replace BK892 := kb BK892 hb; replace BK915 := kb BK915 hb; replace BK917 := kb BK917 hb; replace HB := hs_ HB hb; (try clear hb hb2 hk hi)))
            replace HO_916000 := dk (Kd.R_drew HO_916000.out)
            replace HO_916004 := dk (Kd.R_drew HO_916004.out)
            replace HO_916006 := dk (Kd.R_drew HO_916006.out)
            replace HO_916007 := dk (Kd.R_drew HO_916007.out)
            replace HO_916008 := dk (Kd.R_drew HO_916008.out)
            replace BK891 := dk (blk_drew BK891.out)
            replace BK892 := dk (blk_drew BK892.out)
            replace BK915 := dk (blk_drew BK915.out)
            replace BK917 := dk (blk_drew BK917.out)
            replace HB := dk (below_drew1 HB.out)
            refine start_ (n := 14) (S := fun w' => w'.cell? ⟨gb915, 0, none⟩ = some (.slice Ao33 t896.length co33) ∧ w'.cell? ⟨gb915, 1, none⟩ = some (.int .i64 t899) ∧ w'.cell? ⟨gb915, 2, none⟩ = some (.int .i64 t900) ∧ w'.cell? ⟨gb915, 3, none⟩ = some (.int .i64 t901) ∧ w'.cell? ⟨gb915, 4, none⟩ = some (.slice Ao37 t902.length co37) ∧ w'.cell? ⟨gb915, 5, none⟩ = some (.bool t905) ∧ w'.cell? ⟨gb915, 6, none⟩ = some (.slice (some ad916) x916006_2.length co38) ∧ w'.cell? ⟨gb915, 7, none⟩ = some (.slice Ao39 t909.length co39) ∧ w'.cell? ⟨gb915, 8, none⟩ = some (.slice Ao40 t912.length co40) ∧ w'.cell? ⟨gb917, 0, none⟩ = some (.int .i64 ((rd_T95 x916006_2 x31_2).f0)) ∧ w'.cell? ⟨gb917, 1, none⟩ = some (.int .i64 ((rd_T95 x916006_2 x31_2).f1)) ∧ w'.cell? ⟨gb917, 2, none⟩ = some (.int .i64 ((rd_T95 x916006_2 x31_2).f2)) ∧ w'.cell? ⟨gb917, 3, none⟩ = some (.int .i64 ((rd_T95 x916006_2 x31_2).f3)) ∧ w'.cell? ⟨gb917, 4, none⟩ = some (.int .i64 ((rd_T95 x916006_2 x31_2).f4))) (ds := [13]) #[false, false, false, false, false, false, false, false, false, false, false, false, false, false] (by kernel_rfl) rfl rfl ⟨bc BK915 0, bc BK915 1, bc BK915 2, bc BK915 3, bc BK915 4, bc BK915 5, bc BK915 6, bc BK915 7, bc BK915 8, bc BK917 0, bc BK917 1, bc BK917 2, bc BK917 3, bc BK917 4⟩ (fun hHeld => ?_); refine with_tabW impl_Withdraw.tab11 impl_Withdraw.bits11 (fun HT_ HW_ => ?_)
            generalize w71.drew = w72 at HO_916000 HO_916004 HO_916006 HO_916007 HO_916008 BK891 BK892 BK915 BK917 HB hHeld ⊢
            refine pz_ 0 56 ?_
            refine pz_ 2 58 ?_
            refine pz_ 4 60 ?_
            refine pz_ 6 62 ?_
            refine pz_ 9 65 ?_
            refine take_ (i := 1) (N := some 57) (v := ?_) (a' := ?_) #[true, true, true, false, true, false, true, false, false, true, false, false, false, false] rfl rfl (take_ofW HT_.out HW_.out (by kernel_rfl)) (fun _ _ _ h => h) (Or.inl ⟨by rfl, ?_⟩) hHeld ?_ ?_
            rotate_left
            ·rintro w' ⟨s0, s1, s2, s3, s4, s5, s6, s7, s8, s9, s10, s11, s12, s13⟩
             go_simp
             with_reducible rfl
            rotate_left
            ·simp only [Act.put, List.setIfInBounds_toArray, List.set_cons_zero, List.set_cons_succ, i64_w, i32_w]
             rfl
            refine take_ (i := 3) (N := some 59) (v := ?_) (a' := ?_) #[true, true, true, true, true, false, true, false, false, true, false, false, false, false] rfl rfl (take_ofW HT_.out HW_.out (by kernel_rfl)) (fun _ _ _ h => h) (Or.inl ⟨by rfl, ?_⟩) hHeld ?_ ?_
            rotate_left
            ·rintro w' ⟨s0, s1, s2, s3, s4, s5, s6, s7, s8, s9, s10, s11, s12, s13⟩
             go_simp
             with_reducible rfl
            rotate_left
            ·simp only [Act.put, List.setIfInBounds_toArray, List.set_cons_zero, List.set_cons_succ, i64_w, i32_w]
             rfl
            refine take_ (i := 5) (N := some 61) (v := ?_) (a' := ?_) #[true, true, true, true, true, true, true, false, false, true, false, false, false, false] rfl rfl (take_ofW HT_.out HW_.out (by kernel_rfl)) (fun _ _ _ h => h) (Or.inl ⟨by rfl, ?_⟩) hHeld ?_ ?_
            rotate_left
            ·rintro w' ⟨s0, s1, s2, s3, s4, s5, s6, s7, s8, s9, s10, s11, s12, s13⟩
             go_simp
             with_reducible rfl
            rotate_left
            ·simp only [Act.put, List.setIfInBounds_toArray, List.set_cons_zero, List.set_cons_succ, i64_w, i32_w]
             rfl
            refine take_ (i := 7) (N := some 63) (v := ?_) (a' := ?_) #[true, true, true, true, true, true, true, true, false, true, false, false, false, false] rfl rfl (take_ofW HT_.out HW_.out (by kernel_rfl)) (fun _ _ _ h => h) (Or.inl ⟨by rfl, ?_⟩) hHeld ?_ ?_
            rotate_left
            ·rintro w' ⟨s0, s1, s2, s3, s4, s5, s6, s7, s8, s9, s10, s11, s12, s13⟩
             go_simp
             with_reducible rfl
            rotate_left
            ·simp only [Act.put, List.setIfInBounds_toArray, List.set_cons_zero, List.set_cons_succ, i64_w, i32_w]
             rfl
            refine pz_ 8 64 ?_
            refine pz_ 10 66 ?_
            refine one_ (i := 11) (N := some 67) #[true, true, true, true, true, true, true, true, true, true, true, true, false, false] rfl rfl (one_of HT_.out (by kernel_rfl)) (by decide) (fun K hK => ?_)
            refine goes_ Try.func64 (by kernel_rfl) rfl #[.agg #[.int .i64 ((rd_T95 x916006_2 x31_2).f0), .int .i64 ((rd_T95 x916006_2 x31_2).f1), .int .i64 ((rd_T95 x916006_2 x31_2).f2), .int .i64 ((rd_T95 x916006_2 x31_2).f3), .int .i64 ((rd_T95 x916006_2 x31_2).f4)], .int .i64 (wrap64 ((wrap64 (((rd_T95 x916006_2 x31_2).f0) + ((rd_T95 x916006_2 x31_2).f1))) - a1))] (by rfl) rfl rfl (by (try simp only [List.map_toArray, List.map_cons, List.map_nil]); first | done | rfl | (simp only [List.length_drop, List.length_take]; rfl)) ?_
            with_reducible refine (impl_awarded.calls ((rd_T95 x916006_2 x31_2).f0) ((rd_T95 x916006_2 x31_2).f1) ((rd_T95 x916006_2 x31_2).f2) ((rd_T95 x916006_2 x31_2).f3) ((rd_T95 x916006_2 x31_2).f4) (wrap64 ((wrap64 (((rd_T95 x916006_2 x31_2).f0) + ((rd_T95 x916006_2 x31_2).f1))) - a1)) t921 t922 t923 t924 t925 _ A62.out).mono ?_
            rintro e w73 ⟨rfl, hb⟩
            refine ⟨_, rfl, ?_⟩
            replace HO_916000 := kr HO_916000 hb
            replace HO_916004 := kr HO_916004 hb
            replace HO_916006 := kr HO_916006 hb
            replace HO_916007 := kr HO_916007 hb
            replace HO_916008 := kr HO_916008 hb
            replace BK891 := kb BK891 hb
            replace BK892 := kb BK892 hb
            replace BK915 := kb BK915 hb
            replace BK917 := kb BK917 hb
            replace HB := hs_ HB hb
            (try clear hb hb2 hk hi)
            have p63 : 0 ≤ (x31_2 : Int) := oa
            have q63 : (x31_2 : Int) < ((x916006_2.length : Int) : Int) := oa
            obtain ⟨go63, co63, eo63, gb63, gl63, cl63, HG63⟩ := Kd.R_form HO_916006.out (by omega)
            (first | cases eo63 | (injection eo63 with ea_ en_ ec_; (first | subst ea_ | (injection ea_ with ea_; subst ea_)); subst ec_; clear en_))
            have GB63 := dk gb63
            have GG63 := dk HG63
            clear gb63 gl63 HG63
            (first | simp only [add_plain] at hx916_0 | skip)
            (first | simp only [add_plain] at hx916_1 | skip)
            (first | simp only [add_plain] at hx916_2 | skip)
            (first | simp only [add_plain] at hx916_3 | skip)
            (first | simp only [add_plain] at hx916_4 | skip)
            obtain ⟨ce63, hcl63, hM63, hcc63, hfr63⟩ := Kd.R_elem HO_916006.out z95 (x31_2 : Int) p63 q63
            obtain rfl := k95_openM hM63
            have hx63_0 : World.cell? _ ⟨go63, (x31_2 : Int).toNat * 5, none⟩ = some (.int .i64 ((rd_T95 x916006_2 x31_2).f0)) := hcc63 0 _ rfl
            have hx63_1 : World.cell? _ ⟨go63, (x31_2 : Int).toNat * 5 + 1, none⟩ = some (.int .i64 ((rd_T95 x916006_2 x31_2).f1)) := hcc63 1 _ rfl
            have hx63_2 : World.cell? _ ⟨go63, (x31_2 : Int).toNat * 5 + 2, none⟩ = some (.int .i64 ((rd_T95 x916006_2 x31_2).f2)) := hcc63 2 _ rfl
            have hx63_3 : World.cell? _ ⟨go63, (x31_2 : Int).toNat * 5 + 3, none⟩ = some (.int .i64 ((rd_T95 x916006_2 x31_2).f3)) := hcc63 3 _ rfl
            have hx63_4 : World.cell? _ ⟨go63, (x31_2 : Int).toNat * 5 + 4, none⟩ = some (.int .i64 ((rd_T95 x916006_2 x31_2).f4)) := hcc63 4 _ rfl
            have hf63_0 : World.frozen? _ ⟨go63, (x31_2 : Int).toNat * 5, none⟩ = false := hfr63 0
            have hf63_1 : World.frozen? _ ⟨go63, (x31_2 : Int).toNat * 5 + 1, none⟩ = false := hfr63 1
            have hf63_2 : World.frozen? _ ⟨go63, (x31_2 : Int).toNat * 5 + 2, none⟩ = false := hfr63 2
            have hf63_3 : World.frozen? _ ⟨go63, (x31_2 : Int).toNat * 5 + 3, none⟩ = false := hfr63 3
            have hf63_4 : World.frozen? _ ⟨go63, (x31_2 : Int).toNat * 5 + 4, none⟩ = false := hfr63 4
            clear hcl63 hcc63 hfr63; (try clear hM63)
            replace p63 := eq_true p63
            replace q63 := eq_true q63
            obtain ⟨ce74, hcl74, hM74, hcc74, hfr74⟩ := Kd.R_elem HO_916006.out z95 (x31_2 : Int) (oa) (by have h_ : (x31_2 : Int) < ((x916006_2.length : Int) : Int) := oa; first | exact h_ | (have e_ := (Kd.R_reads' HO_916006.out).1; omega) | simpa using h_)
            obtain rfl := k95_openM hM74
            have HP74 := (Kd.R_seg HO_916006.out (x31_2 : Int) (oa) (by have h_ : (x31_2 : Int) < ((x916006_2.length : Int) : Int) := oa; first | exact h_ | (have e_ := (Kd.R_reads' HO_916006.out).1; omega) | simpa using h_) (seg := [.int .i64 t921, .int .i64 t922, .int .i64 t923, .int .i64 t924, .int .i64 t925]) (j := 0) hcl74 hcc74 (show 5 ≤ 5 from by decide) (x' := (⟨t921, t922, t923, t924, t925⟩ : S95)) (k95_mkM _ _ _ (⟨t921, t922, t923, t924, t925⟩ : S95) ) (fun _ hk => hk)).1
            rw [← Ny926.out] at HP74
            have HQ74 := dk HP74
            clear hcl74 hcc74 hfr74 hM74 HP74
            refine hK.out _ _ ⟨bc BK915 0, bc BK915 1, bc BK915 2, bc BK915 3, bc BK915 4, bc BK915 5, bc BK915 6, bc BK915 7, bc BK915 8, bc BK917 0, bc BK917 1, bc BK917 2, bc BK917 3, bc BK917 4⟩ (fun hHeld => ?_)
            clear hK K
            refine norm_ (a' := ?_) ?_ ?_
            rotate_left
            ·show Act.put _ (some 67) _ = _
             simp only [Act.put, List.setIfInBounds_toArray, List.set_cons_zero, List.set_cons_succ, i64_w, i32_w]
             rfl
            refine pz_ 12 68 ?_
            refine last_ (i := 13) (N := none) #[true, true, true, true, true, true, true, true, true, true, true, true, true, true] rfl rfl (one_of HT_.out (by kernel_rfl)) (by decide) (fun K hK => ?_)
            refine skip_ (w1 := ?_) (by rfl) rfl ?_ ?_
            rotate_left
            ·go_simp
             rfl
            refine hK.out _ _ ?_
            clear hK K
            refine done_ (done_of HT_.out (by kernel_rfl)) ?_
            try go_wp2
            (try simp only [← hl916006_2])
            go_roundg k2
            case measure => have := HJ3.out; have := HK2.out; omega
            case rel => exact ⟨(wrap64 (x31_2 + 1)), (y926), e2_, H', ⟨by have := HJ3.out; have := HK2.out; omega⟩, ⟨by (try simp only [hl916006_2]); (with_reducible repeat (first | apply Kd.R_alloc | apply Kd.R_drewN | apply Kd.R_drew)); exact Kd.R_mono (Kd.R_far (p := ⟨go63, (x31_2 : Int).toNat * 5 + 4, none⟩) (Kd.R_far (p := ⟨go63, (x31_2 : Int).toNat * 5 + 3, none⟩) (Kd.R_far (p := ⟨go63, (x31_2 : Int).toNat * 5 + 2, none⟩) (Kd.R_far (p := ⟨go63, (x31_2 : Int).toNat * 5 + 1, none⟩) (Kd.R_far (p := ⟨go63, (x31_2 : Int).toNat * 5, none⟩) (Kd.R_types HO_916000.out GG63.out (by decide)) (fun _ hk => hk.2) (.int .i64 t921)) (fun _ hk => hk.2) (.int .i64 t922)) (fun _ hk => hk.2) (.int .i64 t923)) (fun _ hk => hk.2) (.int .i64 t924)) (fun _ hk => hk.2) (.int .i64 t925)) (fun _ hk => trivial)⟩, ⟨by (try simp only [hl916006_2]); (with_reducible repeat (first | apply Kd.R_alloc | apply Kd.R_drewN | apply Kd.R_drew)); exact Kd.R_mono (Kd.R_far (p := ⟨go63, (x31_2 : Int).toNat * 5 + 4, none⟩) (Kd.R_far (p := ⟨go63, (x31_2 : Int).toNat * 5 + 3, none⟩) (Kd.R_far (p := ⟨go63, (x31_2 : Int).toNat * 5 + 2, none⟩) (Kd.R_far (p := ⟨go63, (x31_2 : Int).toNat * 5 + 1, none⟩) (Kd.R_far (p := ⟨go63, (x31_2 : Int).toNat * 5, none⟩) (Kd.R_types HO_916004.out GG63.out (by decide)) (fun _ hk => hk.2) (.int .i64 t921)) (fun _ hk => hk.2) (.int .i64 t922)) (fun _ hk => hk.2) (.int .i64 t923)) (fun _ hk => hk.2) (.int .i64 t924)) (fun _ hk => hk.2) (.int .i64 t925)) (fun _ hk => ⟨hk.1.1, hk.1.2⟩)⟩, ⟨by (try simp only [hl916006_2]); (with_reducible repeat (first | apply Kd.R_alloc | apply Kd.R_drewN | apply Kd.R_drew)); exact Kd.R_mono HQ74.out (fun _ hk => trivial)⟩, ⟨by (try simp only [hl916006_2]); (with_reducible repeat (first | apply Kd.R_alloc | apply Kd.R_drewN | apply Kd.R_drew)); exact Kd.R_mono (Kd.R_far (p := ⟨go63, (x31_2 : Int).toNat * 5 + 4, none⟩) (Kd.R_far (p := ⟨go63, (x31_2 : Int).toNat * 5 + 3, none⟩) (Kd.R_far (p := ⟨go63, (x31_2 : Int).toNat * 5 + 2, none⟩) (Kd.R_far (p := ⟨go63, (x31_2 : Int).toNat * 5 + 1, none⟩) (Kd.R_far (p := ⟨go63, (x31_2 : Int).toNat * 5, none⟩) (Kd.R_types HO_916007.out GG63.out (by decide)) (fun _ hk => hk.2) (.int .i64 t921)) (fun _ hk => hk.2) (.int .i64 t922)) (fun _ hk => hk.2) (.int .i64 t923)) (fun _ hk => hk.2) (.int .i64 t924)) (fun _ hk => hk.2) (.int .i64 t925)) (fun _ hk => ⟨hk.1.1, hk.1.2⟩)⟩, ⟨by (try simp only [hl916006_2]); (with_reducible repeat (first | apply Kd.R_alloc | apply Kd.R_drewN | apply Kd.R_drew)); exact Kd.R_mono (Kd.R_far (p := ⟨go63, (x31_2 : Int).toNat * 5 + 4, none⟩) (Kd.R_far (p := ⟨go63, (x31_2 : Int).toNat * 5 + 3, none⟩) (Kd.R_far (p := ⟨go63, (x31_2 : Int).toNat * 5 + 2, none⟩) (Kd.R_far (p := ⟨go63, (x31_2 : Int).toNat * 5 + 1, none⟩) (Kd.R_far (p := ⟨go63, (x31_2 : Int).toNat * 5, none⟩) (Kd.R_types HO_916008.out GG63.out (by decide)) (fun _ hk => hk.2) (.int .i64 t921)) (fun _ hk => hk.2) (.int .i64 t922)) (fun _ hk => hk.2) (.int .i64 t923)) (fun _ hk => hk.2) (.int .i64 t924)) (fun _ hk => hk.2) (.int .i64 t925)) (fun _ hk => ⟨hk.1.1, hk.1.2⟩)⟩, ⟨by (try simp only [hl916006_2]); exact bg HO_916006 BK891⟩, ⟨by (try simp only [hl916006_2]); exact bg HO_916006 BK892⟩, ⟨by (try simp only [hl916006_2]); exact bg HO_916006 BK915⟩, ⟨bb HB⟩⟩
           ·replace c61 := Bool.eq_false_iff.mpr c61
            subst c61
            have H1 : (impl_Withdraw.l0 k2 a1 a2 (t906.length : Int) (wrap64 (x31_2 + 1)) t896 t899 t900 t901 t902 t905 x916006_2 t909 t912) = some (r1, r2, r3, r4, r5, r6, r7, r8, r9, r10) := by rw [if_neg (show ¬ (false = true) by decide)] at H; exact H
            clear H
            have H := H1
            clear H1
            have H' := dk H
            clear H
            have p916 : 0 ≤ (x31_2 : Int) := oa
            have q916 : x31_2 < (x916006_2.length : Int) := oa
            obtain ⟨ad916, e916, hx916_0, hx916_1, hx916_2, hx916_3, hx916_4⟩ := at_T95 (Kd.R_reads' HO_916006.out).2.2 x31_2 p916 q916
            cases e916
            replace p916 := eq_true p916
            replace q916 := eq_true q916
            go_wp2_with (first | ((with_reducible refine gate_dst (N := 10) rfl ?_); refine bx (N := 10) (cs := #[.int .i64 0, .int .i64 0, .int .i64 0, .int .i64 0, .int .i64 0]) (t := 95) ?_; intro gb917 hg w75 hbox hb; replace HO_916000 := kr HO_916000 hb; replace HO_916004 := kr HO_916004 hb; replace HO_916006 := dk (Kd.R_below (Kd.R_elderB (rr HO_916006) gb917 (Nat.le_of_eq hg.symm)) hb); replace HO_916007 := kr HO_916007 hb; replace HO_916008 := kr HO_916008 hb; have BK917 := dk (hbox); have GW917 := gs hg HB; have GE917 := gs hg HB; replace HB := hs_ HB hb; have NB891_917 := gn hg BK891; have NB917_891 := gm hg BK891; replace BK891 := kb BK891 hb; have NB892_917 := gn hg BK892; have NB917_892 := gm hg BK892; replace BK892 := kb BK892 hb; have NB915_917 := gn hg BK915; have NB917_915 := gm hg BK915; replace BK915 := kb BK915 hb; clear hb hbox hg; have hnb76 := NB917_891.out; have hnc76 := NB891_917.out; have hnb77 := NB917_892.out; have hnc77 := NB892_917.out; have hnb78 := NB917_915.out; have hnc78 := NB915_917.out; have ⟨z79_0, z79_1, z79_2, z79_3, z79_4, v79_0, v79_1, v79_2, v79_3, v79_4⟩ := rz5 BK917) | ((with_reducible refine gate_callee (f := 80) rfl ?_); refine gl (some 39) Try.func80 #[.agg #[.int .i64 ((rd_T95 x916006_2 x31_2).f0), .int .i64 ((rd_T95 x916006_2 x31_2).f1), .int .i64 ((rd_T95 x916006_2 x31_2).f2), .int .i64 ((rd_T95 x916006_2 x31_2).f3), .int .i64 ((rd_T95 x916006_2 x31_2).f4)], .int .i64 a1] ?_; (with_reducible refine (impl_plays.calls ((rd_T95 x916006_2 x31_2).f0) ((rd_T95 x916006_2 x31_2).f1) ((rd_T95 x916006_2 x31_2).f2) ((rd_T95 x916006_2 x31_2).f3) ((rd_T95 x916006_2 x31_2).f4) a1 true _ A44.out).mono ?_); rintro e w80 ⟨rfl, hb⟩; refine ⟨_, rfl, ?_⟩; replace HO_916000 := kf HO_916000 BK917 hb; replace HO_916004 := kf HO_916004 BK917 hb; replace HO_916006 := dk (Kd.R_below (by (with_reducible repeat (first | apply Kd.R_alloc | apply Kd.R_drewN | apply Kd.R_drew)); exact (Kd.R_mono (Kd.R_far (p := ⟨gb917, 4, none⟩) (Kd.R_far (p := ⟨gb917, 3, none⟩) (Kd.R_far (p := ⟨gb917, 2, none⟩) (Kd.R_far (p := ⟨gb917, 1, none⟩) (Kd.R_far (p := ⟨gb917, 0, none⟩) (Kd.R_mono HO_916006.out (fun k_ hk => (⟨hk, hk.2⟩ : _ ∧ k_ ≠ gb917))) (fun _ hk => hk.2) (.int .i64 ((rd_T95 x916006_2 x31_2).f0))) (fun _ hk => hk.2) (.int .i64 ((rd_T95 x916006_2 x31_2).f1))) (fun _ hk => hk.2) (.int .i64 ((rd_T95 x916006_2 x31_2).f2))) (fun _ hk => hk.2) (.int .i64 ((rd_T95 x916006_2 x31_2).f3))) (fun _ hk => hk.2) (.int .i64 ((rd_T95 x916006_2 x31_2).f4))) (fun _ h_ => h_.1))) hb); replace HO_916007 := kf HO_916007 BK917 hb; replace HO_916008 := kf HO_916008 BK917 hb; replace BK891 := dk (blk_below (bf NB891_917.out BK891) hb); replace BK892 := dk (blk_below (bf NB892_917.out BK892) hb); replace BK915 := dk (blk_below (bf NB915_917.out BK915) hb); replace BK917 := dk (blk_below (g := gb917) (o := .cells #[.int .i64 ((rd_T95 x916006_2 x31_2).f0), .int .i64 ((rd_T95 x916006_2 x31_2).f1), .int .i64 ((rd_T95 x916006_2 x31_2).f2), .int .i64 ((rd_T95 x916006_2 x31_2).f3), .int .i64 ((rd_T95 x916006_2 x31_2).f4)] 95 (0, 0)) (bp BK917) hb); replace HB := hs_ HB hb; (try clear hb hb2 hk hi); have ⟨z81_0, z81_1, z81_2, z81_3, z81_4, v81_0, v81_1, v81_2, v81_3, v81_4⟩ := rz5 BK917) | ((with_reducible refine gate_callee (f := 81) rfl ?_); refine gl (some 55) Try.func81 #[.agg #[.int .i64 ((rd_T95 x916006_2 x31_2).f0), .int .i64 ((rd_T95 x916006_2 x31_2).f1), .int .i64 ((rd_T95 x916006_2 x31_2).f2), .int .i64 ((rd_T95 x916006_2 x31_2).f3), .int .i64 ((rd_T95 x916006_2 x31_2).f4)]] ?_; (with_reducible refine (impl_IsOpen.calls ((rd_T95 x916006_2 x31_2).f0) ((rd_T95 x916006_2 x31_2).f1) ((rd_T95 x916006_2 x31_2).f2) ((rd_T95 x916006_2 x31_2).f3) ((rd_T95 x916006_2 x31_2).f4) false _ A60.out).mono ?_); rintro e w82 ⟨rfl, hb⟩; refine ⟨_, rfl, ?_⟩; replace HO_916000 := kr HO_916000 hb; replace HO_916004 := kr HO_916004 hb; replace HO_916006 := kr HO_916006 hb; replace HO_916007 := kr HO_916007 hb; replace HO_916008 := kr HO_916008 hb; replace BK891 := kb BK891 hb; replace BK892 := kb BK892 hb; replace BK915 := kb BK915 hb; replace BK917 := kb BK917 hb; replace HB := hs_ HB hb; (try clear hb hb2 hk hi)))
            (try simp only [← hl916006_2])
            go_roundg k2
            case measure => have := HJ3.out; have := HK2.out; omega
            case rel => exact ⟨(wrap64 (x31_2 + 1)), (x916006_2), e2_, H', ⟨by have := HJ3.out; have := HK2.out; omega⟩, ⟨by (try simp only [hl916006_2]); (with_reducible repeat (first | apply Kd.R_alloc | apply Kd.R_drewN | apply Kd.R_drew)); exact HO_916000.out⟩, ⟨by (try simp only [hl916006_2]); (with_reducible repeat (first | apply Kd.R_alloc | apply Kd.R_drewN | apply Kd.R_drew)); exact HO_916004.out⟩, ⟨by (try simp only [hl916006_2]); (with_reducible repeat (first | apply Kd.R_alloc | apply Kd.R_drewN | apply Kd.R_drew)); exact Kd.R_mono HO_916006.out (fun _ hk => trivial)⟩, ⟨by (try simp only [hl916006_2]); (with_reducible repeat (first | apply Kd.R_alloc | apply Kd.R_drewN | apply Kd.R_drew)); exact HO_916007.out⟩, ⟨by (try simp only [hl916006_2]); (with_reducible repeat (first | apply Kd.R_alloc | apply Kd.R_drewN | apply Kd.R_drew)); exact HO_916008.out⟩, ⟨by (try simp only [hl916006_2]); (with_reducible repeat (first | refine blk_drewN ?_ _ | refine blk_drew ?_ | refine blk_alloc ?_ _)); exact BK891.out⟩, ⟨by (try simp only [hl916006_2]); (with_reducible repeat (first | refine blk_drewN ?_ _ | refine blk_drew ?_ | refine blk_alloc ?_ _)); exact BK892.out⟩, ⟨by (try simp only [hl916006_2]); (with_reducible repeat (first | refine blk_drewN ?_ _ | refine blk_drew ?_ | refine blk_alloc ?_ _)); exact BK915.out⟩, ⟨bb HB⟩⟩
         ·replace c45 := Bool.eq_false_iff.mpr c45
          subst c45
          have H1 : (impl_Withdraw.l0 k2 a1 a2 (t906.length : Int) (wrap64 (x31_2 + 1)) t896 t899 t900 t901 t902 t905 x916006_2 t909 t912) = some (r1, r2, r3, r4, r5, r6, r7, r8, r9, r10) := by rw [if_neg (show ¬ (false = true) by decide)] at H; exact H
          clear H
          have H := H1
          clear H1
          have H' := dk H
          clear H
          have p916 : 0 ≤ (x31_2 : Int) := oa
          have q916 : x31_2 < (x916006_2.length : Int) := oa
          obtain ⟨ad916, e916, hx916_0, hx916_1, hx916_2, hx916_3, hx916_4⟩ := at_T95 (Kd.R_reads' HO_916006.out).2.2 x31_2 p916 q916
          cases e916
          replace p916 := eq_true p916
          replace q916 := eq_true q916
          go_wp2_with (first | ((with_reducible refine gate_dst (N := 10) rfl ?_); refine bx (N := 10) (cs := #[.int .i64 0, .int .i64 0, .int .i64 0, .int .i64 0, .int .i64 0]) (t := 95) ?_; intro gb917 hg w83 hbox hb; replace HO_916000 := kr HO_916000 hb; replace HO_916004 := kr HO_916004 hb; replace HO_916006 := dk (Kd.R_below (Kd.R_elderB (rr HO_916006) gb917 (Nat.le_of_eq hg.symm)) hb); replace HO_916007 := kr HO_916007 hb; replace HO_916008 := kr HO_916008 hb; have BK917 := dk (hbox); have GW917 := gs hg HB; have GE917 := gs hg HB; replace HB := hs_ HB hb; have NB891_917 := gn hg BK891; have NB917_891 := gm hg BK891; replace BK891 := kb BK891 hb; have NB892_917 := gn hg BK892; have NB917_892 := gm hg BK892; replace BK892 := kb BK892 hb; have NB915_917 := gn hg BK915; have NB917_915 := gm hg BK915; replace BK915 := kb BK915 hb; clear hb hbox hg; have hnb84 := NB917_891.out; have hnc84 := NB891_917.out; have hnb85 := NB917_892.out; have hnc85 := NB892_917.out; have hnb86 := NB917_915.out; have hnc86 := NB915_917.out; have ⟨z87_0, z87_1, z87_2, z87_3, z87_4, v87_0, v87_1, v87_2, v87_3, v87_4⟩ := rz5 BK917) | ((with_reducible refine gate_callee (f := 80) rfl ?_); refine gl (some 39) Try.func80 #[.agg #[.int .i64 ((rd_T95 x916006_2 x31_2).f0), .int .i64 ((rd_T95 x916006_2 x31_2).f1), .int .i64 ((rd_T95 x916006_2 x31_2).f2), .int .i64 ((rd_T95 x916006_2 x31_2).f3), .int .i64 ((rd_T95 x916006_2 x31_2).f4)], .int .i64 a1] ?_; (with_reducible refine (impl_plays.calls ((rd_T95 x916006_2 x31_2).f0) ((rd_T95 x916006_2 x31_2).f1) ((rd_T95 x916006_2 x31_2).f2) ((rd_T95 x916006_2 x31_2).f3) ((rd_T95 x916006_2 x31_2).f4) a1 false _ A44.out).mono ?_); rintro e w88 ⟨rfl, hb⟩; refine ⟨_, rfl, ?_⟩; replace HO_916000 := kf HO_916000 BK917 hb; replace HO_916004 := kf HO_916004 BK917 hb; replace HO_916006 := dk (Kd.R_below (by (with_reducible repeat (first | apply Kd.R_alloc | apply Kd.R_drewN | apply Kd.R_drew)); exact (Kd.R_mono (Kd.R_far (p := ⟨gb917, 4, none⟩) (Kd.R_far (p := ⟨gb917, 3, none⟩) (Kd.R_far (p := ⟨gb917, 2, none⟩) (Kd.R_far (p := ⟨gb917, 1, none⟩) (Kd.R_far (p := ⟨gb917, 0, none⟩) (Kd.R_mono HO_916006.out (fun k_ hk => (⟨hk, hk.2⟩ : _ ∧ k_ ≠ gb917))) (fun _ hk => hk.2) (.int .i64 ((rd_T95 x916006_2 x31_2).f0))) (fun _ hk => hk.2) (.int .i64 ((rd_T95 x916006_2 x31_2).f1))) (fun _ hk => hk.2) (.int .i64 ((rd_T95 x916006_2 x31_2).f2))) (fun _ hk => hk.2) (.int .i64 ((rd_T95 x916006_2 x31_2).f3))) (fun _ hk => hk.2) (.int .i64 ((rd_T95 x916006_2 x31_2).f4))) (fun _ h_ => h_.1))) hb); replace HO_916007 := kf HO_916007 BK917 hb; replace HO_916008 := kf HO_916008 BK917 hb; replace BK891 := dk (blk_below (bf NB891_917.out BK891) hb); replace BK892 := dk (blk_below (bf NB892_917.out BK892) hb); replace BK915 := dk (blk_below (bf NB915_917.out BK915) hb); replace BK917 := dk (blk_below (g := gb917) (o := .cells #[.int .i64 ((rd_T95 x916006_2 x31_2).f0), .int .i64 ((rd_T95 x916006_2 x31_2).f1), .int .i64 ((rd_T95 x916006_2 x31_2).f2), .int .i64 ((rd_T95 x916006_2 x31_2).f3), .int .i64 ((rd_T95 x916006_2 x31_2).f4)] 95 (0, 0)) (bp BK917) hb); replace HB := hs_ HB hb; (try clear hb hb2 hk hi)))
          (try simp only [← hl916006_2])
          go_roundg k2
          case measure => have := HJ3.out; have := HK2.out; omega
          case rel => exact ⟨(wrap64 (x31_2 + 1)), (x916006_2), e2_, H', ⟨by have := HJ3.out; have := HK2.out; omega⟩, ⟨by (try simp only [hl916006_2]); (with_reducible repeat (first | apply Kd.R_alloc | apply Kd.R_drewN | apply Kd.R_drew)); exact HO_916000.out⟩, ⟨by (try simp only [hl916006_2]); (with_reducible repeat (first | apply Kd.R_alloc | apply Kd.R_drewN | apply Kd.R_drew)); exact HO_916004.out⟩, ⟨by (try simp only [hl916006_2]); (with_reducible repeat (first | apply Kd.R_alloc | apply Kd.R_drewN | apply Kd.R_drew)); exact Kd.R_mono HO_916006.out (fun _ hk => trivial)⟩, ⟨by (try simp only [hl916006_2]); (with_reducible repeat (first | apply Kd.R_alloc | apply Kd.R_drewN | apply Kd.R_drew)); exact HO_916007.out⟩, ⟨by (try simp only [hl916006_2]); (with_reducible repeat (first | apply Kd.R_alloc | apply Kd.R_drewN | apply Kd.R_drew)); exact HO_916008.out⟩, ⟨by (try simp only [hl916006_2]); (with_reducible repeat (first | refine blk_drewN ?_ _ | refine blk_drew ?_ | refine blk_alloc ?_ _)); exact BK891.out⟩, ⟨by (try simp only [hl916006_2]); (with_reducible repeat (first | refine blk_drewN ?_ _ | refine blk_drew ?_ | refine blk_alloc ?_ _)); exact BK892.out⟩, ⟨by (try simp only [hl916006_2]); (with_reducible repeat (first | refine blk_drewN ?_ _ | refine blk_drew ?_ | refine blk_alloc ?_ _)); exact BK915.out⟩, ⟨bb HB⟩⟩
        ·rw [if_neg c43] at H
         exact absurd H (by simp)
       ·rw [if_neg c42] at H
        exact absurd H (by simp)
      ·rw [if_neg c41] at H
       have c41b0 : decide (x31_2 < (t906.length : Int)) = false := decide_eq_false c41
       have c41r0 := c41b0
       (try simp only [hl916006_2] at c41r0)
       clear c41
       simp only [Option.some.injEq, Prod.mk.injEq] at H
       obtain ⟨rfl, rfl, rfl, rfl, rfl, rfl, rfl, rfl, rfl, rfl⟩ := H
       have hnb89 := NB915_891.out
       have hnc89 := NB891_915.out
       have hnb90 := NB915_892.out
       have hnc90 := NB892_915.out
       have ⟨z91_0, z91_1, z91_2, z91_3, z91_4, z91_5, z91_6, z91_7, z91_8, v91_0, v91_1, v91_2, v91_3, v91_4, v91_5, v91_6, v91_7, v91_8⟩ := rz9 BK915
       have hnb92 := NB892_891.out
       have hnc92 := NB891_892.out
       have ⟨z93_0, z93_1, z93_2, z93_3, z93_4, z93_5, z93_6, z93_7, z93_8, v93_0, v93_1, v93_2, v93_3, v93_4, v93_5, v93_6, v93_7, v93_8⟩ := rz9 BK892
       go_wp2
       refine bodyPost_ret (results_ct rfl _ _ gb892 36 #[.slice Ao33 t896.length co33, .int .i64 t899, .int .i64 t900, .int .i64 t901, .slice Ao37 t902.length co37, .bool t905, .slice Ao38 x916006_2.length co38, .slice Ao39 t909.length co39, .slice Ao40 t912.length co40] (0, 0) _ rfl (by (with_reducible repeat (first | refine blk_drewN ?_ _ | refine blk_drew ?_ | refine blk_alloc ?_ _)); refine blk_put (cs := #[.slice Ao33 t896.length co33, .int .i64 t899, .int .i64 t900, .int .i64 t901, .slice Ao37 t902.length co37, .bool t905, .slice Ao38 x916006_2.length co38, .slice Ao39 t909.length co39, .slice none 0 0]) ?_ 8 _ rfl; (with_reducible repeat (first | refine blk_drewN ?_ _ | refine blk_drew ?_ | refine blk_alloc ?_ _)); refine blk_put (cs := #[.slice Ao33 t896.length co33, .int .i64 t899, .int .i64 t900, .int .i64 t901, .slice Ao37 t902.length co37, .bool t905, .slice Ao38 x916006_2.length co38, .slice none 0 0, .slice none 0 0]) ?_ 7 _ rfl; (with_reducible repeat (first | refine blk_drewN ?_ _ | refine blk_drew ?_ | refine blk_alloc ?_ _)); refine blk_put (cs := #[.slice Ao33 t896.length co33, .int .i64 t899, .int .i64 t900, .int .i64 t901, .slice Ao37 t902.length co37, .bool t905, .slice none 0 0, .slice none 0 0, .slice none 0 0]) ?_ 6 _ rfl; (with_reducible repeat (first | refine blk_drewN ?_ _ | refine blk_drew ?_ | refine blk_alloc ?_ _)); refine blk_put (cs := #[.slice Ao33 t896.length co33, .int .i64 t899, .int .i64 t900, .int .i64 t901, .slice Ao37 t902.length co37, .bool false, .slice none 0 0, .slice none 0 0, .slice none 0 0]) ?_ 5 _ rfl; (with_reducible repeat (first | refine blk_drewN ?_ _ | refine blk_drew ?_ | refine blk_alloc ?_ _)); refine blk_put (cs := #[.slice Ao33 t896.length co33, .int .i64 t899, .int .i64 t900, .int .i64 t901, .slice none 0 0, .bool false, .slice none 0 0, .slice none 0 0, .slice none 0 0]) ?_ 4 _ rfl; (with_reducible repeat (first | refine blk_drewN ?_ _ | refine blk_drew ?_ | refine blk_alloc ?_ _)); refine blk_put (cs := #[.slice Ao33 t896.length co33, .int .i64 t899, .int .i64 t900, .int .i64 0, .slice none 0 0, .bool false, .slice none 0 0, .slice none 0 0, .slice none 0 0]) ?_ 3 _ rfl; (with_reducible repeat (first | refine blk_drewN ?_ _ | refine blk_drew ?_ | refine blk_alloc ?_ _)); refine blk_put (cs := #[.slice Ao33 t896.length co33, .int .i64 t899, .int .i64 0, .int .i64 0, .slice none 0 0, .bool false, .slice none 0 0, .slice none 0 0, .slice none 0 0]) ?_ 2 _ rfl; (with_reducible repeat (first | refine blk_drewN ?_ _ | refine blk_drew ?_ | refine blk_alloc ?_ _)); refine blk_put (cs := #[.slice Ao33 t896.length co33, .int .i64 0, .int .i64 0, .int .i64 0, .slice none 0 0, .bool false, .slice none 0 0, .slice none 0 0, .slice none 0 0]) ?_ 1 _ rfl; (with_reducible repeat (first | refine blk_drewN ?_ _ | refine blk_drew ?_ | refine blk_alloc ?_ _)); refine blk_put (cs := #[.slice none 0 0, .int .i64 0, .int .i64 0, .int .i64 0, .slice none 0 0, .bool false, .slice none 0 0, .slice none 0 0, .slice none 0 0]) ?_ 0 _ rfl; (with_reducible repeat (first | refine blk_drewN ?_ _ | refine blk_drew ?_ | refine blk_alloc ?_ _)); exact BK892.out) Try.underlying36 rfl (by kernel_rfl)) rfl ?_
       exact ⟨_, _, _, _, _, ee, rf HO_916000 BK892 (fun _ hk => trivial), rf HO_916004 BK892 (fun _ hk => ⟨hk.1.1, hk.1.2⟩), rf HO_916006 BK892 (fun _ hk => trivial), rf HO_916007 BK892 (fun _ hk => ⟨hk.1.1, hk.1.2⟩), rf HO_916008 BK892 (fun _ hk => ⟨hk.1.1, hk.1.2⟩), bb HB⟩
end Go.Proofs.Ythfefanapneocaa.Q
end
