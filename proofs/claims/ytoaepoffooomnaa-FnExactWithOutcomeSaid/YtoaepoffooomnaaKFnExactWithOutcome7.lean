/- A part of the proof of FnExactWithOutcome: functions of the program, as plain functions, with the proof that the machine's call does what they say; plain lemmas; and those of the words that print.sh prints which this proof uses. No condition. -/
import Derived.Test.YtoaepoffooomnaaKFnExactWithOutcome1
import Derived.Test.YtoaepoffooomnaaProg
import Derived.Below
import Derived.Deep.Draws
import Derived.Deep.AppendLies
import Derived.Maps.AppendAt
import Derived.OwnWalk
import Derived.Laws.BytesArg
import Derived.Laws.MakeOwn
import Derived.Laws.OwnMore
import Derived.Deep.OwnRows
import Derived.Tactics
import Derived.Lib.ConvBytes
import Derived.Laws.Slices
import Derived.WalkKit
import Derived.KernelRfl
import Derived.RowKit3
import Derived.Deep.LoopGhost
import Derived.Deep.QuietTactic
import Derived.BigQuiet
import Derived.WideLaws
import Derived.Deep.DeepCutAuto
import Derived.Deep.CutBlock
import Derived.Deep.RegionHeld3
import Derived.Laws.Rows
import Derived.Lib.AppendStr
import Derived.ArgAppend
import Derived.Laws.IdiomCopy
import Derived.OrdersHeld
import Derived.Laws.BitsLemmas
import Derived.RowKit
import Derived.WalkSpells
import Derived.Laws.StructEq
import Derived.Test.YtoaepoffooomnaaKFnExactWithOutcome2
import Derived.Test.YtoaepoffooomnaaKFnExactWithOutcome3
import Derived.Test.YtoaepoffooomnaaKFnExactWithOutcome6
import Derived.Test.YtoaepoffooomnaaKFnExactWithOutcome4
import Derived.Test.YtoaepoffooomnaaKFnExactWithOutcome5
import Derived.Test.YtoaepoffooomnaaRows
import Derived.ProofKit
import Derived.OpenShut
import Derived.ShutString
import Derived.ChangeOld
import Derived.SizedLaws
namespace Go.Proofs.Ytoaepoffooomnaa.Q
open Go.RowKit Go.Proofs.YtoaepoffooomnaaW.PrintWords Go.Proofs.YtoaepoffooomnaaW.PrintLast Go.Proofs.YtoaepoffooomnaaW.PrintMore
theorem l01In_eq (a lo hi : Int) : spec_l01In.f a lo hi = some (withinB a lo hi) := by
  unfold spec_l01In.f withinB
  by_cases h : lo ≤ a <;> simp [h]
theorem sIsOpen_eq (g : Game) : spec_IsOpen.f g.f0 g.f1 g.f2 g.f3 g.f4 = some (isOpenB g) := rfl
theorem sOpenGames_ev (l : List Game) (hl : l.length ≤ 1048576) : Ev (fun k => spec_OpenGames.f k l) (openI l) := by
  have split : ∀ (i : Nat), i ≤ l.length → ∃ acc, acc.length ≤ i ∧ openI l = acc ++ whereI isOpenB i (l.drop i) := by
    intro i
    induction i with
    | zero => intro _; exact ⟨[], by simp, rfl⟩
    | succ i ih =>
      intro hi
      obtain ⟨acc, h1, h2⟩ := ih (by omega)
      refine ⟨acc ++ (if isOpenB l[i] then [(i : Int)] else []), ?_, ?_⟩
      · rw [List.length_append]; split <;> simp <;> omega
      · rw [h2, List.drop_eq_getElem_cons (by omega), whereI, List.append_assoc]
        rfl
  have key : ∀ (d i : Nat) (acc : List Int), i + d = l.length → acc.length ≤ i → Ev (fun k => spec_OpenGames.l0 k acc l (l.length : Int) (i : Int)) (acc ++ whereI isOpenB i (l.drop i)) := by
    intro d
    induction d with
    | zero =>
      intro i acc hi ha
      rw [List.drop_eq_nil_of_le (by omega), whereI, List.append_nil]
      exact Ev.step (f := fun _ => some acc) (fun k => by rw [spec_OpenGames.l0, if_neg (by omega)]) (Ev.now _)
    | succ d ih =>
      intro i acc hi ha
      have hlt : i < l.length := by omega
      rw [List.drop_eq_getElem_cons hlt, whereI]
      cases ho : isOpenB l[i] with
      | true =>
        have := ih (i + 1) (acc ++ [(i : Int)]) (by omega) (by simp; omega)
        refine Ev.eq (Ev.step (fun k => ?_) this) (by simp)
        rw [spec_OpenGames.l0, if_pos (by omega), if_pos (by omega), if_pos (by omega), rdG_eq l i hlt, sIsOpen_eq, ho, Option.bind_some, if_pos rfl, if_pos (by omega), wrap_succ i (by omega)]
      | false =>
        have := ih (i + 1) acc (by omega) (by omega)
        refine Ev.eq (Ev.step (fun k => ?_) this) (by simp)
        rw [spec_OpenGames.l0, if_pos (by omega), if_pos (by omega), if_pos (by omega), rdG_eq l i hlt, sIsOpen_eq, ho, Option.bind_some, if_neg (by decide), wrap_succ i (by omega)]
  have := key l.length 0 [] (by omega) (by simp)
  exact this
theorem sIsName_ev (s : ByteArray) (hs : s.size ≤ 4611686018427387903) : Ev (fun k => spec_IsName.f k s) (isNameB s) := by
  refine Ev.eq (Ev.down s.size (fun i k => spec_IsName.l0 k s (i : Int)) (fun i => nameFrom s i && withinB s.size 1 8) ?_ ?_) rfl
  · refine Ev.step (f := fun _ => some (withinB s.size 1 8)) (fun k => by rw [spec_IsName.l0, if_neg (by omega), l01In_eq]; rfl) (Ev.eq (Ev.now _) ?_)
    rw [nameFrom_end s _ (Nat.le_refl _)]
    rfl
  · intro i hi h
    have hw := wrap_succ i (by omega)
    cases hn : nameAt i (bt s i) with
    | true =>
      refine Ev.eq (Ev.step (fun k => ?_) h) (by simp only [nameFrom_step s i hi, hn, Bool.true_and])
      rw [spec_IsName.l0, if_pos (by omega), if_pos (by omega), hw]
      unfold nameAt at hn
      generalize bt s i = c at hn
      grind
    | false =>
      refine Ev.eq (Ev.step (f := fun _ => some false) (fun k => ?_) (Ev.now _)) (by simp only [nameFrom_step s i hi, hn, Bool.false_and])
      rw [spec_IsName.l0, if_pos (by omega), if_pos (by omega), hw]
      unfold nameAt at hn
      generalize bt s i = c at hn
      grind
theorem sTeamOk_ev (t : Team) (hs : t.f0.size ≤ 4611686018427387903) : Ev (fun k => spec_TeamOk.f k t.f0 t.f1 t.f2) (teamOkB t) := by
  unfold spec_TeamOk.f teamOkB
  refine Ev.bind (sIsName_ev _ hs) (Ev.val fun k => ?_)
  simp only [l01In_eq, Option.bind_some]
  cases isNameB t.f0 <;> cases withinB t.f1 0 5 <;> simp
theorem rdTm_eq (l : List Team) (i : Nat) (h : i < l.length) : rd_T87 l (i : Int) = l[i] := by
  unfold rd_T87; simp [h]
theorem sFieldOk_ev (l : List Team) (h : ∀ t, t ∈ l → t.f0.size ≤ 4611686018427387903) : Ev (fun k => spec_FieldOk.f k l) (fieldOkB l) := by
  unfold spec_FieldOk.f fieldOkB
  simp only [l01In_eq, Option.bind_some]
  cases hw : withinB (l.length : Int) 2 8 with
  | false => exact Ev.eq (Ev.val fun k => by rw [if_neg (by decide)]) (by simp)
  | true =>
    have hl : l.length ≤ 8 := by simp [withinB] at hw; omega
    refine Ev.congr (fun k => by rw [if_pos rfl]) ?_
    rw [Bool.and_true]
    refine Ev.eq (Ev.down l.length (fun i k => spec_FieldOk.l0 k l l (l.length : Int) (i : Int)) (fun i => fieldFrom (l.take i) (l.drop i)) ?_ ?_) rfl
    · exact Ev.step (f := fun _ => some true) (fun k => by rw [spec_FieldOk.l0, if_neg (by omega)]) (Ev.eq (Ev.now _) (by rw [List.drop_length]; rfl))
    · intro i hi hn
      rw [List.drop_eq_getElem_cons hi, fieldFrom]
      have ht := sTeamOk_ev l[i] (h _ (List.getElem_mem hi))
      refine Ev.step (f := fun k => (spec_TeamOk.f k l[i].f0 l[i].f1 l[i].f2).bind fun t130 => (if t130 = true then (spec_FieldOk.l1 k l l (l.length : Int) (i : Int) (l.take i) ((l.take i).length : Int) 0 l[i].f0 l[i].f1 l[i].f2) else (some false))) (fun k => ?_) (Ev.bind ht ?_)
      · rw [spec_FieldOk.l0, if_pos (by omega), if_pos (by omega), if_pos (by omega), rdTm_eq l i hi]
        have hc : (i : Int) ≤ (l.length : Int) := by omega
        simp only [if_pos hc, Option.bind_some, Int.toNat_natCast]
      · cases hk : teamOkB l[i] with
        | false => exact Ev.eq (Ev.val fun k => by rw [if_neg (by decide)]) (by simp)
        | true =>
          refine Ev.congr (fun k => by rw [if_pos rfl]) ?_
          rw [List.take_succ_eq_append_getElem hi] at hn
          generalize hp : l.take i = pre at hn
          have hpl : pre.length = i := by rw [← hp, List.length_take]; omega
          rw [Bool.true_and]
          refine Ev.eq (Ev.down pre.length (fun j k => spec_FieldOk.l1 k l l (l.length : Int) (i : Int) pre (pre.length : Int) (j : Int) l[i].f0 l[i].f1 l[i].f2) (fun j => !(pre.drop j).any (teamClash l[i]) && fieldFrom (pre ++ [l[i]]) (l.drop (i + 1))) ?_ ?_) rfl
          · refine Ev.eq (Ev.step (fun k => by rw [spec_FieldOk.l1, if_neg (by omega), wrap_succ i (by omega)]) hn) (by rw [List.drop_length]; simp)
          · intro j hj hnj
            rw [List.drop_eq_getElem_cons hj, List.any_cons]
            by_cases h1 : pre[j].f0.toList = l[i].f0.toList
            · refine Ev.eq (Ev.step (f := fun _ => some false) (fun k => by rw [spec_FieldOk.l1, if_pos (by omega), if_pos (by omega), if_pos (by omega), rdTm_eq pre j hj, if_pos h1]) (Ev.now _)) (by simp [teamClash, h1])
            · by_cases h2 : pre[j].f2 = l[i].f2
              · refine Ev.eq (Ev.step (f := fun _ => some false) (fun k => by rw [spec_FieldOk.l1, if_pos (by omega), if_pos (by omega), if_pos (by omega), rdTm_eq pre j hj, if_neg h1, if_pos h2]) (Ev.now _)) (by simp [teamClash, h2])
              · refine Ev.eq (Ev.step (fun k => by rw [spec_FieldOk.l1, if_pos (by omega), if_pos (by omega), if_pos (by omega), rdTm_eq pre j hj, if_neg h1, if_neg h2, wrap_succ j (by omega)]) hnj) (by rw [show teamClash l[i] pre[j] = false by unfold teamClash; rw [beq_eq_false_iff_ne.mpr h1, beq_eq_false_iff_ne.mpr h2]; rfl, Bool.false_or])
theorem sHas_ev (l : List Int) (x : Int) (hl : l.length ≤ 1048576) : Ev (fun k => spec_l02Has.f k l x) (hasI l x) := by
  refine Ev.eq (Ev.down l.length (fun i k => spec_l02Has.l0 k x l (l.length : Int) (i : Int)) (fun i => hasI (l.drop i) x) ?_ ?_) rfl
  · exact Ev.step (f := fun _ => some false) (fun k => by rw [spec_l02Has.l0, if_neg (by omega)]) (Ev.eq (Ev.now _) (by rw [List.drop_length]; rfl))
  · intro i hi hn
    rw [List.drop_eq_getElem_cons hi]
    by_cases h : l[i] = x
    · exact Ev.eq (Ev.step (f := fun _ => some true) (fun k => by rw [spec_l02Has.l0, if_pos (by omega), if_pos (by omega), if_pos (by omega), rd_eq l i hi, if_pos h]) (Ev.now _)) (by simp [hasI, h])
    · exact Ev.eq (Ev.step (fun k => by rw [spec_l02Has.l0, if_pos (by omega), if_pos (by omega), if_pos (by omega), rd_eq l i hi, if_neg h, wrap_succ i (by omega)]) hn) (by simp only [hasI, List.any_cons, decide_eq_false (show ¬ x = l[i] from fun e => h e.symm), Bool.false_or])
theorem sRulesOk_ev (win draw loss : Int) (l : List Int) (again : Bool) : Ev (fun k => spec_RulesOk.f k win draw loss l again) (rulesOkB win draw loss l) := by
  unfold spec_RulesOk.f rulesOkB
  simp only [l01In_eq, Option.bind_some]
  have fals : ∀ q, q = false → Ev (fun k => spec_RulesOk.j0 k true win draw loss l again) q := fun q hq => Ev.step (f := fun _ => some false) (fun k => by rw [spec_RulesOk.j0, if_pos rfl]) (Ev.eq (Ev.now _) hq.symm)
  by_cases h1 : withinB win 0 10 = true
  · by_cases h2 : withinB draw 0 win = true
    · by_cases h3 : withinB loss 0 draw = true
      · by_cases h4 : withinB l.length 1 8 = true
        · refine Ev.congr (fun k => by rw [if_pos h1, if_pos h2, if_pos h3, h4]) ?_
          have hl : l.length ≤ 8 := by simp [withinB] at h4; omega
          have hr : (ladderFrom [] l && decide (0 ≤ loss) && decide (loss ≤ draw) && decide (draw ≤ win) && decide (win ≤ 10) && true) = ladderFrom [] l := by
            simp [withinB] at h1 h2 h3
            simp [h1, h2, h3]
          rw [h4, hr]
          refine Ev.step (f := fun k => spec_RulesOk.l0 k l (l.length : Int) 0 win draw loss l again) (fun k => by rw [spec_RulesOk.j0, if_neg (by decide)]) ?_
          refine Ev.eq (Ev.down l.length (fun i k => spec_RulesOk.l0 k l (l.length : Int) (i : Int) win draw loss l again) (fun i => ladderFrom (l.take i) (l.drop i)) ?_ ?_) rfl
          · exact Ev.step (f := fun _ => some true) (fun k => by rw [spec_RulesOk.l0, if_neg (by omega)]) (Ev.eq (Ev.now _) (by rw [List.drop_length]; rfl))
          · intro i hi hn
            rw [List.drop_eq_getElem_cons hi, ladderFrom]
            rw [List.take_succ_eq_append_getElem hi] at hn
            cases hk : withinB l[i] 1 8 with
            | false => exact Ev.eq (Ev.step (f := fun _ => some false) (fun k => by rw [spec_RulesOk.l0, if_pos (by omega), if_pos (by omega), if_pos (by omega), rd_eq l i hi, l01In_eq, hk, Option.bind_some, if_neg (by decide)]) (Ev.now _)) (by simp)
            | true =>
              refine Ev.step (f := fun k => (spec_l02Has.f k (l.take i) l[i]).bind fun t => if t = true then some false else spec_RulesOk.l0 k l (l.length : Int) ((i + 1 : Nat) : Int) win draw loss l again) (fun k => by rw [spec_RulesOk.l0, if_pos (by omega), if_pos (by omega), if_pos (by omega), rd_eq l i hi, l01In_eq, hk, Option.bind_some, if_pos rfl, if_pos (by omega), wrap_succ i (by omega), Int.toNat_natCast]) ?_
              refine Ev.bind (sHas_ev _ _ (by rw [List.length_take]; omega)) ?_
              cases hh : hasI (l.take i) l[i] with
              | true => exact Ev.eq (Ev.val fun k => by rw [if_pos rfl]) (by simp)
              | false => exact Ev.eq (Ev.congr (fun k => by rw [if_neg (by decide)]) hn) (by simp)
        · refine Ev.congr (fun k => by rw [if_pos h1, if_pos h2, if_pos h3]) ?_
          simp only [Bool.not_eq_true] at h4
          rw [h4]
          exact fals _ (by simp)
      · refine Ev.congr (fun k => by rw [if_pos h1, if_pos h2, if_neg h3]) (fals _ ?_)
        simp [withinB] at h3
        by_cases h5 : 0 ≤ loss
        · simp [show ¬ loss ≤ draw by omega]
        · simp [h5]
    · refine Ev.congr (fun k => by rw [if_pos h1, if_neg h2]) (fals _ ?_)
      simp [withinB] at h2
      by_cases h5 : 0 ≤ draw
      · simp [show ¬ draw ≤ win by omega]
      · by_cases h6 : 0 ≤ loss
        · simp [show ¬ loss ≤ draw by omega]
        · simp [h6]
  · refine Ev.congr (fun k => by rw [if_neg h1]) (fals _ ?_)
    simp [withinB] at h1
    by_cases h5 : win ≤ 10
    · by_cases h6 : 0 ≤ loss
      · by_cases h7 : loss ≤ draw
        · simp [show ¬ draw ≤ win by omega]
        · simp [h7]
      · simp [h6]
    · simp [h5]
theorem sGameOk_ev (n : Int) (g : Game) : Ev (fun k => spec_GameOk.f k n g.f0 g.f1 g.f2 g.f3 g.f4) (gameOkB n g) := by
  unfold spec_GameOk.f gameOkB
  simp only [l01In_eq, Option.bind_some]
  have fals : ∀ q, q = false → Ev (fun k => spec_GameOk.j0 k true g.f0 g.f1 g.f2 g.f3 g.f4) q := fun q hq => Ev.step (f := fun _ => some false) (fun k => by rw [spec_GameOk.j0, if_pos rfl]) (Ev.eq (Ev.now _) hq.symm)
  by_cases h1 : withinB n 2 8 = true
  · have hw : wrap64 (n - 1) = n - 1 := by
      simp [withinB] at h1
      unfold wrap64; omega
    rw [hw, h1]
    by_cases h2 : withinB g.f0 0 (n - 1) = true
    · by_cases h3 : withinB g.f1 0 (n - 1) = true
      · by_cases h4 : g.f0 = g.f1
        · exact Ev.congr (fun k => by rw [if_pos rfl, if_pos h2, if_pos h3, if_pos h4]) (fals _ (by simp [h4]))
        · by_cases h5 : withinB g.f4 0 4 = true
          · refine Ev.congr (fun k => by rw [if_pos rfl, if_pos h2, if_pos h3, if_neg h4, h5]) ?_
            rw [h2, h3, h5, decide_eq_false h4]
            by_cases h6 : g.f4 = 1
            · refine Ev.step (f := fun _ => some (withinB g.f2 0 99 && withinB g.f3 0 99)) (fun k => ?_) (Ev.eq (Ev.now _) (by simp [h6]))
              rw [spec_GameOk.j0, if_neg (by decide), if_pos h6]
              simp only [l01In_eq, Option.bind_some]
              cases withinB g.f2 0 99 <;> simp
            · refine Ev.step (f := fun _ => some (decide (g.f2 = 0) && decide (g.f3 = 0))) (fun k => ?_) (Ev.eq (Ev.now _) ?_)
              · rw [spec_GameOk.j0, if_neg (by decide), if_neg h6]
                by_cases h7 : g.f2 = 0
                · rw [if_pos h7]; simp [h7]; grind
                · rw [if_neg h7]; simp [h7]
              · rw [if_neg h6]
                unfold withinB
                grind
          · refine Ev.congr (fun k => by rw [if_pos rfl, if_pos h2, if_pos h3, if_neg h4]) ?_
            simp only [Bool.not_eq_true] at h5
            rw [h5]
            exact fals _ (by simp)
      · exact Ev.congr (fun k => by rw [if_pos rfl, if_pos h2, if_neg h3]) (fals _ (by simp [Bool.not_eq_true _ ▸ h3]))
    · exact Ev.congr (fun k => by rw [if_pos rfl, if_neg h2]) (fals _ (by simp [Bool.not_eq_true _ ▸ h2]))
  · exact Ev.congr (fun k => by rw [if_neg h1]) (fals _ (by simp [Bool.not_eq_true _ ▸ h1]))
end Go.Proofs.Ytoaepoffooomnaa.Q
namespace Go.Proofs.Ytoaepoffooomnaa.Q
open Go.RowKit Go.Proofs.YtoaepoffooomnaaW.PrintWords Go.Proofs.YtoaepoffooomnaaW.PrintLast Go.Proofs.YtoaepoffooomnaaW.PrintMore
theorem sGameOf_ev (l : List Game) (h a : Int) (hl : l.length ≤ 1048576) : Ev (fun k => spec_GameOf.f k l h a) (idxI (gameIs h a) l) := by
  have hp : ∀ x : Int, x = -1 → ∀ y, (if y < 0 then (-1 : Int) else y) = (if y < 0 then -1 else y) := fun _ _ _ => rfl
  refine Ev.eq (Ev.down l.length (fun i k => spec_GameOf.l0 k h a l (l.length : Int) (i : Int)) (fun i => if idxI (gameIs h a) (l.drop i) < 0 then -1 else idxI (gameIs h a) (l.drop i) + i) ?_ ?_) ?_
  · exact Ev.step (f := fun _ => some (-1)) (fun k => by rw [spec_GameOf.l0, if_neg (by omega)]) (Ev.eq (Ev.now _) (by rw [List.drop_length]; rfl))
  · intro i hi hn
    rw [List.drop_eq_getElem_cons hi, idxI]
    by_cases h1 : l[i].f0 = h
    · by_cases h2 : l[i].f1 = a
      · exact Ev.eq (Ev.step (f := fun _ => some (i : Int)) (fun k => by rw [spec_GameOf.l0, if_pos (by omega), if_pos (by omega), if_pos (by omega), rdG_eq l i hi, if_pos h1, if_pos h2]) (Ev.now _)) (by simp [gameIs, h1, h2])
      · refine Ev.eq (Ev.step (fun k => by rw [spec_GameOf.l0, if_pos (by omega), if_pos (by omega), if_pos (by omega), rdG_eq l i hi, if_pos h1, if_neg h2, wrap_succ i (by omega)]) hn) ?_
        simp only [gameIs, h1, h2, beq_self_eq_true, beq_eq_false_iff_ne.mpr h2, Bool.true_and, Bool.false_eq_true, if_false]
        generalize idxI (gameIs h a) (l.drop (i + 1)) = y
        grind
    · refine Ev.eq (Ev.step (fun k => by rw [spec_GameOf.l0, if_pos (by omega), if_pos (by omega), if_pos (by omega), rdG_eq l i hi, if_neg h1, wrap_succ i (by omega)]) hn) ?_
      have hg : gameIs h a l[i] = false := by simp [gameIs, h1]
      rw [hg]
      generalize idxI (gameIs h a) (l.drop (i + 1)) = y
      grind
  · show (if idxI (gameIs h a) l < 0 then (-1 : Int) else idxI (gameIs h a) l + ((0 : Nat) : Int)) = _
    have : ∀ l : List Game, idxI (gameIs h a) l = -1 ∨ 0 ≤ idxI (gameIs h a) l := by
      intro l
      induction l with
      | nil => exact .inl rfl
      | cons y l ih => simp only [idxI]; grind
    rcases this l with h3 | h3
    · rw [h3]; rfl
    · rw [if_neg (by omega)]; omega
theorem idx_first {α : Type} (p : α → Bool) (l : List α) (i : Nat) (hi : i < l.length) (h : p l[i] = true) : decide (idxI p l = (i : Int)) = !(l.take i).any p := by
  induction l generalizing i with
  | nil => simp at hi
  | cons x l ih =>
    cases i with
    | zero => simp only [List.getElem_cons_zero] at h; simp [idxI, h]
    | succ i =>
      simp only [List.getElem_cons_succ] at h
      have := ih i (by simpa using hi) h
      simp only [List.take_succ_cons, List.any_cons]
      by_cases hx : p x = true
      · have e1 : idxI p (x :: l) = 0 := by simp only [idxI, hx, if_true]
        rw [hx, Bool.true_or, e1]
        exact decide_eq_false (by omega)
      · simp only [Bool.not_eq_true] at hx
        have h2 : 0 ≤ idxI p l := by
          have := idxI_any p l
          have h3 : l.any p = true := List.any_eq_true.mpr ⟨l[i]'(by simpa using hi), List.getElem_mem _, h⟩
          rw [h3] at this
          simpa using this
        have e : (if p x = true then 0 else if idxI p l < 0 then -1 else idxI p l + 1) = idxI p l + 1 := by
          rw [if_neg (by rw [hx]; decide), if_neg (by omega)]
        have e2 : decide (idxI p l + 1 = ((i + 1 : Nat) : Int)) = decide (idxI p l = (i : Int)) := decide_eq_decide.mpr (by omega)
        have e3 : decide (idxI p (x :: l) = ((i + 1 : Nat) : Int)) = decide (idxI p l + 1 = ((i + 1 : Nat) : Int)) := decide_eq_decide.mpr (by rw [show idxI p (x :: l) = idxI p l + 1 from e])
        rw [hx, Bool.false_or, ← this, ← e2]
        exact e3
theorem sSeasonOk_ev (n : Int) (l : List Game) : Ev (fun k => spec_SeasonOk.f k n l) (seasonOkB n l) := by
  unfold spec_SeasonOk.f seasonOkB
  by_cases hl : (l.length : Int) > 60
  · exact Ev.eq (Ev.val fun k => by rw [if_pos hl]) (by simp; intro _; omega)
  · refine Ev.congr (fun k => by rw [if_neg hl]) ?_
    rw [decide_eq_true (show (l.length : Int) ≤ 60 by omega), Bool.and_true]
    refine Ev.eq (Ev.down l.length (fun i k => spec_SeasonOk.l0 k n l l (l.length : Int) (i : Int)) (fun i => seasonFrom n (l.take i) (l.drop i)) ?_ ?_) rfl
    · exact Ev.step (f := fun _ => some true) (fun k => by rw [spec_SeasonOk.l0, if_neg (by omega)]) (Ev.eq (Ev.now _) (by rw [List.drop_length]; rfl))
    · intro i hi hn
      rw [List.drop_eq_getElem_cons hi, seasonFrom]
      rw [List.take_succ_eq_append_getElem hi] at hn
      refine Ev.step (f := fun k => (spec_GameOk.f k n l[i].f0 l[i].f1 l[i].f2 l[i].f3 l[i].f4).bind fun t158 => (if t158 = true then ((spec_GameOf.f k l l[i].f0 l[i].f1).bind fun t159 => (if t159 = (i : Int) then (spec_SeasonOk.l0 k n l l (l.length : Int) ((i + 1 : Nat) : Int)) else (some false))) else (some false))) (fun k => by rw [spec_SeasonOk.l0, if_pos (by omega), if_pos (by omega), if_pos (by omega), rdG_eq l i hi, wrap_succ i (by omega)]) ?_
      refine Ev.bind (sGameOk_ev n l[i]) ?_
      cases hg : gameOkB n l[i] with
      | false => exact Ev.eq (Ev.val fun k => by rw [if_neg (by decide)]) (by simp)
      | true =>
        refine Ev.congr (fun k => by rw [if_pos rfl]) (Ev.bind (sGameOf_ev l _ _ (by omega)) ?_)
        have hf := idx_first (gameIs l[i].f0 l[i].f1) l i hi (by simp [gameIs])
        by_cases he : idxI (gameIs l[i].f0 l[i].f1) l = (i : Int)
        · rw [decide_eq_true he] at hf
          exact Ev.eq (Ev.congr (fun k => by rw [if_pos he]) hn) (by rw [← hf]; simp)
        · rw [decide_eq_false he] at hf
          exact Ev.eq (Ev.val fun k => by rw [if_neg he]) (by rw [← hf]; simp)
theorem sBookOk_ev (field : List Team) (win draw loss : Int) (ladder : List Int) (again : Bool) (games : List Game) (fair taken : List Int) (hs : ∀ t, t ∈ field → t.f0.size ≤ 4611686018427387903) :
    Ev (fun k => spec_BookOk.f k field win draw loss ladder again games fair taken) (bookOkB field win draw loss ladder games fair taken) := by
  unfold spec_BookOk.f bookOkB
  have fals : ∀ q, q = false → Ev (fun k => spec_BookOk.j0 k true field win draw loss ladder again games fair taken) q := fun q hq => Ev.step (f := fun _ => some false) (fun k => by rw [spec_BookOk.j0, if_pos rfl]) (Ev.eq (Ev.now _) hq.symm)
  refine Ev.bind (sFieldOk_ev field hs) ?_
  cases h1 : fieldOkB field with
  | false => exact Ev.congr (fun k => by rw [if_neg (by decide)]) (fals _ (by simp))
  | true =>
    have hfl : field.length ≤ 8 := by
      unfold fieldOkB at h1
      simp [withinB] at h1
      omega
    refine Ev.congr (fun k => by rw [if_pos rfl]) (Ev.bind (sRulesOk_ev _ _ _ _ _) ?_)
    cases h2 : rulesOkB win draw loss ladder with
    | false => exact Ev.congr (fun k => by rw [if_neg (by decide)]) (fals _ (by simp))
    | true =>
      refine Ev.congr (fun k => by rw [if_pos rfl]) (Ev.bind (sSeasonOk_ev _ _) ?_)
      cases h3 : seasonOkB field.length games with
      | false => exact Ev.congr (fun k => by rw [if_neg (by decide)]) (fals _ (by simp))
      | true =>
        by_cases h4 : (fair.length : Int) = (field.length : Int)
        · by_cases h5 : (taken.length : Int) = (field.length : Int)
          · refine Ev.congr (f := fun k => spec_BookOk.j0 k false field win draw loss ladder again games fair taken) (fun k => by rw [if_pos rfl, if_pos h4, show ((taken.length : Int) != (field.length : Int)) = false by simp; omega]) ?_
            refine Ev.step (f := fun k => spec_BookOk.l0 k (field.length : Int) 0 field win draw loss ladder again games fair taken) (fun k => by rw [spec_BookOk.j0, if_neg (by decide)]) ?_
            refine Ev.eq (Ev.down field.length (fun i k => spec_BookOk.l0 k (field.length : Int) (i : Int) field win draw loss ladder again games fair taken) (fun i => !(fair.drop i).any (fun x => !withinB x 0 1000) && !(taken.drop i).any (fun x => !withinB x 0 1000)) ?_ ?_) ?_
            · exact Ev.step (f := fun _ => some true) (fun k => by rw [spec_BookOk.l0, if_neg (by omega)]) (Ev.eq (Ev.now _) (by rw [List.drop_eq_nil_of_le (by omega), List.drop_eq_nil_of_le (by omega)]; rfl))
            · intro i hi hn
              rw [List.drop_eq_getElem_cons (show i < fair.length by omega), List.drop_eq_getElem_cons (show i < taken.length by omega)]
              cases ha : withinB fair[i] 0 1000 with
              | false => exact Ev.eq (Ev.step (f := fun _ => some false) (fun k => by rw [spec_BookOk.l0, if_pos (by omega), if_pos (by omega), if_pos (by omega), rd_eq fair i (by omega), l01In_eq, ha, Option.bind_some, if_neg (by decide)]) (Ev.now _)) (by rw [List.any_cons, List.any_cons, ha]; rfl)
              | true =>
                cases hb : withinB taken[i] 0 1000 with
                | false => exact Ev.eq (Ev.step (f := fun _ => some false) (fun k => by rw [spec_BookOk.l0, if_pos (by omega), if_pos (by omega), if_pos (by omega), rd_eq fair i (by omega), l01In_eq, ha, Option.bind_some, if_pos rfl, if_pos (by omega), rd_eq taken i (by omega), l01In_eq, hb, Option.bind_some, if_neg (by decide)]) (Ev.now _)) (by rw [List.any_cons, List.any_cons, ha, hb]; exact Bool.and_false _ |>.symm)
                | true => exact Ev.eq (Ev.step (fun k => by rw [spec_BookOk.l0, if_pos (by omega), if_pos (by omega), if_pos (by omega), rd_eq fair i (by omega), l01In_eq, ha, Option.bind_some, if_pos rfl, if_pos (by omega), rd_eq taken i (by omega), l01In_eq, hb, Option.bind_some, if_pos rfl, wrap_succ i (by omega)]) hn) (by rw [List.any_cons, List.any_cons, ha, hb]; exact (by simp))
            · simp [penaltiesB, h4, h5]
          · refine Ev.congr (f := fun k => spec_BookOk.j0 k true field win draw loss ladder again games fair taken) (fun k => by rw [if_pos rfl, if_pos h4, show ((taken.length : Int) != (field.length : Int)) = true by simp; omega]) (fals _ (by simp [penaltiesB, h5]))
        · exact Ev.congr (fun k => by rw [if_pos rfl, if_neg h4]) (fals _ (by simp [penaltiesB, h4]))
end Go.Proofs.Ytoaepoffooomnaa.Q
namespace Go.Proofs.Ytoaepoffooomnaa.Q
open Go.RowKit Go.Proofs.YtoaepoffooomnaaW.PrintWords Go.Proofs.YtoaepoffooomnaaW.PrintLast Go.Proofs.YtoaepoffooomnaaW.PrintMore
theorem whereI_mem {α : Type} (p : α → Bool) (l : List α) : ∀ (i x : Int), x ∈ whereI p i l → i ≤ x ∧ x < i + l.length := by
  induction l with
  | nil => intro i x h; cases h
  | cons y l ih =>
    intro i x h
    rw [whereI, List.mem_append] at h
    simp only [List.length_cons]
    rcases h with h | h
    · split at h
      · rw [List.mem_singleton] at h; omega
      · cases h
    · have := ih _ _ h
      omega
theorem whereI_len {α : Type} (p : α → Bool) (l : List α) : ∀ i : Int, (whereI p i l).length ≤ l.length := by
  induction l with
  | nil => intro i; exact Nat.le_refl _
  | cons y l ih =>
    intro i
    rw [whereI, List.length_append, List.length_cons]
    have := ih (i + 1)
    split <;> simp <;> omega
theorem openI_mem (l : List Game) (x : Int) (h : x ∈ openI l) : 0 ≤ x ∧ x < l.length := by
  have := whereI_mem isOpenB l 0 x h
  omega
theorem openI_len (l : List Game) : (openI l).length ≤ l.length := whereI_len isOpenB l 0
theorem iOpenGames_eq (l : List Game) (h : l.length ≤ 1048576) : impl_OpenGames.f l = some (openI l) := by
  unfold impl_OpenGames.f
  rw [if_pos (by omega)]
def playG (g : Game) (o : Int) : Game := if withinB o 1 3 then ⟨g.f0, g.f1, if o = 1 then 1 else 0, if o = 3 then 1 else 0, 1⟩ else g
theorem iPlay_eq (g : Game) (o : Int) : impl_PlayGame.f g.f0 g.f1 g.f2 g.f3 g.f4 o = some ((playG g o).f0, (playG g o).f1, (playG g o).f2, (playG g o).f3, (playG g o).f4) := by
  unfold impl_PlayGame.f playG
  rw [within_eq, Option.bind_some]
  cases withinB o 1 3 with
  | false => rfl
  | true =>
    by_cases h1 : o = 1
    · subst h1; rfl
    · by_cases h3 : o = 3
      · subst h3; rfl
      · simp [h1, h3]
theorem sPlay_eq (g : Game) (o : Int) : spec_PlayGame.f g.f0 g.f1 g.f2 g.f3 g.f4 o = some ((playG g o).f0, (playG g o).f1, (playG g o).f2, (playG g o).f3, (playG g o).f4) := by
  unfold spec_PlayGame.f playG
  rw [l01In_eq, Option.bind_some]
  cases withinB o 1 3 with
  | false => rfl
  | true =>
    by_cases h1 : o = 1
    · subst h1; rfl
    · by_cases h3 : o = 3
      · subst h3; rfl
      · simp [h1, h3]
def playAll : List Int → List Int → List Game → List Game
  | k :: ks, o :: os, G => playAll ks os (G.set k.toNat (playG (G.getD k.toNat z75) o))
  | _, _, G => G
theorem playAll_len (ks : List Int) : ∀ (os : List Int) (G : List Game), (playAll ks os G).length = G.length := by
  induction ks with
  | nil => intro os G; cases os <;> rfl
  | cons k ks ih =>
    intro os G
    cases os with
    | nil => rfl
    | cons o os => rw [playAll, ih, List.length_set]
section
variable (F : List Team) (w d s : Int) (L : List Int) (ag : Bool) (fa ta : List Int)
theorem iPlayed_loop (ks os : List Int) (hl : ks.length ≤ os.length) (hk : ks.length ≤ 1048576) (N : Nat) (hN : ∀ x ∈ ks, 0 ≤ x ∧ x < N) : ∀ (d0 i : Nat) (G : List Game), i + d0 = ks.length → G.length = N →
    Ev (fun k => impl_played.l0 k os ks (ks.length : Int) (i : Int) F w d s L ag G fa ta) (F, w, d, s, L, ag, playAll (ks.drop i) (os.drop i) G, fa, ta) := by
  intro d0
  induction d0 with
  | zero =>
    intro i G hi hG
    rw [List.drop_eq_nil_of_le (show ks.length ≤ i by omega)]
    refine Ev.step (f := fun _ => some (F, w, d, s, L, ag, G, fa, ta)) (fun k => by rw [impl_played.l0, if_neg (by omega)]) (Ev.eq (Ev.now _) ?_)
    cases os.drop i <;> rfl
  | succ d0 ih =>
    intro i G hi hG
    have h1 : i < ks.length := by omega
    have h2 : i < os.length := by omega
    obtain ⟨b0, b1⟩ := hN ks[i] (List.getElem_mem h1)
    obtain ⟨j, hj⟩ := Int.eq_ofNat_of_zero_le b0
    rw [List.drop_eq_getElem_cons h1, List.drop_eq_getElem_cons h2, playAll]
    have hjl : j < G.length := by omega
    refine Ev.step (fun k => ?_) (ih (i + 1) _ (by omega) (by rw [List.length_set]; exact hG))
    rw [impl_played.l0, if_pos (by omega), if_pos (by omega), if_pos (by omega), rd_eq ks i h1, hj, if_pos (by omega), if_pos (by omega), if_pos (by omega), rdG_eq G j hjl, rd_eq os i h2, iPlay_eq, Option.bind_some, wrap_succ i (by omega), Int.toNat_natCast, List.getD_eq_getElem?_getD, List.getElem?_eq_getElem hjl]
    rfl
theorem played_same : ∀ (k : Nat) (os ks : List Int) (n i : Int) (G : List Game), spec_l16With.l0 k os ks n i F w d s L ag G fa ta = impl_played.l0 k os ks n i F w d s L ag G fa ta := by
  intro k
  induction k with
  | zero => intros; rfl
  | succ k ih =>
    intro os ks n i G
    rw [spec_l16With.l0, impl_played.l0]
    simp only [sPlay_eq, iPlay_eq, Option.bind_some, ih]
theorem iCopied_eq (G : List Game) (h1 : F.length ≤ 1048576) (h2 : L.length ≤ 1048576) (h3 : G.length ≤ 1048576) (h4 : fa.length ≤ 1048576) (h5 : ta.length ≤ 1048576) : impl_Book_copied.f F w d s L ag G fa ta = some (F, w, d, s, L, ag, G, fa, ta) := by
  unfold impl_Book_copied.f slices_Clone_impl_Team_impl_Team.f slices_Clone_impl_Game_impl_Game.f slices_Clone_int_int.f
  simp only [Option.bind_some, List.length_nil, List.nil_append]
  rw [if_pos (by omega), Option.bind_some, if_pos (by omega), Option.bind_some, if_pos (by omega), Option.bind_some, if_pos (by omega), Option.bind_some, if_pos (by omega), Option.bind_some]
theorem sCopy_eq (G : List Game) (h1 : F.length ≤ 1048576) (h2 : L.length ≤ 1048576) (h3 : G.length ≤ 1048576) (h4 : fa.length ≤ 1048576) (h5 : ta.length ≤ 1048576) : spec_l16Copy.f F w d s L ag G fa ta = some (F, w, d, s, L, ag, G, fa, ta) := by
  unfold spec_l16Copy.f
  simp only [Option.bind_some, List.length_nil, List.nil_append]
  rw [if_pos (by omega), if_pos (by omega), if_pos (by omega), if_pos (by omega), if_pos (by omega)]
theorem iPlayed_ev (G : List Game) (os : List Int) (h1 : F.length ≤ 1048576) (h2 : L.length ≤ 1048576) (h3 : G.length ≤ 1048576) (h4 : fa.length ≤ 1048576) (h5 : ta.length ≤ 1048576) (ho : (openI G).length ≤ os.length) :
    Ev (fun k => impl_played.f k F w d s L ag G fa ta os) (F, w, d, s, L, ag, playAll (openI G) os G, fa, ta) := by
  unfold impl_played.f
  have hl := openI_len G
  refine Ev.congr (fun k => by rw [iCopied_eq F w d s L ag fa ta G h1 h2 h3 h4 h5, Option.bind_some, iOpenGames_eq G h3, Option.bind_some]) ?_
  exact iPlayed_loop F w d s L ag fa ta (openI G) os ho (by omega) G.length (openI_mem G) _ 0 G (Nat.zero_add _) rfl
theorem sWith_ev (G : List Game) (os : List Int) (h1 : F.length ≤ 1048576) (h2 : L.length ≤ 1048576) (h3 : G.length ≤ 1048576) (h4 : fa.length ≤ 1048576) (h5 : ta.length ≤ 1048576) (ho : (openI G).length ≤ os.length) :
    Ev (fun k => spec_l16With.f k F w d s L ag G fa ta (openI G) os) (F, w, d, s, L, ag, playAll (openI G) os G, fa, ta) := by
  unfold spec_l16With.f
  have hl := openI_len G
  refine Ev.congr (fun k => by rw [sCopy_eq F w d s L ag fa ta G h1 h2 h3 h4 h5, Option.bind_some]) ?_
  refine Ev.congr (fun k => played_same F w d s L ag fa ta k os (openI G) _ _ G) ?_
  exact iPlayed_loop F w d s L ag fa ta (openI G) os ho (by omega) G.length (openI_mem G) _ 0 G (Nat.zero_add _) rfl
def isOutcomeB (G : List Game) (os : List Int) : Bool := bookOkB F w d s L G fa ta && decide (((openI G).length : Int) ≤ 5) && (decide (os.length = (openI G).length) && !os.any (fun x => !withinB x 1 3))
theorem iIsOutcome_ev (G : List Game) (os : List Int) (hn : ∀ t ∈ F, t.f0.size ≤ 1048576) (h2 : L.length ≤ 1048576) (h3 : G.length ≤ 1048576) :
    Ev (fun k => impl_IsOutcome.f k F w d s L ag G fa ta os) (isOutcomeB F w d s L fa ta G os) := by
  unfold impl_IsOutcome.f impl_isShort.f isOutcomeB
  have hb : Ev (fun k => impl_BookOk.f k F w d s L ag G fa ta) (bookOkB F w d s L G fa ta) := Ev.from _ (bookOk_eq F w d s L ag G fa ta ⟨fun t ht => Nat.le_trans (hn t ht) (by decide), by omega, by omega⟩)
  refine Ev.bind (a := bookOkB F w d s L G fa ta && decide (((openI G).length : Int) ≤ 5)) (Ev.bind hb (Ev.val fun k => ?_)) (Ev.val fun k => ?_)
  · rw [iOpenGames_eq G h3, Option.bind_some]
    cases bookOkB F w d s L G fa ta <;> rfl
  · rw [iOpenGames_eq G h3, Option.bind_some, impl_areOutcomes.f, Option.bind_some]
    have : decide ((os.length : Int) = ((openI G).length : Int)) = decide (os.length = (openI G).length) := decide_eq_decide.mpr (by omega)
    rw [this]
    cases bookOkB F w d s L G fa ta && decide (((openI G).length : Int) ≤ 5) <;> rfl
theorem sOutcome_l0 (os : List Int) (hl : os.length ≤ 1048576) : Ev (fun k => spec_IsOutcome.l0 k os (os.length : Int) 0) (!os.any (fun x => !withinB x 1 3)) := by
  refine Ev.loop os.length (fun i k => spec_IsOutcome.l0 k os (os.length : Int) (i : Int)) (fun i => !(os.drop i).any (fun x => !withinB x 1 3)) (fun k => rfl) rfl ?_ ?_
  · exact Ev.step (f := fun _ => some true) (fun k => by rw [spec_IsOutcome.l0, if_neg (by omega)]) (Ev.eq (Ev.now _) (by rw [List.drop_length]; rfl))
  · intro i hi h
    rw [List.drop_eq_getElem_cons hi]
    cases hw : withinB os[i] 1 3 with
    | true => exact Ev.eq (Ev.step (fun k => by rw [spec_IsOutcome.l0, if_pos (by omega), if_pos (by omega), if_pos (by omega), rd_eq os i hi, l01In_eq, hw, Option.bind_some, if_pos rfl, wrap_succ i (by omega)]) h) (by rw [List.any_cons, hw]; rfl)
    | false => exact Ev.eq (Ev.step (f := fun _ => some false) (fun k => by rw [spec_IsOutcome.l0, if_pos (by omega), if_pos (by omega), if_pos (by omega), rd_eq os i hi, l01In_eq, hw, Option.bind_some, if_neg (by decide)]) (Ev.now _)) (by rw [List.any_cons, hw]; rfl)
theorem sIsOutcome_ev (G : List Game) (os : List Int) (hn : ∀ t ∈ F, t.f0.size ≤ 1048576) (h3 : G.length ≤ 1048576) (hl : os.length ≤ 1048576) :
    Ev (fun k => spec_IsOutcome.f k F w d s L ag G fa ta os) (isOutcomeB F w d s L fa ta G os) := by
  unfold spec_IsOutcome.f spec_l16Open.f isOutcomeB
  have hb := sBookOk_ev F w d s L ag G fa ta (fun t ht => Nat.le_trans (hn t ht) (by decide))
  have fals : ∀ q, q = false → Ev (fun k => spec_IsOutcome.j0 k os true) q := fun q hq => Ev.step (f := fun _ => some false) (fun k => by rw [spec_IsOutcome.j0, if_pos rfl]) (Ev.eq (Ev.now _) hq.symm)
  refine Ev.bind (a := (openI G, bookOkB F w d s L G fa ta && decide (((openI G).length : Int) ≤ 5))) (Ev.bind (sOpenGames_ev G h3) (Ev.bind hb (Ev.val fun k => ?_))) ?_
  · cases bookOkB F w d s L G fa ta <;> rfl
  · cases hc : bookOkB F w d s L G fa ta && decide (((openI G).length : Int) ≤ 5) with
    | false => exact Ev.congr (fun k => by rw [if_neg (by simp)]) (fals _ (by simp))
    | true =>
      by_cases he : os.length = (openI G).length
      · have hne : ((os.length : Int) != ((openI G).length : Int)) = false := by simp; omega
        refine Ev.congr (fun k => by rw [if_pos rfl, hne]) (Ev.step (fun k => by rw [spec_IsOutcome.j0, if_neg (by decide)]) (Ev.eq (sOutcome_l0 os hl) ?_))
        rw [decide_eq_true he]; simp
      · have hne : ((os.length : Int) != ((openI G).length : Int)) = true := by simp; omega
        exact Ev.congr (fun k => by rw [if_pos rfl, hne]) (fals _ (by rw [decide_eq_false he]; simp))
def withOutcome (G : List Game) (os : List Int) : List Team × Int × Int × Int × List Int × Bool × List Game × List Int × List Int × Bool :=
  if isOutcomeB F w d s L fa ta G os then (F, w, d, s, L, ag, playAll (openI G) os G, fa, ta, true) else ([], 0, 0, 0, [], false, [], [], [], false)
theorem isOutcomeB_len {G : List Game} {os : List Int} (h : isOutcomeB F w d s L fa ta G os = true) : os.length = (openI G).length := by
  unfold isOutcomeB at h
  simp only [Bool.and_eq_true, decide_eq_true_eq] at h
  exact h.2.1
theorem iWithOutcome_ev (G : List Game) (os : List Int) (hn : ∀ t ∈ F, t.f0.size ≤ 1048576) (h1 : F.length ≤ 1048576) (h2 : L.length ≤ 1048576) (h3 : G.length ≤ 1048576) (h4 : fa.length ≤ 1048576) (h5 : ta.length ≤ 1048576) :
    Ev (fun k => impl_WithOutcome.f k F w d s L ag G fa ta os) (withOutcome F w d s L ag fa ta G os) := by
  unfold impl_WithOutcome.f withOutcome
  refine Ev.bind (iIsOutcome_ev F w d s L ag fa ta G os hn h2 h3) ?_
  cases hc : isOutcomeB F w d s L fa ta G os with
  | false => exact Ev.val fun k => by rw [if_neg (by decide)]; rfl
  | true =>
    have ho := isOutcomeB_len F w d s L fa ta hc
    refine Ev.congr (fun k => by rw [if_pos rfl]) (Ev.bind (iPlayed_ev F w d s L ag fa ta G os h1 h2 h3 h4 h5 (by omega)) ?_)
    exact Ev.val fun k => rfl
theorem sWithOutcome_ev (G : List Game) (os : List Int) (hn : ∀ t ∈ F, t.f0.size ≤ 1048576) (h1 : F.length ≤ 1048576) (h2 : L.length ≤ 1048576) (h3 : G.length ≤ 1048576) (h4 : fa.length ≤ 1048576) (h5 : ta.length ≤ 1048576) (hl : os.length ≤ 1048576) :
    Ev (fun k => spec_WithOutcome.f k F w d s L ag G fa ta os) (withOutcome F w d s L ag fa ta G os) := by
  unfold spec_WithOutcome.f withOutcome
  refine Ev.bind (sIsOutcome_ev F w d s L ag fa ta G os hn h3 hl) ?_
  cases hc : isOutcomeB F w d s L fa ta G os with
  | false => exact Ev.val fun k => by rw [if_neg (by decide)]; rfl
  | true =>
    have ho := isOutcomeB_len F w d s L fa ta hc
    refine Ev.congr (fun k => by rw [if_pos rfl]) (Ev.bind (sOpenGames_ev G h3) (Ev.bind (sWith_ev F w d s L ag fa ta G os h1 h2 h3 h4 h5 (by omega)) ?_))
    exact Ev.val fun k => rfl
end
end Go.Proofs.Ytoaepoffooomnaa.Q
namespace Go.Proofs.Ytoaepoffooomnaa.Pure
open Go.RowKit Go.Proofs.Ytoaepoffooomnaa.Q Go.Proofs.YtoaepoffooomnaaW.PrintWords Go.Proofs.YtoaepoffooomnaaW.PrintLast
theorem FnExactWithOutcome (F : List TeamA) (w d s : Int) (L : List Int) (ag : Bool) (G : List GameA) (fa ta l1 : List Int) (ok0 : BkArg F w d s L G fa ta) (ok1 : l1.length ≤ maxLen ∧ ∀ x ∈ l1, (Lit.int .i64 x).wf = true) :
    ∃ k, laws_FnExactWithOutcome.f k F w d s L ag G fa ta l1 = some true := by
  refine Ev.rounds ?_
  unfold laws_FnExactWithOutcome.f
  by_cases hl1 : (l1.length : Int) > 1048576
  · exact Ev.val fun k => by rw [if_pos hl1]
  refine Ev.congr (fun k => by rw [if_neg hl1]) ?_
  have h1 : l1.length ≤ 1048576 := by omega
  obtain ⟨t, et, ht⟩ := szBook_arg F w d s L ag G fa ta ok0
  rcases ht with ht | ⟨ht, -, hs⟩
  · exact Ev.bind et (Ev.val fun k => by rw [if_pos ht])
  refine Ev.bind et (Ev.congr (fun k => by rw [if_neg (by omega)]) ?_)
  have hF : (F.map convT).length ≤ 1048576 := by rw [List.length_map]; exact hs.f
  have hG : (G.map convG).length ≤ 1048576 := by rw [List.length_map]; exact hs.g
  have hN : ∀ t ∈ F.map convT, t.f0.size ≤ 1048576 := by
    intro t h
    obtain ⟨x, hx, rfl⟩ := List.mem_map.mp h
    exact hs.n x hx
  have eA := toBook_ev F w d s L ag G fa ta hs.f hs.l hs.g hs.x hs.y
  have eT := toInt_ev l1 h1
  have eS := sWithOutcome_ev (F.map convT) w d s L ag fa ta (G.map convG) l1 hN hF hs.l hG hs.x hs.y h1
  have eI := iWithOutcome_ev (F.map convT) w d s L ag fa ta (G.map convG) l1 hN hF hs.l hG hs.x hs.y
  have eB := eqBook_ev (F.map convT) w d s L ag (G.map convG) fa ta hF hs.l hG hs.x hs.y
  have eL := eqInt_ev l1 h1
  obtain ⟨F2, w2, d2, s2, L2, ag2, G2, fa2, ta2, b2, hr, z1, z2, z3, z4, z5⟩ : ∃ F2 w2 d2 s2 L2 ag2 G2 fa2 ta2 b2, withOutcome (F.map convT) w d s L ag fa ta (G.map convG) l1 = (F2, w2, d2, s2, L2, ag2, G2, fa2, ta2, b2) ∧ F2.length ≤ 1048576 ∧ L2.length ≤ 1048576 ∧ G2.length ≤ 1048576 ∧ fa2.length ≤ 1048576 ∧ ta2.length ≤ 1048576 := by
    unfold withOutcome
    split
    · exact ⟨_, _, _, _, _, _, _, _, _, _, rfl, hF, hs.l, by rw [playAll_len]; exact hG, hs.x, hs.y⟩
    · exact ⟨_, _, _, _, _, _, _, _, _, _, rfl, Nat.zero_le _, Nat.zero_le _, Nat.zero_le _, Nat.zero_le _, Nat.zero_le _⟩
  rw [hr] at eS eI
  have eR := eqBook_ev F2 w2 d2 s2 L2 ag2 G2 fa2 ta2 z1 z2 z3 z4 z5
  refine Ev.bind eA (Ev.bind eT (Ev.bind eS (Ev.bind eA (Ev.bind eT (Ev.bind eI (Ev.bind eR ?_))))))
  have eM := markBook_ev F2 w2 d2 s2 L2 ag2 G2 fa2 ta2 1 (by decide) (by decide) z1 z2 z3 z4 z5
  have eH := heldBook_ev w2 d2 s2 ag2 1 (by decide) (by decide) F2.length L2.length G2.length fa2.length ta2.length z1 z2 z3 z4 z5
  have hp := markBk_pos 1 (by decide) F2.length L2.length G2.length fa2.length ta2.length
  have eM1 := markBook_ev (F.map convT) w d s L ag (G.map convG) fa ta 1 (by decide) (by decide) hF hs.l hG hs.x hs.y
  have hp1 := markBk_pos 1 (by decide) (F.map convT).length L.length (G.map convG).length fa.length ta.length
  have hp2 := markBk_le 1 (F.map convT).length L.length (G.map convG).length fa.length ta.length hF hs.l hG hs.x hs.y (by decide)
  have eM2 := markInt_ev l1 _ (Int.le_of_lt hp1) (by omega)
  have ej2 : Ev (fun k => laws_FnExactWithOutcome.j2 k (markBk 1 F2.length L2.length G2.length fa2.length ta2.length).1 false (markBk 1 F2.length L2.length G2.length fa2.length ta2.length).2.1 w2 d2 s2 (markBk 1 F2.length L2.length G2.length fa2.length ta2.length).2.2.1 ag2 (markBk 1 F2.length L2.length G2.length fa2.length ta2.length).2.2.2.1 (markBk 1 F2.length L2.length G2.length fa2.length ta2.length).2.2.2.2.1 (markBk 1 F2.length L2.length G2.length fa2.length ta2.length).2.2.2.2.2) true := by
    refine Ev.step (fun k => by rw [laws_FnExactWithOutcome.j2, if_neg (by decide)]) (Ev.bind eH ?_)
    exact Ev.val fun k => by rw [if_neg (by omega), if_pos rfl]
  have ej1 : Ev (fun k => laws_FnExactWithOutcome.j1 k l1 b2 false F w d s L ag G fa ta F2 w2 d2 s2 L2 ag2 G2 fa2 ta2 F2 w2 d2 s2 L2 ag2 G2 fa2 ta2) true := by
    refine Ev.step (fun k => by rw [laws_FnExactWithOutcome.j1, if_neg (by decide)]) (Ev.bind eM (Ev.bind eH ?_))
    refine Ev.congr (fun k => by rw [if_neg (by omega), if_pos rfl]) (Ev.bind eA (Ev.bind eT (Ev.bind eI (Ev.bind eR ?_))))
    refine Ev.congr (fun k => by rw [if_pos rfl]) ?_
    simp only [bne_self_eq_false]
    exact ej2
  refine Ev.congr (fun k => by rw [if_pos rfl]) ?_
  simp only [bne_self_eq_false]
  refine Ev.step (fun k => by rw [laws_FnExactWithOutcome.j0, if_neg (by decide)]) (Ev.bind eA (Ev.bind eB ?_))
  refine Ev.congr (fun k => by rw [if_pos rfl]) (Ev.bind eT (Ev.bind eL ?_))
  refine Ev.congr (fun k => by rw [if_pos rfl]) (Ev.bind eM1 (Ev.bind eM2 ?_))
  refine Ev.congr (fun k => by rw [if_neg (by omega)]) (Ev.bind eR ?_)
  refine Ev.congr (fun k => by rw [if_pos rfl]) ?_
  simp only [bne_self_eq_false]
  exact ej1
end Go.Proofs.Ytoaepoffooomnaa.Pure
namespace Go.Proofs.Ytoaepoffooomnaa.fnExactWithOutcome
open Go.ChangeShapes Go.WideShapes Go.ChangeAt Go.RowKit
open Go.ChangeMaps (open_string shut_string)
set_option linter.unusedVariables false
theorem own : ownKnob Try.prog.godebug = none := by kernel_rfl
theorem laidOut : laidOutB Try.prog = true := by kernel_rfl
set_option maxRecDepth 100000 in
set_option maxHeartbeats 4000000 in
theorem lifted (os : Os) (started : os.Started) (H : Type) (enc : TypeId × Value → H) :
    ReturnsInHanded {} Try.checked os 3 .any (Rows.fnExactWithOutcomeSpec.pre6 enc Try.prog Try.f3 Rows.fnExactWithOutcomeRow.domain false) (Rows.fnExactWithOutcomeSpec.post enc Try.prog Try.f3 false true false false) := by
  refine returnsInHanded_of_change_sized (C := Try.checked) own started (by kernel_rfl) Try.func3
    (ChangeSpec.witness6 (enc := enc) (C := Try.checked) false ⟨#[], #[.agg #[.slice none 0 0, .int .i64 0, .int .i64 0, .int .i64 0, .slice none 0 0, .bool false, .slice none 0 0, .slice none 0 0, .slice none 0 0], .slice none 0 0], []⟩ 8 (by kernel_rfl) (by kernel_rfl) (by kernel_rfl) (by kernel_rfl)) ?_
  intro W base args ds gs before hval0 hW hcnd hsz0 _
  have hval : ∀ (j : Nat) t v, Try.f3.params[j]? = some t → args[j]? = some v → Value.okWide Try.prog W .any base t v := hval0
  have hW' := hW
  obtain ⟨p, q, hA0, hV, rfl, hfz, hnd⟩ := hW
  have hA : DataW.TrodAll enc Try.prog W 0 (fun _ => true) true Try.f3.params.toList args.toList ds p := hA0
  rw [Try.params3] at hA hval
  obtain ⟨v0, vs0, d0, ds0, p0, q0, hargs0, rfl, rfl, h0, r0⟩ := trodAll_cons hA
  obtain ⟨v1, vs1, d1, ds1, p1, q1, hargs1, rfl, rfl, h1, r1⟩ := trodAll_cons r0
  obtain ⟨rfl, rfl, rfl⟩ := trodAll_nil r1
  obtain rfl : args = #[v0, v1] := by cases args; simp_all
  obtain ⟨rfl, rfl⟩ := trodVars_none hV
  have k0 := h0; have lt0 : ∀ x ∈ p0, x.block < W.heap.size := by obtain ⟨m, hm⟩ := k0; exact DataW.trod_lt m _ _ _ hm
  have k1 := h1; have lt1 : ∀ x ∈ p1, x.block < W.heap.size := by obtain ⟨m, hm⟩ := k1; exact DataW.trod_lt m _ _ _ hm
  obtain ⟨cs0, x0, rfl, hK0, ok0⟩ := Opens.trod_struct_val Try.underlying28 (hval 0 28 v0 rfl rfl) h0 (Opens.struct Try.underlying28 (by kernel_rfl) (Opens.cons 0 1 rfl (Opens.slice Try.underlying22 (Opens.iso (f := fun x : Q.S84 => (x.f0, x.f1, x.f2)) (fun x => ⟨x.1, x.2.1, x.2.2⟩) (fun _ => rfl) (Opens.struct Try.underlying84 (by kernel_rfl) (Opens.cons 0 1 rfl (Opens.string Try.underlying9) (by kernel_rfl) rfl (Opens.cons 1 2 rfl (Opens.int Try.underlying3) (by kernel_rfl) rfl (Opens.one 2 rfl (Opens.int Try.underlying3) (by kernel_rfl)))))) (by kernel_rfl) 84) (by kernel_rfl) rfl (Opens.cons 1 6 rfl (Opens.struct Try.underlying25 (by kernel_rfl) (Opens.cons 0 1 rfl (Opens.int Try.underlying3) (by kernel_rfl) rfl (Opens.cons 1 2 rfl (Opens.int Try.underlying3) (by kernel_rfl) rfl (Opens.cons 2 3 rfl (Opens.int Try.underlying3) (by kernel_rfl) rfl (Opens.cons 3 4 rfl (Opens.slice Try.underlying23 (Opens.int Try.underlying3) (by kernel_rfl) 3) (by kernel_rfl) rfl (Opens.one 4 rfl (Opens.bool Try.underlying4) (by kernel_rfl))))))) (by kernel_rfl) rfl (Opens.cons 6 7 rfl (Opens.slice Try.underlying26 (Opens.iso (f := fun x : Q.S90 => (x.f0, x.f1, x.f2, x.f3, x.f4)) (fun x => ⟨x.1, x.2.1, x.2.2.1, x.2.2.2.1, x.2.2.2.2⟩) (fun _ => rfl) (Opens.struct Try.underlying90 (by kernel_rfl) (Opens.cons 0 1 rfl (Opens.int Try.underlying3) (by kernel_rfl) rfl (Opens.cons 1 2 rfl (Opens.int Try.underlying3) (by kernel_rfl) rfl (Opens.cons 2 3 rfl (Opens.int Try.underlying3) (by kernel_rfl) rfl (Opens.cons 3 4 rfl (Opens.int Try.underlying3) (by kernel_rfl) rfl (Opens.one 4 rfl (Opens.int Try.underlying3) (by kernel_rfl)))))))) (by kernel_rfl) 90) (by kernel_rfl) rfl (Opens.cons 7 8 rfl (Opens.slice Try.underlying23 (Opens.int Try.underlying3) (by kernel_rfl) 3) (by kernel_rfl) rfl (Opens.one 8 rfl (Opens.slice Try.underlying23 (Opens.int Try.underlying3) (by kernel_rfl) 3) (by kernel_rfl)))))))
  obtain ⟨l0_0, ⟨a0_1_0, a0_1_1, a0_1_2, l0_1_3, a0_1_4⟩, l0_2, l0_3, l0_4⟩ := x0
  obtain ⟨_, _, hcs0, ⟨A0_0, c0_0, rfl, hl0_0, hC0_0⟩, ⟨_, _, rfl, ⟨_, _, rfl, rfl, ⟨_, _, rfl, rfl, ⟨_, _, rfl, rfl, ⟨_, _, rfl, ⟨A0_1_3, c0_1_3, rfl, hl0_1_3, hC0_1_3⟩, rfl⟩⟩⟩⟩, ⟨_, _, rfl, ⟨A0_2, c0_2, rfl, hl0_2, hC0_2⟩, ⟨_, _, rfl, ⟨A0_3, c0_3, rfl, hl0_3, hC0_3⟩, ⟨A0_4, c0_4, rfl, hl0_4, hC0_4⟩⟩⟩⟩⟩ := hK0
  obtain rfl : cs0 = #[.slice A0_0 l0_0.length c0_0, .int .i64 a0_1_0, .int .i64 a0_1_1, .int .i64 a0_1_2, .slice A0_1_3 l0_1_3.length c0_1_3, .bool a0_1_4, .slice A0_2 l0_2.length c0_2, .slice A0_3 l0_3.length c0_3, .slice A0_4 l0_4.length c0_4] := Array.toList_inj.mp hcs0
  obtain ⟨A1, c1, l1, rfl, hl1, hC1, ok1⟩ := Opens.trod_slice_val Try.underlying23 (hval 1 23 v1 rfl rfl) h1 (Opens.slice Try.underlying23 (Opens.int Try.underlying3) (by kernel_rfl) 3)
  clear hA0 hval0 hsz0
  obtain ⟨k, hk⟩ := Pure.FnExactWithOutcome l0_0 a0_1_0 a0_1_1 a0_1_2 l0_1_3 a0_1_4 l0_2 l0_3 l0_4 l1 ok0 ok1
  refine (Q.laws_FnExactWithOutcome.calls k  A0_0 c0_0 l0_0 a0_1_0 a0_1_1 a0_1_2 A0_1_3 c0_1_3 l0_1_3 a0_1_4 A0_2 c0_2 l0_2 A0_3 c0_3 l0_3 A0_4 c0_4 l0_4 A1 c1 l1 _ W hC0_0 hl0_0 hC0_1_3 hl0_1_3 hC0_2 hl0_2 hC0_3 hl0_3 hC0_4 hl0_4 hC1 hl1 hk).mono fun e W' ⟨he, bel⟩ => ?_
  subst he
  exact ⟨_, rfl, _, _, _, [], _, [], hW', trodAll_mk1 (shut_bool Try.underlying4 _), (trodAll_cons_mk (Below.trod laidOut (by kernel_rfl) (of_decide_eq_true (by kernel_rfl)) k0 bel lt0) (trodAll_cons_mk (Below.trod laidOut (by kernel_rfl) (of_decide_eq_true (by kernel_rfl)) k1 bel lt1) trodAll_mk0)), rfl, bel.frame _, fun h => by cases h⟩
theorem over : Rows.fnExactWithOutcomeRow.holds Try.pinned (OpenSpec.ofChange Rows.fnExactWithOutcomeSpec) :=
  OpenClaim.holds_of_wide 3 Try.f3 rfl rfl rfl rfl rfl rfl rfl ⟨rfl, rfl, rfl, rfl, rfl⟩ rfl rfl rfl rfl rfl (by kernel_rfl) Try.func3 (by kernel_rfl)
    (of_decide_eq_true (by kernel_rfl)) (by unfold Func.isWrapper; first | (rw [if_pos (by decide +kernel)]; kernel_rfl) | (rw [if_neg (by decide +kernel)]; exact ⟨rfl, rfl⟩))
    (fun os started H enc _ => lifted os started H enc)
theorem proved : Rows.FnExactWithOutcomeSaid := over
end Go.Proofs.Ytoaepoffooomnaa.fnExactWithOutcome
namespace Go.Proofs.Ytoaepoffooomnaa
theorem fnExactWithOutcome_holds : Rows.FnExactWithOutcomeSaid := fnExactWithOutcome.proved
end Go.Proofs.Ytoaepoffooomnaa
