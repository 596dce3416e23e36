/- A part of the proof of FnExactCheckLead. No condition. -/
import Derived.Test.YthfefanapneocaaKFnExactCheckLead1
import Derived.Test.YthfefanapneocaaProg
import Derived.Below
import Derived.Deep.Draws
import Derived.Deep.AppendLies
import Derived.Maps.AppendAt
import Derived.OwnWalk
import Derived.Laws.BytesArg
import Derived.Laws.MakeOwn
import Derived.Laws.OwnMore
import Derived.Deep.OwnRows
import Derived.Tactics
import Derived.Lib.ConvBytes
import Derived.Laws.Slices
import Derived.WalkKit
import Derived.KernelRfl
import Derived.RowKit3
import Derived.Deep.LoopGhost
import Derived.Deep.QuietTactic
import Derived.BigQuiet
import Derived.WideLaws
import Derived.Deep.DeepCutAuto
import Derived.Deep.CutBlock
import Derived.Deep.RegionHeld3
import Derived.Laws.Rows
import Derived.Lib.AppendStr
import Derived.ArgAppend
import Derived.Laws.IdiomCopy
import Derived.OrdersHeld
import Derived.Laws.BitsLemmas
import Derived.RowKit
import Derived.WalkSpells
import Derived.Shelf.Strings.Builder1
import Derived.Shelf.Strings.Builder2
import Derived.Shelf.Small.Bits
import Derived.Shelf.Strconv.Itoa0
import Derived.Ground.Names2Prog
import Derived.Shelf.Slices.Clone
import Derived.Shelf.Slices.SearchI
import Derived.Ground.SlgnProg
import Derived.Shelf.SlicesE.Clone
import Derived.Lib.AppendIntMem
import Derived.Laws.StructEq
import Derived.Test.YthfefanapneocaaKFnExactCheckLead4
import Derived.Test.YthfefanapneocaaKFnExactCheckLead5
import Derived.Test.YthfefanapneocaaKFnExactCheckLead6
import Derived.Test.YthfefanapneocaaKFnExactCheckLead2
import Derived.Test.YthfefanapneocaaKFnExactCheckLead3
import Derived.Test.YthfefanapneocaaRows
import Derived.ProofKit
import Derived.OpenShut
import Derived.ShutString
import Derived.ChangeOld
import Derived.SizedLaws
namespace Go.Proofs.Ythfefanapneocaa.Q
open Go.RowKit Go.Proofs.YthfefanapneocaaW.PrintWords Go.Proofs.YthfefanapneocaaW.PrintLast Go.Proofs.YthfefanapneocaaW.PrintMore
abbrev TRow := S115
theorem rdR_eq (l : List TRow) (i : Nat) (h : i < l.length) : rd_T115 l (i : Int) = l[i] := by
  unfold rd_T115; simp [h]
def set2 (T : List TRow) (i j : Nat) (A B : TRow) : List TRow := (T.set i A).set j B
section
variable {T : List TRow} {i j : Nat} {A B C : TRow}
theorem set2_len : (set2 T i j A B).length = T.length := by unfold set2; simp
theorem rd_set2_i (hi : i < T.length) (hn : i ≠ j) : rd_T115 (set2 T i j A B) (i : Int) = A := by
  rw [rdR_eq _ i (by rw [set2_len]; exact hi)]
  unfold set2
  rw [List.getElem_set_ne (Ne.symm hn), List.getElem_set_self]
theorem rd_set2_j (hj : j < T.length) : rd_T115 (set2 T i j A B) (j : Int) = B := by
  rw [rdR_eq _ j (by rw [set2_len]; exact hj)]
  unfold set2
  rw [List.getElem_set_self]
theorem set_set2_i (hn : i ≠ j) : (set2 T i j A B).set i C = set2 T i j C B := by
  unfold set2
  rw [List.set_comm _ _ (Ne.symm hn), List.set_set]
theorem set_set2_j : (set2 T i j A B).set j C = set2 T i j A C := by
  unfold set2
  rw [List.set_set]
theorem set2_self (hi : i < T.length) (hj : j < T.length) : set2 T i j (rd_T115 T i) (rd_T115 T j) = T := by
  rw [rdR_eq T i hi, rdR_eq T j hj]
  unfold set2
  rw [List.set_getElem_self, List.set_getElem_self]
end
def rowAdd (r : TRow) (p w d l s a q : Int) : TRow := ⟨wrap64 (r.f0 + p), wrap64 (r.f1 + w), wrap64 (r.f2 + d), wrap64 (r.f3 + l), wrap64 (r.f4 + s), wrap64 (r.f5 + a), wrap64 (r.f6 + q)⟩
def goals (g : Game) : Int × Int × Bool := if g.f4 = 1 then (g.f2, g.f3, true) else if g.f4 = 2 then (3, 0, true) else if g.f4 = 3 then (0, 3, true) else (0, 0, false)
theorem iGoals_eq (g : Game) : impl_GoalsOf.f g.f0 g.f1 g.f2 g.f3 g.f4 = some (goals g) := by
  unfold impl_GoalsOf.f goals
  by_cases h1 : g.f4 = 1
  · rw [if_pos h1, if_pos h1]
  · by_cases h2 : g.f4 = 2
    · rw [if_neg h1, if_neg h1, if_pos h2, if_pos h2]
    · by_cases h3 : g.f4 = 3
      · rw [if_neg h1, if_neg h1, if_neg h2, if_neg h2, if_pos h3, if_pos h3]
      · rw [if_neg h1, if_neg h1, if_neg h2, if_neg h2, if_neg h3, if_neg h3]
theorem sGoals_eq (g : Game) : spec_GoalsOf.f g.f0 g.f1 g.f2 g.f3 g.f4 = some (goals g) := by
  unfold spec_GoalsOf.f goals
  by_cases h1 : g.f4 = 1
  · rw [if_pos h1, if_pos h1]
  · by_cases h2 : g.f4 = 2
    · rw [if_neg h1, if_neg h1, if_pos h2, if_pos h2]
    · by_cases h3 : g.f4 = 3
      · rw [if_neg h1, if_neg h1, if_neg h2, if_neg h2, if_pos h3, if_pos h3]
      · rw [if_neg h1, if_neg h1, if_neg h2, if_neg h2, if_neg h3, if_neg h3]
def stepT (w d s : Int) (T : List TRow) (g : Game) : List TRow :=
  if (goals g).2.2 = true then
    if (goals g).1 > (goals g).2.1 then set2 T g.f0.toNat g.f1.toNat (rowAdd (rd_T115 T g.f0) 1 1 0 0 (goals g).1 (goals g).2.1 w) (rowAdd (rd_T115 T g.f1) 1 0 0 1 (goals g).2.1 (goals g).1 s)
    else if (goals g).1 < (goals g).2.1 then set2 T g.f0.toNat g.f1.toNat (rowAdd (rd_T115 T g.f0) 1 0 0 1 (goals g).1 (goals g).2.1 s) (rowAdd (rd_T115 T g.f1) 1 1 0 0 (goals g).2.1 (goals g).1 w)
    else set2 T g.f0.toNat g.f1.toNat (rowAdd (rd_T115 T g.f0) 1 0 1 0 (goals g).1 (goals g).2.1 d) (rowAdd (rd_T115 T g.f1) 1 0 1 0 (goals g).2.1 (goals g).1 d)
  else T
def inT (n : Nat) (g : Game) : Prop := g.f0 ≠ g.f1 ∧ 0 ≤ g.f0 ∧ g.f0 < n ∧ 0 ≤ g.f1 ∧ g.f1 < n
def wrapped (r : TRow) : Prop := wrap64 r.f1 = r.f1 ∧ wrap64 r.f2 = r.f2 ∧ wrap64 r.f3 = r.f3
theorem wrap_wrap (x : Int) : wrap64 (wrap64 x) = wrap64 x := by unfold wrap64; omega
theorem wrapped_add (r : TRow) (p w d l s a q : Int) : wrapped (rowAdd r p w d l s a q) := ⟨wrap_wrap _, wrap_wrap _, wrap_wrap _⟩
theorem stepT_len (w d s : Int) (T : List TRow) (g : Game) : (stepT w d s T g).length = T.length := by
  unfold stepT
  split
  · split
    · exact set2_len
    · split <;> exact set2_len
  · rfl
theorem set2_wrapped {T : List TRow} {i j : Nat} {A B : TRow} (h : ∀ r ∈ T, wrapped r) (ha : wrapped A) (hb : wrapped B) : ∀ r ∈ set2 T i j A B, wrapped r := by
  intro r hr
  unfold set2 at hr
  rcases List.mem_or_eq_of_mem_set hr with hr | rfl
  · rcases List.mem_or_eq_of_mem_set hr with hr | rfl
    · exact h r hr
    · exact ha
  · exact hb
theorem stepT_wrapped (w d s : Int) (T : List TRow) (g : Game) (h : ∀ r ∈ T, wrapped r) : ∀ r ∈ stepT w d s T g, wrapped r := by
  unfold stepT
  split
  · split
    · exact set2_wrapped h (wrapped_add ..) (wrapped_add ..)
    · split <;> exact set2_wrapped h (wrapped_add ..) (wrapped_add ..)
  · exact h
def tableL (w d s : Int) (n : Nat) (G : List Game) : List TRow := G.foldl (stepT w d s) (List.replicate n z115)
theorem foldT_len (w d s : Int) (G : List Game) : ∀ T, (G.foldl (stepT w d s) T).length = T.length := by
  induction G with
  | nil => intro T; rfl
  | cons g G ih => intro T; rw [List.foldl_cons, ih, stepT_len]
theorem tableL_len (w d s : Int) (n : Nat) (G : List Game) : (tableL w d s n G).length = n := by unfold tableL; rw [foldT_len, List.length_replicate]
section
variable (w d s : Int) (L : List Int) (ag : Bool)
theorem sAdd_j0 (k : Nat) (T : List TRow) (i j : Nat) (hil : i < T.length) (hjl : j < T.length) (hne : i ≠ j) (g2 g3 g4 p1 p2 p3 p4 p5 p6 p7 q1 q2 q3 q4 q5 q6 q7 : Int) :
    spec_l06Add.j0 (k + 1) T (i : Int) (j : Int) g2 g3 g4 p1 p2 p3 p4 p5 p6 p7 q1 q2 q3 q4 q5 q6 q7 = some (set2 T i j (rowAdd (rd_T115 T (i : Int)) p1 p2 p3 p4 p5 p6 p7) (rowAdd (rd_T115 T (j : Int)) q1 q2 q3 q4 q5 q6 q7)) := by
  have key : ∀ A B : TRow, (T.set i A).set j B = set2 T i j A B := fun _ _ => rfl
  have rdj : ∀ A : TRow, rd_T115 (T.set i A) (j : Int) = rd_T115 T (j : Int) := by
    intro A
    rw [rdR_eq _ j (by simpa using hjl), rdR_eq T j hjl, List.getElem_set_ne hne]
  rw [spec_l06Add.j0, if_pos (by omega), if_pos (by omega), spec_AddRows.f]
  simp only [Option.bind_some, Int.toNat_natCast, rdj, key]
  rw [if_pos (by omega), if_pos (by omega), spec_AddRows.f]
  simp only [Option.bind_some, rdj, key]
  rfl
theorem sAdd_eq (k : Nat) (T : List TRow) (g : Game) (hg : inT T.length g) : spec_l06Add.f (k + 1) w d s L ag T g.f0 g.f1 g.f2 g.f3 g.f4 = some (stepT w d s T g) := by
  obtain ⟨hn, h0, h1, h2, h3⟩ := hg
  obtain ⟨i, hi⟩ := Int.eq_ofNat_of_zero_le h0
  obtain ⟨j, hj⟩ := Int.eq_ofNat_of_zero_le h2
  have hil : i < T.length := by omega
  have hjl : j < T.length := by omega
  have hne : i ≠ j := by omega
  unfold spec_l06Add.f spec_OutcomeOf.f stepT
  rw [sGoals_eq g]
  simp only [Option.bind_some]
  cases hz : (goals g).2.2 with
  | false => rw [if_neg (by decide), if_neg (by decide)]
  | true =>
    rw [if_pos rfl, if_pos rfl, if_pos rfl]
    generalize (goals g).1 = x
    generalize (goals g).2.1 = y
    by_cases c1 : x > y
    · rw [if_pos c1, if_pos c1, Option.bind_some, if_pos rfl, hi, hj, sAdd_j0 k T i j hil hjl hne, Int.toNat_natCast, Int.toNat_natCast]
    · by_cases c2 : x = y
      · rw [if_neg c1, if_neg c1, if_neg (show ¬ x < y by omega), if_pos c2, Option.bind_some, if_neg (by decide), if_pos rfl, hi, hj, sAdd_j0 k T i j hil hjl hne, Int.toNat_natCast, Int.toNat_natCast]
      · rw [if_neg c1, if_neg c1, if_pos (show x < y by omega), if_neg c2, Option.bind_some, if_neg (by decide), if_neg (by decide), if_pos rfl, hi, hj, sAdd_j0 k T i j hil hjl hne, Int.toNat_natCast, Int.toNat_natCast]
theorem sAdd_ev (T : List TRow) (g : Game) (hg : inT T.length g) : Ev (fun k => spec_l06Add.f k w d s L ag T g.f0 g.f1 g.f2 g.f3 g.f4) (stepT w d s T g) :=
  Ev.step (f := fun _ => some (stepT w d s T g)) (fun k => sAdd_eq w d s L ag k T g hg) (Ev.now _)
theorem iAdd_eq (k : Nat) (T : List TRow) (g : Game) (G : List Game) (m q : Int) (hg : inT T.length g) (hw : ∀ r ∈ T, wrapped r) (hz : (goals g).2.2 = true) :
    impl_tableOfG.j1 (fun _ => true) (k + 1) T (goals g).1 (goals g).2.1 G m q false w d s L ag g.f0 g.f1 g.f2 g.f3 g.f4 = impl_tableOfG.l0 (fun _ => true) k (stepT w d s T g) G m (wrap64 (q + 1)) w d s L ag := by
  obtain ⟨hn, h0, h1, h2, h3⟩ := hg
  obtain ⟨i, hi⟩ := Int.eq_ofNat_of_zero_le h0
  obtain ⟨j, hj⟩ := Int.eq_ofNat_of_zero_le h2
  have hil : i < T.length := by omega
  have hjl : j < T.length := by omega
  have hne : i ≠ j := by omega
  unfold stepT
  rw [if_pos hz]
  generalize (goals g).1 = x
  generalize (goals g).2.1 = y
  rw [impl_tableOfG.j1, if_neg (by decide), if_pos h0, if_pos h1, if_pos h2, if_pos h3, hi, hj, Int.toNat_natCast, Int.toNat_natCast]
  have wa : wrapped (rd_T115 T (i : Int)) := by rw [rdR_eq T i hil]; exact hw _ (List.getElem_mem hil)
  have wb : wrapped (rd_T115 T (j : Int)) := by rw [rdR_eq T j hjl]; exact hw _ (List.getElem_mem hjl)
  have hT := set2_self (T := T) hil hjl
  generalize rd_T115 T (i : Int) = a at wa hT ⊢
  generalize rd_T115 T (j : Int) = b at wb hT ⊢
  have hTl : T.length = (set2 T i j a b).length := set2_len.symm
  rw [← hT]
  simp only [Option.bind_some, rd_set2_i hil hne, rd_set2_j hjl, set_set2_i hne, set_set2_j]
  have s2 : ∀ (A B C D : TRow), set2 (set2 T i j A B) i j C D = set2 T i j C D := by
    intro A B C D
    show ((set2 T i j A B).set i C).set j D = _
    rw [set_set2_i hne, set_set2_j]
  rw [s2, s2, s2]
  obtain ⟨wa1, wa2, wa3⟩ := wa
  obtain ⟨wb1, wb2, wb3⟩ := wb
  by_cases c1 : x > y
  · rw [if_pos c1, if_pos c1]
    simp only [rowAdd, Int.add_zero, wa1, wa2, wa3, wb1, wb2, wb3]
  · by_cases c2 : x < y
    · rw [if_neg c1, if_neg c1, if_pos c2, if_pos c2]
      simp only [rowAdd, Int.add_zero, wa1, wa2, wa3, wb1, wb2, wb3]
    · rw [if_neg c1, if_neg c1, if_neg c2, if_neg c2]
      simp only [rowAdd, Int.add_zero, wa1, wa2, wa3, wb1, wb2, wb3]
theorem sAmong_ev (n : Nat) (hn : n ≤ 1048576) (G : List Game) (hG : ∀ g ∈ G, inT n g) (hl : G.length ≤ 1048576) : Ev (fun k => spec_l06Among.f k w d s L ag (n : Int) G [] true) (tableL w d s n G) := by
  unfold spec_l06Among.f
  refine Ev.congr (fun k => by rw [if_pos (show (0 : Int) ≤ (n : Int) by omega), Int.toNat_natCast, if_pos (by omega)]) ?_
  have key : ∀ (e i : Nat) (T : List TRow), i + e = G.length → T.length = n → Ev (fun k => spec_l06Among.l0 k [] true T G (G.length : Int) (i : Int) w d s L ag) ((G.drop i).foldl (stepT w d s) T) := by
    intro e
    induction e with
    | zero =>
      intro i T hi hT
      rw [List.drop_eq_nil_of_le (by omega)]
      exact Ev.step (f := fun _ => some T) (fun k => by rw [spec_l06Among.l0, if_neg (by omega)]) (Ev.now _)
    | succ e ih =>
      intro i T hi hT
      have hlt : i < G.length := by omega
      rw [List.drop_eq_getElem_cons hlt, List.foldl_cons]
      refine Ev.step (fun k => by rw [spec_l06Among.l0, if_pos (by omega), if_pos (by omega), if_pos (by omega), if_pos rfl, rdG_eq G i hlt]) (Ev.bind (sAdd_ev w d s L ag T G[i] (by rw [hT]; exact hG _ (List.getElem_mem hlt))) ?_)
      exact Ev.congr (fun k => by rw [wrap_succ i (by omega)]) (ih (i + 1) (stepT w d s T G[i]) (by omega) (by rw [stepT_len]; exact hT))
  exact key G.length 0 _ (Nat.zero_add _) (List.length_replicate)
theorem iTable_ev (n : Nat) (hn : n ≤ 1048576) (G : List Game) (hG : ∀ g ∈ G, inT n g) (hl : G.length ≤ 1048576) : Ev (fun k => impl_tableOf.f k w d s L ag (n : Int) G) (tableL w d s n G) := by
  unfold impl_tableOf.f impl_tableOfG.f
  refine Ev.congr (fun k => by rw [if_pos (show (0 : Int) ≤ (n : Int) by omega), Int.toNat_natCast, if_pos (by omega)]) ?_
  have key : ∀ (e i : Nat) (T : List TRow), i + e = G.length → T.length = n → (∀ r ∈ T, wrapped r) → Ev (fun k => impl_tableOfG.l0 (fun _ => true) k T G (G.length : Int) (i : Int) w d s L ag) ((G.drop i).foldl (stepT w d s) T) := by
    intro e
    induction e with
    | zero =>
      intro i T hi hT hw
      rw [List.drop_eq_nil_of_le (by omega)]
      exact Ev.step (f := fun _ => some T) (fun k => by rw [impl_tableOfG.l0, if_neg (by omega)]) (Ev.now _)
    | succ e ih =>
      intro i T hi hT hw
      have hlt : i < G.length := by omega
      rw [List.drop_eq_getElem_cons hlt, List.foldl_cons]
      have next := ih (i + 1) (stepT w d s T G[i]) (by omega) (by rw [stepT_len]; exact hT) (stepT_wrapped w d s T G[i] hw)
      refine Ev.step (fun k => by rw [impl_tableOfG.l0, if_pos (by omega), if_pos (by omega), if_pos (by omega), rdG_eq G i hlt, iGoals_eq, Option.bind_some]) ?_
      cases hz : (goals G[i]).2.2 with
      | false =>
        have hs : stepT w d s T G[i] = T := by unfold stepT; rw [hz, if_neg (by decide)]
        rw [hs] at next ⊢
        refine Ev.congr (fun k => by rw [if_neg (by decide)]) (Ev.step (fun k => by rw [impl_tableOfG.j1, if_pos rfl, wrap_succ i (by omega)]) next)
      | true =>
        refine Ev.congr (fun k => by rw [if_pos rfl, hol_, Option.bind_some]) ?_
        refine Ev.step (fun k => ?_) next
        rw [← wrap_succ i (by omega)]
        exact iAdd_eq w d s L ag k T G[i] G (G.length : Int) (i : Int) (by rw [hT]; exact hG _ (List.getElem_mem hlt)) hw hz
  refine key G.length 0 _ (Nat.zero_add _) List.length_replicate ?_
  intro r hr
  rw [List.eq_of_mem_replicate hr]
  have h0 : wrap64 0 = 0 := by unfold wrap64; omega
  exact ⟨h0, h0, h0⟩
end
theorem sIsOpen_eq (g : Game) : spec_IsOpen.f g.f0 g.f1 g.f2 g.f3 g.f4 = some (isOpenB g) := rfl
theorem sOpenGames_ev (l : List Game) (hl : l.length ≤ 1048576) : Ev (fun k => spec_OpenGames.f k l) (openI l) := by
  have split : ∀ (i : Nat), i ≤ l.length → ∃ acc, acc.length ≤ i ∧ openI l = acc ++ whereI isOpenB i (l.drop i) := by
    intro i
    induction i with
    | zero => intro _; exact ⟨[], by simp, rfl⟩
    | succ i ih =>
      intro hi
      obtain ⟨acc, h1, h2⟩ := ih (by omega)
      refine ⟨acc ++ (if isOpenB l[i] then [(i : Int)] else []), ?_, ?_⟩
      · rw [List.length_append]; split <;> simp <;> omega
      · rw [h2, List.drop_eq_getElem_cons (by omega), whereI, List.append_assoc]
        rfl
  have key : ∀ (d i : Nat) (acc : List Int), i + d = l.length → acc.length ≤ i → Ev (fun k => spec_OpenGames.l0 k acc l (l.length : Int) (i : Int)) (acc ++ whereI isOpenB i (l.drop i)) := by
    intro d
    induction d with
    | zero =>
      intro i acc hi ha
      rw [List.drop_eq_nil_of_le (by omega), whereI, List.append_nil]
      exact Ev.step (f := fun _ => some acc) (fun k => by rw [spec_OpenGames.l0, if_neg (by omega)]) (Ev.now _)
    | succ d ih =>
      intro i acc hi ha
      have hlt : i < l.length := by omega
      rw [List.drop_eq_getElem_cons hlt, whereI]
      cases ho : isOpenB l[i] with
      | true =>
        have := ih (i + 1) (acc ++ [(i : Int)]) (by omega) (by simp; omega)
        refine Ev.eq (Ev.step (fun k => ?_) this) (by simp)
        rw [spec_OpenGames.l0, if_pos (by omega), if_pos (by omega), if_pos (by omega), rdG_eq l i hlt, sIsOpen_eq, ho, Option.bind_some, if_pos rfl, if_pos (by omega), wrap_succ i (by omega)]
      | false =>
        have := ih (i + 1) acc (by omega) (by omega)
        refine Ev.eq (Ev.step (fun k => ?_) this) (by simp)
        rw [spec_OpenGames.l0, if_pos (by omega), if_pos (by omega), if_pos (by omega), rdG_eq l i hlt, sIsOpen_eq, ho, Option.bind_some, if_neg (by decide), wrap_succ i (by omega)]
  have := key l.length 0 [] (by omega) (by simp)
  exact this
theorem whereI_mem {α : Type} (p : α → Bool) (l : List α) : ∀ (i x : Int), x ∈ whereI p i l → i ≤ x ∧ x < i + l.length := by
  induction l with
  | nil => intro i x h; cases h
  | cons y l ih =>
    intro i x h
    rw [whereI, List.mem_append] at h
    simp only [List.length_cons]
    rcases h with h | h
    · split at h
      · rw [List.mem_singleton] at h; omega
      · cases h
    · have := ih _ _ h
      omega
theorem whereI_len {α : Type} (p : α → Bool) (l : List α) : ∀ i : Int, (whereI p i l).length ≤ l.length := by
  induction l with
  | nil => intro i; exact Nat.le_refl _
  | cons y l ih =>
    intro i
    rw [whereI, List.length_append, List.length_cons]
    have := ih (i + 1)
    split <;> simp <;> omega
theorem openI_mem (l : List Game) (x : Int) (h : x ∈ openI l) : 0 ≤ x ∧ x < l.length := by
  have := whereI_mem isOpenB l 0 x h
  omega
theorem openI_len (l : List Game) : (openI l).length ≤ l.length := whereI_len isOpenB l 0
theorem iOpenGames_eq (l : List Game) (h : l.length ≤ 1048576) : impl_OpenGames.f l = some (openI l) := by
  unfold impl_OpenGames.f
  rw [if_pos (by omega)]
def playG (g : Game) (o : Int) : Game := if withinB o 1 3 then ⟨g.f0, g.f1, if o = 1 then 1 else 0, if o = 3 then 1 else 0, 1⟩ else g
theorem iPlay_eq (g : Game) (o : Int) : impl_PlayGame.f g.f0 g.f1 g.f2 g.f3 g.f4 o = some ((playG g o).f0, (playG g o).f1, (playG g o).f2, (playG g o).f3, (playG g o).f4) := by
  unfold impl_PlayGame.f playG
  rw [within_eq, Option.bind_some]
  cases withinB o 1 3 with
  | false => rfl
  | true =>
    by_cases h1 : o = 1
    · subst h1; rfl
    · by_cases h3 : o = 3
      · subst h3; rfl
      · simp [h1, h3]
theorem sPlay_eq (g : Game) (o : Int) : spec_PlayGame.f g.f0 g.f1 g.f2 g.f3 g.f4 o = some ((playG g o).f0, (playG g o).f1, (playG g o).f2, (playG g o).f3, (playG g o).f4) := by
  unfold spec_PlayGame.f playG
  rw [l01In_eq, Option.bind_some]
  cases withinB o 1 3 with
  | false => rfl
  | true =>
    by_cases h1 : o = 1
    · subst h1; rfl
    · by_cases h3 : o = 3
      · subst h3; rfl
      · simp [h1, h3]
def playAll : List Int → List Int → List Game → List Game
  | k :: ks, o :: os, G => playAll ks os (G.set k.toNat (playG (G.getD k.toNat z95) o))
  | _, _, G => G
theorem playAll_len (ks : List Int) : ∀ (os : List Int) (G : List Game), (playAll ks os G).length = G.length := by
  induction ks with
  | nil => intro os G; cases os <;> rfl
  | cons k ks ih =>
    intro os G
    cases os with
    | nil => rfl
    | cons o os => rw [playAll, ih, List.length_set]
section
variable (F : List Team) (w d s : Int) (L : List Int) (ag : Bool) (fa ta : List Int)
theorem iPlayed_loop (ks os : List Int) (hl : ks.length ≤ os.length) (hk : ks.length ≤ 1048576) (N : Nat) (hN : ∀ x ∈ ks, 0 ≤ x ∧ x < N) : ∀ (d0 i : Nat) (G : List Game), i + d0 = ks.length → G.length = N →
    Ev (fun k => impl_played.l0 k os ks (ks.length : Int) (i : Int) F w d s L ag G fa ta) (F, w, d, s, L, ag, playAll (ks.drop i) (os.drop i) G, fa, ta) := by
  intro d0
  induction d0 with
  | zero =>
    intro i G hi hG
    rw [List.drop_eq_nil_of_le (show ks.length ≤ i by omega)]
    refine Ev.step (f := fun _ => some (F, w, d, s, L, ag, G, fa, ta)) (fun k => by rw [impl_played.l0, if_neg (by omega)]) (Ev.eq (Ev.now _) ?_)
    cases os.drop i <;> rfl
  | succ d0 ih =>
    intro i G hi hG
    have h1 : i < ks.length := by omega
    have h2 : i < os.length := by omega
    obtain ⟨b0, b1⟩ := hN ks[i] (List.getElem_mem h1)
    obtain ⟨j, hj⟩ := Int.eq_ofNat_of_zero_le b0
    rw [List.drop_eq_getElem_cons h1, List.drop_eq_getElem_cons h2, playAll]
    have hjl : j < G.length := by omega
    refine Ev.step (fun k => ?_) (ih (i + 1) _ (by omega) (by rw [List.length_set]; exact hG))
    rw [impl_played.l0, if_pos (by omega), if_pos (by omega), if_pos (by omega), rd_eq ks i h1, hj, if_pos (by omega), if_pos (by omega), if_pos (by omega), rdG_eq G j hjl, rd_eq os i h2, iPlay_eq, Option.bind_some, wrap_succ i (by omega), Int.toNat_natCast, List.getD_eq_getElem?_getD, List.getElem?_eq_getElem hjl]
    rfl
theorem played_same : ∀ (k : Nat) (os ks : List Int) (n i : Int) (G : List Game), spec_l16With.l0 k os ks n i F w d s L ag G fa ta = impl_played.l0 k os ks n i F w d s L ag G fa ta := by
  intro k
  induction k with
  | zero => intros; rfl
  | succ k ih =>
    intro os ks n i G
    rw [spec_l16With.l0, impl_played.l0]
    simp only [sPlay_eq, iPlay_eq, Option.bind_some, ih]
theorem iPlayed_ev (G : List Game) (os : List Int) (h1 : F.length ≤ 1048576) (h2 : L.length ≤ 1048576) (h3 : G.length ≤ 1048576) (h4 : fa.length ≤ 1048576) (h5 : ta.length ≤ 1048576) (ho : (openI G).length ≤ os.length) :
    Ev (fun k => impl_played.f k F w d s L ag G fa ta os) (F, w, d, s, L, ag, playAll (openI G) os G, fa, ta) := by
  unfold impl_played.f
  have hl := openI_len G
  refine Ev.congr (fun k => by rw [iCopied_eq F w d s L ag fa ta G h1 h2 h3 h4 h5, Option.bind_some, iOpenGames_eq G h3, Option.bind_some]) ?_
  exact iPlayed_loop F w d s L ag fa ta (openI G) os ho (by omega) G.length (openI_mem G) _ 0 G (Nat.zero_add _) rfl
theorem sWith_ev (G : List Game) (os : List Int) (h1 : F.length ≤ 1048576) (h2 : L.length ≤ 1048576) (h3 : G.length ≤ 1048576) (h4 : fa.length ≤ 1048576) (h5 : ta.length ≤ 1048576) (ho : (openI G).length ≤ os.length) :
    Ev (fun k => spec_l16With.f k F w d s L ag G fa ta (openI G) os) (F, w, d, s, L, ag, playAll (openI G) os G, fa, ta) := by
  unfold spec_l16With.f
  have hl := openI_len G
  refine Ev.congr (fun k => by rw [sCopy_eq F w d s L ag fa ta G h1 h2 h3 h4 h5, Option.bind_some]) ?_
  refine Ev.congr (fun k => played_same F w d s L ag fa ta k os (openI G) _ _ G) ?_
  exact iPlayed_loop F w d s L ag fa ta (openI G) os ho (by omega) G.length (openI_mem G) _ 0 G (Nat.zero_add _) rfl
end
def ptsL (w d s : Int) (n : Nat) (G : List Game) (ta : List Int) (i : Nat) : List Int := (List.range i).map fun t : Nat => wrap64 ((rd_T115 (tableL w d s n G) (t : Int)).f6 - rd ta (t : Int))
theorem ptsL_len (w d s : Int) (n : Nat) (G : List Game) (ta : List Int) (i : Nat) : (ptsL w d s n G ta i).length = i := by simp [ptsL]
theorem ptsL_succ (w d s : Int) (n : Nat) (G : List Game) (ta : List Int) (i : Nat) : ptsL w d s n G ta (i + 1) = ptsL w d s n G ta i ++ [wrap64 ((rd_T115 (tableL w d s n G) (i : Int)).f6 - rd ta (i : Int))] := by simp [ptsL, List.range_succ]
theorem fold_open (f : Int → Game → Int) (G : List Game) : ∀ (pre : List Game) (acc : Int), (whereI isOpenB (pre.length : Int) G).foldl (fun a x => f a (rd_T95 (pre ++ G) x)) acc = G.foldl (fun a g => if isOpenB g then f a g else a) acc := by
  induction G with
  | nil => intro pre acc; rfl
  | cons g G ih =>
    intro pre acc
    have hget : rd_T95 (pre ++ g :: G) (pre.length : Int) = g := by
      rw [rdG_eq _ _ (by simp), List.getElem_append_right (Nat.le_refl _)]
      simp
    have happ : pre ++ g :: G = (pre ++ [g]) ++ G := by rw [List.append_assoc]; rfl
    have hl : (((pre ++ [g]).length : Nat) : Int) = (pre.length : Int) + 1 := by simp
    rw [whereI, List.foldl_append, List.foldl_cons]
    have := ih (pre ++ [g])
    rw [hl, ← happ] at this
    rw [this]
    congr 1
    cases isOpenB g with
    | true => rw [if_pos rfl, if_pos rfl, List.foldl_cons, List.foldl_nil, hget]
    | false => rw [if_neg (by decide), if_neg (by decide), List.foldl_nil]
def bestAdd (team a : Int) (g : Game) : Int := if g.f0 = team ∨ g.f1 = team then wrap64 (a + 2) else a
def bestI (team : Int) (G : List Game) (p : Int) : Int := G.foldl (fun a g => if isOpenB g then bestAdd team a g else a) p
def rivAdd (R : List Int) (a : Int) (g : Game) : Int := if hasI R g.f0 = true ∧ hasI R g.f1 = true then wrap64 (a + 2) else a
def rivSum (R : List Int) (G : List Game) (p : Int) : Int := G.foldl (fun a g => if isOpenB g then rivAdd R a g else a) p
def notAbove (p : Option Int) (t : Int) : Bool := match p with | none => false | some q => decide (t ≤ q)
def rivL (team n : Int) (P : List Int) : Option Int → List Int → Int → Option Int
  | _, [], a => some a
  | p, t :: ts, a => if withinB t 0 (n - 1) = true then (if t = team then none else if notAbove p t = true then none else rivL team n P (some t) ts (wrap64 (a + rd P t))) else none
theorem rivL_nil (team n : Int) (P : List Int) (p : Option Int) (a : Int) : rivL team n P p [] a = some a := by cases p <;> rfl
theorem rivL_cons (team n : Int) (P : List Int) (p : Option Int) (t : Int) (ts : List Int) (a : Int) : rivL team n P p (t :: ts) a = if withinB t 0 (n - 1) = true then (if t = team then none else if notAbove p t = true then none else rivL team n P (some t) ts (wrap64 (a + rd P t))) else none := by cases p <;> rfl
theorem mx_ge (l : List Int) : ∀ m, m ≤ l.foldl mx m ∧ (∀ y ∈ l, y ≤ l.foldl mx m) ∧ l.foldl mx m ∈ m :: l := by
  induction l with
  | nil =>
    intro m
    refine ⟨Int.le_refl _, fun y hy => ?_, List.mem_cons_self ..⟩
    cases hy
  | cons x l ih =>
    intro m
    rw [List.foldl_cons]
    obtain ⟨h1, h2, h3⟩ := ih (mx m x)
    have hm : m ≤ mx m x ∧ x ≤ mx m x ∧ (mx m x = m ∨ mx m x = x) := by unfold mx; split <;> refine ⟨by omega, by omega, ?_⟩ <;> simp
    refine ⟨by omega, fun y hy => ?_, ?_⟩
    · rcases List.mem_cons.mp hy with rfl | hy
      · omega
      · exact h2 y hy
    · rcases List.mem_cons.mp h3 with h3 | h3
      · rcases hm.2.2 with e | e
        · rw [h3, e]; exact List.mem_cons_self ..
        · rw [h3, e]; exact List.mem_cons_of_mem _ (List.mem_cons_self ..)
      · exact List.mem_cons_of_mem _ (List.mem_cons_of_mem _ h3)
theorem max_eq (m x : Int) (l : List Int) (hx : x ∈ m :: l) : (l.foldl mx m == x) = (m :: l).all fun y => decide (y ≤ x) := by
  obtain ⟨h1, h2, h3⟩ := mx_ge l m
  have hle : x ≤ l.foldl mx m := by
    rcases List.mem_cons.mp hx with rfl | hx
    · exact h1
    · exact h2 x hx
  by_cases he : l.foldl mx m = x
  · rw [he, beq_self_eq_true]
    symm
    rw [List.all_eq_true]
    intro y hy
    rw [decide_eq_true_eq]
    rcases List.mem_cons.mp hy with rfl | hy
    · omega
    · have := h2 y hy; omega
  · rw [beq_eq_false_iff_ne.mpr he]
    symm
    rw [List.all_eq_false]
    exact ⟨_, h3, by simp; omega⟩
theorem iMax_ev (l : List Int) (hl : l.length ≤ 1048576) (m : Int) (t : List Int) (h : l = m :: t) : Ev (fun k => slices_Max_int_int.f k l) (t.foldl mx m) := by
  have hlen : l.length = t.length + 1 := by rw [h]; rfl
  unfold slices_Max_int_int.f
  have h0 : rd l 0 = m := by have := rd_eq l 0 (by omega); simp only [h] at this ⊢; exact this
  refine Ev.congr (fun k => by rw [if_neg (by omega), if_pos (by omega), h0]) ?_
  have key : ∀ (e i : Nat) (a : Int), i + e = l.length → Ev (fun k => slices_Max_int_int.l0 k l a (i : Int)) ((l.drop i).foldl mx a) := by
    intro e
    induction e with
    | zero =>
      intro i a hi
      rw [List.drop_eq_nil_of_le (by omega)]
      exact Ev.step (f := fun _ => some a) (fun k => by rw [slices_Max_int_int.l0, if_neg (by omega)]) (Ev.now _)
    | succ e ih =>
      intro i a hi
      have hlt : i < l.length := by omega
      rw [List.drop_eq_getElem_cons hlt, List.foldl_cons]
      refine Ev.step (fun k => ?_) (ih (i + 1) (mx a l[i]) (by omega))
      rw [slices_Max_int_int.l0, if_pos (by omega), if_pos (by omega), rd_eq l i hlt, wrap_succ i (by omega)]
  have := key t.length 1 m (by omega)
  rw [h] at this ⊢
  exact this
section
variable (F : List Team) (w d s : Int) (L : List Int) (ag : Bool) (fa ta : List Int) (G0 : List Game)
theorem sPoints_ev (h1 : F.length ≤ 1048576) (h3 : G0.length ≤ 1048576) (hta : ta.length = F.length) (hin : ∀ g ∈ G0, inT F.length g) :
    Ev (fun k => spec_l18Points.f k F w d s L ag G0 fa ta) (ptsL w d s F.length G0 ta F.length) := by
  unfold spec_l18Points.f
  refine Ev.bind (sAmong_ev w d s L ag F.length h1 G0 hin h3) ?_
  have hT := tableL_len w d s F.length G0
  have key : ∀ (e i : Nat), i + e = F.length → Ev (fun k => spec_l18Points.l0 k (ptsL w d s F.length G0 ta i) (tableL w d s F.length G0) ((tableL w d s F.length G0).length : Int) (i : Int) F w d s L ag G0 fa ta) (ptsL w d s F.length G0 ta F.length) := by
    intro e
    induction e with
    | zero =>
      intro i hi
      obtain rfl : i = F.length := by omega
      exact Ev.step (f := fun _ => some (ptsL w d s F.length G0 ta F.length)) (fun k => by rw [spec_l18Points.l0, if_neg (by omega)]) (Ev.now _)
    | succ e ih =>
      intro i hi
      have hq := ptsL_len w d s F.length G0 ta i
      refine Ev.step (fun k => ?_) (ih (i + 1) (by omega))
      rw [spec_l18Points.l0, if_pos (by omega), if_pos (by omega), if_pos (by omega), if_pos (by omega), if_pos (by omega), ptsL_succ, wrap_succ i (by omega)]
  exact key F.length 0 (Nat.zero_add _)
theorem iPoints_ev (h1 : F.length ≤ 1048576) (h3 : G0.length ≤ 1048576) (hta : ta.length = F.length) (hin : ∀ g ∈ G0, inT F.length g) :
    Ev (fun k => impl_points.f k F w d s L ag G0 fa ta) (ptsL w d s F.length G0 ta F.length) := by
  unfold impl_points.f impl_rankerOf.f
  refine Ev.bind (iTable_ev w d s L ag F.length h1 G0 hin h3) ?_
  have hT := tableL_len w d s F.length G0
  have key : ∀ (e i : Nat), i + e = F.length → Ev (fun k => impl_points.l0 k (ptsL w d s F.length G0 ta i) (tableL w d s F.length G0) ((tableL w d s F.length G0).length : Int) (i : Int) F w d s L ag G0 fa ta) (ptsL w d s F.length G0 ta F.length) := by
    intro e
    induction e with
    | zero =>
      intro i hi
      obtain rfl : i = F.length := by omega
      exact Ev.step (f := fun _ => some (ptsL w d s F.length G0 ta F.length)) (fun k => by rw [impl_points.l0, if_neg (by omega)]) (Ev.now _)
    | succ e ih =>
      intro i hi
      have hq := ptsL_len w d s F.length G0 ta i
      refine Ev.step (fun k => ?_) (ih (i + 1) (by omega))
      rw [impl_points.l0, if_pos (by omega), if_pos (by omega), if_pos (by omega), if_pos (by omega), if_pos (by omega), ptsL_succ, wrap_succ i (by omega)]
  exact key F.length 0 (Nat.zero_add _)
theorem sBest_ev (h1 : F.length ≤ 1048576) (h3 : G0.length ≤ 1048576) (hta : ta.length = F.length) (hin : ∀ g ∈ G0, inT F.length g) (team : Int) (ht : 0 ≤ team ∧ team < (F.length : Int)) :
    Ev (fun k => spec_l18Best.f k F w d s L ag G0 fa ta team) (bestI team G0 (rd (ptsL w d s F.length G0 ta F.length) team)) := by
  unfold spec_l18Best.f
  refine Ev.bind (sPoints_ev F w d s L ag fa ta G0 h1 h3 hta hin) ?_
  refine Ev.congr (fun k => by rw [if_pos ht.1, if_pos (by rw [ptsL_len]; exact ht.2)]) ?_
  generalize rd (ptsL w d s F.length G0 ta F.length) team = p
  have key : ∀ (e i : Nat) (a : Int), i + e = G0.length → Ev (fun k => spec_l18Best.l0 k team a G0 (G0.length : Int) (i : Int)) (bestI team (G0.drop i) a) := by
    intro e
    induction e with
    | zero =>
      intro i a hi
      rw [List.drop_eq_nil_of_le (by omega)]
      exact Ev.step (f := fun _ => some a) (fun k => by rw [spec_l18Best.l0, if_neg (by omega)]) (Ev.now _)
    | succ e ih =>
      intro i a hi
      have hlt : i < G0.length := by omega
      have next := ih (i + 1) (if isOpenB G0[i] then bestAdd team a G0[i] else a) (by omega)
      rw [List.drop_eq_getElem_cons hlt, bestI, List.foldl_cons]
      refine Ev.step (fun k => ?_) next
      rw [spec_l18Best.l0, if_pos (by omega), if_pos (by omega), if_pos (by omega), rdG_eq G0 i hlt, sIsOpen_eq, Option.bind_some, wrap_succ i (by omega)]
      cases isOpenB G0[i] with
      | false => rw [if_neg (by decide), if_neg (by decide)]
      | true =>
        rw [if_pos rfl, if_pos rfl, bestAdd]
        by_cases c0 : G0[i].f0 = team
        · rw [if_pos c0, if_pos (Or.inl c0)]
        · by_cases c1 : G0[i].f1 = team
          · rw [if_neg c0, if_pos c1, if_pos (Or.inr c1)]
          · rw [if_neg c0, if_neg c1, if_neg (by simp [c0, c1])]
  exact key G0.length 0 p (Nat.zero_add _)
theorem iBest_ev (h1 : F.length ≤ 1048576) (h3 : G0.length ≤ 1048576) (hta : ta.length = F.length) (hin : ∀ g ∈ G0, inT F.length g) (team : Int) (ht : 0 ≤ team ∧ team < (F.length : Int)) :
    Ev (fun k => impl_best.f k F w d s L ag G0 fa ta team) (bestI team G0 (rd (ptsL w d s F.length G0 ta F.length) team)) := by
  unfold impl_best.f
  refine Ev.bind (iPoints_ev F w d s L ag fa ta G0 h1 h3 hta hin) ?_
  refine Ev.congr (fun k => by rw [if_pos ht.1, if_pos (by rw [ptsL_len]; exact ht.2), iOpenGames_eq G0 h3, Option.bind_some]) ?_
  generalize rd (ptsL w d s F.length G0 ta F.length) team = p
  have hlen := openI_len G0
  have hmem := openI_mem G0
  have hfold := fold_open (bestAdd team) G0 [] p
  have key : ∀ (e i : Nat) (a : Int), i + e = (openI G0).length → Ev (fun k => impl_best.l0 k team a (openI G0) ((openI G0).length : Int) (i : Int) F w d s L ag G0 fa ta) (((openI G0).drop i).foldl (fun a x => bestAdd team a (rd_T95 G0 x)) a) := by
    intro e
    induction e with
    | zero =>
      intro i a hi
      rw [List.drop_eq_nil_of_le (by omega)]
      exact Ev.step (f := fun _ => some a) (fun k => by rw [impl_best.l0, if_neg (by omega)]) (Ev.now _)
    | succ e ih =>
      intro i a hi
      have hlt : i < (openI G0).length := by omega
      obtain ⟨b0, b1⟩ := hmem _ (List.getElem_mem hlt)
      rw [List.drop_eq_getElem_cons hlt, List.foldl_cons]
      refine Ev.step (fun k => ?_) (ih (i + 1) (bestAdd team a (rd_T95 G0 (openI G0)[i])) (by omega))
      rw [impl_best.l0, if_pos (by omega), if_pos (by omega), if_pos (by omega), rd_eq _ i hlt, if_pos b0, if_pos b1, iPlays_eq, Option.bind_some, wrap_succ i (by omega)]
      unfold bestAdd
      by_cases c : (rd_T95 G0 (openI G0)[i]).f0 = team ∨ (rd_T95 G0 (openI G0)[i]).f1 = team
      · rw [decide_eq_true c, if_pos rfl, if_pos c]
      · rw [decide_eq_false c, if_neg (by decide), if_neg c]
  have := key (openI G0).length 0 p (Nat.zero_add _)
  rw [List.drop_zero] at this
  refine Ev.eq this ?_
  exact hfold
theorem sHasR_ev (R : List Int) (hR : R.length ≤ 1048576) (x : Int) : Ev (fun k => spec_l02Has.f k R x) (hasI R x) := sHas_ev R x hR
theorem iHasR_ev (R : List Int) (hR : R.length ≤ 1048576) (x : Int) : Ev (fun k => slices_Contains_int_int.f k R x) (hasI R x) := Ev.from R.length (fun k hk => contains_eq R x (by omega) k hk)
def finB (team : Int) (R : List Int) (G : List Game) (p q : Int) : Bool := decide ((R.length : Int) > 0) && decide (q > wrap64 ((R.length : Int) * bestI team G p))
theorem sL1_ev (h1 : F.length ≤ 1048576) (h3 : G0.length ≤ 1048576) (hta : ta.length = F.length) (hin : ∀ g ∈ G0, inT F.length g) (team : Int) (ht : 0 ≤ team ∧ team < (F.length : Int)) (can : Bool) (res R : List Int) (hR : R.length ≤ 1048576) (q : Int) :
    Ev (fun k => spec_CheckLead.l1 k team q G0 (G0.length : Int) 0 F w d s L ag G0 fa ta can res R) (finB team R G0 (rd (ptsL w d s F.length G0 ta F.length) team) (rivSum R G0 q)) := by
  have eB := sBest_ev F w d s L ag fa ta G0 h1 h3 hta hin team ht
  have key : ∀ (e i : Nat) (a : Int), i + e = G0.length → Ev (fun k => spec_CheckLead.l1 k team a G0 (G0.length : Int) (i : Int) F w d s L ag G0 fa ta can res R) (finB team R G0 (rd (ptsL w d s F.length G0 ta F.length) team) (rivSum R (G0.drop i) a)) := by
    intro e
    induction e with
    | zero =>
      intro i a hi
      rw [List.drop_eq_nil_of_le (by omega)]
      by_cases hr : (R.length : Int) > 0
      · refine Ev.step (fun k => by rw [spec_CheckLead.l1, if_neg (by omega), if_pos hr]) (Ev.bind eB (Ev.val fun k => ?_))
        unfold finB
        rw [decide_eq_true hr, Bool.true_and]
        rfl
      · refine Ev.step (f := fun _ => some false) (fun k => by rw [spec_CheckLead.l1, if_neg (by omega), if_neg hr]) (Ev.eq (Ev.now _) ?_)
        unfold finB
        rw [decide_eq_false hr, Bool.false_and]
    | succ e ih =>
      intro i a hi
      have hlt : i < G0.length := by omega
      have next := ih (i + 1) (if isOpenB G0[i] then rivAdd R a G0[i] else a) (by omega)
      rw [List.drop_eq_getElem_cons hlt, rivSum, List.foldl_cons]
      rw [rivSum] at next
      refine Ev.step (fun k => by rw [spec_CheckLead.l1, if_pos (by omega), if_pos (by omega), if_pos (by omega), rdG_eq G0 i hlt, sIsOpen_eq, Option.bind_some, wrap_succ i (by omega)]) ?_
      cases ho : isOpenB G0[i] with
      | false =>
        rw [ho, if_neg (by decide)] at next
        exact Ev.congr (fun k => by rw [if_neg (by decide)]) (by rw [if_neg (by decide)]; exact next)
      | true =>
        rw [ho, if_pos rfl] at next
        rw [if_pos rfl]
        refine Ev.congr (fun k => by rw [if_pos rfl]) (Ev.bind (sHasR_ev R hR G0[i].f0) ?_)
        unfold rivAdd at next ⊢
        cases c0 : hasI R G0[i].f0 with
        | false =>
          rw [c0, if_neg (by simp)] at next
          rw [if_neg (by simp)]
          exact Ev.congr (fun k => by rw [if_neg (by decide)]) next
        | true =>
          refine Ev.congr (fun k => by rw [if_pos rfl]) (Ev.bind (sHasR_ev R hR G0[i].f1) ?_)
          cases c1 : hasI R G0[i].f1 with
          | false =>
            rw [c0, c1, if_neg (by simp)] at next
            rw [if_neg (by simp)]
            exact Ev.congr (fun k => by rw [if_neg (by decide)]) next
          | true =>
            rw [c0, c1, if_pos ⟨rfl, rfl⟩] at next
            rw [if_pos ⟨rfl, rfl⟩]
            exact Ev.congr (fun k => by rw [if_pos rfl]) next
  exact key G0.length 0 q (Nat.zero_add _)
theorem iL1_ev (h1 : F.length ≤ 1048576) (h3 : G0.length ≤ 1048576) (hta : ta.length = F.length) (hin : ∀ g ∈ G0, inT F.length g) (team : Int) (ht : 0 ≤ team ∧ team < (F.length : Int)) (can : Bool) (res R : List Int) (hR : R.length ≤ 1048576) (q : Int) :
    Ev (fun k => impl_CheckLead.l1 k team q (openI G0) ((openI G0).length : Int) 0 F w d s L ag G0 fa ta can res R) (finB team R G0 (rd (ptsL w d s F.length G0 ta F.length) team) (rivSum R G0 q)) := by
  have eB := iBest_ev F w d s L ag fa ta G0 h1 h3 hta hin team ht
  have hlen := openI_len G0
  have hmem := openI_mem G0
  have hfold : (openI G0).foldl (fun a x => rivAdd R a (rd_T95 G0 x)) q = rivSum R G0 q := fold_open (rivAdd R) G0 [] q
  have key : ∀ (e i : Nat) (a : Int), i + e = (openI G0).length → Ev (fun k => impl_CheckLead.l1 k team a (openI G0) ((openI G0).length : Int) (i : Int) F w d s L ag G0 fa ta can res R) (finB team R G0 (rd (ptsL w d s F.length G0 ta F.length) team) (((openI G0).drop i).foldl (fun a x => rivAdd R a (rd_T95 G0 x)) a)) := by
    intro e
    induction e with
    | zero =>
      intro i a hi
      rw [List.drop_eq_nil_of_le (by omega), List.foldl_nil]
      by_cases hr : (R.length : Int) > 0
      · refine Ev.step (fun k => by rw [impl_CheckLead.l1, if_neg (by omega), if_pos hr]) (Ev.bind eB (Ev.val fun k => ?_))
        unfold finB
        rw [decide_eq_true hr, Bool.true_and]
      · refine Ev.step (f := fun _ => some false) (fun k => by rw [impl_CheckLead.l1, if_neg (by omega), if_neg hr]) (Ev.eq (Ev.now _) ?_)
        unfold finB
        rw [decide_eq_false hr, Bool.false_and]
    | succ e ih =>
      intro i a hi
      have hlt : i < (openI G0).length := by omega
      obtain ⟨b0, b1⟩ := hmem _ (List.getElem_mem hlt)
      have next := ih (i + 1) (rivAdd R a (rd_T95 G0 (openI G0)[i])) (by omega)
      rw [List.drop_eq_getElem_cons hlt, List.foldl_cons]
      refine Ev.step (fun k => by rw [impl_CheckLead.l1, if_pos (by omega), if_pos (by omega), if_pos (by omega), rd_eq _ i hlt, if_pos b0, if_pos b1, wrap_succ i (by omega)]) (Ev.bind (iHasR_ev R hR _) ?_)
      generalize rd_T95 G0 (openI G0)[i] = g at next ⊢
      unfold rivAdd at next
      cases c0 : hasI R g.f0 with
      | false =>
        rw [c0, if_neg (by simp)] at next
        have e2 : rivAdd R a g = a := by unfold rivAdd; rw [c0, if_neg (by simp)]
        rw [e2]
        exact Ev.congr (fun k => by rw [if_neg (by decide)]) next
      | true =>
        refine Ev.congr (fun k => by rw [if_pos rfl]) (Ev.bind (iHasR_ev R hR _) ?_)
        cases c1 : hasI R g.f1 with
        | false =>
          rw [c0, c1, if_neg (by simp)] at next
          have e2 : rivAdd R a g = a := by unfold rivAdd; rw [c0, c1, if_neg (by simp)]
          rw [e2]
          exact Ev.congr (fun k => by rw [if_neg (by decide)]) next
        | true =>
          rw [c0, c1, if_pos ⟨rfl, rfl⟩] at next
          have e2 : rivAdd R a g = wrap64 (a + 2) := by unfold rivAdd; rw [c0, c1, if_pos ⟨rfl, rfl⟩]
          rw [e2]
          exact Ev.congr (fun k => by rw [if_pos rfl]) next
  have := key (openI G0).length 0 q (Nat.zero_add _)
  rw [List.drop_zero, hfold] at this
  exact this
def prevR (R : List Int) : Nat → Option Int
  | 0 => none
  | i + 1 => some (rd R (i : Int))
def rivB (team : Int) (R : List Int) : Bool :=
  match rivL team (F.length : Int) (ptsL w d s F.length G0 ta F.length) none R 0 with
  | none => false
  | some q => finB team R G0 (rd (ptsL w d s F.length G0 ta F.length) team) (rivSum R G0 q)
theorem sL0_ev (h1 : F.length ≤ 1048576) (h3 : G0.length ≤ 1048576) (hta : ta.length = F.length) (hin : ∀ g ∈ G0, inT F.length g) (team : Int) (ht : 0 ≤ team ∧ team < (F.length : Int)) (can : Bool) (res R : List Int) (hR : R.length ≤ 1048576) :
    Ev (fun k => spec_CheckLead.l0 k team (ptsL w d s F.length G0 ta F.length) 0 R (R.length : Int) 0 F w d s L ag G0 fa ta can res R) (rivB F w d s ta G0 team R) := by
  have hP := ptsL_len w d s F.length G0 ta F.length
  have eL := fun q => sL1_ev F w d s L ag fa ta G0 h1 h3 hta hin team ht can res R hR q
  unfold rivB
  generalize ptsL w d s F.length G0 ta F.length = P at hP eL ⊢
  have key : ∀ (e i : Nat) (q : Int), i + e = R.length → Ev (fun k => spec_CheckLead.l0 k team P q R (R.length : Int) (i : Int) F w d s L ag G0 fa ta can res R) (match rivL team (F.length : Int) P (prevR R i) (R.drop i) q with | none => false | some q => finB team R G0 (rd P team) (rivSum R G0 q)) := by
    intro e
    induction e with
    | zero =>
      intro i q hi
      rw [List.drop_eq_nil_of_le (by omega), rivL_nil]
      exact Ev.step (fun k => by rw [spec_CheckLead.l0, if_neg (by omega)]) (eL q)
    | succ e ih =>
      intro i q hi
      have hlt : i < R.length := by omega
      have next := ih (i + 1) (wrap64 (q + rd P R[i])) (by omega)
      rw [prevR, rd_eq R i hlt] at next
      rw [List.drop_eq_getElem_cons hlt, rivL_cons]
      refine Ev.step (fun k => by rw [spec_CheckLead.l0, if_pos (by omega), if_pos (by omega), if_pos (by omega), rd_eq R i hlt, l01In_eq, wrap_id _ (by omega) (by omega), Option.bind_some, wrap_succ i (by omega)]) ?_
      cases hw : withinB R[i] 0 ((F.length : Int) - 1) with
      | false => exact Ev.val fun k => by rw [if_neg (by decide), if_neg (by decide)]
      | true =>
        have hb : 0 ≤ R[i] ∧ R[i] < (P.length : Int) := by unfold withinB at hw; simp only [Bool.and_eq_true, decide_eq_true_eq] at hw; omega
        refine Ev.congr (fun k => by rw [if_pos rfl]) ?_
        rw [if_pos rfl]
        by_cases he : R[i] = team
        · exact Ev.val fun k => by rw [if_pos he, if_pos he]
        · refine Ev.congr (fun k => by rw [if_neg he]) ?_
          rw [if_neg he]
          cases i with
          | zero =>
            rw [prevR, if_neg (show ¬ notAbove none R[0] = true by simp [notAbove])]
            exact Ev.congr (fun k => by rw [if_neg (by omega), if_pos hb.1, if_pos hb.2]) next
          | succ j =>
            have hm : wrap64 (((j + 1 : Nat) : Int) - 1) = (j : Int) := by unfold wrap64; omega
            rw [prevR]
            refine Ev.congr (fun k => by rw [if_pos (by omega), hm, if_pos (by omega), if_pos (by omega)]) ?_
            by_cases hp : R[j + 1] ≤ rd R (j : Int)
            · exact Ev.val fun k => by rw [if_pos hp, if_pos (by simpa [notAbove] using hp)]
            · refine Ev.congr (fun k => by rw [if_neg hp, if_pos hb.1, if_pos hb.2]) ?_
              rw [if_neg (by simpa [notAbove] using hp)]
              exact next
  exact key R.length 0 0 (Nat.zero_add _)
theorem iL0_ev (h1 : F.length ≤ 1048576) (h3 : G0.length ≤ 1048576) (hta : ta.length = F.length) (hin : ∀ g ∈ G0, inT F.length g) (team : Int) (ht : 0 ≤ team ∧ team < (F.length : Int)) (can : Bool) (res R : List Int) (hR : R.length ≤ 1048576) :
    Ev (fun k => impl_CheckLead.l0 k team 0 (ptsL w d s F.length G0 ta F.length) R (R.length : Int) 0 F w d s L ag G0 fa ta can res R) (rivB F w d s ta G0 team R) := by
  have hP := ptsL_len w d s F.length G0 ta F.length
  have eL := fun q => iL1_ev F w d s L ag fa ta G0 h1 h3 hta hin team ht can res R hR q
  unfold rivB
  generalize ptsL w d s F.length G0 ta F.length = P at hP eL ⊢
  have key : ∀ (e i : Nat) (q : Int), i + e = R.length → Ev (fun k => impl_CheckLead.l0 k team q P R (R.length : Int) (i : Int) F w d s L ag G0 fa ta can res R) (match rivL team (F.length : Int) P (prevR R i) (R.drop i) q with | none => false | some q => finB team R G0 (rd P team) (rivSum R G0 q)) := by
    intro e
    induction e with
    | zero =>
      intro i q hi
      rw [List.drop_eq_nil_of_le (by omega), rivL_nil]
      exact Ev.step (fun k => by rw [impl_CheckLead.l0, if_neg (by omega), iOpenGames_eq G0 h3, Option.bind_some]) (eL q)
    | succ e ih =>
      intro i q hi
      have hlt : i < R.length := by omega
      have next := ih (i + 1) (wrap64 (q + rd P R[i])) (by omega)
      rw [prevR, rd_eq R i hlt] at next
      rw [List.drop_eq_getElem_cons hlt, rivL_cons]
      refine Ev.step (fun k => by rw [impl_CheckLead.l0, if_pos (by omega), if_pos (by omega), if_pos (by omega), rd_eq R i hlt, impl_isTeam.f, within_eq, wrap_id _ (by omega) (by omega), Option.bind_some, Option.bind_some, wrap_succ i (by omega)]) ?_
      cases hw : withinB R[i] 0 ((F.length : Int) - 1) with
      | false => exact Ev.val fun k => by rw [if_neg (by decide), if_neg (by decide)]
      | true =>
        have hb : 0 ≤ R[i] ∧ R[i] < (P.length : Int) := by unfold withinB at hw; simp only [Bool.and_eq_true, decide_eq_true_eq] at hw; omega
        refine Ev.congr (fun k => by rw [if_pos rfl]) ?_
        rw [if_pos rfl]
        by_cases he : R[i] = team
        · exact Ev.val fun k => by rw [if_pos he, if_pos he]
        · refine Ev.congr (fun k => by rw [if_neg he]) ?_
          rw [if_neg he]
          cases i with
          | zero =>
            rw [prevR, if_neg (show ¬ notAbove none R[0] = true by simp [notAbove])]
            exact Ev.congr (fun k => by rw [if_neg (by omega), if_pos hb.1, if_pos hb.2]) next
          | succ j =>
            have hm : wrap64 (((j + 1 : Nat) : Int) - 1) = (j : Int) := by unfold wrap64; omega
            rw [prevR]
            refine Ev.congr (fun k => by rw [if_pos (by omega), hm, if_pos (by omega), if_pos (by omega)]) ?_
            by_cases hp : R[j + 1] ≤ rd R (j : Int)
            · exact Ev.val fun k => by rw [if_pos hp, if_pos (by simpa [notAbove] using hp)]
            · refine Ev.congr (fun k => by rw [if_neg hp, if_pos hb.1, if_pos hb.2]) ?_
              rw [if_neg (by simpa [notAbove] using hp)]
              exact next
  exact key R.length 0 0 (Nat.zero_add _)
def winB (team : Int) (os : List Int) : Bool :=
  decide (os.length = (openI G0).length) && !os.any (fun x => !withinB x 1 3) && (ptsL w d s F.length (playAll (openI G0) os G0) ta F.length).all fun y => decide (y ≤ rd (ptsL w d s F.length (playAll (openI G0) os G0) ta F.length) team)
theorem playAll_inT (n : Nat) (ks : List Int) : ∀ (os : List Int) (G : List Game), (∀ g ∈ G, inT n g) → (∀ x ∈ ks, 0 ≤ x ∧ x < G.length) → ∀ g ∈ playAll ks os G, inT n g := by
  induction ks with
  | nil => intro os G hG _; cases os <;> exact hG
  | cons x ks ih =>
    intro os G hG hk
    cases os with
    | nil => exact hG
    | cons o os =>
      rw [playAll]
      refine ih os _ ?_ (fun y hy => by rw [List.length_set]; exact hk y (List.mem_cons_of_mem _ hy))
      intro g hg
      rcases List.mem_or_eq_of_mem_set hg with hg | rfl
      · exact hG g hg
      · obtain ⟨b0, b1⟩ := hk x (List.mem_cons_self ..)
        obtain ⟨j, hj⟩ := Int.eq_ofNat_of_zero_le b0
        have hjl : j < G.length := by omega
        rw [hj, Int.toNat_natCast, List.getD_eq_getElem?_getD, List.getElem?_eq_getElem hjl, Option.getD_some]
        have := hG _ (List.getElem_mem hjl)
        unfold playG
        split <;> exact this
theorem bookOk_taken (hb : bookOkB F w d s L G0 fa ta = true) : ta.length = F.length ∧ ∀ g ∈ G0, inT F.length g := by
  unfold bookOkB at hb
  simp only [Bool.and_eq_true] at hb
  obtain ⟨⟨⟨⟨-, -⟩, hs⟩, -⟩, ht⟩ := hb
  refine ⟨?_, fun g hg => ?_⟩
  · unfold penaltiesB at ht
    simp only [Bool.and_eq_true, decide_eq_true_eq] at ht
    omega
  · unfold seasonOkB at hs
    simp only [Bool.and_eq_true] at hs
    have hok := seasonFrom_mem _ G0 [] hs.1 g hg
    have hne := gameOk_ne hok
    unfold gameOkB withinB at hok
    simp only [Bool.and_eq_true, Bool.not_eq_true', decide_eq_false_iff_not, decide_eq_true_eq] at hok
    exact ⟨hne, by omega, by omega, by omega, by omega⟩
theorem sWins_ev (h1 : F.length ≤ 1048576) (h2 : L.length ≤ 1048576) (h3 : G0.length ≤ 1048576) (h4 : fa.length ≤ 1048576) (h5 : ta.length ≤ 1048576) (hta : ta.length = F.length) (hin : ∀ g ∈ G0, inT F.length g) (team : Int) (ht : 0 ≤ team ∧ team < (F.length : Int)) (os : List Int) (ho : os.length ≤ 1048576) :
    Ev (fun k => spec_l18Wins.f k F w d s L ag G0 fa ta team os) (winB F w d s ta G0 team os) := by
  unfold spec_l18Wins.f winB
  refine Ev.bind (sOpenGames_ev G0 h3) ?_
  by_cases he : os.length = (openI G0).length
  · rw [decide_eq_true he, Bool.true_and]
    refine Ev.congr (fun k => by rw [if_pos (by omega)]) ?_
    have hin2 : ∀ g ∈ playAll (openI G0) os G0, inT F.length g := playAll_inT F.length (openI G0) os G0 hin (openI_mem G0)
    have hP := ptsL_len w d s F.length (playAll (openI G0) os G0) ta F.length
    have eW := sWith_ev F w d s L ag fa ta G0 os h1 h2 h3 h4 h5 (by omega)
    have eP := sPoints_ev F w d s L ag fa ta (playAll (openI G0) os G0) h1 (by rw [playAll_len]; exact h3) hta hin2
    generalize hpq : ptsL w d s F.length (playAll (openI G0) os G0) ta F.length = P at hP eP ⊢
    have e1 : Ev (fun k => spec_l18Wins.l1 k team P P (P.length : Int) 0) (P.all fun y => decide (y ≤ rd P team)) := by
      have key : ∀ (e i : Nat), i + e = P.length → Ev (fun k => spec_l18Wins.l1 k team P P (P.length : Int) (i : Int)) ((P.drop i).all fun y => decide (y ≤ rd P team)) := by
        intro e
        induction e with
        | zero =>
          intro i hi
          rw [List.drop_eq_nil_of_le (by omega)]
          exact Ev.step (f := fun _ => some true) (fun k => by rw [spec_l18Wins.l1, if_neg (by omega)]) (Ev.now _)
        | succ e ih =>
          intro i hi
          have hlt : i < P.length := by omega
          rw [List.drop_eq_getElem_cons hlt, List.all_cons]
          by_cases hc : P[i] > rd P team
          · refine Ev.step (f := fun _ => some false) (fun k => by rw [spec_l18Wins.l1, if_pos (by omega), if_pos (by omega), if_pos (by omega), if_pos ht.1, if_pos (by omega), rd_eq P i hlt, if_pos hc]) (Ev.eq (Ev.now _) ?_)
            rw [decide_eq_false (show ¬ P[i] ≤ rd P team by omega), Bool.false_and]
          · refine Ev.step (fun k => by rw [spec_l18Wins.l1, if_pos (by omega), if_pos (by omega), if_pos (by omega), if_pos ht.1, if_pos (by omega), rd_eq P i hlt, if_neg hc, wrap_succ i (by omega)]) (Ev.eq (ih (i + 1) (by omega)) ?_)
            rw [decide_eq_true (show P[i] ≤ rd P team by omega), Bool.true_and]
      exact key P.length 0 (Nat.zero_add _)
    have key : ∀ (e i : Nat), i + e = os.length → Ev (fun k => spec_l18Wins.l0 k team os (openI G0) os (os.length : Int) (i : Int) F w d s L ag G0 fa ta) (!(os.drop i).any (fun x => !withinB x 1 3) && P.all fun y => decide (y ≤ rd P team)) := by
      intro e
      induction e with
      | zero =>
        intro i hi
        rw [List.drop_eq_nil_of_le (by omega)]
        refine Ev.step (fun k => by rw [spec_l18Wins.l0, if_neg (by omega)]) (Ev.bind eW (Ev.bind eP ?_))
        exact e1
      | succ e ih =>
        intro i hi
        have hlt : i < os.length := by omega
        rw [List.drop_eq_getElem_cons hlt, List.any_cons]
        cases hw : withinB os[i] 1 3 with
        | true => exact Ev.step (fun k => by rw [spec_l18Wins.l0, if_pos (by omega), if_pos (by omega), if_pos (by omega), rd_eq os i hlt, l01In_eq, hw, Option.bind_some, if_pos rfl, wrap_succ i (by omega)]) (ih (i + 1) (by omega))
        | false => exact Ev.step (f := fun _ => some false) (fun k => by rw [spec_l18Wins.l0, if_pos (by omega), if_pos (by omega), if_pos (by omega), rd_eq os i hlt, l01In_eq, hw, Option.bind_some, if_neg (by decide)]) (Ev.now _)
    exact key os.length 0 (Nat.zero_add _)
  · rw [decide_eq_false he, Bool.false_and, Bool.false_and]
    exact Ev.val fun k => by rw [if_neg (by omega)]
def checkB (team : Int) (can : Bool) (os R : List Int) : Bool :=
  bookOkB F w d s L G0 fa ta && ((rulesOkB w d s L && decide (w = 2) && decide (d = 1) && decide (s = 0)) && (withinB team 0 ((F.length : Int) - 1) && (if can then winB F w d s ta G0 team os else rivB F w d s ta G0 team R)))
theorem simple_eq (b : Bool) : (if b = true then (if w = 2 then (if d = 1 then (some (s == 0)) else (some false)) else (some false)) else (some false)) = some (b && decide (w = 2) && decide (d = 1) && decide (s = 0)) := by
  cases b with
  | false => rfl
  | true =>
    by_cases h1 : w = 2
    · by_cases h2 : d = 1
      · rw [if_pos rfl, if_pos h1, if_pos h2, decide_eq_true h1, decide_eq_true h2]; rfl
      · rw [if_pos rfl, if_pos h1, if_neg h2, decide_eq_true h1, decide_eq_false h2]; rfl
    · rw [if_pos rfl, if_neg h1, decide_eq_false h1]; rfl
theorem sCheck_ev (hn : ∀ t ∈ F, t.f0.size ≤ 1048576) (h1 : F.length ≤ 1048576) (h2 : L.length ≤ 1048576) (h3 : G0.length ≤ 1048576) (h4 : fa.length ≤ 1048576) (h5 : ta.length ≤ 1048576) (team : Int) (can : Bool) (os R : List Int) (ho : os.length ≤ 1048576) (hR : R.length ≤ 1048576) :
    Ev (fun k => spec_CheckLead.f k F w d s L ag G0 fa ta team can os R) (checkB F w d s L fa ta G0 team can os R) := by
  unfold spec_CheckLead.f spec_l18Ok.f checkB
  cases hb : bookOkB F w d s L G0 fa ta with
  | false =>
    have e0 := sBookOk_ev F w d s L ag G0 fa ta (fun t ht => Nat.le_trans (hn t ht) (by decide))
    rw [hb] at e0
    refine Ev.bind (a := false) (Ev.bind e0 (Ev.val fun k => by rw [if_neg (by decide)])) (Ev.val fun k => ?_)
    rw [if_neg (by decide), Bool.false_and]
  | true =>
    have e0 := sBookOk_ev F w d s L ag G0 fa ta (fun t ht => Nat.le_trans (hn t ht) (by decide))
    rw [hb] at e0
    obtain ⟨hta, hin⟩ := bookOk_taken F w d s L fa ta G0 hb
    have eS : Ev (fun k => spec_IsSimple.f k w d s L ag) (rulesOkB w d s L && decide (w = 2) && decide (d = 1) && decide (s = 0)) := by
      unfold spec_IsSimple.f
      exact Ev.bind (sRulesOk_ev w d s L ag) (Ev.val fun k => simple_eq w d s _)
    generalize (rulesOkB w d s L && decide (w = 2) && decide (d = 1) && decide (s = 0)) = q at eS ⊢
    have eO : Ev (fun k => (spec_BookOk.f k F w d s L ag G0 fa ta).bind fun t1361 => (if t1361 = true then ((spec_IsSimple.f k w d s L ag).bind fun t1362 => (if t1362 = true then ((spec_l01In.f team 0 (wrap64 ((F.length : Int) - 1))).bind fun t1363 => (some t1363)) else (some false))) else (some false))) (q && withinB team 0 ((F.length : Int) - 1)) := by
      refine Ev.bind e0 (Ev.congr (fun k => by rw [if_pos rfl]) (Ev.bind eS (Ev.val fun k => ?_)))
      rw [l01In_eq, wrap_id _ (by omega) (by omega), Option.bind_some]
      cases q <;> rfl
    refine Ev.bind eO ?_
    rw [Bool.true_and]
    cases q with
    | false => exact Ev.val fun k => by rw [Bool.false_and, if_neg (by decide), Bool.false_and]
    | true =>
      rw [Bool.true_and, Bool.true_and]
      cases hw : withinB team 0 ((F.length : Int) - 1) with
      | false => exact Ev.val fun k => by rw [if_neg (by decide), Bool.false_and]
      | true =>
        have ht : 0 ≤ team ∧ team < (F.length : Int) := by unfold withinB at hw; simp only [Bool.and_eq_true, decide_eq_true_eq] at hw; omega
        refine Ev.congr (fun k => by rw [if_pos rfl]) ?_
        rw [Bool.true_and]
        cases can with
        | true =>
          refine Ev.congr (fun k => by rw [if_pos rfl]) (Ev.bind (sWins_ev F w d s L ag fa ta G0 h1 h2 h3 h4 h5 hta hin team ht os ho) (Ev.val fun k => ?_))
          rw [if_pos rfl]
        | false =>
          refine Ev.congr (fun k => by rw [if_neg (by decide)]) (Ev.bind (sPoints_ev F w d s L ag fa ta G0 h1 h3 hta hin) ?_)
          rw [if_neg (by decide)]
          exact sL0_ev F w d s L ag fa ta G0 h1 h3 hta hin team ht false os R hR
theorem iCheck_ev (hn : ∀ t ∈ F, t.f0.size ≤ 1048576) (h1 : F.length ≤ 1048576) (h2 : L.length ≤ 1048576) (h3 : G0.length ≤ 1048576) (h4 : fa.length ≤ 1048576) (h5 : ta.length ≤ 1048576) (team : Int) (can : Bool) (os R : List Int) (ho : os.length ≤ 1048576) (hR : R.length ≤ 1048576) :
    Ev (fun k => impl_CheckLead.f k F w d s L ag G0 fa ta team can os R) (checkB F w d s L fa ta G0 team can os R) := by
  unfold impl_CheckLead.f impl_isLead.f checkB
  have e0 : Ev (fun k => impl_BookOk.f k F w d s L ag G0 fa ta) (bookOkB F w d s L G0 fa ta) := Ev.from _ (bookOk_eq F w d s L ag G0 fa ta ⟨fun t ht => Nat.le_trans (hn t ht) (by decide), by omega, by omega⟩)
  cases hb : bookOkB F w d s L G0 fa ta with
  | false =>
    rw [hb] at e0
    refine Ev.bind (a := false) (Ev.bind e0 (Ev.val fun k => by rw [if_neg (by decide)])) (Ev.val fun k => ?_)
    rw [if_neg (by decide), Bool.false_and]
  | true =>
    rw [hb] at e0
    obtain ⟨hta, hin⟩ := bookOk_taken F w d s L fa ta G0 hb
    have eS : Ev (fun k => impl_IsSimple.f k w d s L ag) (rulesOkB w d s L && decide (w = 2) && decide (d = 1) && decide (s = 0)) := by
      unfold impl_IsSimple.f
      exact Ev.bind (Ev.from _ (rulesOk_eq w d s L ag (by omega))) (Ev.val fun k => simple_eq w d s _)
    generalize (rulesOkB w d s L && decide (w = 2) && decide (d = 1) && decide (s = 0)) = q at eS ⊢
    have eO : Ev (fun k => (impl_BookOk.f k F w d s L ag G0 fa ta).bind fun t1488 => (if t1488 = true then ((impl_IsSimple.f k w d s L ag).bind fun t1489 => (if t1489 = true then ((impl_isTeam.f F w d s L ag G0 fa ta team).bind fun t1490 => (some t1490)) else (some false))) else (some false))) (q && withinB team 0 ((F.length : Int) - 1)) := by
      refine Ev.bind e0 (Ev.congr (fun k => by rw [if_pos rfl]) (Ev.bind eS (Ev.val fun k => ?_)))
      rw [impl_isTeam.f, within_eq, wrap_id _ (by omega) (by omega), Option.bind_some, Option.bind_some]
      cases q <;> rfl
    refine Ev.bind eO ?_
    rw [Bool.true_and]
    cases q with
    | false => exact Ev.val fun k => by rw [Bool.false_and, if_neg (by decide), Bool.false_and]
    | true =>
      rw [Bool.true_and, Bool.true_and]
      cases hw : withinB team 0 ((F.length : Int) - 1) with
      | false => exact Ev.val fun k => by rw [if_neg (by decide), Bool.false_and]
      | true =>
        have ht : 0 ≤ team ∧ team < (F.length : Int) := by unfold withinB at hw; simp only [Bool.and_eq_true, decide_eq_true_eq] at hw; omega
        refine Ev.congr (fun k => by rw [if_pos rfl]) ?_
        rw [Bool.true_and]
        cases can with
        | true =>
          refine Ev.congr (fun k => by rw [if_pos rfl, iOpenGames_eq G0 h3, Option.bind_some, impl_areOutcomes.f, Option.bind_some]) ?_
          rw [if_pos rfl, winB]
          have hd : decide ((os.length : Int) = ((openI G0).length : Int)) = decide (os.length = (openI G0).length) := decide_eq_decide.mpr (by omega)
          rw [hd]
          cases ha : decide (os.length = (openI G0).length) && !os.any (fun x => !withinB x 1 3) with
          | false => exact Ev.val fun k => by rw [if_neg (by decide), Bool.false_and]
          | true =>
            have he : os.length = (openI G0).length := by simp only [Bool.and_eq_true, decide_eq_true_eq] at ha; exact ha.1
            have hin2 : ∀ g ∈ playAll (openI G0) os G0, inT F.length g := playAll_inT F.length (openI G0) os G0 hin (openI_mem G0)
            have hP := ptsL_len w d s F.length (playAll (openI G0) os G0) ta F.length
            have eW := iPlayed_ev F w d s L ag fa ta G0 os h1 h2 h3 h4 h5 (by omega)
            have eP := iPoints_ev F w d s L ag fa ta (playAll (openI G0) os G0) h1 (by rw [playAll_len]; exact h3) hta hin2
            generalize ptsL w d s F.length (playAll (openI G0) os G0) ta F.length = P at hP eP ⊢
            rw [Bool.true_and]
            refine Ev.congr (fun k => by rw [if_pos rfl]) (Ev.bind eW (Ev.bind eP ?_))
            obtain ⟨m, l, hml⟩ : ∃ m l, P = m :: l := by
              cases P with
              | nil => simp at hP; omega
              | cons m l => exact ⟨m, l, rfl⟩
            obtain ⟨j, hj⟩ := Int.eq_ofNat_of_zero_le ht.1
            have hx : rd P team ∈ m :: l := by
              rw [hj, rd_eq P j (by omega), ← hml]
              exact List.getElem_mem _
            refine Ev.bind (iMax_ev P (by omega) m l hml) (Ev.val fun k => ?_)
            rw [if_pos ht.1, if_pos (by omega), max_eq m (rd P team) l hx, ← hml]
        | false =>
          refine Ev.congr (fun k => by rw [if_neg (by decide)]) (Ev.bind (iPoints_ev F w d s L ag fa ta G0 h1 h3 hta hin) ?_)
          rw [if_neg (by decide)]
          exact iL0_ev F w d s L ag fa ta G0 h1 h3 hta hin team ht false os R hR
end
end Go.Proofs.Ythfefanapneocaa.Q
namespace Go.Proofs.Ythfefanapneocaa.Pure
open Go.RowKit Go.Proofs.Ythfefanapneocaa.Q Go.Proofs.YthfefanapneocaaW.PrintWords Go.Proofs.YthfefanapneocaaW.PrintLast
theorem szI_eq (l : List Int) (t : Int) (h0 : 0 ≤ t) (h1 : t ≤ 1048576) (hl : l.length ≤ maxLen) : laws_szIntS.f l t = some (if t - (l.length : Int) < 0 then -1 else t - (l.length : Int)) := by
  have hm : (l.length : Int) ≤ 9223372036854775807 := by have : maxLen ≤ 9223372036854775807 := by decide
                                                         omega
  unfold laws_szIntS.f
  rw [wrap_id _ (by omega) (by omega)]
  split <;> rfl
theorem FnExactCheckLead (F : List TeamA) (w d s : Int) (L : List Int) (ag : Bool) (G : List GameA) (fa ta : List Int) (a1 : Int) (can : Bool) (l1 l2 : List Int) (ok0 : BkArg F w d s L G fa ta) (_ok1 : (Lit.int .i64 a1).wf = true) (ok2 : True ∧ (l1.length ≤ maxLen ∧ ∀ x ∈ l1, (Lit.int .i64 x).wf = true) ∧ (l2.length ≤ maxLen ∧ ∀ x ∈ l2, (Lit.int .i64 x).wf = true)) :
    ∃ k, laws_FnExactCheckLead.f k F w d s L ag G fa ta a1 can l1 l2 = some true := by
  refine Ev.rounds ?_
  unfold laws_FnExactCheckLead.f
  obtain ⟨t, et, ht⟩ := szBook_arg F w d s L ag G fa ta ok0
  rcases ht with ht | ⟨ht, ht2, hs⟩
  · exact Ev.bind et (Ev.val fun k => by rw [if_pos ht])
  refine Ev.bind et (Ev.congr (fun k => by rw [if_neg (by omega)]) ?_)
  have z1 := szI_eq l1 t ht ht2 ok2.2.1.1
  by_cases c1 : t - (l1.length : Int) < 0
  · rw [if_pos c1] at z1
    exact Ev.val fun k => by rw [laws_szVerdict.f, z1, Option.bind_some, if_pos (by decide), Option.bind_some, if_pos (by decide)]
  rw [if_neg c1] at z1
  have z2 := szI_eq l2 (t - (l1.length : Int)) (by omega) (by omega) ok2.2.2.1
  by_cases c2 : t - (l1.length : Int) - (l2.length : Int) < 0
  · rw [if_pos c2] at z2
    exact Ev.val fun k => by rw [laws_szVerdict.f, z1, Option.bind_some, if_neg c1, z2, Option.bind_some, if_pos (by decide), Option.bind_some, if_pos (by decide)]
  rw [if_neg c2] at z2
  refine Ev.congr (fun k => by rw [laws_szVerdict.f, z1, Option.bind_some, if_neg c1, z2, Option.bind_some, if_neg c2, Option.bind_some, if_neg c2]) ?_
  have h1 : l1.length ≤ 1048576 := by omega
  have h2 : l2.length ≤ 1048576 := by omega
  have hF : (F.map convT).length ≤ 1048576 := by rw [List.length_map]; exact hs.f
  have hG : (G.map convG).length ≤ 1048576 := by rw [List.length_map]; exact hs.g
  have hN : ∀ t ∈ F.map convT, t.f0.size ≤ 1048576 := by
    intro t h
    obtain ⟨x, hx, rfl⟩ := List.mem_map.mp h
    exact hs.n x hx
  have eA := toBook_ev F w d s L ag G fa ta hs.f hs.l hs.g hs.x hs.y
  have eV : Ev (fun k => laws_toVerdict.f k can l1 l2) (can, l1, l2) := by
    unfold laws_toVerdict.f
    exact Ev.bind (toInt_ev l1 h1) (Ev.bind (toInt_ev l2 h2) (Ev.val fun k => rfl))
  have eS := sCheck_ev (F.map convT) w d s L ag fa ta (G.map convG) hN hF hs.l hG hs.x hs.y a1 can l1 l2 h1 h2
  have eI := iCheck_ev (F.map convT) w d s L ag fa ta (G.map convG) hN hF hs.l hG hs.x hs.y a1 can l1 l2 h1 h2
  have eB := eqBook_ev (F.map convT) w d s L ag (G.map convG) fa ta hF hs.l hG hs.x hs.y
  have eW : Ev (fun k => laws_eqVerdict.f k can l1 l2 can l1 l2) true := by
    unfold laws_eqVerdict.f
    refine Ev.congr (fun k => by rw [if_neg (by simp)]) (Ev.bind (eqInt_ev l1 h1) ?_)
    refine Ev.congr (fun k => by rw [if_pos rfl]) (Ev.bind (eqInt_ev l2 h2) (Ev.val fun k => ?_))
    rw [if_pos rfl]
  refine Ev.bind eA (Ev.bind eV (Ev.bind eS (Ev.bind eA (Ev.bind eV (Ev.bind eI ?_)))))
  refine Ev.congr (fun k => by rw [if_neg (by simp)]) (Ev.bind eA (Ev.bind eB ?_))
  refine Ev.congr (fun k => by rw [if_pos rfl]) (Ev.bind eV (Ev.bind eW ?_))
  exact Ev.val fun k => by rw [if_pos rfl]
end Go.Proofs.Ythfefanapneocaa.Pure
namespace Go.Proofs.Ythfefanapneocaa.fnExactCheckLead
open Go.ChangeShapes Go.WideShapes Go.ChangeAt Go.RowKit
open Go.ChangeMaps (open_string shut_string)
set_option linter.unusedVariables false
theorem own : ownKnob Try.prog.godebug = none := by kernel_rfl
theorem laidOut : laidOutB Try.prog = true := by kernel_rfl
set_option maxRecDepth 100000 in
set_option maxHeartbeats 4000000 in
theorem lifted (os : Os) (started : os.Started) (H : Type) (enc : TypeId × Value → H) :
    ReturnsInHanded {} Try.checked os 7 .any (Rows.fnExactCheckLeadSpec.pre6 enc Try.prog Try.f7 Rows.fnExactCheckLeadRow.domain false) (Rows.fnExactCheckLeadSpec.post enc Try.prog Try.f7 false true false false) := by
  refine returnsInHanded_of_change_sized (C := Try.checked) own started (by kernel_rfl) Try.func7
    (ChangeSpec.witness6 (enc := enc) (C := Try.checked) false ⟨#[], #[.agg #[.slice none 0 0, .int .i64 0, .int .i64 0, .int .i64 0, .slice none 0 0, .bool false, .slice none 0 0, .slice none 0 0, .slice none 0 0], .int .i64 0, .agg #[.bool false, .slice none 0 0, .slice none 0 0]], []⟩ 8 (by kernel_rfl) (by kernel_rfl) (by kernel_rfl) (by kernel_rfl)) ?_
  intro W base args ds gs before hval0 hW hcnd hsz0 _
  have hval : ∀ (j : Nat) t v, Try.f7.params[j]? = some t → args[j]? = some v → Value.okWide Try.prog W .any base t v := hval0
  have hW' := hW
  obtain ⟨p, q, hA0, hV, rfl, hfz, hnd⟩ := hW
  have hA : DataW.TrodAll enc Try.prog W 0 (fun _ => true) true Try.f7.params.toList args.toList ds p := hA0
  rw [Try.params7] at hA hval
  obtain ⟨v0, vs0, d0, ds0, p0, q0, hargs0, rfl, rfl, h0, r0⟩ := trodAll_cons hA
  obtain ⟨v1, vs1, d1, ds1, p1, q1, hargs1, rfl, rfl, h1, r1⟩ := trodAll_cons r0
  obtain ⟨v2, vs2, d2, ds2, p2, q2, hargs2, rfl, rfl, h2, r2⟩ := trodAll_cons r1
  obtain ⟨rfl, rfl, rfl⟩ := trodAll_nil r2
  obtain rfl : args = #[v0, v1, v2] := by cases args; simp_all
  obtain ⟨rfl, rfl⟩ := trodVars_none hV
  have k0 := h0; have lt0 : ∀ x ∈ p0, x.block < W.heap.size := by obtain ⟨m, hm⟩ := k0; exact DataW.trod_lt m _ _ _ hm
  have k1 := h1; have lt1 : ∀ x ∈ p1, x.block < W.heap.size := by obtain ⟨m, hm⟩ := k1; exact DataW.trod_lt m _ _ _ hm
  have k2 := h2; have lt2 : ∀ x ∈ p2, x.block < W.heap.size := by obtain ⟨m, hm⟩ := k2; exact DataW.trod_lt m _ _ _ hm
  obtain ⟨cs0, x0, rfl, hK0, ok0⟩ := Opens.trod_struct_val Try.underlying28 (hval 0 28 v0 rfl rfl) h0 (Opens.struct Try.underlying28 (by kernel_rfl) (Opens.cons 0 1 rfl (Opens.slice Try.underlying22 (Opens.iso (f := fun x : Q.S133 => (x.f0, x.f1, x.f2)) (fun x => ⟨x.1, x.2.1, x.2.2⟩) (fun _ => rfl) (Opens.struct Try.underlying133 (by kernel_rfl) (Opens.cons 0 1 rfl (Opens.string Try.underlying9) (by kernel_rfl) rfl (Opens.cons 1 2 rfl (Opens.int Try.underlying3) (by kernel_rfl) rfl (Opens.one 2 rfl (Opens.int Try.underlying3) (by kernel_rfl)))))) (by kernel_rfl) 133) (by kernel_rfl) rfl (Opens.cons 1 6 rfl (Opens.struct Try.underlying25 (by kernel_rfl) (Opens.cons 0 1 rfl (Opens.int Try.underlying3) (by kernel_rfl) rfl (Opens.cons 1 2 rfl (Opens.int Try.underlying3) (by kernel_rfl) rfl (Opens.cons 2 3 rfl (Opens.int Try.underlying3) (by kernel_rfl) rfl (Opens.cons 3 4 rfl (Opens.slice Try.underlying23 (Opens.int Try.underlying3) (by kernel_rfl) 3) (by kernel_rfl) rfl (Opens.one 4 rfl (Opens.bool Try.underlying4) (by kernel_rfl))))))) (by kernel_rfl) rfl (Opens.cons 6 7 rfl (Opens.slice Try.underlying26 (Opens.iso (f := fun x : Q.S147 => (x.f0, x.f1, x.f2, x.f3, x.f4)) (fun x => ⟨x.1, x.2.1, x.2.2.1, x.2.2.2.1, x.2.2.2.2⟩) (fun _ => rfl) (Opens.struct Try.underlying147 (by kernel_rfl) (Opens.cons 0 1 rfl (Opens.int Try.underlying3) (by kernel_rfl) rfl (Opens.cons 1 2 rfl (Opens.int Try.underlying3) (by kernel_rfl) rfl (Opens.cons 2 3 rfl (Opens.int Try.underlying3) (by kernel_rfl) rfl (Opens.cons 3 4 rfl (Opens.int Try.underlying3) (by kernel_rfl) rfl (Opens.one 4 rfl (Opens.int Try.underlying3) (by kernel_rfl)))))))) (by kernel_rfl) 147) (by kernel_rfl) rfl (Opens.cons 7 8 rfl (Opens.slice Try.underlying23 (Opens.int Try.underlying3) (by kernel_rfl) 3) (by kernel_rfl) rfl (Opens.one 8 rfl (Opens.slice Try.underlying23 (Opens.int Try.underlying3) (by kernel_rfl) 3) (by kernel_rfl)))))))
  obtain ⟨l0_0, ⟨a0_1_0, a0_1_1, a0_1_2, l0_1_3, a0_1_4⟩, l0_2, l0_3, l0_4⟩ := x0
  obtain ⟨_, _, hcs0, ⟨A0_0, c0_0, rfl, hl0_0, hC0_0⟩, ⟨_, _, rfl, ⟨_, _, rfl, rfl, ⟨_, _, rfl, rfl, ⟨_, _, rfl, rfl, ⟨_, _, rfl, ⟨A0_1_3, c0_1_3, rfl, hl0_1_3, hC0_1_3⟩, rfl⟩⟩⟩⟩, ⟨_, _, rfl, ⟨A0_2, c0_2, rfl, hl0_2, hC0_2⟩, ⟨_, _, rfl, ⟨A0_3, c0_3, rfl, hl0_3, hC0_3⟩, ⟨A0_4, c0_4, rfl, hl0_4, hC0_4⟩⟩⟩⟩⟩ := hK0
  obtain rfl : cs0 = #[.slice A0_0 l0_0.length c0_0, .int .i64 a0_1_0, .int .i64 a0_1_1, .int .i64 a0_1_2, .slice A0_1_3 l0_1_3.length c0_1_3, .bool a0_1_4, .slice A0_2 l0_2.length c0_2, .slice A0_3 l0_3.length c0_3, .slice A0_4 l0_4.length c0_4] := Array.toList_inj.mp hcs0
  obtain ⟨a1, rfl, rfl, rfl, ok1⟩ := open_int Try.underlying3 (hval 1 3 v1 rfl rfl) h1
  obtain ⟨cs2, x2, rfl, hK2, ok2⟩ := Opens.trod_struct_val Try.underlying59 (hval 2 59 v2 rfl rfl) h2 (Opens.struct Try.underlying59 (by kernel_rfl) (Opens.cons 0 1 rfl (Opens.bool Try.underlying4) (by kernel_rfl) rfl (Opens.cons 1 2 rfl (Opens.slice Try.underlying23 (Opens.int Try.underlying3) (by kernel_rfl) 3) (by kernel_rfl) rfl (Opens.one 2 rfl (Opens.slice Try.underlying23 (Opens.int Try.underlying3) (by kernel_rfl) 3) (by kernel_rfl)))))
  obtain ⟨a2_0, l2_1, l2_2⟩ := x2
  obtain ⟨_, _, hcs2, rfl, ⟨_, _, rfl, ⟨A2_1, c2_1, rfl, hl2_1, hC2_1⟩, ⟨A2_2, c2_2, rfl, hl2_2, hC2_2⟩⟩⟩ := hK2
  obtain rfl : cs2 = #[.bool a2_0, .slice A2_1 l2_1.length c2_1, .slice A2_2 l2_2.length c2_2] := Array.toList_inj.mp hcs2
  clear hA0 hval0 hsz0
  obtain ⟨k, hk⟩ := Pure.FnExactCheckLead l0_0 a0_1_0 a0_1_1 a0_1_2 l0_1_3 a0_1_4 l0_2 l0_3 l0_4 a1 a2_0 l2_1 l2_2 ok0 ok1 ok2
  refine (Q.laws_FnExactCheckLead.calls k  A0_0 c0_0 l0_0 a0_1_0 a0_1_1 a0_1_2 A0_1_3 c0_1_3 l0_1_3 a0_1_4 A0_2 c0_2 l0_2 A0_3 c0_3 l0_3 A0_4 c0_4 l0_4 a1 a2_0 A2_1 c2_1 l2_1 A2_2 c2_2 l2_2 _ W hC0_0 hl0_0 hC0_1_3 hl0_1_3 hC0_2 hl0_2 hC0_3 hl0_3 hC0_4 hl0_4 hC2_1 hl2_1 hC2_2 hl2_2 hk).mono fun e W' ⟨he, bel⟩ => ?_
  subst he
  exact ⟨_, rfl, _, _, _, [], _, [], hW', trodAll_mk1 (shut_bool Try.underlying4 _), (trodAll_cons_mk (Below.trod laidOut (by kernel_rfl) (of_decide_eq_true (by kernel_rfl)) k0 bel lt0) (trodAll_cons_mk (Below.trod laidOut (by kernel_rfl) (of_decide_eq_true (by kernel_rfl)) k1 bel lt1) (trodAll_cons_mk (Below.trod laidOut (by kernel_rfl) (of_decide_eq_true (by kernel_rfl)) k2 bel lt2) trodAll_mk0))), rfl, bel.frame _, fun h => by cases h⟩
theorem over : Rows.fnExactCheckLeadRow.holds Try.pinned (OpenSpec.ofChange Rows.fnExactCheckLeadSpec) :=
  OpenClaim.holds_of_wide 7 Try.f7 rfl rfl rfl rfl rfl rfl rfl ⟨rfl, rfl, rfl, rfl, rfl⟩ rfl rfl rfl rfl rfl (by kernel_rfl) Try.func7 (by kernel_rfl)
    (of_decide_eq_true (by kernel_rfl)) (by unfold Func.isWrapper; first | (rw [if_pos (by decide +kernel)]; kernel_rfl) | (rw [if_neg (by decide +kernel)]; exact ⟨rfl, rfl⟩))
    (fun os started H enc _ => lifted os started H enc)
theorem proved : Rows.FnExactCheckLeadSaid := over
end Go.Proofs.Ythfefanapneocaa.fnExactCheckLead
namespace Go.Proofs.Ythfefanapneocaa
theorem fnExactCheckLead_holds : Rows.FnExactCheckLeadSaid := fnExactCheckLead.proved
end Go.Proofs.Ythfefanapneocaa
