/- A part of the proof of FnExactOrderMatters: functions of the program, as plain functions, with the proof that the machine's call does what they say; plain lemmas; and those of the words that print.sh prints which this proof uses. No condition. -/
import Derived.Test.YthfefanapneocaaKFnExactOrderMatters1
import Derived.Test.YthfefanapneocaaProg
import Derived.Below
import Derived.Deep.Draws
import Derived.Deep.AppendLies
import Derived.Maps.AppendAt
import Derived.OwnWalk
import Derived.Laws.BytesArg
import Derived.Laws.MakeOwn
import Derived.Laws.OwnMore
import Derived.Deep.OwnRows
import Derived.Tactics
import Derived.Lib.ConvBytes
import Derived.Laws.Slices
import Derived.WalkKit
import Derived.KernelRfl
import Derived.RowKit3
import Derived.Deep.LoopGhost
import Derived.Deep.QuietTactic
import Derived.BigQuiet
import Derived.WideLaws
import Derived.Deep.DeepCutAuto
import Derived.Deep.CutBlock
import Derived.Deep.RegionHeld3
import Derived.Laws.Rows
import Derived.Lib.AppendStr
import Derived.ArgAppend
import Derived.Laws.IdiomCopy
import Derived.OrdersHeld
import Derived.Laws.BitsLemmas
import Derived.RowKit
import Derived.WalkSpells
import Derived.Shelf.Strings.Builder1
import Derived.Shelf.Strings.Builder2
import Derived.Shelf.Small.Bits
import Derived.Shelf.Strconv.Itoa0
import Derived.Ground.Names2Prog
import Derived.Shelf.Slices.Clone
import Derived.Shelf.Slices.SearchI
import Derived.Ground.SlgnProg
import Derived.Shelf.SlicesE.Clone
import Derived.Lib.AppendIntMem
import Derived.Laws.StructEq
import Derived.Test.YthfefanapneocaaKFnExactOrderMatters3
import Derived.Test.YthfefanapneocaaKFnExactOrderMatters4
import Derived.Test.YthfefanapneocaaKFnExactOrderMatters2
import Derived.Test.YthfefanapneocaaKFnExactOrderMatters5
import Derived.Shelf.SlicesE.DeleteFunc
import Derived.Lib.OwnBridge
import Derived.Test.YthfefanapneocaaRows
import Derived.ProofKit
import Derived.OpenShut
import Derived.ShutString
import Derived.ChangeOld
import Derived.SizedLaws
namespace Go.Proofs.Ythfefanapneocaa.Q
open Go.RowKit Go.Proofs.YthfefanapneocaaW.PrintWords Go.Proofs.YthfefanapneocaaW.PrintLast Go.Proofs.YthfefanapneocaaW.PrintMore
abbrev Team := S139
abbrev Game := S95
theorem wrap_id (x : Int) (h0 : -9223372036854775808 ≤ x) (h1 : x ≤ 9223372036854775807) : wrap64 x = x := by unfold wrap64; omega
theorem Ev.down {β : Type} (n : Nat) (F : Nat → Nat → Option β) (V : Nat → β) (hend : Ev (F n) (V n)) (hstep : ∀ i, i < n → Ev (F (i + 1)) (V (i + 1)) → Ev (F i) (V i)) : Ev (F 0) (V 0) := by
  have key : ∀ d i, i + d = n → Ev (F i) (V i) := by
    intro d
    induction d with
    | zero => intro i hi; obtain rfl : i = n := by omega
              exact hend
    | succ d ih => intro i hi; exact hstep i (by omega) (ih (i + 1) (by omega))
  exact key n 0 (by omega)
theorem Ev.eq {β : Type} {g : Nat → Option β} {r q : β} (h : Ev g r) (e : r = q) : Ev g q := e ▸ h
theorem Ev.loop {β : Type} {g : Nat → Option β} {r : β} (n : Nat) (F : Nat → Nat → Option β) (V : Nat → β) (hg : ∀ k, g k = F 0 k) (hr : V 0 = r) (hend : Ev (F n) (V n)) (hstep : ∀ i, i < n → Ev (F (i + 1)) (V (i + 1)) → Ev (F i) (V i)) : Ev g r :=
  Ev.eq (Ev.congr hg (Ev.down n F V hend hstep)) hr
theorem Ev.from {β : Type} {g : Nat → Option β} {r : β} (K : Nat) (h : ∀ k, K < k → g k = some r) : Ev g r := ⟨K + 1, fun k hk => h k (by omega)⟩
theorem Ev.val {β : Type} {g : Nat → Option β} {r : β} (h : ∀ k, g k = some r) : Ev g r := ⟨0, fun k _ => h k⟩
theorem rd_eq (l : List Int) (i : Nat) (h : i < l.length) : rd l (i : Int) = l[i] := by
  unfold rd; simp [h]
theorem rdG_eq (l : List Game) (i : Nat) (h : i < l.length) : rd_T95 l (i : Int) = l[i] := by
  unfold rd_T95; simp [h]
theorem wrap_succ (i : Nat) (h : i < 4611686018427387904) : wrap64 ((i : Int) + 1) = ((i + 1 : Nat) : Int) := by unfold wrap64; omega
def indexI (l : List Int) (x : Int) : Int := idxI (fun y => decide (x = y)) l
theorem index_eq (l : List Int) (x : Int) (hl : l.length ≤ 2305843009213693952) (k : Nat) (hk : l.length < k) : slices_Index_int_int.f k l x = some (indexI l x) := by
  have key : ∀ (d i : Nat), l.length - i = d → i ≤ l.length → ∀ k, d < k → slices_Index_int_int.l0 k l x l.length i = some (if idxI (fun y => decide (x = y)) (l.drop i) < 0 then -1 else idxI (fun y => decide (x = y)) (l.drop i) + i) := by
    intro d
    induction d with
    | zero =>
      intro i hd hi k hk
      obtain ⟨k, rfl⟩ : ∃ m, k = m + 1 := ⟨k - 1, by omega⟩
      simp only [slices_Index_int_int.l0]
      rw [if_neg (by omega), List.drop_eq_nil_of_le (by omega)]
      rfl
    | succ d ih =>
      intro i hd hi k hk
      obtain ⟨k, rfl⟩ : ∃ m, k = m + 1 := ⟨k - 1, by omega⟩
      have hlt : i < l.length := by omega
      have := ih (i + 1) (by omega) (by omega) k (by omega)
      simp only [slices_Index_int_int.l0]
      rw [if_pos (by omega), if_pos (by omega), if_pos (by omega), rd_eq l i hlt, wrap_succ i (by omega), this, List.drop_eq_getElem_cons hlt]
      simp only [idxI]
      grind
  unfold slices_Index_int_int.f indexI
  have := key l.length 0 (by omega) (by omega) k hk
  rw [List.drop_zero] at this
  have h2 := idxI_any (fun y => decide (x = y)) l
  refine Eq.trans this ?_
  congr 1
  by_cases h : idxI (fun y => decide (x = y)) l < 0
  · rw [if_pos h]
    have : ∀ l : List Int, idxI (fun y => decide (x = y)) l = -1 ∨ 0 ≤ idxI (fun y => decide (x = y)) l := by
      intro l
      induction l with
      | nil => exact .inl rfl
      | cons y l ih => simp only [idxI]; grind
    rcases this l with h3 | h3
    · exact h3.symm
    · omega
  · rw [if_neg h]; simp
def hasI (l : List Int) (x : Int) : Bool := l.any fun y => decide (x = y)
theorem contains_eq (l : List Int) (x : Int) (hl : l.length ≤ 2305843009213693952) (k : Nat) (hk : l.length < k) : slices_Contains_int_int.f k l x = some (hasI l x) := by
  unfold slices_Contains_int_int.f hasI
  rw [index_eq l x hl k hk, ← idxI_any]
  rfl
theorem isKey_eq (x : Int) : impl_isKey.f x = some (withinB x 1 8) := by unfold impl_isKey.f; rw [within_eq]; rfl
def ladderFrom : List Int → List Int → Bool
  | _, [] => true
  | pre, k :: l => withinB k 1 8 && !hasI pre k && ladderFrom (pre ++ [k]) l
def rulesOkB (win draw loss : Int) (ladder : List Int) : Bool := ladderFrom [] ladder && decide (0 ≤ loss) && decide (loss ≤ draw) && decide (draw ≤ win) && decide (win ≤ 10) && withinB ladder.length 1 8
theorem rulesOk_eq (win draw loss : Int) (l : List Int) (again : Bool) (hl : l.length ≤ 2305843009213693952) (k : Nat) (hk : 2 * l.length + 2 < k) : impl_RulesOk.f k win draw loss l again = some (rulesOkB win draw loss l) := by
  have key : ∀ (d i : Nat), l.length - i = d → i ≤ l.length → ∀ k, l.length + d + 1 < k → impl_RulesOk.l0 k l l.length i win draw loss l again = some (ladderFrom (l.take i) (l.drop i) && decide (0 ≤ loss) && decide (loss ≤ draw) && decide (draw ≤ win) && decide (win ≤ 10) && withinB l.length 1 8) := by
    intro d
    induction d with
    | zero =>
      intro i hd hi k hk
      obtain ⟨k, rfl⟩ : ∃ m, k = m + 1 := ⟨k - 1, by omega⟩
      simp only [impl_RulesOk.l0]
      rw [if_neg (by omega), List.drop_eq_nil_of_le (by omega), ladderFrom, within_eq]
      simp only [Option.bind_some]
      grind
    | succ d ih =>
      intro i hd hi k hk
      obtain ⟨k, rfl⟩ : ∃ m, k = m + 1 := ⟨k - 1, by omega⟩
      have hlt : i < l.length := by omega
      have := ih (i + 1) (by omega) (by omega) k (by omega)
      simp only [impl_RulesOk.l0]
      rw [if_pos (by omega), if_pos (by omega), if_pos (by omega), rd_eq l i hlt, wrap_succ i (by omega), this, List.drop_eq_getElem_cons hlt, isKey_eq, Int.toNat_natCast, contains_eq _ _ (by rw [List.length_take]; omega) k (by rw [List.length_take]; omega)]
      simp only [Option.bind_some, ladderFrom]
      rw [if_pos (show (i : Int) ≤ l.length by omega), List.take_succ_eq_append_getElem hlt]
      cases withinB l[i] 1 8 <;> cases hasI (l.take i) l[i] <;> simp
  unfold impl_RulesOk.f rulesOkB
  have := key l.length 0 (by omega) (by omega) k (by omega)
  simpa using this
def gameOkB (n : Int) (g : Game) : Bool := withinB n 2 8 && !decide (g.f0 = g.f1) && withinB g.f0 0 (n - 1) && withinB g.f1 0 (n - 1) && withinB g.f4 0 4 && withinB g.f2 0 (if g.f4 = 1 then 99 else 0) && withinB g.f3 0 (if g.f4 = 1 then 99 else 0)
theorem gameOk_eq (n : Int) (g : Game) (k : Nat) (hk : 0 < k) : impl_GameOk.f k n g.f0 g.f1 g.f2 g.f3 g.f4 = some (gameOkB n g) := by
  obtain ⟨k, rfl⟩ : ∃ m, k = m + 1 := ⟨k - 1, by omega⟩
  have hw : withinB n 2 8 = true → wrap64 (n - 1) = n - 1 := by
    intro h
    simp [withinB] at h
    unfold wrap64; omega
  have key : ∀ most : Int, impl_GameOk.j0 (k + 1) n most g.f0 g.f1 g.f2 g.f3 g.f4 = some (withinB n 2 8 && !decide (g.f0 = g.f1) && withinB g.f0 0 (n - 1) && withinB g.f1 0 (n - 1) && withinB g.f4 0 4 && withinB g.f2 0 most && withinB g.f3 0 most) := by
    intro most
    simp only [impl_GameOk.j0, within_eq, Option.bind_some]
    cases h : withinB n 2 8 with
    | false => simp
    | true =>
      rw [hw h]
      by_cases h1 : g.f0 = g.f1 <;> simp [h1] <;> grind
  unfold impl_GameOk.f gameOkB
  by_cases h : g.f4 = 1
  · rw [if_pos h, key, if_pos h]
  · rw [if_neg h, key, if_neg h]
def seasonFrom (n : Int) : List Game → List Game → Bool
  | _, [] => true
  | pre, g :: l => gameOkB n g && !pre.any (gameIs g.f0 g.f1) && seasonFrom n (pre ++ [g]) l
def seasonOkB (n : Int) (l : List Game) : Bool := seasonFrom n [] l && decide ((l.length : Int) ≤ 60)
theorem seasonOk_eq (n : Int) (l : List Game) (hl : l.length ≤ 2305843009213693952) (k : Nat) (hk : l.length + 2 < k) : impl_SeasonOk.f k n l = some (seasonOkB n l) := by
  have key : ∀ (d i : Nat), l.length - i = d → i ≤ l.length → ∀ k, d + 1 < k → impl_SeasonOk.l0 k n l l l.length i = some (seasonFrom n (l.take i) (l.drop i) && decide ((l.length : Int) ≤ 60)) := by
    intro d
    induction d with
    | zero =>
      intro i hd hi k hk
      obtain ⟨k, rfl⟩ : ∃ m, k = m + 1 := ⟨k - 1, by omega⟩
      simp only [impl_SeasonOk.l0]
      rw [if_neg (by omega), List.drop_eq_nil_of_le (by omega), seasonFrom]
      rfl
    | succ d ih =>
      intro i hd hi k hk
      obtain ⟨k, rfl⟩ : ∃ m, k = m + 1 := ⟨k - 1, by omega⟩
      have hlt : i < l.length := by omega
      have := ih (i + 1) (by omega) (by omega) k (by omega)
      simp only [impl_SeasonOk.l0]
      rw [if_pos (by omega), if_pos (by omega), if_pos (by omega), rdG_eq l i hlt, wrap_succ i (by omega), this, List.drop_eq_getElem_cons hlt, gameOk_eq _ _ k (by omega), Int.toNat_natCast]
      simp only [Option.bind_some, seasonFrom, impl_GameOf.f]
      rw [if_pos (show (i : Int) ≤ l.length by omega), List.take_succ_eq_append_getElem hlt, ← idxI_any]
      by_cases h2 : idxI (gameIs l[i].f0 l[i].f1) (l.take i) ≥ 0
      · rw [if_pos h2, decide_eq_true (show 0 ≤ idxI (gameIs l[i].f0 l[i].f1) (l.take i) from h2)]
        cases gameOkB n l[i] <;> simp
      · rw [if_neg h2, decide_eq_false (show ¬ 0 ≤ idxI (gameIs l[i].f0 l[i].f1) (l.take i) from h2)]
        cases gameOkB n l[i] <;> simp
  unfold impl_SeasonOk.f seasonOkB
  have := key l.length 0 (by omega) (by omega) k (by omega)
  simpa using this
def penaltiesB (l : List Int) (n : Int) : Bool := decide ((l.length : Int) = n) && !l.any (fun x => !withinB x 0 1000)
def bookOkB (field : List Team) (win draw loss : Int) (ladder : List Int) (games : List Game) (fair taken : List Int) : Bool :=
  fieldOkB field && rulesOkB win draw loss ladder && seasonOkB field.length games && penaltiesB fair field.length && penaltiesB taken field.length
def Sized (field : List Team) (ladder : List Int) (games : List Game) : Prop :=
  (∀ t, t ∈ field → t.f0.size ≤ 4611686018427387904) ∧ ladder.length ≤ 1099511627776 ∧ games.length ≤ 1099511627776
theorem fieldOk_eq (field : List Team) (h : ∀ t, t ∈ field → t.f0.size ≤ 4611686018427387904) : impl_FieldOk.f field = some (fieldOkB field) := by
  unfold impl_FieldOk.f
  rw [if_pos]
  rw [List.all_eq_true]
  intro t ht
  exact decide_eq_true (h t ht)
theorem bookOk_eq (field : List Team) (win draw loss : Int) (ladder : List Int) (again : Bool) (games : List Game) (fair taken : List Int) (hs : Sized field ladder games) (k : Nat) (hk : 2 * ladder.length + games.length + 2 < k) :
    impl_BookOk.f k field win draw loss ladder again games fair taken = some (bookOkB field win draw loss ladder games fair taken) := by
  obtain ⟨h1, h2, h3⟩ := hs
  unfold impl_BookOk.f bookOkB
  rw [fieldOk_eq field h1, rulesOk_eq _ _ _ _ _ (by omega) k (by omega), seasonOk_eq _ _ (by omega) k (by omega)]
  simp only [Option.bind_some, impl_arePenalties.f, penaltiesB]
  cases fieldOkB field <;> cases rulesOkB win draw loss ladder <;> cases seasonOkB field.length games <;> simp
  grind
def mk (l : List UInt8) : ByteArray := ⟨l.toArray⟩
theorem set_next {α β : Type} (f : α → β) (z : β) (l : List α) (i : Nat) (h : i < l.length) (y : β) (hy : y = f l[i]) : ((l.take i).map f ++ List.replicate (l.length - i) z).set i y = (l.take (i + 1)).map f ++ List.replicate (l.length - (i + 1)) z := by
  rw [List.set_append, if_neg (by rw [List.length_map, List.length_take]; omega), List.take_succ_eq_append_getElem h, show l.length - i = (l.length - (i + 1)) + 1 by omega, List.replicate_succ, List.length_map, List.length_take, Nat.min_eq_left (by omega), Nat.sub_self, List.set_cons_zero, List.map_append, List.append_assoc, hy]
  rfl
theorem toInt_ev (l : List Int) (hl : l.length ≤ 1048576) : Ev (fun k => laws_toIntS.f k l) l := by
  have h : ∀ i, i ≤ l.length → Ev (fun k => laws_toIntS.l0 k l ((l.take i).map id ++ List.replicate (l.length - i) 0) (i : Int)) l := by
    intro i hi
    obtain ⟨d, hd⟩ : ∃ d, i + d = l.length := ⟨l.length - i, by omega⟩
    induction d generalizing i with
    | zero =>
      obtain rfl : i = l.length := by omega
      exact Ev.step (f := fun _ => some l) (fun k => by rw [laws_toIntS.l0, if_neg (by omega), List.take_length, Nat.sub_self]; simp) (Ev.now _)
    | succ d ih =>
      have hlt : i < l.length := by omega
      refine Ev.step (fun k => ?_) (ih (i + 1) (by omega) (by omega))
      rw [laws_toIntS.l0, if_pos (by omega), if_pos (by omega), rd_eq l i hlt, if_pos (by simp; omega), wrap_succ i (by omega), Int.toNat_natCast, set_next id 0 l i hlt l[i] rfl]
  refine Ev.congr (fun k => ?_) (h 0 (by omega))
  unfold laws_toIntS.f
  rw [if_pos (by omega), if_pos (by omega)]
  rfl
theorem eqInt_ev (l : List Int) (hl : l.length ≤ 1048576) : Ev (fun k => laws_eqIntS.f k l l) true := by
  refine Ev.loop l.length (fun i k => laws_eqIntS.l0 k l l (i : Int)) (fun _ => true) (fun k => by unfold laws_eqIntS.f; rw [if_pos rfl]; rfl) rfl ?_ ?_
  · exact Ev.step (f := fun _ => some true) (fun k => by rw [laws_eqIntS.l0, if_neg (by omega)]) (Ev.now _)
  · intro i hi h
    exact Ev.step (fun k => by rw [laws_eqIntS.l0, if_pos (by omega), if_pos (by omega), if_pos (by omega), if_pos rfl, wrap_succ i (by omega)]) h
theorem szInt_eq (r : List Int) (x : Int) (h0 : 0 ≤ x) (h1 : x ≤ 1048576) (hr : r.length ≤ 9223372036854775807) : laws_szIntS.f r x = some (if x - r.length < 0 then -1 else x - r.length) := by
  unfold laws_szIntS.f
  rw [wrap_id _ (by omega) (by omega)]
  split <;> rfl
abbrev TeamA := S133
abbrev GameA := S147
def convT (x : TeamA) : Team := ⟨x.f0, x.f1, x.f2⟩
def convG (x : GameA) : Game := ⟨x.f0, x.f1, x.f2, x.f3, x.f4⟩
theorem rdTA_eq (l : List TeamA) (i : Nat) (h : i < l.length) : rd_T133 l (i : Int) = l[i] := by
  unfold rd_T133; simp [h]
theorem rdGA_eq (l : List GameA) (i : Nat) (h : i < l.length) : rd_T147 l (i : Int) = l[i] := by
  unfold rd_T147; simp [h]
theorem toTeam_ev (l : List TeamA) (hl : l.length ≤ 1048576) : Ev (fun k => laws_toTeamS.f k l) (l.map convT) := by
  refine Ev.loop l.length (fun i k => laws_toTeamS.l0 k l ((l.take i).map convT ++ List.replicate (l.length - i) z139) (i : Int)) (fun _ => l.map convT) (fun k => by unfold laws_toTeamS.f; rw [if_pos (by omega), if_pos (by omega)]; rfl) rfl ?_ ?_
  · exact Ev.step (f := fun _ => some (l.map convT)) (fun k => by rw [laws_toTeamS.l0, if_neg (by omega), List.take_length, Nat.sub_self]; simp) (Ev.now _)
  · intro i hi h
    refine Ev.step (fun k => ?_) h
    rw [laws_toTeamS.l0, if_pos (by omega), if_pos (by omega), rdTA_eq l i hi, laws_toTeam.f, Option.bind_some, if_pos (by simp; omega), wrap_succ i (by omega), Int.toNat_natCast, set_next convT z139 l i hi ⟨l[i].f0, l[i].f1, l[i].f2⟩ rfl]
theorem toGame_ev (l : List GameA) (hl : l.length ≤ 1048576) : Ev (fun k => laws_toGameS.f k l) (l.map convG) := by
  refine Ev.loop l.length (fun i k => laws_toGameS.l0 k l ((l.take i).map convG ++ List.replicate (l.length - i) z95) (i : Int)) (fun _ => l.map convG) (fun k => by unfold laws_toGameS.f; rw [if_pos (by omega), if_pos (by omega)]; rfl) rfl ?_ ?_
  · exact Ev.step (f := fun _ => some (l.map convG)) (fun k => by rw [laws_toGameS.l0, if_neg (by omega), List.take_length, Nat.sub_self]; simp) (Ev.now _)
  · intro i hi h
    refine Ev.step (fun k => ?_) h
    rw [laws_toGameS.l0, if_pos (by omega), if_pos (by omega), rdGA_eq l i hi, laws_toGame.f, Option.bind_some, if_pos (by simp; omega), wrap_succ i (by omega), Int.toNat_natCast, set_next convG z95 l i hi ⟨l[i].f0, l[i].f1, l[i].f2, l[i].f3, l[i].f4⟩ rfl]
theorem eqTeam_ev (l : List Team) (hl : l.length ≤ 1048576) : Ev (fun k => laws_eqTeamS.f k l l) true := by
  refine Ev.loop l.length (fun i k => laws_eqTeamS.l0 k l l (i : Int)) (fun _ => true) (fun k => by unfold laws_eqTeamS.f; rw [if_pos rfl]; rfl) rfl ?_ ?_
  · exact Ev.step (f := fun _ => some true) (fun k => by rw [laws_eqTeamS.l0, if_neg (by omega)]) (Ev.now _)
  · intro i hi h
    exact Ev.step (fun k => by rw [laws_eqTeamS.l0, if_pos (by omega), if_pos (by omega), if_pos (by omega), laws_eqTeam.f, if_pos rfl, if_pos rfl, if_pos rfl, Option.bind_some, if_pos rfl, wrap_succ i (by omega)]) h
theorem eqGame_ev (l : List Game) (hl : l.length ≤ 1048576) : Ev (fun k => laws_eqGameS.f k l l) true := by
  refine Ev.loop l.length (fun i k => laws_eqGameS.l0 k l l (i : Int)) (fun _ => true) (fun k => by unfold laws_eqGameS.f; rw [if_pos rfl]; rfl) rfl ?_ ?_
  · exact Ev.step (f := fun _ => some true) (fun k => by rw [laws_eqGameS.l0, if_neg (by omega)]) (Ev.now _)
  · intro i hi h
    exact Ev.step (fun k => by rw [laws_eqGameS.l0, if_pos (by omega), if_pos (by omega), if_pos (by omega), laws_eqGame.f, if_pos rfl, if_pos rfl, if_pos rfl, if_pos rfl, if_pos rfl, Option.bind_some, if_pos rfl, wrap_succ i (by omega)]) h
theorem toBook_ev (F : List TeamA) (w d s : Int) (L : List Int) (ag : Bool) (G : List GameA) (fa ta : List Int) (h1 : F.length ≤ 1048576) (h2 : L.length ≤ 1048576) (h3 : G.length ≤ 1048576) (h4 : fa.length ≤ 1048576) (h5 : ta.length ≤ 1048576) :
    Ev (fun k => laws_toBook.f k F w d s L ag G fa ta) (F.map convT, w, d, s, L, ag, G.map convG, fa, ta) := by
  unfold laws_toBook.f laws_toRules.f
  exact Ev.bind (toTeam_ev F h1) (Ev.bind (Ev.bind (toInt_ev L h2) (Ev.now (w, d, s, L, ag))) (Ev.bind (toGame_ev G h3) (Ev.bind (toInt_ev fa h4) (Ev.bind (toInt_ev ta h5) (Ev.now _)))))
theorem eqRules_ev (w d s : Int) (L : List Int) (ag : Bool) (h2 : L.length ≤ 1048576) : Ev (fun k => laws_eqRules.f k w d s L ag w d s L ag) true := by
  unfold laws_eqRules.f
  refine Ev.congr (fun k => by rw [if_pos rfl, if_pos rfl, if_pos rfl]) (Ev.bind (eqInt_ev L h2) (Ev.val fun k => ?_))
  simp
theorem eqBook_ev (F : List Team) (w d s : Int) (L : List Int) (ag : Bool) (G : List Game) (fa ta : List Int) (h1 : F.length ≤ 1048576) (h2 : L.length ≤ 1048576) (h3 : G.length ≤ 1048576) (h4 : fa.length ≤ 1048576) (h5 : ta.length ≤ 1048576) :
    Ev (fun k => laws_eqBook.f k F w d s L ag G fa ta F w d s L ag G fa ta) true := by
  unfold laws_eqBook.f
  refine Ev.bind (eqTeam_ev F h1) (Ev.congr (fun k => by rw [if_pos rfl]) (Ev.bind (eqRules_ev w d s L ag h2) (Ev.congr (fun k => by rw [if_pos rfl]) (Ev.bind (eqGame_ev G h3) (Ev.congr (fun k => by rw [if_pos rfl]) (Ev.bind (eqInt_ev fa h4) (Ev.congr (fun k => by rw [if_pos rfl]) (Ev.bind (eqInt_ev ta h5) (Ev.val fun k => by rw [if_pos rfl])))))))))
structure BkSmall (F : List TeamA) (L : List Int) (G : List GameA) (fa ta : List Int) : Prop where
  f : F.length ≤ 1048576
  n : ∀ t ∈ F, t.f0.size ≤ 1048576
  l : L.length ≤ 1048576
  g : G.length ≤ 1048576
  x : fa.length ≤ 1048576
  y : ta.length ≤ 1048576
theorem szTeam_ev (l : List TeamA) (hl : l.length ≤ 9223372036854775807) (hn : ∀ t ∈ l, t.f0.size ≤ 9223372036854775807) (x : Int) (h0 : 0 ≤ x) (h1 : x ≤ 1048576) : ∃ t, Ev (fun k => laws_szTeamS.f k l x) t ∧ (t < 0 ∨ 0 ≤ t ∧ t ≤ x ∧ l.length ≤ 1048576 ∧ ∀ r ∈ l, r.f0.size ≤ 1048576) := by
  have key : l.length ≤ 1048576 → ∀ (d i : Nat) (x : Int), i + d = l.length → 0 ≤ x → x ≤ 1048576 → ∃ t, Ev (fun k => laws_szTeamS.l0 k l x (i : Int)) t ∧ (t < 0 ∨ 0 ≤ t ∧ t ≤ x ∧ ∀ r ∈ l.drop i, r.f0.size ≤ 1048576) := by
    intro hl2 d
    induction d with
    | zero =>
      intro i x hi h0 h1
      refine ⟨x, Ev.step (f := fun _ => some x) (fun k => by rw [laws_szTeamS.l0, if_neg (by omega)]) (Ev.now _), .inr ⟨h0, Int.le_refl _, ?_⟩⟩
      rw [List.drop_eq_nil_of_le (by omega)]
      intro r hr; cases hr
    | succ d ih =>
      intro i x hi h0 h1
      have hlt : i < l.length := by omega
      have hm := hn l[i] (List.getElem_mem hlt)
      have hw : wrap64 (x - (l[i].f0.size : Int)) = x - l[i].f0.size := wrap_id _ (by omega) (by omega)
      by_cases h : x - (l[i].f0.size : Int) < 0
      · exact ⟨-1, Ev.step (f := fun _ => some (-1)) (fun k => by rw [laws_szTeamS.l0, if_pos (by omega), if_pos (by omega), rdTA_eq l i hlt, laws_szTeam.f, hw, if_pos h, Option.bind_some, if_pos (by decide)]) (Ev.now _), .inl (by decide)⟩
      · obtain ⟨t, e, ht⟩ := ih (i + 1) (x - l[i].f0.size) (by omega) (by omega) (by omega)
        refine ⟨t, Ev.step (fun k => by rw [laws_szTeamS.l0, if_pos (by omega), if_pos (by omega), rdTA_eq l i hlt, laws_szTeam.f, hw, if_neg h, Option.bind_some, if_neg h, wrap_succ i (by omega)]) e, ?_⟩
        rcases ht with ht | ⟨ht, ht2, hd⟩
        · exact .inl ht
        · refine .inr ⟨ht, by omega, ?_⟩
          rw [List.drop_eq_getElem_cons hlt]
          intro r hr
          rcases List.mem_cons.mp hr with rfl | hr
          · omega
          · exact hd r hr
  by_cases h : x - (l.length : Int) < 0
  · exact ⟨-1, Ev.congr (f := fun _ => some (-1)) (fun k => by unfold laws_szTeamS.f; rw [wrap_id _ (by omega) (by omega), if_pos h]) (Ev.now _), .inl (by decide)⟩
  · obtain ⟨t, e, ht⟩ := key (by omega) l.length 0 (x - l.length) (by omega) (by omega) (by omega)
    refine ⟨t, Ev.congr (fun k => by unfold laws_szTeamS.f; rw [wrap_id _ (by omega) (by omega), if_neg h]; rfl) e, ?_⟩
    rcases ht with ht | ⟨ht, ht2, hd⟩
    · exact .inl ht
    · exact .inr ⟨ht, by omega, by omega, by rw [List.drop_zero] at hd; exact hd⟩
theorem szGame_eq (r : List GameA) (x : Int) (h0 : 0 ≤ x) (h1 : x ≤ 1048576) (hr : r.length ≤ 9223372036854775807) : laws_szGameS.f r x = some (if x - r.length < 0 then -1 else x - r.length) := by
  unfold laws_szGameS.f
  rw [wrap_id _ (by omega) (by omega)]
  split <;> rfl
theorem szBook_ev (F : List TeamA) (w d s : Int) (L : List Int) (ag : Bool) (G : List GameA) (fa ta : List Int) (hf : F.length ≤ 9223372036854775807) (hn : ∀ t ∈ F, t.f0.size ≤ 9223372036854775807) (hl : L.length ≤ 9223372036854775807) (hg : G.length ≤ 9223372036854775807) (hx : fa.length ≤ 9223372036854775807) (hy : ta.length ≤ 9223372036854775807) :
    ∃ t, Ev (fun k => laws_szBook.f k F w d s L ag G fa ta 1048576) t ∧ (t < 0 ∨ 0 ≤ t ∧ t ≤ 1048576 ∧ BkSmall F L G fa ta) := by
  obtain ⟨t1, e1, c1⟩ := szTeam_ev F hf hn 1048576 (by decide) (by decide)
  have neg : ∀ {g : Nat → Option Int}, Ev g (-1) → ∃ t, Ev g t ∧ (t < 0 ∨ 0 ≤ t ∧ t ≤ 1048576 ∧ BkSmall F L G fa ta) := fun e => ⟨_, e, .inl (by decide)⟩
  unfold laws_szBook.f
  rcases c1 with c1 | ⟨c0, c2, c3, c4⟩
  · exact neg (Ev.bind e1 (Ev.val fun k => by rw [if_pos c1]))
  have r1 := szInt_eq L t1 c0 c2 (by omega)
  by_cases d1 : t1 - (L.length : Int) < 0
  · rw [if_pos d1] at r1
    exact neg (Ev.bind e1 (Ev.val fun k => by rw [if_neg (by omega), laws_szRules.f, r1, Option.bind_some, if_pos (by decide), Option.bind_some, if_pos (by decide)]))
  rw [if_neg d1] at r1
  have r2 := szGame_eq G (t1 - L.length) (by omega) (by omega) (by omega)
  by_cases d2 : t1 - (L.length : Int) - G.length < 0
  · rw [if_pos d2] at r2
    exact neg (Ev.bind e1 (Ev.val fun k => by rw [if_neg (by omega), laws_szRules.f, r1, Option.bind_some, if_neg d1, Option.bind_some, if_neg d1, r2, Option.bind_some, if_pos (by decide)]))
  rw [if_neg d2] at r2
  have r3 := szInt_eq fa (t1 - L.length - G.length) (by omega) (by omega) (by omega)
  by_cases d3 : t1 - (L.length : Int) - G.length - fa.length < 0
  · rw [if_pos d3] at r3
    exact neg (Ev.bind e1 (Ev.val fun k => by rw [if_neg (by omega), laws_szRules.f, r1, Option.bind_some, if_neg d1, Option.bind_some, if_neg d1, r2, Option.bind_some, if_neg d2, r3, Option.bind_some, if_pos (by decide)]))
  rw [if_neg d3] at r3
  have r4 := szInt_eq ta (t1 - L.length - G.length - fa.length) (by omega) (by omega) (by omega)
  by_cases d4 : t1 - (L.length : Int) - G.length - fa.length - ta.length < 0
  · rw [if_pos d4] at r4
    exact neg (Ev.bind e1 (Ev.val fun k => by rw [if_neg (by omega), laws_szRules.f, r1, Option.bind_some, if_neg d1, Option.bind_some, if_neg d1, r2, Option.bind_some, if_neg d2, r3, Option.bind_some, if_neg d3, r4, Option.bind_some, if_pos (by decide)]))
  rw [if_neg d4] at r4
  refine ⟨_, Ev.bind e1 (Ev.val fun k => by rw [if_neg (by omega), laws_szRules.f, r1, Option.bind_some, if_neg d1, Option.bind_some, if_neg d1, r2, Option.bind_some, if_neg d2, r3, Option.bind_some, if_neg d3, r4, Option.bind_some, if_neg d4]), .inr ⟨by omega, by omega, ⟨c3, c4, ?_, ?_, ?_, ?_⟩⟩⟩ <;> omega
def BkArg (F : List TeamA) (w d s : Int) (L : List Int) (G : List GameA) (fa ta : List Int) : Prop :=
  (F.length ≤ maxLen ∧ ∀ t ∈ F, t.f0.size ≤ maxLen ∧ (Lit.int .i64 t.f1).wf = true ∧ (Lit.int .i64 t.f2).wf = true) ∧
  ((Lit.int .i64 w).wf = true ∧ (Lit.int .i64 d).wf = true ∧ (Lit.int .i64 s).wf = true ∧ (L.length ≤ maxLen ∧ ∀ x ∈ L, (Lit.int .i64 x).wf = true) ∧ True) ∧
  (G.length ≤ maxLen ∧ ∀ g ∈ G, (Lit.int .i64 g.f0).wf = true ∧ (Lit.int .i64 g.f1).wf = true ∧ (Lit.int .i64 g.f2).wf = true ∧ (Lit.int .i64 g.f3).wf = true ∧ (Lit.int .i64 g.f4).wf = true) ∧
  (fa.length ≤ maxLen ∧ ∀ x ∈ fa, (Lit.int .i64 x).wf = true) ∧ (ta.length ≤ maxLen ∧ ∀ x ∈ ta, (Lit.int .i64 x).wf = true)
theorem szBook_arg (F : List TeamA) (w d s : Int) (L : List Int) (ag : Bool) (G : List GameA) (fa ta : List Int) (h : BkArg F w d s L G fa ta) :
    ∃ t, Ev (fun k => laws_szBook.f k F w d s L ag G fa ta 1048576) t ∧ (t < 0 ∨ 0 ≤ t ∧ t ≤ 1048576 ∧ BkSmall F L G fa ta) :=
  szBook_ev F w d s L ag G fa ta h.1.1 (fun t ht => (h.1.2 t ht).1) h.2.1.2.2.2.1.1 h.2.2.1.1 h.2.2.2.1.1 h.2.2.2.2.1
end Go.Proofs.Ythfefanapneocaa.Q
namespace Go.Proofs.Ythfefanapneocaa.Q
open Go.RowKit Go.Proofs.YthfefanapneocaaW.PrintWords Go.Proofs.YthfefanapneocaaW.PrintLast Go.Proofs.YthfefanapneocaaW.PrintMore
attribute [local go_sem] max2_int min2_int max_two min_two max_three min_three max_four min_four
set_option linter.unusedVariables false
set_option linter.unusedSimpArgs false
def laws_toProtestS.l0 : Nat → List (S48) → List (S50) → Int → Option ((List (S50)))
 | 0, _, _, _ => none
 | k + 1, x0, x3, x4 => if x4 < (x0.length : Int) then (if 0 ≤ x4 then ((laws_toProtest.f ((rd_T48 x0 x4).f0) ((rd_T48 x0 x4).f1) ((rd_T48 x0 x4).f2)).bind fun bt298 => (if x4 < (x3.length : Int) then (laws_toProtestS.l0 k x0 (x3.set (x4 : Int).toNat (⟨bt298.1, bt298.2.1, bt298.2.2⟩ : S50)) (wrap64 (x4 + 1))) else (none))) else (none)) else (some x3)
def laws_toProtestS.f (k : Nat) (l0 : List (S48)) : Option ((List (S50))) := if 0 ≤ (l0.length : Int) then (if ((l0.length : Int) : Int).toNat ≤ 11728124029610 then (laws_toProtestS.l0 k l0 (List.replicate ((l0.length : Int) : Int).toNat z50) 0) else (none)) else (none)
def laws_eqProtest.f (a0_0 : Int) (a0_1 : Int) (a0_2 : Bool) (a1_0 : Int) (a1_1 : Int) (a1_2 : Bool) : Option (Bool) := if a0_0 = a1_0 then (if a0_1 = a1_1 then (if (a0_2 != a1_2) = true then (some false) else (some true)) else (some false)) else (some false)
def laws_eqProtestS.l0 : Nat → List (S50) → List (S50) → Int → Option (Bool)
 | 0, _, _, _ => none
 | k + 1, x0, x1, x5 => if x5 < (x0.length : Int) then (if 0 ≤ x5 then (if x5 < (x1.length : Int) then ((laws_eqProtest.f ((rd_T50 x0 x5).f0) ((rd_T50 x0 x5).f1) ((rd_T50 x0 x5).f2) ((rd_T50 x1 x5).f0) ((rd_T50 x1 x5).f1) ((rd_T50 x1 x5).f2)).bind fun t445 => (if t445 = true then (laws_eqProtestS.l0 k x0 x1 (wrap64 (x5 + 1))) else (some false))) else (none)) else (none)) else (some true)
def laws_eqProtestS.f (k : Nat) (l0 : List (S50)) (l1 : List (S50)) : Option (Bool) := if (l0.length : Int) = (l1.length : Int) then (laws_eqProtestS.l0 k l0 l1 0) else (some false)
def laws_eqProtestS.T6 : Bool × List (List Nat × List Nat) := (true, [([], []), ([], []), ([0, 1], [0, 1]), ([2], [2]), ([], []), ([], []), ([4, 5], [4, 5]), ([6], [6]), ([3, 7], [3, 7]), ([8], [8])])
def laws_eqProtestS.B6 : List Nat := [0, 0, 3, 7, 0, 0, 48, 112, 255, 511]
def laws_markProtestS.l0 : Nat → List (S50) → Int → Int → Option (Int × (List (S50)))
 | 0, _, _, _ => none
 | k + 1, x0, x1, x5 => if x5 < (x0.length : Int) then (if 0 ≤ x5 then ((some (x0.set (x5 : Int).toNat (⟨x1, (rd_T50 x0 x5).f1, (rd_T50 x0 x5).f2⟩ : S50) : List (S50))).bind fun y473 => ((some (y473.set (x5 : Int).toNat (⟨(rd_T50 y473 x5).f0, wrap64 (x1 + 1), (rd_T50 y473 x5).f2⟩ : S50) : List (S50))).bind fun y474 => (laws_markProtestS.l0 k (y474.set (x5 : Int).toNat (⟨(rd_T50 y474 x5).f0, (rd_T50 y474 x5).f1, ((Int.tmod (wrap64 ((wrap64 (x1 + 1)) + 1)) 3) == 0)⟩ : S50)) (wrap64 ((wrap64 ((wrap64 (x1 + 1)) + 1)) + 1)) (wrap64 (x5 + 1))))) else (none)) else (some (x1, x0))
def laws_markProtestS.f (k : Nat) (l0 : List (S50)) (a1 : Int) : Option (Int × (List (S50))) := laws_markProtestS.l0 k l0 a1 0
def laws_szProtestS.f (l0 : List (S48)) (a1 : Int) : Option (Int) := if (wrap64 (a1 - (l0.length : Int))) < 0 then (some (-1)) else (some (wrap64 (a1 - (l0.length : Int))))
end Go.Proofs.Ythfefanapneocaa.Q
namespace Go.Proofs.Ythfefanapneocaa.Q
open Go.RowKit Go.Proofs.YthfefanapneocaaW.PrintWords Go.Proofs.YthfefanapneocaaW.PrintLast Go.Proofs.YthfefanapneocaaW.PrintMore
theorem l01In_eq (a lo hi : Int) : spec_l01In.f a lo hi = some (withinB a lo hi) := by
  unfold spec_l01In.f withinB
  by_cases h : lo ≤ a <;> simp [h]
theorem sIsName_ev (s : ByteArray) (hs : s.size ≤ 4611686018427387903) : Ev (fun k => spec_IsName.f k s) (isNameB s) := by
  refine Ev.eq (Ev.down s.size (fun i k => spec_IsName.l0 k s (i : Int)) (fun i => nameFrom s i && withinB s.size 1 8) ?_ ?_) rfl
  · refine Ev.step (f := fun _ => some (withinB s.size 1 8)) (fun k => by rw [spec_IsName.l0, if_neg (by omega), l01In_eq]; rfl) (Ev.eq (Ev.now _) ?_)
    rw [nameFrom_end s _ (Nat.le_refl _)]
    rfl
  · intro i hi h
    have hw := wrap_succ i (by omega)
    cases hn : nameAt i (bt s i) with
    | true =>
      refine Ev.eq (Ev.step (fun k => ?_) h) (by simp only [nameFrom_step s i hi, hn, Bool.true_and])
      rw [spec_IsName.l0, if_pos (by omega), if_pos (by omega), hw]
      unfold nameAt at hn
      generalize bt s i = c at hn
      grind
    | false =>
      refine Ev.eq (Ev.step (f := fun _ => some false) (fun k => ?_) (Ev.now _)) (by simp only [nameFrom_step s i hi, hn, Bool.false_and])
      rw [spec_IsName.l0, if_pos (by omega), if_pos (by omega), hw]
      unfold nameAt at hn
      generalize bt s i = c at hn
      grind
theorem sTeamOk_ev (t : Team) (hs : t.f0.size ≤ 4611686018427387903) : Ev (fun k => spec_TeamOk.f k t.f0 t.f1 t.f2) (teamOkB t) := by
  unfold spec_TeamOk.f teamOkB
  refine Ev.bind (sIsName_ev _ hs) (Ev.val fun k => ?_)
  simp only [l01In_eq, Option.bind_some]
  cases isNameB t.f0 <;> cases withinB t.f1 0 5 <;> simp
theorem rdTm_eq (l : List Team) (i : Nat) (h : i < l.length) : rd_T139 l (i : Int) = l[i] := by
  unfold rd_T139; simp [h]
theorem sFieldOk_ev (l : List Team) (h : ∀ t, t ∈ l → t.f0.size ≤ 4611686018427387903) : Ev (fun k => spec_FieldOk.f k l) (fieldOkB l) := by
  unfold spec_FieldOk.f fieldOkB
  simp only [l01In_eq, Option.bind_some]
  cases hw : withinB (l.length : Int) 2 8 with
  | false => exact Ev.eq (Ev.val fun k => by rw [if_neg (by decide)]) (by simp)
  | true =>
    have hl : l.length ≤ 8 := by simp [withinB] at hw; omega
    refine Ev.congr (fun k => by rw [if_pos rfl]) ?_
    rw [Bool.and_true]
    refine Ev.eq (Ev.down l.length (fun i k => spec_FieldOk.l0 k l l (l.length : Int) (i : Int)) (fun i => fieldFrom (l.take i) (l.drop i)) ?_ ?_) rfl
    · exact Ev.step (f := fun _ => some true) (fun k => by rw [spec_FieldOk.l0, if_neg (by omega)]) (Ev.eq (Ev.now _) (by rw [List.drop_length]; rfl))
    · intro i hi hn
      rw [List.drop_eq_getElem_cons hi, fieldFrom]
      have ht := sTeamOk_ev l[i] (h _ (List.getElem_mem hi))
      refine Ev.step (f := fun k => (spec_TeamOk.f k l[i].f0 l[i].f1 l[i].f2).bind fun t130 => (if t130 = true then (spec_FieldOk.l1 k l l (l.length : Int) (i : Int) (l.take i) ((l.take i).length : Int) 0 l[i].f0 l[i].f1 l[i].f2) else (some false))) (fun k => ?_) (Ev.bind ht ?_)
      · rw [spec_FieldOk.l0, if_pos (by omega), if_pos (by omega), if_pos (by omega), rdTm_eq l i hi]
        have hc : (i : Int) ≤ (l.length : Int) := by omega
        simp only [if_pos hc, Option.bind_some, Int.toNat_natCast]
      · cases hk : teamOkB l[i] with
        | false => exact Ev.eq (Ev.val fun k => by rw [if_neg (by decide)]) (by simp)
        | true =>
          refine Ev.congr (fun k => by rw [if_pos rfl]) ?_
          rw [List.take_succ_eq_append_getElem hi] at hn
          generalize hp : l.take i = pre at hn
          have hpl : pre.length = i := by rw [← hp, List.length_take]; omega
          rw [Bool.true_and]
          refine Ev.eq (Ev.down pre.length (fun j k => spec_FieldOk.l1 k l l (l.length : Int) (i : Int) pre (pre.length : Int) (j : Int) l[i].f0 l[i].f1 l[i].f2) (fun j => !(pre.drop j).any (teamClash l[i]) && fieldFrom (pre ++ [l[i]]) (l.drop (i + 1))) ?_ ?_) rfl
          · refine Ev.eq (Ev.step (fun k => by rw [spec_FieldOk.l1, if_neg (by omega), wrap_succ i (by omega)]) hn) (by rw [List.drop_length]; simp)
          · intro j hj hnj
            rw [List.drop_eq_getElem_cons hj, List.any_cons]
            by_cases h1 : pre[j].f0.toList = l[i].f0.toList
            · refine Ev.eq (Ev.step (f := fun _ => some false) (fun k => by rw [spec_FieldOk.l1, if_pos (by omega), if_pos (by omega), if_pos (by omega), rdTm_eq pre j hj, if_pos h1]) (Ev.now _)) (by simp [teamClash, h1])
            · by_cases h2 : pre[j].f2 = l[i].f2
              · refine Ev.eq (Ev.step (f := fun _ => some false) (fun k => by rw [spec_FieldOk.l1, if_pos (by omega), if_pos (by omega), if_pos (by omega), rdTm_eq pre j hj, if_neg h1, if_pos h2]) (Ev.now _)) (by simp [teamClash, h2])
              · refine Ev.eq (Ev.step (fun k => by rw [spec_FieldOk.l1, if_pos (by omega), if_pos (by omega), if_pos (by omega), rdTm_eq pre j hj, if_neg h1, if_neg h2, wrap_succ j (by omega)]) hnj) (by rw [show teamClash l[i] pre[j] = false by unfold teamClash; rw [beq_eq_false_iff_ne.mpr h1, beq_eq_false_iff_ne.mpr h2]; rfl, Bool.false_or])
theorem sHas_ev (l : List Int) (x : Int) (hl : l.length ≤ 1048576) : Ev (fun k => spec_l02Has.f k l x) (hasI l x) := by
  refine Ev.eq (Ev.down l.length (fun i k => spec_l02Has.l0 k x l (l.length : Int) (i : Int)) (fun i => hasI (l.drop i) x) ?_ ?_) rfl
  · exact Ev.step (f := fun _ => some false) (fun k => by rw [spec_l02Has.l0, if_neg (by omega)]) (Ev.eq (Ev.now _) (by rw [List.drop_length]; rfl))
  · intro i hi hn
    rw [List.drop_eq_getElem_cons hi]
    by_cases h : l[i] = x
    · exact Ev.eq (Ev.step (f := fun _ => some true) (fun k => by rw [spec_l02Has.l0, if_pos (by omega), if_pos (by omega), if_pos (by omega), rd_eq l i hi, if_pos h]) (Ev.now _)) (by simp [hasI, h])
    · exact Ev.eq (Ev.step (fun k => by rw [spec_l02Has.l0, if_pos (by omega), if_pos (by omega), if_pos (by omega), rd_eq l i hi, if_neg h, wrap_succ i (by omega)]) hn) (by simp only [hasI, List.any_cons, decide_eq_false (show ¬ x = l[i] from fun e => h e.symm), Bool.false_or])
theorem sRulesOk_ev (win draw loss : Int) (l : List Int) (again : Bool) : Ev (fun k => spec_RulesOk.f k win draw loss l again) (rulesOkB win draw loss l) := by
  unfold spec_RulesOk.f rulesOkB
  simp only [l01In_eq, Option.bind_some]
  have fals : ∀ q, q = false → Ev (fun k => spec_RulesOk.j0 k true win draw loss l again) q := fun q hq => Ev.step (f := fun _ => some false) (fun k => by rw [spec_RulesOk.j0, if_pos rfl]) (Ev.eq (Ev.now _) hq.symm)
  by_cases h1 : withinB win 0 10 = true
  · by_cases h2 : withinB draw 0 win = true
    · by_cases h3 : withinB loss 0 draw = true
      · by_cases h4 : withinB l.length 1 8 = true
        · refine Ev.congr (fun k => by rw [if_pos h1, if_pos h2, if_pos h3, h4]) ?_
          have hl : l.length ≤ 8 := by simp [withinB] at h4; omega
          have hr : (ladderFrom [] l && decide (0 ≤ loss) && decide (loss ≤ draw) && decide (draw ≤ win) && decide (win ≤ 10) && true) = ladderFrom [] l := by
            simp [withinB] at h1 h2 h3
            simp [h1, h2, h3]
          rw [h4, hr]
          refine Ev.step (f := fun k => spec_RulesOk.l0 k l (l.length : Int) 0 win draw loss l again) (fun k => by rw [spec_RulesOk.j0, if_neg (by decide)]) ?_
          refine Ev.eq (Ev.down l.length (fun i k => spec_RulesOk.l0 k l (l.length : Int) (i : Int) win draw loss l again) (fun i => ladderFrom (l.take i) (l.drop i)) ?_ ?_) rfl
          · exact Ev.step (f := fun _ => some true) (fun k => by rw [spec_RulesOk.l0, if_neg (by omega)]) (Ev.eq (Ev.now _) (by rw [List.drop_length]; rfl))
          · intro i hi hn
            rw [List.drop_eq_getElem_cons hi, ladderFrom]
            rw [List.take_succ_eq_append_getElem hi] at hn
            cases hk : withinB l[i] 1 8 with
            | false => exact Ev.eq (Ev.step (f := fun _ => some false) (fun k => by rw [spec_RulesOk.l0, if_pos (by omega), if_pos (by omega), if_pos (by omega), rd_eq l i hi, l01In_eq, hk, Option.bind_some, if_neg (by decide)]) (Ev.now _)) (by simp)
            | true =>
              refine Ev.step (f := fun k => (spec_l02Has.f k (l.take i) l[i]).bind fun t => if t = true then some false else spec_RulesOk.l0 k l (l.length : Int) ((i + 1 : Nat) : Int) win draw loss l again) (fun k => by rw [spec_RulesOk.l0, if_pos (by omega), if_pos (by omega), if_pos (by omega), rd_eq l i hi, l01In_eq, hk, Option.bind_some, if_pos rfl, if_pos (by omega), wrap_succ i (by omega), Int.toNat_natCast]) ?_
              refine Ev.bind (sHas_ev _ _ (by rw [List.length_take]; omega)) ?_
              cases hh : hasI (l.take i) l[i] with
              | true => exact Ev.eq (Ev.val fun k => by rw [if_pos rfl]) (by simp)
              | false => exact Ev.eq (Ev.congr (fun k => by rw [if_neg (by decide)]) hn) (by simp)
        · refine Ev.congr (fun k => by rw [if_pos h1, if_pos h2, if_pos h3]) ?_
          simp only [Bool.not_eq_true] at h4
          rw [h4]
          exact fals _ (by simp)
      · refine Ev.congr (fun k => by rw [if_pos h1, if_pos h2, if_neg h3]) (fals _ ?_)
        simp [withinB] at h3
        by_cases h5 : 0 ≤ loss
        · simp [show ¬ loss ≤ draw by omega]
        · simp [h5]
    · refine Ev.congr (fun k => by rw [if_pos h1, if_neg h2]) (fals _ ?_)
      simp [withinB] at h2
      by_cases h5 : 0 ≤ draw
      · simp [show ¬ draw ≤ win by omega]
      · by_cases h6 : 0 ≤ loss
        · simp [show ¬ loss ≤ draw by omega]
        · simp [h6]
  · refine Ev.congr (fun k => by rw [if_neg h1]) (fals _ ?_)
    simp [withinB] at h1
    by_cases h5 : win ≤ 10
    · by_cases h6 : 0 ≤ loss
      · by_cases h7 : loss ≤ draw
        · simp [show ¬ draw ≤ win by omega]
        · simp [h7]
      · simp [h6]
    · simp [h5]
theorem sGameOk_ev (n : Int) (g : Game) : Ev (fun k => spec_GameOk.f k n g.f0 g.f1 g.f2 g.f3 g.f4) (gameOkB n g) := by
  unfold spec_GameOk.f gameOkB
  simp only [l01In_eq, Option.bind_some]
  have fals : ∀ q, q = false → Ev (fun k => spec_GameOk.j0 k true g.f0 g.f1 g.f2 g.f3 g.f4) q := fun q hq => Ev.step (f := fun _ => some false) (fun k => by rw [spec_GameOk.j0, if_pos rfl]) (Ev.eq (Ev.now _) hq.symm)
  by_cases h1 : withinB n 2 8 = true
  · have hw : wrap64 (n - 1) = n - 1 := by
      simp [withinB] at h1
      unfold wrap64; omega
    rw [hw, h1]
    by_cases h2 : withinB g.f0 0 (n - 1) = true
    · by_cases h3 : withinB g.f1 0 (n - 1) = true
      · by_cases h4 : g.f0 = g.f1
        · exact Ev.congr (fun k => by rw [if_pos rfl, if_pos h2, if_pos h3, if_pos h4]) (fals _ (by simp [h4]))
        · by_cases h5 : withinB g.f4 0 4 = true
          · refine Ev.congr (fun k => by rw [if_pos rfl, if_pos h2, if_pos h3, if_neg h4, h5]) ?_
            rw [h2, h3, h5, decide_eq_false h4]
            by_cases h6 : g.f4 = 1
            · refine Ev.step (f := fun _ => some (withinB g.f2 0 99 && withinB g.f3 0 99)) (fun k => ?_) (Ev.eq (Ev.now _) (by simp [h6]))
              rw [spec_GameOk.j0, if_neg (by decide), if_pos h6]
              simp only [l01In_eq, Option.bind_some]
              cases withinB g.f2 0 99 <;> simp
            · refine Ev.step (f := fun _ => some (decide (g.f2 = 0) && decide (g.f3 = 0))) (fun k => ?_) (Ev.eq (Ev.now _) ?_)
              · rw [spec_GameOk.j0, if_neg (by decide), if_neg h6]
                by_cases h7 : g.f2 = 0
                · rw [if_pos h7]; simp [h7]; grind
                · rw [if_neg h7]; simp [h7]
              · rw [if_neg h6]
                unfold withinB
                grind
          · refine Ev.congr (fun k => by rw [if_pos rfl, if_pos h2, if_pos h3, if_neg h4]) ?_
            simp only [Bool.not_eq_true] at h5
            rw [h5]
            exact fals _ (by simp)
      · exact Ev.congr (fun k => by rw [if_pos rfl, if_pos h2, if_neg h3]) (fals _ (by simp [Bool.not_eq_true _ ▸ h3]))
    · exact Ev.congr (fun k => by rw [if_pos rfl, if_neg h2]) (fals _ (by simp [Bool.not_eq_true _ ▸ h2]))
  · exact Ev.congr (fun k => by rw [if_neg h1]) (fals _ (by simp [Bool.not_eq_true _ ▸ h1]))
theorem sGameOf_ev (l : List Game) (h a : Int) (hl : l.length ≤ 1048576) : Ev (fun k => spec_GameOf.f k l h a) (idxI (gameIs h a) l) := by
  have hp : ∀ x : Int, x = -1 → ∀ y, (if y < 0 then (-1 : Int) else y) = (if y < 0 then -1 else y) := fun _ _ _ => rfl
  refine Ev.eq (Ev.down l.length (fun i k => spec_GameOf.l0 k h a l (l.length : Int) (i : Int)) (fun i => if idxI (gameIs h a) (l.drop i) < 0 then -1 else idxI (gameIs h a) (l.drop i) + i) ?_ ?_) ?_
  · exact Ev.step (f := fun _ => some (-1)) (fun k => by rw [spec_GameOf.l0, if_neg (by omega)]) (Ev.eq (Ev.now _) (by rw [List.drop_length]; rfl))
  · intro i hi hn
    rw [List.drop_eq_getElem_cons hi, idxI]
    by_cases h1 : l[i].f0 = h
    · by_cases h2 : l[i].f1 = a
      · exact Ev.eq (Ev.step (f := fun _ => some (i : Int)) (fun k => by rw [spec_GameOf.l0, if_pos (by omega), if_pos (by omega), if_pos (by omega), rdG_eq l i hi, if_pos h1, if_pos h2]) (Ev.now _)) (by simp [gameIs, h1, h2])
      · refine Ev.eq (Ev.step (fun k => by rw [spec_GameOf.l0, if_pos (by omega), if_pos (by omega), if_pos (by omega), rdG_eq l i hi, if_pos h1, if_neg h2, wrap_succ i (by omega)]) hn) ?_
        simp only [gameIs, h1, beq_self_eq_true, beq_eq_false_iff_ne.mpr h2, Bool.true_and, Bool.false_eq_true, if_false]
        generalize idxI (gameIs h a) (l.drop (i + 1)) = y
        grind
    · refine Ev.eq (Ev.step (fun k => by rw [spec_GameOf.l0, if_pos (by omega), if_pos (by omega), if_pos (by omega), rdG_eq l i hi, if_neg h1, wrap_succ i (by omega)]) hn) ?_
      have hg : gameIs h a l[i] = false := by simp [gameIs, h1]
      rw [hg]
      generalize idxI (gameIs h a) (l.drop (i + 1)) = y
      grind
  · show (if idxI (gameIs h a) l < 0 then (-1 : Int) else idxI (gameIs h a) l + ((0 : Nat) : Int)) = _
    have : ∀ l : List Game, idxI (gameIs h a) l = -1 ∨ 0 ≤ idxI (gameIs h a) l := by
      intro l
      induction l with
      | nil => exact .inl rfl
      | cons y l ih => simp only [idxI]; grind
    rcases this l with h3 | h3
    · rw [h3]; rfl
    · rw [if_neg (by omega)]; omega
theorem idx_first {α : Type} (p : α → Bool) (l : List α) (i : Nat) (hi : i < l.length) (h : p l[i] = true) : decide (idxI p l = (i : Int)) = !(l.take i).any p := by
  induction l generalizing i with
  | nil => simp at hi
  | cons x l ih =>
    cases i with
    | zero => simp only [List.getElem_cons_zero] at h; simp [idxI, h]
    | succ i =>
      simp only [List.getElem_cons_succ] at h
      have := ih i (by simpa using hi) h
      simp only [List.take_succ_cons, List.any_cons]
      by_cases hx : p x = true
      · have e1 : idxI p (x :: l) = 0 := by simp only [idxI, hx, if_true]
        rw [hx, Bool.true_or, e1]
        exact decide_eq_false (by omega)
      · simp only [Bool.not_eq_true] at hx
        have h2 : 0 ≤ idxI p l := by
          have := idxI_any p l
          have h3 : l.any p = true := List.any_eq_true.mpr ⟨l[i]'(by simpa using hi), List.getElem_mem _, h⟩
          rw [h3] at this
          simpa using this
        have e : (if p x = true then 0 else if idxI p l < 0 then -1 else idxI p l + 1) = idxI p l + 1 := by
          rw [if_neg (by rw [hx]; decide), if_neg (by omega)]
        have e2 : decide (idxI p l + 1 = ((i + 1 : Nat) : Int)) = decide (idxI p l = (i : Int)) := decide_eq_decide.mpr (by omega)
        have e3 : decide (idxI p (x :: l) = ((i + 1 : Nat) : Int)) = decide (idxI p l + 1 = ((i + 1 : Nat) : Int)) := decide_eq_decide.mpr (by rw [show idxI p (x :: l) = idxI p l + 1 from e])
        rw [hx, Bool.false_or, ← this, ← e2]
        exact e3
theorem sSeasonOk_ev (n : Int) (l : List Game) : Ev (fun k => spec_SeasonOk.f k n l) (seasonOkB n l) := by
  unfold spec_SeasonOk.f seasonOkB
  by_cases hl : (l.length : Int) > 60
  · exact Ev.eq (Ev.val fun k => by rw [if_pos hl]) (by simp; intro _; omega)
  · refine Ev.congr (fun k => by rw [if_neg hl]) ?_
    rw [decide_eq_true (show (l.length : Int) ≤ 60 by omega), Bool.and_true]
    refine Ev.eq (Ev.down l.length (fun i k => spec_SeasonOk.l0 k n l l (l.length : Int) (i : Int)) (fun i => seasonFrom n (l.take i) (l.drop i)) ?_ ?_) rfl
    · exact Ev.step (f := fun _ => some true) (fun k => by rw [spec_SeasonOk.l0, if_neg (by omega)]) (Ev.eq (Ev.now _) (by rw [List.drop_length]; rfl))
    · intro i hi hn
      rw [List.drop_eq_getElem_cons hi, seasonFrom]
      rw [List.take_succ_eq_append_getElem hi] at hn
      refine Ev.step (f := fun k => (spec_GameOk.f k n l[i].f0 l[i].f1 l[i].f2 l[i].f3 l[i].f4).bind fun t158 => (if t158 = true then ((spec_GameOf.f k l l[i].f0 l[i].f1).bind fun t159 => (if t159 = (i : Int) then (spec_SeasonOk.l0 k n l l (l.length : Int) ((i + 1 : Nat) : Int)) else (some false))) else (some false))) (fun k => by rw [spec_SeasonOk.l0, if_pos (by omega), if_pos (by omega), if_pos (by omega), rdG_eq l i hi, wrap_succ i (by omega)]) ?_
      refine Ev.bind (sGameOk_ev n l[i]) ?_
      cases hg : gameOkB n l[i] with
      | false => exact Ev.eq (Ev.val fun k => by rw [if_neg (by decide)]) (by simp)
      | true =>
        refine Ev.congr (fun k => by rw [if_pos rfl]) (Ev.bind (sGameOf_ev l _ _ (by omega)) ?_)
        have hf := idx_first (gameIs l[i].f0 l[i].f1) l i hi (by simp [gameIs])
        by_cases he : idxI (gameIs l[i].f0 l[i].f1) l = (i : Int)
        · rw [decide_eq_true he] at hf
          exact Ev.eq (Ev.congr (fun k => by rw [if_pos he]) hn) (by rw [← hf]; simp)
        · rw [decide_eq_false he] at hf
          exact Ev.eq (Ev.val fun k => by rw [if_neg he]) (by rw [← hf]; simp)
theorem sBookOk_ev (field : List Team) (win draw loss : Int) (ladder : List Int) (again : Bool) (games : List Game) (fair taken : List Int) (hs : ∀ t, t ∈ field → t.f0.size ≤ 4611686018427387903) :
    Ev (fun k => spec_BookOk.f k field win draw loss ladder again games fair taken) (bookOkB field win draw loss ladder games fair taken) := by
  unfold spec_BookOk.f bookOkB
  have fals : ∀ q, q = false → Ev (fun k => spec_BookOk.j0 k true field win draw loss ladder again games fair taken) q := fun q hq => Ev.step (f := fun _ => some false) (fun k => by rw [spec_BookOk.j0, if_pos rfl]) (Ev.eq (Ev.now _) hq.symm)
  refine Ev.bind (sFieldOk_ev field hs) ?_
  cases h1 : fieldOkB field with
  | false => exact Ev.congr (fun k => by rw [if_neg (by decide)]) (fals _ (by simp))
  | true =>
    have hfl : field.length ≤ 8 := by
      unfold fieldOkB at h1
      simp [withinB] at h1
      omega
    refine Ev.congr (fun k => by rw [if_pos rfl]) (Ev.bind (sRulesOk_ev _ _ _ _ _) ?_)
    cases h2 : rulesOkB win draw loss ladder with
    | false => exact Ev.congr (fun k => by rw [if_neg (by decide)]) (fals _ (by simp))
    | true =>
      refine Ev.congr (fun k => by rw [if_pos rfl]) (Ev.bind (sSeasonOk_ev _ _) ?_)
      cases h3 : seasonOkB field.length games with
      | false => exact Ev.congr (fun k => by rw [if_neg (by decide)]) (fals _ (by simp))
      | true =>
        by_cases h4 : (fair.length : Int) = (field.length : Int)
        · by_cases h5 : (taken.length : Int) = (field.length : Int)
          · refine Ev.congr (f := fun k => spec_BookOk.j0 k false field win draw loss ladder again games fair taken) (fun k => by rw [if_pos rfl, if_pos h4, show ((taken.length : Int) != (field.length : Int)) = false by simp; omega]) ?_
            refine Ev.step (f := fun k => spec_BookOk.l0 k (field.length : Int) 0 field win draw loss ladder again games fair taken) (fun k => by rw [spec_BookOk.j0, if_neg (by decide)]) ?_
            refine Ev.eq (Ev.down field.length (fun i k => spec_BookOk.l0 k (field.length : Int) (i : Int) field win draw loss ladder again games fair taken) (fun i => !(fair.drop i).any (fun x => !withinB x 0 1000) && !(taken.drop i).any (fun x => !withinB x 0 1000)) ?_ ?_) ?_
            · exact Ev.step (f := fun _ => some true) (fun k => by rw [spec_BookOk.l0, if_neg (by omega)]) (Ev.eq (Ev.now _) (by rw [List.drop_eq_nil_of_le (by omega), List.drop_eq_nil_of_le (by omega)]; rfl))
            · intro i hi hn
              rw [List.drop_eq_getElem_cons (show i < fair.length by omega), List.drop_eq_getElem_cons (show i < taken.length by omega)]
              cases ha : withinB fair[i] 0 1000 with
              | false => exact Ev.eq (Ev.step (f := fun _ => some false) (fun k => by rw [spec_BookOk.l0, if_pos (by omega), if_pos (by omega), if_pos (by omega), rd_eq fair i (by omega), l01In_eq, ha, Option.bind_some, if_neg (by decide)]) (Ev.now _)) (by rw [List.any_cons, List.any_cons, ha]; rfl)
              | true =>
                cases hb : withinB taken[i] 0 1000 with
                | false => exact Ev.eq (Ev.step (f := fun _ => some false) (fun k => by rw [spec_BookOk.l0, if_pos (by omega), if_pos (by omega), if_pos (by omega), rd_eq fair i (by omega), l01In_eq, ha, Option.bind_some, if_pos rfl, if_pos (by omega), rd_eq taken i (by omega), l01In_eq, hb, Option.bind_some, if_neg (by decide)]) (Ev.now _)) (by rw [List.any_cons, List.any_cons, ha, hb]; exact Bool.and_false _ |>.symm)
                | true => exact Ev.eq (Ev.step (fun k => by rw [spec_BookOk.l0, if_pos (by omega), if_pos (by omega), if_pos (by omega), rd_eq fair i (by omega), l01In_eq, ha, Option.bind_some, if_pos rfl, if_pos (by omega), rd_eq taken i (by omega), l01In_eq, hb, Option.bind_some, if_pos rfl, wrap_succ i (by omega)]) hn) (by rw [List.any_cons, List.any_cons, ha, hb]; exact (by simp))
            · simp [penaltiesB, h4, h5]
          · refine Ev.congr (f := fun k => spec_BookOk.j0 k true field win draw loss ladder again games fair taken) (fun k => by rw [if_pos rfl, if_pos h4, show ((taken.length : Int) != (field.length : Int)) = true by simp; omega]) (fals _ (by simp [penaltiesB, h5]))
        · exact Ev.congr (fun k => by rw [if_pos rfl, if_neg h4]) (fals _ (by simp [penaltiesB, h4]))
end Go.Proofs.Ythfefanapneocaa.Q
namespace Go.Proofs.Ythfefanapneocaa.Q
open Go.RowKit Go.Proofs.YthfefanapneocaaW.PrintWords Go.Proofs.YthfefanapneocaaW.PrintLast Go.Proofs.YthfefanapneocaaW.PrintMore
section
variable (F : List Team) (w d s : Int) (L : List Int) (ag : Bool) (fa ta : List Int)
theorem iCopied_eq (G : List Game) (h1 : F.length ≤ 1048576) (h2 : L.length ≤ 1048576) (h3 : G.length ≤ 1048576) (h4 : fa.length ≤ 1048576) (h5 : ta.length ≤ 1048576) : impl_Book_copied.f F w d s L ag G fa ta = some (F, w, d, s, L, ag, G, fa, ta) := by
  unfold impl_Book_copied.f slices_Clone_impl_Team_impl_Team.f slices_Clone_impl_Game_impl_Game.f slices_Clone_int_int.f
  simp only [Option.bind_some, List.length_nil, List.nil_append]
  rw [if_pos (by omega), Option.bind_some, if_pos (by omega), Option.bind_some, if_pos (by omega), Option.bind_some, if_pos (by omega), Option.bind_some, if_pos (by omega), Option.bind_some]
theorem sCopy_eq (G : List Game) (h1 : F.length ≤ 1048576) (h2 : L.length ≤ 1048576) (h3 : G.length ≤ 1048576) (h4 : fa.length ≤ 1048576) (h5 : ta.length ≤ 1048576) : spec_l16Copy.f F w d s L ag G fa ta = some (F, w, d, s, L, ag, G, fa, ta) := by
  unfold spec_l16Copy.f
  simp only [Option.bind_some, List.length_nil, List.nil_append]
  rw [if_pos (by omega), if_pos (by omega), if_pos (by omega), if_pos (by omega), if_pos (by omega)]
end
end Go.Proofs.Ythfefanapneocaa.Q
namespace Go.Proofs.Ythfefanapneocaa.Q
open Go.RowKit Go.Proofs.YthfefanapneocaaW.PrintWords Go.Proofs.YthfefanapneocaaW.PrintLast Go.Proofs.YthfefanapneocaaW.PrintMore
theorem seasonFrom_mem (n : Int) (l : List Game) : ∀ pre, seasonFrom n pre l = true → ∀ g ∈ l, gameOkB n g = true := by
  induction l with
  | nil => intro _ _ g hg; cases hg
  | cons x l ih =>
    intro pre h g hg
    rw [seasonFrom, Bool.and_eq_true, Bool.and_eq_true] at h
    rcases List.mem_cons.mp hg with rfl | hg
    · exact h.1.1
    · exact ih _ h.2 g hg
theorem gameOk_ne {n : Int} {g : Game} (h : gameOkB n g = true) : g.f0 ≠ g.f1 := by
  unfold gameOkB at h
  simp only [Bool.and_eq_true, Bool.not_eq_true', decide_eq_false_iff_not] at h
  exact h.1.1.1.1.1.2
def award (g : Game) (team : Int) : Game := ⟨g.f0, g.f1, 0, 0, if g.f0 = team then 2 else 3⟩
theorem sAward_eq (g : Game) (t : Int) : spec_l21Award.f g.f0 g.f1 g.f2 g.f3 g.f4 t = some ((award g t).f0, (award g t).f1, (award g t).f2, (award g t).f3, (award g t).f4) := by
  unfold spec_l21Award.f award
  split <;> rfl
theorem iAward_eq (g : Game) (t : Int) (hn : g.f0 ≠ g.f1) (ht : g.f0 = t ∨ g.f1 = t) : impl_awarded.f g.f0 g.f1 g.f2 g.f3 g.f4 t = some ((award g t).f0, (award g t).f1, (award g t).f2, (award g t).f3, (award g t).f4) := by
  unfold impl_awarded.f award
  by_cases h : g.f1 = t
  · rw [if_pos h, if_neg (show ¬ g.f0 = t by rw [← h]; exact hn)]
  · rw [if_neg h, if_pos (ht.resolve_right h)]
abbrev Prot := S50
theorem rdP_eq (l : List Prot) (i : Nat) (h : i < l.length) : rd_T50 l (i : Int) = l[i] := by
  unfold rd_T50; simp [h]
def protOkB (G : List Game) (p : Prot) : Bool := withinB p.f1 0 ((G.length : Int) - 1) && (withinB (G.getD p.f1.toNat z95).f4 1 3 && (decide ((G.getD p.f1.toNat z95).f0 = p.f0) || decide ((G.getD p.f1.toNat z95).f1 = p.f0)))
def decideL (G0 : List Game) : List Prot → List Game → Option (List Game)
  | [], G => some G
  | p :: ps, G => if protOkB G0 p then decideL G0 ps (G.set p.f1.toNat (if p.f2 then award (G0.getD p.f1.toNat z95) p.f0 else G0.getD p.f1.toNat z95)) else none
theorem decideL_len (G0 : List Game) (ps : List Prot) : ∀ G G2, decideL G0 ps G = some G2 → G2.length = G.length := by
  induction ps with
  | nil => intro G G2 h; rw [decideL] at h; injection h with h; rw [h]
  | cons p ps ih =>
    intro G G2 h
    rw [decideL] at h
    split at h
    · rw [ih _ _ h, List.length_set]
    · cases h
section
variable (F : List Team) (w d s : Int) (L : List Int) (ag : Bool) (fa ta : List Int) (G0 : List Game)
theorem sProtOk_ev (hn : ∀ t ∈ F, t.f0.size ≤ 1048576) (hg : G0.length ≤ 1048576) (p : Prot) : Ev (fun k => spec_ProtestOk.f k F w d s L ag G0 fa ta p.f0 p.f1 p.f2) (bookOkB F w d s L G0 fa ta && protOkB G0 p) := by
  unfold spec_ProtestOk.f protOkB
  refine Ev.bind (sBookOk_ev F w d s L ag G0 fa ta (fun t ht => Nat.le_trans (hn t ht) (by decide))) ?_
  cases bookOkB F w d s L G0 fa ta with
  | false => exact Ev.val fun k => by rw [if_neg (by decide)]; rfl
  | true =>
    refine Ev.val fun k => ?_
    rw [if_pos rfl, l01In_eq, Option.bind_some, wrap_id _ (by omega) (by omega), Bool.true_and]
    cases hw : withinB p.f1 0 ((G0.length : Int) - 1) with
    | false => rw [if_neg (by decide)]; rfl
    | true =>
      have hb : 0 ≤ p.f1 ∧ p.f1 < (G0.length : Int) := by simp [withinB] at hw; omega
      obtain ⟨j, hj⟩ := Int.eq_ofNat_of_zero_le hb.1
      have hjl : j < G0.length := by omega
      rw [if_pos rfl, if_pos hb.1, if_pos hb.2, hj, rdG_eq G0 j hjl, Int.toNat_natCast, List.getD_eq_getElem?_getD, List.getElem?_eq_getElem hjl, Option.getD_some, Bool.true_and]
      generalize G0[j] = g
      have hq : (if g.f0 = p.f0 then some true else some (g.f1 == p.f0)) = some (decide (g.f0 = p.f0) || decide (g.f1 = p.f0)) := by
        by_cases h0 : g.f0 = p.f0
        · rw [if_pos h0, decide_eq_true h0]; rfl
        · rw [if_neg h0, decide_eq_false h0, Bool.false_or]; rfl
      rw [hq]
      by_cases h1 : g.f4 = 1
      · rw [if_pos h1, h1]; rfl
      · by_cases h2 : g.f4 = 2
        · rw [if_neg h1, if_pos h2, h2]; rfl
        · by_cases h3 : g.f4 = 3
          · rw [if_neg h1, if_neg h2, if_pos h3, h3]; rfl
          · have hw4 : withinB g.f4 1 3 = false := by
              unfold withinB
              by_cases h4 : 1 ≤ g.f4
              · rw [decide_eq_false (show ¬ g.f4 ≤ 3 by omega), Bool.and_false]
              · rw [decide_eq_false h4, Bool.false_and]
            rw [if_neg h1, if_neg h2, if_neg h3, hw4]; rfl
theorem iProtOk_ev (hn : ∀ t ∈ F, t.f0.size ≤ 1048576) (hl : L.length ≤ 1048576) (hg : G0.length ≤ 1048576) (p : Prot) : Ev (fun k => impl_ProtestOk.f k F w d s L ag G0 fa ta p.f0 p.f1 p.f2) (bookOkB F w d s L G0 fa ta && protOkB G0 p) := by
  unfold impl_ProtestOk.f protOkB
  refine Ev.bind (Ev.from _ (bookOk_eq F w d s L ag G0 fa ta ⟨fun t ht => Nat.le_trans (hn t ht) (by decide), by omega, by omega⟩)) ?_
  cases bookOkB F w d s L G0 fa ta with
  | false => exact Ev.val fun k => by rw [if_neg (by decide)]; rfl
  | true =>
    refine Ev.val fun k => ?_
    rw [if_pos rfl, within_eq, Option.bind_some, wrap_id _ (by omega) (by omega), Bool.true_and]
    cases hw : withinB p.f1 0 ((G0.length : Int) - 1) with
    | false => rw [if_neg (by decide)]; rfl
    | true =>
      have hb : 0 ≤ p.f1 ∧ p.f1 < (G0.length : Int) := by simp [withinB] at hw; omega
      obtain ⟨j, hj⟩ := Int.eq_ofNat_of_zero_le hb.1
      have hjl : j < G0.length := by omega
      rw [if_pos rfl, if_pos hb.1, if_pos hb.2, hj, rdG_eq G0 j hjl, Int.toNat_natCast, List.getD_eq_getElem?_getD, List.getElem?_eq_getElem hjl, Option.getD_some, Bool.true_and, within_eq, Option.bind_some, impl_plays.f]
      generalize G0[j] = g
      cases withinB g.f4 1 3 with
      | false => rfl
      | true => grind
def decided (ps : List Prot) : List Team × Int × Int × Int × List Int × Bool × List Game × List Int × List Int × Bool :=
  match (if bookOkB F w d s L G0 fa ta && decide (ps.length ≤ 6) then decideL G0 ps G0 else none) with
  | some G => (F, w, d, s, L, ag, G, fa, ta, true)
  | none => ([], 0, 0, 0, [], false, [], [], [], false)
def resL (o : Option (List Game)) : List Team × Int × Int × Int × List Int × Bool × List Game × List Int × List Int × Bool :=
  match o with
  | some G => (F, w, d, s, L, ag, G, fa, ta, true)
  | none => ([], 0, 0, 0, [], false, [], [], [], false)
theorem protOkB_idx {p : Prot} (h : protOkB G0 p = true) : ∃ j : Nat, p.f1 = (j : Int) ∧ j < G0.length := by
  unfold protOkB at h
  simp [withinB] at h
  obtain ⟨j, hj⟩ := Int.eq_ofNat_of_zero_le h.1.1
  exact ⟨j, hj, by omega⟩
theorem protOkB_team {p : Prot} (h : protOkB G0 p = true) : (G0.getD p.f1.toNat z95).f0 = p.f0 ∨ (G0.getD p.f1.toNat z95).f1 = p.f0 := by
  unfold protOkB at h
  simp only [Bool.and_eq_true, Bool.or_eq_true, decide_eq_true_eq] at h
  exact h.2.2
theorem sDecide_loop (hn : ∀ t ∈ F, t.f0.size ≤ 1048576) (hg : G0.length ≤ 1048576) (hb : bookOkB F w d s L G0 fa ta = true) (ps : List Prot) (hp : ps.length ≤ 1048576) : ∀ (d0 i : Nat) (G : List Game), i + d0 = ps.length → G.length = G0.length →
    Ev (fun k => spec_Decide.l0 k ps (ps.length : Int) (i : Int) F w d s L ag G0 fa ta F w d s L ag G fa ta) (resL F w d s L ag fa ta (decideL G0 (ps.drop i) G)) := by
  intro d0
  induction d0 with
  | zero =>
    intro i G hi hG
    rw [List.drop_eq_nil_of_le (by omega), decideL]
    exact Ev.step (f := fun _ => some (F, w, d, s, L, ag, G, fa, ta, true)) (fun k => by rw [spec_Decide.l0, if_neg (by omega)]) (Ev.now _)
  | succ d0 ih =>
    intro i G hi hG
    have hlt : i < ps.length := by omega
    have hpo := sProtOk_ev F w d s L ag fa ta G0 hn hg ps[i]
    rw [hb, Bool.true_and] at hpo
    rw [List.drop_eq_getElem_cons hlt, decideL]
    cases ho : protOkB G0 ps[i] with
    | false =>
      rw [ho] at hpo
      rw [if_neg (by decide)]
      refine Ev.step (fun k => by rw [spec_Decide.l0, if_pos (by omega), if_pos (by omega), if_pos (by omega), rdP_eq ps i hlt]) (Ev.bind hpo ?_)
      exact Ev.val fun k => by rw [if_neg (by decide)]; rfl
    | true =>
      rw [ho] at hpo
      rw [if_pos rfl]
      obtain ⟨j, hj, hjl⟩ := protOkB_idx G0 ho
      have next := ih (i + 1) (G.set j (if ps[i].f2 then award G0[j] ps[i].f0 else G0[j])) (by omega) (by rw [List.length_set]; exact hG)
      have hgd : G0.getD ps[i].f1.toNat z95 = G0[j] := by rw [hj, Int.toNat_natCast, List.getD_eq_getElem?_getD, List.getElem?_eq_getElem hjl, Option.getD_some]
      rw [hgd, hj, Int.toNat_natCast]
      refine Ev.step (fun k => by rw [spec_Decide.l0, if_pos (by omega), if_pos (by omega), if_pos (by omega), rdP_eq ps i hlt]) (Ev.bind hpo ?_)
      refine Ev.congr (fun k => ?_) next
      rw [if_pos rfl, hj, if_pos (show (0 : Int) ≤ (j : Int) by omega), if_pos (show (j : Int) < (G0.length : Int) by omega), rdG_eq G0 j hjl, sAward_eq, Option.bind_some, if_pos (show (j : Int) < (G.length : Int) by omega), if_pos (show (0 : Int) ≤ (j : Int) by omega), if_pos (show (j : Int) < (G0.length : Int) by omega), if_pos (show (j : Int) < (G.length : Int) by omega), wrap_succ i (by omega), Int.toNat_natCast]
      cases ps[i].f2 <;> rfl
theorem iDecide_loop (hn : ∀ t ∈ F, t.f0.size ≤ 1048576) (hl : L.length ≤ 1048576) (hg : G0.length ≤ 1048576) (hb : bookOkB F w d s L G0 fa ta = true) (ps : List Prot) (hp : ps.length ≤ 1048576) : ∀ (d0 i : Nat) (G : List Game), i + d0 = ps.length → G.length = G0.length →
    Ev (fun k => impl_Decide.l0 k ps (ps.length : Int) (i : Int) F w d s L ag G0 fa ta F w d s L ag G fa ta) (resL F w d s L ag fa ta (decideL G0 (ps.drop i) G)) := by
  have hne : ∀ g ∈ G0, g.f0 ≠ g.f1 := by
    intro g h
    unfold bookOkB seasonOkB at hb
    simp only [Bool.and_eq_true] at hb
    exact gameOk_ne (seasonFrom_mem _ G0 [] hb.1.1.2.1 g h)
  intro d0
  induction d0 with
  | zero =>
    intro i G hi hG
    rw [List.drop_eq_nil_of_le (by omega), decideL]
    exact Ev.step (f := fun _ => some (F, w, d, s, L, ag, G, fa, ta, true)) (fun k => by rw [impl_Decide.l0, if_neg (by omega)]) (Ev.now _)
  | succ d0 ih =>
    intro i G hi hG
    have hlt : i < ps.length := by omega
    have hpo := iProtOk_ev F w d s L ag fa ta G0 hn hl hg ps[i]
    rw [hb, Bool.true_and] at hpo
    rw [List.drop_eq_getElem_cons hlt, decideL]
    cases ho : protOkB G0 ps[i] with
    | false =>
      rw [ho] at hpo
      rw [if_neg (by decide)]
      refine Ev.step (fun k => by rw [impl_Decide.l0, if_pos (by omega), if_pos (by omega), if_pos (by omega), rdP_eq ps i hlt]) (Ev.bind hpo ?_)
      exact Ev.val fun k => by rw [if_neg (by decide)]; rfl
    | true =>
      rw [ho] at hpo
      rw [if_pos rfl]
      obtain ⟨j, hj, hjl⟩ := protOkB_idx G0 ho
      have next := ih (i + 1) (G.set j (if ps[i].f2 then award G0[j] ps[i].f0 else G0[j])) (by omega) (by rw [List.length_set]; exact hG)
      have hgd : G0.getD ps[i].f1.toNat z95 = G0[j] := by rw [hj, Int.toNat_natCast, List.getD_eq_getElem?_getD, List.getElem?_eq_getElem hjl, Option.getD_some]
      have hteam := protOkB_team G0 ho
      rw [hgd] at hteam
      have hA := iAward_eq G0[j] ps[i].f0 (hne _ (List.getElem_mem hjl)) hteam
      rw [hgd, hj, Int.toNat_natCast]
      refine Ev.step (fun k => by rw [impl_Decide.l0, if_pos (by omega), if_pos (by omega), if_pos (by omega), rdP_eq ps i hlt]) (Ev.bind hpo ?_)
      refine Ev.congr (fun k => ?_) next
      rw [if_pos rfl, hj, if_pos (show (0 : Int) ≤ (j : Int) by omega), if_pos (show (j : Int) < (G0.length : Int) by omega), if_pos (show (j : Int) < (G.length : Int) by omega), rdG_eq G0 j hjl, hA, Option.bind_some, wrap_succ i (by omega), Int.toNat_natCast]
      cases ps[i].f2 with
      | true => rw [if_pos rfl, Option.bind_some, if_pos rfl, List.set_set]
      | false => rw [if_neg (by decide), if_neg (by decide)]
theorem sDecide_ev (hn : ∀ t ∈ F, t.f0.size ≤ 1048576) (h1 : F.length ≤ 1048576) (h2 : L.length ≤ 1048576) (h3 : G0.length ≤ 1048576) (h4 : fa.length ≤ 1048576) (h5 : ta.length ≤ 1048576) (ps : List Prot) :
    Ev (fun k => spec_Decide.f k F w d s L ag G0 fa ta ps) (decided F w d s L ag fa ta G0 ps) := by
  unfold spec_Decide.f decided
  have fals : Ev (fun k => spec_Decide.j0 k ps true F w d s L ag G0 fa ta) ([], 0, 0, 0, [], false, [], [], [], false) := Ev.step (f := fun _ => some _) (fun k => by rw [spec_Decide.j0, if_pos rfl]) (Ev.now _)
  refine Ev.bind (sBookOk_ev F w d s L ag G0 fa ta (fun t ht => Nat.le_trans (hn t ht) (by decide))) ?_
  cases hb : bookOkB F w d s L G0 fa ta with
  | false => exact Ev.congr (fun k => by rw [if_neg (by decide)]) fals
  | true =>
    refine Ev.congr (fun k => by rw [if_pos rfl]) ?_
    by_cases hp : ps.length ≤ 6
    · rw [decide_eq_true hp, decide_eq_false (show ¬ ((ps.length : Int) > 6) by omega)]
      refine Ev.step (fun k => by rw [spec_Decide.j0, if_neg (by decide), sCopy_eq F w d s L ag fa ta G0 h1 h2 h3 h4 h5, Option.bind_some]) ?_
      exact sDecide_loop F w d s L ag fa ta G0 hn h3 hb ps (by omega) ps.length 0 G0 (by omega) rfl
    · rw [decide_eq_false hp, decide_eq_true (show ((ps.length : Int) > 6) by omega)]
      exact fals
theorem iDecide_ev (hn : ∀ t ∈ F, t.f0.size ≤ 1048576) (h1 : F.length ≤ 1048576) (h2 : L.length ≤ 1048576) (h3 : G0.length ≤ 1048576) (h4 : fa.length ≤ 1048576) (h5 : ta.length ≤ 1048576) (ps : List Prot) :
    Ev (fun k => impl_Decide.f k F w d s L ag G0 fa ta ps) (decided F w d s L ag fa ta G0 ps) := by
  unfold impl_Decide.f decided
  have fals : Ev (fun k => impl_Decide.j0 k ps true F w d s L ag G0 fa ta) ([], 0, 0, 0, [], false, [], [], [], false) := Ev.step (f := fun _ => some _) (fun k => by rw [impl_Decide.j0, if_pos rfl]) (Ev.now _)
  refine Ev.bind (Ev.from _ (bookOk_eq F w d s L ag G0 fa ta ⟨fun t ht => Nat.le_trans (hn t ht) (by decide), by omega, by omega⟩)) ?_
  cases hb : bookOkB F w d s L G0 fa ta with
  | false => exact Ev.congr (fun k => by rw [if_neg (by decide)]) fals
  | true =>
    refine Ev.congr (fun k => by rw [if_pos rfl]) ?_
    by_cases hp : ps.length ≤ 6
    · rw [decide_eq_true hp, decide_eq_false (show ¬ ((ps.length : Int) > 6) by omega)]
      refine Ev.step (fun k => by rw [impl_Decide.j0, if_neg (by decide), iCopied_eq F w d s L ag fa ta G0 h1 h2 h3 h4 h5, Option.bind_some]) ?_
      exact iDecide_loop F w d s L ag fa ta G0 hn h2 h3 hb ps (by omega) ps.length 0 G0 (by omega) rfl
    · rw [decide_eq_false hp, decide_eq_true (show ((ps.length : Int) > 6) by omega)]
      exact fals
end
def diffL (G1 G2 : List Game) : List Int := (upL (min G1.length G2.length)).filter fun i => !cgP G1 G2 i
theorem iChanged_eq (F : List Team) (w d s : Int) (L : List Int) (ag : Bool) (fa ta : List Int) (G1 : List Game) (F2 : List Team) (w2 d2 s2 : Int) (L2 : List Int) (ag2 : Bool) (fa2 ta2 : List Int) (G2 : List Game)
    (h0 : 0 < G1.length) (h1 : G1.length ≤ 1048576) (h2 : G2.length = G1.length) :
    impl_ChangedGames.f F w d s L ag G1 fa ta F2 w2 d2 s2 L2 ag2 G2 fa2 ta2 = some (diffL G1 G2) := by
  unfold impl_ChangedGames.f diffL
  rw [if_pos (by omega)]
theorem sChanged_ev (F : List Team) (w d s : Int) (L : List Int) (ag : Bool) (fa ta : List Int) (G1 : List Game) (F2 : List Team) (w2 d2 s2 : Int) (L2 : List Int) (ag2 : Bool) (fa2 ta2 : List Int) (G2 : List Game)
    (h1 : G1.length ≤ 1048576) (h2 : G2.length ≤ 1048576) :
    Ev (fun k => spec_ChangedGames.f k F w d s L ag G1 fa ta F2 w2 d2 s2 L2 ag2 G2 fa2 ta2) (diffL G1 G2) := by
  unfold spec_ChangedGames.f
  have hm : mn (G1.length : Int) (G2.length : Int) = ((min G1.length G2.length : Nat) : Int) := by unfold mn; omega
  have hD : ∀ x, (!(((rd_T95 G1 x).f0) == ((rd_T95 G2 x).f0)) || (!(((rd_T95 G1 x).f1) == ((rd_T95 G2 x).f1)) || (!(((rd_T95 G1 x).f2) == ((rd_T95 G2 x).f2)) || (!(((rd_T95 G1 x).f3) == ((rd_T95 G2 x).f3)) || (!(((rd_T95 G1 x).f4) == ((rd_T95 G2 x).f4))))))) = !cgP G1 G2 x := by
    intro x
    unfold cgP
    simp only [Bool.not_and]
  have key : ∀ (e i : Nat), i + e = min G1.length G2.length → Ev (fun k => spec_ChangedGames.l0 k ((upL i).filter fun i => !cgP G1 G2 i) (i : Int) F w d s L ag G1 fa ta F2 w2 d2 s2 L2 ag2 G2 fa2 ta2) (diffL G1 G2) := by
    intro e
    induction e with
    | zero =>
      intro i hi
      obtain rfl : i = min G1.length G2.length := by omega
      exact Ev.step (f := fun _ => some (diffL G1 G2)) (fun k => by rw [spec_ChangedGames.l0, hm, if_neg (by omega)]; rfl) (Ev.now _)
    | succ e ih =>
      intro i hi
      have hs : (upL (i + 1)).filter (fun i => !cgP G1 G2 i) = ((upL i).filter fun i => !cgP G1 G2 i) ++ (if (!cgP G1 G2 (i : Int)) = true then [(i : Int)] else []) := by
        have : upL (i + 1) = upL i ++ [(i : Int)] := by simp [upL, List.range_succ]
        rw [this, List.filter_append]
        congr 1
        rw [List.filter_cons, List.filter_nil]
      have hl : ((upL i).filter fun i => !cgP G1 G2 i).length ≤ i := by
        have := List.length_filter_le (fun i => !cgP G1 G2 i) (upL i)
        have h3 : (upL i).length = i := by simp [upL]
        omega
      have next := ih (i + 1) (by omega)
      rw [hs] at next
      refine Ev.step (fun k => ?_) next
      rw [spec_ChangedGames.l0, hm, if_pos (by omega), if_pos (by omega), if_pos (by omega), if_pos (by omega), hD, wrap_succ i (by omega)]
      cases hc : !cgP G1 G2 (i : Int) with
      | true => rw [if_pos rfl, if_pos rfl, if_pos (by omega)]
      | false => rw [if_neg (by decide), if_neg (by decide), List.append_nil]
  exact key _ 0 (Nat.zero_add _)
theorem decided_some {F : List Team} {w d s : Int} {L : List Int} {ag : Bool} {fa ta : List Int} {G0 : List Game} {p : Prot} {ps : List Prot} (h : (decided F w d s L ag fa ta G0 (p :: ps)).2.2.2.2.2.2.2.2.2 = true) :
    ∃ G, decided F w d s L ag fa ta G0 (p :: ps) = (F, w, d, s, L, ag, G, fa, ta, true) ∧ G.length = G0.length ∧ 0 < G0.length := by
  unfold decided at h ⊢
  cases hd : (if bookOkB F w d s L G0 fa ta && decide ((p :: ps).length ≤ 6) then decideL G0 (p :: ps) G0 else none) with
  | none => rw [hd] at h; cases h
  | some G =>
    refine ⟨G, rfl, ?_⟩
    split at hd
    · refine ⟨decideL_len _ _ _ _ hd, ?_⟩
      rw [decideL] at hd
      split at hd
      · rename_i hp
        obtain ⟨j, -, hj⟩ := protOkB_idx G0 hp
        omega
      · cases hd
    · cases hd
section
variable (F : List Team) (w d s : Int) (L : List Int) (ag : Bool) (fa ta : List Int) (G0 : List Game)
def orderB (p q : Prot) : Bool :=
  (decided F w d s L ag fa ta G0 [p, q]).2.2.2.2.2.2.2.2.2 && ((decided F w d s L ag fa ta G0 [q, p]).2.2.2.2.2.2.2.2.2 && decide (((diffL (decided F w d s L ag fa ta G0 [p, q]).2.2.2.2.2.2.1 (decided F w d s L ag fa ta G0 [q, p]).2.2.2.2.2.2.1).length : Int) > 0))
theorem sOrder_ev (hn : ∀ t ∈ F, t.f0.size ≤ 1048576) (h1 : F.length ≤ 1048576) (h2 : L.length ≤ 1048576) (h3 : G0.length ≤ 1048576) (h4 : fa.length ≤ 1048576) (h5 : ta.length ≤ 1048576) (p q : Prot) :
    Ev (fun k => spec_OrderMatters.f k F w d s L ag G0 fa ta p.f0 p.f1 p.f2 q.f0 q.f1 q.f2) (orderB F w d s L ag fa ta G0 p q) := by
  unfold spec_OrderMatters.f orderB
  refine Ev.bind (sDecide_ev F w d s L ag fa ta G0 hn h1 h2 h3 h4 h5 [p, q]) (Ev.bind (sDecide_ev F w d s L ag fa ta G0 hn h1 h2 h3 h4 h5 [q, p]) ?_)
  cases hx : (decided F w d s L ag fa ta G0 [p, q]).2.2.2.2.2.2.2.2.2 with
  | false => exact Ev.val fun k => by rw [if_neg (by decide)]; rfl
  | true =>
    refine Ev.congr (fun k => by rw [if_pos rfl]) ?_
    cases hy : (decided F w d s L ag fa ta G0 [q, p]).2.2.2.2.2.2.2.2.2 with
    | false => exact Ev.val fun k => by rw [if_neg (by decide)]; rfl
    | true =>
      refine Ev.congr (fun k => by rw [if_pos rfl]) ?_
      obtain ⟨G1, e1, l1, hp⟩ := decided_some hx
      obtain ⟨G2, e2, l2, -⟩ := decided_some hy
      rw [e1, e2]
      exact Ev.bind (sChanged_ev F w d s L ag fa ta G1 F w d s L ag fa ta G2 (by omega) (by omega)) (Ev.val fun k => rfl)
theorem iOrder_ev (hn : ∀ t ∈ F, t.f0.size ≤ 1048576) (h1 : F.length ≤ 1048576) (h2 : L.length ≤ 1048576) (h3 : G0.length ≤ 1048576) (h4 : fa.length ≤ 1048576) (h5 : ta.length ≤ 1048576) (p q : Prot) :
    Ev (fun k => impl_OrderMatters.f k F w d s L ag G0 fa ta p.f0 p.f1 p.f2 q.f0 q.f1 q.f2) (orderB F w d s L ag fa ta G0 p q) := by
  unfold impl_OrderMatters.f orderB
  refine Ev.bind (iDecide_ev F w d s L ag fa ta G0 hn h1 h2 h3 h4 h5 [p, q]) (Ev.bind (iDecide_ev F w d s L ag fa ta G0 hn h1 h2 h3 h4 h5 [q, p]) ?_)
  cases hx : (decided F w d s L ag fa ta G0 [p, q]).2.2.2.2.2.2.2.2.2 with
  | false => exact Ev.val fun k => by rw [if_neg (by decide)]; rfl
  | true =>
    refine Ev.congr (fun k => by rw [if_pos rfl]) ?_
    cases hy : (decided F w d s L ag fa ta G0 [q, p]).2.2.2.2.2.2.2.2.2 with
    | false => exact Ev.val fun k => by rw [if_neg (by decide)]; rfl
    | true =>
      refine Ev.congr (fun k => by rw [if_pos rfl]) ?_
      obtain ⟨G1, e1, l1, hp⟩ := decided_some hx
      obtain ⟨G2, e2, l2, -⟩ := decided_some hy
      rw [e1, e2]
      exact Ev.val fun k => by rw [iChanged_eq F w d s L ag fa ta G1 F w d s L ag fa ta G2 (by omega) (by omega) (by omega)]; rfl
end
end Go.Proofs.Ythfefanapneocaa.Q
namespace Go.Proofs.Ythfefanapneocaa.Pure
open Go.RowKit Go.Proofs.Ythfefanapneocaa.Q Go.Proofs.YthfefanapneocaaW.PrintWords Go.Proofs.YthfefanapneocaaW.PrintLast
theorem FnExactOrderMatters (F : List TeamA) (w d s : Int) (L : List Int) (ag : Bool) (G : List GameA) (fa ta : List Int) (p0 p1 : Int) (p2 : Bool) (q0 q1 : Int) (q2 : Bool) (ok0 : BkArg F w d s L G fa ta) (_ok1 : (Lit.int .i64 p0).wf = true ∧ (Lit.int .i64 p1).wf = true ∧ True) (_ok2 : (Lit.int .i64 q0).wf = true ∧ (Lit.int .i64 q1).wf = true ∧ True) :
    ∃ k, laws_FnExactOrderMatters.f k F w d s L ag G fa ta p0 p1 p2 q0 q1 q2 = some true := by
  refine Ev.rounds ?_
  unfold laws_FnExactOrderMatters.f
  obtain ⟨t, et, ht⟩ := szBook_arg F w d s L ag G fa ta ok0
  rcases ht with ht | ⟨ht, -, hs⟩
  · exact Ev.bind et (Ev.val fun k => by rw [if_pos ht])
  refine Ev.bind et (Ev.congr (fun k => by rw [if_neg (by omega)]) ?_)
  have hF : (F.map convT).length ≤ 1048576 := by rw [List.length_map]; exact hs.f
  have hG : (G.map convG).length ≤ 1048576 := by rw [List.length_map]; exact hs.g
  have hN : ∀ t ∈ F.map convT, t.f0.size ≤ 1048576 := by
    intro t h
    obtain ⟨x, hx, rfl⟩ := List.mem_map.mp h
    exact hs.n x hx
  have eA := toBook_ev F w d s L ag G fa ta hs.f hs.l hs.g hs.x hs.y
  have eP : Ev (fun k => laws_toProtest.f p0 p1 p2) (p0, p1, p2) := Ev.val fun k => rfl
  have eQ : Ev (fun k => laws_toProtest.f q0 q1 q2) (q0, q1, q2) := Ev.val fun k => rfl
  have eS := sOrder_ev (F.map convT) w d s L ag fa ta (G.map convG) hN hF hs.l hG hs.x hs.y ⟨p0, p1, p2⟩ ⟨q0, q1, q2⟩
  have eI := iOrder_ev (F.map convT) w d s L ag fa ta (G.map convG) hN hF hs.l hG hs.x hs.y ⟨p0, p1, p2⟩ ⟨q0, q1, q2⟩
  have eB := eqBook_ev (F.map convT) w d s L ag (G.map convG) fa ta hF hs.l hG hs.x hs.y
  refine Ev.bind eA (Ev.bind eP (Ev.bind eQ (Ev.bind eS (Ev.bind eA (Ev.bind eP (Ev.bind eQ (Ev.bind eI ?_)))))))
  refine Ev.congr (fun k => by rw [if_neg (by simp)]) (Ev.bind eA (Ev.bind eB ?_))
  exact Ev.val fun k => by rw [if_pos rfl]
end Go.Proofs.Ythfefanapneocaa.Pure
namespace Go.Proofs.Ythfefanapneocaa.fnExactOrderMatters
open Go.ChangeShapes Go.WideShapes Go.ChangeAt Go.RowKit
open Go.ChangeMaps (open_string shut_string)
set_option linter.unusedVariables false
theorem own : ownKnob Try.prog.godebug = none := by kernel_rfl
theorem laidOut : laidOutB Try.prog = true := by kernel_rfl
set_option maxRecDepth 100000 in
set_option maxHeartbeats 4000000 in
theorem lifted (os : Os) (started : os.Started) (H : Type) (enc : TypeId × Value → H) :
    ReturnsInHanded {} Try.checked os 4 .any (Rows.fnExactOrderMattersSpec.pre6 enc Try.prog Try.f4 Rows.fnExactOrderMattersRow.domain false) (Rows.fnExactOrderMattersSpec.post enc Try.prog Try.f4 false true false false) := by
  refine returnsInHanded_of_change_sized (C := Try.checked) own started (by kernel_rfl) Try.func4
    (ChangeSpec.witness6 (enc := enc) (C := Try.checked) false ⟨#[], #[.agg #[.slice none 0 0, .int .i64 0, .int .i64 0, .int .i64 0, .slice none 0 0, .bool false, .slice none 0 0, .slice none 0 0, .slice none 0 0], .agg #[.int .i64 0, .int .i64 0, .bool false], .agg #[.int .i64 0, .int .i64 0, .bool false]], []⟩ 8 (by kernel_rfl) (by kernel_rfl) (by kernel_rfl) (by kernel_rfl)) ?_
  intro W base args ds gs before hval0 hW hcnd hsz0 _
  have hval : ∀ (j : Nat) t v, Try.f4.params[j]? = some t → args[j]? = some v → Value.okWide Try.prog W .any base t v := hval0
  have hW' := hW
  obtain ⟨p, q, hA0, hV, rfl, hfz, hnd⟩ := hW
  have hA : DataW.TrodAll enc Try.prog W 0 (fun _ => true) true Try.f4.params.toList args.toList ds p := hA0
  rw [Try.params4] at hA hval
  obtain ⟨v0, vs0, d0, ds0, p0, q0, hargs0, rfl, rfl, h0, r0⟩ := trodAll_cons hA
  obtain ⟨v1, vs1, d1, ds1, p1, q1, hargs1, rfl, rfl, h1, r1⟩ := trodAll_cons r0
  obtain ⟨v2, vs2, d2, ds2, p2, q2, hargs2, rfl, rfl, h2, r2⟩ := trodAll_cons r1
  obtain ⟨rfl, rfl, rfl⟩ := trodAll_nil r2
  obtain rfl : args = #[v0, v1, v2] := by cases args; simp_all
  obtain ⟨rfl, rfl⟩ := trodVars_none hV
  have k0 := h0; have lt0 : ∀ x ∈ p0, x.block < W.heap.size := by obtain ⟨m, hm⟩ := k0; exact DataW.trod_lt m _ _ _ hm
  have k1 := h1; have lt1 : ∀ x ∈ p1, x.block < W.heap.size := by obtain ⟨m, hm⟩ := k1; exact DataW.trod_lt m _ _ _ hm
  have k2 := h2; have lt2 : ∀ x ∈ p2, x.block < W.heap.size := by obtain ⟨m, hm⟩ := k2; exact DataW.trod_lt m _ _ _ hm
  obtain ⟨cs0, x0, rfl, hK0, ok0⟩ := Opens.trod_struct_val Try.underlying28 (hval 0 28 v0 rfl rfl) h0 (Opens.struct Try.underlying28 (by kernel_rfl) (Opens.cons 0 1 rfl (Opens.slice Try.underlying22 (Opens.iso (f := fun x : Q.S133 => (x.f0, x.f1, x.f2)) (fun x => ⟨x.1, x.2.1, x.2.2⟩) (fun _ => rfl) (Opens.struct Try.underlying133 (by kernel_rfl) (Opens.cons 0 1 rfl (Opens.string Try.underlying9) (by kernel_rfl) rfl (Opens.cons 1 2 rfl (Opens.int Try.underlying3) (by kernel_rfl) rfl (Opens.one 2 rfl (Opens.int Try.underlying3) (by kernel_rfl)))))) (by kernel_rfl) 133) (by kernel_rfl) rfl (Opens.cons 1 6 rfl (Opens.struct Try.underlying25 (by kernel_rfl) (Opens.cons 0 1 rfl (Opens.int Try.underlying3) (by kernel_rfl) rfl (Opens.cons 1 2 rfl (Opens.int Try.underlying3) (by kernel_rfl) rfl (Opens.cons 2 3 rfl (Opens.int Try.underlying3) (by kernel_rfl) rfl (Opens.cons 3 4 rfl (Opens.slice Try.underlying23 (Opens.int Try.underlying3) (by kernel_rfl) 3) (by kernel_rfl) rfl (Opens.one 4 rfl (Opens.bool Try.underlying4) (by kernel_rfl))))))) (by kernel_rfl) rfl (Opens.cons 6 7 rfl (Opens.slice Try.underlying26 (Opens.iso (f := fun x : Q.S147 => (x.f0, x.f1, x.f2, x.f3, x.f4)) (fun x => ⟨x.1, x.2.1, x.2.2.1, x.2.2.2.1, x.2.2.2.2⟩) (fun _ => rfl) (Opens.struct Try.underlying147 (by kernel_rfl) (Opens.cons 0 1 rfl (Opens.int Try.underlying3) (by kernel_rfl) rfl (Opens.cons 1 2 rfl (Opens.int Try.underlying3) (by kernel_rfl) rfl (Opens.cons 2 3 rfl (Opens.int Try.underlying3) (by kernel_rfl) rfl (Opens.cons 3 4 rfl (Opens.int Try.underlying3) (by kernel_rfl) rfl (Opens.one 4 rfl (Opens.int Try.underlying3) (by kernel_rfl)))))))) (by kernel_rfl) 147) (by kernel_rfl) rfl (Opens.cons 7 8 rfl (Opens.slice Try.underlying23 (Opens.int Try.underlying3) (by kernel_rfl) 3) (by kernel_rfl) rfl (Opens.one 8 rfl (Opens.slice Try.underlying23 (Opens.int Try.underlying3) (by kernel_rfl) 3) (by kernel_rfl)))))))
  obtain ⟨l0_0, ⟨a0_1_0, a0_1_1, a0_1_2, l0_1_3, a0_1_4⟩, l0_2, l0_3, l0_4⟩ := x0
  obtain ⟨_, _, hcs0, ⟨A0_0, c0_0, rfl, hl0_0, hC0_0⟩, ⟨_, _, rfl, ⟨_, _, rfl, rfl, ⟨_, _, rfl, rfl, ⟨_, _, rfl, rfl, ⟨_, _, rfl, ⟨A0_1_3, c0_1_3, rfl, hl0_1_3, hC0_1_3⟩, rfl⟩⟩⟩⟩, ⟨_, _, rfl, ⟨A0_2, c0_2, rfl, hl0_2, hC0_2⟩, ⟨_, _, rfl, ⟨A0_3, c0_3, rfl, hl0_3, hC0_3⟩, ⟨A0_4, c0_4, rfl, hl0_4, hC0_4⟩⟩⟩⟩⟩ := hK0
  obtain rfl : cs0 = #[.slice A0_0 l0_0.length c0_0, .int .i64 a0_1_0, .int .i64 a0_1_1, .int .i64 a0_1_2, .slice A0_1_3 l0_1_3.length c0_1_3, .bool a0_1_4, .slice A0_2 l0_2.length c0_2, .slice A0_3 l0_3.length c0_3, .slice A0_4 l0_4.length c0_4] := Array.toList_inj.mp hcs0
  obtain ⟨cs1, x1, rfl, hK1, ok1⟩ := Opens.trod_struct_val Try.underlying48 (hval 1 48 v1 rfl rfl) h1 (Opens.struct Try.underlying48 (by kernel_rfl) (Opens.cons 0 1 rfl (Opens.int Try.underlying3) (by kernel_rfl) rfl (Opens.cons 1 2 rfl (Opens.int Try.underlying3) (by kernel_rfl) rfl (Opens.one 2 rfl (Opens.bool Try.underlying4) (by kernel_rfl)))))
  obtain ⟨a1_0, a1_1, a1_2⟩ := x1
  obtain ⟨_, _, hcs1, rfl, ⟨_, _, rfl, rfl, rfl⟩⟩ := hK1
  obtain rfl : cs1 = #[.int .i64 a1_0, .int .i64 a1_1, .bool a1_2] := Array.toList_inj.mp hcs1
  obtain ⟨cs2, x2, rfl, hK2, ok2⟩ := Opens.trod_struct_val Try.underlying48 (hval 2 48 v2 rfl rfl) h2 (Opens.struct Try.underlying48 (by kernel_rfl) (Opens.cons 0 1 rfl (Opens.int Try.underlying3) (by kernel_rfl) rfl (Opens.cons 1 2 rfl (Opens.int Try.underlying3) (by kernel_rfl) rfl (Opens.one 2 rfl (Opens.bool Try.underlying4) (by kernel_rfl)))))
  obtain ⟨a2_0, a2_1, a2_2⟩ := x2
  obtain ⟨_, _, hcs2, rfl, ⟨_, _, rfl, rfl, rfl⟩⟩ := hK2
  obtain rfl : cs2 = #[.int .i64 a2_0, .int .i64 a2_1, .bool a2_2] := Array.toList_inj.mp hcs2
  clear hA0 hval0 hsz0
  obtain ⟨k, hk⟩ := Pure.FnExactOrderMatters l0_0 a0_1_0 a0_1_1 a0_1_2 l0_1_3 a0_1_4 l0_2 l0_3 l0_4 a1_0 a1_1 a1_2 a2_0 a2_1 a2_2 ok0 ok1 ok2
  refine (Q.laws_FnExactOrderMatters.calls k  A0_0 c0_0 l0_0 a0_1_0 a0_1_1 a0_1_2 A0_1_3 c0_1_3 l0_1_3 a0_1_4 A0_2 c0_2 l0_2 A0_3 c0_3 l0_3 A0_4 c0_4 l0_4 a1_0 a1_1 a1_2 a2_0 a2_1 a2_2 _ W hC0_0 hl0_0 hC0_1_3 hl0_1_3 hC0_2 hl0_2 hC0_3 hl0_3 hC0_4 hl0_4 hk).mono fun e W' ⟨he, bel⟩ => ?_
  subst he
  exact ⟨_, rfl, _, _, _, [], _, [], hW', trodAll_mk1 (shut_bool Try.underlying4 _), (trodAll_cons_mk (Below.trod laidOut (by kernel_rfl) (of_decide_eq_true (by kernel_rfl)) k0 bel lt0) (trodAll_cons_mk (Below.trod laidOut (by kernel_rfl) (of_decide_eq_true (by kernel_rfl)) k1 bel lt1) (trodAll_cons_mk (Below.trod laidOut (by kernel_rfl) (of_decide_eq_true (by kernel_rfl)) k2 bel lt2) trodAll_mk0))), rfl, bel.frame _, fun h => by cases h⟩
theorem over : Rows.fnExactOrderMattersRow.holds Try.pinned (OpenSpec.ofChange Rows.fnExactOrderMattersSpec) :=
  OpenClaim.holds_of_wide 4 Try.f4 rfl rfl rfl rfl rfl rfl rfl ⟨rfl, rfl, rfl, rfl, rfl⟩ rfl rfl rfl rfl rfl (by kernel_rfl) Try.func4 (by kernel_rfl)
    (of_decide_eq_true (by kernel_rfl)) (by unfold Func.isWrapper; first | (rw [if_pos (by decide +kernel)]; kernel_rfl) | (rw [if_neg (by decide +kernel)]; exact ⟨rfl, rfl⟩))
    (fun os started H enc _ => lifted os started H enc)
theorem proved : Rows.FnExactOrderMattersSaid := over
end Go.Proofs.Ythfefanapneocaa.fnExactOrderMatters
namespace Go.Proofs.Ythfefanapneocaa
theorem fnExactOrderMatters_holds : Rows.FnExactOrderMattersSaid := fnExactOrderMatters.proved
end Go.Proofs.Ythfefanapneocaa
