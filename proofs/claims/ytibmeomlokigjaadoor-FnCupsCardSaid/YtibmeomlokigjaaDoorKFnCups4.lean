/- A part of the proof of FnCups: functions of the program, as plain functions, with the proof that the machine's call does what they say; plain lemmas; and those of the words that print.sh prints which this proof uses. No condition. -/
import Derived.Test.YtibmeomlokigjaaDoorKFnCups1
import Derived.Test.YtibmeomlokigjaaDoorProg
import Derived.Below
import Derived.Deep.Draws
import Derived.Deep.AppendLies
import Derived.Maps.AppendAt
import Derived.OwnWalk
import Derived.Laws.BytesArg
import Derived.Laws.MakeOwn
import Derived.Laws.OwnMore
import Derived.Deep.OwnRows
import Derived.Tactics
import Derived.Lib.ConvBytes
import Derived.Laws.Slices
import Derived.WalkKit
import Derived.KernelRfl
import Derived.RowKit3
import Derived.Deep.LoopGhost
import Derived.Deep.QuietTactic
import Derived.BigQuiet
import Derived.WideLaws
import Derived.Deep.DeepCutAuto
import Derived.Deep.CutBlock
import Derived.Deep.RegionHeld3
import Derived.Laws.Rows
import Derived.Lib.AppendStr
import Derived.ArgAppend
import Derived.Laws.IdiomCopy
import Derived.OrdersHeld
import Derived.Laws.BitsLemmas
import Derived.RowKit
import Derived.WalkSpells
import Derived.Shelf.Strings.Builder1
import Derived.Shelf.Strings.Builder2
import Derived.Shelf.Strings.OnBuilder
import Derived.Shelf.Strconv.Itoa0
import Derived.Shelf.Strconv.Itoa1
import Derived.Shelf.LaysM
import Derived.Shelf.Strconv.Itoa2
import Derived.Shelf.Strconv.Itoa3
import Derived.Laws.StructEq
import Derived.Test.YtibmeomlokigjaaDoorKFnCups2
import Derived.Test.YtibmeomlokigjaaDoorKFnCups3
import Derived.Test.YtibmeomlokigjaaDoorRows
import Derived.ProofKit
import Derived.OpenShut
import Derived.ShutString
import Derived.ChangeOld
import Derived.SizedLaws
import Derived.LaidMore
import Derived.LaidHandle
import Derived.Stop.Joined
import Derived.Test.YtibmeomlokigjaaDoorCards
import Derived.Test.YtibmeomlokigjaaDoorTie
import Derived.SevenTiedAt
namespace Go.Proofs.YtibmeomlokigjaaDoor.Q
open Go.RowKit Go.Proofs.YtibmeomlokigjaaDoorW.PrintWords Go.Proofs.YtibmeomlokigjaaDoorW.PrintLast Go.Proofs.YtibmeomlokigjaaDoorW.PrintMore
theorem and255 (x : Int) : 0 ≤ Go.bits .and .i64 x 255 ∧ Go.bits .and .i64 x 255 ≤ 255 := by
  have h : ∃ m : Nat, m ≤ 255 ∧ Go.bits .and .i64 x 255 = IntKind.i64.wrap (m : Int) := by
    refine ⟨((BitVec.ofInt IntKind.i64.bits x) &&& (BitVec.ofInt IntKind.i64.bits 255)).toNat, ?_, rfl⟩
    rw [BitVec.toNat_and]
    refine Nat.le_trans Nat.and_le_right ?_
    decide
  obtain ⟨m, hm, e⟩ := h
  rw [e, IntKind.wrap_i64]
  omega
def CurOk (b : List Int) (i : Int) : Prop := 0 ≤ i ∧ b.length ≤ 2305843009213693952 ∧ i ≤ b.length
theorem byte_ok {b : List Int} {i : Int} (h : Int) (hc : CurOk b i) : ∃ r i' h', spec_l01Byte.f b i h = some (r, i', h') ∧ 0 ≤ r ∧ r ≤ 255 ∧ CurOk b i' := by
  obtain ⟨h0, h1, h2⟩ := hc
  unfold spec_l01Byte.f
  by_cases hl : i < (b.length : Int)
  · rw [if_pos hl, if_pos h0]
    exact ⟨_, _, _, rfl, (and255 _).1, (and255 _).2, by unfold CurOk wrap64; omega⟩
  · rw [if_neg hl]
    exact ⟨_, _, _, rfl, (and255 _).1, (and255 _).2, by unfold CurOk; omega⟩
theorem below_ok {b : List Int} {i : Int} (h n : Int) (hc : CurOk b i) (h1 : 1 ≤ n) (h2 : n ≤ 256) : ∃ r i' h', spec_l01Below.f b i h n = some (r, i', h') ∧ 0 ≤ r ∧ r < n ∧ CurOk b i' := by
  obtain ⟨r, i', h', e, r0, r1, hc'⟩ := byte_ok h hc
  unfold spec_l01Below.f
  rw [if_neg (by omega), if_pos h2, e]
  simp only [Option.bind_some]
  rw [if_neg (by omega)]
  refine ⟨_, _, _, rfl, ?_, ?_, hc'⟩
  · exact Int.tmod_nonneg _ r0
  · exact Int.tmod_lt_of_pos _ (by omega)
theorem once_ok {b : List Int} {i : Int} (h n : Int) (hc : CurOk b i) (h1 : 1 ≤ n) (h2 : n ≤ 256) : ∃ r i' h', spec_l01Once.f b i h n = some (r, i', h') ∧ CurOk b i' := by
  obtain ⟨r, i', h', e, _, _, hc'⟩ := below_ok h n hc h1 h2
  unfold spec_l01Once.f
  rw [e]
  exact ⟨_, _, _, rfl, hc'⟩
theorem pick_ok {b : List Int} {i : Int} (h : Int) (l : List Int) (hc : CurOk b i) (h1 : 1 ≤ l.length) (h2 : l.length ≤ 256) : ∃ r i' h', spec_l01Pick.f b i h l = some (r, i', h') ∧ r ∈ l ∧ CurOk b i' := by
  obtain ⟨r, i', h', e, r0, r1, hc'⟩ := below_ok h l.length hc (by omega) (by omega)
  unfold spec_l01Pick.f
  rw [e]
  simp only [Option.bind_some]
  rw [if_pos r0, if_pos r1]
  refine ⟨_, _, _, rfl, ?_, hc'⟩
  unfold rd
  rw [List.getD_eq_getElem?_getD, List.getElem?_eq_getElem (show r.toNat < l.length by omega)]
  exact List.getElem_mem _
theorem new_ok {l : List Int} (hl : l.length ≤ 2305843009213693952) : ∃ h, Ev (fun k => spec_l01New.f k l) (l, 0, h) := by
  have key : ∀ (d i : Nat), l.length - i = d → i ≤ l.length → ∀ h, ∃ h', ∀ k, d < k → spec_l01New.l0 k l h i = some (l, 0, h') := by
    intro d
    induction d with
    | zero =>
      intro i hd hi h
      refine ⟨h, fun k hk => ?_⟩
      obtain ⟨k, rfl⟩ : ∃ m, k = m + 1 := ⟨k - 1, by omega⟩
      simp only [spec_l01New.l0]
      rw [if_neg (by omega)]
    | succ d ih =>
      intro i hd hi h
      by_cases h4 : (i : Int) < 4000
      · obtain ⟨h', e⟩ := ih (i + 1) (by omega) (by omega) (Go.bits .and .i64 (wrap64 ((wrap64 ((wrap64 (h * 89)) + (wrap64 (rd l i)))) + 7)) 1073741823)
        refine ⟨h', fun k hk => ?_⟩
        obtain ⟨k, rfl⟩ : ∃ m, k = m + 1 := ⟨k - 1, by omega⟩
        simp only [spec_l01New.l0]
        rw [if_pos (by omega), if_pos h4, if_pos (by omega), show wrap64 ((i : Int) + 1) = ((i + 1 : Nat) : Int) by unfold wrap64; omega]
        exact e k (by omega)
      · refine ⟨h, fun k hk => ?_⟩
        obtain ⟨k, rfl⟩ : ∃ m, k = m + 1 := ⟨k - 1, by omega⟩
        simp only [spec_l01New.l0]
        rw [if_pos (by omega), if_neg h4]
  obtain ⟨h', e⟩ := key l.length 0 (by omega) (by omega) (wrap64 (1978 + (l.length : Int)))
  exact ⟨h', l.length + 1, fun k hk => e k (by omega)⟩
theorem cur0 {l : List Int} (hl : l.length ≤ 2305843009213693952) : CurOk l 0 := ⟨by omega, hl, by omega⟩
end Go.Proofs.YtibmeomlokigjaaDoor.Q
namespace Go.Proofs.YtibmeomlokigjaaDoor.Q
open Go.RowKit Go.Proofs.YtibmeomlokigjaaDoorW.PrintWords Go.Proofs.YtibmeomlokigjaaDoorW.PrintLast Go.Proofs.YtibmeomlokigjaaDoorW.PrintMore
theorem oppT_ext {n : Int} {l l2 : List Int} {i : Nat} (hs : sizeT n = true) (hi : (i : Int) < n - 1) (h : ∀ j, j < i → l.getD j 0 = l2.getD j 0) : oppT n l i = oppT n l2 i := by
  rcases size_cases hs with rfl | rfl | rfl
  · rfl
  · rcases i with _ | _ | _ | i
    · rfl
    · rfl
    · exact Prod.ext (h 0 (by omega)) (h 1 (by omega))
    · omega
  · rcases i with _ | _ | _ | _ | _ | _ | _ | i
    · rfl
    · rfl
    · rfl
    · rfl
    · exact Prod.ext (h 0 (by omega)) (h 1 (by omega))
    · exact Prod.ext (h 2 (by omega)) (h 3 (by omega))
    · exact Prod.ext (h 4 (by omega)) (h 5 (by omega))
    · omega
theorem cupFrom_of {n : Int} {l : List Int} : ∀ (d i : Nat), (∀ j, i ≤ j → j < i + d → (j : Int) < n - 1 ∧ (l.getD j 0 = (oppT n l j).1 ∨ l.getD j 0 = (oppT n l j).2)) → cupFrom n l d i = true := by
  intro d
  induction d with
  | zero => intro i _; rfl
  | succ d ih =>
    intro i h
    have h0 := h i (by omega) (by omega)
    have h1 := ih (i + 1) (fun j h1 h2 => h j (by omega) (by omega))
    simp only [cupFrom, Bool.and_eq_true, Bool.or_eq_true, decide_eq_true_eq, beq_iff_eq]
    exact ⟨h0, h1⟩
theorem getD_append_lt (l : List Int) (w : Int) (j : Nat) (h : j < l.length) : (l ++ [w]).getD j 0 = l.getD j 0 := by
  simp [List.getD_eq_getElem?_getD, List.getElem?_append_left h]
theorem getD_append_eq (l : List Int) (w : Int) : (l ++ [w]).getD l.length 0 = w := by
  simp [List.getD_eq_getElem?_getD]
theorem cup_snoc {n : Int} {l : List Int} (h : cupT n l = true) (hn : (l.length : Int) < n - 1) (w : Int) (hw : w = (oppT n l l.length).1 ∨ w = (oppT n l l.length).2) : cupT n (l ++ [w]) = true := by
  simp only [cupT, Bool.and_eq_true] at h ⊢
  refine ⟨h.1, cupFrom_of _ _ (fun j h1 h2 => ?_)⟩
  rw [List.length_append, List.length_singleton] at h2
  by_cases e : j = l.length
  · subst e
    rw [getD_append_eq, oppT_ext (l2 := l) h.1 hn (fun i hi => getD_append_lt l w i hi)]
    exact ⟨hn, hw⟩
  · obtain ⟨h3, h4⟩ := cupFrom_get _ _ h.2 j (by omega) (by omega)
    rw [getD_append_lt l w j (by omega), oppT_ext (l2 := l) h.1 h3 (fun i hi => getD_append_lt l w i (by omega))]
    exact ⟨h3, h4⟩
theorem cup_nil {n : Int} (h : sizeT n = true) : cupT n [] = true := by simp [cupT, h, cupFrom]
theorem cup_len {n : Int} {l : List Int} (h : cupT n l = true) : (l.length : Int) ≤ n - 1 := by
  have h8 := h
  simp only [cupT, Bool.and_eq_true] at h8
  rcases cupFrom_le _ _ h8.2 with h9 | h9
  · rcases size_cases h8.1 with rfl | rfl | rfl <;> omega
  · omega
theorem specOppNext (k : Nat) (n : Int) (h : sizeT n = true) (l : List Int) (hn : (l.length : Int) < n - 1) : spec_OpponentsOf.f (k + 60) n l (l.length : Int) = some ((oppT n l l.length).1, (oppT n l l.length).2, true) := by
  have e := specOpp k n h (l ++ [0]) l.length (by simp) hn
  rw [List.take_left, oppT_ext (l2 := l) h hn (fun i hi => getD_append_lt l 0 i hi)] at e
  have hw : wrap64 (n - 2) = n - 2 := by rcases size_cases h with rfl | rfl | rfl <;> exact wrap_id _ (by decide) (by decide)
  unfold spec_OpponentsOf.f
  rw [specSize, Option.bind_some, if_pos h, l01In_eq, Option.bind_some, hw, if_pos (by simp only [withinT, Bool.and_eq_true, decide_eq_true_eq]; omega), e]
  rfl
def waysT (n : Int) : Nat → List Int → Int → Int
  | 0, l, s => if l.getD (l.length - 1) 0 = s then 1 else 0
  | d + 1, l, s => waysT n d (l ++ [(oppT n l l.length).1]) s + waysT n d (l ++ [(oppT n l l.length).2]) s
theorem waysT_range (n : Int) (s : Int) : ∀ (d : Nat) (l : List Int), 0 ≤ waysT n d l s ∧ waysT n d l s ≤ 2 ^ d := by
  intro d
  induction d with
  | zero => intro l; simp only [waysT]; split <;> simp
  | succ d ih =>
    intro l
    have h1 := ih (l ++ [(oppT n l l.length).1])
    have h2 := ih (l ++ [(oppT n l l.length).2])
    simp only [waysT]
    have : (2 : Int) ^ (d + 1) = 2 ^ d + 2 ^ d := by rw [Int.pow_succ]; omega
    omega
theorem clone_eq (l : List Int) (hl : l.length ≤ 1000) : slices_Clone_int_int.f l = some l := by
  unfold slices_Clone_int_int.f
  rw [Option.bind_some, if_pos (by simp; omega)]
  rfl
theorem winGame (n : Int) (l : List Int) (w : Int) (h : cupT n (l ++ [w]) = true) (hl : l.length ≤ 10) (k : Nat) : impl_WinGame.f (k + 80) n l w = some (n, l ++ [w], true) := by
  unfold impl_WinGame.f
  rw [clone_eq l (by omega), Option.bind_some, Option.bind_some, if_pos (by simp; omega), Option.bind_some]
  have e := implCupOk n (l ++ [w]) (by simp; omega) (k + 17 - l.length)
  rw [show k + 17 - l.length + (l ++ [w]).length + 62 = k + 80 by simp; omega] at e
  rw [e, Option.bind_some, if_pos h]
theorem waysToWin (n : Int) (s : Int) (hs1 : 1 ≤ s) (hs2 : s ≤ n) : ∀ (d : Nat) (l : List Int), cupT n l = true → (l.length : Int) + d = n - 1 → ∀ k, impl_WaysToWin.f (k + 2 * d + 100) n l s = some (waysT n d l s) := by
  intro d
  induction d with
  | zero =>
    intro l hc hd k
    have h7 : l.length ≤ 7 := by
      simp only [cupT, Bool.and_eq_true] at hc
      rcases size_cases hc.1 with rfl | rfl | rfl <;> omega
    obtain ⟨e1, e2, e3⟩ := sub_wrap hc
    have ec := implCupOk n l (by omega) (k + 37 - l.length)
    rw [show k + 37 - l.length + l.length + 62 = k + 99 by omega] at ec
    have eh := implChampion n l (by omega) (k + 36 - l.length)
    rw [show k + 36 - l.length + l.length + 62 = k + 98 by omega] at eh
    rw [show k + 2 * 0 + 100 = (k + 99) + 1 by omega, impl_WaysToWin.f, ec, Option.bind_some, if_pos hc, within_eq, Option.bind_some, show withinT s 1 n = true by simp [withinT, hs1, hs2], show k + 99 = (k + 98) + 1 by omega, impl_WaysToWin.j0, if_neg (by simp), e1, if_pos (by omega), eh, Option.bind_some]
    have ech : championT n l = l.getD (l.length - 1) 0 := by unfold championT; rw [if_pos ⟨hc, by omega⟩]
    rw [ech, waysT]
    by_cases e : l.getD (l.length - 1) 0 = s
    · rw [if_pos e, if_pos e]
    · rw [if_neg e, if_neg e]
  | succ d ih =>
    intro l hc hd k
    have h7 : l.length ≤ 7 := by
      simp only [cupT, Bool.and_eq_true] at hc
      rcases size_cases hc.1 with rfl | rfl | rfl <;> omega
    have hz : sizeT n = true := by simp only [cupT, Bool.and_eq_true] at hc; exact hc.1
    have hd7 : d ≤ 7 := by rcases size_cases hz with rfl | rfl | rfl <;> omega
    obtain ⟨e1, e2, e3⟩ := sub_wrap hc
    have ec := implCupOk n l (by omega) (k + 2 * d + 39 - l.length)
    rw [show k + 2 * d + 39 - l.length + l.length + 62 = k + 2 * d + 101 by omega] at ec
    have hn : (l.length : Int) < n - 1 := by omega
    have eo := implOpp (k + 2 * d + 40) n hz l l.length (by omega) (by omega) hn
    rw [show k + 2 * d + 40 + 60 = k + 2 * d + 100 by omega] at eo
    have c1 := cup_snoc hc hn _ (.inl rfl)
    have c2 := cup_snoc hc hn _ (.inr rfl)
    have g1 := winGame n l _ c1 (by omega) (k + 2 * d + 20)
    have g2 := winGame n l _ c2 (by omega) (k + 2 * d + 20)
    rw [show k + 2 * d + 20 + 80 = k + 2 * d + 100 by omega] at g1 g2
    have w1 := ih _ c1 (by simp; omega) k
    have w2 := ih _ c2 (by simp; omega) k
    rw [show k + 2 * (d + 1) + 100 = (k + 2 * d + 101) + 1 by omega, impl_WaysToWin.f, ec, Option.bind_some, if_pos hc, within_eq, Option.bind_some, show withinT s 1 n = true by simp [withinT, hs1, hs2], show k + 2 * d + 101 = (k + 2 * d + 100) + 1 by omega, impl_WaysToWin.j0, if_neg (by simp), e1, if_neg (by omega), eo]
    simp only [Option.bind_some]
    rw [g1, g2]
    simp only [Option.bind_some]
    rw [w1, w2]
    simp only [Option.bind_some, waysT]
    have r1 := waysT_range n s d (l ++ [(oppT n l l.length).1])
    have r2 := waysT_range n s d (l ++ [(oppT n l l.length).2])
    have : (2 : Int) ^ d ≤ 128 := by
      have : d = 0 ∨ d = 1 ∨ d = 2 ∨ d = 3 ∨ d = 4 ∨ d = 5 ∨ d = 6 ∨ d = 7 := by omega
      rcases this with rfl | rfl | rfl | rfl | rfl | rfl | rfl | rfl <;> decide
    rw [wrap_id _ (by omega) (by omega)]
theorem opp_rangeN {n : Int} {l : List Int} {i : Nat} (hs : sizeT n = true) (hi : (i : Int) < n - 1) (h : ∀ j, j < i → 1 ≤ l.getD j 0 ∧ l.getD j 0 ≤ n) : (1 ≤ (oppT n l i).1 ∧ (oppT n l i).1 ≤ n) ∧ 1 ≤ (oppT n l i).2 ∧ (oppT n l i).2 ≤ n := by
  rcases size_cases hs with rfl | rfl | rfl
  · simp [oppT]
  · rcases i with _ | _ | _ | i
    · simp [oppT]
    · simp [oppT]
    · exact ⟨h 0 (by omega), h 1 (by omega)⟩
    · omega
  · rcases i with _ | _ | _ | _ | _ | _ | _ | i
    · simp [oppT]
    · simp [oppT]
    · simp [oppT]
    · simp [oppT]
    · exact ⟨h 0 (by omega), h 1 (by omega)⟩
    · exact ⟨h 2 (by omega), h 3 (by omega)⟩
    · exact ⟨h 4 (by omega), h 5 (by omega)⟩
    · omega
theorem winners_rangeN {n : Int} {l : List Int} (h : cupT n l = true) : ∀ j, j < l.length → 1 ≤ l.getD j 0 ∧ l.getD j 0 ≤ n := by
  simp only [cupT, Bool.and_eq_true] at h
  intro j
  induction j using Nat.strongRecOn with
  | _ j ih =>
    intro hj
    obtain ⟨h1, h2⟩ := cupFrom_get _ _ h.2 j (by omega) (by omega)
    obtain ⟨h3, h4⟩ := opp_rangeN h.1 h1 (fun i hi => ih i hi (by omega))
    rcases h2 with h2 | h2 <;> rw [h2] <;> assumption
def sumT (n : Int) (d : Nat) (l : List Int) : Nat → Int → Int
  | 0, _ => 0
  | m + 1, s => waysT n d l s + sumT n d l m (s + 1)
theorem sumT_one (n : Int) (l : List Int) : ∀ (m : Nat) (s : Int), sumT n 0 l m s = if s ≤ l.getD (l.length - 1) 0 ∧ l.getD (l.length - 1) 0 < s + m then 1 else 0 := by
  intro m
  induction m with
  | zero => intro s; rw [sumT, if_neg (by omega)]
  | succ m ih =>
    intro s
    rw [sumT, ih, waysT]
    by_cases e : l.getD (l.length - 1) 0 = s
    · rw [if_pos e, if_neg (by omega), if_pos (by omega)]; rfl
    · rw [if_neg e]
      by_cases h : s + 1 ≤ l.getD (l.length - 1) 0 ∧ l.getD (l.length - 1) 0 < s + 1 + m
      · rw [if_pos h, if_pos (by omega)]; rfl
      · rw [if_neg h, if_neg (by omega)]; rfl
theorem sumT_succ (n : Int) (d : Nat) (l : List Int) : ∀ (m : Nat) (s : Int), sumT n (d + 1) l m s = sumT n d (l ++ [(oppT n l l.length).1]) m s + sumT n d (l ++ [(oppT n l l.length).2]) m s := by
  intro m
  induction m with
  | zero => intro s; rfl
  | succ m ih => intro s; simp only [sumT, ih, waysT]; omega
theorem sumT_all (n : Int) (hs : sizeT n = true) : ∀ (d : Nat) (l : List Int), cupT n l = true → (l.length : Int) + d = n - 1 → sumT n d l n.toNat 1 = 2 ^ d := by
  have hn2 : 2 ≤ n := by rcases size_cases hs with rfl | rfl | rfl <;> decide
  intro d
  induction d with
  | zero =>
    intro l hc hd
    have := winners_rangeN hc (l.length - 1) (by omega)
    rw [sumT_one, if_pos (by omega)]
    rfl
  | succ d ih =>
    intro l hc hd
    have hn : (l.length : Int) < n - 1 := by omega
    rw [sumT_succ, ih _ (cup_snoc hc hn _ (.inl rfl)) (by simp; omega), ih _ (cup_snoc hc hn _ (.inr rfl)) (by simp; omega), Int.pow_succ]
    omega
theorem sumT_le (n : Int) (d : Nat) (l : List Int) (m : Nat) : ∀ (s : Int), 0 ≤ sumT n d l m s ∧ sumT n d l m s ≤ m * 2 ^ d := by
  induction m with
  | zero => intro s; simp [sumT]
  | succ m ih =>
    intro s
    have h1 := ih (s + 1)
    have h2 := waysT_range n s d l
    have e : ((m + 1 : Nat) : Int) * 2 ^ d = m * 2 ^ d + 2 ^ d := by rw [Int.natCast_add, Int.add_mul]; simp
    rw [sumT, e]
    omega
end Go.Proofs.YtibmeomlokigjaaDoor.Q
namespace Go.Proofs.YtibmeomlokigjaaDoor.Q
open Go.RowKit Go.Proofs.YtibmeomlokigjaaDoorW.PrintWords Go.Proofs.YtibmeomlokigjaaDoorW.PrintLast Go.Proofs.YtibmeomlokigjaaDoorW.PrintMore
theorem draw_loop {b : List Int} : ∀ (m : Nat) (n : Int) (l : List Int) (i h : Int), cupT n l = true → (l.length : Int) + m ≤ n - 1 → CurOk b i → ∃ l' i' h', cupT n l' = true ∧ Ev (fun k => spec_l14Draw.l0 k (m : Int) b i h n l) (n, l', i', h') := by
  intro m
  induction m with
  | zero =>
    intro n l i h hc _ _
    exact ⟨l, i, h, hc, Ev.step (f := fun _ => some (n, l, i, h)) (fun k => by rw [spec_l14Draw.l0, if_neg (by omega)]) (Ev.now _)⟩
  | succ m ih =>
    intro n l i h hc hm hi
    have hz : sizeT n = true := by simp only [cupT, Bool.and_eq_true] at hc; exact hc.1
    have hn : (l.length : Int) < n - 1 := by omega
    have h8 : n ≤ 8 := by rcases size_cases hz with rfl | rfl | rfl <;> decide
    obtain ⟨r, i', h', e, hi'⟩ := once_ok h 2 hi (by decide) (by decide)
    have eo : Ev (fun k => spec_OpponentsOf.f k n l (l.length : Int)) ((oppT n l l.length).1, (oppT n l l.length).2, true) := ⟨60, fun k hk => by
      have := specOppNext (k - 60) n hz l hn
      rw [show k - 60 + 60 = k by omega] at this
      exact this⟩
    have key : ∀ w, (w = (oppT n l l.length).1 ∨ w = (oppT n l l.length).2) → ∃ l' i'' h'', cupT n l' = true ∧ Ev (fun k => spec_l14Draw.l0 k (m : Int) b i' h' n (l ++ [w])) (n, l', i'', h'') :=
      fun w hw => ih n (l ++ [w]) i' h' (cup_snoc hc hn w hw) (by simp; omega) hi'
    have st : ∀ k, spec_l14Draw.l0 (k + 1) ((m + 1 : Nat) : Int) b i h n l = (spec_OpponentsOf.f k n l (l.length : Int)).bind fun bt => if r = true then spec_l14Draw.l0 k (m : Int) b i' h' n (l ++ [bt.2.1]) else spec_l14Draw.l0 k (m : Int) b i' h' n (l ++ [bt.1]) := fun k => by
      rw [spec_l14Draw.l0, if_pos (by omega), e]
      have hb : l.length < 17592186044416 := by omega
      have hw : wrap64 (((m + 1 : Nat) : Int) - 1) = (m : Int) := by rw [wrap_id _ (by omega) (by omega)]; omega
      simp only [Option.bind_some, hb, if_true, hw]
    cases r with
    | true =>
      obtain ⟨l', i'', h'', c, ev⟩ := key _ (.inr rfl)
      exact ⟨l', i'', h'', c, Ev.step st (Ev.bind eo (Ev.congr (fun k => by rw [if_pos rfl]) ev))⟩
    | false =>
      obtain ⟨l', i'', h'', c, ev⟩ := key _ (.inl rfl)
      exact ⟨l', i'', h'', c, Ev.step st (Ev.bind eo (Ev.congr (fun k => by rw [if_neg (by simp)]) ev))⟩
theorem makeCup_ok (code : List Int) (hl : code.length ≤ 2305843009213693952) : ∃ n l, cupT n l = true ∧ Ev (fun k => spec_MakeCup.f k code) (n, l) := by
  obtain ⟨h, e0⟩ := new_ok hl
  obtain ⟨n, i1, h1, e1, hn, c1⟩ := pick_ok (b := code) h [2, 4, 8] (cur0 hl) (by decide) (by decide)
  have hz : sizeT n = true := by
    simp only [List.mem_cons, List.not_mem_nil, or_false] at hn
    rcases hn with rfl | rfl | rfl <;> decide
  obtain ⟨m, i2, h2, e2, m0, m1, c2⟩ := below_ok h1 n c1 (by rcases size_cases hz with rfl | rfl | rfl <;> decide) (by rcases size_cases hz with rfl | rfl | rfl <;> decide)
  obtain ⟨l, i3, h3, hc, ev⟩ := draw_loop m.toNat n [] i2 h2 (cup_nil hz) (by simp; omega) c2
  rw [show ((m.toNat : Nat) : Int) = m by omega] at ev
  refine ⟨n, l, hc, ?_⟩
  refine Ev.congr (f := fun k => (spec_l01New.f k code).bind fun bt715 => ((spec_l14Draw.f k bt715.1 bt715.2.1 bt715.2.2).bind fun bt719 => (some (bt719.1, bt719.2.1)))) (fun k => rfl) ?_
  refine Ev.bind e0 ?_
  refine Ev.bind (a := (n, l, i3, h3)) (Ev.congr (fun k => ?_) ev) (Ev.now _)
  show spec_l14Draw.f k code 0 h = _
  unfold spec_l14Draw.f
  rw [e1]
  simp only [Option.bind_some]
  rw [e2]
  rfl
theorem meet (n s : Int) (hs : sizeT n = true) (h1 : 1 ≤ s) (h2 : s ≤ n) : impl_MeetIn.f 100 n s (n + 1 - s) = some 1 ∧ impl_MeetIn.f 100 n 1 s = impl_MeetIn.f 100 n s 1 ∧ (impl_MeetIn.f 100 n 1 s).isSome = true := by
  rcases size_cases hs with rfl | rfl | rfl
  · have : s = 1 ∨ s = 2 := by omega
    rcases this with rfl | rfl <;> exact ⟨by kernel_rfl, by kernel_rfl, by kernel_rfl⟩
  · have : s = 1 ∨ s = 2 ∨ s = 3 ∨ s = 4 := by omega
    rcases this with rfl | rfl | rfl | rfl <;> exact ⟨by kernel_rfl, by kernel_rfl, by kernel_rfl⟩
  · have : s = 1 ∨ s = 2 ∨ s = 3 ∨ s = 4 ∨ s = 5 ∨ s = 6 ∨ s = 7 ∨ s = 8 := by omega
    rcases this with rfl | rfl | rfl | rfl | rfl | rfl | rfl | rfl <;> exact ⟨by kernel_rfl, by kernel_rfl, by kernel_rfl⟩
theorem meetEv (n a b v : Int) (h : impl_MeetIn.f 100 n a b = some v) : Ev (fun k => impl_MeetIn.f k n a b) v := Ev.of (fun k => impl_MeetIn.mono n a b k) h
theorem toList_loop (t : ByteArray) : ∀ (d i : Nat) (r : List UInt8), t.size - i = d → (r ≠ [] ∨ i < t.size) → ByteArray.toList.loop t i r ≠ [] := by
  intro d
  induction d with
  | zero =>
    intro i r hd h
    rw [ByteArray.toList.loop, if_neg (by omega)]
    rcases h with h | h
    · simpa using h
    · omega
  | succ d ih =>
    intro i r hd h
    rw [ByteArray.toList.loop, if_pos (by omega)]
    exact ih (i + 1) _ (by omega) (.inl (by simp))
theorem toList_ne {t : ByteArray} (h : 0 < t.size) : (t.toList != ([] : List UInt8)) = true := by
  have : t.toList ≠ [] := toList_loop t t.size 0 [] (by omega) (.inr h)
  simpa using this
theorem dec_pos (n : Int) : 0 < (dec n).size := by
  unfold dec
  rw [mk_size, Lib.decDigits]
  split <;> simp
theorem cupLine_ne (n : Int) (l : List Int) (hc : cupT n l = true) : ∃ t, 0 < t.size ∧ Ev (fun k => impl_CupLine.f k n l) t := by
  have hn := cup_len hc
  have h7 : l.length ≤ 7 := by
    simp only [cupT, Bool.and_eq_true] at hc
    rcases size_cases hc.1 with rfl | rfl | rfl <;> omega
  have hr := winners_mem hc
  obtain ⟨c0, c1⟩ := champion_range n l
  have zc := dec_size _ c0 c1
  have s10 : (⟨#[32, 99, 104, 97, 109, 112, 105, 111, 110, 32]⟩ : ByteArray).size = 10 := rfl
  have fin : ∀ x : ByteArray, 0 < x.size → x.size ≤ 1000 → ∃ t, 0 < t.size ∧ impl_CupLine.j0 (200 + l.length + 62 + 1) x n l = some t := by
    intro x hx hx2
    rw [impl_CupLine.j0, implChampion n l (by omega), Option.bind_some]
    by_cases h : championT n l > 0
    · rw [if_pos h, implFormatInt _ c0 c1, Option.bind_some, if_pos (by omega), if_pos (by simp only [ByteArray.size_append, s10]; omega)]
      exact ⟨_, by simp only [ByteArray.size_append, s10]; omega, rfl⟩
    · rw [if_neg h]
      exact ⟨_, hx, rfl⟩
  have ec := implCupOk n l (by omega) 201
  rw [show 201 + l.length + 62 = 200 + l.length + 62 + 1 by omega] at ec
  by_cases h0 : (l.length : Int) > 0
  · have z := joinB_size ⟨#[32]⟩ 8 (l.map dec) (dec_mem_size hr)
    rw [one_size2, List.length_map] at z
    obtain ⟨t, ht, e⟩ := fin (joinB (l.map dec) ⟨#[32]⟩) (by
      cases l with
      | nil => simp at h0
      | cons a l =>
        have := dec_pos a
        rw [List.map_cons, joinB_cons, ByteArray.size_append]
        omega) (by omega)
    refine ⟨t, ht, Ev.of (fun k => impl_CupLine.mono n l k) (k := 200 + l.length + 62 + 1) ?_⟩
    unfold impl_CupLine.f
    rw [ec, Option.bind_some, if_pos hc, if_pos h0, show 200 + l.length + 62 + 1 = 262 + l.length + 1 by omega, texts_eq l (by omega) hr, Option.bind_some, join_eq _ _ (by rw [List.length_map]; omega) (by omega), Option.bind_some, show 262 + l.length + 1 = 200 + l.length + 62 + 1 by omega]
    exact e
  · obtain ⟨t, ht, e⟩ := fin ⟨#[110, 111, 110, 101]⟩ (by decide) (by decide)
    refine ⟨t, ht, Ev.of (fun k => impl_CupLine.mono n l k) (k := 200 + l.length + 62 + 1) ?_⟩
    unfold impl_CupLine.f
    rw [ec, Option.bind_some, if_pos hc, if_neg h0]
    exact e
theorem bracket_len (n : Int) (hs : sizeT n = true) : ∃ br, (br.length : Int) = n ∧ Ev (fun k => impl_BracketOf.f k n) br := by
  rcases size_cases hs with rfl | rfl | rfl
  · exact ⟨_, rfl, Ev.of (fun k => impl_BracketOf.mono 2 k) (implBracket2 0)⟩
  · exact ⟨_, rfl, Ev.of (fun k => impl_BracketOf.mono 4 k) (implBracket4 0)⟩
  · exact ⟨_, rfl, Ev.of (fun k => impl_BracketOf.mono 8 k) (implBracket8 0)⟩
theorem rounds_meet (n : Int) (hs : sizeT n = true) : ∃ v, impl_RoundsOf.f n = some v ∧ impl_MeetIn.f 100 n 1 2 = some v := by
  rcases size_cases hs with rfl | rfl | rfl
  · exact ⟨1, by kernel_rfl, by kernel_rfl⟩
  · exact ⟨2, by kernel_rfl, by kernel_rfl⟩
  · exact ⟨3, by kernel_rfl, by kernel_rfl⟩
end Go.Proofs.YtibmeomlokigjaaDoor.Q
namespace Go.Proofs.YtibmeomlokigjaaDoor.Q
open Go.RowKit Go.Proofs.YtibmeomlokigjaaDoorW.PrintWords Go.Proofs.YtibmeomlokigjaaDoorW.PrintLast Go.Proofs.YtibmeomlokigjaaDoorW.PrintMore
theorem fin_ev (n : Int) (l : List Int) (d : Nat) (hc : cupT n l = true) (hd : (l.length : Int) + d = n - 1) (s : Int) (hs : n < s) : Ev (fun k => laws_FnCups.l1 k (2 ^ d) (2 ^ d) s n l) true := by
  have hz : sizeT n = true := by simp only [cupT, Bool.and_eq_true] at hc; exact hc.1
  obtain ⟨br, hb, eb⟩ := bracket_len n hz
  obtain ⟨v, er, em⟩ := rounds_meet n hz
  obtain ⟨t, ht, et⟩ := cupLine_ne n l hc
  obtain ⟨e1, e2, e3⟩ := sub_wrap hc
  have hl : l.length ≤ 1048576 := by
    rcases size_cases hz with rfl | rfl | rfl <;> omega
  have ech : Ev (fun k => impl_ChampionOf.f k n l) (championT n l) := Ev.of (fun k => impl_ChampionOf.mono n l k) (implChampion n l hl 0)
  have hch : (championT n l = 0) = ((l.length : Int) < n - 1) := by
    unfold championT
    by_cases h : (l.length : Int) = n - 1
    · rw [if_pos ⟨hc, h⟩]
      have := winners_rangeN hc (l.length - 1) (by omega)
      apply propext
      constructor <;> intro _ <;> omega
    · rw [if_neg (fun h2 => h h2.2)]
      apply propext
      constructor <;> intro _ <;> omega
  have hbeq : ((championT n l == 0) == (decide ((l.length : Int) < (wrap64 (n - 1))))) = true := by
    rw [e1]
    by_cases h : championT n l = 0
    · have h2 := hch ▸ h
      rw [h, decide_eq_true h2]; rfl
    · have h2 : ¬ (l.length : Int) < n - 1 := hch ▸ h
      rw [decide_eq_false h2, beq_eq_false_iff_ne.mpr h]; rfl
  refine Ev.step (f := fun k => (impl_BracketOf.f k n).bind fun t787 => ((impl_ChampionOf.f k n l).bind fun t790 => (if (2 : Int) ^ d = 2 ^ d then (if (t787.length : Int) = n then ((impl_MeetIn.f k n 1 2).bind fun t791 => ((impl_RoundsOf.f n).bind fun t792 => (if t791 = t792 then (if ((t790 == 0) == (decide ((l.length : Int) < (wrap64 (n - 1))))) = true then (if t790 = 0 then ((impl_CupLine.f k n l).bind fun t793 => (some (t793.toList != ([] : List UInt8)))) else ((impl_WaysToWin.f k n l t790).bind fun t794 => (if t794 = 1 then ((impl_CupLine.f k n l).bind fun t795 => (some (t795.toList != ([] : List UInt8)))) else (some false)))) else (some false)) else (some false)))) else (some false)) else (some false)))) (fun k => by rw [laws_FnCups.l1, if_neg (by omega)]) ?_
  refine Ev.bind eb (Ev.bind ech ?_)
  refine Ev.congr (f := fun k => (impl_MeetIn.f k n 1 2).bind fun t791 => ((impl_RoundsOf.f n).bind fun t792 => (if t791 = t792 then (if ((championT n l == 0) == (decide ((l.length : Int) < (wrap64 (n - 1))))) = true then (if championT n l = 0 then ((impl_CupLine.f k n l).bind fun t793 => (some (t793.toList != ([] : List UInt8)))) else ((impl_WaysToWin.f k n l (championT n l)).bind fun t794 => (if t794 = 1 then ((impl_CupLine.f k n l).bind fun t795 => (some (t795.toList != ([] : List UInt8)))) else (some false)))) else (some false)) else (some false)))) (fun k => by rw [if_pos rfl, if_pos hb]) ?_
  refine Ev.bind (meetEv n 1 2 v em) ?_
  refine Ev.congr (f := fun k => if championT n l = 0 then ((impl_CupLine.f k n l).bind fun t793 => (some (t793.toList != ([] : List UInt8)))) else ((impl_WaysToWin.f k n l (championT n l)).bind fun t794 => (if t794 = 1 then ((impl_CupLine.f k n l).bind fun t795 => (some (t795.toList != ([] : List UInt8)))) else (some false)))) (fun k => by rw [er, Option.bind_some, if_pos rfl, if_pos hbeq]) ?_
  have last : Ev (fun k => (impl_CupLine.f k n l).bind fun t793 => (some (t793.toList != ([] : List UInt8)))) true :=
    Ev.bind et (Ev.congr (fun k => by rw [toList_ne ht]) (Ev.now true))
  by_cases h : championT n l = 0
  · exact Ev.congr (fun k => by rw [if_pos h]) last
  · have hn : (l.length : Int) = n - 1 := by
      have h2 : ¬ (l.length : Int) < n - 1 := hch ▸ h
      have := cup_len hc
      omega
    have hd0 : d = 0 := by omega
    subst hd0
    have hw : championT n l = l.getD (l.length - 1) 0 := by unfold championT; rw [if_pos ⟨hc, hn⟩]
    have hr := winners_rangeN hc (l.length - 1) (by omega)
    have ew : Ev (fun k => impl_WaysToWin.f k n l (championT n l)) 1 := ⟨100, fun k hk => by
      have := waysToWin n (championT n l) (by rw [hw]; exact hr.1) (by rw [hw]; exact hr.2) 0 l hc hd (k - 100)
      rw [show k - 100 + 2 * 0 + 100 = k by omega, waysT, if_pos hw.symm] at this
      exact this⟩
    refine Ev.congr (fun k => by rw [if_neg h]) (Ev.bind ew (Ev.congr (fun k => by rw [if_pos rfl]) last))
theorem loop_ev (n : Int) (l : List Int) (d : Nat) (hc : cupT n l = true) (hd : (l.length : Int) + d = n - 1) : ∀ (m : Nat) (s x4 : Int), s + m = n + 1 → 1 ≤ s → 0 ≤ x4 → x4 + sumT n d l m s = 2 ^ d → Ev (fun k => laws_FnCups.l1 k x4 (2 ^ d) s n l) true := by
  have hz : sizeT n = true := by simp only [cupT, Bool.and_eq_true] at hc; exact hc.1
  have h8 : n ≤ 8 := by rcases size_cases hz with rfl | rfl | rfl <;> decide
  have hd7 : d ≤ 7 := by omega
  have hp : (2 : Int) ^ d ≤ 128 := by
    have : d = 0 ∨ d = 1 ∨ d = 2 ∨ d = 3 ∨ d = 4 ∨ d = 5 ∨ d = 6 ∨ d = 7 := by omega
    rcases this with rfl | rfl | rfl | rfl | rfl | rfl | rfl | rfl <;> decide
  intro m
  induction m with
  | zero =>
    intro s x4 hs _ _ hx
    rw [sumT] at hx
    obtain rfl : x4 = 2 ^ d := by omega
    exact fin_ev n l d hc hd s (by omega)
  | succ m ih =>
    intro s x4 hs h1 h0 hx
    rw [sumT] at hx
    obtain ⟨m1, m2, m3⟩ := meet n s hz h1 (by omega)
    obtain ⟨v, hv⟩ := Option.isSome_iff_exists.mp m3
    have hr := waysT_range n s d l
    have hle := sumT_le n d l m (s + 1)
    have next := ih (s + 1) (x4 + waysT n d l s) (by omega) (by omega) (by omega) (by omega)
    have ew : Ev (fun k => impl_WaysToWin.f k n l s) (waysT n d l s) := ⟨2 * d + 100, fun k hk => by
      have := waysToWin n s h1 (by omega) d l hc hd (k - (2 * d + 100))
      rw [show k - (2 * d + 100) + 2 * d + 100 = k by omega] at this
      exact this⟩
    refine Ev.step (f := fun k => (impl_WaysToWin.f k n l s).bind fun t783 => ((impl_MeetIn.f k n s (wrap64 ((wrap64 (n + 1)) - s))).bind fun t784 => (if t784 = 1 then (if s > 1 then ((impl_MeetIn.f k n 1 s).bind fun t785 => ((impl_MeetIn.f k n s 1).bind fun t786 => (if t785 = t786 then (laws_FnCups.l1 k (wrap64 (x4 + t783)) (2 ^ d) (wrap64 (s + 1)) n l) else (some false)))) else (laws_FnCups.l1 k (wrap64 (x4 + t783)) (2 ^ d) (wrap64 (s + 1)) n l)) else (some false)))) (fun k => by rw [laws_FnCups.l1, if_pos (by omega)]) ?_
    refine Ev.bind ew ?_
    refine Ev.bind (a := 1) (Ev.congr (fun k => by rw [wrap_id (n + 1) (by omega) (by omega), wrap_id (n + 1 - s) (by omega) (by omega)]) (meetEv n s (n + 1 - s) 1 m1)) ?_
    refine Ev.congr (f := fun k => if s > 1 then ((impl_MeetIn.f k n 1 s).bind fun t785 => ((impl_MeetIn.f k n s 1).bind fun t786 => (if t785 = t786 then (laws_FnCups.l1 k (x4 + waysT n d l s) (2 ^ d) (s + 1) n l) else (some false)))) else (laws_FnCups.l1 k (x4 + waysT n d l s) (2 ^ d) (s + 1) n l)) (fun k => by rw [if_pos rfl, wrap_id (x4 + waysT n d l s) (by omega) (by omega), wrap_id (s + 1) (by omega) (by omega)]) ?_
    by_cases hs1 : s > 1
    · refine Ev.congr (fun k => by rw [if_pos hs1]) ?_
      exact Ev.bind (meetEv n 1 s v hv) (Ev.bind (meetEv n s 1 v (m2 ▸ hv)) (Ev.congr (fun k => by rw [if_pos rfl]) next))
    · exact Ev.congr (fun k => by rw [if_neg hs1]) next
theorem double_ev (n : Int) (l : List Int) (hc : cupT n l = true) (r : Bool) : ∀ (d : Nat) (i x5 : Int), 0 ≤ i → i + d = n - 1 → 1 ≤ x5 → x5 * 2 ^ d ≤ 128 → Ev (fun k => laws_FnCups.l1 k 0 (x5 * 2 ^ d) 1 n l) r → Ev (fun k => laws_FnCups.l0 k 0 x5 i n l) r := by
  obtain ⟨e1, e2, e3⟩ := sub_wrap hc
  have hz : sizeT n = true := by simp only [cupT, Bool.and_eq_true] at hc; exact hc.1
  have h8 : n ≤ 8 := by rcases size_cases hz with rfl | rfl | rfl <;> decide
  intro d
  induction d with
  | zero =>
    intro i x5 h0 hi hx hb ev
    refine Ev.step (fun k => by rw [laws_FnCups.l0, e1, if_neg (by omega)]) ?_
    simpa using ev
  | succ d ih =>
    intro i x5 h0 hi hx hb ev
    have hp : (1 : Int) ≤ 2 ^ d := by
      have : (0 : Int) < 2 ^ d := Int.pow_pos (by decide)
      omega
    have hb2 : 2 * x5 * 2 ^ d ≤ 128 := by
      have : x5 * 2 ^ (d + 1) = 2 * x5 * 2 ^ d := by rw [Int.pow_succ, Int.mul_comm (2 ^ d) 2, ← Int.mul_assoc, Int.mul_comm x5 2]
      omega
    have hx2 : 2 * x5 ≤ 128 := by
      have := Int.mul_le_mul_of_nonneg_left hp (show (0 : Int) ≤ 2 * x5 by omega)
      omega
    refine Ev.step (fun k => by rw [laws_FnCups.l0, e1, if_pos (by omega), wrap_id (2 * x5) (by omega) (by omega), wrap_id (i + 1) (by omega) (by omega)]) ?_
    refine ih (i + 1) (2 * x5) (by omega) (by omega) (by omega) hb2 ?_
    have : x5 * 2 ^ (d + 1) = 2 * x5 * 2 ^ d := by rw [Int.pow_succ, Int.mul_comm (2 ^ d) 2, ← Int.mul_assoc, Int.mul_comm x5 2]
    rw [← this]
    exact ev
end Go.Proofs.YtibmeomlokigjaaDoor.Q
namespace Go.Proofs.YtibmeomlokigjaaDoor.Pure
open Go.RowKit Go.Proofs.YtibmeomlokigjaaDoor.Q Go.Proofs.YtibmeomlokigjaaDoorW.PrintWords Go.Proofs.YtibmeomlokigjaaDoorW.PrintLast
theorem FnCups (code : List Int) (ok : code.length ≤ maxLen ∧ ∀ x ∈ code, (Lit.int .u8 x).wf = true) : ∃ k, laws_FnCups.f k code = some true := by
  have _hm := ok.1
  refine Ev.rounds ?_
  by_cases hl : (code.length : Int) > 1048576
  · exact Ev.congr (f := fun _ => some true) (fun k => by unfold laws_FnCups.f; rw [if_pos hl]) (Ev.now true)
  · obtain ⟨n, l, hc, em⟩ := makeCup_ok code (by omega)
    have hz : sizeT n = true := by simp only [cupT, Bool.and_eq_true] at hc; exact hc.1
    have hlen := cup_len hc
    have h8 : n ≤ 8 := by rcases size_cases hz with rfl | rfl | rfl <;> decide
    refine Ev.congr (f := fun k => (spec_MakeCup.f k code).bind fun bt776 => ((impl_CupOk.f k bt776.1 bt776.2).bind fun t781 => (if t781 = true then ((impl_CupSizeOk.f bt776.1).bind fun t782 => (laws_FnCups.j0 k (!t782) bt776.1 bt776.2)) else (laws_FnCups.j0 k true bt776.1 bt776.2)))) (fun k => by unfold laws_FnCups.f; rw [if_neg hl]) ?_
    refine Ev.bind em ?_
    refine Ev.bind (a := cupT n l) (Ev.of (fun k => impl_CupOk.mono n l k) (implCupOk n l (by omega) 0)) ?_
    refine Ev.congr (f := fun k => laws_FnCups.j0 k false n l) (fun k => by rw [if_pos hc, implSize, Option.bind_some, hz]; rfl) ?_
    refine Ev.step (f := fun k => laws_FnCups.l0 k 0 1 (l.length : Int) n l) (fun k => by rw [laws_FnCups.j0, if_neg (by simp)]) ?_
    obtain ⟨d, hd⟩ : ∃ d : Nat, (l.length : Int) + d = n - 1 := ⟨(n - 1 - l.length).toNat, by omega⟩
    have hp : (2 : Int) ^ d ≤ 128 := by
      have : d = 0 ∨ d = 1 ∨ d = 2 ∨ d = 3 ∨ d = 4 ∨ d = 5 ∨ d = 6 ∨ d = 7 := by omega
      rcases this with rfl | rfl | rfl | rfl | rfl | rfl | rfl | rfl <;> decide
    refine double_ev n l hc true d _ 1 (by omega) hd (by decide) (by omega) ?_
    rw [Int.one_mul]
    refine loop_ev n l d hc hd n.toNat 1 0 (by omega) (by decide) (by decide) ?_
    rw [sumT_all n hz d l hc hd]
    omega
end Go.Proofs.YtibmeomlokigjaaDoor.Pure
namespace Go.Proofs.YtibmeomlokigjaaDoor.fnCups
open Go.ChangeShapes Go.WideShapes Go.ChangeAt Go.RowKit
open Go.ChangeMaps (open_string shut_string)
set_option linter.unusedVariables false
theorem own : ownKnob Tryd.prog.godebug = none := by kernel_rfl
theorem laidOut : laidOutB Tryd.prog = true := by kernel_rfl
set_option maxRecDepth 100000 in
set_option maxHeartbeats 4000000 in
theorem lifted (os : Os) (started : os.Started) (H : Type) (enc : TypeId × Value → H) :
    ReturnsInHanded {} Tryd.checked os 9 .any (fun w args => (Rows.fnCupsSpec.pre enc Tryd.prog Tryd.f9 [] false w args ∧ laidMetH Tryd.prog Laid.laid3 w) ∧ sizedMet enc Tryd.prog Tryd.f9 (OpenSpec.ofChange Rows.fnCupsSpec) false w args)
      (Rows.fnCupsSpec.post enc Tryd.prog Tryd.f9 false true false false) := by
  refine returnsInHanded_of_change_and (C := Tryd.checked) (X := fun w _ => laidMetH Tryd.prog Laid.laid3 w) (fun _ _ _ hh h => h.of_heap hh) own started (by kernel_rfl) Tryd.func9
    (ChangeSpec.witness_shaped (enc := enc) (C := Tryd.checked) (os := os) (X := fun w _ => laidMetH Tryd.prog Laid.laid3 w) false (World.doorLaid Tryd.prog 400 os) #[.slice none 0 0] 8 rfl (Laid.door_shaped os _) (by kernel_rfl) (by kernel_rfl) (by kernel_rfl) (Laid.door_met os _)) ?_
  intro W base args ds gs before hval0 hW hcnd hsz0 hL _
  have hval : ∀ (j : Nat) t v, Tryd.f9.params[j]? = some t → args[j]? = some v → Value.okWide Tryd.prog W .any base t v := hval0
  have hW' := hW
  obtain ⟨p, q, hA0, hV, rfl, hfz, hnd⟩ := hW
  have hA : DataW.TrodAll enc Tryd.prog W 0 (fun _ => true) true Tryd.f9.params.toList args.toList ds p := hA0
  rw [Tryd.params9] at hA hval
  obtain ⟨v0, vs0, d0, ds0, p0, q0, hargs0, rfl, rfl, h0, r0⟩ := trodAll_cons hA
  obtain ⟨rfl, rfl, rfl⟩ := trodAll_nil r0
  obtain rfl : args = #[v0] := by cases args; simp_all
  obtain ⟨rfl, rfl⟩ := trodVars_none hV
  have k0 := h0; have lt0 : ∀ x ∈ p0, x.block < W.heap.size := by obtain ⟨m, hm⟩ := k0; exact DataW.trod_lt m _ _ _ hm
  obtain ⟨A0, c0, l0, rfl, hl0, hC0, ok0⟩ := Opens.trod_slice_val Tryd.underlying70 (hval 0 70 v0 rfl rfl) h0 (Opens.slice Tryd.underlying70 (Opens.int Tryd.underlying5) (by kernel_rfl) 5)
  clear hA0 hval0 hsz0
  obtain ⟨k, hk⟩ := Pure.FnCups l0 ok0
  refine (Q.laws_FnCups.calls k  A0 c0 l0 _ W hC0 hl0 hk).mono fun e W' ⟨he, bel⟩ => ?_
  subst he
  exact ⟨_, rfl, _, _, _, [], _, [], hW', trodAll_mk1 (shut_bool Tryd.underlying4 _), (trodAll_cons_mk (Below.trod laidOut (by kernel_rfl) (of_decide_eq_true (by kernel_rfl)) k0 bel lt0) trodAll_mk0), rfl, bel.frame _, fun h => by cases h⟩
theorem over : Rows.fnCupsRow.holds Tryd.pinned (OpenSpec.ofChange Rows.fnCupsSpec) :=
  OpenClaim.holds_of_wide 9 Tryd.f9 rfl rfl rfl rfl rfl rfl rfl ⟨rfl, rfl, rfl, rfl, rfl⟩ rfl rfl rfl rfl rfl (by kernel_rfl) Tryd.func9 (by kernel_rfl)
    (of_decide_eq_true (by kernel_rfl)) (by unfold Func.isWrapper; first | (rw [if_pos (by decide +kernel)]; kernel_rfl) | (rw [if_neg (by decide +kernel)]; exact ⟨rfl, rfl⟩))
    (fun os started H enc _ => lifted os started H enc)
theorem provedCard : Rows.FnCupsCardSaid :=
  Claim7.holds_tied_plain_at .later [] [.data, .data, .data] true (true, "a6e8e4b77242bb99ec034f5991610b756a84533526b99ec4e7efdd8f2b96172f") false
    over (fun _ h => by cases h) (by kernel_rfl) (fun _ h => by cases h) fnCups_row_tie rfl ⟨rfl, rfl⟩ (by kernel_rfl) rfl
    (fun f fn hf hfn => by
      obtain rfl : f = 9 := (Option.some.inj ((show Tryd.prog.funcNamed "loop.example/g00834/laws.FnCups" = some 9 by kernel_rfl).symm.trans hf)).symm
      obtain rfl : fn = Tryd.f9 := (Option.some.inj (Tryd.func9.symm.trans hfn)).symm
      refine ⟨by kernel_rfl, fun j t ht => ?_⟩
      have hm : t ∈ Tryd.f9.params.toList := List.mem_of_getElem? (i := j) (by rw [Array.getElem?_toList]; exact ht)
      have hall := List.all_eq_true.mp (show (Tryd.f9.params.toList.all fun t => !Tryd.prog.wantsStandIn t) = true by kernel_rfl) t hm
      exact Bool.not_eq_true' _ |>.mp hall)
    (by kernel_rfl)
end Go.Proofs.YtibmeomlokigjaaDoor.fnCups
namespace Go.Proofs.YtibmeomlokigjaaDoor
theorem fnCups_holds : Rows.FnCupsCardSaid := fnCups.provedCard
end Go.Proofs.YtibmeomlokigjaaDoor
