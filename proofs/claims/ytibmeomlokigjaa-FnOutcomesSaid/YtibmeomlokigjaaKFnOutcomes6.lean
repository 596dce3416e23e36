/- The law FnOutcomes returns true for every input (outcomes are numbered, and a book with an outcome has no open games): its pure statement. No condition. -/
import Derived.Test.YtibmeomlokigjaaKFnOutcomes1
import Derived.Test.YtibmeomlokigjaaProg
import Derived.Below
import Derived.Deep.Draws
import Derived.Deep.AppendLies
import Derived.Maps.AppendAt
import Derived.OwnWalk
import Derived.Laws.BytesArg
import Derived.Laws.MakeOwn
import Derived.Laws.OwnMore
import Derived.Deep.OwnRows
import Derived.Tactics
import Derived.Lib.ConvBytes
import Derived.Laws.Slices
import Derived.WalkKit
import Derived.KernelRfl
import Derived.RowKit3
import Derived.Deep.LoopGhost
import Derived.Deep.QuietTactic
import Derived.BigQuiet
import Derived.WideLaws
import Derived.Deep.DeepCutAuto
import Derived.Deep.CutBlock
import Derived.Deep.RegionHeld3
import Derived.Laws.Rows
import Derived.Lib.AppendStr
import Derived.ArgAppend
import Derived.Laws.IdiomCopy
import Derived.OrdersHeld
import Derived.Laws.BitsLemmas
import Derived.RowKit
import Derived.WalkSpells
import Derived.Laws.StructEq
import Derived.Test.YtibmeomlokigjaaKFnOutcomes2
import Derived.Test.YtibmeomlokigjaaKFnOutcomes3
import Derived.Test.YtibmeomlokigjaaKFnOutcomes5
import Derived.Test.YtibmeomlokigjaaKFnOutcomes4
import Derived.SizedLaws
import Derived.ChangeSlices
import Derived.Test.YtibmeomlokigjaaRows
import Derived.ProofKit
import Derived.OpenShut
import Derived.ShutString
import Derived.ChangeOld
namespace Go.Proofs.Ytibmeomlokigjaa.Q
open Go.RowKit Go.Proofs.YtibmeomlokigjaaW.PrintWords Go.Proofs.YtibmeomlokigjaaW.PrintLast Go.Proofs.YtibmeomlokigjaaW.PrintMore
theorem has_eq (l : List Int) (x : Int) (hl : l.length ≤ 2305843009213693952) (k : Nat) (hk : l.length < k) : spec_l02Has.f k l x = some (hasI l x) := by
  have key : ∀ (d i : Nat), l.length - i = d → i ≤ l.length → ∀ k, d < k → spec_l02Has.l0 k x l l.length i = some (hasI (l.drop i) x) := by
    intro d
    induction d with
    | zero =>
      intro i hd hi k hk
      obtain ⟨k, rfl⟩ : ∃ m, k = m + 1 := ⟨k - 1, by omega⟩
      simp only [spec_l02Has.l0]
      rw [if_neg (by omega), List.drop_eq_nil_of_le (by omega)]
      rfl
    | succ d ih =>
      intro i hd hi k hk
      obtain ⟨k, rfl⟩ : ∃ m, k = m + 1 := ⟨k - 1, by omega⟩
      have hlt : i < l.length := by omega
      have := ih (i + 1) (by omega) (by omega) k (by omega)
      simp only [spec_l02Has.l0]
      rw [if_pos (by omega), if_pos (by omega), if_pos (by omega), rd_eq l i hlt, wrap_succ i (by omega), this, List.drop_eq_getElem_cons hlt]
      simp only [hasI, List.any_cons]
      by_cases h : l[i] = x
      · rw [if_pos h]; simp [h]
      · rw [if_neg h]; simp [show ¬ x = l[i] from fun e => h e.symm]
  unfold spec_l02Has.f
  have := key l.length 0 (by omega) (by omega) k hk
  simpa using this
def LadderMade (l : List Int) : Prop := ∃ mid, l = 1 :: mid ++ [8] ∧ mid.length ≤ 3 ∧ (∀ x, x ∈ mid → 2 ≤ x ∧ x ≤ 7) ∧ mid.Nodup
theorem rules_ok {b : List Int} {i : Int} (h : Int) (hc : CurOk b i) : ∃ (win : Int) (l : List Int) (again : Bool) (i' h' : Int), Ev (fun k => spec_l03Draw.f k b i h) (win, 1, 0, l, again, i', h') ∧ 2 ≤ win ∧ win ≤ 3 ∧ LadderMade l ∧ CurOk b i' := by
  obtain ⟨r, i1, g1, e1, r0, r1, hc1⟩ := below_ok h 2 hc (by omega) (by omega)
  obtain ⟨ag, i2, g2, e2, hc2⟩ := once_ok g1 2 hc1 (by omega) (by omega)
  obtain ⟨m, i3, g3, e3, m0, m1, hc3⟩ := below_ok g2 4 hc2 (by omega) (by omega)
  have key : ∀ (d : Nat) (mid : List Int) (i h : Int), CurOk b i → mid.length + d ≤ 3 → (∀ x, x ∈ mid → 2 ≤ x ∧ x ≤ 7) → mid.Nodup →
      ∃ (l : List Int) (i' h' : Int), (∀ k, d + 4 < k → spec_l03Draw.l0 k d b i h (wrap64 (2 + r)) 1 0 (1 :: mid) ag = some (wrap64 (2 + r), 1, 0, l, ag, i', h')) ∧ LadderMade l ∧ CurOk b i' := by
    intro d
    induction d with
    | zero =>
      intro mid i h hc hl hm hn
      refine ⟨1 :: mid ++ [8], i, h, fun k hk => ?_, ⟨mid, rfl, by omega, hm, hn⟩, hc⟩
      obtain ⟨k, rfl⟩ : ∃ m, k = m + 1 := ⟨k - 1, by omega⟩
      simp only [spec_l03Draw.l0]
      rw [if_neg (by omega), if_pos (by simp; omega)]
    | succ d ih =>
      intro mid i h hc hl hm hn
      obtain ⟨x, i4, g4, e4, x0, x1, hc4⟩ := below_ok h 6 hc (by omega) (by omega)
      have hw : wrap64 (2 + x) = 2 + x := by unfold wrap64; omega
      have hd : wrap64 (((d + 1 : Nat) : Int) - 1) = (d : Int) := by unfold wrap64; omega
      by_cases hh : hasI (1 :: mid) (2 + x) = true
      · obtain ⟨l, i', h', e5, hl5, hc5⟩ := ih mid i4 g4 hc4 (by omega) hm hn
        refine ⟨l, i', h', fun k hk => ?_, hl5, hc5⟩
        obtain ⟨k, rfl⟩ : ∃ m, k = m + 1 := ⟨k - 1, by omega⟩
        simp only [spec_l03Draw.l0]
        rw [if_pos (by omega), e4]
        simp only [Option.bind_some]
        rw [hw, has_eq _ _ (by simp; omega) k (by simp; omega), hh, hd]
        simp only [Option.bind_some, if_true]
        exact e5 k (by omega)
      · have hh' : hasI (1 :: mid) (2 + x) = false := by simpa using hh
        have hni : 2 + x ∉ mid := by
          intro hin
          apply hh
          unfold hasI
          rw [List.any_eq_true]
          exact ⟨2 + x, by simp [hin], by simp⟩
        obtain ⟨l, i', h', e5, hl5, hc5⟩ := ih (mid ++ [2 + x]) i4 g4 hc4 (by simp; omega) (by
          intro y hy
          rw [List.mem_append] at hy
          rcases hy with hy | hy
          · exact hm y hy
          · rw [List.mem_singleton] at hy; omega) (by
          rw [List.nodup_append]
          refine ⟨hn, by simp, ?_⟩
          intro y hy z hz
          rw [List.mem_singleton] at hz
          subst hz
          rintro rfl
          exact hni hy)
        refine ⟨l, i', h', fun k hk => ?_, hl5, hc5⟩
        obtain ⟨k, rfl⟩ : ∃ m, k = m + 1 := ⟨k - 1, by omega⟩
        simp only [spec_l03Draw.l0]
        rw [if_pos (by omega), e4]
        simp only [Option.bind_some]
        rw [hw, has_eq _ _ (by simp; omega) k (by simp; omega), hh', hd]
        simp only [Option.bind_some, Bool.false_eq_true, if_false]
        rw [if_pos (by simp; omega)]
        exact e5 k (by omega)
  obtain ⟨d, rfl⟩ := Int.eq_ofNat_of_zero_le m0
  obtain ⟨l, i', h', e4, hl, hc4⟩ := key d [] i3 g3 hc3 (by simp; omega) (by simp) (by simp)
  refine ⟨wrap64 (2 + r), l, ag, i', h', ⟨d + 5, fun k hk => ?_⟩, by unfold wrap64; omega, by unfold wrap64; omega, hl, hc4⟩
  unfold spec_l03Draw.f
  rw [e1]
  simp only [Option.bind_some]
  rw [e2]
  simp only [Option.bind_some]
  rw [e3]
  simp only [Option.bind_some]
  exact e4 k (by omega)
theorem hasI_mem (l : List Int) (x : Int) : hasI l x = decide (x ∈ l) := by
  unfold hasI
  rw [Bool.eq_iff_iff, List.any_eq_true]
  simp
theorem ladderFrom_ok (l : List Int) : ∀ pre, (∀ x, x ∈ l → 1 ≤ x ∧ x ≤ 8) → (pre ++ l).Nodup → ladderFrom pre l = true := by
  induction l with
  | nil => intro pre _ _; rfl
  | cons t l ih =>
    intro pre h1 h2
    rw [ladderFrom, ih (pre ++ [t]) (fun x hx => h1 x (by simp [hx])) (by simpa using h2), hasI_mem]
    have := h1 t (by simp)
    have hn : t ∉ pre := by
      rw [List.nodup_append] at h2
      intro ht
      exact h2.2.2 t ht t (by simp) rfl
    simp [withinB, hn]
    omega
theorem ladderMade_ok {win : Int} {l : List Int} (h : LadderMade l) (h2 : 2 ≤ win) (h3 : win ≤ 3) : rulesOkB win 1 0 l = true ∧ l.length ≤ 5 := by
  obtain ⟨mid, rfl, hl, hm, hn⟩ := h
  have hnd : (1 :: mid ++ [8]).Nodup := by
    rw [List.nodup_append, List.nodup_cons]
    refine ⟨⟨fun h1 => by have := hm 1 h1; omega, hn⟩, by simp, ?_⟩
    intro a ha b hb
    rw [List.mem_singleton] at hb
    subst hb
    rintro rfl
    rcases List.mem_cons.1 ha with h1 | h1
    · omega
    · have := hm 8 h1; omega
  have hf := ladderFrom_ok (1 :: mid ++ [8]) [] (by
    intro x hx
    simp only [List.cons_append, List.mem_cons, List.mem_append, List.not_mem_nil, or_false] at hx
    rcases hx with rfl | hx | rfl
    · omega
    · have := hm x hx; omega
    · omega) (by simpa using hnd)
  refine ⟨?_, by simp; omega⟩
  unfold rulesOkB
  rw [hf]
  simp [withinB]
  omega
def gLo (g : Game) : Int := if g.f0 < g.f1 then g.f0 else g.f1
def gHi (g : Game) : Int := if g.f0 < g.f1 then g.f1 else g.f0
structure SeasonInv (n : Int) (op : Int) (l : List Game) (b a x2 : Int) : Prop where
  ok : ∀ g, g ∈ l → gameOkB n g = true
  before : ∀ g, g ∈ l → gHi g < b ∨ gHi g = b ∧ gLo g < a
  apart : List.Pairwise (fun x g => gameIs g.f0 g.f1 x = false) l
  open_ : ((l.filter isOpenB).length : Int) + x2 = op
  len : (l.length : Int) * 2 = b * (b - 1) + 2 * a
  x2_0 : 0 ≤ x2
theorem SeasonInv.add {n op : Int} {l : List Game} {b a x2 x2' : Int} (h : SeasonInv n op l b a x2) (g : Game) (hg : gameOkB n g = true) (ha : gHi g = b ∧ gLo g = a) (ho : (if isOpenB g then x2' + 1 else x2') = x2) (h0 : 0 ≤ x2') : SeasonInv n op (l ++ [g]) b (a + 1) x2' := by
  refine ⟨?_, ?_, ?_, ?_, ?_, h0⟩
  · intro x hx
    rcases List.mem_append.1 hx with hx | hx
    · exact h.ok x hx
    · rw [List.mem_singleton] at hx; subst hx; exact hg
  · intro x hx
    rcases List.mem_append.1 hx with hx | hx
    · have := h.before x hx; omega
    · rw [List.mem_singleton] at hx; subst hx; omega
  · rw [List.pairwise_append]
    refine ⟨h.apart, by simp, ?_⟩
    intro x hx y hy
    rw [List.mem_singleton] at hy
    subst hy
    have hb := h.before x hx
    obtain ⟨h1, h2⟩ := ha
    unfold gameIs
    unfold gHi gLo at *
    rw [Bool.and_eq_false_iff, beq_eq_false_iff_ne, beq_eq_false_iff_ne]
    by_cases h5 : x.f0 = y.f0
    · by_cases h6 : x.f1 = y.f1
      · rw [h5, h6] at hb
        omega
      · exact .inr h6
    · exact .inl h5
  · rw [List.filter_append, List.length_append]
    have := h.open_
    cases hq : isOpenB g with
    | true => rw [hq] at ho; simp [hq] at ho ⊢; omega
    | false => rw [hq] at ho; simp [hq] at ho ⊢; omega
  · have := h.len
    simp
    omega
def SeasonMade (n op : Int) (l : List Game) : Prop := ∃ x2, SeasonInv n op l n 0 x2
theorem season_ok {b : List Int} {i : Int} (h : Int) (n : Nat) (op : Int) (hc : CurOk b i) (h1 : 2 ≤ n) (h2 : n ≤ 8) (o0 : 0 ≤ op) (o1 : op ≤ 8) : ∃ (l : List Game) (i' h' : Int), Ev (fun k => spec_l04Season.f k b i h n op) (l, i', h') ∧ SeasonMade n op l ∧ CurOk b i' := by
  have inner : ∀ (bb : Nat), 1 ≤ bb → bb < n →
      (∀ (l : List Game) (x2 i h : Int), CurOk b i → SeasonInv n op l ((bb + 1 : Nat) : Int) 0 x2 → ∃ (r : List Game) (i' h' : Int), Ev (fun k => spec_l04Season.l0 k n x2 l ((bb + 1 : Nat) : Int) b i h) (r, i', h') ∧ SeasonMade n op r ∧ CurOk b i') →
      ∀ (d a : Nat), bb - a = d → a ≤ bb → ∀ (l : List Game) (x2 i h : Int), CurOk b i → SeasonInv n op l bb a x2 →
      ∃ (r : List Game) (i' h' : Int), Ev (fun k => spec_l04Season.l1 k n x2 l bb a b i h) (r, i', h') ∧ SeasonMade n op r ∧ CurOk b i' := by
    intro bb hb1 hbn next d
    induction d with
    | zero =>
      intro a hd ha l x2 i h hc inv
      obtain ⟨r, i', h', e, hr, hc'⟩ := next l x2 i h hc ⟨inv.ok, fun g hg => by have := inv.before g hg; omega, inv.apart, inv.open_, by
        have := inv.len
        have hab : (a : Int) = bb := by omega
        rw [hab] at this
        rw [this]
        rw [show ((bb + 1 : Nat) : Int) = (bb : Int) + 1 by omega]
        rw [show (bb : Int) + 1 - 1 = bb by omega, Int.mul_sub, Int.add_mul]
        omega, inv.x2_0⟩
      refine ⟨r, i', h', ?_, hr, hc'⟩
      refine Ev.step (f := fun k => spec_l04Season.l0 k n x2 l ((bb + 1 : Nat) : Int) b i h) (fun k => ?_) e
      simp only [spec_l04Season.l1]
      rw [if_neg (by omega), wrap_succ bb (by omega)]
    | succ d ih =>
      intro a hd ha l x2 i h hc inv
      have hx2 := inv.x2_0
      have hx2' : x2 ≤ op := by have := inv.open_; omega
      have hlen : l.length ≤ 64 := by
        have h6 := inv.len
        have : (bb : Int) * (bb - 1) ≤ 7 * 7 := Int.mul_le_mul (by omega) (by omega) (by omega) (by omega)
        omega
   
      have fin : ∀ (g : Game) (x2' i h : Int), CurOk b i → gameOkB n g = true → (gHi g = bb ∧ gLo g = a) → (if isOpenB g then x2' + 1 else x2') = x2 → 0 ≤ x2' →
          ∃ (r : List Game) (i' h' : Int), Ev (fun k => spec_l04Season.l1 k n x2' (l ++ [g]) bb ((a + 1 : Nat) : Int) b i h) (r, i', h') ∧ SeasonMade n op r ∧ CurOk b i' := by
        intro g x2' i h hc hg hh ho h0
        exact ih (a + 1) (by omega) (by omega) (l ++ [g]) x2' i h hc (inv.add g hg hh ho h0)
      have j4 : ∀ (x y st x2' i h : Int), CurOk b i → (x = bb ∧ y = a ∨ x = a ∧ y = bb) → 0 ≤ st → st ≤ 4 → (if st = 0 then x2' + 1 else x2') = x2 → 0 ≤ x2' →
          ∃ (r : List Game) (i' h' : Int), Ev (fun k => spec_l04Season.j4 k n x2' l bb a b i h x y 0 0 st) (r, i', h') ∧ SeasonMade n op r ∧ CurOk b i' := by
        intro x y st x2' i h hc hxy s0 s4 ho h0
        have hhl : ∀ g : Game, g.f0 = x → g.f1 = y → gHi g = bb ∧ gLo g = a := by
          intro g e1 e2
          unfold gHi gLo
          rw [e1, e2]
          rcases hxy with ⟨rfl, rfl⟩ | ⟨rfl, rfl⟩
          · rw [if_neg (by omega), if_neg (by omega)]; exact ⟨rfl, rfl⟩
          · rw [if_pos (by omega), if_pos (by omega)]; exact ⟨rfl, rfl⟩
        by_cases h1 : st = 1
        · obtain ⟨p, i1, g1, e1, p0, p1, hc1⟩ := below_ok h 4 hc (by omega) (by omega)
          obtain ⟨q, i2, g2, e2, q0, q1, hc2⟩ := below_ok g1 4 hc1 (by omega) (by omega)
          obtain ⟨r, i', h', e, hr, hc'⟩ := fin ⟨x, y, p, q, st⟩ x2' i2 g2 hc2 (by
            unfold gameOkB withinB
            simp [h1]
            omega) (hhl _ rfl rfl) (by unfold isOpenB; simp [h1]; simpa [h1] using ho) h0
          refine ⟨r, i', h', Ev.step (f := fun k => spec_l04Season.l1 k n x2' (l ++ [⟨x, y, p, q, st⟩]) bb ((a + 1 : Nat) : Int) b i2 g2) (fun k => ?_) e, hr, hc'⟩
          simp only [spec_l04Season.j4]
          rw [if_pos h1, e1]
          simp only [Option.bind_some]
          rw [e2]
          simp only [Option.bind_some]
          rw [if_pos (by omega), wrap_succ a (by omega)]
        · obtain ⟨r, i', h', e, hr, hc'⟩ := fin ⟨x, y, 0, 0, st⟩ x2' i h hc (by
            unfold gameOkB withinB
            simp [h1]
            omega) (hhl _ rfl rfl) (by
            unfold isOpenB
            by_cases h5 : st = 0
            · simp [h5]; simpa [h5] using ho
            · simp [h5]; simpa [h5] using ho) h0
          refine ⟨r, i', h', Ev.step (f := fun k => spec_l04Season.l1 k n x2' (l ++ [⟨x, y, 0, 0, st⟩]) bb ((a + 1 : Nat) : Int) b i h) (fun k => ?_) e, hr, hc'⟩
          simp only [spec_l04Season.j4]
          rw [if_neg h1, if_pos (by omega), wrap_succ a (by omega)]
      have j3 : ∀ (x y : Int) (t : Bool) (i h : Int), CurOk b i → (x = bb ∧ y = a ∨ x = a ∧ y = bb) → (t = true → 0 < x2) →
          ∃ (r : List Game) (i' h' : Int), Ev (fun k => spec_l04Season.j3 k n x2 l bb a t b i h x y 0 0 0) (r, i', h') ∧ SeasonMade n op r ∧ CurOk b i' := by
        intro x y t i h hc hxy ht
        cases t with
        | true =>
          have hw : wrap64 (x2 - 1) = x2 - 1 := by unfold wrap64; omega
          obtain ⟨r, i', h', e, hr, hc'⟩ := j4 x y 0 (x2 - 1) i h hc hxy (by omega) (by omega) (by simp) (by have := ht rfl; omega)
          refine ⟨r, i', h', Ev.step (f := fun k => spec_l04Season.j4 k n (x2 - 1) l bb a b i h x y 0 0 0) (fun k => ?_) e, hr, hc'⟩
          simp only [spec_l04Season.j3]
          rw [if_pos trivial, hw]
        | false =>
          obtain ⟨st, i1, g1, e1, hst, hc1⟩ := pick_ok h [1, 1, 1, 1, 1, 1, 2, 3, 4] hc (by decide) (by decide)
          have hst' : 1 ≤ st ∧ st ≤ 4 := by
            simp only [List.mem_cons, List.not_mem_nil, or_false] at hst
            omega
          obtain ⟨r, i', h', e, hr, hc'⟩ := j4 x y st x2 i1 g1 hc1 hxy (by omega) (by omega) (by rw [if_neg (by omega)]) hx2
          refine ⟨r, i', h', Ev.step (f := fun k => spec_l04Season.j4 k n x2 l bb a b i1 g1 x y 0 0 st) (fun k => ?_) e, hr, hc'⟩
          simp only [spec_l04Season.j3]
          rw [if_neg (by decide), e1]
          rfl
      have j2 : ∀ (x y : Int) (i h : Int), CurOk b i → (x = bb ∧ y = a ∨ x = a ∧ y = bb) →
          ∃ (r : List Game) (i' h' : Int), Ev (fun k => spec_l04Season.j2 k n x2 l bb a b i h x y 0 0 0) (r, i', h') ∧ SeasonMade n op r ∧ CurOk b i' := by
        intro x y i h hc hxy
        by_cases h5 : x2 > 0
        · obtain ⟨t, i1, g1, e1, hc1⟩ := once_ok h 3 hc (by omega) (by omega)
          obtain ⟨r, i', h', e, hr, hc'⟩ := j3 x y t i1 g1 hc1 hxy (fun _ => h5)
          refine ⟨r, i', h', Ev.step (f := fun k => spec_l04Season.j3 k n x2 l bb a t b i1 g1 x y 0 0 0) (fun k => ?_) e, hr, hc'⟩
          simp only [spec_l04Season.j2]
          rw [if_pos h5, e1]
          rfl
        · obtain ⟨r, i', h', e, hr, hc'⟩ := j3 x y false i h hc hxy (fun h => by cases h)
          refine ⟨r, i', h', Ev.step (f := fun k => spec_l04Season.j3 k n x2 l bb a false b i h x y 0 0 0) (fun k => ?_) e, hr, hc'⟩
          simp only [spec_l04Season.j2]
          rw [if_neg h5]
      obtain ⟨t, i1, g1, e1, hc1⟩ := once_ok h 2 hc (by omega) (by omega)
      cases t with
      | true =>
        obtain ⟨r, i', h', e, hr, hc'⟩ := j2 bb a i1 g1 hc1 (.inl ⟨rfl, rfl⟩)
        refine ⟨r, i', h', Ev.step (f := fun k => spec_l04Season.j2 k n x2 l bb a b i1 g1 bb a 0 0 0) (fun k => ?_) e, hr, hc'⟩
        simp only [spec_l04Season.l1]
        rw [if_pos (by omega), e1]
        rfl
      | false =>
        obtain ⟨r, i', h', e, hr, hc'⟩ := j2 a bb i1 g1 hc1 (.inr ⟨rfl, rfl⟩)
        refine ⟨r, i', h', Ev.step (f := fun k => spec_l04Season.j2 k n x2 l bb a b i1 g1 a bb 0 0 0) (fun k => ?_) e, hr, hc'⟩
        simp only [spec_l04Season.l1]
        rw [if_pos (by omega), e1]
        rfl
  have outer : ∀ (d bb : Nat), n - bb = d → 1 ≤ bb → bb ≤ n → ∀ (l : List Game) (x2 i h : Int), CurOk b i → SeasonInv n op l bb 0 x2 →
      ∃ (r : List Game) (i' h' : Int), Ev (fun k => spec_l04Season.l0 k n x2 l bb b i h) (r, i', h') ∧ SeasonMade n op r ∧ CurOk b i' := by
    intro d
    induction d with
    | zero =>
      intro bb hd hb1 hbn l x2 i h hc inv
      obtain rfl : bb = n := by omega
      refine ⟨l, i, h, ⟨1, fun k hk => ?_⟩, ⟨x2, inv⟩, hc⟩
      obtain ⟨k, rfl⟩ : ∃ m, k = m + 1 := ⟨k - 1, by omega⟩
      simp only [spec_l04Season.l0]
      rw [if_neg (by omega)]
    | succ d ih =>
      intro bb hd hb1 hbn l x2 i h hc inv
      obtain ⟨r, i', h', e, hr, hc'⟩ := inner bb hb1 (by omega) (ih (bb + 1) (by omega) (by omega) (by omega)) bb 0 (by omega) (by omega) l x2 i h hc inv
      refine ⟨r, i', h', Ev.step (f := fun k => spec_l04Season.l1 k n x2 l bb 0 b i h) (fun k => ?_) e, hr, hc'⟩
      simp only [spec_l04Season.l0]
      rw [if_pos (by omega)]
  have := outer (n - 1) 1 rfl (by omega) (by omega) [] op i h hc ⟨by simp, by simp, by simp, by simp, by simp, o0⟩
  exact this
theorem seasonFrom_ok (n : Int) (l : List Game) : ∀ pre, (∀ g, g ∈ l → gameOkB n g = true) → List.Pairwise (fun x g => gameIs g.f0 g.f1 x = false) (pre ++ l) → seasonFrom n pre l = true := by
  induction l with
  | nil => intro pre _ _; rfl
  | cons t l ih =>
    intro pre h1 h2
    rw [seasonFrom, h1 t (by simp), ih (pre ++ [t]) (fun x hx => h1 x (by simp [hx])) (by simpa using h2)]
    have : pre.any (gameIs t.f0 t.f1) = false := by
      rw [List.any_eq_false]
      intro x hx
      rw [List.pairwise_append] at h2
      simpa using h2.2.2 x hx t (by simp)
    rw [this]
    rfl
theorem whereI_length {α : Type} (p : α → Bool) (l : List α) : ∀ i, (whereI p i l).length = (l.filter p).length := by
  induction l with
  | nil => intro i; rfl
  | cons x l ih =>
    intro i
    simp only [whereI, List.length_append, ih, List.filter_cons]
    cases p x <;> simp <;> omega
theorem seasonMade_ok {n : Nat} {op : Int} {l : List Game} (h : SeasonMade n op l) (h1 : 1 ≤ n) (h2 : n ≤ 8) : seasonOkB n l = true ∧ l.length ≤ 28 ∧ ((openI l).length : Int) ≤ op := by
  obtain ⟨x2, inv⟩ := h
  have hl : l.length ≤ 28 := by
    have h6 := inv.len
    have : (n : Int) * (n - 1) ≤ 8 * 7 := Int.mul_le_mul (by omega) (by omega) (by omega) (by omega)
    omega
  refine ⟨?_, hl, ?_⟩
  · unfold seasonOkB
    rw [seasonFrom_ok n l [] inv.ok (by simpa using inv.apart)]
    simp
    omega
  · unfold openI
    rw [whereI_length]
    have := inv.open_
    have := inv.x2_0
    omega
def PensMade (n : Nat) (hi : Int) (l : List Int) : Prop := l.length = n ∧ ∀ x, x ∈ l → 0 ≤ x ∧ x ≤ hi
theorem pensMade_ok {n : Nat} {hi : Int} {l : List Int} (h : PensMade n hi l) (hh : hi ≤ 1000) : penaltiesB l n = true := by
  unfold penaltiesB
  rw [decide_eq_true (by rw [h.1])]
  simp only [Bool.true_and, Bool.not_eq_true', List.any_eq_false]
  intro x hx
  have := h.2 x hx
  simp [withinB]
  omega
structure BookMade (n : Nat) (op : Int) (field : List Team) (win draw loss : Int) (ladder : List Int) (games : List Game) (fair taken : List Int) : Prop where
  n2 : 2 ≤ n
  n8 : n ≤ 8
  field_ : ∃ turn, FieldMade n turn field ∧ 0 ≤ turn ∧ turn < n
  win2 : 2 ≤ win
  win3 : win ≤ 3
  draw1 : draw = 1
  loss0 : loss = 0
  ladder_ : LadderMade ladder
  games_ : SeasonMade n op games
  fair_ : PensMade n 3 fair
  taken_ : PensMade n 1 taken
theorem book_ok {b : List Int} {i : Int} (h : Int) (n : Nat) (op : Int) (hc : CurOk b i) (h1 : 2 ≤ n) (h2 : n ≤ 8) (o0 : 0 ≤ op) (o1 : op ≤ 8) :
    ∃ (field : List Team) (win : Int) (ladder : List Int) (again : Bool) (games : List Game) (fair taken : List Int) (i' h' : Int), Ev (fun k => spec_l07Book.f k b i h n op) (field, win, 1, 0, ladder, again, games, fair, taken, i', h') ∧ BookMade n op field win 1 0 ladder games fair taken ∧ CurOk b i' := by
  obtain ⟨field, i1, g1, turn, ⟨K1, e1⟩, t0, t1, hf, hc1⟩ := field_ok h n hc (by omega) h2
  obtain ⟨win, ladder, again, i2, g2, ⟨K2, e2⟩, w2, w3, hld, hc2⟩ := rules_ok g1 hc1
  obtain ⟨games, i3, g3, ⟨K3, e3⟩, hg, hc3⟩ := season_ok g2 n op hc2 h1 h2 o0 o1
  have key : ∀ (d j : Nat), n - j = d → j ≤ n → ∀ (fair taken : List Int) (i h : Int), CurOk b i → PensMade j 3 fair → PensMade j 1 taken →
      ∃ (fair' taken' : List Int) (i' h' : Int), (∀ k, d < k → spec_l07Book.l0 k n j b i h field win 1 0 ladder again games fair taken = some (field, win, 1, 0, ladder, again, games, fair', taken', i', h')) ∧ PensMade n 3 fair' ∧ PensMade n 1 taken' ∧ CurOk b i' := by
    intro d
    induction d with
    | zero =>
      intro j hd hj fair taken i h hc hq ht
      have hjn : j = n := by omega
      subst hjn
      refine ⟨fair, taken, i, h, fun k hk => ?_, hq, ht, hc⟩
      obtain ⟨k, rfl⟩ : ∃ m, k = m + 1 := ⟨k - 1, by omega⟩
      simp only [spec_l07Book.l0]
      rw [if_neg (by omega)]
    | succ d ih =>
      intro j hd hj fair taken i h hc hq ht
      obtain ⟨x, i4, g4, e4, x0, x1, hc4⟩ := below_ok h 4 hc (by omega) (by omega)
      obtain ⟨y, i5, g5, e5, hy, hc5⟩ := pick_ok g4 [0, 0, 0, 1] hc4 (by decide) (by decide)
      have hy' : 0 ≤ y ∧ y ≤ 1 := by
        simp only [List.mem_cons, List.not_mem_nil, or_false] at hy
        omega
      have add : ∀ (hi z : Int) (l : List Int), PensMade j hi l → 0 ≤ z → z ≤ hi → PensMade (j + 1) hi (l ++ [z]) := by
        intro hi z l hl z0 z1
        refine ⟨by simp [hl.1], fun x hx => ?_⟩
        rcases List.mem_append.1 hx with hx | hx
        · exact hl.2 x hx
        · rw [List.mem_singleton] at hx; omega
      obtain ⟨fair', taken', i', h', e6, a, b', c⟩ := ih (j + 1) (by omega) (by omega) (fair ++ [x]) (taken ++ [y]) i5 g5 hc5 (add 3 x fair hq x0 (by omega)) (add 1 y taken ht hy'.1 hy'.2)
      refine ⟨fair', taken', i', h', fun k hk => ?_, a, b', c⟩
      obtain ⟨k, rfl⟩ : ∃ m, k = m + 1 := ⟨k - 1, by omega⟩
      simp only [spec_l07Book.l0]
      rw [if_pos (by omega), e4]
      simp only [Option.bind_some]
      rw [if_pos (by have := hq.1; omega), e5]
      simp only [Option.bind_some]
      rw [if_pos (by have := ht.1; omega), wrap_succ j (by omega)]
      exact e6 k (by omega)
  obtain ⟨fair, taken, i4, g4, e4, hfa, hta, hc4⟩ := key n 0 (by omega) (by omega) [] [] i3 g3 hc3 ⟨rfl, by simp⟩ ⟨rfl, by simp⟩
  refine ⟨field, win, ladder, again, games, fair, taken, i4, g4, ⟨K1 + K2 + K3 + n + 1, fun k hk => ?_⟩, ⟨h1, h2, ⟨turn, hf, t0, t1⟩, w2, w3, rfl, rfl, hld, hg, hfa, hta⟩, hc4⟩
  have e1' : spec_l02Field.f k b i h n = _ := e1 k (by omega)
  have e2' : spec_l03Draw.f k b i1 g1 = _ := e2 k (by omega)
  have e3' : spec_l04Season.f k b i2 g2 n op = _ := e3 k (by omega)
  show spec_l07Book.f k b i h n op = _
  unfold spec_l07Book.f
  rw [e1']
  simp only [Option.bind_some]
  rw [e2']
  simp only [Option.bind_some]
  rw [e3']
  simp only [Option.bind_some]
  exact e4 k (by omega)
section
variable {n : Nat} {op : Int} {field : List Team} {win draw loss : Int} {ladder : List Int} {games : List Game} {fair taken : List Int}
theorem BookMade.ok (h : BookMade n op field win draw loss ladder games fair taken) : bookOkB field win draw loss ladder games fair taken = true := by
  obtain ⟨turn, hf, t0, t1⟩ := h.field_
  have hn : (field.length : Int) = n := by rw [hf.1]
  unfold bookOkB
  rw [fieldMade_ok hf h.n2 h.n8 t0 t1, h.draw1, h.loss0, (ladderMade_ok h.ladder_ h.win2 h.win3).1, hn, (seasonMade_ok h.games_ (by have := h.n2; omega) h.n8).1, pensMade_ok h.fair_ (by omega), pensMade_ok h.taken_ (by omega)]
  rfl
theorem BookMade.sized (h : BookMade n op field win draw loss ladder games fair taken) : Sized field ladder games := by
  obtain ⟨turn, hf, t0, t1⟩ := h.field_
  refine ⟨fun t ht => ?_, by have := (ladderMade_ok h.ladder_ h.win2 h.win3).2; omega, by have := (seasonMade_ok h.games_ (by have := h.n2; omega) h.n8).2.1; omega⟩
  obtain ⟨i, hi, rfl⟩ := List.getElem_of_mem ht
  have hi' : i < n := by have := hf.1; omega
  obtain ⟨c, _, _, e⟩ := hf.2 i hi'
  rw [List.getElem?_eq_getElem hi] at e
  rw [Option.some.inj e]
  have := nameOf_size i (by have := h.n8; omega)
  show (nameOf i).size ≤ _
  omega
theorem BookMade.open_le (h : BookMade n op field win draw loss ladder games fair taken) : ((openI games).length : Int) ≤ op := (seasonMade_ok h.games_ (by have := h.n2; omega) h.n8).2.2
end
end Go.Proofs.Ytibmeomlokigjaa.Q
namespace Go.Proofs.Ytibmeomlokigjaa.Q
open Go.RowKit Go.Proofs.YtibmeomlokigjaaW.PrintWords Go.Proofs.YtibmeomlokigjaaW.PrintLast Go.Proofs.YtibmeomlokigjaaW.PrintMore
theorem num_ok (l : List Int) (m : Nat) (hm : m ≤ 4096) (hl : l.length ≤ 2305843009213693952) : ∃ r, Ev (fun k => spec_MakeNum.f k l m) r ∧ 0 ≤ r ∧ r ≤ 65535 := by
  obtain ⟨h, K, e⟩ := new_ok hl
  have key : ∀ (d j : Nat), m - j = d → j ≤ m → ∀ (i h : Int), CurOk l i → ∃ i' h', (∀ k, d < k → spec_l27New.l0 k l i h m j = some (l, i', h')) ∧ CurOk l i' := by
    intro d
    induction d with
    | zero =>
      intro j hd hj i h hc
      refine ⟨i, h, fun k hk => ?_, hc⟩
      obtain ⟨k, rfl⟩ : ∃ m, k = m + 1 := ⟨k - 1, by omega⟩
      simp only [spec_l27New.l0]
      rw [if_neg (by omega)]
    | succ d ih =>
      intro j hd hj i h hc
      obtain ⟨r, i1, h1, e1, _, _, hc1⟩ := byte_ok h hc
      obtain ⟨i', h', e2, hc2⟩ := ih (j + 1) (by omega) (by omega) i1 h1 hc1
      refine ⟨i', h', fun k hk => ?_, hc2⟩
      obtain ⟨k, rfl⟩ : ∃ m, k = m + 1 := ⟨k - 1, by omega⟩
      simp only [spec_l27New.l0]
      rw [if_pos (by omega), e1]
      simp only [Option.bind_some]
      rw [wrap_succ j (by omega)]
      exact e2 k (by omega)
  obtain ⟨i1, h1, e1, hc1⟩ := key m 0 (by omega) (by omega) 0 h (cur0 hl)
  obtain ⟨x, i2, h2, e2, x0, x1, hc2⟩ := byte_ok h1 hc1
  obtain ⟨y, i3, h3, e3, y0, y1, hc3⟩ := byte_ok h2 hc2
  refine ⟨wrap64 ((wrap64 (x * 256)) + y), ⟨K + m + 1, fun k hk => ?_⟩, by unfold wrap64; omega, by unfold wrap64; omega⟩
  have e' : spec_l01New.f k l = _ := e k (by omega)
  show spec_MakeNum.f k l m = _
  unfold spec_MakeNum.f spec_l27New.f
  rw [e']
  simp only [Option.bind_some]
  have e1' : spec_l27New.l0 k l 0 h m 0 = _ := e1 k (by omega)
  rw [e1']
  simp only [Option.bind_some]
  rw [e2]
  simp only [Option.bind_some]
  rw [e3]
  rfl
def pow3 : Nat → Int
  | 0 => 1
  | m + 1 => 3 * pow3 m
theorem pow3_pos (m : Nat) : 1 ≤ pow3 m := by
  induction m with
  | zero => simp [pow3]
  | succ m ih => simp only [pow3]; omega
theorem pow3_le (m : Nat) (h : m ≤ 5) : pow3 m ≤ 243 := by
  have : ∀ m, m < 6 → pow3 m ≤ 243 := by decide
  exact this m (by omega)
theorem pow3_loop (m : Nat) (hm : m ≤ 5) : ∀ (d j : Nat), m - j = d → j ≤ m → ∀ k, d < k → impl_CountOutcomes.l0 k (pow3 j) m j = some (pow3 m) := by
  intro d
  induction d with
  | zero =>
    intro j hd hj k hk
    obtain ⟨k, rfl⟩ : ∃ m, k = m + 1 := ⟨k - 1, by omega⟩
    obtain rfl : j = m := by omega
    simp only [impl_CountOutcomes.l0]
    rw [if_neg (by omega)]
  | succ d ih =>
    intro j hd hj k hk
    obtain ⟨k, rfl⟩ : ∃ m, k = m + 1 := ⟨k - 1, by omega⟩
    simp only [impl_CountOutcomes.l0]
    have := pow3_le j (by omega)
    have := pow3_pos j
    rw [if_pos (by omega), wrap_succ j (by omega), show wrap64 (pow3 j * 3) = pow3 (j + 1) by simp only [pow3]; unfold wrap64; omega]
    exact ih (j + 1) (by omega) (by omega) k (by omega)
theorem openGames_eq (games : List Game) (h : games.length < 17592186044416) : impl_OpenGames.f games = some (openI games) := by
  unfold impl_OpenGames.f; rw [if_pos h]
def shortB (field : List Team) (win draw loss : Int) (ladder : List Int) (games : List Game) (fair taken : List Int) : Bool :=
  bookOkB field win draw loss ladder games fair taken && decide (((openI games).length : Int) ≤ 5)
def countB (field : List Team) (win draw loss : Int) (ladder : List Int) (games : List Game) (fair taken : List Int) : Int :=
  if shortB field win draw loss ladder games fair taken then pow3 (openI games).length else 0
def bookK (ladder : List Int) (games : List Game) : Nat := 2 * ladder.length + games.length + 10
section
variable (field : List Team) (win draw loss : Int) (ladder : List Int) (again : Bool) (games : List Game) (fair taken : List Int) (hs : Sized field ladder games)
include hs
theorem short_eq (k : Nat) (hk : bookK ladder games ≤ k) : impl_isShort.f k field win draw loss ladder again games fair taken = some (shortB field win draw loss ladder games fair taken) := by
  unfold bookK at hk
  unfold impl_isShort.f shortB
  rw [bookOk_eq _ _ _ _ _ _ _ _ _ hs k (by omega), openGames_eq games (by have := hs.2.2; omega)]
  cases bookOkB field win draw loss ladder games fair taken <;> simp
theorem count_eq (k : Nat) (hk : bookK ladder games ≤ k) : impl_CountOutcomes.f k field win draw loss ladder again games fair taken = some (countB field win draw loss ladder games fair taken) := by
  unfold impl_CountOutcomes.f countB
  rw [short_eq _ _ _ _ _ _ _ _ _ hs k hk, openGames_eq games (by have := hs.2.2; omega)]
  cases h : shortB field win draw loss ladder games fair taken with
  | false => simp
  | true =>
    simp only [Option.bind_some, if_true]
    have h5 : (openI games).length ≤ 5 := by
      unfold shortB at h
      simp at h
      omega
    exact pow3_loop _ h5 (openI games).length 0 (by omega) (by omega) k (by unfold bookK at hk; omega)
end
def outList : Nat → Int → List Int
  | 0, _ => []
  | m + 1, i => outList m (i / 3) ++ [i % 3 + 1]
theorem outList_length (m : Nat) : ∀ i, (outList m i).length = m := by
  induction m with
  | zero => intro i; rfl
  | succ m ih => intro i; simp [outList, ih]
theorem outList_mem (m : Nat) : ∀ i x, x ∈ outList m i → 1 ≤ x ∧ x ≤ 3 := by
  induction m with
  | zero => intro i x hx; simp [outList] at hx
  | succ m ih =>
    intro i x hx
    rw [outList, List.mem_append, List.mem_singleton] at hx
    rcases hx with hx | hx
    · exact ih _ x hx
    · omega
theorem outcomeAt_eq (m : Nat) (i : Int) (hm : m ≤ 5) (hi : 0 ≤ i) (hi2 : i ≤ 4611686018427387904) (k : Nat) (hk : m < k) : impl_outcomeAt.f k m i = some (outList m i) := by
  have key : ∀ (j : Nat) (i : Int) (suf : List Int), j ≤ 5 → 0 ≤ i → i ≤ 4611686018427387904 → ∀ k, j < k → impl_outcomeAt.l0 k i (List.replicate j 0 ++ suf) ((j : Int) - 1) = some (outList j i ++ suf) := by
    intro j
    induction j with
    | zero =>
      intro i suf hj hi hi2 k hk
      obtain ⟨k, rfl⟩ : ∃ m, k = m + 1 := ⟨k - 1, by omega⟩
      simp only [impl_outcomeAt.l0]
      rw [if_neg (by omega)]
      rfl
    | succ j ih =>
      intro i suf hj hi hi2 k hk
      obtain ⟨k, rfl⟩ : ∃ m, k = m + 1 := ⟨k - 1, by omega⟩
      simp only [impl_outcomeAt.l0]
      have h1 : Int.tdiv i 3 = i / 3 := Int.tdiv_eq_ediv_of_nonneg hi
      have h2 : Int.tmod i 3 = i % 3 := Int.tmod_eq_emod_of_nonneg hi
      rw [if_pos (by omega), if_pos (by omega), if_pos (by simp; omega), h1, h2, show wrap64 (i / 3) = i / 3 by unfold wrap64; omega, show wrap64 (i % 3 + 1) = i % 3 + 1 by unfold wrap64; omega,
        show wrap64 (((j + 1 : Nat) : Int) - 1 - 1) = (j : Int) - 1 by unfold wrap64; omega, show (((j + 1 : Nat) : Int) - 1).toNat = j by omega]
      have hset : (List.replicate (j + 1) (0 : Int) ++ suf).set j (i % 3 + 1) = List.replicate j 0 ++ ((i % 3 + 1) :: suf) := by
        rw [List.replicate_succ', List.append_assoc, List.set_append_right _ _ (by simp)]
        simp
      rw [hset, ih (i / 3) _ (by omega) (by omega) (by omega) k (by omega), outList, List.append_assoc]
      rfl
  unfold impl_outcomeAt.f
  have := key m i [] hm hi hi2 k hk
  rw [if_pos (by omega), if_pos (by omega), show wrap64 ((m : Int) - 1) = (m : Int) - 1 by unfold wrap64; omega, Int.toNat_natCast]
  simpa using this
def evalOut : Int → List Int → Int
  | acc, [] => acc
  | acc, x :: l => evalOut (3 * acc + x - 1) l
theorem evalOut_append (l1 : List Int) : ∀ (acc : Int) (l2 : List Int), evalOut acc (l1 ++ l2) = evalOut (evalOut acc l1) l2 := by
  induction l1 with
  | nil => intro acc l2; rfl
  | cons x l ih => intro acc l2; simp only [List.cons_append, evalOut, ih]
theorem evalOut_outList (m : Nat) : ∀ (acc i : Int), 0 ≤ i → i < pow3 m → evalOut acc (outList m i) = acc * pow3 m + i := by
  induction m with
  | zero => intro acc i h0 h1; simp only [pow3] at h1; simp only [outList, evalOut, pow3]; omega
  | succ m ih =>
    intro acc i h0 h1
    simp only [pow3] at h1
    rw [outList, evalOut_append, ih acc (i / 3) (by omega) (by omega)]
    simp only [evalOut, pow3]
    rw [show acc * (3 * pow3 m) = 3 * (acc * pow3 m) by rw [← Int.mul_assoc, Int.mul_comm acc 3, Int.mul_assoc]]
    generalize acc * pow3 m = z
    omega
def playG (g : Game) (o : Int) : Game := if withinB o 1 3 then ⟨g.f0, g.f1, if o = 1 then 1 else 0, if o = 3 then 1 else 0, 1⟩ else g
theorem playGame_eq (g : Game) (o : Int) : impl_PlayGame.f g.f0 g.f1 g.f2 g.f3 g.f4 o = some ((playG g o).f0, (playG g o).f1, (playG g o).f2, (playG g o).f3, (playG g o).f4) := by
  unfold impl_PlayGame.f playG
  rw [within_eq]
  simp only [Option.bind_some]
  by_cases h1 : o = 1
  · subst h1; simp [withinB]
  · by_cases h3 : o = 3
    · subst h3; simp [withinB]
    · by_cases h : withinB o 1 3 = true
      · simp [h, h1, h3]
      · simp [h]
def playAll : List Game → List Int → List Game
  | [], _ => []
  | g :: gs, os => if isOpenB g then (match os with | [] => g :: playAll gs [] | o :: os => playG g o :: playAll gs os) else g :: playAll gs os
theorem played_loop (os : List Int) (field : List Team) (win draw loss : Int) (ladder : List Int) (again : Bool) (fair taken : List Int) (ox : List Int) (hox : os.length = ox.length) (hlen : ox.length ≤ 1099511627776) :
    ∀ (rest pre : List Game) (j : Nat), ox.drop j = whereI isOpenB pre.length rest → j ≤ ox.length → ∀ k, ox.length - j < k →
      impl_played.l0 k os ox ox.length j field win draw loss ladder again (pre ++ rest) fair taken = some (field, win, draw, loss, ladder, again, pre ++ playAll rest (os.drop j), fair, taken) := by
  intro rest
  induction rest with
  | nil =>
    intro pre j ho hj k hk
    obtain ⟨k, rfl⟩ : ∃ m, k = m + 1 := ⟨k - 1, by omega⟩
    have hl := congrArg List.length ho
    simp [whereI] at hl
    simp only [impl_played.l0]
    rw [if_neg (by omega)]
    rfl
  | cons g rest ih =>
    intro pre j ho hj k hk
    cases hg : isOpenB g with
    | false =>
      have := ih (pre ++ [g]) j (by rw [ho]; simp [whereI, hg]) hj k hk
      rw [List.append_assoc, List.append_assoc] at this
      simp only [playAll, hg]
      exact this
    | true =>
      have hl := congrArg List.length ho
      simp [whereI, hg] at hl
      have hj' : j < ox.length := by omega
      have hoj : ox[j] = (pre.length : Int) ∧ ox.drop (j + 1) = whereI isOpenB ((pre.length : Int) + 1) rest := by
        rw [List.drop_eq_getElem_cons hj', whereI, hg, if_pos rfl] at ho
        exact List.cons.inj ho
      obtain ⟨k, rfl⟩ : ∃ m, k = m + 1 := ⟨k - 1, by omega⟩
      have hjo : j < os.length := by omega
      have hrg : rd_T47 (pre ++ g :: rest) (pre.length : Int) = g := by
        rw [rdG_eq _ _ (by simp)]
        simp
      simp only [impl_played.l0]
      rw [if_pos (by omega), if_pos (by omega), if_pos (by omega), rd_eq ox j hj', hoj.1, if_pos (by omega), if_pos (by simp; omega), if_pos (by omega), hrg, rd_eq os j hjo, playGame_eq]
      simp only [Option.bind_some]
      have hset : (pre ++ g :: rest).set ((pre.length : Int)).toNat (playG g os[j]) = (pre ++ [playG g os[j]]) ++ rest := by
        rw [Int.toNat_natCast, List.set_append_right _ _ (by omega)]
        simp
      have := ih (pre ++ [playG g os[j]]) (j + 1) (by rw [hoj.2]; simp) (by omega) k (by omega)
      rw [show (⟨(playG g os[j]).f0, (playG g os[j]).f1, (playG g os[j]).f2, (playG g os[j]).f3, (playG g os[j]).f4⟩ : Game) = playG g os[j] from rfl, hset, wrap_succ j (by omega), this]
      simp only [playAll, hg]
      rw [List.drop_eq_getElem_cons hjo]
      simp
theorem playAll_length (gs : List Game) : ∀ os, (playAll gs os).length = gs.length := by
  induction gs with
  | nil => intro os; rfl
  | cons g gs ih =>
    intro os
    cases os with
    | nil => cases hg : isOpenB g <;> simp [playAll, hg, ih]
    | cons o os => cases hg : isOpenB g <;> simp [playAll, hg, ih]
theorem playAll_mem (gs : List Game) : ∀ os x, x ∈ playAll gs os → (gs.filter isOpenB).length ≤ os.length → (∀ o, o ∈ os → 1 ≤ o ∧ o ≤ 3) → ∃ g, g ∈ gs ∧ (isOpenB g = false ∧ x = g ∨ ∃ o, 1 ≤ o ∧ o ≤ 3 ∧ x = playG g o) := by
  induction gs with
  | nil => intro os x hx; simp [playAll] at hx
  | cons g gs ih =>
    intro os x hx hl ho
    cases hg : isOpenB g with
    | false =>
      simp only [playAll, hg, Bool.false_eq_true, if_false, List.mem_cons] at hx
      rcases hx with rfl | hx
      · exact ⟨x, by simp, .inl ⟨hg, rfl⟩⟩
      · obtain ⟨y, hy, h⟩ := ih os x hx (by simpa [hg] using hl) ho
        exact ⟨y, by simp [hy], h⟩
    | true =>
      cases os with
      | nil => simp [hg] at hl
      | cons o os =>
        simp only [playAll, hg, if_true, List.mem_cons] at hx
        rcases hx with rfl | hx
        · exact ⟨g, by simp, .inr ⟨o, (ho o (by simp)).1, (ho o (by simp)).2, rfl⟩⟩
        · obtain ⟨y, hy, h⟩ := ih os x hx (by simpa [hg] using hl) (fun o h => ho o (by simp [h]))
          exact ⟨y, by simp [hy], h⟩
theorem playG_key (g : Game) (o : Int) : (playG g o).f0 = g.f0 ∧ (playG g o).f1 = g.f1 := by
  unfold playG; split <;> exact ⟨rfl, rfl⟩
theorem playAll_keys (gs : List Game) : ∀ os, (playAll gs os).map (fun g => (g.f0, g.f1)) = gs.map (fun g => (g.f0, g.f1)) := by
  induction gs with
  | nil => intro os; rfl
  | cons g gs ih =>
    intro os
    cases os with
    | nil => cases hg : isOpenB g <;> simp [playAll, hg, ih]
    | cons o os => cases hg : isOpenB g <;> simp [playAll, hg, ih, playG_key]
theorem playG_ok (n : Int) (g : Game) (o : Int) (h : gameOkB n g = true) (h1 : 1 ≤ o) (h3 : o ≤ 3) : gameOkB n (playG g o) = true := by
  unfold playG
  rw [if_pos (by simp [withinB]; omega)]
  unfold gameOkB at *
  simp [withinB] at *
  refine ⟨⟨by simp [h], ?_⟩, ?_⟩ <;> split <;> simp
theorem playG_closed (g : Game) (o : Int) (h1 : 1 ≤ o) (h3 : o ≤ 3) : isOpenB (playG g o) = false := by
  unfold playG
  rw [if_pos (by simp [withinB]; omega)]
  rfl
theorem seasonFrom_all (n : Int) (l : List Game) : ∀ pre, seasonFrom n pre l = true → (∀ g, g ∈ l → gameOkB n g = true) ∧ List.Pairwise (fun x g => gameIs g.f0 g.f1 x = false) l ∧ ∀ x, x ∈ pre → ∀ g, g ∈ l → gameIs g.f0 g.f1 x = false := by
  induction l with
  | nil => intro pre _; exact ⟨by simp, by simp, by simp⟩
  | cons t l ih =>
    intro pre h
    rw [seasonFrom, Bool.and_eq_true, Bool.and_eq_true] at h
    obtain ⟨⟨h1, h2⟩, h3⟩ := h
    obtain ⟨a, b, c⟩ := ih _ h3
    have h2' : ∀ x, x ∈ pre → gameIs t.f0 t.f1 x = false := by
      intro x hx
      simp only [Bool.not_eq_true', List.any_eq_false] at h2
      simpa using h2 x hx
    refine ⟨?_, ?_, ?_⟩
    · intro g hg
      rcases List.mem_cons.1 hg with rfl | hg
      · exact h1
      · exact a g hg
    · rw [List.pairwise_cons]
      exact ⟨fun y hy => c t (by simp) y hy, b⟩
    · intro x hx g hg
      rcases List.mem_cons.1 hg with rfl | hg
      · exact h2' x hx
      · exact c x (by simp [hx]) g hg
theorem season_keys (n : Int) (l l' : List Game) (h : seasonOkB n l = true) (hk : l'.map (fun g => (g.f0, g.f1)) = l.map (fun g => (g.f0, g.f1))) (ho : ∀ g, g ∈ l' → gameOkB n g = true) : seasonOkB n l' = true := by
  unfold seasonOkB at *
  rw [Bool.and_eq_true] at h
  obtain ⟨h1, h2⟩ := h
  have hl := congrArg List.length hk
  simp only [List.length_map] at hl
  obtain ⟨_, hp, _⟩ := seasonFrom_all n l [] h1
  rw [seasonFrom_ok n l' [] ho ?_, hl, h2]
  · rfl
  · rw [List.nil_append]
    have e : ∀ l : List Game, List.Pairwise (fun x g => gameIs g.f0 g.f1 x = false) l ↔ List.Pairwise (fun (x g : Int × Int) => ((x.1 == g.1) && (x.2 == g.2)) = false) (l.map (fun g => (g.f0, g.f1))) := by
      intro l
      rw [List.pairwise_map]
      rfl
    rw [e, hk, ← e]
    exact hp
theorem playAll_season (n : Int) (gs : List Game) (os : List Int) (h : seasonOkB n gs = true) (hl : (gs.filter isOpenB).length ≤ os.length) (ho : ∀ o, o ∈ os → 1 ≤ o ∧ o ≤ 3) : seasonOkB n (playAll gs os) = true ∧ openI (playAll gs os) = [] := by
  have hall : ∀ g, g ∈ gs → gameOkB n g = true := by
    unfold seasonOkB at h
    rw [Bool.and_eq_true] at h
    exact (seasonFrom_all n gs [] h.1).1
  refine ⟨season_keys n gs _ h (playAll_keys gs os) ?_, ?_⟩
  · intro x hx
    obtain ⟨g, hg, ⟨_, rfl⟩ | ⟨o, o1, o3, rfl⟩⟩ := playAll_mem gs os x hx hl ho
    · exact hall _ hg
    · exact playG_ok n g o (hall g hg) o1 o3
  · apply List.eq_nil_of_length_eq_zero
    unfold openI
    rw [whereI_length, List.length_eq_zero_iff, List.filter_eq_nil_iff]
    intro x hx
    obtain ⟨g, hg, ⟨hc, rfl⟩ | ⟨o, o1, o3, rfl⟩⟩ := playAll_mem gs os x hx hl ho
    · simp [hc]
    · simp [playG_closed g o o1 o3]
end Go.Proofs.Ytibmeomlokigjaa.Q
namespace Go.Proofs.Ytibmeomlokigjaa.Q
open Go.RowKit Go.Proofs.YtibmeomlokigjaaW.PrintWords Go.Proofs.YtibmeomlokigjaaW.PrintLast Go.Proofs.YtibmeomlokigjaaW.PrintMore
theorem small_ok (l : List Int) (hl : l.length ≤ 2305843009213693952) : ∃ (n : Nat) (field : List Team) (win : Int) (ladder : List Int) (again : Bool) (games : List Game) (fair taken : List Int), Ev (fun k => spec_MakeSmall.f k l) (field, win, 1, 0, ladder, again, games, fair, taken) ∧ BookMade n 3 field win 1 0 ladder games fair taken ∧ 3 ≤ n ∧ n ≤ 4 := by
  obtain ⟨h, K, e⟩ := new_ok hl
  obtain ⟨r, i1, h1, e1, r0, r1, hc1⟩ := below_ok h 2 (cur0 hl) (by omega) (by omega)
  obtain ⟨n, hn⟩ : ∃ n : Nat, (n : Int) = 3 + r := ⟨(3 + r).toNat, by omega⟩
  obtain ⟨field, win, ladder, again, games, fair, taken, i2, h2, ⟨K2, e2⟩, hb, hc2⟩ := book_ok h1 n 3 hc1 (by omega) (by omega) (by omega) (by omega)
  refine ⟨n, field, win, ladder, again, games, fair, taken, ⟨K + K2, fun k hk => ?_⟩, hb, by omega, by omega⟩
  have e' : spec_l01New.f k l = _ := e k (by omega)
  have e2' : spec_l07Book.f k l i1 h1 n 3 = _ := e2 k (by omega)
  show spec_MakeSmall.f k l = _
  unfold spec_MakeSmall.f spec_l16Small.f
  rw [e']
  simp only [Option.bind_some]
  rw [e1]
  simp only [Option.bind_some]
  rw [show wrap64 (3 + r) = (n : Int) by unfold wrap64; omega, e2']
  rfl
end Go.Proofs.Ytibmeomlokigjaa.Q
namespace Go.Proofs.Ytibmeomlokigjaa.Q
open Go.RowKit Go.Proofs.YtibmeomlokigjaaW.PrintWords Go.Proofs.YtibmeomlokigjaaW.PrintLast Go.Proofs.YtibmeomlokigjaaW.PrintMore
section
variable (field : List Team) (win draw loss : Int) (ladder : List Int) (again : Bool) (games : List Game) (fair taken : List Int)
theorem bookOk_parts (h : bookOkB field win draw loss ladder games fair taken = true) : fieldOkB field = true ∧ rulesOkB win draw loss ladder = true ∧ seasonOkB field.length games = true ∧ penaltiesB fair field.length = true ∧ penaltiesB taken field.length = true := by
  unfold bookOkB at h
  simp only [Bool.and_eq_true] at h
  exact ⟨h.1.1.1.1, h.1.1.1.2, h.1.1.2, h.1.2, h.2⟩
theorem bookOk_lens (h : bookOkB field win draw loss ladder games fair taken = true) : 2 ≤ field.length ∧ field.length ≤ 8 ∧ 1 ≤ ladder.length ∧ ladder.length ≤ 8 ∧ games.length ≤ 60 ∧ fair.length = field.length ∧ taken.length = field.length := by
  obtain ⟨h1, h2, h3, h4, h5⟩ := bookOk_parts _ _ _ _ _ _ _ _ h
  unfold fieldOkB at h1
  unfold rulesOkB at h2
  unfold seasonOkB at h3
  unfold penaltiesB at h4 h5
  simp only [Bool.and_eq_true, withinB, decide_eq_true_eq] at h1 h2 h3 h4 h5
  omega
theorem clone_team (l : List Team) (h : l.length < 4398046511104) : slices_Clone_impl_Team_impl_Team.f l = some l := by
  unfold slices_Clone_impl_Team_impl_Team.f
  simp [h]
theorem clone_game (l : List Game) (h : l.length < 3518437208883) : slices_Clone_impl_Game_impl_Game.f l = some l := by
  unfold slices_Clone_impl_Game_impl_Game.f
  simp [h]
theorem clone_int (l : List Int) (h : l.length < 17592186044416) : slices_Clone_int_int.f l = some l := by
  unfold slices_Clone_int_int.f
  simp [h]
theorem copied_eq (h : field.length < 1000000) (h2 : ladder.length < 1000000) (h3 : games.length < 1000000) (h4 : fair.length < 1000000) (h5 : taken.length < 1000000) :
    impl_Book_copied.f field win draw loss ladder again games fair taken = some (field, win, draw, loss, ladder, again, games, fair, taken) := by
  unfold impl_Book_copied.f
  rw [clone_team _ (by omega), clone_game _ (by omega), clone_int _ (by omega), clone_int _ (by omega), clone_int _ (by omega)]
  rfl
def outsB (l : List Int) (m : Int) : Bool := decide ((l.length : Int) = m) && !l.any (fun x => !withinB x 1 3)
theorem outsB_iff (l : List Int) (m : Nat) : outsB l m = true ↔ l.length = m ∧ ∀ x, x ∈ l → 1 ≤ x ∧ x ≤ 3 := by
  unfold outsB
  rw [Bool.and_eq_true]
  simp only [decide_eq_true_eq, Bool.not_eq_true', List.any_eq_false, withinB]
  constructor
  · rintro ⟨h1, h2⟩
    refine ⟨by omega, fun x hx => ?_⟩
    have := h2 x hx
    simp at this
    exact this
  · rintro ⟨h1, h2⟩
    refine ⟨by omega, fun x hx => ?_⟩
    have := h2 x hx
    simp
    exact this
variable (hs : Sized field ladder games)
include hs
theorem isOutcome_eq (l : List Int) (k : Nat) (hk : bookK ladder games ≤ k) : impl_IsOutcome.f k field win draw loss ladder again games fair taken l = some (shortB field win draw loss ladder games fair taken && outsB l (openI games).length) := by
  unfold impl_IsOutcome.f
  rw [short_eq _ _ _ _ _ _ _ _ _ hs k hk, openGames_eq games (by have := hs.2.2; omega)]
  cases shortB field win draw loss ladder games fair taken
  · rfl
  · rfl
theorem outAt_eq (i : Int) (hi : i ≤ 4611686018427387904) (k : Nat) (hk : bookK ladder games ≤ k) : impl_OutcomeAt.f k field win draw loss ladder again games fair taken i =
    some (if withinB i 0 (countB field win draw loss ladder games fair taken - 1) then (outList (openI games).length i, true) else ([], false)) := by
  unfold impl_OutcomeAt.f
  rw [count_eq _ _ _ _ _ _ _ _ _ hs k hk, openGames_eq games (by have := hs.2.2; omega)]
  have hc : 0 ≤ countB field win draw loss ladder games fair taken ∧ countB field win draw loss ladder games fair taken ≤ 243 := by
    unfold countB
    split
    · rename_i h
      unfold shortB at h
      simp at h
      have := pow3_pos (openI games).length
      have := pow3_le (openI games).length (by omega)
      omega
    · omega
  simp only [Option.bind_some]
  rw [show wrap64 (countB field win draw loss ladder games fair taken - 1) = countB field win draw loss ladder games fair taken - 1 by unfold wrap64; omega, within_eq]
  simp only [Option.bind_some]
  cases h : withinB i 0 (countB field win draw loss ladder games fair taken - 1) with
  | false => rfl
  | true =>
    have h5 : (openI games).length ≤ 5 ∧ 0 ≤ i := by
      unfold withinB at h
      simp at h
      unfold countB at h
      cases hsh : shortB field win draw loss ladder games fair taken with
      | false => rw [hsh] at h; simp at h; omega
      | true => unfold shortB at hsh; simp at hsh; omega
    rw [if_pos rfl, outcomeAt_eq _ i h5.1 h5.2 hi k (by unfold bookK at hk; omega)]
    rfl
theorem withOutcome_eq (l : List Int) (k : Nat) (hk : bookK ladder games ≤ k) : impl_WithOutcome.f k field win draw loss ladder again games fair taken l =
    some (if shortB field win draw loss ladder games fair taken && outsB l (openI games).length then (field, win, draw, loss, ladder, again, playAll games l, fair, taken, true) else ([], 0, 0, 0, [], false, [], [], [], false)) := by
  unfold impl_WithOutcome.f
  rw [isOutcome_eq _ _ _ _ _ _ _ _ _ hs l k hk]
  simp only [Option.bind_some]
  cases h : shortB field win draw loss ladder games fair taken && outsB l (openI games).length with
  | false => rfl
  | true =>
    rw [Bool.and_eq_true] at h
    obtain ⟨h1, h2⟩ := h
    rw [outsB_iff] at h2
    unfold shortB at h1
    rw [Bool.and_eq_true] at h1
    obtain ⟨h1, h3⟩ := h1
    obtain ⟨a1, a2, a3, a4, a5, a6, a7⟩ := bookOk_lens _ _ _ _ _ _ _ _ h1
    rw [if_pos rfl, if_pos rfl]
    unfold impl_played.f
    rw [copied_eq _ _ _ _ _ _ _ _ _ (by omega) (by omega) (by omega) (by omega) (by omega), openGames_eq games (by omega)]
    simp only [Option.bind_some]
    have hol : (openI games).length ≤ games.length := whereI_le _ _ _
    have hp := played_loop l field win draw loss ladder again fair taken (openI games) h2.1 (by omega) games [] 0 rfl (by omega) k (by unfold bookK at hk; omega)
    simp only [List.nil_append, List.drop_zero] at hp
    rw [show ((0 : Nat) : Int) = 0 from rfl] at hp
    rw [hp]
    rfl
end
end Go.Proofs.Ytibmeomlokigjaa.Q
namespace Go.Proofs.Ytibmeomlokigjaa.Q
open Go.RowKit Go.Proofs.YtibmeomlokigjaaW.PrintWords Go.Proofs.YtibmeomlokigjaaW.PrintLast Go.Proofs.YtibmeomlokigjaaW.PrintMore
theorem fnOutcomes : laws_FnOutcomes.Pure := by
  intro l0 _ _ _
  by_cases hbig : (l0.length : Int) > 1048576
  · exact ⟨0, by unfold laws_FnOutcomes.f; rw [if_pos hbig]⟩
  obtain ⟨n, field, win, ladder, again, games, fair, taken, ⟨K1, e1⟩, hb, hn3, hn4⟩ := small_ok l0 (by omega)
  have hs := hb.sized
  have hopen := hb.open_le
  have hok := hb.ok
  obtain ⟨m, hm⟩ : ∃ m, m = (openI games).length := ⟨_, rfl⟩
  have hsh : shortB field win 1 0 ladder games fair taken = true := by unfold shortB; rw [hok]; simp; omega
  have hcount : countB field win 1 0 ladder games fair taken = pow3 m := by unfold countB; rw [hsh, hm]; rfl
  have hp1 := pow3_pos m
  have hp2 := pow3_le m (by omega)
  obtain ⟨z, ⟨K2, e2⟩, z0, z1⟩ := num_ok l0 60 (by omega) (by omega)
  have hz : Int.tmod z (pow3 m) = z % pow3 m := Int.tmod_eq_emod_of_nonneg z0
  have hi0 : 0 ≤ z % pow3 m := Int.emod_nonneg _ (by omega)
  have hi1 : z % pow3 m < pow3 m := Int.emod_lt_of_pos _ (by omega)
  generalize hi : z % pow3 m = i at hz hi0 hi1
  have hol : (outList m i).length = m := outList_length m i
  have hou : outsB (outList m i) (openI games).length = true := (outsB_iff _ _).2 ⟨by rw [hol, hm], outList_mem m i⟩
  obtain ⟨p1, p2, p3, p4, p5⟩ := bookOk_parts _ _ _ _ _ _ _ _ hok
  obtain ⟨q1, q2⟩ := playAll_season field.length games (outList m i) p3 (by rw [hol, hm]; unfold openI; rw [whereI_length]; exact Nat.le_refl _) (outList_mem m i)
  have hs' : Sized field ladder (playAll games (outList m i)) := ⟨hs.1, hs.2.1, by rw [playAll_length]; exact hs.2.2⟩
  have hok' : bookOkB field win 1 0 ladder (playAll games (outList m i)) fair taken = true := by unfold bookOkB; rw [p1, p2, q1, p4, p5]; rfl
  have hsh' : shortB field win 1 0 ladder (playAll games (outList m i)) fair taken = true := by unfold shortB; rw [hok', q2]; rfl
  have hlg : (playAll games (outList m i)).length = games.length := playAll_length _ _
  -- the law's own loop
  have key : ∀ (d j : Nat), m - j = d → j ≤ m → ∀ (acc : Int) (k : Nat), 0 ≤ acc → acc + 1 ≤ pow3 j → d + bookK ladder games + 1 < k →
      laws_FnOutcomes.l0 k i (outList m i) true true false acc (outList m i) m j field win 1 0 ladder again games fair taken field win 1 0 ladder again (playAll games (outList m i)) fair taken = some (decide (evalOut acc ((outList m i).drop j) = i)) := by
    intro d
    induction d with
    | zero =>
      intro j hd hj acc k a0 a1 hk
      obtain ⟨k, rfl⟩ : ∃ m, k = m + 1 := ⟨k - 1, by omega⟩
      simp only [laws_FnOutcomes.l0]
      rw [if_neg (by omega), if_pos trivial, if_pos trivial, if_neg (by decide), List.drop_eq_nil_of_le (by omega)]
      simp only [evalOut]
      by_cases hacc : acc = i
      · rw [if_pos hacc, isOutcome_eq _ _ _ _ _ _ _ _ _ hs _ k (by omega), hsh, hou]
        simp only [Option.bind_some, Bool.and_self, if_true]
        rw [openGames_eq _ (by rw [hlg]; have := hs.2.2; omega), q2]
        simp only [Option.bind_some]
        rw [if_pos (by simp), bookOk_eq _ _ _ _ _ _ _ _ _ hs' k (by unfold bookK at hk; omega), hok']
        simp only [Option.bind_some, if_true]
        rw [count_eq _ _ _ _ _ _ _ _ _ hs' k (by unfold bookK at *; omega)]
        unfold countB
        rw [hsh', q2]
        simp [pow3, hacc]
      · rw [if_neg hacc]; simp [hacc]
    | succ d ih =>
      intro j hd hj acc k a0 a1 hk
      obtain ⟨k, rfl⟩ : ∃ m, k = m + 1 := ⟨k - 1, by omega⟩
      have hjl : j < (outList m i).length := by omega
      have hx := outList_mem m i (outList m i)[j] (List.getElem_mem _)
      have hpj := pow3_pos j
      have hpj2 := pow3_le j (by omega)
      simp only [laws_FnOutcomes.l0]
      rw [if_pos (by omega), if_pos (by omega), if_pos (by omega), rd_eq _ j hjl, wrap_succ j (by omega)]
      have w1 : wrap64 (3 * acc) = 3 * acc := by unfold wrap64; omega
      have w2 : wrap64 (3 * acc + (outList m i)[j]) = 3 * acc + (outList m i)[j] := by unfold wrap64; omega
      have w3 : wrap64 (3 * acc + (outList m i)[j] - 1) = 3 * acc + (outList m i)[j] - 1 := by unfold wrap64; omega
      rw [w1, w2, w3]
      rw [ih (j + 1) (by omega) (by omega) _ k (by omega) (by simp only [pow3]; omega) (by omega)]
      rw [List.drop_eq_getElem_cons hjl]
      rfl
  refine ⟨K1 + K2 + bookK ladder games + m + 10, ?_⟩
  generalize hk : K1 + K2 + bookK ladder games + m + 10 = k
  have e1' : spec_MakeSmall.f k l0 = _ := e1 k (by omega)
  have e2' : spec_MakeNum.f k l0 60 = _ := e2 k (by omega)
  unfold laws_FnOutcomes.f
  rw [if_neg hbig, e1']
  simp only [Option.bind_some]
  rw [count_eq _ _ _ _ _ _ _ _ _ hs k (by omega), hcount]
  simp only [Option.bind_some]
  rw [if_neg (by omega), e2']
  simp only [Option.bind_some]
  rw [if_neg (by omega), hz, outAt_eq _ _ _ _ _ _ _ _ _ hs i (by omega) k (by omega), hcount, if_pos (by unfold withinB; simp; omega), ← hm]
  simp only [Option.bind_some]
  rw [withOutcome_eq _ _ _ _ _ _ _ _ _ hs _ k (by omega), hsh, hou]
  simp only [Option.bind_some, Bool.and_self, if_true]
  rw [outAt_eq _ _ _ _ _ _ _ _ _ hs (pow3 m) (by omega) k (by omega), hcount, if_neg (by unfold withinB; simp; omega)]
  simp only [Option.bind_some]
  have k0 : laws_FnOutcomes.l0 k i (outList m i) true true false 0 (outList m i) m 0 field win 1 0 ladder again games fair taken field win 1 0 ladder again (playAll games (outList m i)) fair taken = _ := key m 0 (by omega) (by omega) 0 k (by omega) (by simp [pow3]) (by omega)
  rw [hol, k0, List.drop_zero, evalOut_outList m 0 i hi0 hi1]
  simp
end Go.Proofs.Ytibmeomlokigjaa.Q
namespace Go.Proofs.Ytibmeomlokigjaa.Pure
theorem FnOutcomes : Q.laws_FnOutcomes.Pure := Q.fnOutcomes
end Go.Proofs.Ytibmeomlokigjaa.Pure
namespace Go.Proofs.YtibmeomlokigjaaW.PrintWords
open Go.ChangeShapes Go.WideShapes
theorem sized_ints {H : Type} {enc : TypeId × Value → H} {P : Program} {W : World} {base : Nat} {spare : Nat → Bool} {held : Bool} {t e : TypeId} {k : IntKind} {a : Option Addr} {len cap : Nat} {d : DataW H} {ps : List MemPlace} {ts : List TypeId} {ds : List (DataW H)} {j : Nat}
    (hsz : (DataW.weightsEach P ts ds).all (· ≤ reachBytes) = true) (ht : ts[j]? = some t) (hd : ds[j]? = some d) (hu : P.underlying t = some (.slice e)) (he : P.underlying e = some (.int k)) (hc : P.cellsOf e = 1) {B : Nat} (hB : P.bytesOf e = B)
    (h : DataW.Trod enc P W base spare held t (.slice a len cap) d ps) : len * B ≤ 140737488351232 := by
  obtain ⟨fuel, hf⟩ := h
  rcases open_ints hu he hc hf with ⟨hcs, _⟩ | ⟨x, l, c, zs, hcs, _, hl, _, hz, hx, _, _⟩
  · simp [Value.cells] at hcs
    obtain ⟨rfl, rfl, rfl⟩ := hcs
    simp
  · simp [Value.cells] at hcs
    obtain ⟨rfl, rfl, rfl⟩ := hcs
    obtain ⟨hx, _⟩ := Prod.mk.inj hx
    subst hx
    have z := sized_slice hsz ht hd hu
    rw [hB] at z
    have hl2 : len ≤ zs.length := by
      rw [hz]
      split
      · exact hl
      · exact Nat.le_refl _
    have h1 : (lits (H := H) k (zs.take len)).length + (lits (H := H) k (zs.drop len)).length = zs.length := by
      simp [lits]
      omega
    rw [h1] at z
    exact Nat.le_trans (Nat.mul_le_mul_right _ hl2) z
end Go.Proofs.YtibmeomlokigjaaW.PrintWords
namespace Go.Proofs.Ytibmeomlokigjaa.fnOutcomes
open Go.ChangeShapes Go.WideShapes Go.ChangeAt Go.RowKit
open Go.ChangeMaps (open_string shut_string)
set_option linter.unusedVariables false
theorem own : ownKnob Try.prog.godebug = none := by kernel_rfl
theorem laidOut : laidOutB Try.prog = true := by kernel_rfl
def IsRow (k : IntKind) (w : World) (a : Option Addr) (len cap : Nat) (zs : List Int) : Prop :=
  (a = none ∧ len = 0 ∧ cap = 0 ∧ zs = []) ∨
  ∃ x, a = some x ∧ len ≤ cap ∧ cap ≤ maxLen ∧ zs.length = cap ∧ (∀ i, i < zs.length → w.cell? (x.add i) = some (.int k (zs.getD i 0))) ∧ ∀ n ∈ zs, (Lit.int k n).wf = true
set_option maxRecDepth 100000 in
theorem lifted (os : Os) (started : os.Started) (H : Type) (enc : TypeId × Value → H) :
    ReturnsInHanded {} Try.checked os 3 .any (Rows.fnOutcomesSpec.pre6 enc Try.prog Try.f3 Rows.fnOutcomesRow.domain false) (Rows.fnOutcomesSpec.post enc Try.prog Try.f3 false true false false) := by
  refine returnsInHanded_of_change_sized (C := Try.checked) own started (by kernel_rfl) Try.func3
    (ChangeSpec.witness6 (enc := enc) (C := Try.checked) false ⟨#[], #[.slice none 0 0], []⟩ 8 (by kernel_rfl) (by kernel_rfl) (by kernel_rfl) (by kernel_rfl)) ?_
  intro W base args ds gs before hval0 hW hcnd hsz0 _
  have hsz : (DataW.weightsEach Try.prog (Try.f3.params.toList ++ Rows.fnOutcomesSpec.plain.varTypes Try.prog) (ds ++ gs)).all (· ≤ reachBytes) = true := hsz0
  have hval : ∀ (j : Nat) t v, Try.f3.params[j]? = some t → args[j]? = some v → Value.okWide Try.prog W .any base t v := hval0
  have hW' := hW
  obtain ⟨p, q, hA0, hV, rfl, hfz, hnd⟩ := hW
  have hA : DataW.TrodAll enc Try.prog W 0 (fun _ => true) true Try.f3.params.toList args.toList ds p := hA0
  rw [Try.params3] at hA hval hsz
  obtain ⟨v0, vs0, d0, ds0, p0, q0, hargs, rfl, rfl, h0, r0⟩ := trodAll_cons hA
  obtain ⟨rfl, rfl, rfl⟩ := trodAll_nil r0
  obtain rfl : args = #[v0] := by cases args; simp_all
  obtain ⟨rfl, rfl⟩ := trodVars_none hV
  obtain ⟨a0, len0, cap0, rfl⟩ := okWide_slice Try.underlying22 (hval 0 22 v0 rfl rfl)
  have k0 := h0
  have lt0 : ∀ x ∈ p0, x.block < W.heap.size := by obtain ⟨m, hm⟩ := k0; exact DataW.trod_lt m _ _ _ hm
  obtain ⟨z0, w0⟩ : ∃ zs, IsRow .u8 W a0 len0 cap0 zs := by
    obtain ⟨fuel, hf⟩ := h0
    rcases open_ints Try.underlying22 Try.underlying5 (by kernel_rfl) hf with ⟨hcs, _⟩ | ⟨x, l, c, zs, hcs, _, hl, hm, hz, _, hcell, hwz⟩
    · simp [Value.cells] at hcs
      obtain ⟨rfl, rfl, rfl⟩ := hcs
      exact ⟨[], .inl ⟨rfl, rfl, rfl, rfl⟩⟩
    · simp [Value.cells] at hcs
      obtain ⟨rfl, rfl, rfl⟩ := hcs
      exact ⟨zs, .inr ⟨_, rfl, hl, hm, by simpa using hz, hcell, hwz⟩⟩
  have y0 : len0 * 1 ≤ 140737488351232 := Go.Proofs.YtibmeomlokigjaaW.PrintWords.sized_ints hsz (j := 0) (t := 22) rfl rfl Try.underlying22 Try.underlying5 (by kernel_rfl) (by kernel_rfl) h0
  clear hA0 hval0 hsz0 hsz
  refine (Q.laws_FnOutcomes.walk Pure.FnOutcomes a0 len0 cap0 z0 W w0 y0).mono fun e W' ⟨he, bel⟩ => ?_
  subst he
  exact ⟨_, rfl, _, _, _, [], _, [], hW', trodAll_mk1 (shut_bool Try.underlying4 _), (trodAll_cons_mk (Below.trod laidOut (by kernel_rfl) (of_decide_eq_true (by kernel_rfl)) k0 bel lt0) trodAll_mk0), rfl, bel.frame _, fun h => by cases h⟩
theorem over : Rows.fnOutcomesRow.holds Try.pinned (OpenSpec.ofChange Rows.fnOutcomesSpec) :=
  OpenClaim.holds_of_wide 3 Try.f3 rfl rfl rfl rfl rfl rfl rfl ⟨rfl, rfl, rfl, rfl, rfl⟩ rfl rfl rfl rfl rfl (by kernel_rfl) Try.func3 (by kernel_rfl)
    (of_decide_eq_true (by kernel_rfl)) (by unfold Func.isWrapper; first | (rw [if_pos (by decide +kernel)]; kernel_rfl) | (rw [if_neg (by decide +kernel)]; exact ⟨rfl, rfl⟩))
    (fun os started H enc _ => lifted os started H enc)
theorem proved : Rows.FnOutcomesSaid := over
#print axioms proved
end Go.Proofs.Ytibmeomlokigjaa.fnOutcomes
namespace Go.Proofs.Ytibmeomlokigjaa
theorem fnOutcomes_holds : Rows.FnOutcomesSaid := fnOutcomes.proved
end Go.Proofs.Ytibmeomlokigjaa
