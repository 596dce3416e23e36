/- A part of the proof of FnExactFormatGame: functions of the program, as plain functions, with the proof that the machine's call does what they say; plain lemmas; and those of the words that print.sh prints which this proof uses. No condition. -/
import Derived.Test.YtibmeomlokigjaaDoorRows
import Derived.Test.YtibmeomlokigjaaDoorKFnExactFormatGame1
import Derived.Test.YtibmeomlokigjaaDoorProg
import Derived.Below
import Derived.Deep.Draws
import Derived.Deep.AppendLies
import Derived.Maps.AppendAt
import Derived.OwnWalk
import Derived.Laws.BytesArg
import Derived.Laws.MakeOwn
import Derived.Laws.OwnMore
import Derived.Deep.OwnRows
import Derived.Tactics
import Derived.Lib.ConvBytes
import Derived.Laws.Slices
import Derived.WalkKit
import Derived.KernelRfl
import Derived.RowKit3
import Derived.Deep.LoopGhost
import Derived.Deep.QuietTactic
import Derived.BigQuiet
import Derived.WideLaws
import Derived.Deep.DeepCutAuto
import Derived.Deep.CutBlock
import Derived.Deep.RegionHeld3
import Derived.Laws.Rows
import Derived.Lib.AppendStr
import Derived.ArgAppend
import Derived.Laws.IdiomCopy
import Derived.OrdersHeld
import Derived.Laws.BitsLemmas
import Derived.RowKit
import Derived.WalkSpells
import Derived.Shelf.Strings.Builder1
import Derived.Shelf.Strings.Builder2
import Derived.Shelf.Strings.OnBuilder
import Derived.Shelf.Strconv.Itoa0
import Derived.Shelf.Strconv.Itoa1
import Derived.Shelf.LaysM
import Derived.Shelf.Strconv.Itoa2
import Derived.Shelf.Strconv.Itoa3
import Derived.Laws.StructEq
import Derived.ProofKit
import Derived.OpenShut
import Derived.ShutString
import Derived.ChangeOld
import Derived.SizedLaws
import Derived.LaidMore
import Derived.LaidHandle
import Derived.Stop.Joined
import Derived.Test.YtibmeomlokigjaaDoorCards
import Derived.Test.YtibmeomlokigjaaDoorTie
import Derived.SevenTiedAt
namespace Go.Proofs.YtibmeomlokigjaaDoor.Opens
open Go.ChangeShapes Go.WideShapes Go.ChangeAt Go.RowKit Go.Proofs.YtibmeomlokigjaaDoor.Q Go.Proofs.YtibmeomlokigjaaDoorW.PrintWords Go.Proofs.YtibmeomlokigjaaDoorW.PrintLast
section
variable {H : Type} (enc : TypeId × Value → H) (P : Program) (W : World)
def Opens {α : Type} (t : TypeId) (d : Kd α) (ok : α → Prop) : Prop := ∀ (fuel : Nat) (cs : List Value) (x : DataW H × List MemPlace), DataW.trod enc P W 0 (fun _ => true) true fuel t cs = some x → ∃ a, d.K W a cs ∧ ok a
def OpensFs {α : Type} (off : Nat) (fs : List Field) (d : Kd α) (ok : α → Prop) : Prop :=
  ∀ (n : Nat) (cs : List Value) (xs : List (DataW H × List MemPlace)), (∀ (i : Nat) (f : Field), fs[i]? = some f → DataW.trod enc P W 0 (fun _ => true) true n f.type ((cs.drop f.offset).take (P.cellsOf f.type)) = xs[i]?) → xs.length = fs.length → cs.length = off + d.sz → ∃ a, d.K W a (cs.drop off) ∧ ok a
variable {enc P W}
variable {α β : Type} {t : TypeId} {d : Kd α} {d2 : Kd β} {ok : α → Prop} {ok2 : β → Prop}
theorem int {k : IntKind} (ht : P.underlying t = some (.int k)) : Opens enc P W t (Kd.int k) (fun n => (Lit.int k n).wf = true) := fun fuel cs x h => by
  obtain ⟨n, rfl, _, hw⟩ := DataW.trod_int ht h
  exact ⟨n, rfl, hw⟩
theorem one {f : Field} (off : Nat) (ho : f.offset = off) (he : Opens enc P W f.type d ok) (hc : P.cellsOf f.type = d.sz) : OpensFs enc P W off [f] d ok := fun n cs xs h hx hl => by
  have h0 := h 0 f rfl
  have hz : xs.length = 1 := hx
  obtain ⟨y, rfl⟩ := List.length_eq_one_iff.mp hz
  rw [ho, hc, List.take_of_length_le (by simp; omega)] at h0
  exact he _ _ _ h0
theorem cons {f : Field} {fs : List Field} (off off2 : Nat) (ho : f.offset = off) (he : Opens enc P W f.type d ok) (hc : P.cellsOf f.type = d.sz) (h2 : off + d.sz = off2) (hr : OpensFs enc P W off2 fs d2 ok2) :
    OpensFs enc P W off (f :: fs) (Kd.pair d d2) (fun x => ok x.1 ∧ ok2 x.2) := fun n cs xs h hx hl => by
  cases xs with
  | nil => simp at hx
  | cons y ys =>
    have h0 := h 0 f rfl
    rw [ho, hc] at h0
    obtain ⟨p, hp, hok⟩ := he _ _ _ h0
    have hl' : cs.length = off + (d.sz + d2.sz) := hl
    obtain ⟨q, hq, hok2⟩ := hr n cs ys (fun i g hi => h (i + 1) g hi) (by simpa using hx) (by omega)
    refine ⟨(p, q), ⟨_, _, ?_, hp, hq⟩, hok, hok2⟩
    rw [← h2, ← List.drop_drop, List.take_append_drop]
theorem struct {fs : Array Field} (ht : P.underlying t = some (.struct fs)) (hc : P.cellsOf t = d.sz) (h : OpensFs enc P W 0 fs.toList d ok) : Opens enc P W t d ok := fun fuel cs x hx => by
  obtain ⟨xs, n, _, _, hl, hxs, hf⟩ := DataW.trod_struct ht hx
  have := h n cs xs (fun i f hi => hf i f (by simpa using hi)) (by simpa using hxs) (by omega)
  simpa using this
end
theorem trod_struct_val {H : Type} {enc : TypeId × Value → H} {P : Program} {W : World} {r : Reach} {b0 : Nat} {t : TypeId} {v : Value} {fs : Array Field} {α : Type} {d : Kd α} {ok : α → Prop} {dd : DataW H} {ps : List MemPlace} (ht : P.underlying t = some (.struct fs)) (hval : Value.okWide P W r b0 t v) (hd : DataW.Trod enc P W 0 (fun _ => true) true t v dd ps) (h : Opens enc P W t d ok) :
    ∃ cs a, v = .agg cs ∧ d.K W a cs.toList ∧ ok a := by
  obtain ⟨cs, rfl, _⟩ := okWide_struct ht hval
  obtain ⟨fuel, hf⟩ := hd
  obtain ⟨a, hK, hok⟩ := h _ _ _ hf
  exact ⟨cs, a, rfl, by simpa [Value.cells] using hK, hok⟩
end Go.Proofs.YtibmeomlokigjaaDoor.Opens
namespace Go.Proofs.YtibmeomlokigjaaDoor.Laid
open Go.ChangeShapes Go.WideShapes Go.ChangeAt Go.WideMaps Go.WideElems Go.RowKit
noncomputable def laid3 : List (String × DataW Unit) := Rows.fnExactFormatGameRow.laid
theorem door_met (os : Os) (args : Array Value) : laidMetH Tryd.prog laid3 ((World.doorLaid Tryd.prog 400 os).forCall (fun _ _ => 0) ⟨#[], args, []⟩).memory :=
  laidMetH_of_parts3 (fuel := 8) (laidMet_of_run' 8 (by kernel_rfl) (by kernel_rfl)) (by kernel_rfl) (by kernel_rfl)
theorem door_shaped (os : Os) (args : Array Value) : ((World.doorLaid Tryd.prog 400 os).forCall (fun _ _ => 0) ⟨#[], args, []⟩).Shaped Tryd.prog :=
  World.shaped_of_RefB (by kernel_rfl) (by kernel_rfl)
end Go.Proofs.YtibmeomlokigjaaDoor.Laid
namespace Go.Proofs.YtibmeomlokigjaaDoor.Q
open Go.RowKit Go.Proofs.YtibmeomlokigjaaDoorW.PrintWords Go.Proofs.YtibmeomlokigjaaDoorW.PrintLast Go.Proofs.YtibmeomlokigjaaDoorW.PrintMore
def mk (l : List UInt8) : ByteArray := ⟨l.toArray⟩
theorem mk_append (a b : List UInt8) : mk a ++ mk b = mk (a ++ b) := by
  apply ByteArray.ext
  simp [mk]
theorem mk_size (l : List UInt8) : (mk l).size = l.length := by simp [mk, ByteArray.size]
theorem mk_self (s : ByteArray) : mk s.data.toList = s := rfl
theorem strOfNums_mk (l : List Int) : strOfNums l = mk (l.map fun n => UInt8.ofNat n.toNat) := rfl
def dec (n : Int) : ByteArray := mk (Lib.decDigits n.toNat)
theorem dec_size (n : Int) (h0 : 0 ≤ n) (h1 : n < 100) : (dec n).size ≤ 2 := by
  unfold dec
  rw [mk_size]
  by_cases h : n.toNat < 10
  · rw [Lib.decDigits_one h]; simp
  · rw [Lib.decDigits_two h (by omega)]; simp
theorem wrap_id (x : Int) (h0 : -9223372036854775808 ≤ x) (h1 : x ≤ 9223372036854775807) : wrap64 x = x := by unfold wrap64; omega
theorem formatInt_l0 (m : Nat) : ∀ (k : Nat) (n : Int) (s : List UInt8), 0 ≤ n → n.toNat < 10 ^ (m + 1) → n ≤ 9223372036854775807 → s.length + m ≤ 1000 → spec_FormatInt.l0 (k + m + 1) n (mk s) = some (mk (Lib.decDigits n.toNat ++ s)) := by
  induction m with
  | zero =>
    intro k n s h0 h1 h2 hs
    have hn : n.toNat < 10 := by simpa using h1
    rw [spec_FormatInt.l0, if_neg (by omega)]
    simp only [Option.bind_some, strOfNums_mk, List.map_cons, List.map_nil, mk_size, mk_append]
    rw [if_pos (by simp; omega), Lib.decDigits_one hn, wrap_id _ (by omega) (by omega), show ((48 + n) % 256).toNat = 48 + n.toNat by omega]
  | succ m ih =>
    intro k n s h0 h1 h2 hs
    by_cases hn : n > 9
    · rw [show k + (m + 1) + 1 = (k + m + 1) + 1 by omega, spec_FormatInt.l0, if_pos hn]
      have h10 : Int.tdiv n 10 = n / 10 := Int.tdiv_eq_ediv_of_nonneg h0
      have hm10 : Int.tmod n 10 = n % 10 := Int.tmod_eq_emod_of_nonneg h0
      simp only [Option.bind_some, strOfNums_mk, List.map_cons, List.map_nil, mk_size, mk_append, h10, hm10]
      rw [if_pos (by simp; omega), wrap_id (n / 10) (by omega) (by omega)]
      have hlt : (n / 10).toNat < 10 ^ (m + 1) := by
        have : n.toNat < 10 * 10 ^ (m + 1) := by rw [Nat.pow_succ] at h1; omega
        omega
      rw [List.singleton_append, ih k (n / 10) _ (by omega) hlt (by omega) (by simp; omega)]
      congr 2
      rw [wrap_id _ (by omega) (by omega), show ((48 + n % 10) % 256).toNat = 48 + n.toNat % 10 by omega]
      conv => rhs; rw [Lib.decDigits]
      rw [dif_neg (by omega), List.append_assoc, show (n / 10).toNat = n.toNat / 10 by omega]
      rfl
    · rw [show k + (m + 1) + 1 = (k + m + 1) + 1 by omega, spec_FormatInt.l0, if_neg hn]
      simp only [Option.bind_some, strOfNums_mk, List.map_cons, List.map_nil, mk_size, mk_append]
      rw [if_pos (by simp; omega), Lib.decDigits_one (by omega), wrap_id _ (by omega) (by omega), show ((48 + n) % 256).toNat = 48 + n.toNat by omega]
theorem specFormatInt (k : Nat) (n : Int) (h0 : 0 ≤ n) (h1 : n < 100) : spec_FormatInt.f (k + 3) n = some (dec n) := by
  rw [show k + 3 = (k + 2) + 1 by omega, spec_FormatInt.f, if_neg (by omega)]
  have := formatInt_l0 1 k n [] h0 (by simp; omega) (by omega) (by simp)
  rw [List.append_nil] at this
  exact this
theorem implFormatInt (n : Int) (h0 : 0 ≤ n) (h1 : n < 100) : impl_FormatInt.f n = some (dec n) := by
  unfold impl_FormatInt.f strconv_Itoa.f
  rw [if_pos ⟨h0, h1⟩]
  rfl
theorem rd_nat (l : List Int) (i : Nat) (h : i < l.length) : rd l (i : Int) = l[i] := by
  simp [rd, h]
theorem texts_l0 (l : List Int) (hl : l.length ≤ 1000000) (hr : ∀ x ∈ l, 0 ≤ x ∧ x < 100) (k : Nat) : ∀ (m i : Nat) (acc : List ByteArray), i + m = l.length → acc.length = i → impl_texts.l0 (k + m + 1) acc l (l.length : Int) (i : Int) = some (acc ++ (l.drop i).map dec) := by
  intro m
  induction m with
  | zero =>
    intro i acc hi ha
    rw [impl_texts.l0, if_neg (by omega), List.drop_eq_nil_of_le (by omega)]
    simp
  | succ m ih =>
    intro i acc hi ha
    have hlt : i < l.length := by omega
    rw [show k + (m + 1) + 1 = (k + m + 1) + 1 by omega, impl_texts.l0, if_pos (by omega), if_pos (by omega), if_pos (by omega), rd_nat l i hlt]
    obtain ⟨r0, r1⟩ := hr l[i] (List.getElem_mem hlt)
    rw [implFormatInt _ r0 r1, Option.bind_some, if_pos (by omega), wrap_id _ (by omega) (by omega)]
    have := ih (i + 1) (acc ++ [dec l[i]]) (by omega) (by simp [ha])
    rw [show ((i : Int) + 1) = ((i + 1 : Nat) : Int) by omega, this, List.drop_eq_getElem_cons hlt, List.map_cons, List.append_assoc]
    rfl
theorem texts_eq (l : List Int) (hl : l.length ≤ 1000000) (hr : ∀ x ∈ l, 0 ≤ x ∧ x < 100) (k : Nat) : impl_texts.f (k + l.length + 1) l = some (l.map dec) := by
  unfold impl_texts.f
  have := texts_l0 l hl hr k l.length 0 [] (by omega) rfl
  simpa using this
def joinB (l : List ByteArray) (s : ByteArray) : ByteArray := mk (Lib.join (l.map (·.data.toList)) s.data.toList)
theorem join_eq (l : List ByteArray) (s : ByteArray) (h1 : l.length ≤ 1000000) (h2 : (joinB l s).size ≤ 140737488355328) : impl_Join.f l s = some (joinB l s) := by
  unfold joinB at h2
  rw [mk_size] at h2
  unfold impl_Join.f strings_Join.f
  rw [if_pos ⟨by omega, h2⟩]
  rfl
theorem join2 (a b s : ByteArray) : joinB [a, b] s = a ++ s ++ b := by
  simp [joinB, Lib.join, List.intercalate, ← mk_append, mk_self, ByteArray.append_assoc]
theorem join2_sz (a b s : ByteArray) : (joinB [a, b] s).size = a.size + s.size + b.size := by rw [join2]; simp
def withinT (n low high : Int) : Bool := decide (low ≤ n) && decide (n ≤ high)
theorem within_eq (n low high : Int) : impl_within.f n low high = some (withinT n low high) := by
  unfold impl_within.f withinT
  split <;> simp_all <;> omega
theorem l01In_eq (n low high : Int) : spec_l01In.f n low high = some (withinT n low high) := by
  unfold spec_l01In.f withinT
  split <;> simp_all <;> omega
theorem texts2 (a b : Int) (ha : 0 ≤ a ∧ a < 100) (hb : 0 ≤ b ∧ b < 100) (k : Nat) : impl_texts.f (k + 3) [a, b] = some [dec a, dec b] := texts_eq [a, b] (by simp) (by simp [ha, hb]) k
end Go.Proofs.YtibmeomlokigjaaDoor.Q
namespace Go.Proofs.YtibmeomlokigjaaDoor.Q
open Go.RowKit Go.Proofs.YtibmeomlokigjaaDoorW.PrintWords Go.Proofs.YtibmeomlokigjaaDoorW.PrintLast Go.Proofs.YtibmeomlokigjaaDoorW.PrintMore
def gameOkT (n h a x y s : Int) : Bool := withinT n 2 8 && !decide (h = a) && withinT h 0 (n - 1) && withinT a 0 (n - 1) && withinT s 0 4 && withinT x 0 (if s = 1 then 99 else 0) && withinT y 0 (if s = 1 then 99 else 0)
theorem implGameOk (k : Nat) (h a x y s : Int) : impl_GameOk.f (k + 1) 8 h a x y s = some (gameOkT 8 h a x y s) := by
  unfold impl_GameOk.f gameOkT
  simp only [impl_GameOk.j0, within_eq, Option.bind_some]
  rw [show wrap64 (8 - 1) = 7 from (wrap_id _ (by decide) (by decide)).trans rfl, show (8 : Int) - 1 = 7 from rfl, show withinT 8 2 8 = true from rfl]
  rcases Bool.eq_false_or_eq_true (withinT h 0 7) with e1 | e1 <;> rcases Bool.eq_false_or_eq_true (withinT a 0 7) with e2 | e2 <;> rcases Bool.eq_false_or_eq_true (withinT s 0 4) with e3 | e3 <;>
    by_cases hs : s = 1 <;> by_cases hh : h = a <;> rcases Bool.eq_false_or_eq_true (withinT x 0 (if s = 1 then 99 else 0)) with e4 | e4 <;> simp_all
theorem zero_eq (x : Int) : withinT x 0 0 = (x == 0) := by
  unfold withinT
  rcases Int.lt_trichotomy x 0 with h | h | h
  · rw [decide_eq_false (by omega), Bool.false_and]; exact (beq_eq_false_iff_ne.mpr (by omega)).symm
  · subst h; rfl
  · rw [decide_eq_false (show ¬ x ≤ 0 by omega), Bool.and_false]; exact (beq_eq_false_iff_ne.mpr (by omega)).symm
theorem specGameOk (k : Nat) (h a x y s : Int) : spec_GameOk.f (k + 1) 8 h a x y s = some (gameOkT 8 h a x y s) := by
  unfold spec_GameOk.f gameOkT
  simp only [spec_GameOk.j0, l01In_eq, Option.bind_some]
  rw [show wrap64 (8 - 1) = 7 from (wrap_id _ (by decide) (by decide)).trans rfl, show (8 : Int) - 1 = 7 from rfl, show withinT 8 2 8 = true from rfl]
  rcases Bool.eq_false_or_eq_true (withinT h 0 7) with e1 | e1 <;> rcases Bool.eq_false_or_eq_true (withinT a 0 7) with e2 | e2 <;> rcases Bool.eq_false_or_eq_true (withinT s 0 4) with e3 | e3 <;>
    by_cases hs : s = 1 <;> by_cases hh : h = a <;> rcases Bool.eq_false_or_eq_true (withinT x 0 99) with e4 | e4 <;> by_cases hx : x = 0 <;> simp_all [zero_eq]
def stateT (s : Int) (x : ByteArray) : ByteArray := rdOf ByteArray.empty [⟨#[111, 112, 101, 110]⟩, x, ⟨#[104, 111, 109, 101]⟩, ⟨#[97, 119, 97, 121]⟩, ⟨#[118, 111, 105, 100]⟩] s
def gameT (h a x y s : Int) : ByteArray := if gameOkT 8 h a x y s then dec h ++ ⟨#[45]⟩ ++ dec a ++ ⟨#[32]⟩ ++ stateT s (dec x ++ ⟨#[58]⟩ ++ dec y) else ⟨#[]⟩
theorem gameOk_ranges {h a x y s : Int} (g : gameOkT 8 h a x y s = true) : (0 ≤ h ∧ h < 100) ∧ (0 ≤ a ∧ a < 100) ∧ (0 ≤ x ∧ x < 100) ∧ (0 ≤ y ∧ y < 100) ∧ 0 ≤ s ∧ s < 5 := by
  simp only [gameOkT, withinT, Bool.and_eq_true, decide_eq_true_eq] at g
  obtain ⟨⟨⟨⟨⟨_, h1, h2⟩, h3, h4⟩, h5, h6⟩, h7, h8⟩, h9, h10⟩ := g
  by_cases hs : s = 1
  · simp only [hs, if_true] at *; omega
  · simp only [hs, if_false] at *; omega
theorem stateT_size (s : Int) (x : ByteArray) (h : x.size ≤ 5) : (stateT s x).size ≤ 5 := by
  unfold stateT rdOf
  rcases s.toNat with _ | _ | _ | _ | _ | n
  · exact (by decide : (4 : Nat) ≤ 5)
  · exact h
  · exact (by decide : (4 : Nat) ≤ 5)
  · exact (by decide : (4 : Nat) ≤ 5)
  · exact (by decide : (4 : Nat) ≤ 5)
  · exact Nat.zero_le _
theorem one_size (c : UInt8) : (⟨#[c]⟩ : ByteArray).size = 1 := rfl
theorem implFormatGame (k : Nat) (h a x y s : Int) : impl_FormatGame.f (k + 3) h a x y s = some (gameT h a x y s) := by
  unfold impl_FormatGame.f gameT
  rw [implGameOk (k + 2), Option.bind_some]
  by_cases g : gameOkT 8 h a x y s = true
  · obtain ⟨rh, ra, rx, ry, rs⟩ := gameOk_ranges g
    have zh := dec_size h rh.1 rh.2
    have za := dec_size a ra.1 ra.2
    have zx := dec_size x rx.1 rx.2
    have zy := dec_size y ry.1 ry.2
    have zs := stateT_size s (dec x ++ ⟨#[58]⟩ ++ dec y) (by simp only [ByteArray.size_append, one_size]; omega)
    rw [if_pos g, if_pos g, texts2 x y rx ry k, Option.bind_some, join_eq _ _ (by simp) (by rw [join2_sz, one_size]; omega), Option.bind_some, Option.bind_some, if_pos rs.1, if_pos (by simp; omega), texts2 h a rh ra k, Option.bind_some, join_eq _ _ (by simp) (by rw [join2_sz, one_size]; omega), Option.bind_some]
    simp only [join2]
    have e : rdOf ByteArray.empty [⟨#[111, 112, 101, 110]⟩, dec x ++ ⟨#[58]⟩ ++ dec y, ⟨#[104, 111, 109, 101]⟩, ⟨#[97, 119, 97, 121]⟩, ⟨#[118, 111, 105, 100]⟩] s = stateT s (dec x ++ ⟨#[58]⟩ ++ dec y) := rfl
    rw [e, if_pos (by simp only [ByteArray.size_append, one_size]; omega), if_pos (by simp only [ByteArray.size_append, one_size]; omega)]
  · rw [if_neg g, if_neg g]
theorem specFormatGame (k : Nat) (h a x y s : Int) : spec_FormatGame.f (k + 3) h a x y s = some (gameT h a x y s) := by
  unfold spec_FormatGame.f gameT
  rw [specGameOk (k + 2), Option.bind_some]
  by_cases g : gameOkT 8 h a x y s = true
  · obtain ⟨rh, ra, rx, ry, rs⟩ := gameOk_ranges g
    have zh := dec_size h rh.1 rh.2
    have za := dec_size a ra.1 ra.2
    have zx := dec_size x rx.1 rx.2
    have zy := dec_size y ry.1 ry.2
    rw [if_pos g, if_pos g, specFormatInt k h rh.1 rh.2, Option.bind_some, if_pos (by omega), specFormatInt k a ra.1 ra.2, Option.bind_some, if_pos (by simp only [ByteArray.size_append, one_size]; omega), if_pos (by simp only [ByteArray.size_append, one_size]; omega)]
    by_cases hs : s = 1
    · subst hs
      rw [if_pos rfl, specFormatInt k x rx.1 rx.2, Option.bind_some, if_pos (by simp only [ByteArray.size_append, one_size]; omega), if_pos (by simp only [ByteArray.size_append, one_size]; omega), specFormatInt k y ry.1 ry.2, Option.bind_some, if_pos (by simp only [ByteArray.size_append, one_size]; omega)]
      rw [show stateT 1 (dec x ++ ⟨#[58]⟩ ++ dec y) = dec x ++ ⟨#[58]⟩ ++ dec y from rfl]
      simp only [ByteArray.append_assoc]
    · have zs := stateT_size s ⟨#[]⟩ (by decide)
      have e : rdOf ByteArray.empty [⟨#[111, 112, 101, 110]⟩, ⟨#[]⟩, ⟨#[104, 111, 109, 101]⟩, ⟨#[97, 119, 97, 121]⟩, ⟨#[118, 111, 105, 100]⟩] s = stateT s ⟨#[]⟩ := rfl
      have e2 : stateT s (dec x ++ ⟨#[58]⟩ ++ dec y) = stateT s ⟨#[]⟩ := by
        unfold stateT rdOf
        rcases ht : s.toNat with _ | _ | m
        · rfl
        · omega
        · rfl
      rw [if_neg hs, Option.bind_some, if_pos rs.1, if_pos (by simp; omega), e, e2, if_pos (by simp only [ByteArray.size_append, one_size]; omega)]
  · rw [if_neg g, if_neg g]
end Go.Proofs.YtibmeomlokigjaaDoor.Q
namespace Go.Proofs.YtibmeomlokigjaaDoor.Pure
open Go.RowKit Go.Proofs.YtibmeomlokigjaaDoor.Q Go.Proofs.YtibmeomlokigjaaDoorW.PrintWords Go.Proofs.YtibmeomlokigjaaDoorW.PrintLast
theorem FnExactFormatGame (a0 a1 a2 a3 a4 : Int) (ok : (Lit.int .i64 a0).wf = true ∧ (Lit.int .i64 a1).wf = true ∧ (Lit.int .i64 a2).wf = true ∧ (Lit.int .i64 a3).wf = true ∧ (Lit.int .i64 a4).wf = true) : ∃ k, laws_FnExactFormatGame.f k a0 a1 a2 a3 a4 = some true := by
  refine ⟨3, ?_⟩
  unfold laws_FnExactFormatGame.f laws_toGame.f
  simp only [Option.bind_some]
  rw [specFormatGame 0, Option.bind_some, implFormatGame 0, Option.bind_some, if_pos rfl]
end Go.Proofs.YtibmeomlokigjaaDoor.Pure
namespace Go.Proofs.YtibmeomlokigjaaDoor.fnExactFormatGame
open Go.ChangeShapes Go.WideShapes Go.ChangeAt Go.RowKit
open Go.ChangeMaps (open_string shut_string)
set_option linter.unusedVariables false
theorem own : ownKnob Tryd.prog.godebug = none := by kernel_rfl
theorem laidOut : laidOutB Tryd.prog = true := by kernel_rfl
set_option maxRecDepth 100000 in
set_option maxHeartbeats 4000000 in
theorem lifted (os : Os) (started : os.Started) (H : Type) (enc : TypeId × Value → H) :
    ReturnsInHanded {} Tryd.checked os 3 .any (fun w args => (Rows.fnExactFormatGameSpec.pre enc Tryd.prog Tryd.f3 [] false w args ∧ laidMetH Tryd.prog Laid.laid3 w) ∧ sizedMet enc Tryd.prog Tryd.f3 (OpenSpec.ofChange Rows.fnExactFormatGameSpec) false w args)
      (Rows.fnExactFormatGameSpec.post enc Tryd.prog Tryd.f3 false true false false) := by
  refine returnsInHanded_of_change_and (C := Tryd.checked) (X := fun w _ => laidMetH Tryd.prog Laid.laid3 w) (fun _ _ _ hh h => h.of_heap hh) own started (by kernel_rfl) Tryd.func3
    (ChangeSpec.witness_shaped (enc := enc) (C := Tryd.checked) (os := os) (X := fun w _ => laidMetH Tryd.prog Laid.laid3 w) false (World.doorLaid Tryd.prog 400 os) #[.agg #[.int .i64 0, .int .i64 0, .int .i64 0, .int .i64 0, .int .i64 0]] 8 rfl (Laid.door_shaped os _) (by kernel_rfl) (by kernel_rfl) (by kernel_rfl) (Laid.door_met os _)) ?_
  intro W base args ds gs before hval0 hW hcnd hsz0 hL _
  have hval : ∀ (j : Nat) t v, Tryd.f3.params[j]? = some t → args[j]? = some v → Value.okWide Tryd.prog W .any base t v := hval0
  have hW' := hW
  obtain ⟨p, q, hA0, hV, rfl, hfz, hnd⟩ := hW
  have hA : DataW.TrodAll enc Tryd.prog W 0 (fun _ => true) true Tryd.f3.params.toList args.toList ds p := hA0
  rw [Tryd.params3] at hA hval
  obtain ⟨v0, vs0, d0, ds0, p0, q0, hargs0, rfl, rfl, h0, r0⟩ := trodAll_cons hA
  obtain ⟨rfl, rfl, rfl⟩ := trodAll_nil r0
  obtain rfl : args = #[v0] := by cases args; simp_all
  obtain ⟨rfl, rfl⟩ := trodVars_none hV
  have k0 := h0; have lt0 : ∀ x ∈ p0, x.block < W.heap.size := by obtain ⟨m, hm⟩ := k0; exact DataW.trod_lt m _ _ _ hm
  obtain ⟨cs0, x0, rfl, hK0, ok0⟩ := Opens.trod_struct_val Tryd.underlying23 (hval 0 23 v0 rfl rfl) h0 (Opens.struct Tryd.underlying23 (by kernel_rfl) (Opens.cons 0 1 rfl (Opens.int Tryd.underlying3) (by kernel_rfl) rfl (Opens.cons 1 2 rfl (Opens.int Tryd.underlying3) (by kernel_rfl) rfl (Opens.cons 2 3 rfl (Opens.int Tryd.underlying3) (by kernel_rfl) rfl (Opens.cons 3 4 rfl (Opens.int Tryd.underlying3) (by kernel_rfl) rfl (Opens.one 4 rfl (Opens.int Tryd.underlying3) (by kernel_rfl)))))))
  obtain ⟨a0_0, a0_1, a0_2, a0_3, a0_4⟩ := x0
  obtain ⟨_, _, hcs0, rfl, ⟨_, _, rfl, rfl, ⟨_, _, rfl, rfl, ⟨_, _, rfl, rfl, rfl⟩⟩⟩⟩ := hK0
  obtain rfl : cs0 = #[.int .i64 a0_0, .int .i64 a0_1, .int .i64 a0_2, .int .i64 a0_3, .int .i64 a0_4] := Array.toList_inj.mp hcs0
  clear hA0 hval0 hsz0
  obtain ⟨k, hk⟩ := Pure.FnExactFormatGame a0_0 a0_1 a0_2 a0_3 a0_4 ok0
  refine (Q.laws_FnExactFormatGame.calls k  a0_0 a0_1 a0_2 a0_3 a0_4 _ W  hk).mono fun e W' ⟨he, bel⟩ => ?_
  subst he
  exact ⟨_, rfl, _, _, _, [], _, [], hW', trodAll_mk1 (shut_bool Tryd.underlying4 _), (trodAll_cons_mk (Below.trod laidOut (by kernel_rfl) (of_decide_eq_true (by kernel_rfl)) k0 bel lt0) trodAll_mk0), rfl, bel.frame _, fun h => by cases h⟩
theorem over : Rows.fnExactFormatGameRow.holds Tryd.pinned (OpenSpec.ofChange Rows.fnExactFormatGameSpec) :=
  OpenClaim.holds_of_wide 3 Tryd.f3 rfl rfl rfl rfl rfl rfl rfl ⟨rfl, rfl, rfl, rfl, rfl⟩ rfl rfl rfl rfl rfl (by kernel_rfl) Tryd.func3 (by kernel_rfl)
    (of_decide_eq_true (by kernel_rfl)) (by unfold Func.isWrapper; first | (rw [if_pos (by decide +kernel)]; kernel_rfl) | (rw [if_neg (by decide +kernel)]; exact ⟨rfl, rfl⟩))
    (fun os started H enc _ => lifted os started H enc)
theorem provedCard : Rows.FnExactFormatGameCardSaid :=
  Claim7.holds_tied_plain_at .later [] [.data, .data, .data] true (true, "a6e8e4b77242bb99ec034f5991610b756a84533526b99ec4e7efdd8f2b96172f") false
    over (fun _ h => by cases h) (by kernel_rfl) (fun _ h => by cases h) fnExactFormatGame_row_tie rfl ⟨rfl, rfl⟩ (by kernel_rfl) rfl
    (fun f fn hf hfn => by
      obtain rfl : f = 3 := (Option.some.inj ((show Tryd.prog.funcNamed "loop.example/g00834/laws.FnExactFormatGame" = some 3 by kernel_rfl).symm.trans hf)).symm
      obtain rfl : fn = Tryd.f3 := (Option.some.inj (Tryd.func3.symm.trans hfn)).symm
      refine ⟨by kernel_rfl, fun j t ht => ?_⟩
      have hm : t ∈ Tryd.f3.params.toList := List.mem_of_getElem? (i := j) (by rw [Array.getElem?_toList]; exact ht)
      have hall := List.all_eq_true.mp (show (Tryd.f3.params.toList.all fun t => !Tryd.prog.wantsStandIn t) = true by kernel_rfl) t hm
      exact Bool.not_eq_true' _ |>.mp hall)
    (by kernel_rfl)
end Go.Proofs.YtibmeomlokigjaaDoor.fnExactFormatGame
namespace Go.Proofs.YtibmeomlokigjaaDoor
theorem fnExactFormatGame_holds : Rows.FnExactFormatGameCardSaid := fnExactFormatGame.provedCard
end Go.Proofs.YtibmeomlokigjaaDoor
