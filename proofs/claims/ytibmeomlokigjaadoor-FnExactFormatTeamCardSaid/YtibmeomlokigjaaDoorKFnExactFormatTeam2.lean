/- A part of the proof of FnExactFormatTeam: functions of the program, as plain functions, with the proof that the machine's call does what they say; plain lemmas; and those of the words that print.sh prints which this proof uses. No condition. -/
import Derived.Test.YtibmeomlokigjaaDoorKFnExactFormatTeam1
import Derived.Test.YtibmeomlokigjaaDoorProg
import Derived.Below
import Derived.Deep.Draws
import Derived.Deep.AppendLies
import Derived.Maps.AppendAt
import Derived.OwnWalk
import Derived.Laws.BytesArg
import Derived.Laws.MakeOwn
import Derived.Laws.OwnMore
import Derived.Deep.OwnRows
import Derived.Tactics
import Derived.Lib.ConvBytes
import Derived.Laws.Slices
import Derived.WalkKit
import Derived.KernelRfl
import Derived.RowKit3
import Derived.Deep.LoopGhost
import Derived.Deep.QuietTactic
import Derived.BigQuiet
import Derived.WideLaws
import Derived.Deep.DeepCutAuto
import Derived.Deep.CutBlock
import Derived.Deep.RegionHeld3
import Derived.Laws.Rows
import Derived.Lib.AppendStr
import Derived.ArgAppend
import Derived.Laws.IdiomCopy
import Derived.OrdersHeld
import Derived.Laws.BitsLemmas
import Derived.RowKit
import Derived.WalkSpells
import Derived.Shelf.Strings.Builder1
import Derived.Shelf.Strings.Builder2
import Derived.Shelf.Strings.OnBuilder
import Derived.Shelf.Strconv.Itoa0
import Derived.Shelf.Strconv.Itoa1
import Derived.Shelf.LaysM
import Derived.Shelf.Strconv.Itoa2
import Derived.Shelf.Strconv.Itoa3
import Derived.Laws.StructEq
import Derived.Test.YtibmeomlokigjaaDoorRows
import Derived.ProofKit
import Derived.OpenShut
import Derived.ShutString
import Derived.ChangeOld
import Derived.SizedLaws
import Derived.LaidMore
import Derived.LaidHandle
import Derived.Stop.Joined
import Derived.Test.YtibmeomlokigjaaDoorCards
import Derived.Test.YtibmeomlokigjaaDoorTie
import Derived.SevenTiedAt
namespace Go.Proofs.YtibmeomlokigjaaDoor.Q
open Go.RowKit Go.Proofs.YtibmeomlokigjaaDoorW.PrintWords Go.Proofs.YtibmeomlokigjaaDoorW.PrintLast Go.Proofs.YtibmeomlokigjaaDoorW.PrintMore
def mk (l : List UInt8) : ByteArray := ⟨l.toArray⟩
theorem mk_append (a b : List UInt8) : mk a ++ mk b = mk (a ++ b) := by
  apply ByteArray.ext
  simp [mk]
theorem mk_size (l : List UInt8) : (mk l).size = l.length := by simp [mk, ByteArray.size]
theorem mk_self (s : ByteArray) : mk s.data.toList = s := rfl
theorem strOfNums_mk (l : List Int) : strOfNums l = mk (l.map fun n => UInt8.ofNat n.toNat) := rfl
def dec (n : Int) : ByteArray := mk (Lib.decDigits n.toNat)
theorem dec_size (n : Int) (h0 : 0 ≤ n) (h1 : n < 100) : (dec n).size ≤ 2 := by
  unfold dec
  rw [mk_size]
  by_cases h : n.toNat < 10
  · rw [Lib.decDigits_one h]; simp
  · rw [Lib.decDigits_two h (by omega)]; simp
theorem wrap_id (x : Int) (h0 : -9223372036854775808 ≤ x) (h1 : x ≤ 9223372036854775807) : wrap64 x = x := by unfold wrap64; omega
theorem formatInt_l0 (m : Nat) : ∀ (k : Nat) (n : Int) (s : List UInt8), 0 ≤ n → n.toNat < 10 ^ (m + 1) → n ≤ 9223372036854775807 → s.length + m ≤ 1000 → spec_FormatInt.l0 (k + m + 1) n (mk s) = some (mk (Lib.decDigits n.toNat ++ s)) := by
  induction m with
  | zero =>
    intro k n s h0 h1 h2 hs
    have hn : n.toNat < 10 := by simpa using h1
    rw [spec_FormatInt.l0, if_neg (by omega)]
    simp only [Option.bind_some, strOfNums_mk, List.map_cons, List.map_nil, mk_size, mk_append]
    rw [if_pos (by simp; omega), Lib.decDigits_one hn, wrap_id _ (by omega) (by omega), show ((48 + n) % 256).toNat = 48 + n.toNat by omega]
  | succ m ih =>
    intro k n s h0 h1 h2 hs
    by_cases hn : n > 9
    · rw [show k + (m + 1) + 1 = (k + m + 1) + 1 by omega, spec_FormatInt.l0, if_pos hn]
      have h10 : Int.tdiv n 10 = n / 10 := Int.tdiv_eq_ediv_of_nonneg h0
      have hm10 : Int.tmod n 10 = n % 10 := Int.tmod_eq_emod_of_nonneg h0
      simp only [Option.bind_some, strOfNums_mk, List.map_cons, List.map_nil, mk_size, mk_append, h10, hm10]
      rw [if_pos (by simp; omega), wrap_id (n / 10) (by omega) (by omega)]
      have hlt : (n / 10).toNat < 10 ^ (m + 1) := by
        have : n.toNat < 10 * 10 ^ (m + 1) := by rw [Nat.pow_succ] at h1; omega
        omega
      rw [List.singleton_append, ih k (n / 10) _ (by omega) hlt (by omega) (by simp; omega)]
      congr 2
      rw [wrap_id _ (by omega) (by omega), show ((48 + n % 10) % 256).toNat = 48 + n.toNat % 10 by omega]
      conv => rhs; rw [Lib.decDigits]
      rw [dif_neg (by omega), List.append_assoc, show (n / 10).toNat = n.toNat / 10 by omega]
      rfl
    · rw [show k + (m + 1) + 1 = (k + m + 1) + 1 by omega, spec_FormatInt.l0, if_neg hn]
      simp only [Option.bind_some, strOfNums_mk, List.map_cons, List.map_nil, mk_size, mk_append]
      rw [if_pos (by simp; omega), Lib.decDigits_one (by omega), wrap_id _ (by omega) (by omega), show ((48 + n) % 256).toNat = 48 + n.toNat by omega]
theorem specFormatInt (k : Nat) (n : Int) (h0 : 0 ≤ n) (h1 : n < 100) : spec_FormatInt.f (k + 3) n = some (dec n) := by
  rw [show k + 3 = (k + 2) + 1 by omega, spec_FormatInt.f, if_neg (by omega)]
  have := formatInt_l0 1 k n [] h0 (by simp; omega) (by omega) (by simp)
  rw [List.append_nil] at this
  exact this
theorem implFormatInt (n : Int) (h0 : 0 ≤ n) (h1 : n < 100) : impl_FormatInt.f n = some (dec n) := by
  unfold impl_FormatInt.f strconv_Itoa.f
  rw [if_pos ⟨h0, h1⟩]
  rfl
theorem rd_nat (l : List Int) (i : Nat) (h : i < l.length) : rd l (i : Int) = l[i] := by
  simp [rd, h]
theorem texts_l0 (l : List Int) (hl : l.length ≤ 1000000) (hr : ∀ x ∈ l, 0 ≤ x ∧ x < 100) (k : Nat) : ∀ (m i : Nat) (acc : List ByteArray), i + m = l.length → acc.length = i → impl_texts.l0 (k + m + 1) acc l (l.length : Int) (i : Int) = some (acc ++ (l.drop i).map dec) := by
  intro m
  induction m with
  | zero =>
    intro i acc hi ha
    rw [impl_texts.l0, if_neg (by omega), List.drop_eq_nil_of_le (by omega)]
    simp
  | succ m ih =>
    intro i acc hi ha
    have hlt : i < l.length := by omega
    rw [show k + (m + 1) + 1 = (k + m + 1) + 1 by omega, impl_texts.l0, if_pos (by omega), if_pos (by omega), if_pos (by omega), rd_nat l i hlt]
    obtain ⟨r0, r1⟩ := hr l[i] (List.getElem_mem hlt)
    rw [implFormatInt _ r0 r1, Option.bind_some, if_pos (by omega), wrap_id _ (by omega) (by omega)]
    have := ih (i + 1) (acc ++ [dec l[i]]) (by omega) (by simp [ha])
    rw [show ((i : Int) + 1) = ((i + 1 : Nat) : Int) by omega, this, List.drop_eq_getElem_cons hlt, List.map_cons, List.append_assoc]
    rfl
theorem texts_eq (l : List Int) (hl : l.length ≤ 1000000) (hr : ∀ x ∈ l, 0 ≤ x ∧ x < 100) (k : Nat) : impl_texts.f (k + l.length + 1) l = some (l.map dec) := by
  unfold impl_texts.f
  have := texts_l0 l hl hr k l.length 0 [] (by omega) rfl
  simpa using this
def joinB (l : List ByteArray) (s : ByteArray) : ByteArray := mk (Lib.join (l.map (·.data.toList)) s.data.toList)
theorem join_eq (l : List ByteArray) (s : ByteArray) (h1 : l.length ≤ 1000000) (h2 : (joinB l s).size ≤ 140737488355328) : impl_Join.f l s = some (joinB l s) := by
  unfold joinB at h2
  rw [mk_size] at h2
  unfold impl_Join.f strings_Join.f
  rw [if_pos ⟨by omega, h2⟩]
  rfl
theorem join2 (a b s : ByteArray) : joinB [a, b] s = a ++ s ++ b := by
  simp [joinB, Lib.join, List.intercalate, ← mk_append, mk_self, ByteArray.append_assoc]
theorem join3 (a b c s : ByteArray) : joinB [a, b, c] s = a ++ s ++ b ++ s ++ c := by
  simp [joinB, Lib.join, List.intercalate, ← mk_append, mk_self, ByteArray.append_assoc]
theorem join3_sz (a b c s : ByteArray) : (joinB [a, b, c] s).size = a.size + s.size + b.size + s.size + c.size := by rw [join3]; simp
def withinT (n low high : Int) : Bool := decide (low ≤ n) && decide (n ≤ high)
theorem within_eq (n low high : Int) : impl_within.f n low high = some (withinT n low high) := by
  unfold impl_within.f withinT
  split <;> simp_all <;> omega
theorem l01In_eq (n low high : Int) : spec_l01In.f n low high = some (withinT n low high) := by
  unfold spec_l01In.f withinT
  split <;> simp_all <;> omega
theorem texts2 (a b : Int) (ha : 0 ≤ a ∧ a < 100) (hb : 0 ≤ b ∧ b < 100) (k : Nat) : impl_texts.f (k + 3) [a, b] = some [dec a, dec b] := texts_eq [a, b] (by simp) (by simp [ha, hb]) k
end Go.Proofs.YtibmeomlokigjaaDoor.Q
namespace Go.Proofs.YtibmeomlokigjaaDoor.Q
open Go.RowKit Go.Proofs.YtibmeomlokigjaaDoorW.PrintWords Go.Proofs.YtibmeomlokigjaaDoorW.PrintLast Go.Proofs.YtibmeomlokigjaaDoorW.PrintMore
theorem isName_both (s : ByteArray) (hs : s.size ≤ 1048576) : ∃ b, (∀ k, s.size < k → impl_IsName.f k s = some b) ∧ (∀ k, s.size < k → spec_IsName.f k s = some b) ∧ (b = true → s.size ≤ 8) := by
  have key : ∀ (d i : Nat), s.size - i = d → i ≤ s.size → ∃ b, (∀ k, d < k → impl_IsName.l0 k s (s.size : Int) (i : Int) = some b) ∧ (∀ k, d < k → spec_IsName.l0 k s (i : Int) = some b) ∧ (b = true → s.size ≤ 8) := by
    intro d
    induction d with
    | zero =>
      intro i hd hi
      refine ⟨withinT s.size 1 8, fun k hk => ?_, fun k hk => ?_, fun h => ?_⟩
      · obtain ⟨k, rfl⟩ : ∃ m, k = m + 1 := ⟨k - 1, by omega⟩
        rw [impl_IsName.l0, if_neg (by omega), within_eq]; rfl
      · obtain ⟨k, rfl⟩ : ∃ m, k = m + 1 := ⟨k - 1, by omega⟩
        rw [spec_IsName.l0, if_neg (by omega), l01In_eq]; rfl
      · simp only [withinT, Bool.and_eq_true, decide_eq_true_eq] at h; omega
    | succ d ih =>
      intro i hd hi
      obtain ⟨b, h1, h2, h3⟩ := ih (i + 1) (by omega) (by omega)
      have e1 : ∀ k, d + 1 < k → impl_IsName.l0 k s (s.size : Int) (i : Int) = (if (bt s i) ≥ 97 then (if (bt s i) ≤ 122 then some b else (if (i : Int) = 0 then some false else if (bt s i) < 48 then some false else if (bt s i) > 57 then some false else some b)) else (if (i : Int) = 0 then some false else if (bt s i) < 48 then some false else if (bt s i) > 57 then some false else some b)) := by
        intro k hk
        obtain ⟨k, rfl⟩ : ∃ m, k = m + 1 := ⟨k - 1, by omega⟩
        rw [impl_IsName.l0, if_pos (by omega), if_pos (by omega), if_pos (by omega), wrap_id _ (by omega) (by omega), show (i : Int) + 1 = ((i + 1 : Nat) : Int) by omega, h1 k (by omega)]
      have e2 : ∀ k, d + 1 < k → spec_IsName.l0 k s (i : Int) = (if (bt s i) ≥ 97 then (if (bt s i) ≤ 122 then some b else (if (i : Int) = 0 then some false else if (bt s i) < 48 then some false else if (bt s i) > 57 then some false else some b)) else (if (i : Int) = 0 then some false else if (bt s i) < 48 then some false else if (bt s i) > 57 then some false else some b)) := by
        intro k hk
        obtain ⟨k, rfl⟩ : ∃ m, k = m + 1 := ⟨k - 1, by omega⟩
        rw [spec_IsName.l0, if_pos (by omega), if_pos (by omega), wrap_id _ (by omega) (by omega), show (i : Int) + 1 = ((i + 1 : Nat) : Int) by omega, h2 k (by omega)]
      have e3 : ∃ c, (if (bt s i) ≥ 97 then (if (bt s i) ≤ 122 then some b else (if (i : Int) = 0 then some false else if (bt s i) < 48 then some false else if (bt s i) > 57 then some false else some b)) else (if (i : Int) = 0 then some false else if (bt s i) < 48 then some false else if (bt s i) > 57 then some false else some b)) = some c ∧ (c = true → s.size ≤ 8) := by
        repeat' split
        all_goals first | exact ⟨b, rfl, h3⟩ | exact ⟨false, rfl, fun h => by cases h⟩
      obtain ⟨c, hc, hc2⟩ := e3
      exact ⟨c, fun k hk => (e1 k hk).trans hc, fun k hk => (e2 k hk).trans hc, hc2⟩
  obtain ⟨b, h1, h2, h3⟩ := key s.size 0 (by omega) (by omega)
  exact ⟨b, h1, h2, h3⟩
theorem teamOk_both (s : ByteArray) (c d : Int) (hs : s.size ≤ 1048576) : ∃ b, (∀ k, s.size < k → impl_TeamOk.f k s c d = some b) ∧ (∀ k, s.size < k → spec_TeamOk.f k s c d = some b) ∧ (b = true → s.size ≤ 8 ∧ (0 ≤ c ∧ c < 100) ∧ 0 ≤ d ∧ d < 100) := by
  obtain ⟨b, h1, h2, h3⟩ := isName_both s hs
  refine ⟨b && withinT c 0 5 && withinT d 1 8, fun k hk => ?_, fun k hk => ?_, fun h => ?_⟩
  · unfold impl_TeamOk.f
    rw [h1 k hk, within_eq, within_eq]
    cases b <;> cases withinT c 0 5 <;> rfl
  · unfold spec_TeamOk.f
    rw [h2 k hk, l01In_eq, l01In_eq]
    cases b <;> cases withinT c 0 5 <;> rfl
  · simp only [withinT, Bool.and_eq_true, decide_eq_true_eq] at h
    exact ⟨h3 h.1.1, by omega, by omega⟩
theorem one_size' (c : UInt8) : (⟨#[c]⟩ : ByteArray).size = 1 := rfl
theorem formatTeam_both (s : ByteArray) (c d : Int) (hs : s.size ≤ 1048576) : ∃ t, impl_FormatTeam.f (s.size + 4) s c d = some t ∧ spec_FormatTeam.f (s.size + 4) s c d = some t := by
  obtain ⟨b, h1, h2, h3⟩ := teamOk_both s c d hs
  unfold impl_FormatTeam.f spec_FormatTeam.f
  rw [h1 _ (by omega), h2 _ (by omega)]
  simp only [Option.bind_some]
  cases b with
  | false => exact ⟨_, rfl, rfl⟩
  | true =>
    obtain ⟨h4, h5, h6⟩ := h3 rfl
    have z1 := dec_size c h5.1 h5.2
    have z2 := dec_size d h6.1 h6.2
    rw [if_pos rfl, if_pos rfl, texts2 c d h5 h6 (s.size + 1), Option.bind_some, if_pos (by simp), join_eq _ _ (by simp) (by simp only [List.cons_append, List.nil_append]; rw [join3_sz, one_size']; omega), Option.bind_some]
    rw [if_pos (by omega), specFormatInt (s.size + 1) c h5.1 h5.2, Option.bind_some, if_pos (by simp only [ByteArray.size_append, one_size']; omega), if_pos (by simp only [ByteArray.size_append, one_size']; omega), specFormatInt (s.size + 1) d h6.1 h6.2, Option.bind_some, if_pos (by simp only [ByteArray.size_append, one_size']; omega)]
    simp only [List.cons_append, List.nil_append, join3]
    exact ⟨_, rfl, rfl⟩
end Go.Proofs.YtibmeomlokigjaaDoor.Q
namespace Go.Proofs.YtibmeomlokigjaaDoor.Pure
open Go.RowKit Go.Proofs.YtibmeomlokigjaaDoor.Q Go.Proofs.YtibmeomlokigjaaDoorW.PrintWords Go.Proofs.YtibmeomlokigjaaDoorW.PrintLast
theorem FnExactFormatTeam (s : ByteArray) (a1 a2 : Int) (ok : s.size ≤ maxLen ∧ (Lit.int .i64 a1).wf = true ∧ (Lit.int .i64 a2).wf = true) : ∃ k, laws_FnExactFormatTeam.f k s a1 a2 = some true := by
  have hm : s.size ≤ 9223372036854775807 := ok.1
  refine ⟨s.size + 4, ?_⟩
  unfold laws_FnExactFormatTeam.f laws_szTeam.f laws_toTeam.f
  rw [wrap_id _ (by omega) (by omega)]
  by_cases h : (1048576 - (s.size : Int)) < 0
  · rw [if_pos h]; rfl
  · rw [if_neg h]
    simp only [Option.bind_some]
    obtain ⟨t, h1, h2⟩ := formatTeam_both s a1 a2 (by omega)
    rw [if_neg h, h1, h2, Option.bind_some, Option.bind_some, if_pos rfl]
end Go.Proofs.YtibmeomlokigjaaDoor.Pure
namespace Go.Proofs.YtibmeomlokigjaaDoor.fnExactFormatTeam
open Go.ChangeShapes Go.WideShapes Go.ChangeAt Go.RowKit
open Go.ChangeMaps (open_string shut_string)
set_option linter.unusedVariables false
theorem own : ownKnob Tryd.prog.godebug = none := by kernel_rfl
theorem laidOut : laidOutB Tryd.prog = true := by kernel_rfl
set_option maxRecDepth 100000 in
set_option maxHeartbeats 4000000 in
theorem lifted (os : Os) (started : os.Started) (H : Type) (enc : TypeId × Value → H) :
    ReturnsInHanded {} Tryd.checked os 4 .any (fun w args => (Rows.fnExactFormatTeamSpec.pre enc Tryd.prog Tryd.f4 [] false w args ∧ laidMetH Tryd.prog Laid.laid3 w) ∧ sizedMet enc Tryd.prog Tryd.f4 (OpenSpec.ofChange Rows.fnExactFormatTeamSpec) false w args)
      (Rows.fnExactFormatTeamSpec.post enc Tryd.prog Tryd.f4 false true false false) := by
  refine returnsInHanded_of_change_and (C := Tryd.checked) (X := fun w _ => laidMetH Tryd.prog Laid.laid3 w) (fun _ _ _ hh h => h.of_heap hh) own started (by kernel_rfl) Tryd.func4
    (ChangeSpec.witness_shaped (enc := enc) (C := Tryd.checked) (os := os) (X := fun w _ => laidMetH Tryd.prog Laid.laid3 w) false (World.doorLaid Tryd.prog 400 os) #[.agg #[.string ⟨#[]⟩, .int .i64 0, .int .i64 0]] 8 rfl (Laid.door_shaped os _) (by kernel_rfl) (by kernel_rfl) (by kernel_rfl) (Laid.door_met os _)) ?_
  intro W base args ds gs before hval0 hW hcnd hsz0 hL _
  have hval : ∀ (j : Nat) t v, Tryd.f4.params[j]? = some t → args[j]? = some v → Value.okWide Tryd.prog W .any base t v := hval0
  have hW' := hW
  obtain ⟨p, q, hA0, hV, rfl, hfz, hnd⟩ := hW
  have hA : DataW.TrodAll enc Tryd.prog W 0 (fun _ => true) true Tryd.f4.params.toList args.toList ds p := hA0
  rw [Tryd.params4] at hA hval
  obtain ⟨v0, vs0, d0, ds0, p0, q0, hargs0, rfl, rfl, h0, r0⟩ := trodAll_cons hA
  obtain ⟨rfl, rfl, rfl⟩ := trodAll_nil r0
  obtain rfl : args = #[v0] := by cases args; simp_all
  obtain ⟨rfl, rfl⟩ := trodVars_none hV
  have k0 := h0; have lt0 : ∀ x ∈ p0, x.block < W.heap.size := by obtain ⟨m, hm⟩ := k0; exact DataW.trod_lt m _ _ _ hm
  obtain ⟨cs0, x0, rfl, hK0, ok0⟩ := Opens.trod_struct_val Tryd.underlying29 (hval 0 29 v0 rfl rfl) h0 (Opens.struct Tryd.underlying29 (by kernel_rfl) (Opens.cons 0 1 rfl (Opens.string Tryd.underlying9) (by kernel_rfl) rfl (Opens.cons 1 2 rfl (Opens.int Tryd.underlying3) (by kernel_rfl) rfl (Opens.one 2 rfl (Opens.int Tryd.underlying3) (by kernel_rfl)))))
  obtain ⟨a0_0, a0_1, a0_2⟩ := x0
  obtain ⟨_, _, hcs0, rfl, ⟨_, _, rfl, rfl, rfl⟩⟩ := hK0
  obtain rfl : cs0 = #[.string a0_0, .int .i64 a0_1, .int .i64 a0_2] := Array.toList_inj.mp hcs0
  clear hA0 hval0 hsz0
  obtain ⟨k, hk⟩ := Pure.FnExactFormatTeam a0_0 a0_1 a0_2 ok0
  refine (Q.laws_FnExactFormatTeam.calls k  a0_0 a0_1 a0_2 _ W  hk).mono fun e W' ⟨he, bel⟩ => ?_
  subst he
  exact ⟨_, rfl, _, _, _, [], _, [], hW', trodAll_mk1 (shut_bool Tryd.underlying4 _), (trodAll_cons_mk (Below.trod laidOut (by kernel_rfl) (of_decide_eq_true (by kernel_rfl)) k0 bel lt0) trodAll_mk0), rfl, bel.frame _, fun h => by cases h⟩
theorem over : Rows.fnExactFormatTeamRow.holds Tryd.pinned (OpenSpec.ofChange Rows.fnExactFormatTeamSpec) :=
  OpenClaim.holds_of_wide 4 Tryd.f4 rfl rfl rfl rfl rfl rfl rfl ⟨rfl, rfl, rfl, rfl, rfl⟩ rfl rfl rfl rfl rfl (by kernel_rfl) Tryd.func4 (by kernel_rfl)
    (of_decide_eq_true (by kernel_rfl)) (by unfold Func.isWrapper; first | (rw [if_pos (by decide +kernel)]; kernel_rfl) | (rw [if_neg (by decide +kernel)]; exact ⟨rfl, rfl⟩))
    (fun os started H enc _ => lifted os started H enc)
theorem provedCard : Rows.FnExactFormatTeamCardSaid :=
  Claim7.holds_tied_plain_at .later [] [.data, .data, .data] true (true, "a6e8e4b77242bb99ec034f5991610b756a84533526b99ec4e7efdd8f2b96172f") false
    over (fun _ h => by cases h) (by kernel_rfl) (fun _ h => by cases h) fnExactFormatTeam_row_tie rfl ⟨rfl, rfl⟩ (by kernel_rfl) rfl
    (fun f fn hf hfn => by
      obtain rfl : f = 4 := (Option.some.inj ((show Tryd.prog.funcNamed "loop.example/g00834/laws.FnExactFormatTeam" = some 4 by kernel_rfl).symm.trans hf)).symm
      obtain rfl : fn = Tryd.f4 := (Option.some.inj (Tryd.func4.symm.trans hfn)).symm
      refine ⟨by kernel_rfl, fun j t ht => ?_⟩
      have hm : t ∈ Tryd.f4.params.toList := List.mem_of_getElem? (i := j) (by rw [Array.getElem?_toList]; exact ht)
      have hall := List.all_eq_true.mp (show (Tryd.f4.params.toList.all fun t => !Tryd.prog.wantsStandIn t) = true by kernel_rfl) t hm
      exact Bool.not_eq_true' _ |>.mp hall)
    (by kernel_rfl)
end Go.Proofs.YtibmeomlokigjaaDoor.fnExactFormatTeam
namespace Go.Proofs.YtibmeomlokigjaaDoor
theorem fnExactFormatTeam_holds : Rows.FnExactFormatTeamCardSaid := fnExactFormatTeam.provedCard
end Go.Proofs.YtibmeomlokigjaaDoor
