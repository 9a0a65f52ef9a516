/-
  slices.BinarySearch in a strictly increasing list; slices.Index, Contains, IndexFunc, ContainsFunc; strips.Meets.
-/
import Derived.Test.YtiaokmofoaeifaaTset
namespace Go.Proofs.Ytiaokmofoaeifaa
open Go.RowKit
set_option linter.unusedVariables false
set_option linter.unusedSimpArgs false

theorem cmpnan_any (x : Int) (w : World) : Calls Try.prog 117 #[.int .i64 x] w fun e w' => e = .returned (.bool false) ∧ w = w' := by
  go_enter Try.func117, Try.ntmps117
  go_wp2
  go_ret
  exact ⟨by simp, rfl⟩
theorem slnan_any (x : Int) (w : World) : Calls Try.prog 113 #[.int .i64 x] w fun e w' => e = .returned (.bool false) ∧ w = w' := by
  go_enter Try.func113, Try.ntmps113
  go_wp2
  go_ret
  exact ⟨by simp, rfl⟩
theorem less_any (x y : Int) (w : World) : Calls Try.prog 112 #[.int .i64 x, .int .i64 y] w fun e w' => e = .returned (.bool (decide (x < y))) ∧ w = w' := by
  by_cases h : x < y
  all_goals
    go_enter Try.func112, Try.ntmps112
    go_wp2_with fail
    refine (cmpnan_any _ _).mono ?_
    rintro e w' ⟨rfl, rfl⟩
    go_wp2
    go_ret
    exact ⟨ret_bool (by simp <;> omega), rfl⟩

theorem mem_bin {ys : List Int} (hs : ys.Pairwise (· < ·)) {k : Nat} {x : Int} (lo : ∀ j : Nat, ∀ y : Int, j < k → ys[j]? = some y → y < x) (hi : ∀ j : Nat, ∀ y : Int, k ≤ j → ys[j]? = some y → x ≤ y) :
    x ∈ ys ↔ ys[k]? = some x := by
  constructor
  · intro h
    obtain ⟨j, hj⟩ := List.mem_iff_getElem?.1 h
    rcases Nat.lt_trichotomy j k with e | e | e
    · have := lo j x e hj; omega
    · subst e; exact hj
    · have hl := get_lt hj
      obtain ⟨z, hz⟩ : ∃ z, ys[k]? = some z := ⟨_, List.getElem?_eq_getElem (by omega)⟩
      have h1 := hi k z (Nat.le_refl _) hz
      obtain ⟨hk1, rfl⟩ := List.getElem?_eq_some_iff.1 hz
      obtain ⟨hj1, rfl⟩ := List.getElem?_eq_some_iff.1 hj
      have := List.pairwise_iff_getElem.1 hs k j hk1 hj1 e
      omega
  · exact fun h => List.mem_of_getElem? h

/-- What BinarySearch returns: the number of smaller elements, and whether the element is there. -/
def BinPost (ys : List Int) (x : Int) (w : World) (e : Ending) (w' : World) : Prop :=
  ∃ k : Nat, e = .returned (.tuple #[.int .i64 k, .bool (decide (x ∈ ys))]) ∧ k ≤ ys.length ∧ (∀ j : Nat, ∀ y : Int, j < k → ys[j]? = some y → y < x) ∧ (∀ j : Nat, ∀ y : Int, k ≤ j → ys[j]? = some y → x ≤ y) ∧ Below w.heap.size w w'

set_option maxRecDepth 100000 in
set_option maxHeartbeats 1000000 in
theorem bin_any (B : Option Addr) (d : Nat) (ys : List Int) (x : Int) (w : World) (hJ : Ints w B ys) (hl : ys.length ≤ 1000000000000) (hs : ys.Pairwise (· < ·)) :
    Calls Try.prog 104 #[.slice B ys.length d, .int .i64 x] w (BinPost ys x w) := by
  go_enter Try.func104, Try.ntmps104
  go_wp2
  go_loop [7, 8] (fun a b => ∃ i j : Nat, i ≤ j ∧ j ≤ ys.length ∧ a = .int .i64 i ∧ b = .int .i64 j ∧ Hid (∀ k : Nat, ∀ y : Int, k < i → ys[k]? = some y → y < x) ∧ Hid (∀ k : Nat, ∀ y : Int, j ≤ k → ys[k]? = some y → x ≤ y)) (fun a b => (intOf b).toNat - (intOf a).toNat)
  case atStart => exact ⟨0, ys.length, by omega, by omega, rfl, rfl, Lib.hid (fun k y h => absurd h (by omega)), Lib.hid (fun k y h hy => absurd (get_lt hy) (by omega))⟩
  case round =>
    obtain ⟨i, j, hij, hj, rfl, rfl, H1, H2⟩ := hrel
    by_cases hlt : i < j
    · have m1 : i ≤ (i + j) / 2 := by omega
      have m2 : (i + j) / 2 < j := by omega
      obtain ⟨ad, y, rfl, hy, hc⟩ := hJ.at_ (show (i + j) / 2 < ys.length by omega)
      have HS := Lib.hid hs
      clear hs
      have key : y < x → ∀ k : Nat, ∀ z : Int, k < (i + j) / 2 + 1 → ys[k]? = some z → z < x := fun h k z hk hz => by
        by_cases e : k = (i + j) / 2
        · subst e; rw [hy.out] at hz; injection hz with hz; omega
        · obtain ⟨a1, rfl⟩ := List.getElem?_eq_some_iff.1 hz
          obtain ⟨a2, b2⟩ := List.getElem?_eq_some_iff.1 hy.out
          have := List.pairwise_iff_getElem.1 HS.out k ((i + j) / 2) a1 a2 (by omega)
          omega
      have key2 : ¬ y < x → ∀ k : Nat, ∀ z : Int, (i + j) / 2 ≤ k → ys[k]? = some z → x ≤ z := fun h k z hk hz => by
        by_cases e : k = (i + j) / 2
        · subst e; rw [hy.out] at hz; injection hz with hz; omega
        · obtain ⟨a1, rfl⟩ := List.getElem?_eq_some_iff.1 hz
          obtain ⟨a2, b2⟩ := List.getElem?_eq_some_iff.1 hy.out
          have := List.pairwise_iff_getElem.1 HS.out ((i + j) / 2) k a2 a1 (by omega)
          omega
      have K1 := Lib.hid key
      have K2 := Lib.hid key2
      clear key key2
      by_cases hc2 : y < x
      · skip
        go_wp2_with fail
        refine (less_any _ _ _).mono ?_
        rintro e w' ⟨he, rfl⟩
        rw [decide_eq_true (show y < x by omega)] at he
        subst he
        go_wp2
        go_round
        case rel => exact ⟨(i + j) / 2 + 1, j, by omega, hj, by go_num, rfl, Lib.hid (K1.out (by omega)), H2⟩
        case measure => simp [intOf]; omega
      · skip
        go_wp2_with fail
        refine (less_any _ _ _).mono ?_
        rintro e w' ⟨he, rfl⟩
        rw [decide_eq_false (show ¬ y < x by omega)] at he
        subst he
        go_wp2
        go_round
        case rel => exact ⟨i, (i + j) / 2, by omega, by omega, rfl, by go_num, H1, Lib.hid (K2.out (by omega))⟩
        case measure => simp [intOf]; omega
    · obtain rfl : i = j := by omega
      have hm := mem_bin hs H1.out H2.out
      have HM := Lib.hid hm
      clear hs hm
      by_cases hin : i < ys.length
      · obtain ⟨ad, y, rfl, hy, hc⟩ := hJ.at_ hin
        by_cases hyx : y = x
        · have HT := Lib.hid (HM.out.2 (by rw [hy.out, hyx]))
          subst hyx
          go_wp2
          go_ret2
          exact ⟨i, by rw [decide_eq_true HT.out]; rfl, hj, H1.out, H2.out, Below.refl _ _⟩
        · have HT : Hid (¬ x ∈ ys) := Lib.hid (fun h => hyx (by have h1 := HM.out.1 h; have h2 := hy.out; rw [h2] at h1; injection h1))
          have hb : (y == x) = false := by simpa using hyx
          go_wp2_with fail
          refine (slnan_any _ _).mono ?_
          rintro e w' ⟨rfl, rfl⟩
          go_wp2
          go_ret2
          exact ⟨i, by rw [decide_eq_false HT.out]; rfl, hj, H1.out, H2.out, Below.refl _ _⟩
      · have HT : Hid (¬ x ∈ ys) := Lib.hid (fun h => hin (get_lt (HM.out.1 h)))
        go_wp2
        go_ret2
        exact ⟨i, by rw [decide_eq_false HT.out]; rfl, hj, H1.out, H2.out, Below.refl _ _⟩

/-- F is a function with a body. -/
def Enters (F : FuncId) : Prop := ∀ (args : Array Value) (w : World), (callFunc F args).run Try.prog w = .ok (.enter F args) w
/-- A function value that answers, in every world that keeps the old memory, whether p holds of a number of the list. -/
def Tests (F : FuncId) (q : Value) (xs : List Int) (p : Int → Bool) (w : World) : Prop :=
  ∀ x ∈ xs, ∀ wr : World, Below w.heap.size w wr → Calls Try.prog F #[.int .i64 x, q] wr fun e w' => e = .returned (.bool (p x)) ∧ Below wr.heap.size wr w'
/-- The number of the first element of which p holds. -/
def SomeIdx (xs : List Int) (w : World) (e : Ending) (w' : World) : Prop := ∃ k : Nat, e = .returned (.int .i64 k) ∧ k < xs.length ∧ Below w.heap.size w w'

set_option maxHeartbeats 1000000 in
theorem indexfunc_yes (A : Option Addr) (c : Nat) (xs : List Int) (F : FuncId) (q : Value) (p : Int → Bool) (w : World) (hI : Ints w A xs) (hl : xs.length ≤ 9223372036854775807) (hE : Enters F) (hf : Tests F q xs p w) (hp : ∃ x ∈ xs, p x = true) :
    Calls Try.prog 116 #[.slice A xs.length c, .func (.func F) #[] #[q]] w (SomeIdx xs w) := by
  have HP := Lib.hid hp
  have hE' : ∀ (args : Array Value) (w : World), (callFunc F args).run Try.prog w = .ok (.enter F args) w := hE
  clear hp hE
  go_enter Try.func116, Try.ntmps116
  go_wp2
  go_loopw [8] (fun i wr => ∃ k : Nat, k ≤ xs.length ∧ i = .int .i64 k ∧ Hid (∀ x ∈ xs.take k, p x = false) ∧ Below w.heap.size w wr) (fun i _ => xs.length - (intOf i).toNat)
  case atStart => exact ⟨0, Nat.zero_le _, rfl, Lib.hid (by simp), Below.refl _ _⟩
  case round =>
    obtain ⟨k, hk, rfl, hno, hB⟩ := hrel
    by_cases hlt : k < xs.length
    · obtain ⟨ad, x, rfl, hx, hc⟩ := (hI.below hB).at_ hlt
      have hm : x ∈ xs := List.mem_of_getElem? hx.out
      have HM := Lib.hid hm
      clear hm
      by_cases hpx : p x = true
      · go_wp2_with fail
        refine (hf x HM.out _ hB).mono ?_
        rintro e w1 ⟨rfl, hB1⟩
        go_wp2
        go_ret
        exact ⟨k, rfl, hlt, hB.trans (hB1.mono hB.size)⟩
      · have hpx' : p x = false := by simpa using hpx
        have HX := Lib.hid hpx'
        go_wp2_with fail
        refine (hf x HM.out _ hB).mono ?_
        rintro e w1 ⟨he, hB1⟩
        rw [HX.out] at he
        subst he
        have D1 := hB.trans (hB1.mono hB.size)
        go_wp2
        go_roundw
        case rel => exact ⟨k + 1, by omega, by go_num, Lib.hid (forall_take_succ hx.out hno.out HX.out), D1⟩
        case measure => simp [intOf]; omega
    · exfalso
      obtain ⟨x, hx, hpx⟩ := HP.out
      have := forall_take_all hlt hno.out x hx
      rw [hpx] at this
      cases this

set_option maxHeartbeats 1000000 in
theorem indexfunc_no (A : Option Addr) (c : Nat) (xs : List Int) (F : FuncId) (q : Value) (p : Int → Bool) (w : World) (hI : Ints w A xs) (hl : xs.length ≤ 9223372036854775807) (hE : Enters F) (hf : Tests F q xs p w) (hp : ∀ x ∈ xs, p x = false) :
    Calls Try.prog 116 #[.slice A xs.length c, .func (.func F) #[] #[q]] w fun e w' => e = .returned (.int .i64 (-1)) ∧ Below w.heap.size w w' := by
  have HP := Lib.hid hp
  have hE' : ∀ (args : Array Value) (w : World), (callFunc F args).run Try.prog w = .ok (.enter F args) w := hE
  clear hp hE
  go_enter Try.func116, Try.ntmps116
  go_wp2
  go_loopw [8] (fun i wr => ∃ k : Nat, k ≤ xs.length ∧ i = .int .i64 k ∧ Below w.heap.size w wr) (fun i _ => xs.length - (intOf i).toNat)
  case atStart => exact ⟨0, Nat.zero_le _, rfl, Below.refl _ _⟩
  case round =>
    obtain ⟨k, hk, rfl, hB⟩ := hrel
    by_cases hlt : k < xs.length
    · obtain ⟨ad, x, rfl, hx, hc⟩ := (hI.below hB).at_ hlt
      have hm : x ∈ xs := List.mem_of_getElem? hx.out
      have HM := Lib.hid hm
      clear hm
      go_wp2_with fail
      refine (hf x HM.out _ hB).mono ?_
      rintro e w1 ⟨he, hB1⟩
      rw [HP.out x HM.out] at he
      subst he
      have D1 := hB.trans (hB1.mono hB.size)
      go_wp2
      go_roundw
      case rel => exact ⟨k + 1, by omega, by go_num, D1⟩
      case measure => simp [intOf]; omega
    · go_wp2
      go_ret
      exact ⟨rfl, hB⟩

set_option maxHeartbeats 1000000 in
theorem containsfunc_any (A : Option Addr) (c : Nat) (xs : List Int) (F : FuncId) (q : Value) (p : Int → Bool) (w : World) (hI : Ints w A xs) (hl : xs.length ≤ 9223372036854775807) (hE : Enters F) (hf : Tests F q xs p w) :
    Calls Try.prog 110 #[.slice A xs.length c, .func (.func F) #[] #[q]] w fun e w' => e = .returned (.bool (decide (∃ x ∈ xs, p x = true))) ∧ Below w.heap.size w w' := by
  by_cases hp : ∃ x ∈ xs, p x = true
  · rw [decide_eq_true hp]
    have HP := Lib.hid hp
    clear hp
    go_enter Try.func110, Try.ntmps110
    go_wp2_with fail
    refine (indexfunc_yes A c xs F q p _ hI hl hE hf HP.out).mono ?_
    rintro e w' ⟨k, rfl, hk, hB⟩
    go_wp2
    go_ret
    exact ⟨ret_bool (by simp), hB⟩
  · rw [decide_eq_false hp]
    have HP : Hid (∀ x ∈ xs, p x = false) := Lib.hid (fun x hx => by
      cases h : p x with
      | false => rfl
      | true => exact absurd ⟨x, hx, h⟩ hp)
    clear hp
    go_enter Try.func110, Try.ntmps110
    go_wp2_with fail
    refine (indexfunc_no A c xs F q p _ hI hl hE hf HP.out).mono ?_
    rintro e w' ⟨rfl, hB⟩
    go_wp2
    go_ret
    exact ⟨rfl, hB⟩

end Go.Proofs.Ytiaokmofoaeifaa
