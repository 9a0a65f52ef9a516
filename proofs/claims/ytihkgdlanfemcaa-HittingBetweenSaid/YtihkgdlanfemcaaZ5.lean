/-
  Sets as words of bits: plain.
  relaxplan: words, and how they are compared.
-/
import Derived.Test.YtihkgdlanfemcaaZ2
import Derived.Test.YtihkgdlanfemcaaZ1
import Derived.Laws.BitsAllLaws
import Derived.Lib.BitFns
import Derived.Lib.Tables
namespace Go.Proofs.Ytihkgdlanfemcaa
open Go.RowKit
set_option linter.unusedVariables false
set_option linter.unusedSimpArgs false

/-- The bits of a set's word. -/
theorem word_bit : ∀ (n : Nat) {l : List Int}, l.Nodup → (∀ x ∈ l, 0 ≤ x ∧ x < (n : Int)) → ∀ i : Nat, (wordV l).toNat.testBit i = decide ((i : Int) ∈ l)
  | 0, l, _, hx, i => by
    cases l with
    | nil => simp [wordV]
    | cons x l => have := hx x (List.mem_cons_self ..); omega
  | n + 1, l, hd, hx, i => by
    have h1 := wordV_split (n := n) hd (fun x h => by have := hx x h; omega)
    have fl : ∀ x ∈ l.filter (fun x => decide (x < (n : Int))), 0 ≤ x ∧ x < (n : Int) := fun x h => by
      have h3 := List.mem_filter.1 h
      have := hx x h3.1
      simp at h3
      omega
    have ih := word_bit n (hd.filter (fun x => decide (x < (n : Int)))) fl i
    have h2 := wordV_lt n (hd.filter (fun x => decide (x < (n : Int)))) fl
    have h0 := wordV_nn (l.filter fun x => decide (x < (n : Int)))
    have hpc : ((2 : Int) ^ n) = ((2 ^ n : Nat) : Int) := by simp
    have hlt : (wordV (l.filter fun x => decide (x < (n : Int)))).toNat < 2 ^ n := by omega
    have hm : ∀ j : Nat, j < n → ((j : Int) ∈ l.filter (fun x => decide (x < (n : Int))) ↔ (j : Int) ∈ l) := fun j hj => by
      rw [List.mem_filter]
      exact ⟨fun h => h.1, fun h => ⟨h, by simp; omega⟩⟩
    by_cases hn : (n : Int) ∈ l
    · rw [if_pos hn] at h1
      have e : (wordV l).toNat = 2 ^ n + (wordV (l.filter fun x => decide (x < (n : Int)))).toNat := by omega
      rw [e]
      rcases Nat.lt_trichotomy i n with h | h | h
      · rw [Nat.testBit_two_pow_add_gt h, ih]
        exact decide_eq_decide.2 (hm i h)
      · rw [h, Nat.testBit_two_pow_add_eq, Nat.testBit_lt_two_pow hlt]
        simp [hn]
      · have hb : 2 ^ n + (wordV (l.filter fun x => decide (x < (n : Int)))).toNat < 2 ^ i := by
          have h3 : 2 ^ (n + 1) ≤ 2 ^ i := Nat.pow_le_pow_right (by decide) h
          have h4 : 2 ^ (n + 1) = 2 ^ n + 2 ^ n := by rw [Nat.pow_succ]; omega
          omega
        rw [Nat.testBit_lt_two_pow hb]
        symm
        exact decide_eq_false (fun hc => by have := hx _ hc; omega)
    · rw [if_neg hn, Int.add_zero] at h1
      rw [h1, ih]
      refine decide_eq_decide.2 ?_
      rw [List.mem_filter]
      constructor
      · exact fun h => h.1
      · intro h
        have := hx _ h
        have h5 : (i : Int) ≠ (n : Int) := fun e => hn (e ▸ h)
        exact ⟨h, by simp; omega⟩
theorem SetP.bit {l : List Int} {n : Nat} (h : SetP l (n : Int)) (i : Nat) : (wordV l).toNat.testBit i = decide ((i : Int) ∈ l) := word_bit n h.nodup h.1 i
theorem SetP.word_lt {l : List Int} {n : Nat} (h : SetP l (n : Int)) (hn : n ≤ 24) : wordV l < 16777216 := by
  have h1 := wordV_lt 24 h.nodup (fun x hx => by have := h.1 x hx; omega)
  have : (2 : Int) ^ 24 = 16777216 := by decide
  omega
theorem SetP.word_u32 {l : List Int} {n : Nat} (h : SetP l (n : Int)) (hn : n ≤ 24) : 0 ≤ wordV l ∧ wordV l < 4294967296 := by
  have h1 := wordV_nn l
  have h2 := h.word_lt hn
  omega
/-- The word of the union. -/
theorem word_or {a b u : List Int} {n : Nat} (ha : SetP a (n : Int)) (hb : SetP b (n : Int)) (hu : SetP u (n : Int)) (hn : n ≤ 24) (h : ∀ x, x ∈ u ↔ x ∈ a ∨ x ∈ b) : bits .or .u32 (wordV a) (wordV b) = wordV u := by
  have h1 := ha.word_u32 hn
  have h2 := hb.word_u32 hn
  have h3 := wordV_nn u
  rw [u32_or _ _ h1.1 h1.2 h2.1 h2.2]
  have e : (wordV a).toNat ||| (wordV b).toNat = (wordV u).toNat := by
    refine Nat.eq_of_testBit_eq fun i => ?_
    rw [Nat.testBit_or, ha.bit, hb.bit, hu.bit, ← Bool.decide_or]
    exact decide_eq_decide.2 (h _).symm
  rw [e]
  omega
/-- Is a set in another one? -/
theorem word_sub {a b : List Int} {n : Nat} (ha : SetP a (n : Int)) (hb : SetP b (n : Int)) (hn : n ≤ 24) : bits .andNot .u32 (wordV a) (wordV b) = 0 ↔ ∀ x ∈ a, x ∈ b := by
  have h1 := ha.word_u32 hn
  have h2 := hb.word_u32 hn
  rw [u32_andNot _ _ h1.1 h1.2 h2.1 h2.2]
  have hbit : ∀ i : Nat, ((wordV a).toNat &&& (4294967295 - (wordV b).toNat)).testBit i = (decide ((i : Int) ∈ a) && (decide (i < 32) && !decide ((i : Int) ∈ b))) := fun i => by
    have e : 4294967295 - (wordV b).toNat = 2 ^ 32 - ((wordV b).toNat + 1) := by
      have : (2 : Nat) ^ 32 = 4294967296 := by decide
      omega
    rw [Nat.testBit_and, ha.bit, e, Nat.testBit_two_pow_sub_succ (by have : (2 : Nat) ^ 32 = 4294967296 := by decide
                                                                     omega), hb.bit]
  constructor
  · intro h x hx
    refine Classical.byContradiction fun hc => ?_
    obtain ⟨x0, x1⟩ := ha.1 x hx
    obtain ⟨i, rfl⟩ := Int.eq_ofNat_of_zero_le x0
    have h3 := hbit i
    have h4 : ((wordV a).toNat &&& (4294967295 - (wordV b).toNat)) = 0 := by omega
    rw [h4, Nat.zero_testBit, decide_eq_true hx, decide_eq_false hc, decide_eq_true (by omega : i < 32)] at h3
    cases h3
  · intro h
    have h4 : ((wordV a).toNat &&& (4294967295 - (wordV b).toNat)) = 0 := by
      refine Nat.eq_of_testBit_eq fun i => ?_
      rw [hbit i, Nat.zero_testBit]
      by_cases hi : (i : Int) ∈ a
      · rw [decide_eq_true (h _ hi)]; simp
      · rw [decide_eq_false hi]; simp
    rw [h4]; rfl
/-- One more element, behind all others. -/
theorem word_push {s : List Int} {n : Nat} (h : SetP s (n : Int)) (hn : n ≤ 24) {k : Nat} {x : Int} (hx : s[k]? = some x) : bits .or .u32 (wordV (s.take k)) (2 ^ x.toNat) = wordV (s.take (k + 1)) := by
  have hk := (List.getElem?_eq_some_iff.1 hx).1
  have hsub : ∀ j, SetP (s.take j) (n : Int) := fun j => SetP.of_pairwise (fun y hy => h.1 y (List.mem_of_mem_take hy)) (List.Pairwise.sublist (List.take_sublist _ _) h.pairwise)
  have hx0 := h.1 x (List.mem_of_getElem? hx)
  have hone : SetP [x] (n : Int) := SetP.of_pairwise (fun y hy => by rw [List.mem_singleton.1 hy]; exact hx0) (by simp)
  have e : (2 : Int) ^ x.toNat = wordV [x] := by simp [wordV]
  rw [e]
  refine word_or (hsub k) hone (hsub (k + 1)) hn fun y => ?_
  rw [List.take_add_one, hx]
  simp

/-! ### How many bits -/
/-- What math/bits.OnesCount32 returns. -/
def ones32 (x : Int) : Int := (Lib.onesCount (x.toNat / 16777216) : Int) + Lib.onesCount (x.toNat / 65536 % 256) + Lib.onesCount (x.toNat / 256 % 256) + Lib.onesCount (x.toNat % 256)
set_option maxRecDepth 100000 in
theorem ones_sub8 : ∀ a b : Fin 256, a.val ||| b.val = b.val → a.val ≠ b.val → Lib.onesCount a.val < Lib.onesCount b.val := by decide +kernel
theorem ones_sub {a b : Nat} (ha : a < 256) (hb : b < 256) (h : a ||| b = b) : Lib.onesCount a ≤ Lib.onesCount b ∧ (a ≠ b → Lib.onesCount a < Lib.onesCount b) := by
  have h1 := ones_sub8 ⟨a, ha⟩ ⟨b, hb⟩ h
  refine ⟨?_, h1⟩
  by_cases e : a = b
  · rw [e]; exact Nat.le_refl _
  · exact Nat.le_of_lt (h1 e)
theorem or_div (a b : Nat) (k : Nat) : (a ||| b) / 2 ^ k = a / 2 ^ k ||| b / 2 ^ k := by
  rw [← Nat.shiftRight_eq_div_pow, ← Nat.shiftRight_eq_div_pow, ← Nat.shiftRight_eq_div_pow, Nat.shiftRight_or_distrib]
theorem or_mod (a b : Nat) (k : Nat) : (a ||| b) % 2 ^ k = a % 2 ^ k ||| b % 2 ^ k := by
  refine Nat.eq_of_testBit_eq fun i => ?_
  rw [Nat.testBit_mod_two_pow, Nat.testBit_or, Nat.testBit_or, Nat.testBit_mod_two_pow, Nat.testBit_mod_two_pow]
  cases decide (i < k) <;> simp
/-- A greater set has more bits. -/
theorem ones_lt {a b : Int} (a0 : 0 ≤ a) (a1 : a < 4294967296) (b0 : 0 ≤ b) (b1 : b < 4294967296) (h : a.toNat ||| b.toNat = b.toNat) (hne : a ≠ b) : ones32 a < ones32 b := by
  obtain ⟨x, rfl⟩ := Int.eq_ofNat_of_zero_le a0
  obtain ⟨y, rfl⟩ := Int.eq_ofNat_of_zero_le b0
  simp only [Int.toNat_natCast] at h
  unfold ones32
  simp only [Int.toNat_natCast]
  have q1 := ones_sub (a := x / 16777216) (b := y / 16777216) (by omega) (by omega) (by have := or_div x y 24; rw [h] at this; exact this.symm)
  have q2 := ones_sub (a := x / 65536 % 256) (b := y / 65536 % 256) (by omega) (by omega) (by
    have h1 := or_div x y 16
    have h2 := or_mod (x / 2 ^ 16) (y / 2 ^ 16) 8
    rw [h] at h1
    rw [← h1] at h2
    exact h2.symm)
  have q3 := ones_sub (a := x / 256 % 256) (b := y / 256 % 256) (by omega) (by omega) (by
    have h1 := or_div x y 8
    have h2 := or_mod (x / 2 ^ 8) (y / 2 ^ 8) 8
    rw [h] at h1
    rw [← h1] at h2
    exact h2.symm)
  have q4 := ones_sub (a := x % 256) (b := y % 256) (by omega) (by omega) (by
    have h2 := or_mod x y 8
    rw [h] at h2
    exact h2.symm)
  have hsome : x / 16777216 ≠ y / 16777216 ∨ x / 65536 % 256 ≠ y / 65536 % 256 ∨ x / 256 % 256 ≠ y / 256 % 256 ∨ x % 256 ≠ y % 256 := by omega
  rcases hsome with e | e | e | e
  · have := q1.2 e; omega
  · have := q2.2 e; omega
  · have := q3.2 e; omega
  · have := q4.2 e; omega
theorem word_ones {a b : List Int} {n : Nat} (ha : SetP a (n : Int)) (hb : SetP b (n : Int)) (hn : n ≤ 24) (h : ∀ x ∈ a, x ∈ b) (hne : a ≠ b) : ones32 (wordV a) < ones32 (wordV b) := by
  have h1 := ha.word_u32 hn
  have h2 := hb.word_u32 hn
  refine ones_lt h1.1 h1.2 h2.1 h2.2 ?_ (fun e => hne (word_inj ha hb e))
  refine Nat.eq_of_testBit_eq fun i => ?_
  rw [Nat.testBit_or, ha.bit, hb.bit, ← Bool.decide_or]
  exact decide_eq_decide.2 ⟨fun hx => hx.elim (h _) id, .inr⟩

/-! ### The state behind an operator that deletes nothing -/
theorem rx_mem {n : Nat} {l : List Int} {o : OpV} {x : Int} (hl : SetP l (n : Int)) (ha : ∀ p ∈ o.add, 0 ≤ p ∧ p < (n : Int)) : x ∈ nextV n l (rxO o) ↔ x ∈ l ∨ x ∈ o.add := by
  rw [nextV_mem]
  constructor
  · rintro ⟨_, h | ⟨h, _⟩⟩
    · exact .inr h
    · exact .inl h
  · rintro (h | h)
    · exact ⟨hl.1 x h, .inr ⟨h, by simp [rxO]⟩⟩
    · exact ⟨ha x h, .inl h⟩
theorem rx_word {n : Nat} {l : List Int} {o : OpV} (hl : SetP l (n : Int)) (ha : SetP o.add (n : Int)) (hn : n ≤ 24) : bits .or .u32 (wordV l) (wordV o.add) = wordV (nextV n l (rxO o)) :=
  word_or hl ha (nextV_set n l _) hn fun x => rx_mem hl ha.1

end Go.Proofs.Ytihkgdlanfemcaa

namespace Go.Proofs.Ytihkgdlanfemcaa
open Go.RowKit
set_option linter.unusedVariables false
set_option linter.unusedSimpArgs false

theorem pow_rng {n : Nat} {x : Int} (h : 0 ≤ x ∧ x < (n : Int)) (hn : n ≤ 24) : (0 : Int) ≤ 2 ^ x.toNat ∧ (2 : Int) ^ x.toNat < 4294967296 := by
  have h1 : (2 : Nat) ^ x.toNat ≤ 2 ^ 24 := Nat.pow_le_pow_right (by decide) (by omega)
  have h2 : (2 : Nat) ^ 24 = 16777216 := by decide
  have h3 : ((2 : Int) ^ x.toNat) = ((2 ^ x.toNat : Nat) : Int) := by simp
  generalize (2 : Nat) ^ x.toNat = y at h1 h3
  rw [h3]
  omega
set_option maxRecDepth 100000 in
set_option maxHeartbeats 400000 in
theorem rword_any (A : Option Addr) (c : Nat) (s : List Int) (w : World) (hI : Ints w A s) (n : Nat) (hs : SetP s (n : Int)) (hn : n ≤ 24) :
    Calls Try.prog 75 #[.slice A s.length c] w fun e w' => e = .returned (.int .u32 (wordV s)) ∧ w = w' := by
  have HX := Lib.hid hs.1
  have HS := Lib.hid hs
  have hl : s.length ≤ 9223372036854775807 := by have := SetP.length hs (by omega); omega
  clear hs
  go_enter Try.func75, Try.ntmps75
  go_wp2
  go_loop [3, 8] (fun a i => ∃ k : Nat, k ≤ s.length ∧ i = .int .i64 k ∧ a = .int .u32 (wordV (s.take k))) (fun _ i => s.length - (intOf i).toNat)
  case atStart => exact ⟨0, Nat.zero_le _, rfl, rfl⟩
  case round =>
    obtain ⟨k, hk, rfl, rfl⟩ := hrel
    by_cases hlt : k < s.length
    · obtain ⟨ad, x, rfl, hx, hc⟩ := hI.at_ hlt
      obtain ⟨x0, x1⟩ := HX.out x (List.mem_of_getElem? hx.out)
      have HP := Lib.hid (word_push HS.out hn hx.out)
      have x32 : x ≤ 32 := by omega
      have hp := pow_rng ⟨x0, x1⟩ hn
      have hmod : (2 : Int) ^ x.toNat % 4294967296 = 2 ^ x.toNat := Int.emod_eq_of_lt hp.1 hp.2
      go_wp2
      go_round
      case rel =>
        refine ⟨k + 1, by omega, by go_num, ?_⟩
        rw [← HP.out]
        try simp [IntKind.wrap_u32', hmod]
      case measure => simp [intOf]; omega
    · have hall := Lib.hid (show s.take k = s from List.take_of_length_le (by omega))
      rw [hall.out]
      go_wp2
      go_ret
      exact ⟨rfl, rfl⟩
theorem pop_of {a : Int} (h0 : 0 ≤ a) (h1 : a ≤ 255) : Lib.pop8 a = (Lib.onesCount a.toNat : Int) ∧ 0 ≤ Lib.pop8 a ∧ Lib.pop8 a ≤ 8 := by
  have e := Lib.pop8_eq ⟨a.toNat, by omega⟩
  have l := Lib.onesCount_le8 ⟨a.toNat, by omega⟩
  simp only at e l
  rw [Int.toNat_of_nonneg h0] at e
  omega
theorem pops_of {x : Int} (h0 : 0 ≤ x) (h1 : x < 4294967296) : Lib.pop8 (x / 16777216) + Lib.pop8 (x / 65536 % 256) + Lib.pop8 (x / 256 % 256) + Lib.pop8 (x % 256) = ones32 x ∧ (0 ≤ Lib.pop8 (x / 16777216) ∧ Lib.pop8 (x / 16777216) ≤ 8) ∧ (0 ≤ Lib.pop8 (x / 65536 % 256) ∧ Lib.pop8 (x / 65536 % 256) ≤ 8) ∧ (0 ≤ Lib.pop8 (x / 256 % 256) ∧ Lib.pop8 (x / 256 % 256) ≤ 8) ∧ (0 ≤ Lib.pop8 (x % 256) ∧ Lib.pop8 (x % 256) ≤ 8) := by
  have a1 := pop_of (a := x / 16777216) (by omega) (by omega)
  have a2 := pop_of (a := x / 65536 % 256) (by omega) (by omega)
  have a3 := pop_of (a := x / 256 % 256) (by omega) (by omega)
  have a4 := pop_of (a := x % 256) (by omega) (by omega)
  refine ⟨?_, a1.2, a2.2, a3.2, a4.2⟩
  unfold ones32
  rw [a1.1, a2.1, a3.1, a4.1, show (x / 16777216).toNat = x.toNat / 16777216 by omega, show (x / 65536 % 256).toNat = x.toNat / 65536 % 256 by omega, show (x / 256 % 256).toNat = x.toNat / 256 % 256 by omega, show (x % 256).toNat = x.toNat % 256 by omega]
theorem and255 {y : Int} (h0 : 0 ≤ y) (h1 : y < 4294967296) : bits .and .u32 y 255 = y % 256 := by
  rw [u32_and y 255 h0 h1 (by omega) (by omega)]
  have e : (255 : Int).toNat = 255 := rfl
  rw [e, nat_mask8]
  omega
set_option maxRecDepth 100000 in
set_option maxHeartbeats 1000000 in
theorem ones_any (x : Int) (h0 : 0 ≤ x) (h1 : x < 4294967296) (w : World) :
    Calls Try.prog 79 #[.int .u32 x] w fun e w' => e = .returned (.int .i64 (ones32 x)) ∧ ∃ q, w' = w.drewN q := by
  obtain ⟨hp, p1, p2, p3, p4⟩ := pops_of h0 h1
  have HP := Lib.hid hp
  clear hp
  have q1 : bits .and .u32 (x / 65536) 255 = x / 65536 % 256 := and255 (by omega) (by omega)
  have q2 : bits .and .u32 (x / 256) 255 = x / 256 % 256 := and255 (by omega) (by omega)
  have q3 : bits .and .u32 x 255 = x % 256 := and255 h0 h1
  have b1 : 0 ≤ x / 16777216 := by omega
  have b2 : x / 16777216 ≤ 255 := by omega
  go_enter Try.func79, Try.ntmps79
  go_wp2_with fail
  go_quiet (fail)
  go_wp2
  go_ret
  exact ⟨by rw [← HP.out]; rfl, nq, rfl⟩
set_option maxRecDepth 100000 in
set_option maxHeartbeats 400000 in
theorem cmpint_lt (x y : Int) (h : x < y) (w : World) :
    Calls Try.prog 78 #[.int .i64 x, .int .i64 y] w fun e w' => e = .returned (.int .i64 (-1)) ∧ w' = w := by
  have e1 : ¬ y < x := by omega
  go_enter Try.func78, Try.ntmps78
  go_wp2
  all_goals (go_ret; exact ⟨rfl, rfl⟩)
set_option maxRecDepth 100000 in
set_option maxHeartbeats 400000 in
theorem cmpint_eq (x y : Int) (h : x = y) (w : World) :
    Calls Try.prog 78 #[.int .i64 x, .int .i64 y] w fun e w' => e = .returned (.int .i64 (0)) ∧ w' = w := by
  subst h
  go_enter Try.func78, Try.ntmps78
  go_wp2
  all_goals (go_ret; exact ⟨rfl, rfl⟩)
set_option maxRecDepth 100000 in
set_option maxHeartbeats 400000 in
theorem cmpint_gt (x y : Int) (h : y < x) (w : World) :
    Calls Try.prog 78 #[.int .i64 x, .int .i64 y] w fun e w' => e = .returned (.int .i64 (1)) ∧ w' = w := by
  have e1 : ¬ x < y := by omega
  go_enter Try.func78, Try.ntmps78
  go_wp2
  all_goals (go_ret; exact ⟨rfl, rfl⟩)
/-- How two numbers compare. -/
def cmpV (x y : Int) : Int := if x < y then -1 else if x = y then 0 else 1
theorem cmpint_any (x y : Int) (w : World) : Calls Try.prog 78 #[.int .i64 x, .int .i64 y] w fun e w' => e = .returned (.int .i64 (cmpV x y)) ∧ w' = w := by
  unfold cmpV
  rcases Int.lt_trichotomy x y with h | h | h
  · rw [if_pos h]; exact cmpint_lt x y h w
  · rw [if_neg (by omega), if_pos h]; exact cmpint_eq x y h w
  · rw [if_neg (by omega), if_neg (by omega)]; exact cmpint_gt x y h w
theorem cmpV_neg {x y : Int} : cmpV x y < 0 ↔ x < y := by
  unfold cmpV
  split
  · exact ⟨fun _ => by assumption, fun _ => by decide⟩
  · split
    · exact ⟨fun h => by omega, fun h => by omega⟩
    · exact ⟨fun h => by omega, fun h => by omega⟩
/-- The word of a state, within 32 bits. -/
def wv (l : List Int) : Int := wordV l % 4294967296
theorem wv_rng (l : List Int) : 0 ≤ wv l ∧ wv l < 4294967296 := by unfold wv; omega
theorem SetP.wv {l : List Int} {n : Nat} (h : SetP l (n : Int)) (hn : n ≤ 24) : wv l = wordV l := by
  have := h.word_u32 hn
  unfold Go.Proofs.Ytihkgdlanfemcaa.wv
  exact Int.emod_eq_of_lt this.1 this.2
def encW (l : List Int) : Value := .int .u32 (wv l)
def cfW (x y : List Int) : Int := cmpV (ones32 (wv x)) (ones32 (wv y))
set_option maxRecDepth 100000 in
set_option maxHeartbeats 400000 in
theorem bestcmp_any (x y : List Int) (w : World) :
    Calls Try.prog 77 #[encW x, encW y] w fun e w' => e = .returned (.int .i64 (cfW x y)) ∧ ∃ q, w' = w.drewN q := by
  unfold encW cfW
  obtain ⟨x0, x1⟩ := wv_rng x
  obtain ⟨y0, y1⟩ := wv_rng y
  generalize wv x = a at x0 x1 ⊢
  generalize wv y = b at y0 y1 ⊢
  go_enter Try.func77, Try.ntmps77
  go_wp2_with fail
  refine (ones_any a x0 x1 _).mono ?_
  rintro e w1 ⟨rfl, q1, rfl⟩
  go_wp2_with fail
  refine (ones_any b y0 y1 _).mono ?_
  rintro e w2 ⟨rfl, q2, rfl⟩
  go_wp2_with fail
  refine (cmpint_any _ _ _).mono ?_
  rintro e w3 ⟨rfl, rfl⟩
  go_wp2
  go_ret
  exact ⟨rfl, q1 + q2, by simp⟩

end Go.Proofs.Ytihkgdlanfemcaa
