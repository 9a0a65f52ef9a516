/-
  Sets of elements as words of 64 bits: plain.
-/
import Derived.Test.YtihkgdlanfemcaaY1
import Derived.Test.YtihkgdlanfemcaaY5
import Derived.Lib.QuoteBits
namespace Go.Proofs.Ytihkgdlanfemcaa
open Go.RowKit Go.Lib
set_option linter.unusedVariables false
set_option linter.unusedSimpArgs false

theorem and64 (a b : Nat) (ha : a < 9223372036854775808) (hb : b < 9223372036854775808) : bits .and .i64 (a : Int) (b : Int) = ((a &&& b : Nat) : Int) := by
  show IntKind.i64.wrap ((BitVec.ofInt 64 (a : Int) &&& BitVec.ofInt 64 (b : Int)).toNat : Int) = _
  rw [BitVec.toNat_and, ofInt_u64 a (by omega), ofInt_u64 b (by omega)]
  exact wrap_i64_small _ (Nat.lt_of_le_of_lt Nat.and_le_left ha)
theorem or64 (a b : Nat) (ha : a < 9223372036854775808) (hb : b < 9223372036854775808) : bits .or .i64 (a : Int) (b : Int) = ((a ||| b : Nat) : Int) := by
  show IntKind.i64.wrap ((BitVec.ofInt 64 (a : Int) ||| BitVec.ofInt 64 (b : Int)).toNat : Int) = _
  rw [BitVec.toNat_or, ofInt_u64 a (by omega), ofInt_u64 b (by omega)]
  exact wrap_i64_small _ (Nat.or_lt_two_pow (n := 63) ha hb)
/-- Does the word of a set meet a word? -/
theorem word_meet {s : List Int} {n w : Nat} (hs : SetP s (n : Int)) (hn : n ≤ 24) (hw : w < 9223372036854775808) : bits .and .i64 (wordV s) (w : Int) = 0 ↔ ¬ HitW s w := by
  have h1 := hs.word_u32 hn
  have e : wordV s = ((wordV s).toNat : Int) := by omega
  rw [e, and64 _ _ (by omega) hw]
  constructor
  · rintro h ⟨i, hi, hb⟩
    have h2 : ((wordV s).toNat &&& w) = 0 := by omega
    have h3 : ((wordV s).toNat &&& w).testBit i = true := by rw [Nat.testBit_and, hs.bit, decide_eq_true hi, hb]; rfl
    rw [h2, Nat.zero_testBit] at h3
    cases h3
  · intro h
    have h2 : ((wordV s).toNat &&& w) = 0 := by
      refine Nat.eq_of_testBit_eq fun i => ?_
      rw [Nat.testBit_and, hs.bit, Nat.zero_testBit]
      by_cases hi : (i : Int) ∈ s
      · have : w.testBit i = false := by
          cases hb : w.testBit i with
          | false => rfl
          | true => exact absurd ⟨i, hi, hb⟩ h
        rw [this]; simp
      · rw [decide_eq_false hi]; simp
    rw [h2]; rfl

end Go.Proofs.Ytihkgdlanfemcaa
