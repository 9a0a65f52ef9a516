/-
  fraction.gcd: the greatest divisor of two numbers, by remainders. For numbers of at most 2^62 in absolute value.
-/
import Derived.Test.YtkepfmglljkjhaaFplain
import Derived.Test.YtkepfmglljkjhaaMA
namespace Go.Proofs.Ytkepfmglljkjhaa
open Go.RowKit
set_option linter.unusedVariables false
set_option linter.unusedSimpArgs false

set_option maxHeartbeats 400000 in
theorem gcd_any (a b : Int) (w : World) (ha : -4611686018427387904 ≤ a ∧ a ≤ 4611686018427387904) (hb : -4611686018427387904 ≤ b ∧ b ≤ 4611686018427387904) :
    Calls Try.prog 57 #[.int .i64 a, .int .i64 b] w fun e w' => e = .returned (.int .i64 (Int.gcd a b)) ∧ Below w.heap.size w w' := by
  go_enter Try.func57, Try.ntmps57
  go_wp2
  go_loopw [0, 1] (fun x y wr => ∃ m n : Int, x = .int .i64 m ∧ y = .int .i64 n ∧ Int.gcd m n = Int.gcd a b ∧ (-4611686018427387904 ≤ m ∧ m ≤ 4611686018427387904) ∧ (-4611686018427387904 ≤ n ∧ n ≤ 4611686018427387904) ∧ Below w.heap.size w wr) (fun _ y _ => (intOf y).natAbs)
  case atStart => exact ⟨a, b, rfl, rfl, rfl, ha, hb, Below.refl _ _⟩
  case round =>
    obtain ⟨m, n, rfl, rfl, hg, hm, hn, hB⟩ := hrel
    have hm1 := hm.1
    have hm2 := hm.2
    have hn1 := hn.1
    have hn2 := hn.2
    have HG := Lib.hid hg
    have HB := Lib.hid hB
    clear hg hm hn hB
    by_cases hz : n = 0
    · subst hz
      have e : (Int.gcd a b : Int) = m.natAbs := by rw [← HG.out]; simp
      have HE := Lib.hid e
      clear e
      go_wp2
      all_goals
        go_ret
        exact ⟨ret_int (by rw [HE.out]; omega), HB.out⟩
    · have hz' : (n == 0) = false := by simpa using hz
      have hb := tmod_bd m n hz
      have hb1 : -9223372036854775808 ≤ m.tmod n := by omega
      have hb2 : m.tmod n ≤ 9223372036854775807 := by omega
      have ht := gcd_tmod m n
      rw [HG.out] at ht
      have HT := Lib.hid ht
      clear ht
      go_wp2
      go_quiet (fail)
      go_wp2
      go_roundw
      case rel => exact ⟨n, m.tmod n, rfl, rfl, HT.out, by omega, by omega, below_drewN HB.out _⟩
      case measure => simp only [intOf]; exact hb

end Go.Proofs.Ytkepfmglljkjhaa
