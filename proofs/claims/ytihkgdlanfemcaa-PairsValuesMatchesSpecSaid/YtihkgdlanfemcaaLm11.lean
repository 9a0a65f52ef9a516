/-
  S.Couples: what it returns for two lists with the same pairs.
-/
import Derived.Test.YtihkgdlanfemcaaMH
namespace Go.Proofs.Ytihkgdlanfemcaa
open Go.RowKit
set_option linter.unusedVariables false
set_option linter.unusedSimpArgs false

set_option maxRecDepth 100000 in
set_option maxHeartbeats 1000000 in
theorem couples_yes (w : World) (A B : Option Addr) (b1 b2 c d : Nat) (ps : List (Int × Int)) (hP : OwnPP b1 w (.slice A ps.length c) ps) (hQ : OwnPP b2 w (.slice B ps.length d) ps) (hl : ps.length ≤ 9223372036854775807) :
    Calls Try.prog 23 #[.slice A ps.length c, .slice B ps.length d] w fun e w' => e = .returned (.bool true) ∧ Below w.heap.size w w' := by
  have heq := fun (x y : Int) => eq_pair x y x y
  go_enter Try.func23, Try.ntmps23
  go_wp2_with fail
  go_loopw [5] (fun i wr => ∃ k : Nat, k ≤ ps.length ∧ i = .int .i64 k ∧ Below w.heap.size w wr) (fun i _ => ps.length - (intOf i).toNat)
  case atStart => exact ⟨0, Nat.zero_le _, rfl, Below.refl _ _⟩
  case round =>
    obtain ⟨k, hk, rfl, hBr⟩ := hrel
    by_cases hlt : k < ps.length
    · obtain ⟨g, cs, r, rfl, _, _, hr, _, hc, hp⟩ := OwnEs.at_ (hP.below hBr) (i := k) hlt
      obtain ⟨g', cs', r', rfl, _, _, hr', _, hc', hp'⟩ := OwnEs.at_ (hQ.below hBr) (i := k) hlt
      have hrr : r' = r := by have h1 := hr.out; have h2 := hr'.out; rw [h1] at h2; injection h2 with h2; exact h2.symm
      subst hrr
      obtain ⟨x, y⟩ := r'
      subst hp
      subst hp'
      have z0 := hc 0 _ rfl
      have z1 := hc 1 _ rfl
      have z2 := hc' 0 _ rfl
      have z3 := hc' 1 _ rfl
      simp only [Nat.add_zero] at z0 z2
      have hk0 : (0 : Int) ≤ (k : Int) := by omega
      have hki : (k : Int) < (ps.length : Int) := by omega
      clear hc hc' hr hr'
      go_wp2_with fail
      go_quiet (fail)
      go_wp2
      go_roundw
      case rel => exact ⟨k + 1, by omega, by go_num, by repeat (first | with_reducible exact hBr | with_reducible apply bdrew | with_reducible apply bdrewN | with_reducible apply balloc | ((with_reducible refine bset ?_ ?_ _); rotate_left; (first | omega | (simp <;> omega))))⟩
      case measure => simp [intOf]; omega
    · go_wp2
      go_ret
      exact ⟨rfl, hBr⟩


end Go.Proofs.Ytihkgdlanfemcaa
