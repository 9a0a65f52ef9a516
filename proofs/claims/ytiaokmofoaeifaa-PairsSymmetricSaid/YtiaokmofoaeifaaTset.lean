/-
  Both IsSet: whether a list is strictly increasing within bounds.
-/
import Derived.Test.YtiaokmofoaeifaaTlist
namespace Go.Proofs.Ytiaokmofoaeifaa
open Go.RowKit
set_option linter.unusedVariables false
set_option linter.unusedSimpArgs false

set_option maxHeartbeats 400000 in
theorem isset_any (A : Option Addr) (c : Nat) (xs : List Int) (n : Int) (w : World) (hI : Ints w A xs) (hl : xs.length ≤ 9223372036854775807) :
    Calls Try.prog 85 #[.slice A xs.length c, .int .i64 n] w fun e w' => e = .returned (.bool (setB xs n)) ∧ w = w' := by
  go_enter Try.func85, Try.ntmps85
  go_wp2
  go_loop [9] (fun i => ∃ k : Nat, k ≤ xs.length ∧ i = .int .i64 k ∧ Hid (SetP (xs.take k) n)) (fun i => xs.length - (intOf i).toNat)
  case atStart => exact ⟨0, Nat.zero_le _, rfl, Lib.hid (by simpa using SetP.nil n)⟩
  case round =>
    obtain ⟨k, hk, rfl, hS⟩ := hrel
    by_cases hlt : k < xs.length
    · obtain ⟨ad, x, rfl, hx, hc⟩ := hI.at_ hlt
      by_cases h1 : x < 0
      · go_wp2
        go_ret
        exact ⟨ret_bool (setB_false.2 (not_setP_lo hx.out (Or.inl h1))).symm, rfl⟩
      · by_cases h2 : n ≤ x
        · go_wp2
          go_ret
          exact ⟨ret_bool (setB_false.2 (not_setP_lo hx.out (Or.inr h2))).symm, rfl⟩
        · by_cases hk0 : k = 0
          · subst hk0
            rw [add_zero] at hc
            go_wp2
            go_round
            case rel => exact ⟨1, by omega, rfl, Lib.hid (setP_take_succ hx.out hS.out (by omega) (by omega) (fun h => absurd h (by omega)))⟩
            case measure => simp [intOf]; omega
          · have hk1 : 0 < k := by omega
            obtain ⟨bd, y, e, hy, hd⟩ := hI.at_ (show k - 1 < xs.length by omega)
            injection e with e
            subst e
            by_cases h3 : x ≤ y
            · go_wp2
              go_ret
              exact ⟨ret_bool (setB_false.2 (not_setP_step hk1 hy.out hx.out h3)).symm, rfl⟩
            · go_wp2
              go_round
              case rel =>
                refine ⟨k + 1, by omega, by go_num, Lib.hid (setP_take_succ hx.out hS.out (by omega) (by omega) (fun _ z hz => ?_))⟩
                have := hy.out
                rw [this] at hz
                injection hz with hz
                omega
              case measure => simp [intOf]; omega
    · go_wp2
      go_ret
      exact ⟨ret_bool (setB_true.2 (setP_all hlt hS.out)).symm, rfl⟩
theorem isset_yes (A : Option Addr) (c : Nat) (xs : List Int) (n : Int) (w : World) (hI : Ints w A xs) (hl : xs.length ≤ 9223372036854775807) (h : SetP xs n) :
    Calls Try.prog 85 #[.slice A xs.length c, .int .i64 n] w fun e w' => e = .returned (.bool true) ∧ w = w' :=
  (isset_any A c xs n w hI hl).mono fun e w' hh => ⟨by rw [hh.1, setB_true.2 h], hh.2⟩
theorem isset_no (A : Option Addr) (c : Nat) (xs : List Int) (n : Int) (w : World) (hI : Ints w A xs) (hl : xs.length ≤ 9223372036854775807) (h : ¬ SetP xs n) :
    Calls Try.prog 85 #[.slice A xs.length c, .int .i64 n] w fun e w' => e = .returned (.bool false) ∧ w = w' :=
  (isset_any A c xs n w hI hl).mono fun e w' hh => ⟨by rw [hh.1, setB_false.2 h], hh.2⟩

set_option maxRecDepth 100000 in
set_option maxHeartbeats 1000000 in
theorem risset_any (A : Option Addr) (c : Nat) (xs : List Int) (n : Int) (w : World) (hI : Ints w A xs) (hl : xs.length ≤ 9223372036854775807) (hn : -9223372036854775808 < n) (hn2 : n ≤ 9223372036854775807) :
    Calls Try.prog 66 #[.slice A xs.length c, .int .i64 n] w fun e w' => e = .returned (.bool (setB xs n)) ∧ Below w.heap.size w w' := by
  have ew : IntKind.i64.wrap (n - 1) = n - 1 := IntWalk.i64_in _ (by omega)
  go_enter Try.func66, Try.ntmps66
  go_wp2
  go_loopw [5] (fun i wr => ∃ k : Nat, k ≤ xs.length ∧ i = .int .i64 k ∧ Hid (SetP (xs.take k) n) ∧ Below w.heap.size w wr) (fun i _ => xs.length - (intOf i).toNat)
  case atStart => exact ⟨0, Nat.zero_le _, rfl, Lib.hid (by simpa using SetP.nil n), Below.refl _ _⟩
  case round =>
    obtain ⟨k, hk, rfl, hS, hB⟩ := hrel
    by_cases hlt : k < xs.length
    · obtain ⟨ad, x, rfl, hx, hc⟩ := (hI.below hB).at_ hlt
      by_cases h1 : x < 0 ∨ n ≤ x
      · have Q := fun w0 : World => (in_no x 0 (n - 1) w0 (by omega)).mono fun _ _ h => And.intro h.1 h.2.symm
        have H1 := Lib.hid h1
        clear h1
        go_wp2
        go_quiet ((go_at_call 39; exact Calls.quiet_of_same (Q _)))
        go_wp2
        go_ret
        exact ⟨ret_bool (setB_false.2 (not_setP_lo hx.out H1.out)).symm, below_drewN hB _⟩
      · obtain ⟨h1a, h1b⟩ : 0 ≤ x ∧ x ≤ n - 1 := by omega
        clear h1
        have Q := fun w0 : World => (in_yes x 0 (n - 1) w0 h1a h1b).mono fun _ _ h => And.intro h.1 h.2.symm
        by_cases hk0 : k = 0
        · subst hk0
          rw [add_zero] at hc
          go_wp2
          go_quiet ((go_at_call 39; exact Calls.quiet_of_same (Q _)))
          go_wp2
          go_roundw
          case rel => exact ⟨1, by omega, rfl, Lib.hid (setP_take_succ hx.out hS.out (by omega) (by omega) (fun h => absurd h (by omega))), below_drewN hB _⟩
          case measure => simp [intOf]; omega
        · have hk1 : 0 < k := by omega
          have hk2 : (0 : Int) < (k : Int) := by omega
          have ek : IntKind.i64.wrap ((k : Int) - 1) = (k : Int) - 1 := IntWalk.i64_in _ (by omega)
          obtain ⟨bd, y, e, hy, hd⟩ := (hI.below hB).at_ (show k - 1 < xs.length by omega)
          injection e with e
          subst e
          by_cases h3 : x ≤ y
          · go_wp2
            go_quiet ((go_at_call 39; exact Calls.quiet_of_same (Q _)))
            go_wp2
            go_ret
            exact ⟨ret_bool (setB_false.2 (not_setP_step hk1 hy.out hx.out h3)).symm, below_drewN hB _⟩
          · go_wp2
            go_quiet ((go_at_call 39; exact Calls.quiet_of_same (Q _)))
            go_wp2
            go_roundw
            case rel =>
              refine ⟨k + 1, by omega, by go_num, Lib.hid (setP_take_succ hx.out hS.out (by omega) (by omega) (fun _ z hz => ?_)), below_drewN hB _⟩
              have := hy.out
              rw [this] at hz
              injection hz with hz
              omega
            case measure => simp [intOf]; omega
    · go_wp2
      go_ret
      exact ⟨ret_bool (setB_true.2 (setP_all hlt hS.out)).symm, hB⟩

end Go.Proofs.Ytiaokmofoaeifaa
