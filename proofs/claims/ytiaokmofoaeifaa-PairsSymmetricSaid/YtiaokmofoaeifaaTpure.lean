/-
  slices.Contains leaves the world as it is.
-/
import Derived.Test.YtiaokmofoaeifaaTmeet
namespace Go.Proofs.Ytiaokmofoaeifaa
open Go.RowKit
set_option linter.unusedVariables false
set_option linter.unusedSimpArgs false

theorem cell_new_at (w : World) (v : Value) (e : TypeId) (b : Nat) (hb : b = w.heap.size) : (w.alloc (.cells #[v] e)).cell? ⟨b, 0, none⟩ = some v := by
  subst hb; simp
def SomeIdxP (xs : List Int) (w : World) (e : Ending) (w' : World) : Prop := ∃ k : Nat, e = .returned (.int .i64 k) ∧ k < xs.length ∧ w' = w
set_option maxHeartbeats 400000 in
theorem index_yesp (A : Option Addr) (c : Nat) (xs : List Int) (n : Int) (w : World) (hI : Ints w A xs) (hl : xs.length ≤ 9223372036854775807) (h : n ∈ xs) :
    Calls Try.prog 96 #[.slice A xs.length c, .int .i64 n] w (SomeIdxP xs w) := by
  have HP := Lib.hid h
  clear h
  go_enter Try.func96, Try.ntmps96
  go_wp2
  go_loop [8] (fun i => ∃ k : Nat, k ≤ xs.length ∧ i = .int .i64 k ∧ Hid (n ∉ xs.take k)) (fun i => xs.length - (intOf i).toNat)
  case atStart => exact ⟨0, Nat.zero_le _, rfl, Lib.hid (by simp)⟩
  case round =>
    obtain ⟨k, hk, rfl, hno⟩ := hrel
    by_cases hlt : k < xs.length
    · obtain ⟨ad, x, rfl, hx, hc⟩ := hI.at_ hlt
      by_cases hxn : n = x
      · subst hxn
        go_wp2
        go_ret
        exact ⟨k, rfl, hlt, rfl⟩
      · have hb : (n == x) = false := by simpa using hxn
        go_wp2
        go_round
        case rel => exact ⟨k + 1, by omega, by go_num, Lib.hid (mem_take_succ hx.out hno.out (fun e => hxn e.symm))⟩
        case measure => simp [intOf]; omega
    · exact absurd HP.out (by have := hno.out; rw [List.take_of_length_le (by omega)] at this; exact this)
set_option maxHeartbeats 400000 in
theorem contains_p (A : Option Addr) (c : Nat) (xs : List Int) (n : Int) (w : World) (hI : Ints w A xs) (hl : xs.length ≤ 9223372036854775807) :
    Calls Try.prog 78 #[.slice A xs.length c, .int .i64 n] w fun e w' => e = .returned (.bool (decide (n ∈ xs))) ∧ w' = w := by
  by_cases hp : n ∈ xs
  · rw [decide_eq_true hp]
    have HP := Lib.hid hp
    clear hp
    go_enter Try.func78, Try.ntmps78
    go_wp2_with fail
    refine (index_yesp A c xs n _ hI hl HP.out).mono ?_
    rintro e w' ⟨k, rfl, hk, hW⟩
    subst hW
    go_wp2
    go_ret
    exact ⟨ret_bool (by simp), rfl⟩
  · rw [decide_eq_false hp]
    have HP := Lib.hid hp
    clear hp
    go_enter Try.func78, Try.ntmps78
    go_wp2_with fail
    refine (index_no A c xs n _ hI hl HP.out).mono ?_
    rintro e w' ⟨rfl, rfl⟩
    go_wp2
    go_ret
    exact ⟨rfl, rfl⟩
/-- .. with the outcome known. -/
theorem contains_v (A : Option Addr) (c : Nat) (xs : List Int) (n : Int) (w : World) (v : Bool) (hI : Ints w A xs) (hl : xs.length ≤ 9223372036854775807) (hv : decide (n ∈ xs) = v) :
    Calls Try.prog 78 #[.slice A xs.length c, .int .i64 n] w fun e w' => e = .returned (.bool v) ∧ w' = w := by
  subst hv; exact contains_p A c xs n w hI hl

/-- A later world that has drawn alone. -/
def Drawn (w w' : World) : Prop := ∃ m, w' = w.drewN m
theorem Drawn.refl (w : World) : Drawn w w := ⟨0, rfl⟩
theorem Drawn.drewN {w w' : World} (h : Drawn w w') (k : Nat) : Drawn w (w'.drewN k) := by
  obtain ⟨m, rfl⟩ := h
  exact ⟨m + k, by rw [World.drewN_drewN]⟩
theorem Drawn.below {w w' : World} (h : Drawn w w') : Below w.heap.size w w' := by
  obtain ⟨m, rfl⟩ := h
  exact below_drewN (Below.refl _ _) m
set_option maxHeartbeats 1000000 in
theorem risset_q (A : Option Addr) (c : Nat) (xs : List Int) (n : Int) (w : World) (hI : Ints w A xs) (hl : xs.length ≤ 9223372036854775807) (hn : -9223372036854775808 < n) (hn2 : n ≤ 9223372036854775807) :
    Calls Try.prog 66 #[.slice A xs.length c, .int .i64 n] w fun e w' => e = .returned (.bool (setB xs n)) ∧ ∃ m, w' = w.drewN m := by
  have ew : IntKind.i64.wrap (n - 1) = n - 1 := IntWalk.i64_in _ (by omega)
  go_enter Try.func66, Try.ntmps66
  go_wp2
  go_loopw [5] (fun i wr => ∃ k : Nat, k ≤ xs.length ∧ i = .int .i64 k ∧ Hid (SetP (xs.take k) n) ∧ Drawn w wr) (fun i _ => xs.length - (intOf i).toNat)
  case atStart => exact ⟨0, Nat.zero_le _, rfl, Lib.hid (by simpa using SetP.nil n), Drawn.refl _⟩
  case round =>
    obtain ⟨k, hk, rfl, hS, hB⟩ := hrel
    by_cases hlt : k < xs.length
    · obtain ⟨ad, x, rfl, hx, hc⟩ := (hI.below hB.below).at_ hlt
      by_cases h1 : x < 0 ∨ n ≤ x
      · have Q := fun w0 : World => (in_no x 0 (n - 1) w0 (by omega)).mono fun _ _ h => And.intro h.1 h.2.symm
        have H1 := Lib.hid h1
        clear h1
        go_wp2
        go_quiet ((go_at_call 39; exact Calls.quiet_of_same (Q _)))
        go_wp2
        go_ret
        exact ⟨ret_bool (setB_false.2 (not_setP_lo hx.out H1.out)).symm, hB.drewN _⟩
      · obtain ⟨h1a, h1b⟩ : 0 ≤ x ∧ x ≤ n - 1 := by omega
        clear h1
        have Q := fun w0 : World => (in_yes x 0 (n - 1) w0 h1a h1b).mono fun _ _ h => And.intro h.1 h.2.symm
        by_cases hk0 : k = 0
        · subst hk0
          rw [add_zero] at hc
          go_wp2
          go_quiet ((go_at_call 39; exact Calls.quiet_of_same (Q _)))
          go_wp2
          go_roundw
          case rel => exact ⟨1, by omega, rfl, Lib.hid (setP_take_succ hx.out hS.out (by omega) (by omega) (fun h => absurd h (by omega))), hB.drewN _⟩
          case measure => simp [intOf]; omega
        · have hk1 : 0 < k := by omega
          have hk2 : (0 : Int) < (k : Int) := by omega
          have ek : IntKind.i64.wrap ((k : Int) - 1) = (k : Int) - 1 := IntWalk.i64_in _ (by omega)
          obtain ⟨bd, y, e, hy, hd⟩ := (hI.below hB.below).at_ (show k - 1 < xs.length by omega)
          injection e with e
          subst e
          by_cases h3 : x ≤ y
          · go_wp2
            go_quiet ((go_at_call 39; exact Calls.quiet_of_same (Q _)))
            go_wp2
            go_ret
            exact ⟨ret_bool (setB_false.2 (not_setP_step hk1 hy.out hx.out h3)).symm, hB.drewN _⟩
          · go_wp2
            go_quiet ((go_at_call 39; exact Calls.quiet_of_same (Q _)))
            go_wp2
            go_roundw
            case rel =>
              refine ⟨k + 1, by omega, by go_num, Lib.hid (setP_take_succ hx.out hS.out (by omega) (by omega) (fun _ z hz => ?_)), hB.drewN _⟩
              have := hy.out
              rw [this] at hz
              injection hz with hz
              omega
            case measure => simp [intOf]; omega
    · go_wp2
      go_ret
      exact ⟨ret_bool (setB_true.2 (setP_all hlt hS.out)).symm, hB⟩

end Go.Proofs.Ytiaokmofoaeifaa
