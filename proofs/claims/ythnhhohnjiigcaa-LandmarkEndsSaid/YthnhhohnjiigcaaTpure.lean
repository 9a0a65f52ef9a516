/-
  slices.Contains leaves the world as it is.
-/
import Derived.Test.YthnhhohnjiigcaaTmeet
namespace Go.Proofs.Ythnhhohnjiigcaa
open Go.RowKit
set_option linter.unusedVariables false
set_option linter.unusedSimpArgs false

theorem cell_new_at (w : World) (v : Value) (e : TypeId) (b : Nat) (hb : b = w.heap.size) : (w.alloc (.cells #[v] e)).cell? ⟨b, 0, none⟩ = some v := by
  subst hb; simp
def SomeIdxP (xs : List Int) (w : World) (e : Ending) (w' : World) : Prop := ∃ k : Nat, e = .returned (.int .i64 k) ∧ k < xs.length ∧ w' = w
set_option maxHeartbeats 400000 in
theorem index_yesp (A : Option Addr) (c : Nat) (xs : List Int) (n : Int) (w : World) (hI : Ints w A xs) (hl : xs.length ≤ 9223372036854775807) (h : n ∈ xs) :
    Calls Try.prog 74 #[.slice A xs.length c, .int .i64 n] w (SomeIdxP xs w) := by
  have HP := Lib.hid h
  clear h
  go_enter Try.func74, Try.ntmps74
  go_wp2
  go_loop [8] (fun i => ∃ k : Nat, k ≤ xs.length ∧ i = .int .i64 k ∧ Hid (n ∉ xs.take k)) (fun i => xs.length - (intOf i).toNat)
  case atStart => exact ⟨0, Nat.zero_le _, rfl, Lib.hid (by simp)⟩
  case round =>
    obtain ⟨k, hk, rfl, hno⟩ := hrel
    by_cases hlt : k < xs.length
    · obtain ⟨ad, x, rfl, hx, hc⟩ := hI.at_ hlt
      by_cases hxn : n = x
      · subst hxn
        go_wp2
        go_ret
        exact ⟨k, rfl, hlt, rfl⟩
      · have hb : (n == x) = false := by simpa using hxn
        go_wp2
        go_round
        case rel => exact ⟨k + 1, by omega, by go_num, Lib.hid (mem_take_succ hx.out hno.out (fun e => hxn e.symm))⟩
        case measure => simp [intOf]; omega
    · exact absurd HP.out (by have := hno.out; rw [List.take_of_length_le (by omega)] at this; exact this)
set_option maxHeartbeats 400000 in
theorem contains_p (A : Option Addr) (c : Nat) (xs : List Int) (n : Int) (w : World) (hI : Ints w A xs) (hl : xs.length ≤ 9223372036854775807) :
    Calls Try.prog 50 #[.slice A xs.length c, .int .i64 n] w fun e w' => e = .returned (.bool (decide (n ∈ xs))) ∧ w' = w := by
  by_cases hp : n ∈ xs
  · rw [decide_eq_true hp]
    have HP := Lib.hid hp
    clear hp
    go_enter Try.func50, Try.ntmps50
    go_wp2_with fail
    refine (index_yesp A c xs n _ hI hl HP.out).mono ?_
    rintro e w' ⟨k, rfl, hk, hW⟩
    subst hW
    go_wp2
    go_ret
    exact ⟨ret_bool (by simp), rfl⟩
  · rw [decide_eq_false hp]
    have HP := Lib.hid hp
    clear hp
    go_enter Try.func50, Try.ntmps50
    go_wp2_with fail
    refine (index_no A c xs n _ hI hl HP.out).mono ?_
    rintro e w' ⟨rfl, rfl⟩
    go_wp2
    go_ret
    exact ⟨rfl, rfl⟩
/-- .. with the outcome known. -/
theorem contains_v (A : Option Addr) (c : Nat) (xs : List Int) (n : Int) (w : World) (v : Bool) (hI : Ints w A xs) (hl : xs.length ≤ 9223372036854775807) (hv : decide (n ∈ xs) = v) :
    Calls Try.prog 50 #[.slice A xs.length c, .int .i64 n] w fun e w' => e = .returned (.bool v) ∧ w' = w := by
  subst hv; exact contains_p A c xs n w hI hl

end Go.Proofs.Ythnhhohnjiigcaa
