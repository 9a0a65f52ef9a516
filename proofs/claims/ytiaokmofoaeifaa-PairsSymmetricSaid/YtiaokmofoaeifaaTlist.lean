/-
  Functions on lists of integers: Has, Ints, Subset, Disjoint, In, At, both IsSet, slices.Index and Contains: what they return.
-/
import Derived.Test.YtiaokmofoaeifaaMem
import Derived.Test.YtiaokmofoaeifaaTplain
namespace Go.Proofs.Ytiaokmofoaeifaa
open Go.RowKit
set_option linter.unusedVariables false
set_option linter.unusedSimpArgs false

set_option maxHeartbeats 400000 in
theorem has_any (A : Option Addr) (c : Nat) (xs : List Int) (n : Int) (w : World) (hI : Ints w A xs) (hl : xs.length ≤ 9223372036854775807) :
    Calls Try.prog 40 #[.slice A xs.length c, .int .i64 n] w fun e w' => e = .returned (.bool (decide (n ∈ xs))) ∧ w = w' := by
  go_enter Try.func40, Try.ntmps40
  go_wp2
  go_loop [5] (fun i => ∃ k : Nat, k ≤ xs.length ∧ i = .int .i64 k ∧ n ∉ xs.take k) (fun i => xs.length - (intOf i).toNat)
  case atStart => exact ⟨0, Nat.zero_le _, rfl, by simp⟩
  case round =>
    obtain ⟨k, hk, rfl, hno⟩ := hrel
    have HN := Lib.hid hno
    clear hno
    by_cases hlt : k < xs.length
    · obtain ⟨ad, x, rfl, hx, hc⟩ := hI.at_ hlt
      by_cases hxn : x = n
      · subst hxn
        go_wp2
        go_ret
        exact ⟨ret_bool (by simp; exact List.mem_of_getElem? hx.out), rfl⟩
      · have hb : (x == n) = false := by simpa using hxn
        go_wp2
        go_round
        case rel => exact ⟨k + 1, by omega, by go_num, mem_take_succ hx.out HN.out hxn⟩
        case measure => simp [intOf]; omega
    · go_wp2
      go_ret
      exact ⟨ret_bool (by have := HN.out; rw [List.take_of_length_le (by omega)] at this; simpa using this), rfl⟩
theorem has_yes (A : Option Addr) (c : Nat) (xs : List Int) (n : Int) (w : World) (hI : Ints w A xs) (hl : xs.length ≤ 9223372036854775807) (h : n ∈ xs) :
    Calls Try.prog 40 #[.slice A xs.length c, .int .i64 n] w fun e w' => e = .returned (.bool true) ∧ w = w' :=
  (has_any A c xs n w hI hl).mono fun e w' hh => ⟨by rw [hh.1, decide_eq_true h], hh.2⟩
theorem has_no (A : Option Addr) (c : Nat) (xs : List Int) (n : Int) (w : World) (hI : Ints w A xs) (hl : xs.length ≤ 9223372036854775807) (h : ¬ n ∈ xs) :
    Calls Try.prog 40 #[.slice A xs.length c, .int .i64 n] w fun e w' => e = .returned (.bool false) ∧ w = w' :=
  (has_any A c xs n w hI hl).mono fun e w' hh => ⟨by rw [hh.1, decide_eq_false h], hh.2⟩

set_option maxHeartbeats 400000 in
theorem subset_any (A B : Option Addr) (c d : Nat) (xs ys : List Int) (w : World) (hI : Ints w A xs) (hJ : Ints w B ys) (hl : xs.length ≤ 9223372036854775807) (hm : ys.length ≤ 9223372036854775807) :
    Calls Try.prog 27 #[.slice A xs.length c, .slice B ys.length d] w fun e w' => e = .returned (.bool (decide (∀ x ∈ xs, x ∈ ys))) ∧ w = w' := by
  go_enter Try.func27, Try.ntmps27
  go_wp2
  go_loop [5] (fun i => ∃ k : Nat, k ≤ xs.length ∧ i = .int .i64 k ∧ Hid (∀ x ∈ xs.take k, x ∈ ys)) (fun i => xs.length - (intOf i).toNat)
  case atStart => exact ⟨0, Nat.zero_le _, rfl, Lib.hid (by simp)⟩
  case round =>
    obtain ⟨k, hk, rfl, hno⟩ := hrel
    by_cases hlt : k < xs.length
    · obtain ⟨ad, x, rfl, hx, hc⟩ := hI.at_ hlt
      by_cases hxn : x ∈ ys
      · have HX := Lib.hid hxn
        clear hxn
        go_wp2_with fail
        refine (has_yes _ _ _ _ _ hJ hm HX.out).mono ?_
        rintro e w' ⟨rfl, rfl⟩
        go_wp2
        go_round
        case rel => exact ⟨k + 1, by omega, by go_num, Lib.hid (forall_take_succ hx.out hno.out HX.out)⟩
        case measure => simp [intOf]; omega
      · have HX := Lib.hid hxn
        clear hxn
        go_wp2_with fail
        refine (has_no _ _ _ _ _ hJ hm HX.out).mono ?_
        rintro e w' ⟨rfl, rfl⟩
        go_wp2
        go_ret
        exact ⟨ret_bool (decide_eq_false (fun h => HX.out (h x (List.mem_of_getElem? hx.out)))).symm, rfl⟩
    · go_wp2
      go_ret
      exact ⟨ret_bool (decide_eq_true (forall_take_all hlt hno.out)).symm, rfl⟩

set_option maxHeartbeats 400000 in
theorem disjoint_any (A B : Option Addr) (c d : Nat) (xs ys : List Int) (w : World) (hI : Ints w A xs) (hJ : Ints w B ys) (hl : xs.length ≤ 9223372036854775807) (hm : ys.length ≤ 9223372036854775807) :
    Calls Try.prog 48 #[.slice A xs.length c, .slice B ys.length d] w fun e w' => e = .returned (.bool (decide (∀ x ∈ xs, ¬ x ∈ ys))) ∧ w = w' := by
  go_enter Try.func48, Try.ntmps48
  go_wp2
  go_loop [5] (fun i => ∃ k : Nat, k ≤ xs.length ∧ i = .int .i64 k ∧ Hid (∀ x ∈ xs.take k, ¬ x ∈ ys)) (fun i => xs.length - (intOf i).toNat)
  case atStart => exact ⟨0, Nat.zero_le _, rfl, Lib.hid (by simp)⟩
  case round =>
    obtain ⟨k, hk, rfl, hno⟩ := hrel
    by_cases hlt : k < xs.length
    · obtain ⟨ad, x, rfl, hx, hc⟩ := hI.at_ hlt
      by_cases hxn : x ∈ ys
      · have HX := Lib.hid hxn
        clear hxn
        go_wp2_with fail
        refine (has_yes _ _ _ _ _ hJ hm HX.out).mono ?_
        rintro e w' ⟨rfl, rfl⟩
        go_wp2
        go_ret
        exact ⟨ret_bool (decide_eq_false (fun h => h x (List.mem_of_getElem? hx.out) HX.out)).symm, rfl⟩
      · have HX := Lib.hid hxn
        clear hxn
        go_wp2_with fail
        refine (has_no _ _ _ _ _ hJ hm HX.out).mono ?_
        rintro e w' ⟨rfl, rfl⟩
        go_wp2
        go_round
        case rel => exact ⟨k + 1, by omega, by go_num, Lib.hid (forall_take_succ (P := fun x => ¬ x ∈ ys) hx.out hno.out HX.out)⟩
        case measure => simp [intOf]; omega
    · go_wp2
      go_ret
      exact ⟨ret_bool (decide_eq_true (forall_take_all hlt hno.out)).symm, rfl⟩

/-- Two lists are equal as far as their first k elements. -/
theorem take_eq_succ {xs ys : List Int} {k : Nat} {x : Int} (hx : xs[k]? = some x) (hy : ys[k]? = some x) (h : xs.take k = ys.take k) : xs.take (k + 1) = ys.take (k + 1) := by
  rw [List.take_add_one, List.take_add_one, hx, hy, h]

set_option maxHeartbeats 400000 in
theorem ints_any (A B : Option Addr) (c d : Nat) (xs ys : List Int) (w : World) (hI : Ints w A xs) (hJ : Ints w B ys) (hl : xs.length ≤ 9223372036854775807) (hm : ys.length ≤ 9223372036854775807) :
    Calls Try.prog 23 #[.slice A xs.length c, .slice B ys.length d] w fun e w' => e = .returned (.bool (decide (xs = ys))) ∧ Below w.heap.size w w' := by
  by_cases hlen : xs.length = ys.length
  · have hlen' : ((xs.length : Int) != (ys.length : Int)) = false := by simp [hlen]
    have HL := Lib.hid hlen
    have hle1 : xs.length ≤ ys.length := by omega
    have hle2 : ys.length ≤ xs.length := by omega
    clear hlen
    go_enter Try.func23, Try.ntmps23
    go_wp2
    go_loopw [5] (fun i wr => ∃ k : Nat, k ≤ xs.length ∧ i = .int .i64 k ∧ Hid (xs.take k = ys.take k) ∧ Below w.heap.size w wr) (fun i _ => xs.length - (intOf i).toNat)
    case atStart => exact ⟨0, Nat.zero_le _, rfl, Lib.hid (by simp), Below.refl _ _⟩
    case round =>
      obtain ⟨k, hk, rfl, hno, hB⟩ := hrel
      by_cases hlt : k < xs.length
      · have hlt2 : k < ys.length := by omega
        obtain ⟨ad, x, rfl, hx, hc⟩ := (hI.below hB).at_ hlt
        obtain ⟨bd, y, rfl, hy, hd⟩ := (hJ.below hB).at_ hlt2
        by_cases hxn : x = y
        · subst hxn
          go_wp2
          go_quiet (fail)
          go_wp2
          go_roundw
          case rel => exact ⟨k + 1, by omega, by go_num, Lib.hid (take_eq_succ hx.out hy.out hno.out), below_drewN hB _⟩
          case measure => simp [intOf]; omega
        · have hb : (x != y) = true := by simpa using hxn
          go_wp2
          go_quiet (fail)
          go_wp2
          go_ret
          refine ⟨ret_bool (decide_eq_false (fun h => hxn ?_)).symm, below_drewN hB _⟩
          have h1 := hx.out
          have h2 := hy.out
          rw [h, h2] at h1
          injection h1 with h1
          exact h1.symm
      · go_wp2
        go_ret
        refine ⟨ret_bool (decide_eq_true ?_).symm, hB⟩
        have := hno.out
        rw [List.take_of_length_le (by omega), List.take_of_length_le (by omega)] at this
        exact this
  · have hlen' : ((xs.length : Int) != (ys.length : Int)) = true := by simp; omega
    go_enter Try.func23, Try.ntmps23
    go_wp2
    go_ret
    exact ⟨ret_bool (decide_eq_false (fun h => hlen (by rw [h]))).symm, Below.refl _ _⟩

theorem in_any (n a b : Int) (w : World) :
    Calls Try.prog 39 #[.int .i64 n, .int .i64 a, .int .i64 b] w fun e w' => e = .returned (.bool (decide (a ≤ n ∧ n ≤ b))) ∧ w = w' := by
  by_cases h1 : a ≤ n
  · by_cases h2 : n ≤ b
    all_goals
      go_enter Try.func39, Try.ntmps39
      go_wp2
      go_ret
      exact ⟨by simp <;> omega, rfl⟩
  · go_enter Try.func39, Try.ntmps39
    go_wp2
    go_ret
    exact ⟨by simp <;> omega, rfl⟩
theorem in_yes (n a b : Int) (w : World) (h1 : a ≤ n) (h2 : n ≤ b) :
    Calls Try.prog 39 #[.int .i64 n, .int .i64 a, .int .i64 b] w fun e w' => e = .returned (.bool true) ∧ w = w' :=
  (in_any n a b w).mono fun e w' ⟨he, hw⟩ => ⟨by rw [he, show decide (a ≤ n ∧ n ≤ b) = true from decide_eq_true ⟨h1, h2⟩], hw⟩
theorem in_no (n a b : Int) (w : World) (h1 : n < a ∨ b < n) :
    Calls Try.prog 39 #[.int .i64 n, .int .i64 a, .int .i64 b] w fun e w' => e = .returned (.bool false) ∧ w = w' :=
  (in_any n a b w).mono fun e w' ⟨he, hw⟩ => ⟨by rw [he, show decide (a ≤ n ∧ n ≤ b) = false from decide_eq_false (by omega)], hw⟩
theorem at_any (c d : Int) (w : World) :
    Calls Try.prog 53 #[.int .i64 c, .int .i64 d] w fun e w' => e = .returned (.agg #[.int .i64 c, .int .i64 d]) ∧ Below w.heap.size w w' := by
  go_enter Try.func53, Try.ntmps53
  go_wp2
  refine bodyPost_ret (v := .agg #[.int .i64 c, .int .i64 d]) ?_ rfl ⟨rfl, (Below.refl _ _).alloc (Nat.le_refl _) _⟩
  simp [results, Try.results53, go_sem]

end Go.Proofs.Ytiaokmofoaeifaa
