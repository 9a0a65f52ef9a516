/-
  strips.Meets; slices.Index and Contains; relaxed.All: what they return.
-/
import Derived.Test.YtiaokmofoaeifaaTbin
namespace Go.Proofs.Ytiaokmofoaeifaa
open Go.RowKit
set_option linter.unusedVariables false
set_option linter.unusedSimpArgs false

theorem meets1_enters : Enters 111 := fun args w => by kernel_rfl
set_option maxHeartbeats 400000 in
theorem meets1_any (b : Nat) (B : Option Addr) (d : Nat) (ys : List Int) (x : Int) (w : World) (hb : w.cell? ⟨b, 0, none⟩ = some (.slice B ys.length d)) (hJ : Ints w B ys) (hl : ys.length ≤ 1000000000000) (hs : ys.Pairwise (· < ·)) :
    Calls Try.prog 111 #[.int .i64 x, .pointer (some ⟨b, 0, none⟩)] w fun e w' => e = .returned (.bool (decide (x ∈ ys))) ∧ Below w.heap.size w w' := by
  have HS := Lib.hid hs
  clear hs
  go_enter Try.func111, Try.ntmps111
  go_wp2_with fail
  refine (bin_any _ _ _ _ _ hJ hl HS.out).mono ?_
  rintro e w1 ⟨k, rfl, _, _, _, hB⟩
  go_wp2
  go_ret
  exact ⟨rfl, hB⟩

set_option maxHeartbeats 400000 in
theorem meets_any (A B : Option Addr) (c d : Nat) (xs ys : List Int) (w : World) (hI : Ints w A xs) (hJ : Ints w B ys) (hl : xs.length ≤ 9223372036854775807) (hm : ys.length ≤ 1000000000000) (hs : ys.Pairwise (· < ·)) :
    Calls Try.prog 101 #[.slice A xs.length c, .slice B ys.length d] w fun e w' => e = .returned (.bool (decide (∃ x ∈ xs, x ∈ ys))) ∧ Below w.heap.size w w' := by
  have HS := Lib.hid hs
  clear hs
  have D0 : Below w.heap.size w (w.alloc (.cells #[.slice B ys.length d] 22)) := (Below.refl _ _).alloc (Nat.le_refl _) _
  have hc : (w.alloc (.cells #[.slice B ys.length d] 22)).cell? ⟨w.heap.size, 0, none⟩ = some (.slice B ys.length d) := by simp [go_sem]
  have hT : Tests 111 (.pointer (some ⟨w.heap.size, 0, none⟩)) xs (fun x => decide (x ∈ ys)) (w.alloc (.cells #[.slice B ys.length d] 22)) := by
    intro x _ wr hB
    have hc' : wr.cell? ⟨w.heap.size, 0, none⟩ = some (.slice B ys.length d) := (hB.cell (World.block_lt_of_cell? _ _ hc)).trans hc
    exact meets1_any w.heap.size B d ys x wr hc' ((hJ.below D0).below hB) hm HS.out
  go_enter Try.func101, Try.ntmps101
  go_wp2_with fail
  refine (containsfunc_any A c xs _ _ (fun x => decide (x ∈ ys)) _ (hI.below D0) hl meets1_enters hT).mono ?_
  rintro e w1 ⟨rfl, hB⟩
  go_wp2
  go_ret
  exact ⟨ret_bool (by simp), dstep w hB D0⟩

set_option maxHeartbeats 400000 in
theorem index_yes (A : Option Addr) (c : Nat) (xs : List Int) (n : Int) (w : World) (hI : Ints w A xs) (hl : xs.length ≤ 9223372036854775807) (h : n ∈ xs) :
    Calls Try.prog 96 #[.slice A xs.length c, .int .i64 n] w (SomeIdx xs w) := by
  have HP := Lib.hid h
  clear h
  go_enter Try.func96, Try.ntmps96
  go_wp2
  go_loop [8] (fun i => ∃ k : Nat, k ≤ xs.length ∧ i = .int .i64 k ∧ Hid (n ∉ xs.take k)) (fun i => xs.length - (intOf i).toNat)
  case atStart => exact ⟨0, Nat.zero_le _, rfl, Lib.hid (by simp)⟩
  case round =>
    obtain ⟨k, hk, rfl, hno⟩ := hrel
    by_cases hlt : k < xs.length
    · obtain ⟨ad, x, rfl, hx, hc⟩ := hI.at_ hlt
      by_cases hxn : n = x
      · subst hxn
        go_wp2
        go_ret
        exact ⟨k, rfl, hlt, Below.refl _ _⟩
      · have hb : (n == x) = false := by simpa using hxn
        go_wp2
        go_round
        case rel => exact ⟨k + 1, by omega, by go_num, Lib.hid (mem_take_succ hx.out hno.out (fun e => hxn e.symm))⟩
        case measure => simp [intOf]; omega
    · exact absurd HP.out (by have := hno.out; rw [List.take_of_length_le (by omega)] at this; exact this)
set_option maxHeartbeats 400000 in
theorem index_no (A : Option Addr) (c : Nat) (xs : List Int) (n : Int) (w : World) (hI : Ints w A xs) (hl : xs.length ≤ 9223372036854775807) (h : ¬ n ∈ xs) :
    Calls Try.prog 96 #[.slice A xs.length c, .int .i64 n] w fun e w' => e = .returned (.int .i64 (-1)) ∧ w = w' := by
  have HP := Lib.hid h
  clear h
  go_enter Try.func96, Try.ntmps96
  go_wp2
  go_loop [8] (fun i => ∃ k : Nat, k ≤ xs.length ∧ i = .int .i64 k) (fun i => xs.length - (intOf i).toNat)
  case atStart => exact ⟨0, Nat.zero_le _, rfl⟩
  case round =>
    obtain ⟨k, hk, rfl⟩ := hrel
    by_cases hlt : k < xs.length
    · obtain ⟨ad, x, rfl, hx, hc⟩ := hI.at_ hlt
      have hb : (n == x) = false := by
        have : ¬ n = x := fun e => HP.out (by rw [e]; exact List.mem_of_getElem? hx.out)
        simpa using this
      go_wp2
      go_round
      case rel => exact ⟨k + 1, by omega, by go_num⟩
      case measure => simp [intOf]; omega
    · go_wp2
      go_ret
      exact ⟨rfl, rfl⟩
set_option maxHeartbeats 400000 in
theorem contains_any (A : Option Addr) (c : Nat) (xs : List Int) (n : Int) (w : World) (hI : Ints w A xs) (hl : xs.length ≤ 9223372036854775807) :
    Calls Try.prog 78 #[.slice A xs.length c, .int .i64 n] w fun e w' => e = .returned (.bool (decide (n ∈ xs))) ∧ Below w.heap.size w w' := by
  by_cases hp : n ∈ xs
  · rw [decide_eq_true hp]
    have HP := Lib.hid hp
    clear hp
    go_enter Try.func78, Try.ntmps78
    go_wp2_with fail
    refine (index_yes A c xs n _ hI hl HP.out).mono ?_
    rintro e w' ⟨k, rfl, hk, hB⟩
    go_wp2
    go_ret
    exact ⟨ret_bool (by simp), hB⟩
  · rw [decide_eq_false hp]
    have HP := Lib.hid hp
    clear hp
    go_enter Try.func78, Try.ntmps78
    go_wp2_with fail
    refine (index_no A c xs n _ hI hl HP.out).mono ?_
    rintro e w' ⟨rfl, rfl⟩
    go_wp2
    go_ret
    exact ⟨rfl, Below.refl _ _⟩

/-- The facts of a list are all in a set that is given by bools. -/
def AllIn (bs : List Bool) (xs : List Int) : Prop := ∀ x ∈ xs, bs[x.toNat]? = some true
set_option maxHeartbeats 400000 in
theorem all_any (A B : Option Addr) (c d : Nat) (bs : List Bool) (xs : List Int) (w : World) (hI : Bools w A bs) (hJ : Ints w B xs) (hl : xs.length ≤ 9223372036854775807) (hb : bs.length ≤ 9223372036854775807) (hx : ∀ x ∈ xs, 0 ≤ x ∧ x < bs.length) (v : Bool) (hv : v = true ↔ AllIn bs xs) :
    Calls Try.prog 79 #[.slice A bs.length c, .slice B xs.length d] w fun e w' => e = .returned (.bool v) ∧ Below w.heap.size w w' := by
  have HX := Lib.hid hx
  have HV := Lib.hid hv
  clear hx hv
  go_enter Try.func79, Try.ntmps79
  go_wp2
  go_loop [9] (fun i => ∃ k : Nat, k ≤ xs.length ∧ i = .int .i64 k ∧ Hid (∀ x ∈ xs.take k, bs[x.toNat]? = some true)) (fun i => xs.length - (intOf i).toNat)
  case atStart => exact ⟨0, Nat.zero_le _, rfl, Lib.hid (by simp)⟩
  case round =>
    obtain ⟨k, hk, rfl, hno⟩ := hrel
    by_cases hlt : k < xs.length
    · obtain ⟨ad, x, rfl, hx, hc⟩ := hJ.at_ hlt
      obtain ⟨x0, x1⟩ := HX.out x (List.mem_of_getElem? hx.out)
      obtain ⟨bd, v1, rfl, hy, hd⟩ := hI.at_ (show x.toNat < bs.length by omega)
      cases v1 with
      | true =>
        go_wp2
        go_round
        case rel => exact ⟨k + 1, by omega, by go_num, Lib.hid (forall_take_succ (P := fun x : Int => bs[x.toNat]? = some true) hx.out hno.out hy.out)⟩
        case measure => simp [intOf]; omega
      | false =>
        go_wp2
        go_ret
        refine ⟨ret_bool ?_, Below.refl _ _⟩
        cases v with
        | false => rfl
        | true =>
          have h1 := HV.out.1 rfl x (List.mem_of_getElem? hx.out)
          have h2 := hy.out
          rw [h1] at h2
          cases h2
    · go_wp2
      go_ret
      exact ⟨ret_bool (HV.out.2 (forall_take_all hlt hno.out)).symm, Below.refl _ _⟩

end Go.Proofs.Ytiaokmofoaeifaa
