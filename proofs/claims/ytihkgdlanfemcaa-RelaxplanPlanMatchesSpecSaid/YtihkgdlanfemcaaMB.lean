/-
  Lists of integers that stand for sets: plain facts, no program in sight.
  Functions on lists of integers: Has, Ints, Subset, Disjoint, In, At, both IsSet, slices.Index and Contains: what they return.
  Both IsSet: whether a list is strictly increasing within bounds.
  slices.BinarySearch in a strictly increasing list; slices.Index, Contains, IndexFunc, ContainsFunc; strips.Meets.
  strips.Meets; slices.Index and Contains; relaxed.All: what they return.
  slices.Contains leaves the world as it is.
-/
import Init
import Derived.Test.YtihkgdlanfemcaaMA
namespace Go.Proofs.Ytihkgdlanfemcaa

theorem mem_take_succ {xs : List Int} {n x : Int} {k : Nat} (hx : xs[k]? = some x) (h : n ∉ xs.take k) (hn : ¬ x = n) : n ∉ xs.take (k + 1) := by
  rw [List.take_add_one, hx]
  simp
  exact ⟨h, fun e => hn e.symm⟩
theorem forall_take_succ {α : Type} {P : α → Prop} {xs : List α} {x : α} {k : Nat} (hx : xs[k]? = some x) (h : ∀ y ∈ xs.take k, P y) (hn : P x) : ∀ y ∈ xs.take (k + 1), P y := by
  intro y hy
  rw [List.take_add_one, hx] at hy
  simp at hy
  rcases hy with hy | rfl
  · exact h y hy
  · exact hn
theorem forall_take_all {α : Type} {P : α → Prop} {xs : List α} {k : Nat} (hk : ¬ k < xs.length) (h : ∀ y ∈ xs.take k, P y) : ∀ y ∈ xs, P y := by
  rw [List.take_of_length_le (by omega)] at h; exact h
theorem get_lt {α : Type} {xs : List α} {x : α} {k : Nat} (hx : xs[k]? = some x) : k < xs.length := (List.getElem?_eq_some_iff.1 hx).1

/-- A strictly increasing list of numbers from 0 to n - 1. -/
def SetP (l : List Int) (n : Int) : Prop := (∀ x ∈ l, 0 ≤ x ∧ x < n) ∧ ∀ i : Nat, ∀ x y : Int, l[i]? = some x → l[i + 1]? = some y → x < y
noncomputable def setB (l : List Int) (n : Int) : Bool := @decide (SetP l n) (Classical.propDecidable _)
theorem setB_true {l : List Int} {n : Int} : setB l n = true ↔ SetP l n := by unfold setB; exact @decide_eq_true_iff _ (Classical.propDecidable _)
theorem setB_false {l : List Int} {n : Int} : setB l n = false ↔ ¬ SetP l n := by unfold setB; exact @decide_eq_false_iff_not _ (Classical.propDecidable _)

theorem SetP.lt {l : List Int} {n : Int} (h : SetP l n) : ∀ (d i : Nat) (x y : Int), l[i]? = some x → l[i + 1 + d]? = some y → x < y := by
  intro d
  induction d with
  | zero => intro i x y hx hy; exact h.2 i x y hx hy
  | succ d ih =>
    intro i x y hx hy
    have hl := get_lt hy
    obtain ⟨z, hz⟩ : ∃ z, l[i + 1 + d]? = some z := ⟨_, List.getElem?_eq_getElem (by omega)⟩
    exact Int.lt_trans (ih i x z hx hz) (h.2 _ z y hz hy)
theorem SetP.mono {l : List Int} {n : Int} (h : SetP l n) {i j : Nat} {x y : Int} (hij : i < j) (hx : l[i]? = some x) (hy : l[j]? = some y) : x < y :=
  h.lt (j - i - 1) i x y hx (by rw [show i + 1 + (j - i - 1) = j by omega]; exact hy)
theorem SetP.inj {l : List Int} {n : Int} (h : SetP l n) {i j : Nat} {x : Int} (hx : l[i]? = some x) (hy : l[j]? = some x) : i = j := by
  rcases Nat.lt_trichotomy i j with e | e | e
  · exact absurd (h.mono e hx hy) (by omega)
  · exact e
  · exact absurd (h.mono e hy hx) (by omega)
theorem SetP.nil (n : Int) : SetP [] n := ⟨by simp, by simp⟩
theorem SetP.ge {l : List Int} {n : Int} (h : SetP l n) : ∀ (i : Nat) (x : Int), l[i]? = some x → (i : Int) ≤ x := by
  intro i
  induction i with
  | zero => intro x hx; exact (h.1 x (List.mem_of_getElem? hx)).1
  | succ i ih =>
    intro x hx
    have hl := get_lt hx
    obtain ⟨z, hz⟩ : ∃ z, l[i]? = some z := ⟨_, List.getElem?_eq_getElem (by omega)⟩
    have := ih z hz
    have := h.2 i z x hz hx
    omega
/-- A set of numbers below n has at most n elements. -/
theorem SetP.length {l : List Int} {n : Int} (h : SetP l n) (hn : 0 ≤ n) : (l.length : Int) ≤ n := by
  rcases Nat.eq_zero_or_pos l.length with e | e
  · omega
  · obtain ⟨z, hz⟩ : ∃ z, l[l.length - 1]? = some z := ⟨_, List.getElem?_eq_getElem (by omega)⟩
    have h1 := h.ge _ _ hz
    have h2 := (h.1 z (List.mem_of_getElem? hz)).2
    omega
/-- Two sets with the same elements are one list. -/
theorem SetP.ext {a b : List Int} {n m : Int} (ha : SetP a n) (hb : SetP b m) (h : ∀ x, x ∈ a ↔ x ∈ b) : a = b := by
  have pa : a.Pairwise (· < ·) := by
    rw [List.pairwise_iff_getElem]
    intro i j hi hj hij
    exact ha.mono hij (List.getElem?_eq_getElem hi) (List.getElem?_eq_getElem hj)
  have pb : b.Pairwise (· < ·) := by
    rw [List.pairwise_iff_getElem]
    intro i j hi hj hij
    exact hb.mono hij (List.getElem?_eq_getElem hi) (List.getElem?_eq_getElem hj)
  have na : a.Nodup := pa.imp (fun h => Int.ne_of_lt h)
  have nb : b.Nodup := pb.imp (fun h => Int.ne_of_lt h)
  have hp : a.Perm b := (List.perm_ext_iff_of_nodup na nb).2 h
  exact hp.eq_of_pairwise (fun x y _ _ h1 h2 => by omega) pa pb
theorem SetP.pairwise {a : List Int} {n : Int} (ha : SetP a n) : a.Pairwise (· < ·) := by
  rw [List.pairwise_iff_getElem]
  intro i j hi hj hij
  exact ha.mono hij (List.getElem?_eq_getElem hi) (List.getElem?_eq_getElem hj)
theorem SetP.of_pairwise {a : List Int} {n : Int} (h1 : ∀ x ∈ a, 0 ≤ x ∧ x < n) (h2 : a.Pairwise (· < ·)) : SetP a n := by
  refine ⟨h1, fun i x y hx hy => ?_⟩
  obtain ⟨hi, rfl⟩ := List.getElem?_eq_some_iff.1 hx
  obtain ⟨hj, rfl⟩ := List.getElem?_eq_some_iff.1 hy
  exact List.pairwise_iff_getElem.1 h2 i (i + 1) hi hj (by omega)

theorem setP_take_succ {xs : List Int} {n x : Int} {k : Nat} (hx : xs[k]? = some x) (h : SetP (xs.take k) n) (h0 : 0 ≤ x) (hn : x < n) (hp : 0 < k → ∀ y, xs[k - 1]? = some y → y < x) : SetP (xs.take (k + 1)) n := by
  refine ⟨forall_take_succ hx h.1 ⟨h0, hn⟩, fun i a b ha hb => ?_⟩
  have hl := get_lt hb
  rw [List.length_take] at hl
  rw [List.getElem?_take_of_lt (by omega)] at ha hb
  by_cases e : i + 1 = k
  · subst e
    rw [hx] at hb
    injection hb with hb
    subst hb
    exact hp (by omega) a (by simpa using ha)
  · exact h.2 i a b (by rw [List.getElem?_take_of_lt (by omega)]; exact ha) (by rw [List.getElem?_take_of_lt (by omega)]; exact hb)
theorem not_setP_lo {xs : List Int} {n x : Int} {k : Nat} (hx : xs[k]? = some x) (h : x < 0 ∨ n ≤ x) : ¬ SetP xs n := fun hs => by
  have := hs.1 x (List.mem_of_getElem? hx)
  omega
theorem not_setP_step {xs : List Int} {n x y : Int} {k : Nat} (hk : 0 < k) (hy : xs[k - 1]? = some y) (hx : xs[k]? = some x) (h : x ≤ y) : ¬ SetP xs n := fun hs => by
  have := hs.2 (k - 1) y x hy (by rw [show k - 1 + 1 = k by omega]; exact hx)
  omega
theorem setP_all {xs : List Int} {n : Int} {k : Nat} (hk : ¬ k < xs.length) (h : SetP (xs.take k) n) : SetP xs n := by
  rw [List.take_of_length_le (by omega)] at h; exact h

end Go.Proofs.Ytihkgdlanfemcaa

namespace Go.Proofs.Ytihkgdlanfemcaa
open Go.RowKit
set_option linter.unusedVariables false
set_option linter.unusedSimpArgs false

set_option maxHeartbeats 400000 in
theorem has_any (A : Option Addr) (c : Nat) (xs : List Int) (n : Int) (w : World) (hI : Ints w A xs) (hl : xs.length ≤ 9223372036854775807) :
    Calls Try.prog 40 #[.slice A xs.length c, .int .i64 n] w fun e w' => e = .returned (.bool (decide (n ∈ xs))) ∧ w = w' := by
  go_enter Try.func40, Try.ntmps40
  go_wp2
  go_loop [5] (fun i => ∃ k : Nat, k ≤ xs.length ∧ i = .int .i64 k ∧ n ∉ xs.take k) (fun i => xs.length - (intOf i).toNat)
  case atStart => exact ⟨0, Nat.zero_le _, rfl, by simp⟩
  case round =>
    obtain ⟨k, hk, rfl, hno⟩ := hrel
    have HN := Lib.hid hno
    clear hno
    by_cases hlt : k < xs.length
    · obtain ⟨ad, x, rfl, hx, hc⟩ := hI.at_ hlt
      by_cases hxn : x = n
      · subst hxn
        go_wp2
        go_ret
        exact ⟨ret_bool (by simp; exact List.mem_of_getElem? hx.out), rfl⟩
      · have hb : (x == n) = false := by simpa using hxn
        go_wp2
        go_round
        case rel => exact ⟨k + 1, by omega, by go_num, mem_take_succ hx.out HN.out hxn⟩
        case measure => simp [intOf]; omega
    · go_wp2
      go_ret
      exact ⟨ret_bool (by have := HN.out; rw [List.take_of_length_le (by omega)] at this; simpa using this), rfl⟩
theorem has_yes (A : Option Addr) (c : Nat) (xs : List Int) (n : Int) (w : World) (hI : Ints w A xs) (hl : xs.length ≤ 9223372036854775807) (h : n ∈ xs) :
    Calls Try.prog 40 #[.slice A xs.length c, .int .i64 n] w fun e w' => e = .returned (.bool true) ∧ w = w' :=
  (has_any A c xs n w hI hl).mono fun e w' hh => ⟨by rw [hh.1, decide_eq_true h], hh.2⟩
theorem has_no (A : Option Addr) (c : Nat) (xs : List Int) (n : Int) (w : World) (hI : Ints w A xs) (hl : xs.length ≤ 9223372036854775807) (h : ¬ n ∈ xs) :
    Calls Try.prog 40 #[.slice A xs.length c, .int .i64 n] w fun e w' => e = .returned (.bool false) ∧ w = w' :=
  (has_any A c xs n w hI hl).mono fun e w' hh => ⟨by rw [hh.1, decide_eq_false h], hh.2⟩

set_option maxHeartbeats 400000 in
theorem subset_any (A B : Option Addr) (c d : Nat) (xs ys : List Int) (w : World) (hI : Ints w A xs) (hJ : Ints w B ys) (hl : xs.length ≤ 9223372036854775807) (hm : ys.length ≤ 9223372036854775807) :
    Calls Try.prog 73 #[.slice A xs.length c, .slice B ys.length d] w fun e w' => e = .returned (.bool (decide (∀ x ∈ xs, x ∈ ys))) ∧ w = w' := by
  go_enter Try.func73, Try.ntmps73
  go_wp2
  go_loop [5] (fun i => ∃ k : Nat, k ≤ xs.length ∧ i = .int .i64 k ∧ Hid (∀ x ∈ xs.take k, x ∈ ys)) (fun i => xs.length - (intOf i).toNat)
  case atStart => exact ⟨0, Nat.zero_le _, rfl, Lib.hid (by simp)⟩
  case round =>
    obtain ⟨k, hk, rfl, hno⟩ := hrel
    by_cases hlt : k < xs.length
    · obtain ⟨ad, x, rfl, hx, hc⟩ := hI.at_ hlt
      by_cases hxn : x ∈ ys
      · have HX := Lib.hid hxn
        clear hxn
        go_wp2_with fail
        refine (has_yes _ _ _ _ _ hJ hm HX.out).mono ?_
        rintro e w' ⟨rfl, rfl⟩
        go_wp2
        go_round
        case rel => exact ⟨k + 1, by omega, by go_num, Lib.hid (forall_take_succ hx.out hno.out HX.out)⟩
        case measure => simp [intOf]; omega
      · have HX := Lib.hid hxn
        clear hxn
        go_wp2_with fail
        refine (has_no _ _ _ _ _ hJ hm HX.out).mono ?_
        rintro e w' ⟨rfl, rfl⟩
        go_wp2
        go_ret
        exact ⟨ret_bool (decide_eq_false (fun h => HX.out (h x (List.mem_of_getElem? hx.out)))).symm, rfl⟩
    · go_wp2
      go_ret
      exact ⟨ret_bool (decide_eq_true (forall_take_all hlt hno.out)).symm, rfl⟩

set_option maxHeartbeats 400000 in
theorem disjoint_any (A B : Option Addr) (c d : Nat) (xs ys : List Int) (w : World) (hI : Ints w A xs) (hJ : Ints w B ys) (hl : xs.length ≤ 9223372036854775807) (hm : ys.length ≤ 9223372036854775807) :
    Calls Try.prog 55 #[.slice A xs.length c, .slice B ys.length d] w fun e w' => e = .returned (.bool (decide (∀ x ∈ xs, ¬ x ∈ ys))) ∧ w = w' := by
  go_enter Try.func55, Try.ntmps55
  go_wp2
  go_loop [5] (fun i => ∃ k : Nat, k ≤ xs.length ∧ i = .int .i64 k ∧ Hid (∀ x ∈ xs.take k, ¬ x ∈ ys)) (fun i => xs.length - (intOf i).toNat)
  case atStart => exact ⟨0, Nat.zero_le _, rfl, Lib.hid (by simp)⟩
  case round =>
    obtain ⟨k, hk, rfl, hno⟩ := hrel
    by_cases hlt : k < xs.length
    · obtain ⟨ad, x, rfl, hx, hc⟩ := hI.at_ hlt
      by_cases hxn : x ∈ ys
      · have HX := Lib.hid hxn
        clear hxn
        go_wp2_with fail
        refine (has_yes _ _ _ _ _ hJ hm HX.out).mono ?_
        rintro e w' ⟨rfl, rfl⟩
        go_wp2
        go_ret
        exact ⟨ret_bool (decide_eq_false (fun h => h x (List.mem_of_getElem? hx.out) HX.out)).symm, rfl⟩
      · have HX := Lib.hid hxn
        clear hxn
        go_wp2_with fail
        refine (has_no _ _ _ _ _ hJ hm HX.out).mono ?_
        rintro e w' ⟨rfl, rfl⟩
        go_wp2
        go_round
        case rel => exact ⟨k + 1, by omega, by go_num, Lib.hid (forall_take_succ (P := fun x => ¬ x ∈ ys) hx.out hno.out HX.out)⟩
        case measure => simp [intOf]; omega
    · go_wp2
      go_ret
      exact ⟨ret_bool (decide_eq_true (forall_take_all hlt hno.out)).symm, rfl⟩

/-- Two lists are equal as far as their first k elements. -/
theorem take_eq_succ {xs ys : List Int} {k : Nat} {x : Int} (hx : xs[k]? = some x) (hy : ys[k]? = some x) (h : xs.take k = ys.take k) : xs.take (k + 1) = ys.take (k + 1) := by
  rw [List.take_add_one, List.take_add_one, hx, hy, h]

set_option maxHeartbeats 400000 in
theorem ints_any (A B : Option Addr) (c d : Nat) (xs ys : List Int) (w : World) (hI : Ints w A xs) (hJ : Ints w B ys) (hl : xs.length ≤ 9223372036854775807) (hm : ys.length ≤ 9223372036854775807) :
    Calls Try.prog 33 #[.slice A xs.length c, .slice B ys.length d] w fun e w' => e = .returned (.bool (decide (xs = ys))) ∧ Below w.heap.size w w' := by
  by_cases hlen : xs.length = ys.length
  · have hlen' : ((xs.length : Int) != (ys.length : Int)) = false := by simp [hlen]
    have HL := Lib.hid hlen
    have hle1 : xs.length ≤ ys.length := by omega
    have hle2 : ys.length ≤ xs.length := by omega
    clear hlen
    go_enter Try.func33, Try.ntmps33
    go_wp2
    go_loopw [5] (fun i wr => ∃ k : Nat, k ≤ xs.length ∧ i = .int .i64 k ∧ Hid (xs.take k = ys.take k) ∧ Below w.heap.size w wr) (fun i _ => xs.length - (intOf i).toNat)
    case atStart => exact ⟨0, Nat.zero_le _, rfl, Lib.hid (by simp), Below.refl _ _⟩
    case round =>
      obtain ⟨k, hk, rfl, hno, hB⟩ := hrel
      by_cases hlt : k < xs.length
      · have hlt2 : k < ys.length := by omega
        obtain ⟨ad, x, rfl, hx, hc⟩ := (hI.below hB).at_ hlt
        obtain ⟨bd, y, rfl, hy, hd⟩ := (hJ.below hB).at_ hlt2
        by_cases hxn : x = y
        · subst hxn
          go_wp2
          go_quiet (fail)
          go_wp2
          go_roundw
          case rel => exact ⟨k + 1, by omega, by go_num, Lib.hid (take_eq_succ hx.out hy.out hno.out), below_drewN hB _⟩
          case measure => simp [intOf]; omega
        · have hb : (x != y) = true := by simpa using hxn
          go_wp2
          go_quiet (fail)
          go_wp2
          go_ret
          refine ⟨ret_bool (decide_eq_false (fun h => hxn ?_)).symm, below_drewN hB _⟩
          have h1 := hx.out
          have h2 := hy.out
          rw [h, h2] at h1
          injection h1 with h1
          exact h1.symm
      · go_wp2
        go_ret
        refine ⟨ret_bool (decide_eq_true ?_).symm, hB⟩
        have := hno.out
        rw [List.take_of_length_le (by omega), List.take_of_length_le (by omega)] at this
        exact this
  · have hlen' : ((xs.length : Int) != (ys.length : Int)) = true := by simp; omega
    go_enter Try.func33, Try.ntmps33
    go_wp2
    go_ret
    exact ⟨ret_bool (decide_eq_false (fun h => hlen (by rw [h]))).symm, Below.refl _ _⟩

theorem in_any (n a b : Int) (w : World) :
    Calls Try.prog 42 #[.int .i64 n, .int .i64 a, .int .i64 b] w fun e w' => e = .returned (.bool (decide (a ≤ n ∧ n ≤ b))) ∧ w = w' := by
  by_cases h1 : a ≤ n
  · by_cases h2 : n ≤ b
    all_goals
      go_enter Try.func42, Try.ntmps42
      go_wp2
      go_ret
      exact ⟨by simp <;> omega, rfl⟩
  · go_enter Try.func42, Try.ntmps42
    go_wp2
    go_ret
    exact ⟨by simp <;> omega, rfl⟩
theorem in_yes (n a b : Int) (w : World) (h1 : a ≤ n) (h2 : n ≤ b) :
    Calls Try.prog 42 #[.int .i64 n, .int .i64 a, .int .i64 b] w fun e w' => e = .returned (.bool true) ∧ w = w' :=
  (in_any n a b w).mono fun e w' ⟨he, hw⟩ => ⟨by rw [he, show decide (a ≤ n ∧ n ≤ b) = true from decide_eq_true ⟨h1, h2⟩], hw⟩
theorem in_no (n a b : Int) (w : World) (h1 : n < a ∨ b < n) :
    Calls Try.prog 42 #[.int .i64 n, .int .i64 a, .int .i64 b] w fun e w' => e = .returned (.bool false) ∧ w = w' :=
  (in_any n a b w).mono fun e w' ⟨he, hw⟩ => ⟨by rw [he, show decide (a ≤ n ∧ n ≤ b) = false from decide_eq_false (by omega)], hw⟩
theorem at_any (c d : Int) (w : World) :
    Calls Try.prog 37 #[.int .i64 c, .int .i64 d] w fun e w' => e = .returned (.agg #[.int .i64 c, .int .i64 d]) ∧ Below w.heap.size w w' := by
  go_enter Try.func37, Try.ntmps37
  go_wp2
  refine bodyPost_ret (v := .agg #[.int .i64 c, .int .i64 d]) ?_ rfl ⟨rfl, (Below.refl _ _).alloc (Nat.le_refl _) _⟩
  simp [results, Try.results37, go_sem]

end Go.Proofs.Ytihkgdlanfemcaa

namespace Go.Proofs.Ytihkgdlanfemcaa
open Go.RowKit
set_option linter.unusedVariables false
set_option linter.unusedSimpArgs false

set_option maxHeartbeats 400000 in
theorem isset_any (A : Option Addr) (c : Nat) (xs : List Int) (n : Int) (w : World) (hI : Ints w A xs) (hl : xs.length ≤ 9223372036854775807) :
    Calls Try.prog 98 #[.slice A xs.length c, .int .i64 n] w fun e w' => e = .returned (.bool (setB xs n)) ∧ w = w' := by
  go_enter Try.func98, Try.ntmps98
  go_wp2
  go_loop [9] (fun i => ∃ k : Nat, k ≤ xs.length ∧ i = .int .i64 k ∧ Hid (SetP (xs.take k) n)) (fun i => xs.length - (intOf i).toNat)
  case atStart => exact ⟨0, Nat.zero_le _, rfl, Lib.hid (by simpa using SetP.nil n)⟩
  case round =>
    obtain ⟨k, hk, rfl, hS⟩ := hrel
    by_cases hlt : k < xs.length
    · obtain ⟨ad, x, rfl, hx, hc⟩ := hI.at_ hlt
      by_cases h1 : x < 0
      · go_wp2
        go_ret
        exact ⟨ret_bool (setB_false.2 (not_setP_lo hx.out (Or.inl h1))).symm, rfl⟩
      · by_cases h2 : n ≤ x
        · go_wp2
          go_ret
          exact ⟨ret_bool (setB_false.2 (not_setP_lo hx.out (Or.inr h2))).symm, rfl⟩
        · by_cases hk0 : k = 0
          · subst hk0
            rw [add_zero] at hc
            go_wp2
            go_round
            case rel => exact ⟨1, by omega, rfl, Lib.hid (setP_take_succ hx.out hS.out (by omega) (by omega) (fun h => absurd h (by omega)))⟩
            case measure => simp [intOf]; omega
          · have hk1 : 0 < k := by omega
            obtain ⟨bd, y, e, hy, hd⟩ := hI.at_ (show k - 1 < xs.length by omega)
            injection e with e
            subst e
            by_cases h3 : x ≤ y
            · go_wp2
              go_ret
              exact ⟨ret_bool (setB_false.2 (not_setP_step hk1 hy.out hx.out h3)).symm, rfl⟩
            · go_wp2
              go_round
              case rel =>
                refine ⟨k + 1, by omega, by go_num, Lib.hid (setP_take_succ hx.out hS.out (by omega) (by omega) (fun _ z hz => ?_))⟩
                have := hy.out
                rw [this] at hz
                injection hz with hz
                omega
              case measure => simp [intOf]; omega
    · go_wp2
      go_ret
      exact ⟨ret_bool (setB_true.2 (setP_all hlt hS.out)).symm, rfl⟩
theorem isset_yes (A : Option Addr) (c : Nat) (xs : List Int) (n : Int) (w : World) (hI : Ints w A xs) (hl : xs.length ≤ 9223372036854775807) (h : SetP xs n) :
    Calls Try.prog 98 #[.slice A xs.length c, .int .i64 n] w fun e w' => e = .returned (.bool true) ∧ w = w' :=
  (isset_any A c xs n w hI hl).mono fun e w' hh => ⟨by rw [hh.1, setB_true.2 h], hh.2⟩
theorem isset_no (A : Option Addr) (c : Nat) (xs : List Int) (n : Int) (w : World) (hI : Ints w A xs) (hl : xs.length ≤ 9223372036854775807) (h : ¬ SetP xs n) :
    Calls Try.prog 98 #[.slice A xs.length c, .int .i64 n] w fun e w' => e = .returned (.bool false) ∧ w = w' :=
  (isset_any A c xs n w hI hl).mono fun e w' hh => ⟨by rw [hh.1, setB_false.2 h], hh.2⟩

set_option maxRecDepth 100000 in
set_option maxHeartbeats 1000000 in
theorem risset_any (A : Option Addr) (c : Nat) (xs : List Int) (n : Int) (w : World) (hI : Ints w A xs) (hl : xs.length ≤ 9223372036854775807) (hn : -9223372036854775808 < n) (hn2 : n ≤ 9223372036854775807) :
    Calls Try.prog 52 #[.slice A xs.length c, .int .i64 n] w fun e w' => e = .returned (.bool (setB xs n)) ∧ Below w.heap.size w w' := by
  have ew : IntKind.i64.wrap (n - 1) = n - 1 := IntWalk.i64_in _ (by omega)
  go_enter Try.func52, Try.ntmps52
  go_wp2
  go_loopw [5] (fun i wr => ∃ k : Nat, k ≤ xs.length ∧ i = .int .i64 k ∧ Hid (SetP (xs.take k) n) ∧ Below w.heap.size w wr) (fun i _ => xs.length - (intOf i).toNat)
  case atStart => exact ⟨0, Nat.zero_le _, rfl, Lib.hid (by simpa using SetP.nil n), Below.refl _ _⟩
  case round =>
    obtain ⟨k, hk, rfl, hS, hB⟩ := hrel
    by_cases hlt : k < xs.length
    · obtain ⟨ad, x, rfl, hx, hc⟩ := (hI.below hB).at_ hlt
      by_cases h1 : x < 0 ∨ n ≤ x
      · have Q := fun w0 : World => (in_no x 0 (n - 1) w0 (by omega)).mono fun _ _ h => And.intro h.1 h.2.symm
        have H1 := Lib.hid h1
        clear h1
        go_wp2
        go_quiet ((go_at_call 42; exact Calls.quiet_of_same (Q _)))
        go_wp2
        go_ret
        exact ⟨ret_bool (setB_false.2 (not_setP_lo hx.out H1.out)).symm, below_drewN hB _⟩
      · obtain ⟨h1a, h1b⟩ : 0 ≤ x ∧ x ≤ n - 1 := by omega
        clear h1
        have Q := fun w0 : World => (in_yes x 0 (n - 1) w0 h1a h1b).mono fun _ _ h => And.intro h.1 h.2.symm
        by_cases hk0 : k = 0
        · subst hk0
          rw [add_zero] at hc
          go_wp2
          go_quiet ((go_at_call 42; exact Calls.quiet_of_same (Q _)))
          go_wp2
          go_roundw
          case rel => exact ⟨1, by omega, rfl, Lib.hid (setP_take_succ hx.out hS.out (by omega) (by omega) (fun h => absurd h (by omega))), below_drewN hB _⟩
          case measure => simp [intOf]; omega
        · have hk1 : 0 < k := by omega
          have hk2 : (0 : Int) < (k : Int) := by omega
          have ek : IntKind.i64.wrap ((k : Int) - 1) = (k : Int) - 1 := IntWalk.i64_in _ (by omega)
          obtain ⟨bd, y, e, hy, hd⟩ := (hI.below hB).at_ (show k - 1 < xs.length by omega)
          injection e with e
          subst e
          by_cases h3 : x ≤ y
          · go_wp2
            go_quiet ((go_at_call 42; exact Calls.quiet_of_same (Q _)))
            go_wp2
            go_ret
            exact ⟨ret_bool (setB_false.2 (not_setP_step hk1 hy.out hx.out h3)).symm, below_drewN hB _⟩
          · go_wp2
            go_quiet ((go_at_call 42; exact Calls.quiet_of_same (Q _)))
            go_wp2
            go_roundw
            case rel =>
              refine ⟨k + 1, by omega, by go_num, Lib.hid (setP_take_succ hx.out hS.out (by omega) (by omega) (fun _ z hz => ?_)), below_drewN hB _⟩
              have := hy.out
              rw [this] at hz
              injection hz with hz
              omega
            case measure => simp [intOf]; omega
    · go_wp2
      go_ret
      exact ⟨ret_bool (setB_true.2 (setP_all hlt hS.out)).symm, hB⟩

end Go.Proofs.Ytihkgdlanfemcaa

namespace Go.Proofs.Ytihkgdlanfemcaa
open Go.RowKit
set_option linter.unusedVariables false
set_option linter.unusedSimpArgs false

theorem cmpnan_any (x : Int) (w : World) : Calls Try.prog 106 #[.int .i64 x] w fun e w' => e = .returned (.bool false) ∧ w = w' := by
  go_enter Try.func106, Try.ntmps106
  go_wp2
  go_ret
  exact ⟨by simp, rfl⟩
theorem slnan_any (x : Int) (w : World) : Calls Try.prog 119 #[.int .i64 x] w fun e w' => e = .returned (.bool false) ∧ w = w' := by
  go_enter Try.func119, Try.ntmps119
  go_wp2
  go_ret
  exact ⟨by simp, rfl⟩
theorem less_any (x y : Int) (w : World) : Calls Try.prog 118 #[.int .i64 x, .int .i64 y] w fun e w' => e = .returned (.bool (decide (x < y))) ∧ w = w' := by
  by_cases h : x < y
  all_goals
    go_enter Try.func118, Try.ntmps118
    go_wp2_with fail
    refine (cmpnan_any _ _).mono ?_
    rintro e w' ⟨rfl, rfl⟩
    go_wp2
    go_ret
    exact ⟨ret_bool (by simp <;> omega), rfl⟩

theorem mem_bin {ys : List Int} (hs : ys.Pairwise (· < ·)) {k : Nat} {x : Int} (lo : ∀ j : Nat, ∀ y : Int, j < k → ys[j]? = some y → y < x) (hi : ∀ j : Nat, ∀ y : Int, k ≤ j → ys[j]? = some y → x ≤ y) :
    x ∈ ys ↔ ys[k]? = some x := by
  constructor
  · intro h
    obtain ⟨j, hj⟩ := List.mem_iff_getElem?.1 h
    rcases Nat.lt_trichotomy j k with e | e | e
    · have := lo j x e hj; omega
    · subst e; exact hj
    · have hl := get_lt hj
      obtain ⟨z, hz⟩ : ∃ z, ys[k]? = some z := ⟨_, List.getElem?_eq_getElem (by omega)⟩
      have h1 := hi k z (Nat.le_refl _) hz
      obtain ⟨hk1, rfl⟩ := List.getElem?_eq_some_iff.1 hz
      obtain ⟨hj1, rfl⟩ := List.getElem?_eq_some_iff.1 hj
      have := List.pairwise_iff_getElem.1 hs k j hk1 hj1 e
      omega
  · exact fun h => List.mem_of_getElem? h

/-- What BinarySearch returns: the number of smaller elements, and whether the element is there. -/
def BinPost (ys : List Int) (x : Int) (w : World) (e : Ending) (w' : World) : Prop :=
  ∃ k : Nat, e = .returned (.tuple #[.int .i64 k, .bool (decide (x ∈ ys))]) ∧ k ≤ ys.length ∧ (∀ j : Nat, ∀ y : Int, j < k → ys[j]? = some y → y < x) ∧ (∀ j : Nat, ∀ y : Int, k ≤ j → ys[j]? = some y → x ≤ y) ∧ Below w.heap.size w w'

set_option maxRecDepth 100000 in
set_option maxHeartbeats 1000000 in
theorem bin_any (B : Option Addr) (d : Nat) (ys : List Int) (x : Int) (w : World) (hJ : Ints w B ys) (hl : ys.length ≤ 1000000000000) (hs : ys.Pairwise (· < ·)) :
    Calls Try.prog 95 #[.slice B ys.length d, .int .i64 x] w (BinPost ys x w) := by
  go_enter Try.func95, Try.ntmps95
  go_wp2
  go_loop [7, 8] (fun a b => ∃ i j : Nat, i ≤ j ∧ j ≤ ys.length ∧ a = .int .i64 i ∧ b = .int .i64 j ∧ Hid (∀ k : Nat, ∀ y : Int, k < i → ys[k]? = some y → y < x) ∧ Hid (∀ k : Nat, ∀ y : Int, j ≤ k → ys[k]? = some y → x ≤ y)) (fun a b => (intOf b).toNat - (intOf a).toNat)
  case atStart => exact ⟨0, ys.length, by omega, by omega, rfl, rfl, Lib.hid (fun k y h => absurd h (by omega)), Lib.hid (fun k y h hy => absurd (get_lt hy) (by omega))⟩
  case round =>
    obtain ⟨i, j, hij, hj, rfl, rfl, H1, H2⟩ := hrel
    by_cases hlt : i < j
    · have m1 : i ≤ (i + j) / 2 := by omega
      have m2 : (i + j) / 2 < j := by omega
      obtain ⟨ad, y, rfl, hy, hc⟩ := hJ.at_ (show (i + j) / 2 < ys.length by omega)
      have HS := Lib.hid hs
      clear hs
      have key : y < x → ∀ k : Nat, ∀ z : Int, k < (i + j) / 2 + 1 → ys[k]? = some z → z < x := fun h k z hk hz => by
        by_cases e : k = (i + j) / 2
        · subst e; rw [hy.out] at hz; injection hz with hz; omega
        · obtain ⟨a1, rfl⟩ := List.getElem?_eq_some_iff.1 hz
          obtain ⟨a2, b2⟩ := List.getElem?_eq_some_iff.1 hy.out
          have := List.pairwise_iff_getElem.1 HS.out k ((i + j) / 2) a1 a2 (by omega)
          omega
      have key2 : ¬ y < x → ∀ k : Nat, ∀ z : Int, (i + j) / 2 ≤ k → ys[k]? = some z → x ≤ z := fun h k z hk hz => by
        by_cases e : k = (i + j) / 2
        · subst e; rw [hy.out] at hz; injection hz with hz; omega
        · obtain ⟨a1, rfl⟩ := List.getElem?_eq_some_iff.1 hz
          obtain ⟨a2, b2⟩ := List.getElem?_eq_some_iff.1 hy.out
          have := List.pairwise_iff_getElem.1 HS.out ((i + j) / 2) k a2 a1 (by omega)
          omega
      have K1 := Lib.hid key
      have K2 := Lib.hid key2
      clear key key2
      by_cases hc2 : y < x
      · skip
        go_wp2_with fail
        refine (less_any _ _ _).mono ?_
        rintro e w' ⟨he, rfl⟩
        rw [decide_eq_true (show y < x by omega)] at he
        subst he
        go_wp2
        go_round
        case rel => exact ⟨(i + j) / 2 + 1, j, by omega, hj, by go_num, rfl, Lib.hid (K1.out (by omega)), H2⟩
        case measure => simp [intOf]; omega
      · skip
        go_wp2_with fail
        refine (less_any _ _ _).mono ?_
        rintro e w' ⟨he, rfl⟩
        rw [decide_eq_false (show ¬ y < x by omega)] at he
        subst he
        go_wp2
        go_round
        case rel => exact ⟨i, (i + j) / 2, by omega, by omega, rfl, by go_num, H1, Lib.hid (K2.out (by omega))⟩
        case measure => simp [intOf]; omega
    · obtain rfl : i = j := by omega
      have hm := mem_bin hs H1.out H2.out
      have HM := Lib.hid hm
      clear hs hm
      by_cases hin : i < ys.length
      · obtain ⟨ad, y, rfl, hy, hc⟩ := hJ.at_ hin
        by_cases hyx : y = x
        · have HT := Lib.hid (HM.out.2 (by rw [hy.out, hyx]))
          subst hyx
          go_wp2
          go_ret2
          exact ⟨i, by rw [decide_eq_true HT.out]; rfl, hj, H1.out, H2.out, Below.refl _ _⟩
        · have HT : Hid (¬ x ∈ ys) := Lib.hid (fun h => hyx (by have h1 := HM.out.1 h; have h2 := hy.out; rw [h2] at h1; injection h1))
          have hb : (y == x) = false := by simpa using hyx
          go_wp2_with fail
          refine (slnan_any _ _).mono ?_
          rintro e w' ⟨rfl, rfl⟩
          go_wp2
          go_ret2
          exact ⟨i, by rw [decide_eq_false HT.out]; rfl, hj, H1.out, H2.out, Below.refl _ _⟩
      · have HT : Hid (¬ x ∈ ys) := Lib.hid (fun h => hin (get_lt (HM.out.1 h)))
        go_wp2
        go_ret2
        exact ⟨i, by rw [decide_eq_false HT.out]; rfl, hj, H1.out, H2.out, Below.refl _ _⟩

/-- F is a function with a body. -/
def Enters (F : FuncId) : Prop := ∀ (args : Array Value) (w : World), (callFunc F args).run Try.prog w = .ok (.enter F args) w
/-- A function value that answers, in every world that keeps the old memory, whether p holds of a number of the list. -/
def Tests (F : FuncId) (q : Value) (xs : List Int) (p : Int → Bool) (w : World) : Prop :=
  ∀ x ∈ xs, ∀ wr : World, Below w.heap.size w wr → Calls Try.prog F #[.int .i64 x, q] wr fun e w' => e = .returned (.bool (p x)) ∧ Below wr.heap.size wr w'
/-- The number of the first element of which p holds. -/
def SomeIdx (xs : List Int) (w : World) (e : Ending) (w' : World) : Prop := ∃ k : Nat, e = .returned (.int .i64 k) ∧ k < xs.length ∧ Below w.heap.size w w'

set_option maxHeartbeats 1000000 in
theorem indexfunc_yes (A : Option Addr) (c : Nat) (xs : List Int) (F : FuncId) (q : Value) (p : Int → Bool) (w : World) (hI : Ints w A xs) (hl : xs.length ≤ 9223372036854775807) (hE : Enters F) (hf : Tests F q xs p w) (hp : ∃ x ∈ xs, p x = true) :
    Calls Try.prog 103 #[.slice A xs.length c, .func (.func F) #[] #[q]] w (SomeIdx xs w) := by
  have HP := Lib.hid hp
  have hE' : ∀ (args : Array Value) (w : World), (callFunc F args).run Try.prog w = .ok (.enter F args) w := hE
  clear hp hE
  go_enter Try.func103, Try.ntmps103
  go_wp2
  go_loopw [8] (fun i wr => ∃ k : Nat, k ≤ xs.length ∧ i = .int .i64 k ∧ Hid (∀ x ∈ xs.take k, p x = false) ∧ Below w.heap.size w wr) (fun i _ => xs.length - (intOf i).toNat)
  case atStart => exact ⟨0, Nat.zero_le _, rfl, Lib.hid (by simp), Below.refl _ _⟩
  case round =>
    obtain ⟨k, hk, rfl, hno, hB⟩ := hrel
    by_cases hlt : k < xs.length
    · obtain ⟨ad, x, rfl, hx, hc⟩ := (hI.below hB).at_ hlt
      have hm : x ∈ xs := List.mem_of_getElem? hx.out
      have HM := Lib.hid hm
      clear hm
      by_cases hpx : p x = true
      · go_wp2_with fail
        refine (hf x HM.out _ hB).mono ?_
        rintro e w1 ⟨rfl, hB1⟩
        go_wp2
        go_ret
        exact ⟨k, rfl, hlt, hB.trans (hB1.mono hB.size)⟩
      · have hpx' : p x = false := by simpa using hpx
        have HX := Lib.hid hpx'
        go_wp2_with fail
        refine (hf x HM.out _ hB).mono ?_
        rintro e w1 ⟨he, hB1⟩
        rw [HX.out] at he
        subst he
        have D1 := hB.trans (hB1.mono hB.size)
        go_wp2
        go_roundw
        case rel => exact ⟨k + 1, by omega, by go_num, Lib.hid (forall_take_succ hx.out hno.out HX.out), D1⟩
        case measure => simp [intOf]; omega
    · exfalso
      obtain ⟨x, hx, hpx⟩ := HP.out
      have := forall_take_all hlt hno.out x hx
      rw [hpx] at this
      cases this

set_option maxHeartbeats 1000000 in
theorem indexfunc_no (A : Option Addr) (c : Nat) (xs : List Int) (F : FuncId) (q : Value) (p : Int → Bool) (w : World) (hI : Ints w A xs) (hl : xs.length ≤ 9223372036854775807) (hE : Enters F) (hf : Tests F q xs p w) (hp : ∀ x ∈ xs, p x = false) :
    Calls Try.prog 103 #[.slice A xs.length c, .func (.func F) #[] #[q]] w fun e w' => e = .returned (.int .i64 (-1)) ∧ Below w.heap.size w w' := by
  have HP := Lib.hid hp
  have hE' : ∀ (args : Array Value) (w : World), (callFunc F args).run Try.prog w = .ok (.enter F args) w := hE
  clear hp hE
  go_enter Try.func103, Try.ntmps103
  go_wp2
  go_loopw [8] (fun i wr => ∃ k : Nat, k ≤ xs.length ∧ i = .int .i64 k ∧ Below w.heap.size w wr) (fun i _ => xs.length - (intOf i).toNat)
  case atStart => exact ⟨0, Nat.zero_le _, rfl, Below.refl _ _⟩
  case round =>
    obtain ⟨k, hk, rfl, hB⟩ := hrel
    by_cases hlt : k < xs.length
    · obtain ⟨ad, x, rfl, hx, hc⟩ := (hI.below hB).at_ hlt
      have hm : x ∈ xs := List.mem_of_getElem? hx.out
      have HM := Lib.hid hm
      clear hm
      go_wp2_with fail
      refine (hf x HM.out _ hB).mono ?_
      rintro e w1 ⟨he, hB1⟩
      rw [HP.out x HM.out] at he
      subst he
      have D1 := hB.trans (hB1.mono hB.size)
      go_wp2
      go_roundw
      case rel => exact ⟨k + 1, by omega, by go_num, D1⟩
      case measure => simp [intOf]; omega
    · go_wp2
      go_ret
      exact ⟨rfl, hB⟩

set_option maxHeartbeats 1000000 in
theorem containsfunc_any (A : Option Addr) (c : Nat) (xs : List Int) (F : FuncId) (q : Value) (p : Int → Bool) (w : World) (hI : Ints w A xs) (hl : xs.length ≤ 9223372036854775807) (hE : Enters F) (hf : Tests F q xs p w) :
    Calls Try.prog 70 #[.slice A xs.length c, .func (.func F) #[] #[q]] w fun e w' => e = .returned (.bool (decide (∃ x ∈ xs, p x = true))) ∧ Below w.heap.size w w' := by
  by_cases hp : ∃ x ∈ xs, p x = true
  · rw [decide_eq_true hp]
    have HP := Lib.hid hp
    clear hp
    go_enter Try.func70, Try.ntmps70
    go_wp2_with fail
    refine (indexfunc_yes A c xs F q p _ hI hl hE hf HP.out).mono ?_
    rintro e w' ⟨k, rfl, hk, hB⟩
    go_wp2
    go_ret
    exact ⟨ret_bool (by simp), hB⟩
  · rw [decide_eq_false hp]
    have HP : Hid (∀ x ∈ xs, p x = false) := Lib.hid (fun x hx => by
      cases h : p x with
      | false => rfl
      | true => exact absurd ⟨x, hx, h⟩ hp)
    clear hp
    go_enter Try.func70, Try.ntmps70
    go_wp2_with fail
    refine (indexfunc_no A c xs F q p _ hI hl hE hf HP.out).mono ?_
    rintro e w' ⟨rfl, hB⟩
    go_wp2
    go_ret
    exact ⟨rfl, hB⟩

end Go.Proofs.Ytihkgdlanfemcaa

namespace Go.Proofs.Ytihkgdlanfemcaa
open Go.RowKit
set_option linter.unusedVariables false
set_option linter.unusedSimpArgs false

theorem meets1_enters : Enters 152 := fun args w => by kernel_rfl
set_option maxHeartbeats 400000 in
theorem meets1_any (b : Nat) (B : Option Addr) (d : Nat) (ys : List Int) (x : Int) (w : World) (hb : w.cell? ⟨b, 0, none⟩ = some (.slice B ys.length d)) (hJ : Ints w B ys) (hl : ys.length ≤ 1000000000000) (hs : ys.Pairwise (· < ·)) :
    Calls Try.prog 152 #[.int .i64 x, .pointer (some ⟨b, 0, none⟩)] w fun e w' => e = .returned (.bool (decide (x ∈ ys))) ∧ Below w.heap.size w w' := by
  have HS := Lib.hid hs
  clear hs
  go_enter Try.func152, Try.ntmps152
  go_wp2_with fail
  refine (bin_any _ _ _ _ _ hJ hl HS.out).mono ?_
  rintro e w1 ⟨k, rfl, _, _, _, hB⟩
  go_wp2
  go_ret
  exact ⟨rfl, hB⟩

set_option maxHeartbeats 400000 in
theorem meets_any (A B : Option Addr) (c d : Nat) (xs ys : List Int) (w : World) (hI : Ints w A xs) (hJ : Ints w B ys) (hl : xs.length ≤ 9223372036854775807) (hm : ys.length ≤ 1000000000000) (hs : ys.Pairwise (· < ·)) :
    Calls Try.prog 125 #[.slice A xs.length c, .slice B ys.length d] w fun e w' => e = .returned (.bool (decide (∃ x ∈ xs, x ∈ ys))) ∧ Below w.heap.size w w' := by
  have HS := Lib.hid hs
  clear hs
  have D0 : Below w.heap.size w (w.alloc (.cells #[.slice B ys.length d] 22)) := (Below.refl _ _).alloc (Nat.le_refl _) _
  have hc : (w.alloc (.cells #[.slice B ys.length d] 22)).cell? ⟨w.heap.size, 0, none⟩ = some (.slice B ys.length d) := by simp [go_sem]
  have hT : Tests 152 (.pointer (some ⟨w.heap.size, 0, none⟩)) xs (fun x => decide (x ∈ ys)) (w.alloc (.cells #[.slice B ys.length d] 22)) := by
    intro x _ wr hB
    have hc' : wr.cell? ⟨w.heap.size, 0, none⟩ = some (.slice B ys.length d) := (hB.cell (World.block_lt_of_cell? _ _ hc)).trans hc
    exact meets1_any w.heap.size B d ys x wr hc' ((hJ.below D0).below hB) hm HS.out
  go_enter Try.func125, Try.ntmps125
  go_wp2_with fail
  refine (containsfunc_any A c xs _ _ (fun x => decide (x ∈ ys)) _ (hI.below D0) hl meets1_enters hT).mono ?_
  rintro e w1 ⟨rfl, hB⟩
  go_wp2
  go_ret
  exact ⟨ret_bool (by simp), dstep w hB D0⟩

set_option maxHeartbeats 400000 in
theorem index_yes (A : Option Addr) (c : Nat) (xs : List Int) (n : Int) (w : World) (hI : Ints w A xs) (hl : xs.length ≤ 9223372036854775807) (h : n ∈ xs) :
    Calls Try.prog 140 #[.slice A xs.length c, .int .i64 n] w (SomeIdx xs w) := by
  have HP := Lib.hid h
  clear h
  go_enter Try.func140, Try.ntmps140
  go_wp2
  go_loop [8] (fun i => ∃ k : Nat, k ≤ xs.length ∧ i = .int .i64 k ∧ Hid (n ∉ xs.take k)) (fun i => xs.length - (intOf i).toNat)
  case atStart => exact ⟨0, Nat.zero_le _, rfl, Lib.hid (by simp)⟩
  case round =>
    obtain ⟨k, hk, rfl, hno⟩ := hrel
    by_cases hlt : k < xs.length
    · obtain ⟨ad, x, rfl, hx, hc⟩ := hI.at_ hlt
      by_cases hxn : n = x
      · subst hxn
        go_wp2
        go_ret
        exact ⟨k, rfl, hlt, Below.refl _ _⟩
      · have hb : (n == x) = false := by simpa using hxn
        go_wp2
        go_round
        case rel => exact ⟨k + 1, by omega, by go_num, Lib.hid (mem_take_succ hx.out hno.out (fun e => hxn e.symm))⟩
        case measure => simp [intOf]; omega
    · exact absurd HP.out (by have := hno.out; rw [List.take_of_length_le (by omega)] at this; exact this)
set_option maxHeartbeats 400000 in
theorem index_no (A : Option Addr) (c : Nat) (xs : List Int) (n : Int) (w : World) (hI : Ints w A xs) (hl : xs.length ≤ 9223372036854775807) (h : ¬ n ∈ xs) :
    Calls Try.prog 140 #[.slice A xs.length c, .int .i64 n] w fun e w' => e = .returned (.int .i64 (-1)) ∧ w = w' := by
  have HP := Lib.hid h
  clear h
  go_enter Try.func140, Try.ntmps140
  go_wp2
  go_loop [8] (fun i => ∃ k : Nat, k ≤ xs.length ∧ i = .int .i64 k) (fun i => xs.length - (intOf i).toNat)
  case atStart => exact ⟨0, Nat.zero_le _, rfl⟩
  case round =>
    obtain ⟨k, hk, rfl⟩ := hrel
    by_cases hlt : k < xs.length
    · obtain ⟨ad, x, rfl, hx, hc⟩ := hI.at_ hlt
      have hb : (n == x) = false := by
        have : ¬ n = x := fun e => HP.out (by rw [e]; exact List.mem_of_getElem? hx.out)
        simpa using this
      go_wp2
      go_round
      case rel => exact ⟨k + 1, by omega, by go_num⟩
      case measure => simp [intOf]; omega
    · go_wp2
      go_ret
      exact ⟨rfl, rfl⟩
set_option maxHeartbeats 400000 in
theorem contains_any (A : Option Addr) (c : Nat) (xs : List Int) (n : Int) (w : World) (hI : Ints w A xs) (hl : xs.length ≤ 9223372036854775807) :
    Calls Try.prog 114 #[.slice A xs.length c, .int .i64 n] w fun e w' => e = .returned (.bool (decide (n ∈ xs))) ∧ Below w.heap.size w w' := by
  by_cases hp : n ∈ xs
  · rw [decide_eq_true hp]
    have HP := Lib.hid hp
    clear hp
    go_enter Try.func114, Try.ntmps114
    go_wp2_with fail
    refine (index_yes A c xs n _ hI hl HP.out).mono ?_
    rintro e w' ⟨k, rfl, hk, hB⟩
    go_wp2
    go_ret
    exact ⟨ret_bool (by simp), hB⟩
  · rw [decide_eq_false hp]
    have HP := Lib.hid hp
    clear hp
    go_enter Try.func114, Try.ntmps114
    go_wp2_with fail
    refine (index_no A c xs n _ hI hl HP.out).mono ?_
    rintro e w' ⟨rfl, rfl⟩
    go_wp2
    go_ret
    exact ⟨rfl, Below.refl _ _⟩

/-- The facts of a list are all in a set that is given by bools. -/
def AllIn (bs : List Bool) (xs : List Int) : Prop := ∀ x ∈ xs, bs[x.toNat]? = some true
set_option maxHeartbeats 400000 in
theorem all_any (A B : Option Addr) (c d : Nat) (bs : List Bool) (xs : List Int) (w : World) (hI : Bools w A bs) (hJ : Ints w B xs) (hl : xs.length ≤ 9223372036854775807) (hb : bs.length ≤ 9223372036854775807) (hx : ∀ x ∈ xs, 0 ≤ x ∧ x < bs.length) (v : Bool) (hv : v = true ↔ AllIn bs xs) :
    Calls Try.prog 107 #[.slice A bs.length c, .slice B xs.length d] w fun e w' => e = .returned (.bool v) ∧ Below w.heap.size w w' := by
  have HX := Lib.hid hx
  have HV := Lib.hid hv
  clear hx hv
  go_enter Try.func107, Try.ntmps107
  go_wp2
  go_loop [9] (fun i => ∃ k : Nat, k ≤ xs.length ∧ i = .int .i64 k ∧ Hid (∀ x ∈ xs.take k, bs[x.toNat]? = some true)) (fun i => xs.length - (intOf i).toNat)
  case atStart => exact ⟨0, Nat.zero_le _, rfl, Lib.hid (by simp)⟩
  case round =>
    obtain ⟨k, hk, rfl, hno⟩ := hrel
    by_cases hlt : k < xs.length
    · obtain ⟨ad, x, rfl, hx, hc⟩ := hJ.at_ hlt
      obtain ⟨x0, x1⟩ := HX.out x (List.mem_of_getElem? hx.out)
      obtain ⟨bd, v1, rfl, hy, hd⟩ := hI.at_ (show x.toNat < bs.length by omega)
      cases v1 with
      | true =>
        go_wp2
        go_round
        case rel => exact ⟨k + 1, by omega, by go_num, Lib.hid (forall_take_succ (P := fun x : Int => bs[x.toNat]? = some true) hx.out hno.out hy.out)⟩
        case measure => simp [intOf]; omega
      | false =>
        go_wp2
        go_ret
        refine ⟨ret_bool ?_, Below.refl _ _⟩
        cases v with
        | false => rfl
        | true =>
          have h1 := HV.out.1 rfl x (List.mem_of_getElem? hx.out)
          have h2 := hy.out
          rw [h1] at h2
          cases h2
    · go_wp2
      go_ret
      exact ⟨ret_bool (HV.out.2 (forall_take_all hlt hno.out)).symm, Below.refl _ _⟩

end Go.Proofs.Ytihkgdlanfemcaa

namespace Go.Proofs.Ytihkgdlanfemcaa
open Go.RowKit
set_option linter.unusedVariables false
set_option linter.unusedSimpArgs false

theorem cell_new_at (w : World) (v : Value) (e : TypeId) (b : Nat) (hb : b = w.heap.size) : (w.alloc (.cells #[v] e)).cell? ⟨b, 0, none⟩ = some v := by
  subst hb; simp
def SomeIdxP (xs : List Int) (w : World) (e : Ending) (w' : World) : Prop := ∃ k : Nat, e = .returned (.int .i64 k) ∧ k < xs.length ∧ w' = w
set_option maxHeartbeats 400000 in
theorem index_yesp (A : Option Addr) (c : Nat) (xs : List Int) (n : Int) (w : World) (hI : Ints w A xs) (hl : xs.length ≤ 9223372036854775807) (h : n ∈ xs) :
    Calls Try.prog 140 #[.slice A xs.length c, .int .i64 n] w (SomeIdxP xs w) := by
  have HP := Lib.hid h
  clear h
  go_enter Try.func140, Try.ntmps140
  go_wp2
  go_loop [8] (fun i => ∃ k : Nat, k ≤ xs.length ∧ i = .int .i64 k ∧ Hid (n ∉ xs.take k)) (fun i => xs.length - (intOf i).toNat)
  case atStart => exact ⟨0, Nat.zero_le _, rfl, Lib.hid (by simp)⟩
  case round =>
    obtain ⟨k, hk, rfl, hno⟩ := hrel
    by_cases hlt : k < xs.length
    · obtain ⟨ad, x, rfl, hx, hc⟩ := hI.at_ hlt
      by_cases hxn : n = x
      · subst hxn
        go_wp2
        go_ret
        exact ⟨k, rfl, hlt, rfl⟩
      · have hb : (n == x) = false := by simpa using hxn
        go_wp2
        go_round
        case rel => exact ⟨k + 1, by omega, by go_num, Lib.hid (mem_take_succ hx.out hno.out (fun e => hxn e.symm))⟩
        case measure => simp [intOf]; omega
    · exact absurd HP.out (by have := hno.out; rw [List.take_of_length_le (by omega)] at this; exact this)
set_option maxHeartbeats 400000 in
theorem contains_p (A : Option Addr) (c : Nat) (xs : List Int) (n : Int) (w : World) (hI : Ints w A xs) (hl : xs.length ≤ 9223372036854775807) :
    Calls Try.prog 114 #[.slice A xs.length c, .int .i64 n] w fun e w' => e = .returned (.bool (decide (n ∈ xs))) ∧ w' = w := by
  by_cases hp : n ∈ xs
  · rw [decide_eq_true hp]
    have HP := Lib.hid hp
    clear hp
    go_enter Try.func114, Try.ntmps114
    go_wp2_with fail
    refine (index_yesp A c xs n _ hI hl HP.out).mono ?_
    rintro e w' ⟨k, rfl, hk, hW⟩
    subst hW
    go_wp2
    go_ret
    exact ⟨ret_bool (by simp), rfl⟩
  · rw [decide_eq_false hp]
    have HP := Lib.hid hp
    clear hp
    go_enter Try.func114, Try.ntmps114
    go_wp2_with fail
    refine (index_no A c xs n _ hI hl HP.out).mono ?_
    rintro e w' ⟨rfl, rfl⟩
    go_wp2
    go_ret
    exact ⟨rfl, rfl⟩
/-- .. with the outcome known. -/
theorem contains_v (A : Option Addr) (c : Nat) (xs : List Int) (n : Int) (w : World) (v : Bool) (hI : Ints w A xs) (hl : xs.length ≤ 9223372036854775807) (hv : decide (n ∈ xs) = v) :
    Calls Try.prog 114 #[.slice A xs.length c, .int .i64 n] w fun e w' => e = .returned (.bool v) ∧ w' = w := by
  subst hv; exact contains_p A c xs n w hI hl

/-- A later world that has drawn alone. -/
def Drawn (w w' : World) : Prop := ∃ m, w' = w.drewN m
theorem Drawn.refl (w : World) : Drawn w w := ⟨0, rfl⟩
theorem Drawn.drewN {w w' : World} (h : Drawn w w') (k : Nat) : Drawn w (w'.drewN k) := by
  obtain ⟨m, rfl⟩ := h
  exact ⟨m + k, by rw [World.drewN_drewN]⟩
theorem Drawn.below {w w' : World} (h : Drawn w w') : Below w.heap.size w w' := by
  obtain ⟨m, rfl⟩ := h
  exact below_drewN (Below.refl _ _) m
set_option maxHeartbeats 1000000 in
theorem risset_q (A : Option Addr) (c : Nat) (xs : List Int) (n : Int) (w : World) (hI : Ints w A xs) (hl : xs.length ≤ 9223372036854775807) (hn : -9223372036854775808 < n) (hn2 : n ≤ 9223372036854775807) :
    Calls Try.prog 52 #[.slice A xs.length c, .int .i64 n] w fun e w' => e = .returned (.bool (setB xs n)) ∧ ∃ m, w' = w.drewN m := by
  have ew : IntKind.i64.wrap (n - 1) = n - 1 := IntWalk.i64_in _ (by omega)
  go_enter Try.func52, Try.ntmps52
  go_wp2
  go_loopw [5] (fun i wr => ∃ k : Nat, k ≤ xs.length ∧ i = .int .i64 k ∧ Hid (SetP (xs.take k) n) ∧ Drawn w wr) (fun i _ => xs.length - (intOf i).toNat)
  case atStart => exact ⟨0, Nat.zero_le _, rfl, Lib.hid (by simpa using SetP.nil n), Drawn.refl _⟩
  case round =>
    obtain ⟨k, hk, rfl, hS, hB⟩ := hrel
    by_cases hlt : k < xs.length
    · obtain ⟨ad, x, rfl, hx, hc⟩ := (hI.below hB.below).at_ hlt
      by_cases h1 : x < 0 ∨ n ≤ x
      · have Q := fun w0 : World => (in_no x 0 (n - 1) w0 (by omega)).mono fun _ _ h => And.intro h.1 h.2.symm
        have H1 := Lib.hid h1
        clear h1
        go_wp2
        go_quiet ((go_at_call 42; exact Calls.quiet_of_same (Q _)))
        go_wp2
        go_ret
        exact ⟨ret_bool (setB_false.2 (not_setP_lo hx.out H1.out)).symm, hB.drewN _⟩
      · obtain ⟨h1a, h1b⟩ : 0 ≤ x ∧ x ≤ n - 1 := by omega
        clear h1
        have Q := fun w0 : World => (in_yes x 0 (n - 1) w0 h1a h1b).mono fun _ _ h => And.intro h.1 h.2.symm
        by_cases hk0 : k = 0
        · subst hk0
          rw [add_zero] at hc
          go_wp2
          go_quiet ((go_at_call 42; exact Calls.quiet_of_same (Q _)))
          go_wp2
          go_roundw
          case rel => exact ⟨1, by omega, rfl, Lib.hid (setP_take_succ hx.out hS.out (by omega) (by omega) (fun h => absurd h (by omega))), hB.drewN _⟩
          case measure => simp [intOf]; omega
        · have hk1 : 0 < k := by omega
          have hk2 : (0 : Int) < (k : Int) := by omega
          have ek : IntKind.i64.wrap ((k : Int) - 1) = (k : Int) - 1 := IntWalk.i64_in _ (by omega)
          obtain ⟨bd, y, e, hy, hd⟩ := (hI.below hB.below).at_ (show k - 1 < xs.length by omega)
          injection e with e
          subst e
          by_cases h3 : x ≤ y
          · go_wp2
            go_quiet ((go_at_call 42; exact Calls.quiet_of_same (Q _)))
            go_wp2
            go_ret
            exact ⟨ret_bool (setB_false.2 (not_setP_step hk1 hy.out hx.out h3)).symm, hB.drewN _⟩
          · go_wp2
            go_quiet ((go_at_call 42; exact Calls.quiet_of_same (Q _)))
            go_wp2
            go_roundw
            case rel =>
              refine ⟨k + 1, by omega, by go_num, Lib.hid (setP_take_succ hx.out hS.out (by omega) (by omega) (fun _ z hz => ?_)), hB.drewN _⟩
              have := hy.out
              rw [this] at hz
              injection hz with hz
              omega
            case measure => simp [intOf]; omega
    · go_wp2
      go_ret
      exact ⟨ret_bool (setB_true.2 (setP_all hlt hS.out)).symm, hB⟩

end Go.Proofs.Ytihkgdlanfemcaa
