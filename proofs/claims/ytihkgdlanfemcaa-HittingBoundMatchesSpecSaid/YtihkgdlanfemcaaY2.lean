/-
  Lists of integers that stand for sets: plain facts, no program in sight.
  Functions on lists of integers: Has, Ints, Subset, Disjoint, In, At, both IsSet, slices.Index and Contains: what they return.
  Both IsSet: whether a list is strictly increasing within bounds.
  slices.BinarySearch in a strictly increasing list; slices.Index, Contains, IndexFunc, ContainsFunc; strips.Meets.
  strips.Meets; slices.Index and Contains; relaxed.All: what they return.
  slices.Contains leaves the world as it is.
  The fault of sets and costs: plain.
  (choice).less: the order of choices.
  Values of facts without deletions: plain words, no program in sight.
  The greatest values of facts that no operator can lower: a plain law: they are one, and both programs come to them.
  What can be reached without deletions: a plain law.
  A set with a number added; what is reached, as a list: plain laws.
  Plain laws of the values: greatest values are at most the sums; both are infinite for the same facts.
  The states of a plan: a plain law.
  R.Word: what it returns.
-/
import Derived.Test.YtihkgdlanfemcaaY1
import Init
namespace Go.Proofs.Ytihkgdlanfemcaa

theorem mem_take_succ {xs : List Int} {n x : Int} {k : Nat} (hx : xs[k]? = some x) (h : n ∉ xs.take k) (hn : ¬ x = n) : n ∉ xs.take (k + 1) := by
  rw [List.take_add_one, hx]
  simp
  exact ⟨h, fun e => hn e.symm⟩
theorem forall_take_succ {α : Type} {P : α → Prop} {xs : List α} {x : α} {k : Nat} (hx : xs[k]? = some x) (h : ∀ y ∈ xs.take k, P y) (hn : P x) : ∀ y ∈ xs.take (k + 1), P y := by
  intro y hy
  rw [List.take_add_one, hx] at hy
  simp at hy
  rcases hy with hy | rfl
  · exact h y hy
  · exact hn
theorem forall_take_all {α : Type} {P : α → Prop} {xs : List α} {k : Nat} (hk : ¬ k < xs.length) (h : ∀ y ∈ xs.take k, P y) : ∀ y ∈ xs, P y := by
  rw [List.take_of_length_le (by omega)] at h; exact h
theorem get_lt {α : Type} {xs : List α} {x : α} {k : Nat} (hx : xs[k]? = some x) : k < xs.length := (List.getElem?_eq_some_iff.1 hx).1

/-- A strictly increasing list of numbers from 0 to n - 1. -/
def SetP (l : List Int) (n : Int) : Prop := (∀ x ∈ l, 0 ≤ x ∧ x < n) ∧ ∀ i : Nat, ∀ x y : Int, l[i]? = some x → l[i + 1]? = some y → x < y
noncomputable def setB (l : List Int) (n : Int) : Bool := @decide (SetP l n) (Classical.propDecidable _)
theorem setB_true {l : List Int} {n : Int} : setB l n = true ↔ SetP l n := by unfold setB; exact @decide_eq_true_iff _ (Classical.propDecidable _)
theorem setB_false {l : List Int} {n : Int} : setB l n = false ↔ ¬ SetP l n := by unfold setB; exact @decide_eq_false_iff_not _ (Classical.propDecidable _)

theorem SetP.lt {l : List Int} {n : Int} (h : SetP l n) : ∀ (d i : Nat) (x y : Int), l[i]? = some x → l[i + 1 + d]? = some y → x < y := by
  intro d
  induction d with
  | zero => intro i x y hx hy; exact h.2 i x y hx hy
  | succ d ih =>
    intro i x y hx hy
    have hl := get_lt hy
    obtain ⟨z, hz⟩ : ∃ z, l[i + 1 + d]? = some z := ⟨_, List.getElem?_eq_getElem (by omega)⟩
    exact Int.lt_trans (ih i x z hx hz) (h.2 _ z y hz hy)
theorem SetP.mono {l : List Int} {n : Int} (h : SetP l n) {i j : Nat} {x y : Int} (hij : i < j) (hx : l[i]? = some x) (hy : l[j]? = some y) : x < y :=
  h.lt (j - i - 1) i x y hx (by rw [show i + 1 + (j - i - 1) = j by omega]; exact hy)
theorem SetP.inj {l : List Int} {n : Int} (h : SetP l n) {i j : Nat} {x : Int} (hx : l[i]? = some x) (hy : l[j]? = some x) : i = j := by
  rcases Nat.lt_trichotomy i j with e | e | e
  · exact absurd (h.mono e hx hy) (by omega)
  · exact e
  · exact absurd (h.mono e hy hx) (by omega)
theorem SetP.nil (n : Int) : SetP [] n := ⟨by simp, by simp⟩
theorem SetP.ge {l : List Int} {n : Int} (h : SetP l n) : ∀ (i : Nat) (x : Int), l[i]? = some x → (i : Int) ≤ x := by
  intro i
  induction i with
  | zero => intro x hx; exact (h.1 x (List.mem_of_getElem? hx)).1
  | succ i ih =>
    intro x hx
    have hl := get_lt hx
    obtain ⟨z, hz⟩ : ∃ z, l[i]? = some z := ⟨_, List.getElem?_eq_getElem (by omega)⟩
    have := ih z hz
    have := h.2 i z x hz hx
    omega
/-- A set of numbers below n has at most n elements. -/
theorem SetP.length {l : List Int} {n : Int} (h : SetP l n) (hn : 0 ≤ n) : (l.length : Int) ≤ n := by
  rcases Nat.eq_zero_or_pos l.length with e | e
  · omega
  · obtain ⟨z, hz⟩ : ∃ z, l[l.length - 1]? = some z := ⟨_, List.getElem?_eq_getElem (by omega)⟩
    have h1 := h.ge _ _ hz
    have h2 := (h.1 z (List.mem_of_getElem? hz)).2
    omega
/-- Two sets with the same elements are one list. -/
theorem SetP.ext {a b : List Int} {n m : Int} (ha : SetP a n) (hb : SetP b m) (h : ∀ x, x ∈ a ↔ x ∈ b) : a = b := by
  have pa : a.Pairwise (· < ·) := by
    rw [List.pairwise_iff_getElem]
    intro i j hi hj hij
    exact ha.mono hij (List.getElem?_eq_getElem hi) (List.getElem?_eq_getElem hj)
  have pb : b.Pairwise (· < ·) := by
    rw [List.pairwise_iff_getElem]
    intro i j hi hj hij
    exact hb.mono hij (List.getElem?_eq_getElem hi) (List.getElem?_eq_getElem hj)
  have na : a.Nodup := pa.imp (fun h => Int.ne_of_lt h)
  have nb : b.Nodup := pb.imp (fun h => Int.ne_of_lt h)
  have hp : a.Perm b := (List.perm_ext_iff_of_nodup na nb).2 h
  exact hp.eq_of_pairwise (fun x y _ _ h1 h2 => by omega) pa pb
theorem SetP.pairwise {a : List Int} {n : Int} (ha : SetP a n) : a.Pairwise (· < ·) := by
  rw [List.pairwise_iff_getElem]
  intro i j hi hj hij
  exact ha.mono hij (List.getElem?_eq_getElem hi) (List.getElem?_eq_getElem hj)
theorem SetP.of_pairwise {a : List Int} {n : Int} (h1 : ∀ x ∈ a, 0 ≤ x ∧ x < n) (h2 : a.Pairwise (· < ·)) : SetP a n := by
  refine ⟨h1, fun i x y hx hy => ?_⟩
  obtain ⟨hi, rfl⟩ := List.getElem?_eq_some_iff.1 hx
  obtain ⟨hj, rfl⟩ := List.getElem?_eq_some_iff.1 hy
  exact List.pairwise_iff_getElem.1 h2 i (i + 1) hi hj (by omega)

theorem setP_take_succ {xs : List Int} {n x : Int} {k : Nat} (hx : xs[k]? = some x) (h : SetP (xs.take k) n) (h0 : 0 ≤ x) (hn : x < n) (hp : 0 < k → ∀ y, xs[k - 1]? = some y → y < x) : SetP (xs.take (k + 1)) n := by
  refine ⟨forall_take_succ hx h.1 ⟨h0, hn⟩, fun i a b ha hb => ?_⟩
  have hl := get_lt hb
  rw [List.length_take] at hl
  rw [List.getElem?_take_of_lt (by omega)] at ha hb
  by_cases e : i + 1 = k
  · subst e
    rw [hx] at hb
    injection hb with hb
    subst hb
    exact hp (by omega) a (by simpa using ha)
  · exact h.2 i a b (by rw [List.getElem?_take_of_lt (by omega)]; exact ha) (by rw [List.getElem?_take_of_lt (by omega)]; exact hb)
theorem not_setP_lo {xs : List Int} {n x : Int} {k : Nat} (hx : xs[k]? = some x) (h : x < 0 ∨ n ≤ x) : ¬ SetP xs n := fun hs => by
  have := hs.1 x (List.mem_of_getElem? hx)
  omega
theorem not_setP_step {xs : List Int} {n x y : Int} {k : Nat} (hk : 0 < k) (hy : xs[k - 1]? = some y) (hx : xs[k]? = some x) (h : x ≤ y) : ¬ SetP xs n := fun hs => by
  have := hs.2 (k - 1) y x hy (by rw [show k - 1 + 1 = k by omega]; exact hx)
  omega
theorem setP_all {xs : List Int} {n : Int} {k : Nat} (hk : ¬ k < xs.length) (h : SetP (xs.take k) n) : SetP xs n := by
  rw [List.take_of_length_le (by omega)] at h; exact h

end Go.Proofs.Ytihkgdlanfemcaa

namespace Go.Proofs.Ytihkgdlanfemcaa
open Go.RowKit
set_option linter.unusedVariables false
set_option linter.unusedSimpArgs false

set_option maxHeartbeats 400000 in
theorem has_any (A : Option Addr) (c : Nat) (xs : List Int) (n : Int) (w : World) (hI : Ints w A xs) (hl : xs.length ≤ 9223372036854775807) :
    Calls Try.prog 40 #[.slice A xs.length c, .int .i64 n] w fun e w' => e = .returned (.bool (decide (n ∈ xs))) ∧ w = w' := by
  go_enter Try.func40, Try.ntmps40
  go_wp2
  go_loop [5] (fun i => ∃ k : Nat, k ≤ xs.length ∧ i = .int .i64 k ∧ n ∉ xs.take k) (fun i => xs.length - (intOf i).toNat)
  case atStart => exact ⟨0, Nat.zero_le _, rfl, by simp⟩
  case round =>
    obtain ⟨k, hk, rfl, hno⟩ := hrel
    have HN := Lib.hid hno
    clear hno
    by_cases hlt : k < xs.length
    · obtain ⟨ad, x, rfl, hx, hc⟩ := hI.at_ hlt
      by_cases hxn : x = n
      · subst hxn
        go_wp2
        go_ret
        exact ⟨ret_bool (by simp; exact List.mem_of_getElem? hx.out), rfl⟩
      · have hb : (x == n) = false := by simpa using hxn
        go_wp2
        go_round
        case rel => exact ⟨k + 1, by omega, by go_num, mem_take_succ hx.out HN.out hxn⟩
        case measure => simp [intOf]; omega
    · go_wp2
      go_ret
      exact ⟨ret_bool (by have := HN.out; rw [List.take_of_length_le (by omega)] at this; simpa using this), rfl⟩
theorem has_yes (A : Option Addr) (c : Nat) (xs : List Int) (n : Int) (w : World) (hI : Ints w A xs) (hl : xs.length ≤ 9223372036854775807) (h : n ∈ xs) :
    Calls Try.prog 40 #[.slice A xs.length c, .int .i64 n] w fun e w' => e = .returned (.bool true) ∧ w = w' :=
  (has_any A c xs n w hI hl).mono fun e w' hh => ⟨by rw [hh.1, decide_eq_true h], hh.2⟩
theorem has_no (A : Option Addr) (c : Nat) (xs : List Int) (n : Int) (w : World) (hI : Ints w A xs) (hl : xs.length ≤ 9223372036854775807) (h : ¬ n ∈ xs) :
    Calls Try.prog 40 #[.slice A xs.length c, .int .i64 n] w fun e w' => e = .returned (.bool false) ∧ w = w' :=
  (has_any A c xs n w hI hl).mono fun e w' hh => ⟨by rw [hh.1, decide_eq_false h], hh.2⟩

set_option maxHeartbeats 400000 in
theorem disjoint_any (A B : Option Addr) (c d : Nat) (xs ys : List Int) (w : World) (hI : Ints w A xs) (hJ : Ints w B ys) (hl : xs.length ≤ 9223372036854775807) (hm : ys.length ≤ 9223372036854775807) :
    Calls Try.prog 55 #[.slice A xs.length c, .slice B ys.length d] w fun e w' => e = .returned (.bool (decide (∀ x ∈ xs, ¬ x ∈ ys))) ∧ w = w' := by
  go_enter Try.func55, Try.ntmps55
  go_wp2
  go_loop [5] (fun i => ∃ k : Nat, k ≤ xs.length ∧ i = .int .i64 k ∧ Hid (∀ x ∈ xs.take k, ¬ x ∈ ys)) (fun i => xs.length - (intOf i).toNat)
  case atStart => exact ⟨0, Nat.zero_le _, rfl, Lib.hid (by simp)⟩
  case round =>
    obtain ⟨k, hk, rfl, hno⟩ := hrel
    by_cases hlt : k < xs.length
    · obtain ⟨ad, x, rfl, hx, hc⟩ := hI.at_ hlt
      by_cases hxn : x ∈ ys
      · have HX := Lib.hid hxn
        clear hxn
        go_wp2_with fail
        refine (has_yes _ _ _ _ _ hJ hm HX.out).mono ?_
        rintro e w' ⟨rfl, rfl⟩
        go_wp2
        go_ret
        exact ⟨ret_bool (decide_eq_false (fun h => h x (List.mem_of_getElem? hx.out) HX.out)).symm, rfl⟩
      · have HX := Lib.hid hxn
        clear hxn
        go_wp2_with fail
        refine (has_no _ _ _ _ _ hJ hm HX.out).mono ?_
        rintro e w' ⟨rfl, rfl⟩
        go_wp2
        go_round
        case rel => exact ⟨k + 1, by omega, by go_num, Lib.hid (forall_take_succ (P := fun x => ¬ x ∈ ys) hx.out hno.out HX.out)⟩
        case measure => simp [intOf]; omega
    · go_wp2
      go_ret
      exact ⟨ret_bool (decide_eq_true (forall_take_all hlt hno.out)).symm, rfl⟩

/-- Two lists are equal as far as their first k elements. -/
theorem take_eq_succ {xs ys : List Int} {k : Nat} {x : Int} (hx : xs[k]? = some x) (hy : ys[k]? = some x) (h : xs.take k = ys.take k) : xs.take (k + 1) = ys.take (k + 1) := by
  rw [List.take_add_one, List.take_add_one, hx, hy, h]

set_option maxHeartbeats 400000 in
theorem ints_any (A B : Option Addr) (c d : Nat) (xs ys : List Int) (w : World) (hI : Ints w A xs) (hJ : Ints w B ys) (hl : xs.length ≤ 9223372036854775807) (hm : ys.length ≤ 9223372036854775807) :
    Calls Try.prog 33 #[.slice A xs.length c, .slice B ys.length d] w fun e w' => e = .returned (.bool (decide (xs = ys))) ∧ Below w.heap.size w w' := by
  by_cases hlen : xs.length = ys.length
  · have hlen' : ((xs.length : Int) != (ys.length : Int)) = false := by simp [hlen]
    have HL := Lib.hid hlen
    have hle1 : xs.length ≤ ys.length := by omega
    have hle2 : ys.length ≤ xs.length := by omega
    clear hlen
    go_enter Try.func33, Try.ntmps33
    go_wp2
    go_loopw [5] (fun i wr => ∃ k : Nat, k ≤ xs.length ∧ i = .int .i64 k ∧ Hid (xs.take k = ys.take k) ∧ Below w.heap.size w wr) (fun i _ => xs.length - (intOf i).toNat)
    case atStart => exact ⟨0, Nat.zero_le _, rfl, Lib.hid (by simp), Below.refl _ _⟩
    case round =>
      obtain ⟨k, hk, rfl, hno, hB⟩ := hrel
      by_cases hlt : k < xs.length
      · have hlt2 : k < ys.length := by omega
        obtain ⟨ad, x, rfl, hx, hc⟩ := (hI.below hB).at_ hlt
        obtain ⟨bd, y, rfl, hy, hd⟩ := (hJ.below hB).at_ hlt2
        by_cases hxn : x = y
        · subst hxn
          go_wp2
          go_quiet (fail)
          go_wp2
          go_roundw
          case rel => exact ⟨k + 1, by omega, by go_num, Lib.hid (take_eq_succ hx.out hy.out hno.out), below_drewN hB _⟩
          case measure => simp [intOf]; omega
        · have hb : (x != y) = true := by simpa using hxn
          go_wp2
          go_quiet (fail)
          go_wp2
          go_ret
          refine ⟨ret_bool (decide_eq_false (fun h => hxn ?_)).symm, below_drewN hB _⟩
          have h1 := hx.out
          have h2 := hy.out
          rw [h, h2] at h1
          injection h1 with h1
          exact h1.symm
      · go_wp2
        go_ret
        refine ⟨ret_bool (decide_eq_true ?_).symm, hB⟩
        have := hno.out
        rw [List.take_of_length_le (by omega), List.take_of_length_le (by omega)] at this
        exact this
  · have hlen' : ((xs.length : Int) != (ys.length : Int)) = true := by simp; omega
    go_enter Try.func33, Try.ntmps33
    go_wp2
    go_ret
    exact ⟨ret_bool (decide_eq_false (fun h => hlen (by rw [h]))).symm, Below.refl _ _⟩

theorem in_any (n a b : Int) (w : World) :
    Calls Try.prog 42 #[.int .i64 n, .int .i64 a, .int .i64 b] w fun e w' => e = .returned (.bool (decide (a ≤ n ∧ n ≤ b))) ∧ w = w' := by
  by_cases h1 : a ≤ n
  · by_cases h2 : n ≤ b
    all_goals
      go_enter Try.func42, Try.ntmps42
      go_wp2
      go_ret
      exact ⟨by simp <;> omega, rfl⟩
  · go_enter Try.func42, Try.ntmps42
    go_wp2
    go_ret
    exact ⟨by simp <;> omega, rfl⟩
theorem in_yes (n a b : Int) (w : World) (h1 : a ≤ n) (h2 : n ≤ b) :
    Calls Try.prog 42 #[.int .i64 n, .int .i64 a, .int .i64 b] w fun e w' => e = .returned (.bool true) ∧ w = w' :=
  (in_any n a b w).mono fun e w' ⟨he, hw⟩ => ⟨by rw [he, show decide (a ≤ n ∧ n ≤ b) = true from decide_eq_true ⟨h1, h2⟩], hw⟩
theorem in_no (n a b : Int) (w : World) (h1 : n < a ∨ b < n) :
    Calls Try.prog 42 #[.int .i64 n, .int .i64 a, .int .i64 b] w fun e w' => e = .returned (.bool false) ∧ w = w' :=
  (in_any n a b w).mono fun e w' ⟨he, hw⟩ => ⟨by rw [he, show decide (a ≤ n ∧ n ≤ b) = false from decide_eq_false (by omega)], hw⟩
theorem at_any (c d : Int) (w : World) :
    Calls Try.prog 37 #[.int .i64 c, .int .i64 d] w fun e w' => e = .returned (.agg #[.int .i64 c, .int .i64 d]) ∧ Below w.heap.size w w' := by
  go_enter Try.func37, Try.ntmps37
  go_wp2
  refine bodyPost_ret (v := .agg #[.int .i64 c, .int .i64 d]) ?_ rfl ⟨rfl, (Below.refl _ _).alloc (Nat.le_refl _) _⟩
  simp [results, Try.results37, go_sem]

end Go.Proofs.Ytihkgdlanfemcaa

namespace Go.Proofs.Ytihkgdlanfemcaa
open Go.RowKit
set_option linter.unusedVariables false
set_option linter.unusedSimpArgs false

set_option maxHeartbeats 400000 in
theorem isset_any (A : Option Addr) (c : Nat) (xs : List Int) (n : Int) (w : World) (hI : Ints w A xs) (hl : xs.length ≤ 9223372036854775807) :
    Calls Try.prog 98 #[.slice A xs.length c, .int .i64 n] w fun e w' => e = .returned (.bool (setB xs n)) ∧ w = w' := by
  go_enter Try.func98, Try.ntmps98
  go_wp2
  go_loop [9] (fun i => ∃ k : Nat, k ≤ xs.length ∧ i = .int .i64 k ∧ Hid (SetP (xs.take k) n)) (fun i => xs.length - (intOf i).toNat)
  case atStart => exact ⟨0, Nat.zero_le _, rfl, Lib.hid (by simpa using SetP.nil n)⟩
  case round =>
    obtain ⟨k, hk, rfl, hS⟩ := hrel
    by_cases hlt : k < xs.length
    · obtain ⟨ad, x, rfl, hx, hc⟩ := hI.at_ hlt
      by_cases h1 : x < 0
      · go_wp2
        go_ret
        exact ⟨ret_bool (setB_false.2 (not_setP_lo hx.out (Or.inl h1))).symm, rfl⟩
      · by_cases h2 : n ≤ x
        · go_wp2
          go_ret
          exact ⟨ret_bool (setB_false.2 (not_setP_lo hx.out (Or.inr h2))).symm, rfl⟩
        · by_cases hk0 : k = 0
          · subst hk0
            rw [add_zero] at hc
            go_wp2
            go_round
            case rel => exact ⟨1, by omega, rfl, Lib.hid (setP_take_succ hx.out hS.out (by omega) (by omega) (fun h => absurd h (by omega)))⟩
            case measure => simp [intOf]; omega
          · have hk1 : 0 < k := by omega
            obtain ⟨bd, y, e, hy, hd⟩ := hI.at_ (show k - 1 < xs.length by omega)
            injection e with e
            subst e
            by_cases h3 : x ≤ y
            · go_wp2
              go_ret
              exact ⟨ret_bool (setB_false.2 (not_setP_step hk1 hy.out hx.out h3)).symm, rfl⟩
            · go_wp2
              go_round
              case rel =>
                refine ⟨k + 1, by omega, by go_num, Lib.hid (setP_take_succ hx.out hS.out (by omega) (by omega) (fun _ z hz => ?_))⟩
                have := hy.out
                rw [this] at hz
                injection hz with hz
                omega
              case measure => simp [intOf]; omega
    · go_wp2
      go_ret
      exact ⟨ret_bool (setB_true.2 (setP_all hlt hS.out)).symm, rfl⟩
theorem isset_yes (A : Option Addr) (c : Nat) (xs : List Int) (n : Int) (w : World) (hI : Ints w A xs) (hl : xs.length ≤ 9223372036854775807) (h : SetP xs n) :
    Calls Try.prog 98 #[.slice A xs.length c, .int .i64 n] w fun e w' => e = .returned (.bool true) ∧ w = w' :=
  (isset_any A c xs n w hI hl).mono fun e w' hh => ⟨by rw [hh.1, setB_true.2 h], hh.2⟩
theorem isset_no (A : Option Addr) (c : Nat) (xs : List Int) (n : Int) (w : World) (hI : Ints w A xs) (hl : xs.length ≤ 9223372036854775807) (h : ¬ SetP xs n) :
    Calls Try.prog 98 #[.slice A xs.length c, .int .i64 n] w fun e w' => e = .returned (.bool false) ∧ w = w' :=
  (isset_any A c xs n w hI hl).mono fun e w' hh => ⟨by rw [hh.1, setB_false.2 h], hh.2⟩

set_option maxRecDepth 100000 in
set_option maxHeartbeats 1000000 in
theorem risset_any (A : Option Addr) (c : Nat) (xs : List Int) (n : Int) (w : World) (hI : Ints w A xs) (hl : xs.length ≤ 9223372036854775807) (hn : -9223372036854775808 < n) (hn2 : n ≤ 9223372036854775807) :
    Calls Try.prog 52 #[.slice A xs.length c, .int .i64 n] w fun e w' => e = .returned (.bool (setB xs n)) ∧ Below w.heap.size w w' := by
  have ew : IntKind.i64.wrap (n - 1) = n - 1 := IntWalk.i64_in _ (by omega)
  go_enter Try.func52, Try.ntmps52
  go_wp2
  go_loopw [5] (fun i wr => ∃ k : Nat, k ≤ xs.length ∧ i = .int .i64 k ∧ Hid (SetP (xs.take k) n) ∧ Below w.heap.size w wr) (fun i _ => xs.length - (intOf i).toNat)
  case atStart => exact ⟨0, Nat.zero_le _, rfl, Lib.hid (by simpa using SetP.nil n), Below.refl _ _⟩
  case round =>
    obtain ⟨k, hk, rfl, hS, hB⟩ := hrel
    by_cases hlt : k < xs.length
    · obtain ⟨ad, x, rfl, hx, hc⟩ := (hI.below hB).at_ hlt
      by_cases h1 : x < 0 ∨ n ≤ x
      · have Q := fun w0 : World => (in_no x 0 (n - 1) w0 (by omega)).mono fun _ _ h => And.intro h.1 h.2.symm
        have H1 := Lib.hid h1
        clear h1
        go_wp2
        go_quiet ((go_at_call 42; exact Calls.quiet_of_same (Q _)))
        go_wp2
        go_ret
        exact ⟨ret_bool (setB_false.2 (not_setP_lo hx.out H1.out)).symm, below_drewN hB _⟩
      · obtain ⟨h1a, h1b⟩ : 0 ≤ x ∧ x ≤ n - 1 := by omega
        clear h1
        have Q := fun w0 : World => (in_yes x 0 (n - 1) w0 h1a h1b).mono fun _ _ h => And.intro h.1 h.2.symm
        by_cases hk0 : k = 0
        · subst hk0
          rw [add_zero] at hc
          go_wp2
          go_quiet ((go_at_call 42; exact Calls.quiet_of_same (Q _)))
          go_wp2
          go_roundw
          case rel => exact ⟨1, by omega, rfl, Lib.hid (setP_take_succ hx.out hS.out (by omega) (by omega) (fun h => absurd h (by omega))), below_drewN hB _⟩
          case measure => simp [intOf]; omega
        · have hk1 : 0 < k := by omega
          have hk2 : (0 : Int) < (k : Int) := by omega
          have ek : IntKind.i64.wrap ((k : Int) - 1) = (k : Int) - 1 := IntWalk.i64_in _ (by omega)
          obtain ⟨bd, y, e, hy, hd⟩ := (hI.below hB).at_ (show k - 1 < xs.length by omega)
          injection e with e
          subst e
          by_cases h3 : x ≤ y
          · go_wp2
            go_quiet ((go_at_call 42; exact Calls.quiet_of_same (Q _)))
            go_wp2
            go_ret
            exact ⟨ret_bool (setB_false.2 (not_setP_step hk1 hy.out hx.out h3)).symm, below_drewN hB _⟩
          · go_wp2
            go_quiet ((go_at_call 42; exact Calls.quiet_of_same (Q _)))
            go_wp2
            go_roundw
            case rel =>
              refine ⟨k + 1, by omega, by go_num, Lib.hid (setP_take_succ hx.out hS.out (by omega) (by omega) (fun _ z hz => ?_)), below_drewN hB _⟩
              have := hy.out
              rw [this] at hz
              injection hz with hz
              omega
            case measure => simp [intOf]; omega
    · go_wp2
      go_ret
      exact ⟨ret_bool (setB_true.2 (setP_all hlt hS.out)).symm, hB⟩

end Go.Proofs.Ytihkgdlanfemcaa

namespace Go.Proofs.Ytihkgdlanfemcaa
open Go.RowKit
set_option linter.unusedVariables false
set_option linter.unusedSimpArgs false

theorem cmpnan_any (x : Int) (w : World) : Calls Try.prog 106 #[.int .i64 x] w fun e w' => e = .returned (.bool false) ∧ w = w' := by
  go_enter Try.func106, Try.ntmps106
  go_wp2
  go_ret
  exact ⟨by simp, rfl⟩
theorem slnan_any (x : Int) (w : World) : Calls Try.prog 119 #[.int .i64 x] w fun e w' => e = .returned (.bool false) ∧ w = w' := by
  go_enter Try.func119, Try.ntmps119
  go_wp2
  go_ret
  exact ⟨by simp, rfl⟩
theorem less_any (x y : Int) (w : World) : Calls Try.prog 118 #[.int .i64 x, .int .i64 y] w fun e w' => e = .returned (.bool (decide (x < y))) ∧ w = w' := by
  by_cases h : x < y
  all_goals
    go_enter Try.func118, Try.ntmps118
    go_wp2_with fail
    refine (cmpnan_any _ _).mono ?_
    rintro e w' ⟨rfl, rfl⟩
    go_wp2
    go_ret
    exact ⟨ret_bool (by simp <;> omega), rfl⟩

theorem mem_bin {ys : List Int} (hs : ys.Pairwise (· < ·)) {k : Nat} {x : Int} (lo : ∀ j : Nat, ∀ y : Int, j < k → ys[j]? = some y → y < x) (hi : ∀ j : Nat, ∀ y : Int, k ≤ j → ys[j]? = some y → x ≤ y) :
    x ∈ ys ↔ ys[k]? = some x := by
  constructor
  · intro h
    obtain ⟨j, hj⟩ := List.mem_iff_getElem?.1 h
    rcases Nat.lt_trichotomy j k with e | e | e
    · have := lo j x e hj; omega
    · subst e; exact hj
    · have hl := get_lt hj
      obtain ⟨z, hz⟩ : ∃ z, ys[k]? = some z := ⟨_, List.getElem?_eq_getElem (by omega)⟩
      have h1 := hi k z (Nat.le_refl _) hz
      obtain ⟨hk1, rfl⟩ := List.getElem?_eq_some_iff.1 hz
      obtain ⟨hj1, rfl⟩ := List.getElem?_eq_some_iff.1 hj
      have := List.pairwise_iff_getElem.1 hs k j hk1 hj1 e
      omega
  · exact fun h => List.mem_of_getElem? h

/-- What BinarySearch returns: the number of smaller elements, and whether the element is there. -/
def BinPost (ys : List Int) (x : Int) (w : World) (e : Ending) (w' : World) : Prop :=
  ∃ k : Nat, e = .returned (.tuple #[.int .i64 k, .bool (decide (x ∈ ys))]) ∧ k ≤ ys.length ∧ (∀ j : Nat, ∀ y : Int, j < k → ys[j]? = some y → y < x) ∧ (∀ j : Nat, ∀ y : Int, k ≤ j → ys[j]? = some y → x ≤ y) ∧ Below w.heap.size w w'

set_option maxRecDepth 100000 in
set_option maxHeartbeats 1000000 in
theorem bin_any (B : Option Addr) (d : Nat) (ys : List Int) (x : Int) (w : World) (hJ : Ints w B ys) (hl : ys.length ≤ 1000000000000) (hs : ys.Pairwise (· < ·)) :
    Calls Try.prog 95 #[.slice B ys.length d, .int .i64 x] w (BinPost ys x w) := by
  go_enter Try.func95, Try.ntmps95
  go_wp2
  go_loop [7, 8] (fun a b => ∃ i j : Nat, i ≤ j ∧ j ≤ ys.length ∧ a = .int .i64 i ∧ b = .int .i64 j ∧ Hid (∀ k : Nat, ∀ y : Int, k < i → ys[k]? = some y → y < x) ∧ Hid (∀ k : Nat, ∀ y : Int, j ≤ k → ys[k]? = some y → x ≤ y)) (fun a b => (intOf b).toNat - (intOf a).toNat)
  case atStart => exact ⟨0, ys.length, by omega, by omega, rfl, rfl, Lib.hid (fun k y h => absurd h (by omega)), Lib.hid (fun k y h hy => absurd (get_lt hy) (by omega))⟩
  case round =>
    obtain ⟨i, j, hij, hj, rfl, rfl, H1, H2⟩ := hrel
    by_cases hlt : i < j
    · have m1 : i ≤ (i + j) / 2 := by omega
      have m2 : (i + j) / 2 < j := by omega
      obtain ⟨ad, y, rfl, hy, hc⟩ := hJ.at_ (show (i + j) / 2 < ys.length by omega)
      have HS := Lib.hid hs
      clear hs
      have key : y < x → ∀ k : Nat, ∀ z : Int, k < (i + j) / 2 + 1 → ys[k]? = some z → z < x := fun h k z hk hz => by
        by_cases e : k = (i + j) / 2
        · subst e; rw [hy.out] at hz; injection hz with hz; omega
        · obtain ⟨a1, rfl⟩ := List.getElem?_eq_some_iff.1 hz
          obtain ⟨a2, b2⟩ := List.getElem?_eq_some_iff.1 hy.out
          have := List.pairwise_iff_getElem.1 HS.out k ((i + j) / 2) a1 a2 (by omega)
          omega
      have key2 : ¬ y < x → ∀ k : Nat, ∀ z : Int, (i + j) / 2 ≤ k → ys[k]? = some z → x ≤ z := fun h k z hk hz => by
        by_cases e : k = (i + j) / 2
        · subst e; rw [hy.out] at hz; injection hz with hz; omega
        · obtain ⟨a1, rfl⟩ := List.getElem?_eq_some_iff.1 hz
          obtain ⟨a2, b2⟩ := List.getElem?_eq_some_iff.1 hy.out
          have := List.pairwise_iff_getElem.1 HS.out ((i + j) / 2) k a2 a1 (by omega)
          omega
      have K1 := Lib.hid key
      have K2 := Lib.hid key2
      clear key key2
      by_cases hc2 : y < x
      · skip
        go_wp2_with fail
        refine (less_any _ _ _).mono ?_
        rintro e w' ⟨he, rfl⟩
        rw [decide_eq_true (show y < x by omega)] at he
        subst he
        go_wp2
        go_round
        case rel => exact ⟨(i + j) / 2 + 1, j, by omega, hj, by go_num, rfl, Lib.hid (K1.out (by omega)), H2⟩
        case measure => simp [intOf]; omega
      · skip
        go_wp2_with fail
        refine (less_any _ _ _).mono ?_
        rintro e w' ⟨he, rfl⟩
        rw [decide_eq_false (show ¬ y < x by omega)] at he
        subst he
        go_wp2
        go_round
        case rel => exact ⟨i, (i + j) / 2, by omega, by omega, rfl, by go_num, H1, Lib.hid (K2.out (by omega))⟩
        case measure => simp [intOf]; omega
    · obtain rfl : i = j := by omega
      have hm := mem_bin hs H1.out H2.out
      have HM := Lib.hid hm
      clear hs hm
      by_cases hin : i < ys.length
      · obtain ⟨ad, y, rfl, hy, hc⟩ := hJ.at_ hin
        by_cases hyx : y = x
        · have HT := Lib.hid (HM.out.2 (by rw [hy.out, hyx]))
          subst hyx
          go_wp2
          go_ret2
          exact ⟨i, by rw [decide_eq_true HT.out]; rfl, hj, H1.out, H2.out, Below.refl _ _⟩
        · have HT : Hid (¬ x ∈ ys) := Lib.hid (fun h => hyx (by have h1 := HM.out.1 h; have h2 := hy.out; rw [h2] at h1; injection h1))
          have hb : (y == x) = false := by simpa using hyx
          go_wp2_with fail
          refine (slnan_any _ _).mono ?_
          rintro e w' ⟨rfl, rfl⟩
          go_wp2
          go_ret2
          exact ⟨i, by rw [decide_eq_false HT.out]; rfl, hj, H1.out, H2.out, Below.refl _ _⟩
      · have HT : Hid (¬ x ∈ ys) := Lib.hid (fun h => hin (get_lt (HM.out.1 h)))
        go_wp2
        go_ret2
        exact ⟨i, by rw [decide_eq_false HT.out]; rfl, hj, H1.out, H2.out, Below.refl _ _⟩

/-- F is a function with a body. -/
def Enters (F : FuncId) : Prop := ∀ (args : Array Value) (w : World), (callFunc F args).run Try.prog w = .ok (.enter F args) w
/-- A function value that answers, in every world that keeps the old memory, whether p holds of a number of the list. -/
def Tests (F : FuncId) (q : Value) (xs : List Int) (p : Int → Bool) (w : World) : Prop :=
  ∀ x ∈ xs, ∀ wr : World, Below w.heap.size w wr → Calls Try.prog F #[.int .i64 x, q] wr fun e w' => e = .returned (.bool (p x)) ∧ Below wr.heap.size wr w'
/-- The number of the first element of which p holds. -/
def SomeIdx (xs : List Int) (w : World) (e : Ending) (w' : World) : Prop := ∃ k : Nat, e = .returned (.int .i64 k) ∧ k < xs.length ∧ Below w.heap.size w w'

set_option maxHeartbeats 1000000 in
theorem indexfunc_yes (A : Option Addr) (c : Nat) (xs : List Int) (F : FuncId) (q : Value) (p : Int → Bool) (w : World) (hI : Ints w A xs) (hl : xs.length ≤ 9223372036854775807) (hE : Enters F) (hf : Tests F q xs p w) (hp : ∃ x ∈ xs, p x = true) :
    Calls Try.prog 103 #[.slice A xs.length c, .func (.func F) #[] #[q]] w (SomeIdx xs w) := by
  have HP := Lib.hid hp
  have hE' : ∀ (args : Array Value) (w : World), (callFunc F args).run Try.prog w = .ok (.enter F args) w := hE
  clear hp hE
  go_enter Try.func103, Try.ntmps103
  go_wp2
  go_loopw [8] (fun i wr => ∃ k : Nat, k ≤ xs.length ∧ i = .int .i64 k ∧ Hid (∀ x ∈ xs.take k, p x = false) ∧ Below w.heap.size w wr) (fun i _ => xs.length - (intOf i).toNat)
  case atStart => exact ⟨0, Nat.zero_le _, rfl, Lib.hid (by simp), Below.refl _ _⟩
  case round =>
    obtain ⟨k, hk, rfl, hno, hB⟩ := hrel
    by_cases hlt : k < xs.length
    · obtain ⟨ad, x, rfl, hx, hc⟩ := (hI.below hB).at_ hlt
      have hm : x ∈ xs := List.mem_of_getElem? hx.out
      have HM := Lib.hid hm
      clear hm
      by_cases hpx : p x = true
      · go_wp2_with fail
        refine (hf x HM.out _ hB).mono ?_
        rintro e w1 ⟨rfl, hB1⟩
        go_wp2
        go_ret
        exact ⟨k, rfl, hlt, hB.trans (hB1.mono hB.size)⟩
      · have hpx' : p x = false := by simpa using hpx
        have HX := Lib.hid hpx'
        go_wp2_with fail
        refine (hf x HM.out _ hB).mono ?_
        rintro e w1 ⟨he, hB1⟩
        rw [HX.out] at he
        subst he
        have D1 := hB.trans (hB1.mono hB.size)
        go_wp2
        go_roundw
        case rel => exact ⟨k + 1, by omega, by go_num, Lib.hid (forall_take_succ hx.out hno.out HX.out), D1⟩
        case measure => simp [intOf]; omega
    · exfalso
      obtain ⟨x, hx, hpx⟩ := HP.out
      have := forall_take_all hlt hno.out x hx
      rw [hpx] at this
      cases this

set_option maxHeartbeats 1000000 in
theorem indexfunc_no (A : Option Addr) (c : Nat) (xs : List Int) (F : FuncId) (q : Value) (p : Int → Bool) (w : World) (hI : Ints w A xs) (hl : xs.length ≤ 9223372036854775807) (hE : Enters F) (hf : Tests F q xs p w) (hp : ∀ x ∈ xs, p x = false) :
    Calls Try.prog 103 #[.slice A xs.length c, .func (.func F) #[] #[q]] w fun e w' => e = .returned (.int .i64 (-1)) ∧ Below w.heap.size w w' := by
  have HP := Lib.hid hp
  have hE' : ∀ (args : Array Value) (w : World), (callFunc F args).run Try.prog w = .ok (.enter F args) w := hE
  clear hp hE
  go_enter Try.func103, Try.ntmps103
  go_wp2
  go_loopw [8] (fun i wr => ∃ k : Nat, k ≤ xs.length ∧ i = .int .i64 k ∧ Below w.heap.size w wr) (fun i _ => xs.length - (intOf i).toNat)
  case atStart => exact ⟨0, Nat.zero_le _, rfl, Below.refl _ _⟩
  case round =>
    obtain ⟨k, hk, rfl, hB⟩ := hrel
    by_cases hlt : k < xs.length
    · obtain ⟨ad, x, rfl, hx, hc⟩ := (hI.below hB).at_ hlt
      have hm : x ∈ xs := List.mem_of_getElem? hx.out
      have HM := Lib.hid hm
      clear hm
      go_wp2_with fail
      refine (hf x HM.out _ hB).mono ?_
      rintro e w1 ⟨he, hB1⟩
      rw [HP.out x HM.out] at he
      subst he
      have D1 := hB.trans (hB1.mono hB.size)
      go_wp2
      go_roundw
      case rel => exact ⟨k + 1, by omega, by go_num, D1⟩
      case measure => simp [intOf]; omega
    · go_wp2
      go_ret
      exact ⟨rfl, hB⟩

set_option maxHeartbeats 1000000 in
theorem containsfunc_any (A : Option Addr) (c : Nat) (xs : List Int) (F : FuncId) (q : Value) (p : Int → Bool) (w : World) (hI : Ints w A xs) (hl : xs.length ≤ 9223372036854775807) (hE : Enters F) (hf : Tests F q xs p w) :
    Calls Try.prog 70 #[.slice A xs.length c, .func (.func F) #[] #[q]] w fun e w' => e = .returned (.bool (decide (∃ x ∈ xs, p x = true))) ∧ Below w.heap.size w w' := by
  by_cases hp : ∃ x ∈ xs, p x = true
  · rw [decide_eq_true hp]
    have HP := Lib.hid hp
    clear hp
    go_enter Try.func70, Try.ntmps70
    go_wp2_with fail
    refine (indexfunc_yes A c xs F q p _ hI hl hE hf HP.out).mono ?_
    rintro e w' ⟨k, rfl, hk, hB⟩
    go_wp2
    go_ret
    exact ⟨ret_bool (by simp), hB⟩
  · rw [decide_eq_false hp]
    have HP : Hid (∀ x ∈ xs, p x = false) := Lib.hid (fun x hx => by
      cases h : p x with
      | false => rfl
      | true => exact absurd ⟨x, hx, h⟩ hp)
    clear hp
    go_enter Try.func70, Try.ntmps70
    go_wp2_with fail
    refine (indexfunc_no A c xs F q p _ hI hl hE hf HP.out).mono ?_
    rintro e w' ⟨rfl, hB⟩
    go_wp2
    go_ret
    exact ⟨rfl, hB⟩

end Go.Proofs.Ytihkgdlanfemcaa

namespace Go.Proofs.Ytihkgdlanfemcaa
open Go.RowKit
set_option linter.unusedVariables false
set_option linter.unusedSimpArgs false

theorem meets1_enters : Enters 152 := fun args w => by kernel_rfl
set_option maxHeartbeats 400000 in
theorem meets1_any (b : Nat) (B : Option Addr) (d : Nat) (ys : List Int) (x : Int) (w : World) (hb : w.cell? ⟨b, 0, none⟩ = some (.slice B ys.length d)) (hJ : Ints w B ys) (hl : ys.length ≤ 1000000000000) (hs : ys.Pairwise (· < ·)) :
    Calls Try.prog 152 #[.int .i64 x, .pointer (some ⟨b, 0, none⟩)] w fun e w' => e = .returned (.bool (decide (x ∈ ys))) ∧ Below w.heap.size w w' := by
  have HS := Lib.hid hs
  clear hs
  go_enter Try.func152, Try.ntmps152
  go_wp2_with fail
  refine (bin_any _ _ _ _ _ hJ hl HS.out).mono ?_
  rintro e w1 ⟨k, rfl, _, _, _, hB⟩
  go_wp2
  go_ret
  exact ⟨rfl, hB⟩

set_option maxHeartbeats 400000 in
theorem meets_any (A B : Option Addr) (c d : Nat) (xs ys : List Int) (w : World) (hI : Ints w A xs) (hJ : Ints w B ys) (hl : xs.length ≤ 9223372036854775807) (hm : ys.length ≤ 1000000000000) (hs : ys.Pairwise (· < ·)) :
    Calls Try.prog 125 #[.slice A xs.length c, .slice B ys.length d] w fun e w' => e = .returned (.bool (decide (∃ x ∈ xs, x ∈ ys))) ∧ Below w.heap.size w w' := by
  have HS := Lib.hid hs
  clear hs
  have D0 : Below w.heap.size w (w.alloc (.cells #[.slice B ys.length d] 22)) := (Below.refl _ _).alloc (Nat.le_refl _) _
  have hc : (w.alloc (.cells #[.slice B ys.length d] 22)).cell? ⟨w.heap.size, 0, none⟩ = some (.slice B ys.length d) := by simp [go_sem]
  have hT : Tests 152 (.pointer (some ⟨w.heap.size, 0, none⟩)) xs (fun x => decide (x ∈ ys)) (w.alloc (.cells #[.slice B ys.length d] 22)) := by
    intro x _ wr hB
    have hc' : wr.cell? ⟨w.heap.size, 0, none⟩ = some (.slice B ys.length d) := (hB.cell (World.block_lt_of_cell? _ _ hc)).trans hc
    exact meets1_any w.heap.size B d ys x wr hc' ((hJ.below D0).below hB) hm HS.out
  go_enter Try.func125, Try.ntmps125
  go_wp2_with fail
  refine (containsfunc_any A c xs _ _ (fun x => decide (x ∈ ys)) _ (hI.below D0) hl meets1_enters hT).mono ?_
  rintro e w1 ⟨rfl, hB⟩
  go_wp2
  go_ret
  exact ⟨ret_bool (by simp), dstep w hB D0⟩

set_option maxHeartbeats 400000 in
theorem index_no (A : Option Addr) (c : Nat) (xs : List Int) (n : Int) (w : World) (hI : Ints w A xs) (hl : xs.length ≤ 9223372036854775807) (h : ¬ n ∈ xs) :
    Calls Try.prog 140 #[.slice A xs.length c, .int .i64 n] w fun e w' => e = .returned (.int .i64 (-1)) ∧ w = w' := by
  have HP := Lib.hid h
  clear h
  go_enter Try.func140, Try.ntmps140
  go_wp2
  go_loop [8] (fun i => ∃ k : Nat, k ≤ xs.length ∧ i = .int .i64 k) (fun i => xs.length - (intOf i).toNat)
  case atStart => exact ⟨0, Nat.zero_le _, rfl⟩
  case round =>
    obtain ⟨k, hk, rfl⟩ := hrel
    by_cases hlt : k < xs.length
    · obtain ⟨ad, x, rfl, hx, hc⟩ := hI.at_ hlt
      have hb : (n == x) = false := by
        have : ¬ n = x := fun e => HP.out (by rw [e]; exact List.mem_of_getElem? hx.out)
        simpa using this
      go_wp2
      go_round
      case rel => exact ⟨k + 1, by omega, by go_num⟩
      case measure => simp [intOf]; omega
    · go_wp2
      go_ret
      exact ⟨rfl, rfl⟩
end Go.Proofs.Ytihkgdlanfemcaa

namespace Go.Proofs.Ytihkgdlanfemcaa
open Go.RowKit
set_option linter.unusedVariables false
set_option linter.unusedSimpArgs false

theorem cell_new_at (w : World) (v : Value) (e : TypeId) (b : Nat) (hb : b = w.heap.size) : (w.alloc (.cells #[v] e)).cell? ⟨b, 0, none⟩ = some v := by
  subst hb; simp
def SomeIdxP (xs : List Int) (w : World) (e : Ending) (w' : World) : Prop := ∃ k : Nat, e = .returned (.int .i64 k) ∧ k < xs.length ∧ w' = w
set_option maxHeartbeats 400000 in
theorem index_yesp (A : Option Addr) (c : Nat) (xs : List Int) (n : Int) (w : World) (hI : Ints w A xs) (hl : xs.length ≤ 9223372036854775807) (h : n ∈ xs) :
    Calls Try.prog 140 #[.slice A xs.length c, .int .i64 n] w (SomeIdxP xs w) := by
  have HP := Lib.hid h
  clear h
  go_enter Try.func140, Try.ntmps140
  go_wp2
  go_loop [8] (fun i => ∃ k : Nat, k ≤ xs.length ∧ i = .int .i64 k ∧ Hid (n ∉ xs.take k)) (fun i => xs.length - (intOf i).toNat)
  case atStart => exact ⟨0, Nat.zero_le _, rfl, Lib.hid (by simp)⟩
  case round =>
    obtain ⟨k, hk, rfl, hno⟩ := hrel
    by_cases hlt : k < xs.length
    · obtain ⟨ad, x, rfl, hx, hc⟩ := hI.at_ hlt
      by_cases hxn : n = x
      · subst hxn
        go_wp2
        go_ret
        exact ⟨k, rfl, hlt, rfl⟩
      · have hb : (n == x) = false := by simpa using hxn
        go_wp2
        go_round
        case rel => exact ⟨k + 1, by omega, by go_num, Lib.hid (mem_take_succ hx.out hno.out (fun e => hxn e.symm))⟩
        case measure => simp [intOf]; omega
    · exact absurd HP.out (by have := hno.out; rw [List.take_of_length_le (by omega)] at this; exact this)
set_option maxHeartbeats 400000 in
theorem contains_p (A : Option Addr) (c : Nat) (xs : List Int) (n : Int) (w : World) (hI : Ints w A xs) (hl : xs.length ≤ 9223372036854775807) :
    Calls Try.prog 114 #[.slice A xs.length c, .int .i64 n] w fun e w' => e = .returned (.bool (decide (n ∈ xs))) ∧ w' = w := by
  by_cases hp : n ∈ xs
  · rw [decide_eq_true hp]
    have HP := Lib.hid hp
    clear hp
    go_enter Try.func114, Try.ntmps114
    go_wp2_with fail
    refine (index_yesp A c xs n _ hI hl HP.out).mono ?_
    rintro e w' ⟨k, rfl, hk, hW⟩
    subst hW
    go_wp2
    go_ret
    exact ⟨ret_bool (by simp), rfl⟩
  · rw [decide_eq_false hp]
    have HP := Lib.hid hp
    clear hp
    go_enter Try.func114, Try.ntmps114
    go_wp2_with fail
    refine (index_no A c xs n _ hI hl HP.out).mono ?_
    rintro e w' ⟨rfl, rfl⟩
    go_wp2
    go_ret
    exact ⟨rfl, rfl⟩
/-- .. with the outcome known. -/
theorem contains_v (A : Option Addr) (c : Nat) (xs : List Int) (n : Int) (w : World) (v : Bool) (hI : Ints w A xs) (hl : xs.length ≤ 9223372036854775807) (hv : decide (n ∈ xs) = v) :
    Calls Try.prog 114 #[.slice A xs.length c, .int .i64 n] w fun e w' => e = .returned (.bool v) ∧ w' = w := by
  subst hv; exact contains_p A c xs n w hI hl

/-- A later world that has drawn alone. -/
def Drawn (w w' : World) : Prop := ∃ m, w' = w.drewN m
theorem Drawn.refl (w : World) : Drawn w w := ⟨0, rfl⟩
theorem Drawn.drewN {w w' : World} (h : Drawn w w') (k : Nat) : Drawn w (w'.drewN k) := by
  obtain ⟨m, rfl⟩ := h
  exact ⟨m + k, by rw [World.drewN_drewN]⟩
theorem Drawn.below {w w' : World} (h : Drawn w w') : Below w.heap.size w w' := by
  obtain ⟨m, rfl⟩ := h
  exact below_drewN (Below.refl _ _) m
end Go.Proofs.Ytihkgdlanfemcaa

namespace Go.Proofs.Ytihkgdlanfemcaa
set_option linter.unusedVariables false
set_option linter.unusedSimpArgs false

/-- The error code of a set of elements below m. -/
noncomputable def hitc (m : Int) (s : List Int) : Int := if s.length = 0 then 9 else @ite _ (SetP s m) (Classical.propDecidable _) 0 5
theorem hitc_empty {m : Int} {s : List Int} (h : s.length = 0) : hitc m s = 9 := by unfold hitc; rw [if_pos h]
theorem hitc_good {m : Int} {s : List Int} (h : ¬ s.length = 0) (hs : SetP s m) : hitc m s = 0 := by unfold hitc; rw [if_neg h]; exact if_pos hs
theorem hitc_bad {m : Int} {s : List Int} (h : ¬ s.length = 0) (hs : ¬ SetP s m) : hitc m s = 5 := by unfold hitc; rw [if_neg h]; exact if_neg hs
theorem hitc_zero {m : Int} {s : List Int} : hitc m s = 0 ↔ ¬ s.length = 0 ∧ SetP s m := by
  by_cases h : s.length = 0
  · rw [hitc_empty h]
    exact ⟨fun h2 => (by cases h2), fun h2 => absurd h h2.1⟩
  · by_cases hs : SetP s m
    · rw [hitc_good h hs]; exact ⟨fun _ => ⟨h, hs⟩, fun _ => rfl⟩
    · rw [hitc_bad h hs]; exact ⟨fun h2 => (by cases h2), fun h2 => absurd h2.2 hs⟩
/-- The first set with an error. -/
noncomputable def setsFault (m : Int) : List (List Int) → Nat → Int × Int
  | [], _ => (0, 0)
  | s :: r, k => if hitc m s = 0 then setsFault m r (k + 1) else (hitc m s, (k : Int))
theorem setsFault_good {m : Int} : ∀ (l : List (List Int)) (k : Nat), (∀ s ∈ l, hitc m s = 0) → setsFault m l k = (0, 0)
  | [], _, _ => rfl
  | s :: r, k, h => by unfold setsFault; rw [if_pos (h s (by simp))]; exact setsFault_good r (k + 1) (fun s hs => h s (by simp [hs]))
theorem setsFault_at {m : Int} : ∀ (l : List (List Int)) (s k : Nat) (o : List Int), (∀ o ∈ l.take k, hitc m o = 0) → l[k]? = some o → ¬ hitc m o = 0 → setsFault m l s = (hitc m o, ((s + k : Nat) : Int))
  | [], _, _, _, _, h, _ => by simp at h
  | a :: r, s, 0, o, _, h, hn => by
    simp at h; subst h
    unfold setsFault; rw [if_neg hn]; rfl
  | a :: r, s, k + 1, o, hg, h, hn => by
    unfold setsFault
    rw [if_pos (hg a (by simp)), setsFault_at r (s + 1) k o (fun o ho => hg o (by simp [ho])) (by simpa using h) hn]
    congr 2
    omega
/-- The costs are in range. -/
def CostsIn (cs : List Int) : Prop := ∀ c ∈ cs, 0 ≤ c ∧ c ≤ 1000000
/-- The fault of sets and costs. -/
noncomputable def hfault (sets : List (List Int)) (cs : List Int) : Int × Int :=
  if 16 < sets.length ∨ 16 < cs.length then (2, -1) else @ite _ (CostsIn cs) (Classical.propDecidable _) (setsFault (cs.length : Int) sets 0) (3, -2)
theorem hfault_1 {sets : List (List Int)} {cs : List Int} (h : 16 < sets.length ∨ 16 < cs.length) : hfault sets cs = (2, -1) := by unfold hfault; rw [if_pos h]
theorem hfault_2 {sets : List (List Int)} {cs : List Int} (h : ¬ (16 < sets.length ∨ 16 < cs.length)) (hc : ¬ CostsIn cs) : hfault sets cs = (3, -2) := by unfold hfault; rw [if_neg h]; exact if_neg hc
theorem hfault_3 {sets : List (List Int)} {cs : List Int} (h : ¬ (16 < sets.length ∨ 16 < cs.length)) (hc : CostsIn cs) : hfault sets cs = setsFault (cs.length : Int) sets 0 := by unfold hfault; rw [if_neg h]; exact if_pos hc
/-- Sets and costs without a fault. -/
structure HOk (sets : List (List Int)) (cs : List Int) : Prop where
  nsets : sets.length ≤ 16
  ncosts : cs.length ≤ 16
  costs : CostsIn cs
  sets : ∀ s ∈ sets, ¬ s.length = 0 ∧ SetP s (cs.length : Int)
end Go.Proofs.Ytihkgdlanfemcaa

namespace Go.Proofs.Ytihkgdlanfemcaa
open Go.RowKit
set_option linter.unusedVariables false
set_option linter.unusedSimpArgs false

set_option maxRecDepth 100000 in
set_option maxHeartbeats 1000000 in
theorem hless_any (w : World) (c v d u : Int) :
    Calls Try.prog 116 #[.agg #[.int .i64 c, .int .i64 v], .agg #[.int .i64 d, .int .i64 u]] w fun e w' => e = .returned (.bool (decide (c < d ∨ (c = d ∧ v < u)))) ∧ Below w.heap.size w w' := by
  by_cases h1 : c < d
  · have h1' : decide (c < d) = true := decide_eq_true h1
    rw [decide_eq_true (show c < d ∨ (c = d ∧ v < u) from .inl h1)]
    go_enter Try.func116, Try.ntmps116
    go_wp2
    go_ret
    exact ⟨rfl, by repeat (first | with_reducible exact Below.refl _ _ | with_reducible apply bdrew | with_reducible apply bdrewN | with_reducible apply balloc | ((with_reducible refine bset ?_ ?_ _); rotate_left; (first | omega | (simp <;> omega))))⟩
  · have h1' : decide (c < d) = false := decide_eq_false h1
    by_cases h2 : c = d
    · have h2' : (c == d) = true := by simpa using h2
      by_cases h3 : v < u
      · have h3' : decide (v < u) = true := decide_eq_true h3
        rw [decide_eq_true (show c < d ∨ (c = d ∧ v < u) from .inr ⟨h2, h3⟩)]
        go_enter Try.func116, Try.ntmps116
        go_wp2
        go_ret
        exact ⟨rfl, by repeat (first | with_reducible exact Below.refl _ _ | with_reducible apply bdrew | with_reducible apply bdrewN | with_reducible apply balloc | ((with_reducible refine bset ?_ ?_ _); rotate_left; (first | omega | (simp <;> omega))))⟩
      · have h3' : decide (v < u) = false := decide_eq_false h3
        rw [decide_eq_false (show ¬ (c < d ∨ (c = d ∧ v < u)) by omega)]
        go_enter Try.func116, Try.ntmps116
        go_wp2
        go_ret
        exact ⟨rfl, by repeat (first | with_reducible exact Below.refl _ _ | with_reducible apply bdrew | with_reducible apply bdrewN | with_reducible apply balloc | ((with_reducible refine bset ?_ ?_ _); rotate_left; (first | omega | (simp <;> omega))))⟩
    · have h2' : (c == d) = false := by simpa using h2
      rw [decide_eq_false (show ¬ (c < d ∨ (c = d ∧ v < u)) by omega)]
      go_enter Try.func116, Try.ntmps116
      go_wp2
      go_ret
      exact ⟨rfl, by repeat (first | with_reducible exact Below.refl _ _ | with_reducible apply bdrew | with_reducible apply bdrewN | with_reducible apply balloc | ((with_reducible refine bset ?_ ?_ _); rotate_left; (first | omega | (simp <;> omega))))⟩


end Go.Proofs.Ytihkgdlanfemcaa

namespace Go.Proofs.Ytihkgdlanfemcaa
set_option linter.unusedVariables false

/-- A sum of two values. -/
def plusV (a b : Int) : Int := if a = 1000000000 ∨ b = 1000000000 then 1000000000 else if a + b ≥ 1000000000 then 999999999 else a + b
theorem plusV_inf {a b : Int} (h : a = 1000000000 ∨ b = 1000000000) : plusV a b = 1000000000 := by unfold plusV; rw [if_pos h]
theorem plusV_big {a b : Int} (h : ¬ (a = 1000000000 ∨ b = 1000000000)) (h2 : a + b ≥ 1000000000) : plusV a b = 999999999 := by unfold plusV; rw [if_neg h, if_pos h2]
theorem plusV_sum {a b : Int} (h : ¬ (a = 1000000000 ∨ b = 1000000000)) (h2 : ¬ a + b ≥ 1000000000) : plusV a b = a + b := by unfold plusV; rw [if_neg h, if_neg h2]
/-- A value: from 0 to infinite. -/
def InV (v : Int) : Prop := 0 ≤ v ∧ v ≤ 1000000000
theorem InV.zero : InV 0 := by unfold InV; omega
theorem InV.inf : InV 1000000000 := by unfold InV; omega
theorem plusV_in {a b : Int} (ha : InV a) (hb : InV b) : InV (plusV a b) := by unfold InV at *; unfold plusV; split <;> (try split) <;> omega
theorem plusV_mono {a b c d : Int} (ha : InV a) (hb : InV b) (hc : InV c) (hd : InV d) (h : a ≤ c) (k : b ≤ d) : plusV a b ≤ plusV c d := by unfold InV at *; unfold plusV; (repeat split) <;> omega
theorem plusV_ge_left {a b : Int} (ha : InV a) (hb : InV b) : a ≤ plusV a b := by unfold InV at *; unfold plusV; split <;> (try split) <;> omega
/-- The value of a fact in a list of values. -/
def valAt (vs : List Int) (p : Int) : Int := (vs[p.toNat]?).getD 0
def stepV (sum : Bool) (o v : Int) : Int := match sum with | true => plusV o v | false => if v > o then v else o
/-- The combination of the values of facts. -/
def combV (sum : Bool) (vs : List Int) (xs : List Int) : Int := xs.foldl (fun o p => stepV sum o (valAt vs p)) 0
def AllV (vs : List Int) : Prop := ∀ v ∈ vs, InV v
theorem stepV_in {s : Bool} {o v : Int} (ho : InV o) (hv : InV v) : InV (stepV s o v) := by
  cases s
  · unfold stepV InV at *; dsimp only; split <;> omega
  · exact plusV_in ho hv
theorem valAt_in {vs : List Int} (h : AllV vs) (p : Int) : InV (valAt vs p) := by
  unfold valAt
  cases e : vs[p.toNat]? with
  | none => exact InV.zero
  | some v => exact h v (List.mem_of_getElem? e)
theorem valAt_of {vs : List Int} {p v : Int} (h : vs[p.toNat]? = some v) : valAt vs p = v := by unfold valAt; rw [h]; rfl
theorem foldV_in {s : Bool} {vs : List Int} (h : AllV vs) : ∀ (xs : List Int) (o : Int), InV o → InV (xs.foldl (fun o p => stepV s o (valAt vs p)) o) := by
  intro xs
  induction xs with
  | nil => intro o ho; exact ho
  | cons x xs ih => intro o ho; exact ih _ (stepV_in ho (valAt_in h x))
theorem combV_in {s : Bool} {vs : List Int} (h : AllV vs) (xs : List Int) : InV (combV s vs xs) := foldV_in h xs 0 InV.zero
theorem combV_nil {s : Bool} {vs : List Int} : combV s vs [] = 0 := rfl
theorem combV_take_succ {s : Bool} {vs xs : List Int} {k : Nat} {x v : Int} (hx : xs[k]? = some x) (hv : vs[x.toNat]? = some v) : combV s vs (xs.take (k + 1)) = stepV s (combV s vs (xs.take k)) v := by
  unfold combV
  rw [List.take_add_one, hx]
  simp only [Option.toList, List.foldl_append, List.foldl_cons, List.foldl_nil]
  rw [valAt_of hv]
theorem combV_take_all {s : Bool} {vs xs : List Int} {k : Nat} (h : ¬ k < xs.length) : combV s vs (xs.take k) = combV s vs xs := by rw [List.take_of_length_le (by omega)]

end Go.Proofs.Ytihkgdlanfemcaa

namespace Go.Proofs.Ytihkgdlanfemcaa
set_option linter.unusedVariables false
set_option linter.unusedSimpArgs false

theorem stepV_mono {s : Bool} {o v o' v' : Int} (ho : InV o) (hv : InV v) (ho' : InV o') (hv' : InV v') (h : o ≤ o') (k : v ≤ v') : stepV s o v ≤ stepV s o' v' := by
  cases s
  · unfold stepV; dsimp only; (repeat split) <;> omega
  · exact plusV_mono ho hv ho' hv' h k
/-- No value of U is greater than that of V. -/
def LeV (U V : List Int) : Prop := ∀ p, valAt U p ≤ valAt V p
theorem foldV_mono {s : Bool} {U V : List Int} (hU : AllV U) (hV : AllV V) (h : LeV U V) : ∀ (xs : List Int) (o o' : Int), InV o → InV o' → o ≤ o' →
    xs.foldl (fun o p => stepV s o (valAt U p)) o ≤ xs.foldl (fun o p => stepV s o (valAt V p)) o' := by
  intro xs
  induction xs with
  | nil => intro o o' _ _ h; exact h
  | cons x xs ih =>
    intro o o' ho ho' hle
    exact ih _ _ (stepV_in ho (valAt_in hU x)) (stepV_in ho' (valAt_in hV x)) (stepV_mono ho (valAt_in hU x) ho' (valAt_in hV x) hle (h x))
theorem combV_mono {s : Bool} {U V : List Int} (hU : AllV U) (hV : AllV V) (h : LeV U V) (xs : List Int) : combV s U xs ≤ combV s V xs := foldV_mono hU hV h xs 0 0 InV.zero InV.zero (Int.le_refl _)

/-- The value of a fact by an operator. -/
def opV (s : Bool) (V : List Int) (o : OpV) (c : Int) : Int := plusV (combV s V o.pre) c
theorem opV_in {s : Bool} {V : List Int} (h : AllV V) (o : OpV) {c : Int} (hc : InV c) : InV (opV s V o c) := plusV_in (combV_in h _) hc
theorem opV_mono {s : Bool} {U V : List Int} (hU : AllV U) (hV : AllV V) (h : LeV U V) (o : OpV) {c : Int} (hc : InV c) : opV s U o c ≤ opV s V o c :=
  plusV_mono (combV_in hU _) hc (combV_in hV _) hc (combV_mono hU hV h _) (Int.le_refl _)

/-- No operator lowers a value, among the first k operators. -/
def ClosedTo (s : Bool) (ops : List OpV) (cs : List Int) (k : Nat) (U : List Int) : Prop :=
  ∀ (i : Nat) (o : OpV) (c : Int), i < k → ops[i]? = some o → cs[i]? = some c → ∀ p ∈ o.add, valAt U p ≤ opV s U o c
structure Shape (n : Nat) (st : List Int) (U : List Int) : Prop where
  len : U.length = n
  all : AllV U
  zero : ∀ p ∈ st, valAt U p = 0
structure Fix (s : Bool) (n : Nat) (st : List Int) (ops : List OpV) (cs : List Int) (U : List Int) : Prop where
  shape : Shape n st U
  closed : ClosedTo s ops cs ops.length U
structure Above (s : Bool) (n : Nat) (st : List Int) (ops : List OpV) (cs : List Int) (V : List Int) : Prop where
  shape : Shape n st V
  great : ∀ U, Fix s n st ops cs U → LeV U V
structure Best (s : Bool) (n : Nat) (st : List Int) (ops : List OpV) (cs : List Int) (V : List Int) : Prop where
  fix : Fix s n st ops cs V
  great : ∀ U, Fix s n st ops cs U → LeV U V
/-- The values. -/
noncomputable def valuesV (s : Bool) (n : Nat) (st : List Int) (ops : List OpV) (cs : List Int) : List Int := @Classical.epsilon _ ⟨[]⟩ (Best s n st ops cs)

theorem valAt_getElem {U : List Int} {i : Nat} (h : i < U.length) : valAt U (i : Int) = U[i] := by
  unfold valAt; simp [h]
theorem eq_of_LeV {U V : List Int} (h : U.length = V.length) (h1 : LeV U V) (h2 : LeV V U) : U = V := by
  apply List.ext_getElem h
  intro i hi hj
  rw [← valAt_getElem hi, ← valAt_getElem hj]
  exact Int.le_antisymm (h1 _) (h2 _)
theorem best_eq {s : Bool} {n : Nat} {st : List Int} {ops : List OpV} {cs : List Int} {V : List Int} (h : Best s n st ops cs V) : V = valuesV s n st ops cs := by
  have h2 : Best s n st ops cs (valuesV s n st ops cs) := @Classical.epsilon_spec _ (Best s n st ops cs) ⟨V, h⟩
  exact eq_of_LeV (h.fix.shape.len.trans h2.fix.shape.len.symm) (h2.great _ h.fix) (h.great _ h2.fix)
theorem best_of {s : Bool} {n : Nat} {st : List Int} {ops : List OpV} {cs : List Int} {V : List Int} (h : Above s n st ops cs V) (hc : ClosedTo s ops cs ops.length V) : Best s n st ops cs V := ⟨⟨h.shape, hc⟩, h.great⟩
theorem values_best {s : Bool} {n : Nat} {st : List Int} {ops : List OpV} {cs : List Int} {V : List Int} (h : Best s n st ops cs V) : Best s n st ops cs (valuesV s n st ops cs) := by rw [← best_eq h]; exact h

theorem valAt_set {V : List Int} {i : Nat} {x p : Int} (h : i < V.length) : valAt (V.set i x) p = if p.toNat = i then x else valAt V p := by
  unfold valAt
  rw [List.getElem?_set]
  by_cases e : i = p.toNat
  · rw [if_pos e, if_pos h, if_pos e.symm]; rfl
  · rw [if_neg e, if_neg (fun k => e k.symm)]
theorem allV_set {V : List Int} (h : AllV V) (i : Nat) {x : Int} (hx : InV x) : AllV (V.set i x) := fun v hv => by
  rcases List.mem_or_eq_of_mem_set hv with h1 | h1
  · exact h v h1
  · subst h1; exact hx
def sumV (V : List Int) : Nat := (V.map Int.toNat).sum
theorem sum_set {V : List Int} : ∀ {i : Nat} {x y : Int}, V[i]? = some y → 0 ≤ x → x < y → sumV (V.set i x) < sumV V := by
  induction V with
  | nil => intro i x y h; simp at h
  | cons a V ih =>
    intro i x y h h0 hlt
    cases i with
    | zero => simp at h; subst h; simp [sumV]; omega
    | succ i => have := ih (by simpa using h) h0 hlt; simp only [sumV, List.set_cons_succ, List.map_cons, List.sum_cons] at *; omega
theorem LeV.trans {U V W : List Int} (h : LeV U V) (k : LeV V W) : LeV U W := fun p => Int.le_trans (h p) (k p)
theorem LeV.refl (U : List Int) : LeV U U := fun _ => Int.le_refl _
theorem LeV.set_ {V : List Int} {i : Nat} {x y : Int} (h : V[i]? = some y) (hx : x ≤ y) : LeV (V.set i x) V := fun p => by
  rw [valAt_set (List.getElem?_eq_some_iff.1 h).1]
  split
  · rename_i e; subst e; rw [valAt_of h]; exact hx
  · exact Int.le_refl _

/-- No post-fixed point is above v at the facts that an operator adds. -/
def Bound (s : Bool) (n : Nat) (st : List Int) (ops : List OpV) (cs : List Int) (o : OpV) (v : Int) : Prop := ∀ U, Fix s n st ops cs U → ∀ p ∈ o.add, valAt U p ≤ v
section
variable {s : Bool} {n : Nat} {st : List Int} {ops : List OpV} {cs V : List Int}
theorem bound_of (h : Above s n st ops cs V) {i : Nat} {o : OpV} {c : Int} (ho : ops[i]? = some o) (hc : cs[i]? = some c) (hcv : InV c) : Bound s n st ops cs o (opV s V o c) :=
  fun U hU p hp => Int.le_trans (hU.closed i o c (List.getElem?_eq_some_iff.1 ho).1 ho hc p hp) (opV_mono hU.shape.all h.shape.all (h.great U hU) o hcv)
theorem above_set (h : Above s n st ops cs V) {o : OpV} {v p y : Int} (hb : Bound s n st ops cs o v) (hp : p ∈ o.add) (hv : InV v) (hy : V[p.toNat]? = some y) (hlt : v < y) : Above s n st ops cs (V.set p.toNat v) := by
  have hl := (List.getElem?_eq_some_iff.1 hy).1
  refine ⟨⟨by rw [List.length_set]; exact h.shape.len, allV_set h.shape.all _ hv, fun q hq => ?_⟩, fun U hU q => ?_⟩
  · rw [valAt_set hl]
    split
    · rename_i e
      have h1 := h.shape.zero q hq
      rw [valAt_of (v := y) (by rw [e]; exact hy)] at h1
      unfold InV at hv
      omega
    · exact h.shape.zero q hq
  · rw [valAt_set hl]
    split
    · rename_i e
      have h1 := hb U hU p hp
      unfold valAt at h1 ⊢
      rw [e]; exact h1
    · exact h.great U hU q
end

/-- The values at the start. -/
def initV (n : Nat) (st : List Int) : List Int := (List.range n).map fun (p : Nat) => if (p : Int) ∈ st then (0 : Int) else 1000000000
theorem initV_len (n : Nat) (st : List Int) : (initV n st).length = n := by simp [initV]
theorem initV_get {n p : Nat} {st : List Int} (h : p < n) : (initV n st)[p]? = some (if (p : Int) ∈ st then 0 else 1000000000) := by simp [initV, h]
theorem initV_all (n : Nat) (st : List Int) : AllV (initV n st) := fun v hv => by
  obtain ⟨p, _, rfl⟩ := List.mem_map.1 hv
  split
  · exact InV.zero
  · exact InV.inf
theorem initV_above {s : Bool} {n : Nat} {st : List Int} {ops : List OpV} {cs : List Int} (hst : ∀ p ∈ st, 0 ≤ p ∧ p < (n : Int)) : Above s n st ops cs (initV n st) := by
  refine ⟨⟨initV_len n st, initV_all n st, fun p hp => ?_⟩, fun U hU p => ?_⟩
  · have h1 := hst p hp
    rw [valAt_of (initV_get (p := p.toNat) (by omega)), if_pos (by rw [Int.toNat_of_nonneg h1.1]; exact hp)]
  · have hU1 := valAt_in hU.shape.all p
    unfold InV at hU1
    rcases Nat.lt_or_ge p.toNat n with h | h
    · rw [valAt_of (initV_get h)]
      split
      · rename_i hm
        have h2 := hU.shape.zero _ hm
        unfold valAt at h2 ⊢
        simp only [Int.toNat_natCast] at h2
        omega
      · exact hU1.2
    · unfold valAt
      rw [List.getElem?_eq_none (by rw [hU.shape.len]; exact h), List.getElem?_eq_none (by rw [initV_len]; exact h)]
      exact Int.le_refl _

def init2 (n : Nat) (l : List Int) : List Int := l.foldl (fun vs p => vs.set p.toNat 0) (List.replicate n 1000000000)
theorem init2_nil (n : Nat) : init2 n [] = List.replicate n 1000000000 := rfl
theorem init2_succ {n k : Nat} {l : List Int} {x : Int} (h : l[k]? = some x) : init2 n (l.take (k + 1)) = (init2 n (l.take k)).set x.toNat 0 := by
  unfold init2
  rw [List.take_add_one, h]
  simp only [Option.toList, List.foldl_append, List.foldl_cons, List.foldl_nil]
theorem init2_len (n : Nat) (l : List Int) : (init2 n l).length = n := by
  have : ∀ (l : List Int) (vs : List Int), (l.foldl (fun vs p => vs.set p.toNat 0) vs).length = vs.length := by
    intro l
    induction l with
    | nil => intro vs; rfl
    | cons x l ih => intro vs; rw [List.foldl_cons, ih, List.length_set]
  unfold init2
  rw [this, List.length_replicate]
theorem init2_get : ∀ (l : List Int) (vs : List Int) (p : Nat), (∀ x ∈ l, 0 ≤ x) → p < vs.length → (l.foldl (fun vs p => vs.set p.toNat (0 : Int)) vs)[p]? = if (p : Int) ∈ l then some 0 else vs[p]? := by
  intro l
  induction l with
  | nil => intro vs p _ _; rfl
  | cons x l ih =>
    intro vs p h hp
    rw [List.foldl_cons, ih _ _ (fun y hy => h y (List.mem_cons_of_mem _ hy)) (by rw [List.length_set]; exact hp)]
    have hx := h x (List.mem_cons_self ..)
    by_cases e : (p : Int) ∈ l
    · rw [if_pos e, if_pos (List.mem_cons_of_mem _ e)]
    · rw [if_neg e, List.getElem?_set]
      by_cases e2 : x.toNat = p
      · rw [if_pos e2, if_pos (by omega), if_pos (by have : (p : Int) = x := by omega
                                                     rw [this]; exact List.mem_cons_self ..)]
      · rw [if_neg e2, if_neg (fun k => by
          rcases List.mem_cons.1 k with k | k
          · omega
          · exact e k)]
theorem init2_eq {n : Nat} {l : List Int} (h : ∀ p ∈ l, 0 ≤ p ∧ p < (n : Int)) : init2 n l = initV n l := by
  apply List.ext_getElem?
  intro p
  rcases Nat.lt_or_ge p n with hp | hp
  · rw [initV_get hp]
    unfold init2
    rw [init2_get l _ p (fun x hx => (h x hx).1) (by simpa using hp)]
    split
    · rfl
    · simp [hp]
  · rw [List.getElem?_eq_none (by rw [init2_len]; exact hp), List.getElem?_eq_none (by rw [initV_len]; exact hp)]
theorem fill_zero (n : Nat) (x y : Int) : List.replicate 0 x ++ List.replicate (n - 0) y = List.replicate n y := by simp
theorem fill_succ {n k : Nat} (h : k < n) (x y : Int) : (List.replicate k x ++ List.replicate (n - k) y).set k x = List.replicate (k + 1) x ++ List.replicate (n - (k + 1)) y := by
  apply List.ext_getElem?
  intro p
  simp only [List.getElem?_set, List.getElem?_append, List.getElem?_replicate, List.length_append, List.length_replicate]
  by_cases e : k = p
  · subst e; simp; omega
  · simp only [e, if_false]
    by_cases e1 : p < k
    · rw [if_pos e1, if_pos e1, if_pos (by omega), if_pos (by omega)]
    · rw [if_neg e1, if_neg (by omega : ¬ p < k + 1)]
      by_cases e2 : p < n
      · rw [if_pos (by omega), if_pos (by omega)]
      · rw [if_neg (by omega), if_neg (by omega)]
theorem fill_all {n k : Nat} (h : ¬ k < n) (hk : k ≤ n) (x y : Int) : List.replicate k x ++ List.replicate (n - k) y = List.replicate n x := by
  have : k = n := by omega
  subst this; simp
theorem fill_len {n k : Nat} (hk : k ≤ n) (x y : Int) : (List.replicate k x ++ List.replicate (n - k) y).length = n := by simp; omega
section
variable {s : Bool} {n : Nat} {st : List Int} {ops : List OpV} {cs V : List Int}
theorem closedTo_succ {k : Nat} {o : OpV} {c : Int} (h : ClosedTo s ops cs k V) (ho : ops[k]? = some o) (hc : cs[k]? = some c) (h2 : ∀ p ∈ o.add, valAt V p ≤ opV s V o c) : ClosedTo s ops cs (k + 1) V := by
  intro i o' c' hi ho' hc' p hp
  by_cases e : i = k
  · subst e
    rw [ho] at ho'; injection ho' with ho'; subst ho'
    rw [hc] at hc'; injection hc' with hc'; subst hc'
    exact h2 p hp
  · exact h i o' c' (by omega) ho' hc' p hp
theorem closedTo_zero : ClosedTo s ops cs 0 V := fun i o c hi => absurd hi (by omega)
end

end Go.Proofs.Ytihkgdlanfemcaa

namespace Go.Proofs.Ytihkgdlanfemcaa
set_option linter.unusedVariables false
set_option linter.unusedSimpArgs false

/-- The facts that operators, for which use holds, reach without deletions. -/
inductive Reach (st : List Int) (ops : List OpV) (use : Nat → Bool) : Int → Prop
  | init {p : Int} : p ∈ st → Reach st ops use p
  | step {p : Int} {i : Nat} {o : OpV} : ops[i]? = some o → use i = true → (∀ q ∈ o.pre, Reach st ops use q) → p ∈ o.add → Reach st ops use p
theorem Reach.mono {st st' : List Int} {ops : List OpV} {use use' : Nat → Bool} (h1 : ∀ p ∈ st, p ∈ st') (h2 : ∀ i, use i = true → use' i = true) {p : Int} (h : Reach st ops use p) : Reach st' ops use' p := by
  induction h with
  | init h => exact .init (h1 _ h)
  | step h1 h3 _ h4 ih => exact .step h1 (h2 _ h3) ih h4
open Classical in
noncomputable def closeV (n : Nat) (st : List Int) (ops : List OpV) (use : Nat → Bool) : List Bool := (List.range n).map fun (p : Nat) => decide (Reach st ops use (p : Int))
theorem closeV_len (n : Nat) (st : List Int) (ops : List OpV) (use : Nat → Bool) : (closeV n st ops use).length = n := by simp [closeV]
theorem closeV_get {n p : Nat} {st : List Int} {ops : List OpV} {use : Nat → Bool} (h : p < n) : (closeV n st ops use)[p]? = some true ↔ Reach st ops use (p : Int) := by simp [closeV, h]

def falses (bs : List Bool) : Nat := (bs.map fun b => if b then 0 else 1).sum
theorem falses_set {bs : List Bool} : ∀ {i : Nat}, bs[i]? = some false → falses (bs.set i true) < falses bs := by
  induction bs with
  | nil => intro i h; simp at h
  | cons b bs ih =>
    intro i h
    cases i with
    | zero => simp at h; subst h; simp [falses]
    | succ i => have := ih (by simpa using h); simp only [falses, List.set_cons_succ, List.map_cons, List.sum_cons] at *; omega
/-- What is true so far can be reached; the state is true. -/
structure Sound (n : Nat) (st : List Int) (ops : List OpV) (use : Nat → Bool) (bs : List Bool) : Prop where
  len : bs.length = n
  init : ∀ p ∈ st, bs[p.toNat]? = some true
  sound : ∀ p : Nat, bs[p]? = some true → Reach st ops use (p : Int)
def ClosedB (ops : List OpV) (use : Nat → Bool) (k : Nat) (bs : List Bool) : Prop :=
  ∀ (i : Nat) (o : OpV), i < k → ops[i]? = some o → use i = true → (∀ q ∈ o.pre, bs[q.toNat]? = some true) → ∀ p ∈ o.add, bs[p.toNat]? = some true
section
variable {n : Nat} {st : List Int} {ops : List OpV} {use : Nat → Bool} {bs : List Bool}
theorem Sound.set_ (h : Sound n st ops use bs) {i : Nat} {o : OpV} (ho : ops[i]? = some o) (hu : use i = true) (hpre : ∀ q ∈ o.pre, Reach st ops use q) {p : Int} (hp : p ∈ o.add) (p0 : 0 ≤ p) : Sound n st ops use (bs.set p.toNat true) := by
  refine ⟨by rw [List.length_set]; exact h.len, fun q hq => ?_, fun q hq => ?_⟩
  · have := h.init q hq
    rw [List.getElem?_set]
    split
    · rename_i e
      rw [if_pos (by rw [e]; exact (List.getElem?_eq_some_iff.1 this).1)]
    · exact this
  · rw [List.getElem?_set] at hq
    split at hq
    · rename_i e
      subst e
      rw [Int.toNat_of_nonneg p0]
      exact .step ho hu hpre hp
    · exact h.sound q hq
theorem Sound.pre (h : Sound n st ops use bs) {xs : List Int} (hx : ∀ q ∈ xs, bs[q.toNat]? = some true) (h0 : ∀ q ∈ xs, 0 ≤ q) : ∀ q ∈ xs, Reach st ops use q := fun q hq => by
  have := h.sound _ (hx q hq)
  rwa [Int.toNat_of_nonneg (h0 q hq)] at this
theorem Sound.all (h : Sound n st ops use bs) (hc : ClosedB ops use ops.length bs) {p : Int} (hr : Reach st ops use p) : bs[p.toNat]? = some true := by
  induction hr with
  | init hp => exact h.init _ hp
  | step ho hu _ hp ih => exact hc _ _ (List.getElem?_eq_some_iff.1 ho).1 ho hu ih _ hp
theorem Sound.eq (h : Sound n st ops use bs) (hc : ClosedB ops use ops.length bs) : bs = closeV n st ops use := by
  apply List.ext_getElem?
  intro p
  rcases Nat.lt_or_ge p n with hp | hp
  · have h1 : bs[p]? = some true ↔ (closeV n st ops use)[p]? = some true := by
      rw [closeV_get hp]
      exact ⟨h.sound p, fun hr => by have := h.all hc hr; simpa using this⟩
    obtain ⟨a, ha⟩ : ∃ a, bs[p]? = some a := ⟨_, List.getElem?_eq_getElem (by rw [h.len]; exact hp)⟩
    obtain ⟨b, hb⟩ : ∃ b, (closeV n st ops use)[p]? = some b := ⟨_, List.getElem?_eq_getElem (by rw [closeV_len]; exact hp)⟩
    rw [ha, hb] at h1 ⊢
    cases a <;> cases b <;> simp_all
  · rw [List.getElem?_eq_none (by rw [h.len]; exact hp), List.getElem?_eq_none (by rw [closeV_len]; exact hp)]
/-- The bools at the start. -/
def init3 (n : Nat) (l : List Int) : List Bool := l.foldl (fun bs p => bs.set p.toNat true) (List.replicate n false)
theorem init3_succ {n k : Nat} {l : List Int} {x : Int} (h : l[k]? = some x) : init3 n (l.take (k + 1)) = (init3 n (l.take k)).set x.toNat true := by
  unfold init3
  rw [List.take_add_one, h]
  simp only [Option.toList, List.foldl_append, List.foldl_cons, List.foldl_nil]
theorem init3_len (n : Nat) (l : List Int) : (init3 n l).length = n := by
  have : ∀ (l : List Int) (vs : List Bool), (l.foldl (fun bs p => bs.set p.toNat true) vs).length = vs.length := by
    intro l
    induction l with
    | nil => intro vs; rfl
    | cons x l ih => intro vs; rw [List.foldl_cons, ih, List.length_set]
  unfold init3
  rw [this, List.length_replicate]
theorem init3_get : ∀ (l : List Int) (vs : List Bool) (p : Nat), (∀ x ∈ l, 0 ≤ x) → p < vs.length → (l.foldl (fun bs p => bs.set p.toNat true) vs)[p]? = if (p : Int) ∈ l then some true else vs[p]? := by
  intro l
  induction l with
  | nil => intro vs p _ _; rfl
  | cons x l ih =>
    intro vs p h hp
    rw [List.foldl_cons, ih _ _ (fun y hy => h y (List.mem_cons_of_mem _ hy)) (by rw [List.length_set]; exact hp)]
    have hx := h x (List.mem_cons_self ..)
    by_cases e : (p : Int) ∈ l
    · rw [if_pos e, if_pos (List.mem_cons_of_mem _ e)]
    · rw [if_neg e, List.getElem?_set]
      by_cases e2 : x.toNat = p
      · have e3 : (p : Int) = x := by omega
        rw [if_pos e2, if_pos (by omega), if_pos (by rw [e3]; exact List.mem_cons_self ..)]
      · rw [if_neg e2, if_neg (fun k => by
          rcases List.mem_cons.1 k with k | k
          · omega
          · exact e k)]
theorem init3_sound (h : ∀ p ∈ st, 0 ≤ p ∧ p < (n : Int)) : Sound n st ops use (init3 n st) := by
  refine ⟨init3_len n st, fun p hp => ?_, fun p hp => ?_⟩
  · have := h p hp
    unfold init3
    rw [init3_get st _ p.toNat (fun x hx => (h x hx).1) (by simp; omega), Int.toNat_of_nonneg this.1, if_pos hp]
  · have hl := (List.getElem?_eq_some_iff.1 hp).1
    rw [init3_len] at hl
    unfold init3 at hp
    rw [init3_get st _ p (fun x hx => (h x hx).1) (by simpa using hl)] at hp
    split at hp
    · rename_i hm; exact .init hm
    · simp [hl] at hp
end

end Go.Proofs.Ytihkgdlanfemcaa

namespace Go.Proofs.Ytihkgdlanfemcaa
set_option linter.unusedVariables false
set_option linter.unusedSimpArgs false
/-- What is reached, as a list. -/
noncomputable def withinV (n : Nat) (st : List Int) (ops : List OpV) (use : Nat → Bool) : List Int := (((List.range n).filter fun (p : Nat) => @decide (Reach st ops use (p : Int)) (Classical.propDecidable _)).map fun (p : Nat) => (p : Int))
section
variable {n : Nat} {st : List Int} {ops : List OpV} {use : Nat → Bool}
theorem withinV_mem {x : Int} : x ∈ withinV n st ops use ↔ 0 ≤ x ∧ x < (n : Int) ∧ Reach st ops use x := by
  unfold withinV
  rw [List.mem_map]
  constructor
  · rintro ⟨p, hp, rfl⟩
    rw [List.mem_filter, List.mem_range] at hp
    exact ⟨by omega, by omega, (@decide_eq_true_iff _ (Classical.propDecidable _)).1 hp.2⟩
  · rintro ⟨h0, h1, h2⟩
    refine ⟨x.toNat, ?_, by omega⟩
    rw [List.mem_filter, List.mem_range]
    exact ⟨by omega, (@decide_eq_true_iff _ (Classical.propDecidable _)).2 (by rw [Int.toNat_of_nonneg h0]; exact h2)⟩
theorem withinV_set : SetP (withinV n st ops use) (n : Int) := by
  refine SetP.of_pairwise (fun x hx => ⟨(withinV_mem.1 hx).1, (withinV_mem.1 hx).2.1⟩) ?_
  unfold withinV
  rw [List.pairwise_map]
  exact (List.pairwise_lt_range.filter _).imp (fun h => by omega)
/-- What the reference has found so far. -/
structure SoundL (n : Nat) (st : List Int) (ops : List OpV) (use : Nat → Bool) (l : List Int) : Prop where
  set : SetP l (n : Int)
  init : ∀ p ∈ st, p ∈ l
  sound : ∀ p ∈ l, Reach st ops use p
def ClosedL (ops : List OpV) (use : Nat → Bool) (k : Nat) (l : List Int) : Prop :=
  ∀ (i : Nat) (o : OpV), i < k → ops[i]? = some o → use i = true → (∀ q ∈ o.pre, q ∈ l) → ∀ p ∈ o.add, p ∈ l
theorem closedL_zero {l : List Int} : ClosedL ops use 0 l := fun i o hi => absurd hi (by omega)
theorem closedL_succ {l : List Int} {k : Nat} {o : OpV} (h : ClosedL ops use k l) (ho : ops[k]? = some o) (h2 : use k = true → (∀ q ∈ o.pre, q ∈ l) → ∀ p ∈ o.add, p ∈ l) : ClosedL ops use (k + 1) l := by
  intro i o' hi ho' hu hq
  by_cases e : i = k
  · subst e
    rw [ho] at ho'; injection ho' with ho'; subst ho'
    exact h2 hu hq
  · exact h i o' (by omega) ho' hu hq
theorem SoundL.start (hs : SetP st (n : Int)) : SoundL n st ops use st := ⟨hs, fun _ h => h, fun _ h => .init h⟩
theorem SoundL.eq {l : List Int} (h : SoundL n st ops use l) (hc : ClosedL ops use ops.length l) : l = withinV n st ops use := by
  refine SetP.ext h.set withinV_set fun x => ?_
  rw [withinV_mem]
  constructor
  · intro hx; exact ⟨(h.set.1 x hx).1, (h.set.1 x hx).2, h.sound x hx⟩
  · rintro ⟨hx0, hx1, hr⟩
    clear hx0 hx1
    induction hr with
    | init hp => exact h.init _ hp
    | step ho hu _ hp ih => exact hc _ _ (List.getElem?_eq_some_iff.1 ho).1 ho hu ih _ hp
/-- A list that is sound and contains a closed one is the whole. -/
theorem SoundL.eq_of_sub {l l' : List Int} (h : SoundL n st ops use l') (hl : l = withinV n st ops use) (hs : ∀ x ∈ l, x ∈ l') : l' = withinV n st ops use := by
  refine SetP.ext h.set withinV_set fun x => ⟨fun hx => ?_, fun hx => hs x (by rw [hl]; exact hx)⟩
  rw [withinV_mem]
  exact ⟨(h.set.1 x hx).1, (h.set.1 x hx).2, h.sound x hx⟩
theorem SoundL.len {l : List Int} (h : SoundL n st ops use l) : l.length ≤ n := by
  have := h.set.length (by omega)
  omega
/-- One pass over the operators. -/
structure Pass (ops : List OpV) (use : Nat → Bool) (k : Nat) (l0 l : List Int) : Prop where
  sub : ∀ x ∈ l0, x ∈ l
  le : l0.length ≤ l.length
  lt : l ≠ l0 → l0.length < l.length
  closed : l = l0 → ClosedL ops use k l
theorem Pass.start (l : List Int) : Pass ops use 0 l l := ⟨fun _ h => h, Nat.le_refl _, fun h => absurd rfl h, fun _ => closedL_zero⟩
theorem Pass.succ {k : Nat} {l0 l : List Int} {o : OpV} (h : Pass ops use k l0 l) (ho : ops[k]? = some o) (h2 : l = l0 → use k = true → (∀ q ∈ o.pre, q ∈ l) → ∀ p ∈ o.add, p ∈ l) : Pass ops use (k + 1) l0 l :=
  ⟨h.sub, h.le, h.lt, fun e => closedL_succ (h.closed e) ho (h2 e)⟩
/-- After r rounds. -/
def Rounds (n : Nat) (st : List Int) (ops : List OpV) (use : Nat → Bool) (r : Nat) (l : List Int) : Prop := l = withinV n st ops use ∨ r ≤ l.length
theorem Rounds.succ {r : Nat} {l0 l : List Int} (h : Rounds n st ops use r l0) (hs : SoundL n st ops use l) (hp : Pass ops use ops.length l0 l) : Rounds n st ops use (r + 1) l := by
  rcases h with h | h
  · exact .inl (hs.eq_of_sub h hp.sub)
  · by_cases e : l = l0
    · exact .inl (hs.eq (hp.closed e))
    · exact .inr (by have := hp.lt e; omega)
end

end Go.Proofs.Ytihkgdlanfemcaa

namespace Go.Proofs.Ytihkgdlanfemcaa
set_option linter.unusedVariables false
set_option linter.unusedSimpArgs false

theorem plusV_inf_iff {a b : Int} (ha : InV a) (hb : InV b) : plusV a b = 1000000000 ↔ a = 1000000000 ∨ b = 1000000000 := by
  unfold InV at ha hb
  unfold plusV
  by_cases h : a = 1000000000 ∨ b = 1000000000
  · simp [h]
  · rw [if_neg h]
    constructor
    · intro k
      split at k <;> omega
    · intro k; exact absurd k h
theorem stepV_inf_iff {s : Bool} {a b : Int} (ha : InV a) (hb : InV b) : stepV s a b = 1000000000 ↔ a = 1000000000 ∨ b = 1000000000 := by
  cases s
  · unfold InV at ha hb
    unfold stepV; dsimp only
    split <;> omega
  · exact plusV_inf_iff ha hb
theorem foldV_inf {s : Bool} {vs : List Int} (h : AllV vs) : ∀ (xs : List Int) (o : Int), InV o →
    (xs.foldl (fun o p => stepV s o (valAt vs p)) o = 1000000000 ↔ o = 1000000000 ∨ ∃ x ∈ xs, valAt vs x = 1000000000) := by
  intro xs
  induction xs with
  | nil => intro o _; simp
  | cons x xs ih =>
    intro o ho
    rw [List.foldl_cons, ih _ (stepV_in ho (valAt_in h x)), stepV_inf_iff ho (valAt_in h x)]
    constructor
    · rintro ((h1 | h1) | ⟨y, hy, h1⟩)
      · exact .inl h1
      · exact .inr ⟨x, List.mem_cons_self .., h1⟩
      · exact .inr ⟨y, List.mem_cons_of_mem _ hy, h1⟩
    · rintro (h1 | ⟨y, hy, h1⟩)
      · exact .inl (.inl h1)
      · rcases List.mem_cons.1 hy with e | e
        · subst e; exact .inl (.inr h1)
        · exact .inr ⟨y, e, h1⟩
theorem combV_inf {s : Bool} {vs : List Int} (h : AllV vs) (xs : List Int) : combV s vs xs = 1000000000 ↔ ∃ x ∈ xs, valAt vs x = 1000000000 := by
  unfold combV
  rw [foldV_inf h xs 0 InV.zero]
  constructor
  · rintro (h | h)
    · omega
    · exact h
  · exact .inr
section
variable {n : Nat} {st : List Int} {ops : List OpV} {cs V U : List Int}
end

end Go.Proofs.Ytihkgdlanfemcaa

namespace Go.Proofs.Ytihkgdlanfemcaa
set_option linter.unusedVariables false
set_option linter.unusedSimpArgs false

/-- The state after an operator. -/
def nextV (n : Nat) (s : List Int) (o : OpV) : List Int := ((List.range n).map fun (p : Nat) => (p : Int)).filter fun p => decide (p ∈ o.add ∨ (p ∈ s ∧ p ∉ o.del))
theorem nextV_mem {n : Nat} {s : List Int} {o : OpV} {x : Int} : x ∈ nextV n s o ↔ (0 ≤ x ∧ x < (n : Int)) ∧ (x ∈ o.add ∨ (x ∈ s ∧ x ∉ o.del)) := by
  unfold nextV
  rw [List.mem_filter, List.mem_map]
  simp only [decide_eq_true_eq, List.mem_range]
  constructor
  · rintro ⟨⟨a, h, rfl⟩, h2⟩
    exact ⟨⟨by omega, by omega⟩, h2⟩
  · rintro ⟨⟨h0, h1⟩, h2⟩
    exact ⟨⟨x.toNat, by omega, by omega⟩, h2⟩
theorem nextV_set (n : Nat) (s : List Int) (o : OpV) : SetP (nextV n s o) n := by
  refine SetP.of_pairwise (fun x hx => (nextV_mem.1 hx).1) ?_
  unfold nextV
  refine List.Pairwise.filter _ ?_
  rw [List.pairwise_map]
  exact List.Pairwise.imp (fun h => by omega) List.pairwise_lt_range
/-- An operator is applicable. -/
def CanV (ops : List OpV) (s : List Int) (op : Int) : Prop := ∃ o, ops[op.toNat]? = some o ∧ ∀ q ∈ o.pre, q ∈ s
/-- The operator, if there is one. -/
def opAt (ops : List OpV) (op : Int) : OpV := (ops[op.toNat]?).getD ⟨[], [], [], 0⟩
theorem opAt_of {ops : List OpV} {op : Int} {o : OpV} (h : ops[op.toNat]? = some o) : opAt ops op = o := by unfold opAt; rw [h]; rfl
/-- The states of a plan, as far as its steps are applicable. -/
noncomputable def runV (n : Nat) (ops : List OpV) : List Int → List Int → List (List Int)
  | s, [] => [s]
  | s, op :: plan => @ite _ (CanV ops s op) (Classical.propDecidable _) (s :: runV n ops (nextV n s (opAt ops op)) plan) [s]
section
variable {n : Nat} {ops : List OpV}
theorem runV_nil (s : List Int) : runV n ops s [] = [s] := by unfold runV; rfl
theorem runV_yes {s plan : List Int} {op : Int} (h : CanV ops s op) : runV n ops s (op :: plan) = s :: runV n ops (nextV n s (opAt ops op)) plan := by
  rw [runV]; exact if_pos h
theorem runV_no {s plan : List Int} {op : Int} (h : ¬ CanV ops s op) : runV n ops s (op :: plan) = [s] := by
  rw [runV]; exact if_neg h
theorem runV_head : ∀ (plan s : List Int), (runV n ops s plan)[0]? = some s
  | [], s => by rw [runV_nil]; rfl
  | op :: plan, s => by
    by_cases h : CanV ops s op
    · rw [runV_yes h]; rfl
    · rw [runV_no h]; rfl
/-- From a state to the next one. -/
theorem runV_step : ∀ (plan s : List Int) (i : Nat) (r' : List Int), (runV n ops s plan)[i + 1]? = some r' → ∃ op r, plan[i]? = some op ∧ (runV n ops s plan)[i]? = some r ∧ CanV ops r op ∧ r' = nextV n r (opAt ops op)
  | [], s, i, r', h => by rw [runV_nil] at h; simp at h
  | op :: plan, s, i, r', h => by
    by_cases hc : CanV ops s op
    · rw [runV_yes hc] at h ⊢
      rw [List.getElem?_cons_succ] at h
      cases i with
      | zero =>
        rw [runV_head] at h
        injection h with h
        exact ⟨op, s, rfl, rfl, hc, h.symm⟩
      | succ i =>
        obtain ⟨op', r, h1, h2, h3, h4⟩ := runV_step plan _ i r' h
        exact ⟨op', r, by simpa using h1, by simpa using h2, h3, h4⟩
    · rw [runV_no hc] at h; simp at h
end

end Go.Proofs.Ytihkgdlanfemcaa

namespace Go.Proofs.Ytihkgdlanfemcaa
open Go.RowKit
set_option linter.unusedVariables false
set_option linter.unusedSimpArgs false

/-- A set as a word. -/
def wordV : List Int → Int
  | [] => 0
  | x :: l => 2 ^ x.toNat + wordV l
theorem wordV_app (l m : List Int) : wordV (l ++ m) = wordV l + wordV m := by
  induction l with
  | nil => simp [wordV]
  | cons x l ih => simp only [List.cons_append, wordV, ih]; omega
theorem wordV_succ {l : List Int} {k : Nat} {x : Int} (h : l[k]? = some x) : wordV (l.take (k + 1)) = wordV (l.take k) + 2 ^ x.toNat := by
  rw [List.take_add_one, h, wordV_app]; simp [wordV]
theorem wordV_nn (l : List Int) : 0 ≤ wordV l := by
  induction l with
  | nil => exact Int.le_refl _
  | cons x l ih =>
    have : (0 : Int) ≤ 2 ^ x.toNat := Int.pow_nonneg (by decide)
    simp only [wordV]; omega
theorem wordV_split {n : Nat} : ∀ {l : List Int}, l.Nodup → (∀ x ∈ l, 0 ≤ x ∧ x ≤ (n : Int)) → wordV l = wordV (l.filter fun x => decide (x < (n : Int))) + (if (n : Int) ∈ l then 2 ^ n else 0)
  | [], _, _ => by simp [wordV]
  | x :: l, hd, hx => by
    obtain ⟨hd1, hd2⟩ := List.nodup_cons.1 hd
    have ih := wordV_split (n := n) hd2 (fun y hy => hx y (List.mem_cons_of_mem _ hy))
    have h0 := hx x (List.mem_cons_self ..)
    by_cases e : x = (n : Int)
    · subst e
      rw [if_neg hd1] at ih
      rw [List.filter_cons_of_neg (by simp), if_pos (List.mem_cons_self ..)]
      simp only [wordV, Int.toNat_natCast]
      omega
    · rw [List.filter_cons_of_pos (by simp; omega)]
      have e2 : ((n : Int) ∈ x :: l) ↔ (n : Int) ∈ l := ⟨fun h => by rcases List.mem_cons.1 h with h | h; exact absurd h.symm e; exact h, fun h => List.mem_cons_of_mem _ h⟩
      simp only [wordV, e2]
      omega
theorem wordV_lt : ∀ (n : Nat) {l : List Int}, l.Nodup → (∀ x ∈ l, 0 ≤ x ∧ x < (n : Int)) → wordV l < 2 ^ n
  | 0, l, _, hx => by
    cases l with
    | nil => simp [wordV]
    | cons x l => have := hx x (List.mem_cons_self ..); omega
  | n + 1, l, hd, hx => by
    have h1 := wordV_split (n := n) hd (fun x h => by have := hx x h; omega)
    have h2 := wordV_lt n (l := l.filter fun x => decide (x < (n : Int))) (hd.filter _) (fun x h => by
      have h3 := List.mem_filter.1 h
      have := hx x h3.1
      simp at h3
      omega)
    have h3 : (2 : Int) ^ (n + 1) = 2 ^ n + 2 ^ n := by rw [Int.pow_succ]; omega
    have h4 : (0 : Int) < 2 ^ n := Int.pow_pos (by decide)
    rw [h1, h3]
    split <;> omega
theorem wordV_inj : ∀ (n : Nat) {a b : List Int}, a.Nodup → b.Nodup → (∀ x ∈ a, 0 ≤ x ∧ x < (n : Int)) → (∀ x ∈ b, 0 ≤ x ∧ x < (n : Int)) → wordV a = wordV b → ∀ x, x ∈ a ↔ x ∈ b
  | 0, a, b, _, _, ha, hb, _, x => ⟨fun h => by have := ha x h; omega, fun h => by have := hb x h; omega⟩
  | n + 1, a, b, da, db, ha, hb, he, x => by
    have fa : ∀ x ∈ a.filter (fun x => decide (x < (n : Int))), 0 ≤ x ∧ x < (n : Int) := fun x h => by
      have h3 := List.mem_filter.1 h
      have := ha x h3.1
      simp at h3
      omega
    have fb : ∀ x ∈ b.filter (fun x => decide (x < (n : Int))), 0 ≤ x ∧ x < (n : Int) := fun x h => by
      have h3 := List.mem_filter.1 h
      have := hb x h3.1
      simp at h3
      omega
    have h1 := wordV_split (n := n) da (fun x h => by have := ha x h; omega)
    have h2 := wordV_split (n := n) db (fun x h => by have := hb x h; omega)
    have l1 := wordV_lt n (da.filter _) fa
    have l2 := wordV_lt n (db.filter _) fb
    have n1 := wordV_nn (a.filter fun x => decide (x < (n : Int)))
    have n2 := wordV_nn (b.filter fun x => decide (x < (n : Int)))
    have key : ((n : Int) ∈ a ↔ (n : Int) ∈ b) ∧ wordV (a.filter fun x => decide (x < (n : Int))) = wordV (b.filter fun x => decide (x < (n : Int))) := by
      by_cases ea : (n : Int) ∈ a <;> by_cases eb : (n : Int) ∈ b <;> simp only [ea, eb, if_true, if_false, true_iff, iff_true, false_iff, iff_false, true_and, not_true_eq_false, not_false_eq_true, false_and] at h1 h2 ⊢ <;> omega
    have ih := wordV_inj n (da.filter _) (db.filter _) fa fb key.2 x
    rcases Int.lt_trichotomy x (n : Int) with h | h | h
    · simp only [List.mem_filter, decide_eq_true_eq, h, and_true] at ih
      exact ih
    · rw [h]; exact key.1
    · exact ⟨fun k => by have := ha x k; omega, fun k => by have := hb x k; omega⟩
theorem SetP.nodup {l : List Int} {n : Int} (h : SetP l n) : l.Nodup := (SetP.pairwise h).imp (fun h => by omega)
theorem word_bound {s : List Int} {n : Nat} (h : SetP s (n : Int)) (hn : n ≤ 24) (k : Nat) : wordV (s.take k) ≤ 16777216 := by
  have h1 := wordV_lt 24 (l := s.take k) (List.Nodup.sublist (List.take_sublist _ _) h.nodup) (fun x hx => by have := h.1 x (List.mem_of_mem_take hx); omega)
  have : (2 : Int) ^ 24 = 16777216 := by decide
  omega
/-- Two sets with one word are equal. -/
theorem word_inj {a b : List Int} {n : Nat} (ha : SetP a (n : Int)) (hb : SetP b (n : Int)) (h : wordV a = wordV b) : a = b :=
  ha.ext hb (wordV_inj n ha.nodup hb.nodup ha.1 hb.1 h)
set_option maxRecDepth 100000 in
set_option maxHeartbeats 400000 in
theorem word_any (A : Option Addr) (c : Nat) (s : List Int) (w : World) (hI : Ints w A s) (n : Nat) (hs : SetP s (n : Int)) (hn : n ≤ 24) :
    Calls Try.prog 53 #[.slice A s.length c] w fun e w' => e = .returned (.int .i64 (wordV s)) ∧ w = w' := by
  have HX := Lib.hid hs.1
  have HB := Lib.hid (word_bound hs hn)
  have hl : s.length ≤ 9223372036854775807 := by have := SetP.length hs (by omega); omega
  clear hs
  go_enter Try.func53, Try.ntmps53
  go_wp2
  go_loop [3, 4] (fun a i => ∃ k : Nat, k ≤ s.length ∧ i = .int .i64 k ∧ a = .int .i64 (wordV (s.take k))) (fun _ i => s.length - (intOf i).toNat)
  case atStart => exact ⟨0, Nat.zero_le _, rfl, rfl⟩
  case round =>
    obtain ⟨k, hk, rfl, rfl⟩ := hrel
    by_cases hlt : k < s.length
    · obtain ⟨ad, x, rfl, hx, hc⟩ := hI.at_ hlt
      obtain ⟨x0, x1⟩ := HX.out x (List.mem_of_getElem? hx.out)
      have HS := Lib.hid (wordV_succ hx.out)
      have hy0 : (0 : Int) ≤ 2 ^ x.toNat := Int.pow_nonneg (by decide)
      have hb1 := HB.out (k + 1)
      have hn0 := wordV_nn (s.take k)
      rw [HS.out] at hb1
      go_wp2
      go_round
      case rel =>
        refine ⟨k + 1, by omega, by go_num, ?_⟩
        rw [HS.out]
        all_goals go_num
      case measure => simp [intOf]; omega
    · have hall := Lib.hid (show s.take k = s from List.take_of_length_le (by omega))
      rw [hall.out]
      go_wp2
      go_ret
      exact ⟨rfl, rfl⟩


end Go.Proofs.Ytihkgdlanfemcaa
