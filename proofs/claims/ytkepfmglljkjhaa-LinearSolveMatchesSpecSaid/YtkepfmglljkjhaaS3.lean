/-
  fraction.gcd: the greatest divisor of two numbers, by remainders. For numbers of at most 2^62 in absolute value.
  The greatest divisor of a vector: plain.
  linear.gcd: the greatest divisor of two numbers, by remainders. For numbers of at most 2^62 in absolute value.
  Lists of integers that stand for sets: plain facts, no program in sight.
  Functions on lists of integers: Has, Ints, Subset, Disjoint, In, At, both IsSet, slices.Index and Contains: what they return.
  Both IsSet: whether a list is strictly increasing within bounds.
  slices.BinarySearch in a strictly increasing list; slices.Index, Contains, IndexFunc, ContainsFunc; strips.Meets.
  strips.Meets; slices.Index and Contains; relaxed.All: what they return.
  slices.Contains leaves the world as it is.
  Values of facts without deletions: plain words, no program in sight.
  The greatest values of facts that no operator can lower: a plain law: they are one, and both programs come to them.
  What can be reached without deletions: a plain law.
  A set with a number added; what is reached, as a list: plain laws.
  Plain laws of the values: greatest values are at most the sums; both are infinite for the same facts.
  The states of a plan: a plain law.
  R.Word: what it returns.
  Validate and TaskFault: the fault of a task.
  strips.Validate: the fault of a task.
  The reference's TaskFault; both StateFault: the fault of a task, of a task with a state.
  Both StateFault; relaxed.Costs: what they return.
  Sums and greatest values, the program's and the reference's: what they return.
  relaxed.Values: what it returns.
  FactValues, the reference's: what it returns.
  OwnCosts, GoalValue; estimate, Max, Add: what they return.
  relaxed.Close: what it returns.
  estimate, Max, Add: what they return.
  Max, Add, Reachable: what they return.
  R.Copy, R.With: what they return.
  S.Within: what it returns.
  two, relaxedExample: what they return.
  fraction.Validate, fraction.reduce, fraction.Make: what they return, for all numbers (reduce: of at most 2^62 in absolute value, the second not 0).
  fraction.Make of numbers that it takes.
  The reference's Divisor, FractionCode, Lowest.
-/
import Derived.Test.YtkepfmglljkjhaaS1
import Derived.Test.YtkepfmglljkjhaaS2
import Init
namespace Go.Proofs.Ytkepfmglljkjhaa
open Go.RowKit
set_option linter.unusedVariables false
set_option linter.unusedSimpArgs false

set_option maxHeartbeats 400000 in
theorem gcd_any (a b : Int) (w : World) (ha : -4611686018427387904 ≤ a ∧ a ≤ 4611686018427387904) (hb : -4611686018427387904 ≤ b ∧ b ≤ 4611686018427387904) :
    Calls Try.prog 57 #[.int .i64 a, .int .i64 b] w fun e w' => e = .returned (.int .i64 (Int.gcd a b)) ∧ Below w.heap.size w w' := by
  go_enter Try.func57, Try.ntmps57
  go_wp2
  go_loopw [0, 1] (fun x y wr => ∃ m n : Int, x = .int .i64 m ∧ y = .int .i64 n ∧ Int.gcd m n = Int.gcd a b ∧ (-4611686018427387904 ≤ m ∧ m ≤ 4611686018427387904) ∧ (-4611686018427387904 ≤ n ∧ n ≤ 4611686018427387904) ∧ Below w.heap.size w wr) (fun _ y _ => (intOf y).natAbs)
  case atStart => exact ⟨a, b, rfl, rfl, rfl, ha, hb, Below.refl _ _⟩
  case round =>
    obtain ⟨m, n, rfl, rfl, hg, hm, hn, hB⟩ := hrel
    have hm1 := hm.1
    have hm2 := hm.2
    have hn1 := hn.1
    have hn2 := hn.2
    have HG := Lib.hid hg
    have HB := Lib.hid hB
    clear hg hm hn hB
    by_cases hz : n = 0
    · subst hz
      have e : (Int.gcd a b : Int) = m.natAbs := by rw [← HG.out]; simp
      have HE := Lib.hid e
      clear e
      go_wp2
      all_goals
        go_ret
        exact ⟨ret_int (by rw [HE.out]; omega), HB.out⟩
    · have hz' : (n == 0) = false := by simpa using hz
      have hb := tmod_bd m n hz
      have hb1 : -9223372036854775808 ≤ m.tmod n := by omega
      have hb2 : m.tmod n ≤ 9223372036854775807 := by omega
      have ht := gcd_tmod m n
      rw [HG.out] at ht
      have HT := Lib.hid ht
      clear ht
      go_wp2
      go_quiet (fail)
      go_wp2
      go_roundw
      case rel => exact ⟨n, m.tmod n, rfl, rfl, HT.out, by omega, by omega, below_drewN HB.out _⟩
      case measure => simp only [intOf]; exact hb

end Go.Proofs.Ytkepfmglljkjhaa

namespace Go.Proofs.Ytkepfmglljkjhaa
open Go.RowKit
set_option linter.unusedVariables false
set_option linter.unusedSimpArgs false

def vgcd (d : Int) (xs : List Int) : Int := xs.foldl (fun a x => ((Int.gcd a x : Nat) : Int)) d
theorem vgcd_cons (d x : Int) (xs : List Int) : vgcd d (x :: xs) = vgcd ((Int.gcd d x : Nat) : Int) xs := rfl
theorem vgcd_snoc (d x : Int) (xs : List Int) : vgcd d (xs ++ [x]) = ((Int.gcd (vgcd d xs) x : Nat) : Int) := by unfold vgcd; rw [List.foldl_append]; rfl
theorem vgcd_take {d x : Int} {xs : List Int} {k : Nat} (h : xs[k]? = some x) : vgcd d (xs.take (k + 1)) = ((Int.gcd (vgcd d (xs.take k)) x : Nat) : Int) := by
  rw [List.take_add_one, h]; exact vgcd_snoc _ _ _
theorem vgcd_pos : ∀ {xs : List Int} {d : Int}, 0 < d → 0 < vgcd d xs
  | [], d, h => h
  | x :: xs, d, h => by
    rw [vgcd_cons]
    refine vgcd_pos ?_
    have : Int.gcd d x ≠ 0 := fun e => by have := (Int.gcd_eq_zero_iff.1 e).1; omega
    omega
theorem vgcd_dvd : ∀ (xs : List Int) (d : Int), vgcd d xs ∣ d ∧ ∀ x ∈ xs, vgcd d xs ∣ x
  | [], d => ⟨Int.dvd_refl _, fun x h => by cases h⟩
  | x :: xs, d => by
    rw [vgcd_cons]
    obtain ⟨h1, h2⟩ := vgcd_dvd xs ((Int.gcd d x : Nat) : Int)
    refine ⟨Int.dvd_trans h1 (Int.gcd_dvd_left ..), fun y hy => ?_⟩
    rcases List.mem_cons.1 hy with rfl | hy
    · exact Int.dvd_trans h1 (Int.gcd_dvd_right ..)
    · exact h2 y hy
theorem vgcd_le {xs : List Int} {d : Int} (h : 0 < d) : vgcd d xs ≤ d := Int.le_of_dvd h (vgcd_dvd xs d).1
theorem vgcd_mul {g : Int} (hg : 0 < g) : ∀ (xs : List Int) (d : Int), vgcd (g * d) (xs.map (g * ·)) = g * vgcd d xs
  | [], d => rfl
  | x :: xs, d => by
    rw [List.map_cons, vgcd_cons, vgcd_cons]
    have e : ((Int.gcd (g * d) (g * x) : Nat) : Int) = g * ((Int.gcd d x : Nat) : Int) := by
      rw [Int.gcd_mul_left, Int.natCast_mul]
      congr 1
      omega
    rw [e]
    exact vgcd_mul hg xs _
/-- Without the greatest divisor. -/
def vdiv (d : Int) (xs : List Int) : List Int := xs.map fun x => x.tdiv (vgcd d xs)
theorem vdiv_len (d : Int) (xs : List Int) : (vdiv d xs).length = xs.length := by unfold vdiv; rw [List.length_map]
theorem tdiv_mul_of_dvd {g x : Int} (h : g ∣ x) : g * x.tdiv g = x := Int.mul_tdiv_cancel' h
theorem vdiv_at {d x : Int} {xs : List Int} {k : Nat} (h : xs[k]? = some x) : ∃ y, (vdiv d xs)[k]? = some y ∧ vgcd d xs * y = x :=
  ⟨_, by unfold vdiv; rw [List.getElem?_map, h]; rfl, tdiv_mul_of_dvd ((vgcd_dvd xs d).2 x (List.mem_of_getElem? h))⟩
/-- No number greater than 1 divides what is left. -/
theorem vdiv_one {d : Int} {xs : List Int} (h : 0 < d) : vgcd (d.tdiv (vgcd d xs)) (vdiv d xs) = 1 := by
  have hg := vgcd_pos (xs := xs) h
  have h1 := vgcd_mul hg (vdiv d xs) (d.tdiv (vgcd d xs))
  have e1 : vgcd d xs * d.tdiv (vgcd d xs) = d := tdiv_mul_of_dvd (vgcd_dvd xs d).1
  have e2 : (vdiv d xs).map (vgcd d xs * ·) = xs := by
    unfold vdiv
    rw [List.map_map]
    conv => rhs; rw [← List.map_id xs]
    refine List.map_congr_left fun x hx => ?_
    exact tdiv_mul_of_dvd ((vgcd_dvd xs d).2 x hx)
  rw [e1, e2] at h1
  have : vgcd d xs * 1 = vgcd d xs * vgcd (d.tdiv (vgcd d xs)) (vdiv d xs) := by rw [Int.mul_one]; exact h1
  exact (Int.eq_of_mul_eq_mul_left (by omega) this).symm
theorem vden_pos {d : Int} {xs : List Int} (h : 0 < d) : 0 < d.tdiv (vgcd d xs) := by
  have hg := vgcd_pos (xs := xs) h
  have e1 : vgcd d xs * d.tdiv (vgcd d xs) = d := tdiv_mul_of_dvd (vgcd_dvd xs d).1
  rcases Int.lt_or_le 0 (d.tdiv (vgcd d xs)) with h1 | h1
  · exact h1
  · have := Int.mul_nonneg (Int.le_of_lt hg) (show 0 ≤ - d.tdiv (vgcd d xs) by omega)
    rw [Int.mul_neg, e1] at this
    omega
theorem abs_of_mul {g y x B : Int} (hg : 0 < g) (e : g * y = x) (h : -B ≤ x ∧ x ≤ B) : -B ≤ y ∧ y ≤ B := by
  have h1 : (g - 1) * y = x - y := by rw [Int.sub_mul, e, Int.one_mul]
  rcases Int.lt_or_le y 0 with hy | hy
  · have := Int.mul_nonneg (show 0 ≤ g - 1 by omega) (show 0 ≤ -y by omega)
    rw [Int.mul_neg] at this
    omega
  · have := Int.mul_nonneg (show 0 ≤ g - 1 by omega) hy
    omega

end Go.Proofs.Ytkepfmglljkjhaa

namespace Go.Proofs.Ytkepfmglljkjhaa
open Go.RowKit
set_option linter.unusedVariables false
set_option linter.unusedSimpArgs false

set_option maxHeartbeats 400000 in
theorem lgcd_any (a b : Int) (w : World) (ha : -4611686018427387904 ≤ a ∧ a ≤ 4611686018427387904) (hb : -4611686018427387904 ≤ b ∧ b ≤ 4611686018427387904) :
    Calls Try.prog 52 #[.int .i64 a, .int .i64 b] w fun e w' => e = .returned (.int .i64 (Int.gcd a b)) ∧ Below w.heap.size w w' := by
  go_enter Try.func52, Try.ntmps52
  go_wp2
  go_loopw [0, 1] (fun x y wr => ∃ m n : Int, x = .int .i64 m ∧ y = .int .i64 n ∧ Int.gcd m n = Int.gcd a b ∧ (-4611686018427387904 ≤ m ∧ m ≤ 4611686018427387904) ∧ (-4611686018427387904 ≤ n ∧ n ≤ 4611686018427387904) ∧ Below w.heap.size w wr) (fun _ y _ => (intOf y).natAbs)
  case atStart => exact ⟨a, b, rfl, rfl, rfl, ha, hb, Below.refl _ _⟩
  case round =>
    obtain ⟨m, n, rfl, rfl, hg, hm, hn, hB⟩ := hrel
    have hm1 := hm.1
    have hm2 := hm.2
    have hn1 := hn.1
    have hn2 := hn.2
    have HG := Lib.hid hg
    have HB := Lib.hid hB
    clear hg hm hn hB
    by_cases hz : n = 0
    · subst hz
      have e : (Int.gcd a b : Int) = m.natAbs := by rw [← HG.out]; simp
      have HE := Lib.hid e
      clear e
      go_wp2
      all_goals
        go_ret
        exact ⟨ret_int (by rw [HE.out]; omega), HB.out⟩
    · have hz' : (n == 0) = false := by simpa using hz
      have hb := tmod_bd m n hz
      have hb1 : -9223372036854775808 ≤ m.tmod n := by omega
      have hb2 : m.tmod n ≤ 9223372036854775807 := by omega
      have ht := gcd_tmod m n
      rw [HG.out] at ht
      have HT := Lib.hid ht
      clear ht
      go_wp2
      go_quiet (fail)
      go_wp2
      go_roundw
      case rel => exact ⟨n, m.tmod n, rfl, rfl, HT.out, by omega, by omega, below_drewN HB.out _⟩
      case measure => simp only [intOf]; exact hb

end Go.Proofs.Ytkepfmglljkjhaa

namespace Go.Proofs.Ytkepfmglljkjhaa
theorem get_lt {α : Type} {xs : List α} {x : α} {k : Nat} (hx : xs[k]? = some x) : k < xs.length := (List.getElem?_eq_some_iff.1 hx).1

/-- A strictly increasing list of numbers from 0 to n - 1. -/
def SetP (l : List Int) (n : Int) : Prop := (∀ x ∈ l, 0 ≤ x ∧ x < n) ∧ ∀ i : Nat, ∀ x y : Int, l[i]? = some x → l[i + 1]? = some y → x < y
theorem SetP.lt {l : List Int} {n : Int} (h : SetP l n) : ∀ (d i : Nat) (x y : Int), l[i]? = some x → l[i + 1 + d]? = some y → x < y := by
  intro d
  induction d with
  | zero => intro i x y hx hy; exact h.2 i x y hx hy
  | succ d ih =>
    intro i x y hx hy
    have hl := get_lt hy
    obtain ⟨z, hz⟩ : ∃ z, l[i + 1 + d]? = some z := ⟨_, List.getElem?_eq_getElem (by omega)⟩
    exact Int.lt_trans (ih i x z hx hz) (h.2 _ z y hz hy)
theorem SetP.mono {l : List Int} {n : Int} (h : SetP l n) {i j : Nat} {x y : Int} (hij : i < j) (hx : l[i]? = some x) (hy : l[j]? = some y) : x < y :=
  h.lt (j - i - 1) i x y hx (by rw [show i + 1 + (j - i - 1) = j by omega]; exact hy)
theorem SetP.inj {l : List Int} {n : Int} (h : SetP l n) {i j : Nat} {x : Int} (hx : l[i]? = some x) (hy : l[j]? = some x) : i = j := by
  rcases Nat.lt_trichotomy i j with e | e | e
  · exact absurd (h.mono e hx hy) (by omega)
  · exact e
  · exact absurd (h.mono e hy hx) (by omega)
theorem SetP.nil (n : Int) : SetP [] n := ⟨by simp, by simp⟩
theorem SetP.ge {l : List Int} {n : Int} (h : SetP l n) : ∀ (i : Nat) (x : Int), l[i]? = some x → (i : Int) ≤ x := by
  intro i
  induction i with
  | zero => intro x hx; exact (h.1 x (List.mem_of_getElem? hx)).1
  | succ i ih =>
    intro x hx
    have hl := get_lt hx
    obtain ⟨z, hz⟩ : ∃ z, l[i]? = some z := ⟨_, List.getElem?_eq_getElem (by omega)⟩
    have := ih z hz
    have := h.2 i z x hz hx
    omega
/-- A set of numbers below n has at most n elements. -/
theorem SetP.length {l : List Int} {n : Int} (h : SetP l n) (hn : 0 ≤ n) : (l.length : Int) ≤ n := by
  rcases Nat.eq_zero_or_pos l.length with e | e
  · omega
  · obtain ⟨z, hz⟩ : ∃ z, l[l.length - 1]? = some z := ⟨_, List.getElem?_eq_getElem (by omega)⟩
    have h1 := h.ge _ _ hz
    have h2 := (h.1 z (List.mem_of_getElem? hz)).2
    omega
/-- Two sets with the same elements are one list. -/
theorem SetP.ext {a b : List Int} {n m : Int} (ha : SetP a n) (hb : SetP b m) (h : ∀ x, x ∈ a ↔ x ∈ b) : a = b := by
  have pa : a.Pairwise (· < ·) := by
    rw [List.pairwise_iff_getElem]
    intro i j hi hj hij
    exact ha.mono hij (List.getElem?_eq_getElem hi) (List.getElem?_eq_getElem hj)
  have pb : b.Pairwise (· < ·) := by
    rw [List.pairwise_iff_getElem]
    intro i j hi hj hij
    exact hb.mono hij (List.getElem?_eq_getElem hi) (List.getElem?_eq_getElem hj)
  have na : a.Nodup := pa.imp (fun h => Int.ne_of_lt h)
  have nb : b.Nodup := pb.imp (fun h => Int.ne_of_lt h)
  have hp : a.Perm b := (List.perm_ext_iff_of_nodup na nb).2 h
  exact hp.eq_of_pairwise (fun x y _ _ h1 h2 => by omega) pa pb
theorem SetP.pairwise {a : List Int} {n : Int} (ha : SetP a n) : a.Pairwise (· < ·) := by
  rw [List.pairwise_iff_getElem]
  intro i j hi hj hij
  exact ha.mono hij (List.getElem?_eq_getElem hi) (List.getElem?_eq_getElem hj)
theorem SetP.of_pairwise {a : List Int} {n : Int} (h1 : ∀ x ∈ a, 0 ≤ x ∧ x < n) (h2 : a.Pairwise (· < ·)) : SetP a n := by
  refine ⟨h1, fun i x y hx hy => ?_⟩
  obtain ⟨hi, rfl⟩ := List.getElem?_eq_some_iff.1 hx
  obtain ⟨hj, rfl⟩ := List.getElem?_eq_some_iff.1 hy
  exact List.pairwise_iff_getElem.1 h2 i (i + 1) hi hj (by omega)

end Go.Proofs.Ytkepfmglljkjhaa

namespace Go.Proofs.Ytkepfmglljkjhaa
open Go.RowKit
theorem in_any (n a b : Int) (w : World) :
    Calls Try.prog 12 #[.int .i64 n, .int .i64 a, .int .i64 b] w fun e w' => e = .returned (.bool (decide (a ≤ n ∧ n ≤ b))) ∧ w = w' := by
  by_cases h1 : a ≤ n
  · by_cases h2 : n ≤ b
    all_goals
      go_enter Try.func12, Try.ntmps12
      go_wp2
      go_ret
      exact ⟨by simp <;> omega, rfl⟩
  · go_enter Try.func12, Try.ntmps12
    go_wp2
    go_ret
    exact ⟨by simp <;> omega, rfl⟩
theorem in_yes (n a b : Int) (w : World) (h1 : a ≤ n) (h2 : n ≤ b) :
    Calls Try.prog 12 #[.int .i64 n, .int .i64 a, .int .i64 b] w fun e w' => e = .returned (.bool true) ∧ w = w' :=
  (in_any n a b w).mono fun e w' ⟨he, hw⟩ => ⟨by rw [he, show decide (a ≤ n ∧ n ≤ b) = true from decide_eq_true ⟨h1, h2⟩], hw⟩
theorem in_no (n a b : Int) (w : World) (h1 : n < a ∨ b < n) :
    Calls Try.prog 12 #[.int .i64 n, .int .i64 a, .int .i64 b] w fun e w' => e = .returned (.bool false) ∧ w = w' :=
  (in_any n a b w).mono fun e w' ⟨he, hw⟩ => ⟨by rw [he, show decide (a ≤ n ∧ n ≤ b) = false from decide_eq_false (by omega)], hw⟩
theorem at_any (c d : Int) (w : World) :
    Calls Try.prog 32 #[.int .i64 c, .int .i64 d] w fun e w' => e = .returned (.agg #[.int .i64 c, .int .i64 d]) ∧ Below w.heap.size w w' := by
  go_enter Try.func32, Try.ntmps32
  go_wp2
  refine bodyPost_ret (v := .agg #[.int .i64 c, .int .i64 d]) ?_ rfl ⟨rfl, (Below.refl _ _).alloc (Nat.le_refl _) _⟩
  simp [results, Try.results32, go_sem]

end Go.Proofs.Ytkepfmglljkjhaa

namespace Go.Proofs.Ytkepfmglljkjhaa
open Go.RowKit
end Go.Proofs.Ytkepfmglljkjhaa

namespace Go.Proofs.Ytkepfmglljkjhaa
open Go.RowKit
/-- F is a function with a body. -/
def Enters (F : FuncId) : Prop := ∀ (args : Array Value) (w : World), (callFunc F args).run Try.prog w = .ok (.enter F args) w
end Go.Proofs.Ytkepfmglljkjhaa

namespace Go.Proofs.Ytkepfmglljkjhaa
open Go.RowKit
end Go.Proofs.Ytkepfmglljkjhaa

namespace Go.Proofs.Ytkepfmglljkjhaa
open Go.RowKit
set_option linter.unusedVariables false
set_option linter.unusedSimpArgs false
/-- A later world that has drawn alone. -/
def Drawn (w w' : World) : Prop := ∃ m, w' = w.drewN m
theorem Drawn.refl (w : World) : Drawn w w := ⟨0, rfl⟩
theorem Drawn.drewN {w w' : World} (h : Drawn w w') (k : Nat) : Drawn w (w'.drewN k) := by
  obtain ⟨m, rfl⟩ := h
  exact ⟨m + k, by rw [World.drewN_drewN]⟩
theorem Drawn.below {w w' : World} (h : Drawn w w') : Below w.heap.size w w' := by
  obtain ⟨m, rfl⟩ := h
  exact below_drewN (Below.refl _ _) m
end Go.Proofs.Ytkepfmglljkjhaa

namespace Go.Proofs.Ytkepfmglljkjhaa
set_option linter.unusedVariables false

/-- A sum of two values. -/
def plusV (a b : Int) : Int := if a = 1000000000 ∨ b = 1000000000 then 1000000000 else if a + b ≥ 1000000000 then 999999999 else a + b
/-- A value: from 0 to infinite. -/
def InV (v : Int) : Prop := 0 ≤ v ∧ v ≤ 1000000000
theorem InV.zero : InV 0 := by unfold InV; omega
/-- The value of a fact in a list of values. -/
def valAt (vs : List Int) (p : Int) : Int := (vs[p.toNat]?).getD 0
def stepV (sum : Bool) (o v : Int) : Int := match sum with | true => plusV o v | false => if v > o then v else o
/-- The combination of the values of facts. -/
def combV (sum : Bool) (vs : List Int) (xs : List Int) : Int := xs.foldl (fun o p => stepV sum o (valAt vs p)) 0
def AllV (vs : List Int) : Prop := ∀ v ∈ vs, InV v
theorem valAt_of {vs : List Int} {p v : Int} (h : vs[p.toNat]? = some v) : valAt vs p = v := by unfold valAt; rw [h]; rfl
end Go.Proofs.Ytkepfmglljkjhaa

namespace Go.Proofs.Ytkepfmglljkjhaa
set_option linter.unusedVariables false
set_option linter.unusedSimpArgs false
/-- No value of U is greater than that of V. -/
def LeV (U V : List Int) : Prop := ∀ p, valAt U p ≤ valAt V p
/-- The value of a fact by an operator. -/
def opV (s : Bool) (V : List Int) (o : OpV) (c : Int) : Int := plusV (combV s V o.pre) c
/-- No operator lowers a value, among the first k operators. -/
def ClosedTo (s : Bool) (ops : List OpV) (cs : List Int) (k : Nat) (U : List Int) : Prop :=
  ∀ (i : Nat) (o : OpV) (c : Int), i < k → ops[i]? = some o → cs[i]? = some c → ∀ p ∈ o.add, valAt U p ≤ opV s U o c
theorem valAt_set {V : List Int} {i : Nat} {x p : Int} (h : i < V.length) : valAt (V.set i x) p = if p.toNat = i then x else valAt V p := by
  unfold valAt
  rw [List.getElem?_set]
  by_cases e : i = p.toNat
  · rw [if_pos e, if_pos h, if_pos e.symm]; rfl
  · rw [if_neg e, if_neg (fun k => e k.symm)]
def sumV (V : List Int) : Nat := (V.map Int.toNat).sum
theorem sum_set {V : List Int} : ∀ {i : Nat} {x y : Int}, V[i]? = some y → 0 ≤ x → x < y → sumV (V.set i x) < sumV V := by
  induction V with
  | nil => intro i x y h; simp at h
  | cons a V ih =>
    intro i x y h h0 hlt
    cases i with
    | zero => simp at h; subst h; simp [sumV]; omega
    | succ i => have := ih (by simpa using h) h0 hlt; simp only [sumV, List.set_cons_succ, List.map_cons, List.sum_cons] at *; omega
theorem LeV.trans {U V W : List Int} (h : LeV U V) (k : LeV V W) : LeV U W := fun p => Int.le_trans (h p) (k p)
theorem LeV.refl (U : List Int) : LeV U U := fun _ => Int.le_refl _
theorem LeV.set_ {V : List Int} {i : Nat} {x y : Int} (h : V[i]? = some y) (hx : x ≤ y) : LeV (V.set i x) V := fun p => by
  rw [valAt_set (List.getElem?_eq_some_iff.1 h).1]
  split
  · rename_i e; subst e; rw [valAt_of h]; exact hx
  · exact Int.le_refl _

section
variable {s : Bool} {n : Nat} {st : List Int} {ops : List OpV} {cs V : List Int}
end
section
variable {s : Bool} {n : Nat} {st : List Int} {ops : List OpV} {cs V : List Int}
end

end Go.Proofs.Ytkepfmglljkjhaa

namespace Go.Proofs.Ytkepfmglljkjhaa
set_option linter.unusedVariables false
set_option linter.unusedSimpArgs false

/-- The facts that operators, for which use holds, reach without deletions. -/
inductive Reach (st : List Int) (ops : List OpV) (use : Nat → Bool) : Int → Prop
  | init {p : Int} : p ∈ st → Reach st ops use p
  | step {p : Int} {i : Nat} {o : OpV} : ops[i]? = some o → use i = true → (∀ q ∈ o.pre, Reach st ops use q) → p ∈ o.add → Reach st ops use p
theorem Reach.mono {st st' : List Int} {ops : List OpV} {use use' : Nat → Bool} (h1 : ∀ p ∈ st, p ∈ st') (h2 : ∀ i, use i = true → use' i = true) {p : Int} (h : Reach st ops use p) : Reach st' ops use' p := by
  induction h with
  | init h => exact .init (h1 _ h)
  | step h1 h3 _ h4 ih => exact .step h1 (h2 _ h3) ih h4
open Classical in
noncomputable def closeV (n : Nat) (st : List Int) (ops : List OpV) (use : Nat → Bool) : List Bool := (List.range n).map fun (p : Nat) => decide (Reach st ops use (p : Int))
theorem closeV_len (n : Nat) (st : List Int) (ops : List OpV) (use : Nat → Bool) : (closeV n st ops use).length = n := by simp [closeV]
theorem closeV_get {n p : Nat} {st : List Int} {ops : List OpV} {use : Nat → Bool} (h : p < n) : (closeV n st ops use)[p]? = some true ↔ Reach st ops use (p : Int) := by simp [closeV, h]

/-- What is true so far can be reached; the state is true. -/
structure Sound (n : Nat) (st : List Int) (ops : List OpV) (use : Nat → Bool) (bs : List Bool) : Prop where
  len : bs.length = n
  init : ∀ p ∈ st, bs[p.toNat]? = some true
  sound : ∀ p : Nat, bs[p]? = some true → Reach st ops use (p : Int)
def ClosedB (ops : List OpV) (use : Nat → Bool) (k : Nat) (bs : List Bool) : Prop :=
  ∀ (i : Nat) (o : OpV), i < k → ops[i]? = some o → use i = true → (∀ q ∈ o.pre, bs[q.toNat]? = some true) → ∀ p ∈ o.add, bs[p.toNat]? = some true
section
variable {n : Nat} {st : List Int} {ops : List OpV} {use : Nat → Bool} {bs : List Bool}
theorem Sound.set_ (h : Sound n st ops use bs) {i : Nat} {o : OpV} (ho : ops[i]? = some o) (hu : use i = true) (hpre : ∀ q ∈ o.pre, Reach st ops use q) {p : Int} (hp : p ∈ o.add) (p0 : 0 ≤ p) : Sound n st ops use (bs.set p.toNat true) := by
  refine ⟨by rw [List.length_set]; exact h.len, fun q hq => ?_, fun q hq => ?_⟩
  · have := h.init q hq
    rw [List.getElem?_set]
    split
    · rename_i e
      rw [if_pos (by rw [e]; exact (List.getElem?_eq_some_iff.1 this).1)]
    · exact this
  · rw [List.getElem?_set] at hq
    split at hq
    · rename_i e
      subst e
      rw [Int.toNat_of_nonneg p0]
      exact .step ho hu hpre hp
    · exact h.sound q hq
theorem Sound.pre (h : Sound n st ops use bs) {xs : List Int} (hx : ∀ q ∈ xs, bs[q.toNat]? = some true) (h0 : ∀ q ∈ xs, 0 ≤ q) : ∀ q ∈ xs, Reach st ops use q := fun q hq => by
  have := h.sound _ (hx q hq)
  rwa [Int.toNat_of_nonneg (h0 q hq)] at this
theorem Sound.all (h : Sound n st ops use bs) (hc : ClosedB ops use ops.length bs) {p : Int} (hr : Reach st ops use p) : bs[p.toNat]? = some true := by
  induction hr with
  | init hp => exact h.init _ hp
  | step ho hu _ hp ih => exact hc _ _ (List.getElem?_eq_some_iff.1 ho).1 ho hu ih _ hp
theorem Sound.eq (h : Sound n st ops use bs) (hc : ClosedB ops use ops.length bs) : bs = closeV n st ops use := by
  apply List.ext_getElem?
  intro p
  rcases Nat.lt_or_ge p n with hp | hp
  · have h1 : bs[p]? = some true ↔ (closeV n st ops use)[p]? = some true := by
      rw [closeV_get hp]
      exact ⟨h.sound p, fun hr => by have := h.all hc hr; simpa using this⟩
    obtain ⟨a, ha⟩ : ∃ a, bs[p]? = some a := ⟨_, List.getElem?_eq_getElem (by rw [h.len]; exact hp)⟩
    obtain ⟨b, hb⟩ : ∃ b, (closeV n st ops use)[p]? = some b := ⟨_, List.getElem?_eq_getElem (by rw [closeV_len]; exact hp)⟩
    rw [ha, hb] at h1 ⊢
    cases a <;> cases b <;> simp_all
  · rw [List.getElem?_eq_none (by rw [h.len]; exact hp), List.getElem?_eq_none (by rw [closeV_len]; exact hp)]
end

end Go.Proofs.Ytkepfmglljkjhaa

namespace Go.Proofs.Ytkepfmglljkjhaa
set_option linter.unusedVariables false
set_option linter.unusedSimpArgs false
/-- What is reached, as a list. -/
noncomputable def withinV (n : Nat) (st : List Int) (ops : List OpV) (use : Nat → Bool) : List Int := (((List.range n).filter fun (p : Nat) => @decide (Reach st ops use (p : Int)) (Classical.propDecidable _)).map fun (p : Nat) => (p : Int))
section
variable {n : Nat} {st : List Int} {ops : List OpV} {use : Nat → Bool}
theorem withinV_mem {x : Int} : x ∈ withinV n st ops use ↔ 0 ≤ x ∧ x < (n : Int) ∧ Reach st ops use x := by
  unfold withinV
  rw [List.mem_map]
  constructor
  · rintro ⟨p, hp, rfl⟩
    rw [List.mem_filter, List.mem_range] at hp
    exact ⟨by omega, by omega, (@decide_eq_true_iff _ (Classical.propDecidable _)).1 hp.2⟩
  · rintro ⟨h0, h1, h2⟩
    refine ⟨x.toNat, ?_, by omega⟩
    rw [List.mem_filter, List.mem_range]
    exact ⟨by omega, (@decide_eq_true_iff _ (Classical.propDecidable _)).2 (by rw [Int.toNat_of_nonneg h0]; exact h2)⟩
theorem withinV_set : SetP (withinV n st ops use) (n : Int) := by
  refine SetP.of_pairwise (fun x hx => ⟨(withinV_mem.1 hx).1, (withinV_mem.1 hx).2.1⟩) ?_
  unfold withinV
  rw [List.pairwise_map]
  exact (List.pairwise_lt_range.filter _).imp (fun h => by omega)
/-- What the reference has found so far. -/
structure SoundL (n : Nat) (st : List Int) (ops : List OpV) (use : Nat → Bool) (l : List Int) : Prop where
  set : SetP l (n : Int)
  init : ∀ p ∈ st, p ∈ l
  sound : ∀ p ∈ l, Reach st ops use p
def ClosedL (ops : List OpV) (use : Nat → Bool) (k : Nat) (l : List Int) : Prop :=
  ∀ (i : Nat) (o : OpV), i < k → ops[i]? = some o → use i = true → (∀ q ∈ o.pre, q ∈ l) → ∀ p ∈ o.add, p ∈ l
theorem closedL_zero {l : List Int} : ClosedL ops use 0 l := fun i o hi => absurd hi (by omega)
theorem closedL_succ {l : List Int} {k : Nat} {o : OpV} (h : ClosedL ops use k l) (ho : ops[k]? = some o) (h2 : use k = true → (∀ q ∈ o.pre, q ∈ l) → ∀ p ∈ o.add, p ∈ l) : ClosedL ops use (k + 1) l := by
  intro i o' hi ho' hu hq
  by_cases e : i = k
  · subst e
    rw [ho] at ho'; injection ho' with ho'; subst ho'
    exact h2 hu hq
  · exact h i o' (by omega) ho' hu hq
theorem SoundL.start (hs : SetP st (n : Int)) : SoundL n st ops use st := ⟨hs, fun _ h => h, fun _ h => .init h⟩
theorem SoundL.eq {l : List Int} (h : SoundL n st ops use l) (hc : ClosedL ops use ops.length l) : l = withinV n st ops use := by
  refine SetP.ext h.set withinV_set fun x => ?_
  rw [withinV_mem]
  constructor
  · intro hx; exact ⟨(h.set.1 x hx).1, (h.set.1 x hx).2, h.sound x hx⟩
  · rintro ⟨hx0, hx1, hr⟩
    clear hx0 hx1
    induction hr with
    | init hp => exact h.init _ hp
    | step ho hu _ hp ih => exact hc _ _ (List.getElem?_eq_some_iff.1 ho).1 ho hu ih _ hp
/-- A list that is sound and contains a closed one is the whole. -/
theorem SoundL.eq_of_sub {l l' : List Int} (h : SoundL n st ops use l') (hl : l = withinV n st ops use) (hs : ∀ x ∈ l, x ∈ l') : l' = withinV n st ops use := by
  refine SetP.ext h.set withinV_set fun x => ⟨fun hx => ?_, fun hx => hs x (by rw [hl]; exact hx)⟩
  rw [withinV_mem]
  exact ⟨(h.set.1 x hx).1, (h.set.1 x hx).2, h.sound x hx⟩
theorem SoundL.len {l : List Int} (h : SoundL n st ops use l) : l.length ≤ n := by
  have := h.set.length (by omega)
  omega
/-- One pass over the operators. -/
structure Pass (ops : List OpV) (use : Nat → Bool) (k : Nat) (l0 l : List Int) : Prop where
  sub : ∀ x ∈ l0, x ∈ l
  le : l0.length ≤ l.length
  lt : l ≠ l0 → l0.length < l.length
  closed : l = l0 → ClosedL ops use k l
theorem Pass.start (l : List Int) : Pass ops use 0 l l := ⟨fun _ h => h, Nat.le_refl _, fun h => absurd rfl h, fun _ => closedL_zero⟩
theorem Pass.succ {k : Nat} {l0 l : List Int} {o : OpV} (h : Pass ops use k l0 l) (ho : ops[k]? = some o) (h2 : l = l0 → use k = true → (∀ q ∈ o.pre, q ∈ l) → ∀ p ∈ o.add, p ∈ l) : Pass ops use (k + 1) l0 l :=
  ⟨h.sub, h.le, h.lt, fun e => closedL_succ (h.closed e) ho (h2 e)⟩
/-- After r rounds. -/
def Rounds (n : Nat) (st : List Int) (ops : List OpV) (use : Nat → Bool) (r : Nat) (l : List Int) : Prop := l = withinV n st ops use ∨ r ≤ l.length
theorem Rounds.succ {r : Nat} {l0 l : List Int} (h : Rounds n st ops use r l0) (hs : SoundL n st ops use l) (hp : Pass ops use ops.length l0 l) : Rounds n st ops use (r + 1) l := by
  rcases h with h | h
  · exact .inl (hs.eq_of_sub h hp.sub)
  · by_cases e : l = l0
    · exact .inl (hs.eq (hp.closed e))
    · exact .inr (by have := hp.lt e; omega)
end

end Go.Proofs.Ytkepfmglljkjhaa

namespace Go.Proofs.Ytkepfmglljkjhaa
set_option linter.unusedVariables false
set_option linter.unusedSimpArgs false
section
variable {n : Nat} {st : List Int} {ops : List OpV} {cs V U : List Int}
end

end Go.Proofs.Ytkepfmglljkjhaa

namespace Go.Proofs.Ytkepfmglljkjhaa
set_option linter.unusedVariables false
set_option linter.unusedSimpArgs false

/-- The state after an operator. -/
def nextV (n : Nat) (s : List Int) (o : OpV) : List Int := ((List.range n).map fun (p : Nat) => (p : Int)).filter fun p => decide (p ∈ o.add ∨ (p ∈ s ∧ p ∉ o.del))
theorem nextV_mem {n : Nat} {s : List Int} {o : OpV} {x : Int} : x ∈ nextV n s o ↔ (0 ≤ x ∧ x < (n : Int)) ∧ (x ∈ o.add ∨ (x ∈ s ∧ x ∉ o.del)) := by
  unfold nextV
  rw [List.mem_filter, List.mem_map]
  simp only [decide_eq_true_eq, List.mem_range]
  constructor
  · rintro ⟨⟨a, h, rfl⟩, h2⟩
    exact ⟨⟨by omega, by omega⟩, h2⟩
  · rintro ⟨⟨h0, h1⟩, h2⟩
    exact ⟨⟨x.toNat, by omega, by omega⟩, h2⟩
theorem nextV_set (n : Nat) (s : List Int) (o : OpV) : SetP (nextV n s o) n := by
  refine SetP.of_pairwise (fun x hx => (nextV_mem.1 hx).1) ?_
  unfold nextV
  refine List.Pairwise.filter _ ?_
  rw [List.pairwise_map]
  exact List.Pairwise.imp (fun h => by omega) List.pairwise_lt_range
/-- An operator is applicable. -/
def CanV (ops : List OpV) (s : List Int) (op : Int) : Prop := ∃ o, ops[op.toNat]? = some o ∧ ∀ q ∈ o.pre, q ∈ s
/-- The operator, if there is one. -/
def opAt (ops : List OpV) (op : Int) : OpV := (ops[op.toNat]?).getD ⟨[], [], [], 0⟩
section
variable {n : Nat} {ops : List OpV}
end

end Go.Proofs.Ytkepfmglljkjhaa

namespace Go.Proofs.Ytkepfmglljkjhaa
open Go.RowKit
set_option linter.unusedVariables false
set_option linter.unusedSimpArgs false
theorem SetP.nodup {l : List Int} {n : Int} (h : SetP l n) : l.Nodup := (SetP.pairwise h).imp (fun h => by omega)
end Go.Proofs.Ytkepfmglljkjhaa

namespace Go.Proofs.Ytkepfmglljkjhaa
open Go.RowKit
set_option linter.unusedVariables false
set_option linter.unusedSimpArgs false
end Go.Proofs.Ytkepfmglljkjhaa

namespace Go.Proofs.Ytkepfmglljkjhaa
open Go.RowKit
end Go.Proofs.Ytkepfmglljkjhaa

namespace Go.Proofs.Ytkepfmglljkjhaa
open Go.RowKit
end Go.Proofs.Ytkepfmglljkjhaa

namespace Go.Proofs.Ytkepfmglljkjhaa
open Go.RowKit
set_option linter.unusedVariables false
set_option linter.unusedSimpArgs false

theorem bb_no {v : Int} (h : ¬ v = 0) : (v == 0) = false := by simpa using h
theorem bn_yes {v : Int} (h : ¬ v = 0) : (v != 0) = true := by simpa using h
end Go.Proofs.Ytkepfmglljkjhaa

namespace Go.Proofs.Ytkepfmglljkjhaa
open Go.RowKit
end Go.Proofs.Ytkepfmglljkjhaa

namespace Go.Proofs.Ytkepfmglljkjhaa
open Go.RowKit
set_option linter.unusedVariables false
set_option linter.unusedSimpArgs false

/-- A function value that combines values of facts. -/
def Combines (G : FuncId) (s : Bool) : Prop := Enters G ∧ ∀ (A B : Option Addr) (c d : Nat) (vs xs : List Int) (w : World), Ints w A vs → Ints w B xs → xs.length ≤ 9223372036854775807 → vs.length ≤ 9223372036854775807 → (∀ x ∈ xs, 0 ≤ x ∧ x < vs.length) → AllV vs →
    Calls Try.prog G #[.slice A vs.length c, .slice B xs.length d] w fun e w' => e = .returned (.int .i64 (combV s vs xs)) ∧ w = w'
theorem Combines.at_ {G : FuncId} {s : Bool} (h : Combines G s) (A B : Option Addr) (c d m : Nat) (vs xs : List Int) (w : World) (h1 : Ints w A vs) (h2 : Ints w B xs) (hm : vs.length = m) (h3 : lenOk xs.length) (h4 : m ≤ 1000000000000) (h5 : ∀ x ∈ xs, 0 ≤ x ∧ x < (m : Int)) (h6 : AllV vs) :
    Calls Try.prog G #[.slice A m c, .slice B xs.length d] w fun e w' => e = .returned (.int .i64 (combV s vs xs)) ∧ w' = w := by
  subst hm
  exact (h.2 A B c d vs xs w h1 h2 h3.le (by omega) h5 h6).mono fun _ _ h => ⟨h.1, h.2.symm⟩
end Go.Proofs.Ytkepfmglljkjhaa

namespace Go.Proofs.Ytkepfmglljkjhaa
open Go.RowKit
theorem OwnI.ints_at {base n c : Nat} {w : World} {A : Option Addr} {xs : List Int} (h : OwnI base w (.slice A n c) xs) : Ints w A xs := by
  obtain ⟨A', c', e, h1⟩ := h.ints
  injection e with e
  rw [e]; exact h1
theorem OwnI.blk {base n c : Nat} {w : World} {A : Option Addr} {xs : List Int} (h : OwnI base w (.slice A n c) xs) : ∀ g, A = some ⟨g, 0, none⟩ → base ≤ g ∧ g < w.heap.size := fun g e => by
  subst e
  exact World.ownsRow.lt h g rfl
/-- One round of the reference: what is lowered so far. -/
def Lowered (s : Bool) (ops : List OpV) (cs : List Int) (k : Nat) (V V' : List Int) : Prop :=
  (V' = V ∨ sumV V' < sumV V) ∧ ∀ (i : Nat) (o : OpV) (c : Int), i < k → ops[i]? = some o → cs[i]? = some c → ∀ p ∈ o.add, valAt V' p ≤ opV s V o c
section
variable {s : Bool} {n : Nat} {st : List Int} {ops : List OpV} {cs V V' : List Int}
theorem Lowered.start : Lowered s ops cs 0 V V := ⟨Or.inl rfl, fun i o c hi => absurd hi (by omega)⟩
theorem Lowered.set_ {k : Nat} (h : Lowered s ops cs k V V') {i : Nat} {x y : Int} (hy : V'[i]? = some y) (h0 : 0 ≤ x) (hlt : x < y) : Lowered s ops cs k V (V'.set i x) := by
  have h1 := sum_set hy h0 hlt
  refine ⟨Or.inr ?_, fun j o c hj ho hc p hp => Int.le_trans (LeV.set_ hy (Int.le_of_lt hlt) p) (h.2 j o c hj ho hc p hp)⟩
  rcases h.1 with e | e
  · rw [← e]; exact h1
  · omega
theorem Lowered.succ {k : Nat} {o : OpV} {c : Int} (h : Lowered s ops cs k V V') (ho : ops[k]? = some o) (hc : cs[k]? = some c) (h2 : ∀ p ∈ o.add, valAt V' p ≤ opV s V o c) : Lowered s ops cs (k + 1) V V' := by
  refine ⟨h.1, fun i o' c' hi ho' hc' p hp => ?_⟩
  by_cases e : i = k
  · subst e
    rw [ho] at ho'; injection ho' with ho'; subst ho'
    rw [hc] at hc'; injection hc' with hc'; subst hc'
    exact h2 p hp
  · exact h.2 i o' c' (by omega) ho' hc' p hp
theorem Lowered.closed (h : Lowered s ops cs ops.length V V) : ClosedTo s ops cs ops.length V := h.2
theorem Lowered.less {k : Nat} (h : Lowered s ops cs k V V') (hne : ¬ V' = V) : sumV V' < sumV V := h.1.resolve_left hne
end
end Go.Proofs.Ytkepfmglljkjhaa

namespace Go.Proofs.Ytkepfmglljkjhaa
open Go.RowKit
end Go.Proofs.Ytkepfmglljkjhaa

namespace Go.Proofs.Ytkepfmglljkjhaa
open Go.RowKit
set_option linter.unusedVariables false
set_option linter.unusedSimpArgs false
end Go.Proofs.Ytkepfmglljkjhaa

namespace Go.Proofs.Ytkepfmglljkjhaa
open Go.RowKit
end Go.Proofs.Ytkepfmglljkjhaa

namespace Go.Proofs.Ytkepfmglljkjhaa
open Go.RowKit
end Go.Proofs.Ytkepfmglljkjhaa

namespace Go.Proofs.Ytkepfmglljkjhaa
open Go.RowKit
set_option linter.unusedVariables false
set_option linter.unusedSimpArgs false
end Go.Proofs.Ytkepfmglljkjhaa

namespace Go.Proofs.Ytkepfmglljkjhaa
open Go.RowKit
end Go.Proofs.Ytkepfmglljkjhaa

namespace Go.Proofs.Ytkepfmglljkjhaa
open Go.RowKit
set_option linter.unusedVariables false
set_option linter.unusedSimpArgs false
theorem ints_one {w : World} {g : Nat} {x : Int} (h0 : w.cell? ⟨g, 0, none⟩ = some (.int .i64 x)) : Ints w (some ⟨g, 0, none⟩) [x] := fun j u hu => by
  cases j with
  | zero => simp at hu; subst hu; exact ⟨_, rfl, h0⟩
  | succ j => simp at hu
end Go.Proofs.Ytkepfmglljkjhaa

namespace Go.Proofs.Ytkepfmglljkjhaa
open Go.RowKit
set_option linter.unusedVariables false
set_option linter.unusedSimpArgs false
set_option maxHeartbeats 400000 in
theorem validate_out (n d : Int) (w : World) (h : n < -1000000000 ∨ 1000000000 < n ∨ d < 1 ∨ 1000000000 < d) :
    Calls Try.prog 58 #[.agg #[.int .i64 n, .int .i64 d]] w fun e w' => e = .returned (.agg #[.int .i64 3, .int .i64 0]) ∧ Below w.heap.size w w' := by
  have hx : n < -1000000000 ∨ (-1000000000 ≤ n ∧ 1000000000 < n) ∨ (-1000000000 ≤ n ∧ n ≤ 1000000000 ∧ d < 1) ∨ (-1000000000 ≤ n ∧ n ≤ 1000000000 ∧ 1 ≤ d ∧ 1000000000 < d) := by omega
  clear h
  rcases hx with h1 | ⟨h1, h2⟩ | ⟨h1, h2, h3⟩ | ⟨h1, h2, h3, h4⟩
  all_goals
    go_enter Try.func58, Try.ntmps58
    go_wp2
    exact bodyPost_ret (v := .agg #[.int .i64 3, .int .i64 0]) (by simp [results, Try.results58, go_sem]) rfl ⟨rfl, ((Below.refl _ _).alloc (Nat.le_refl _) _).alloc (by simp) _⟩

set_option maxHeartbeats 400000 in
theorem validate_in (n d c : Int) (w : World) (h1 : -1000000000 ≤ n) (h2 : n ≤ 1000000000) (h3 : 1 ≤ d) (h4 : d ≤ 1000000000) (hg : (Int.gcd n d = 1 ∧ c = 0) ∨ (¬ Int.gcd n d = 1 ∧ c = 5)) :
    Calls Try.prog 58 #[.agg #[.int .i64 n, .int .i64 d]] w fun e w' => e = .returned (.agg #[.int .i64 c, .int .i64 0]) ∧ Below w.heap.size w w' := by
  rcases hg with ⟨hg, rfl⟩ | ⟨hg, rfl⟩
  · have hg' : ((Int.gcd n d : Nat) : Int) = 1 := by rw [hg]; rfl
    have HG := Lib.hid hg'
    clear hg hg'
    go_enter Try.func58, Try.ntmps58
    go_wp2_with (go_at_call 57; go_must (refine (gcd_any _ _ _ (by omega) (by omega)).mono ?_; rintro e w1 ⟨he, hB⟩; rw [HG.out] at he; subst he; have F1 := Cls.below (l := [(w.heap.size + 1, 0, .int .i64 0), (w.heap.size + 1, 1, .int .i64 0)]) hB (by simp [Cls, go_sem]); simp only [Cls, and_true] at F1; have HB := Lib.hid hB; clear hB))
    exact bodyPost_ret (v := .agg #[.int .i64 0, .int .i64 0]) (by simp [results, Try.results58, go_sem, F1]) rfl ⟨rfl, ((((Below.refl _ _).alloc (Nat.le_refl _) _).alloc (by simp) _).trans (HB.out.mono (by simp <;> omega))).setCell (by simp) _ |>.setCell (by simp) _⟩
  · have hg' : (((Int.gcd n d : Nat) : Int) != 1) = true := by simp; omega
    go_enter Try.func58, Try.ntmps58
    go_wp2_with (go_at_call 57; go_must (refine (gcd_any _ _ _ (by omega) (by omega)).mono ?_; rintro e w1 ⟨rfl, hB⟩; have F1 := Cls.below (l := [(w.heap.size + 1, 0, .int .i64 0), (w.heap.size + 1, 1, .int .i64 0)]) hB (by simp [Cls, go_sem]); simp only [Cls, and_true] at F1; have HB := Lib.hid hB; clear hB))
    exact bodyPost_ret (v := .agg #[.int .i64 5, .int .i64 0]) (by simp [results, Try.results58, go_sem, F1]) rfl ⟨rfl, ((((Below.refl _ _).alloc (Nat.le_refl _) _).alloc (by simp) _).trans (HB.out.mono (by simp <;> omega))).setCell (by simp) _ |>.setCell (by simp) _⟩

/-- Validate, for all numbers. -/
theorem fvalidate_any (n d : Int) (w : World) :
    Calls Try.prog 58 #[.agg #[.int .i64 n, .int .i64 d]] w fun e w' => e = .returned (.agg #[.int .i64 (vcode n d), .int .i64 0]) ∧ Below w.heap.size w w' := by
  by_cases h : n < -1000000000 ∨ 1000000000 < n ∨ d < 1 ∨ 1000000000 < d
  · rw [vcode_out h]; exact validate_out n d w h
  · by_cases hg : Int.gcd n d = 1
    · rw [vcode_one h hg]; exact validate_in n d 0 w (by omega) (by omega) (by omega) (by omega) (Or.inl ⟨hg, rfl⟩)
    · rw [vcode_not h hg]; exact validate_in n d 5 w (by omega) (by omega) (by omega) (by omega) (Or.inr ⟨hg, rfl⟩)


theorem q_bd (n d : Int) (hd : d ≠ 0) (h1 : -4611686018427387904 ≤ n) (h2 : n ≤ 4611686018427387904) : -4611686018427387904 ≤ qn n d ∧ qn n d ≤ 4611686018427387904 := by
  have hg := gcd_pos (n := n) hd
  have h := qn_mul n d
  have hs : (qs n d).natAbs = n.natAbs := by unfold qs; split <;> simp
  have h' : (qn n d).natAbs * Int.gcd n d = n.natAbs := by rw [← hs, ← h, Int.natAbs_mul, Int.natAbs_natCast]
  have : (qn n d).natAbs ≤ n.natAbs := by rw [← h']; exact Nat.le_mul_of_pos_right _ (by omega)
  omega
theorem q_bd' (n d : Int) (hd : d ≠ 0) (h1 : -4611686018427387904 ≤ d) (h2 : d ≤ 4611686018427387904) : qd n d ≤ 4611686018427387904 := by
  have hg := gcd_pos (n := n) hd
  have h := qd_mul n d
  have hp := qd_pos (n := n) hd
  have hs : (qs d d).natAbs = d.natAbs := by unfold qs; split <;> simp
  have h' : (qd n d).natAbs * Int.gcd n d = d.natAbs := by rw [← hs, ← h, Int.natAbs_mul, Int.natAbs_natCast]
  have : (qd n d).natAbs ≤ d.natAbs := by rw [← h']; exact Nat.le_mul_of_pos_right _ (by omega)
  omega

theorem quo_neg (n d : Int) (hd : d < 0) : -(n.tdiv ((Int.gcd n d : Nat) : Int)) = qn n d ∧ -(d.tdiv ((Int.gcd n d : Nat) : Int)) = qd n d := by
  unfold qn qd qs
  rw [if_pos hd, if_pos hd, ← Int.neg_tdiv, ← Int.neg_tdiv]
  exact ⟨Int.tdiv_eq_ediv_of_dvd ((Int.dvd_neg).2 (Int.gcd_dvd_left ..)), Int.tdiv_eq_ediv_of_dvd ((Int.dvd_neg).2 (Int.gcd_dvd_right ..))⟩
theorem quo_pos (n d : Int) (hd : ¬ d < 0) : n.tdiv ((Int.gcd n d : Nat) : Int) = qn n d ∧ d / ((Int.gcd n d : Nat) : Int) = qd n d := by
  unfold qn qd qs
  rw [if_neg hd, if_neg hd]
  exact ⟨Int.tdiv_eq_ediv_of_dvd (Int.gcd_dvd_left ..), rfl⟩

theorem fit_code {n d : Int} (hd : d ≠ 0) (h : qfit n d) : vcode (qn n d) (qd n d) = 0 ∧ rn n d = qn n d ∧ rd n d = qd n d ∧ rc n d = 0 ∧ ri n d = 0 := by
  unfold rn rd rc ri
  have hp := qd_pos (n := n) hd
  refine ⟨vcode_one ?_ (q_gcd hd), if_pos h, if_pos h, if_pos h, if_pos h⟩
  unfold qfit at h; omega
theorem big_code {n d : Int} (hd : d ≠ 0) (h : ¬ qfit n d) : vcode (qn n d) (qd n d) = 3 ∧ rn n d = 0 ∧ rd n d = 0 ∧ rc n d = 10 ∧ ri n d = -1 := by
  unfold rn rd rc ri
  have hp := qd_pos (n := n) hd
  refine ⟨vcode_out ?_, if_neg h, if_neg h, if_neg h, if_neg h⟩
  unfold qfit at h; omega

set_option maxHeartbeats 400000 in
theorem reduce_fit (n d : Int) (w : World) (h1 : -4611686018427387904 ≤ n) (h2 : n ≤ 4611686018427387904) (h3 : -4611686018427387904 ≤ d) (h4 : d ≤ 4611686018427387904) (hd : d ≠ 0) (hfit : qfit n d) :
    Calls Try.prog 54 #[.int .i64 n, .int .i64 d] w fun e w' => e = .returned (.tuple #[.agg #[.int .i64 (rn n d), .int .i64 (rd n d)], .agg #[.int .i64 (rc n d), .int .i64 (ri n d)]]) ∧ Below w.heap.size w w' := by
  obtain ⟨k0, k1, k2, k3, k4⟩ := fit_code hd hfit
  rw [k1, k2, k3, k4]
  have K0 := Lib.hid k0
  obtain ⟨b1, b2⟩ := q_bd n d hd h1 h2
  have b3 := qd_pos (n := n) hd
  have b4 := q_bd' n d hd h3 h4
  have hg := gcd_pos (n := n) hd
  clear k0 k1 k2 k3 k4 hfit
  have BA := ((Below.refl w.heap.size w).alloc (Nat.le_refl _) (.cells #[.int .i64 0, .int .i64 0] 28)).alloc (by simp) (.cells #[.int .i64 0, .int .i64 0] 34)
  by_cases hs : d < 0
  case' pos => obtain ⟨q1, q2⟩ := quo_neg n d hs
  case' neg => obtain ⟨q1, q2⟩ := quo_pos n d hs
  all_goals
    go_enter Try.func54, Try.ntmps54
    go_wp2_with (go_at_call 57; go_must (refine (gcd_any _ _ _ (by omega) (by omega)).mono ?_; rintro e w1 ⟨rfl, B1⟩; obtain ⟨C0, F1⟩ := Cls.first (l := [(w.heap.size, 0, .int .i64 0), (w.heap.size, 1, .int .i64 0), (w.heap.size + 1, 0, .int .i64 0), (w.heap.size + 1, 1, .int .i64 0)]) B1 (by simp [Cls, go_sem]); simp only [Cls, and_true] at F1; have z1 : w.heap.size + 2 ≤ w1.heap.size := (by have := B1.size; simp at this; omega)))
    go_region
    go_wp2_with (go_at_call 58; go_must (refine (fvalidate_any _ _ _).mono ?_; rintro e w2 ⟨he, hB⟩; rw [K0.out] at he; subst he; have B2 := ((B1.alloc (by simp <;> omega) _).drew).trans (hB.mono (by simp <;> omega)); have F2 := C0.below B2; simp only [Cls, and_true] at F2; have z2 : w1.heap.size + 1 ≤ w2.heap.size := (by have := hB.size; simp at this; omega); have G2 : Cls w2 [(w1.heap.size, 0, .int .i64 (qn n d)), (w1.heap.size, 1, .int .i64 (qd n d))] := Cls.below hB (by simp [Cls, go_sem]); simp only [Cls, and_true] at G2; clear hB))
    refine bodyPost_ret (v := .tuple #[.agg #[.int .i64 (qn n d), .int .i64 (qd n d)], .agg #[.int .i64 0, .int .i64 0]]) ?_ rfl ⟨rfl, ((((BA.trans (B2.mono (by simp <;> omega))).setCell (by simp) _).setCell (by simp) _).setCell (by simp) _).setCell (by simp) _⟩
    simp [results, Try.results54, go_sem, F2]

set_option maxHeartbeats 400000 in
theorem reduce_big (n d : Int) (w : World) (h1 : -4611686018427387904 ≤ n) (h2 : n ≤ 4611686018427387904) (h3 : -4611686018427387904 ≤ d) (h4 : d ≤ 4611686018427387904) (hd : d ≠ 0) (hfit : ¬ qfit n d) :
    Calls Try.prog 54 #[.int .i64 n, .int .i64 d] w fun e w' => e = .returned (.tuple #[.agg #[.int .i64 (rn n d), .int .i64 (rd n d)], .agg #[.int .i64 (rc n d), .int .i64 (ri n d)]]) ∧ Below w.heap.size w w' := by
  obtain ⟨k0, k1, k2, k3, k4⟩ := big_code hd hfit
  rw [k1, k2, k3, k4]
  have K0 := Lib.hid k0
  obtain ⟨b1, b2⟩ := q_bd n d hd h1 h2
  have b3 := qd_pos (n := n) hd
  have b4 := q_bd' n d hd h3 h4
  have hg := gcd_pos (n := n) hd
  clear k0 k1 k2 k3 k4 hfit
  have BA := ((Below.refl w.heap.size w).alloc (Nat.le_refl _) (.cells #[.int .i64 0, .int .i64 0] 28)).alloc (by simp) (.cells #[.int .i64 0, .int .i64 0] 34)
  by_cases hs : d < 0
  case' pos => obtain ⟨q1, q2⟩ := quo_neg n d hs
  case' neg => obtain ⟨q1, q2⟩ := quo_pos n d hs
  all_goals
    go_enter Try.func54, Try.ntmps54
    go_wp2_with (go_at_call 57; go_must (refine (gcd_any _ _ _ (by omega) (by omega)).mono ?_; rintro e w1 ⟨rfl, B1⟩; obtain ⟨C0, F1⟩ := Cls.first (l := [(w.heap.size, 0, .int .i64 0), (w.heap.size, 1, .int .i64 0), (w.heap.size + 1, 0, .int .i64 0), (w.heap.size + 1, 1, .int .i64 0)]) B1 (by simp [Cls, go_sem]); simp only [Cls, and_true] at F1; have z1 : w.heap.size + 2 ≤ w1.heap.size := (by have := B1.size; simp at this; omega)))
    go_region
    go_wp2_with (go_at_call 58; go_must (refine (fvalidate_any _ _ _).mono ?_; rintro e w2 ⟨he, hB⟩; rw [K0.out] at he; subst he; have B2 := ((B1.alloc (by simp <;> omega) _).drew).trans (hB.mono (by simp <;> omega)); have F2 := C0.below B2; simp only [Cls, and_true] at F2; have z2 : w1.heap.size + 1 ≤ w2.heap.size := (by have := hB.size; simp at this; omega); have G2 : Cls w2 [(w1.heap.size, 0, .int .i64 (qn n d)), (w1.heap.size, 1, .int .i64 (qd n d))] := Cls.below hB (by simp [Cls, go_sem]); simp only [Cls, and_true] at G2; clear hB))
    refine bodyPost_ret (v := .tuple #[.agg #[.int .i64 0, .int .i64 0], .agg #[.int .i64 10, .int .i64 (-1)]]) ?_ rfl ⟨rfl, ((((BA.trans (B2.mono (by simp <;> omega))).setCell (by simp) _).setCell (by simp) _).setCell (by simp) _).setCell (by simp) _⟩
    simp [results, Try.results54, go_sem, F2]

theorem reduce_any (n d : Int) (w : World) (h1 : -4611686018427387904 ≤ n) (h2 : n ≤ 4611686018427387904) (h3 : -4611686018427387904 ≤ d) (h4 : d ≤ 4611686018427387904) (hd : d ≠ 0) :
    Calls Try.prog 54 #[.int .i64 n, .int .i64 d] w fun e w' => e = .returned (.tuple #[.agg #[.int .i64 (rn n d), .int .i64 (rd n d)], .agg #[.int .i64 (rc n d), .int .i64 (ri n d)]]) ∧ Below w.heap.size w w' := by
  by_cases h : qfit n d
  · exact reduce_fit n d w h1 h2 h3 h4 hd h
  · exact reduce_big n d w h1 h2 h3 h4 hd h

end Go.Proofs.Ytkepfmglljkjhaa

namespace Go.Proofs.Ytkepfmglljkjhaa
open Go.RowKit
set_option linter.unusedVariables false
set_option linter.unusedSimpArgs false

set_option maxHeartbeats 400000 in
theorem make_in (n d : Int) (h1 : -4611686018427387904 ≤ n) (h2 : n ≤ 4611686018427387904) (h3 : -4611686018427387904 ≤ d) (h4 : d ≤ 4611686018427387904) (hd : d ≠ 0) (w : World) :
    Calls Try.prog 38 #[.int .i64 n, .int .i64 d] w fun e w' => e = .returned (.tuple #[.agg #[.int .i64 (rn n d), .int .i64 (rd n d)], .agg #[.int .i64 (rc n d), .int .i64 (ri n d)]]) ∧ Below w.heap.size w w' := by
  have hd' : (d == 0) = false := by simpa using hd
  go_enter Try.func38, Try.ntmps38
  go_wp2_with fail
  refine (reduce_any _ _ _ (by omega) (by omega) (by omega) (by omega) (by assumption)).mono ?_
  rintro e w1 ⟨rfl, hB⟩
  have D1 := dstep w hB (by repeat (first | with_reducible exact Below.refl _ _ | with_reducible apply bdrew | with_reducible apply bdrewN | with_reducible apply balloc | ((with_reducible refine bset ?_ ?_ _); rotate_left; (first | omega | (simp <;> omega)))))
  have d1s := D1.size
  obtain ⟨C0, F1⟩ := Cls.first (l := [(w.heap.size, 0, .int .i64 0), (w.heap.size, 1, .int .i64 0), (w.heap.size + 1, 0, .int .i64 0), (w.heap.size + 1, 1, .int .i64 0)]) hB (by simp [Cls, go_sem])
  simp only [Cls, and_true] at F1
  have B1 := hB
  have hs1 := hB.size
  try simp at hs1
  have hb1 := B1.size
  try simp at hb1
  have y1_0_1 : w.heap.size + 1 < w1.heap.size := (by omega)
  have y1_0_0 : w.heap.size < w1.heap.size := (by omega)
  have y1_0_p1 : w.heap.size < w1.heap.size + 1 := (by omega)
  have y1_0_p2 : w.heap.size < w1.heap.size + 1 + 1 := (by omega)
  clear hB
  go_wp2
  refine bodyPost_ret (v := .tuple #[.agg #[.int .i64 (rn n d), .int .i64 (rd n d)], .agg #[.int .i64 (rc n d), .int .i64 (ri n d)]]) ?_ rfl ⟨rfl, by repeat (first | with_reducible exact D1 | with_reducible apply bdrew | with_reducible apply bdrewN | with_reducible apply balloc | ((with_reducible refine bset ?_ ?_ _); rotate_left; (first | omega | (simp <;> omega))))⟩
  simp [results, Try.results38, go_sem, F1, y1_0_1, y1_0_0, y1_0_p1, y1_0_p2]

end Go.Proofs.Ytkepfmglljkjhaa

namespace Go.Proofs.Ytkepfmglljkjhaa
open Go.RowKit
set_option linter.unusedVariables false
set_option linter.unusedSimpArgs false

theorem fin_any (n a b : Int) (w : World) (h : a ≤ b) :
    Calls Try.prog 12 #[.int .i64 n, .int .i64 a, .int .i64 b] w fun e w' => e = .returned (.bool (decide (a ≤ n ∧ n ≤ b))) ∧ w = w' := by
  by_cases h1 : a ≤ n
  · by_cases h2 : n ≤ b
    · go_enter Try.func12, Try.ntmps12
      go_wp2
      go_ret
      exact ⟨by simp <;> omega, rfl⟩
    · go_enter Try.func12, Try.ntmps12
      go_wp2
      go_ret
      exact ⟨by simp <;> omega, rfl⟩
  · go_enter Try.func12, Try.ntmps12
    go_wp2
    go_ret
    exact ⟨by simp <;> omega, rfl⟩

theorem fin_yes (n a b : Int) (w : World) (h1 : a ≤ n) (h2 : n ≤ b) :
    Calls Try.prog 12 #[.int .i64 n, .int .i64 a, .int .i64 b] w fun e w' => e = .returned (.bool true) ∧ w = w' :=
  (fin_any n a b w (by omega)).mono fun e w' ⟨he, hw⟩ => ⟨by rw [he, show decide (a ≤ n ∧ n ≤ b) = true from decide_eq_true ⟨h1, h2⟩], hw⟩
theorem fin_no (n a b : Int) (w : World) (h : a ≤ b) (h1 : n < a ∨ b < n) :
    Calls Try.prog 12 #[.int .i64 n, .int .i64 a, .int .i64 b] w fun e w' => e = .returned (.bool false) ∧ w = w' :=
  (fin_any n a b w h).mono fun e w' ⟨he, hw⟩ => ⟨by rw [he, show decide (a ≤ n ∧ n ≤ b) = false from decide_eq_false (by omega)], hw⟩

theorem mod_gcd_l (a b : Int) : Int.gcd (a % b) b = Int.gcd a b := by
  have h := Int.gcd_add_mul_left_left b (a % b) (a / b)
  rw [Int.emod_add_mul_ediv] at h
  exact h.symm

set_option maxHeartbeats 400000 in
theorem divisor_any (a b : Int) (w : World) (ha : -4611686018427387904 ≤ a ∧ a ≤ 4611686018427387904) (hb : -4611686018427387904 ≤ b ∧ b ≤ 4611686018427387904) :
    Calls Try.prog 42 #[.int .i64 a, .int .i64 b] w fun e w' => e = .returned (.int .i64 (Int.gcd a b)) ∧ w = w' := by
  obtain ⟨ha1, ha2⟩ := ha
  obtain ⟨hb1, hb2⟩ := hb
  by_cases h1 : a < 0
  all_goals
    by_cases h2 : b < 0
    all_goals
      go_enter Try.func42, Try.ntmps42
      go_wp2
      go_loop [0, 1] (fun x y => ∃ m n : Int, x = .int .i64 m ∧ y = .int .i64 n ∧ Int.gcd m n = Int.gcd a b ∧ 0 ≤ m ∧ m ≤ 4611686018427387904 ∧ 0 ≤ n ∧ n ≤ 4611686018427387904) (fun x y => (intOf x).toNat + (intOf y).toNat)
      case atStart => exact ⟨_, _, rfl, rfl, by simp, by omega, by omega, by omega, by omega⟩
      case round =>
        obtain ⟨m, n, rfl, rfl, hg, hm1, hm2, hn1, hn2⟩ := hrel
        have HG := Lib.hid hg
        clear hg
        by_cases zm : m = 0
        · subst zm
          have e : (Int.gcd a b : Int) = n := by rw [← HG.out]; simp <;> omega
          have HE := Lib.hid e
          clear e
          go_wp2
          go_ret
          exact ⟨ret_int (by rw [HE.out] <;> omega), rfl⟩
        · have zm' : (m == 0) = false := by simpa using zm
          by_cases zn : n = 0
          · subst zn
            have e : (Int.gcd a b : Int) = m := by rw [← HG.out]; simp <;> omega
            have HE := Lib.hid e
            clear e
            go_wp2
            go_ret
            exact ⟨ret_int (by rw [HE.out] <;> omega), rfl⟩
          · have zn' : (n == 0) = false := by simpa using zn
            have zm2 : (m != 0) = true := by simpa using zm
            have zn2 : (n != 0) = true := by simpa using zn
            by_cases hc : n < m
            · have e1 := Int.emod_nonneg m zn
              have e2 := Int.emod_lt_of_pos m (show 0 < n by omega)
              go_wp2
              go_round
              case rel => exact ⟨m % n, n, rfl, rfl, by rw [mod_gcd_l]; exact HG.out, by omega, by omega, by omega, by omega⟩
              case measure => simp only [intOf]; omega
            · have e1 := Int.emod_nonneg n zm
              have e2 := Int.emod_lt_of_pos n (show 0 < m by omega)
              go_wp2
              go_round
              case rel => exact ⟨m, n % m, rfl, rfl, by rw [Int.gcd_comm, mod_gcd_l, Int.gcd_comm]; exact HG.out, by omega, by omega, by omega, by omega⟩
              case measure => simp only [intOf]; omega

theorem gcd_le {n d : Int} (hd : d ≠ 0) (h3 : -4611686018427387904 ≤ d) (h4 : d ≤ 4611686018427387904) : (Int.gcd n d : Int) ≤ 4611686018427387904 := by
  have h := Nat.le_of_dvd (by omega) (Int.natAbs_dvd_natAbs.2 (Int.gcd_dvd_right n d))
  rw [Int.natAbs_natCast] at h
  omega

set_option maxHeartbeats 400000 in
theorem fcode_out1 (n d : Int) (h : n < -1000000000 ∨ 1000000000 < n) (w : World) :
    Calls Try.prog 45 #[.agg #[.int .i64 n, .int .i64 d]] w fun e w' => e = .returned (.int .i64 3) ∧ Below w.heap.size w w' := by
  go_enter Try.func45, Try.ntmps45
  go_wp2_with fail
  refine (fin_no _ _ _ _ (by omega) (by omega)).mono ?_
  rintro e w' ⟨rfl, rfl⟩
  go_wp2
  go_ret
  exact ⟨rfl, by repeat (first | with_reducible exact Below.refl _ _ | with_reducible apply bdrew | with_reducible apply bdrewN | with_reducible apply balloc | ((with_reducible refine bset ?_ ?_ _); rotate_left; (first | omega | (simp <;> omega))))⟩

set_option maxHeartbeats 400000 in
theorem fcode_out2 (n d : Int) (h1 : -1000000000 ≤ n) (h2 : n ≤ 1000000000) (h : d < 1 ∨ 1000000000 < d) (w : World) :
    Calls Try.prog 45 #[.agg #[.int .i64 n, .int .i64 d]] w fun e w' => e = .returned (.int .i64 3) ∧ Below w.heap.size w w' := by
  go_enter Try.func45, Try.ntmps45
  go_wp2_with fail
  refine (fin_yes _ _ _ _ (by omega) (by omega)).mono ?_
  rintro e w' ⟨rfl, rfl⟩
  go_wp2_with fail
  refine (fin_no _ _ _ _ (by omega) (by omega)).mono ?_
  rintro e w' ⟨rfl, rfl⟩
  go_wp2
  go_ret
  exact ⟨rfl, by repeat (first | with_reducible exact Below.refl _ _ | with_reducible apply bdrew | with_reducible apply bdrewN | with_reducible apply balloc | ((with_reducible refine bset ?_ ?_ _); rotate_left; (first | omega | (simp <;> omega))))⟩

set_option maxHeartbeats 400000 in
theorem fcode_one (n d : Int) (h1 : -1000000000 ≤ n) (h2 : n ≤ 1000000000) (h3 : 1 ≤ d) (h4 : d ≤ 1000000000) (hg : ((Int.gcd n d : Nat) : Int) = 1) (w : World) :
    Calls Try.prog 45 #[.agg #[.int .i64 n, .int .i64 d]] w fun e w' => e = .returned (.int .i64 0) ∧ Below w.heap.size w w' := by
  have HG := Lib.hid hg
  clear hg
  go_enter Try.func45, Try.ntmps45
  go_wp2_with fail
  refine (fin_yes _ _ _ _ (by omega) (by omega)).mono ?_
  rintro e w' ⟨rfl, rfl⟩
  go_wp2_with fail
  refine (fin_yes _ _ _ _ (by omega) (by omega)).mono ?_
  rintro e w' ⟨rfl, rfl⟩
  go_wp2_with fail
  refine (divisor_any _ _ _ (by omega) (by omega)).mono ?_
  rintro e w' ⟨he, rfl⟩
  rw [HG.out] at he
  subst he
  go_wp2
  go_ret
  exact ⟨rfl, by repeat (first | with_reducible exact Below.refl _ _ | with_reducible apply bdrew | with_reducible apply bdrewN | with_reducible apply balloc | ((with_reducible refine bset ?_ ?_ _); rotate_left; (first | omega | (simp <;> omega))))⟩

set_option maxHeartbeats 400000 in
theorem fcode_not (n d : Int) (h1 : -1000000000 ≤ n) (h2 : n ≤ 1000000000) (h3 : 1 ≤ d) (h4 : d ≤ 1000000000) (hg : (((Int.gcd n d : Nat) : Int) == 1) = false) (w : World) :
    Calls Try.prog 45 #[.agg #[.int .i64 n, .int .i64 d]] w fun e w' => e = .returned (.int .i64 5) ∧ Below w.heap.size w w' := by
  go_enter Try.func45, Try.ntmps45
  go_wp2_with fail
  refine (fin_yes _ _ _ _ (by omega) (by omega)).mono ?_
  rintro e w' ⟨rfl, rfl⟩
  go_wp2_with fail
  refine (fin_yes _ _ _ _ (by omega) (by omega)).mono ?_
  rintro e w' ⟨rfl, rfl⟩
  go_wp2_with fail
  refine (divisor_any _ _ _ (by omega) (by omega)).mono ?_
  rintro e w' ⟨rfl, rfl⟩
  go_wp2
  go_ret
  exact ⟨rfl, by repeat (first | with_reducible exact Below.refl _ _ | with_reducible apply bdrew | with_reducible apply bdrewN | with_reducible apply balloc | ((with_reducible refine bset ?_ ?_ _); rotate_left; (first | omega | (simp <;> omega))))⟩

theorem fcode_any (n d : Int) (w : World) :
    Calls Try.prog 45 #[.agg #[.int .i64 n, .int .i64 d]] w fun e w' => e = .returned (.int .i64 (vcode n d)) ∧ Below w.heap.size w w' := by
  by_cases h : n < -1000000000 ∨ 1000000000 < n ∨ d < 1 ∨ 1000000000 < d
  · rw [vcode_out h]
    by_cases h1 : n < -1000000000 ∨ 1000000000 < n
    · exact fcode_out1 n d h1 w
    · exact fcode_out2 n d (by omega) (by omega) (by omega) w
  · by_cases hg : Int.gcd n d = 1
    · rw [vcode_one h hg]; exact fcode_one n d (by omega) (by omega) (by omega) (by omega) (by rw [hg]; rfl) w
    · rw [vcode_not h hg]; exact fcode_not n d (by omega) (by omega) (by omega) (by omega) (by simp; omega) w
/-- Is the quotient one that fits? -/
def rb (n d : Int) : Bool := decide (qfit n d)

set_option maxHeartbeats 400000 in
theorem lowest_fit (n d : Int) (h1 : -4611686018427387904 ≤ n) (h2 : n ≤ 4611686018427387904) (h3 : -4611686018427387904 ≤ d) (h4 : d ≤ 4611686018427387904) (hd : d ≠ 0) (hfit : qfit n d) (w : World) :
    Calls Try.prog 22 #[.int .i64 n, .int .i64 d] w fun e w' => e = .returned (.tuple #[.agg #[.int .i64 (qn n d), .int .i64 (qd n d)], .bool true]) ∧ Below w.heap.size w w' := by
  obtain ⟨k0, k1, k2, k3, k4⟩ := fit_code hd hfit
  have K0 := Lib.hid k0
  obtain ⟨b1, b2⟩ := q_bd n d hd h1 h2
  have b3 := qd_pos (n := n) hd
  have b4 := q_bd' n d hd h3 h4
  have hg := gcd_pos (n := n) hd
  have hg2 := gcd_le (n := n) hd h3 h4
  clear k0 k1 k2 k3 k4 hfit
  by_cases hs : d < 0
  case' pos => obtain ⟨q1, q2⟩ := quo_neg n d hs
  case' neg => obtain ⟨q1, q2⟩ := quo_pos n d hs
  all_goals
    go_enter Try.func22, Try.ntmps22
    go_wp2_with fail
    refine (divisor_any _ _ _ (by omega) (by omega)).mono ?_
    rintro e w' ⟨rfl, rfl⟩
    go_wp2
    go_region
    go_wp2_with fail
    refine (fcode_any _ _ _).mono ?_
    rintro e w1 ⟨he, hB⟩
    rw [K0.out] at he
    subst he
    have D1 := dstep w hB (by repeat (first | with_reducible exact Below.refl _ _ | with_reducible apply bdrew | with_reducible apply bdrewN | with_reducible apply balloc | ((with_reducible refine bset ?_ ?_ _); rotate_left; (first | omega | (simp <;> omega)))))
    have d1s := D1.size
    obtain ⟨C0, F1⟩ := Cls.first (l := [(w.heap.size, 0, .int .i64 0), (w.heap.size, 1, .int .i64 0)]) hB (by simp [Cls, go_sem])
    simp only [Cls, and_true] at F1
    have B1 := hB
    have G1 := Cls.below (l := [(w.heap.size + 1, 0, .int .i64 (qn n d)), (w.heap.size + 1, 1, .int .i64 (qd n d))]) hB (by simp [Cls, go_sem])
    simp only [Cls, and_true] at G1
    have hs1 := hB.size
    try simp at hs1
    have hb1 := B1.size
    try simp at hb1
    have y1_0_1 : w.heap.size + 1 < w1.heap.size := (by omega)
    have y1_0_0 : w.heap.size < w1.heap.size := (by omega)
    have y1_0_p1 : w.heap.size < w1.heap.size + 1 := (by omega)
    have y1_0_p2 : w.heap.size < w1.heap.size + 1 + 1 := (by omega)
    clear hB
    go_wp2
    refine bodyPost_ret (v := .tuple #[.agg #[.int .i64 (qn n d), .int .i64 (qd n d)], .bool true]) ?_ rfl ⟨rfl, by repeat (first | with_reducible exact D1 | with_reducible apply bdrew | with_reducible apply bdrewN | with_reducible apply balloc | ((with_reducible refine bset ?_ ?_ _); rotate_left; (first | omega | (simp <;> omega))))⟩
    simp [results, Try.results22, go_sem, F1, G1, y1_0_1, y1_0_0, y1_0_p1, y1_0_p2]

set_option maxHeartbeats 400000 in
theorem lowest_big (n d : Int) (h1 : -4611686018427387904 ≤ n) (h2 : n ≤ 4611686018427387904) (h3 : -4611686018427387904 ≤ d) (h4 : d ≤ 4611686018427387904) (hd : d ≠ 0) (hfit : ¬ qfit n d) (w : World) :
    Calls Try.prog 22 #[.int .i64 n, .int .i64 d] w fun e w' => e = .returned (.tuple #[.agg #[.int .i64 0, .int .i64 0], .bool false]) ∧ Below w.heap.size w w' := by
  obtain ⟨k0, k1, k2, k3, k4⟩ := big_code hd hfit
  have K0 := Lib.hid k0
  obtain ⟨b1, b2⟩ := q_bd n d hd h1 h2
  have b3 := qd_pos (n := n) hd
  have b4 := q_bd' n d hd h3 h4
  have hg := gcd_pos (n := n) hd
  have hg2 := gcd_le (n := n) hd h3 h4
  clear k0 k1 k2 k3 k4 hfit
  by_cases hs : d < 0
  case' pos => obtain ⟨q1, q2⟩ := quo_neg n d hs
  case' neg => obtain ⟨q1, q2⟩ := quo_pos n d hs
  all_goals
    go_enter Try.func22, Try.ntmps22
    go_wp2_with fail
    refine (divisor_any _ _ _ (by omega) (by omega)).mono ?_
    rintro e w' ⟨rfl, rfl⟩
    go_wp2
    go_region
    go_wp2_with fail
    refine (fcode_any _ _ _).mono ?_
    rintro e w1 ⟨he, hB⟩
    rw [K0.out] at he
    subst he
    have D1 := dstep w hB (by repeat (first | with_reducible exact Below.refl _ _ | with_reducible apply bdrew | with_reducible apply bdrewN | with_reducible apply balloc | ((with_reducible refine bset ?_ ?_ _); rotate_left; (first | omega | (simp <;> omega)))))
    have d1s := D1.size
    obtain ⟨C0, F1⟩ := Cls.first (l := [(w.heap.size, 0, .int .i64 0), (w.heap.size, 1, .int .i64 0)]) hB (by simp [Cls, go_sem])
    simp only [Cls, and_true] at F1
    have B1 := hB
    have G1 := Cls.below (l := [(w.heap.size + 1, 0, .int .i64 (qn n d)), (w.heap.size + 1, 1, .int .i64 (qd n d))]) hB (by simp [Cls, go_sem])
    simp only [Cls, and_true] at G1
    have hs1 := hB.size
    try simp at hs1
    have hb1 := B1.size
    try simp at hb1
    have y1_0_1 : w.heap.size + 1 < w1.heap.size := (by omega)
    have y1_0_0 : w.heap.size < w1.heap.size := (by omega)
    have y1_0_p1 : w.heap.size < w1.heap.size + 1 := (by omega)
    have y1_0_p2 : w.heap.size < w1.heap.size + 1 + 1 := (by omega)
    clear hB
    go_wp2
    refine bodyPost_ret (v := .tuple #[.agg #[.int .i64 0, .int .i64 0], .bool false]) ?_ rfl ⟨rfl, by repeat (first | with_reducible exact D1 | with_reducible apply bdrew | with_reducible apply bdrewN | with_reducible apply balloc | ((with_reducible refine bset ?_ ?_ _); rotate_left; (first | omega | (simp <;> omega))))⟩
    simp [results, Try.results22, go_sem, F1, G1, y1_0_1, y1_0_0, y1_0_p1, y1_0_p2]

theorem lowest_any (n d : Int) (h1 : -4611686018427387904 ≤ n) (h2 : n ≤ 4611686018427387904) (h3 : -4611686018427387904 ≤ d) (h4 : d ≤ 4611686018427387904) (hd : d ≠ 0) (w : World) :
    Calls Try.prog 22 #[.int .i64 n, .int .i64 d] w fun e w' => e = .returned (.tuple #[.agg #[.int .i64 (rn n d), .int .i64 (rd n d)], .bool (rb n d)]) ∧ Below w.heap.size w w' := by
  unfold rb
  by_cases h : qfit n d
  · obtain ⟨_, k1, k2, _, _⟩ := fit_code hd h
    rw [k1, k2, decide_eq_true h]
    exact lowest_fit n d h1 h2 h3 h4 hd h w
  · obtain ⟨_, k1, k2, _, _⟩ := big_code hd h
    rw [k1, k2, decide_eq_false h]
    exact lowest_big n d h1 h2 h3 h4 hd h w

end Go.Proofs.Ytkepfmglljkjhaa
