/-
  Values of facts without deletions: plain words, no program in sight.
-/
import Init
namespace Go.Proofs.Ytiaokmofoaeifaa
set_option linter.unusedVariables false

/-- A sum of two values. -/
def plusV (a b : Int) : Int := if a = 1000000000 ∨ b = 1000000000 then 1000000000 else if a + b ≥ 1000000000 then 999999999 else a + b
theorem plusV_inf {a b : Int} (h : a = 1000000000 ∨ b = 1000000000) : plusV a b = 1000000000 := by unfold plusV; rw [if_pos h]
theorem plusV_big {a b : Int} (h : ¬ (a = 1000000000 ∨ b = 1000000000)) (h2 : a + b ≥ 1000000000) : plusV a b = 999999999 := by unfold plusV; rw [if_neg h, if_pos h2]
theorem plusV_sum {a b : Int} (h : ¬ (a = 1000000000 ∨ b = 1000000000)) (h2 : ¬ a + b ≥ 1000000000) : plusV a b = a + b := by unfold plusV; rw [if_neg h, if_neg h2]
/-- A value: from 0 to infinite. -/
def InV (v : Int) : Prop := 0 ≤ v ∧ v ≤ 1000000000
theorem InV.zero : InV 0 := by unfold InV; omega
theorem InV.inf : InV 1000000000 := by unfold InV; omega
theorem plusV_in {a b : Int} (ha : InV a) (hb : InV b) : InV (plusV a b) := by unfold InV at *; unfold plusV; split <;> (try split) <;> omega
theorem plusV_mono {a b c d : Int} (ha : InV a) (hb : InV b) (hc : InV c) (hd : InV d) (h : a ≤ c) (k : b ≤ d) : plusV a b ≤ plusV c d := by unfold InV at *; unfold plusV; (repeat split) <;> omega
theorem plusV_ge_left {a b : Int} (ha : InV a) (hb : InV b) : a ≤ plusV a b := by unfold InV at *; unfold plusV; split <;> (try split) <;> omega
theorem plusV_ge_right {a b : Int} (ha : InV a) (hb : InV b) : b ≤ plusV a b := by unfold InV at *; unfold plusV; split <;> (try split) <;> omega

/-- The value of a fact in a list of values. -/
def valAt (vs : List Int) (p : Int) : Int := (vs[p.toNat]?).getD 0
def stepV (sum : Bool) (o v : Int) : Int := match sum with | true => plusV o v | false => if v > o then v else o
/-- The combination of the values of facts. -/
def combV (sum : Bool) (vs : List Int) (xs : List Int) : Int := xs.foldl (fun o p => stepV sum o (valAt vs p)) 0
def AllV (vs : List Int) : Prop := ∀ v ∈ vs, InV v
theorem stepV_in {s : Bool} {o v : Int} (ho : InV o) (hv : InV v) : InV (stepV s o v) := by
  cases s
  · unfold stepV InV at *; dsimp only; split <;> omega
  · exact plusV_in ho hv
theorem valAt_in {vs : List Int} (h : AllV vs) (p : Int) : InV (valAt vs p) := by
  unfold valAt
  cases e : vs[p.toNat]? with
  | none => exact InV.zero
  | some v => exact h v (List.mem_of_getElem? e)
theorem valAt_of {vs : List Int} {p v : Int} (h : vs[p.toNat]? = some v) : valAt vs p = v := by unfold valAt; rw [h]; rfl
theorem foldV_in {s : Bool} {vs : List Int} (h : AllV vs) : ∀ (xs : List Int) (o : Int), InV o → InV (xs.foldl (fun o p => stepV s o (valAt vs p)) o) := by
  intro xs
  induction xs with
  | nil => intro o ho; exact ho
  | cons x xs ih => intro o ho; exact ih _ (stepV_in ho (valAt_in h x))
theorem combV_in {s : Bool} {vs : List Int} (h : AllV vs) (xs : List Int) : InV (combV s vs xs) := foldV_in h xs 0 InV.zero
theorem combV_nil {s : Bool} {vs : List Int} : combV s vs [] = 0 := rfl
theorem combV_take_succ {s : Bool} {vs xs : List Int} {k : Nat} {x v : Int} (hx : xs[k]? = some x) (hv : vs[x.toNat]? = some v) : combV s vs (xs.take (k + 1)) = stepV s (combV s vs (xs.take k)) v := by
  unfold combV
  rw [List.take_add_one, hx]
  simp only [Option.toList, List.foldl_append, List.foldl_cons, List.foldl_nil]
  rw [valAt_of hv]
theorem combV_take_all {s : Bool} {vs xs : List Int} {k : Nat} (h : ¬ k < xs.length) : combV s vs (xs.take k) = combV s vs xs := by rw [List.take_of_length_le (by omega)]

end Go.Proofs.Ytiaokmofoaeifaa
