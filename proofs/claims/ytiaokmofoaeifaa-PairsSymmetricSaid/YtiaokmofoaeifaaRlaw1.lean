/-
  Plain laws of the values: greatest values are at most the sums; both are infinite for the same facts.
-/
import Derived.Test.YtiaokmofoaeifaaRvals
namespace Go.Proofs.Ytiaokmofoaeifaa
set_option linter.unusedVariables false
set_option linter.unusedSimpArgs false

theorem plusV_inf_iff {a b : Int} (ha : InV a) (hb : InV b) : plusV a b = 1000000000 ↔ a = 1000000000 ∨ b = 1000000000 := by
  unfold InV at ha hb
  unfold plusV
  by_cases h : a = 1000000000 ∨ b = 1000000000
  · simp [h]
  · rw [if_neg h]
    constructor
    · intro k
      split at k <;> omega
    · intro k; exact absurd k h
theorem stepV_inf_iff {s : Bool} {a b : Int} (ha : InV a) (hb : InV b) : stepV s a b = 1000000000 ↔ a = 1000000000 ∨ b = 1000000000 := by
  cases s
  · unfold InV at ha hb
    unfold stepV; dsimp only
    split <;> omega
  · exact plusV_inf_iff ha hb
theorem foldV_inf {s : Bool} {vs : List Int} (h : AllV vs) : ∀ (xs : List Int) (o : Int), InV o →
    (xs.foldl (fun o p => stepV s o (valAt vs p)) o = 1000000000 ↔ o = 1000000000 ∨ ∃ x ∈ xs, valAt vs x = 1000000000) := by
  intro xs
  induction xs with
  | nil => intro o _; simp
  | cons x xs ih =>
    intro o ho
    rw [List.foldl_cons, ih _ (stepV_in ho (valAt_in h x)), stepV_inf_iff ho (valAt_in h x)]
    constructor
    · rintro ((h1 | h1) | ⟨y, hy, h1⟩)
      · exact .inl h1
      · exact .inr ⟨x, List.mem_cons_self .., h1⟩
      · exact .inr ⟨y, List.mem_cons_of_mem _ hy, h1⟩
    · rintro (h1 | ⟨y, hy, h1⟩)
      · exact .inl (.inl h1)
      · rcases List.mem_cons.1 hy with e | e
        · subst e; exact .inl (.inr h1)
        · exact .inr ⟨y, e, h1⟩
theorem combV_inf {s : Bool} {vs : List Int} (h : AllV vs) (xs : List Int) : combV s vs xs = 1000000000 ↔ ∃ x ∈ xs, valAt vs x = 1000000000 := by
  unfold combV
  rw [foldV_inf h xs 0 InV.zero]
  constructor
  · rintro (h | h)
    · omega
    · exact h
  · exact .inr
theorem stepV_le {a b v : Int} (hv : InV v) (ha : InV a) (hb : InV b) (h : a ≤ b) : stepV false a v ≤ stepV true b v := by
  have h1 := plusV_ge_left hb hv
  have h2 := plusV_ge_right hb hv
  unfold stepV; dsimp only
  split <;> omega
theorem foldV_le {vs : List Int} (h : AllV vs) : ∀ (xs : List Int) (o o' : Int), InV o → InV o' → o ≤ o' →
    xs.foldl (fun o p => stepV false o (valAt vs p)) o ≤ xs.foldl (fun o p => stepV true o (valAt vs p)) o' := by
  intro xs
  induction xs with
  | nil => intro o o' _ _ h; exact h
  | cons x xs ih => intro o o' ho ho' hle; exact ih _ _ (stepV_in ho (valAt_in h x)) (stepV_in ho' (valAt_in h x)) (stepV_le (valAt_in h x) ho ho' hle)
theorem combV_le {vs : List Int} (h : AllV vs) (xs : List Int) : combV false vs xs ≤ combV true vs xs := foldV_le h xs 0 0 InV.zero InV.zero (Int.le_refl _)

section
variable {n : Nat} {st : List Int} {ops : List OpV} {cs V U : List Int}
theorem max_le_add (hV : Best false n st ops cs V) (hU : Best true n st ops cs U) (hc : AllV cs) : LeV V U := by
  refine hU.great V ⟨hV.fix.shape, fun i o c hi ho hcs p hp => ?_⟩
  have hcv := hc c (List.mem_of_getElem? hcs)
  refine Int.le_trans (hV.fix.closed i o c hi ho hcs p hp) ?_
  unfold opV
  exact plusV_mono (combV_in hV.fix.shape.all _) hcv (combV_in hV.fix.shape.all _) hcv (combV_le hV.fix.shape.all _) (Int.le_refl _)
/-- V, but infinite where U is. -/
def raise (V U : List Int) : List Int := (List.range V.length).map fun (p : Nat) => if valAt U (p : Int) = 1000000000 then 1000000000 else valAt V (p : Int)
theorem raise_at {V U : List Int} (hl : U.length = V.length) (p : Int) : valAt (raise V U) p = if valAt U p = 1000000000 then 1000000000 else valAt V p := by
  unfold raise
  rcases Nat.lt_or_ge p.toNat V.length with h | h
  · rw [valAt_of (v := if valAt U ((p.toNat : Nat) : Int) = 1000000000 then 1000000000 else valAt V ((p.toNat : Nat) : Int)) (by simp [h])]
    have e : ∀ W, valAt W ((p.toNat : Nat) : Int) = valAt W p := fun W => by unfold valAt; rw [Int.toNat_natCast]
    rw [e, e]
  · have e : ∀ W : List Int, W.length = V.length → valAt W p = 0 := fun W hW => by unfold valAt; rw [List.getElem?_eq_none (by omega)]; rfl
    rw [e V rfl, e U hl, e _ (by simp)]
    rfl
theorem inf_same (hV : Best false n st ops cs V) (hU : Best true n st ops cs U) (hc : AllV cs) (hc2 : ∀ c ∈ cs, c < 1000000000) (p : Int) : valAt V p = 1000000000 ↔ valAt U p = 1000000000 := by
  have hVU := max_le_add hV hU hc
  have hUall := hU.fix.shape.all
  have hVall := hV.fix.shape.all
  constructor
  · intro h
    have h1 := hVU p
    have h2 := valAt_in hUall p
    unfold InV at h2
    omega
  · intro h
    have hl : U.length = V.length := hU.fix.shape.len.trans hV.fix.shape.len.symm
    have hle : LeV V (raise V U) := fun q => by
      rw [raise_at hl]
      have := valAt_in hVall q
      unfold InV at this
      split <;> omega
    have hall : AllV (raise V U) := fun v hv => by
      unfold raise at hv
      obtain ⟨q, _, rfl⟩ := List.mem_map.1 hv
      split
      · exact InV.inf
      · exact valAt_in hVall _
    have hfix : Fix false n st ops cs (raise V U) := by
      refine ⟨⟨?_, hall, fun q hq => ?_⟩, fun i o c hi ho hcs q hq => ?_⟩
      · unfold raise; simp [hV.fix.shape.len]
      · rw [raise_at hl, hU.fix.shape.zero q hq, hV.fix.shape.zero q hq]; rfl
      · have hcm := List.mem_of_getElem? hcs
        have hcv := hc c hcm
        rw [raise_at hl]
        split
        · rename_i hinf
          have h1 := hU.fix.closed i o c hi ho hcs q hq
          have h2 := opV_in (s := true) hUall o hcv
          have h3 : opV true U o c = 1000000000 := by unfold InV at h2; omega
          unfold opV at h3
          rcases (plusV_inf_iff (combV_in hUall _) hcv).1 h3 with h4 | h4
          · obtain ⟨x, hx, hx2⟩ := (combV_inf hUall _).1 h4
            have h5 : combV false (raise V U) o.pre = 1000000000 := (combV_inf hall _).2 ⟨x, hx, by rw [raise_at hl, if_pos hx2]⟩
            have h6 : opV false (raise V U) o c = 1000000000 := by unfold opV; exact plusV_inf (.inl h5)
            omega
          · have := hc2 c hcm; omega
        · exact Int.le_trans (hV.fix.closed i o c hi ho hcs q hq) (opV_mono hVall hall hle o hcv)
    have h1 := hV.great _ hfix p
    rw [raise_at hl, if_pos h] at h1
    have h2 := valAt_in hVall p
    unfold InV at h2
    omega
theorem goal_le (hV : Best false n st ops cs V) (hU : Best true n st ops cs U) (hc : AllV cs) (xs : List Int) : combV false V xs ≤ combV true U xs :=
  Int.le_trans (combV_le hV.fix.shape.all xs) (combV_mono hV.fix.shape.all hU.fix.shape.all (max_le_add hV hU hc) xs)
theorem goal_inf (hV : Best false n st ops cs V) (hU : Best true n st ops cs U) (hc : AllV cs) (hc2 : ∀ c ∈ cs, c < 1000000000) (xs : List Int) : combV false V xs = 1000000000 ↔ combV true U xs = 1000000000 := by
  rw [combV_inf hV.fix.shape.all, combV_inf hU.fix.shape.all]
  exact ⟨fun ⟨x, hx, h⟩ => ⟨x, hx, (inf_same hV hU hc hc2 x).1 h⟩, fun ⟨x, hx, h⟩ => ⟨x, hx, (inf_same hV hU hc hc2 x).2 h⟩⟩
end

end Go.Proofs.Ytiaokmofoaeifaa
