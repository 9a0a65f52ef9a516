/-
  An operator lowers no greatest value by more than its cost: a plain law.
-/
import Derived.Test.YtiaokmofoaeifaaRvals
import Derived.Test.YtiaokmofoaeifaaRlaw1
import Derived.Test.YtiaokmofoaeifaaLcplain
namespace Go.Proofs.Ytiaokmofoaeifaa
set_option linter.unusedVariables false
set_option linter.unusedSimpArgs false

theorem max_cons {n : Nat} {st st' : List Int} {ops : List OpV} {cs V V' : List Int} (hV : Best false n st ops cs V) (hV' : Best false n st' ops cs V') (hlc : cs.length = ops.length) (hcs : ∀ c ∈ cs, 0 ≤ c ∧ c ≤ 100)
    (hops : ∀ o ∈ ops, (∀ p ∈ o.pre, 0 ≤ p ∧ p < (n : Int)) ∧ ∀ p ∈ o.add, 0 ≤ p ∧ p < (n : Int)) (hst' : ∀ q ∈ st', 0 ≤ q ∧ q < (n : Int))
    {i : Nat} {o : OpV} {c : Int} (ho : ops[i]? = some o) (hc : cs[i]? = some c) (hpre : ∀ q ∈ o.pre, q ∈ st) (hadd : ∀ q ∈ st', q ∈ st ∨ q ∈ o.add) {p : Int} (p0 : 0 ≤ p) (p1 : p < (n : Int)) (hp : valAt V' p < 1000000000) : valAt V p ≤ valAt V' p + c := by
  have hVall := hV.fix.shape.all
  have hVin := fun q => valAt_in hVall q
  unfold InV at hVin
  have hcc := hcs c (List.mem_of_getElem? hc)
  have hcm : AllV cs := fun v hv => by have := hcs v hv; unfold InV; omega
  have hi := get_lt ho
  have hz : ∀ q ∈ st', valAt V q ≤ c := fun q hq => by
    rcases hadd q hq with h | h
    · rw [hV.fix.shape.zero q h]; omega
    · have h1 := hV.fix.closed i o c hi ho hc q h
      have h2 := plusV_le (combV_in (s := false) hVall o.pre) (hcm c (List.mem_of_getElem? hc))
      have h3 : combV false V o.pre ≤ 0 := comb_le (Int.le_refl _) (fun x hx => by rw [hV.fix.shape.zero x (hpre x hx)]; omega)
      unfold opV at h1
      omega
  let f : Int → Int := fun q => @ite _ (q ∈ st') (Classical.propDecidable _) 0 (if valAt V q = 1000000000 then 1000000000 else max 0 (valAt V q - c))
  let U : List Int := (List.range n).map fun (q : Nat) => f (q : Int)
  have hU : ∀ q, 0 ≤ q → q < (n : Int) → valAt U q = f q := fun q q0 q1 => by
    obtain ⟨k, rfl⟩ := Int.eq_ofNat_of_zero_le q0
    refine valAt_of ?_
    show ((List.range n).map _)[k]? = _
    rw [List.getElem?_map, List.getElem?_range (by omega)]
    rfl
  have fy : ∀ q, q ∈ st' → f q = 0 := fun q h => if_pos h
  have fn : ∀ q, q ∉ st' → f q = if valAt V q = 1000000000 then 1000000000 else max 0 (valAt V q - c) := fun q h => if_neg h
  have hf : ∀ q, 0 ≤ f q ∧ f q ≤ 1000000000 := fun q => by
    have := hVin q
    by_cases h : q ∈ st'
    · rw [fy q h]; omega
    · rw [fn q h]; split <;> omega
  have hfs : ∀ q ∈ st', f q = 0 := fun q hq => if_pos hq
  have hfn : ∀ q, valAt V q - c ≤ f q := fun q => by
    have h1 := hVin q
    by_cases h : q ∈ st'
    · have := hz q h; rw [fy q h]; omega
    · rw [fn q h]; split <;> omega
  have hfi : ∀ q, f q = 1000000000 ↔ (q ∉ st' ∧ valAt V q = 1000000000) := fun q => by
    have h1 := hVin q
    by_cases h : q ∈ st'
    · rw [fy q h]
      constructor
      · intro e; omega
      · intro e; exact absurd h e.1
    · rw [fn q h]
      split
      · rename_i h2; exact ⟨fun _ => ⟨h, h2⟩, fun _ => rfl⟩
      · rename_i h2; constructor
        · intro e; omega
        · intro e; exact absurd e.2 h2
  have hUall : AllV U := fun v hv => by
    obtain ⟨q, _, rfl⟩ := List.mem_map.1 hv
    exact hf _
  have hfix : Fix false n st' ops cs U := by
    refine ⟨⟨by simp [U], hUall, fun q hq => ?_⟩, fun j o2 c2 hj ho2 hc2 q hq => ?_⟩
    · rw [hU q (hst' q hq).1 (hst' q hq).2, hfs q hq]
    · have hoo := hops o2 (List.mem_of_getElem? ho2)
      obtain ⟨q0, q1⟩ := hoo.2 q hq
      have hc2r := hcs c2 (List.mem_of_getElem? hc2)
      have hc2in := hcm c2 (List.mem_of_getElem? hc2)
      have hcl := hV.fix.closed j o2 c2 hj ho2 hc2 q hq
      unfold opV at hcl ⊢
      have hUin := combV_in (s := false) hUall o2.pre
      have hVin2 := combV_in (s := false) hVall o2.pre
      have hUn := comb_nonneg (V := U) (xs := o2.pre)
      by_cases hqs : q ∈ st'
      · rw [hU q q0 q1, hfs q hqs]
        have := plusV_in hUin hc2in
        unfold InV at this
        exact this.1
      by_cases hqi : valAt V q = 1000000000
      · have hpl := plusV_in hVin2 hc2in
        unfold InV at hpl
        have h5 : combV false V o2.pre = 1000000000 := by
          rcases (plusV_inf_iff hVin2 hc2in).1 (by omega) with e | e
          · exact e
          · omega
        obtain ⟨x, hx, ex⟩ := (combV_inf hVall _).1 h5
        have hxr := hoo.1 x hx
        have h6 : f x = 1000000000 := (hfi x).2 ⟨fun hm => by have := hz x hm; omega, ex⟩
        have h7 : combV false U o2.pre = 1000000000 := (combV_inf hUall _).2 ⟨x, hx, by rw [hU x hxr.1 hxr.2, h6]⟩
        rw [(plusV_inf_iff hUin hc2in).2 (.inl h7)]
        exact (valAt_in hUall q).2
      · have h5 : combV false V o2.pre ≤ combV false U o2.pre + c := comb_le (by omega) (fun x hx => by
          have hxr := hoo.1 x hx
          have h6 := comb_ge (V := U) hx
          rw [hU x hxr.1 hxr.2] at h6
          have := hfn x
          omega)
        have h6 := plusV_le hVin2 hc2in
        have h7 : f q = max 0 (valAt V q - c) := by rw [fn q hqs, if_neg hqi]
        have h8 := hVin q
        rw [hU q q0 q1, h7]
        unfold InV at hc2in
        refine plusV_ge hUin (by unfold InV; omega) (by omega) (by omega)
  have h1 := hV'.great U hfix p
  rw [hU p p0 p1] at h1
  have h2 := hfn p
  omega
/-- The goal's value falls by the operator's cost at most. -/
theorem goal_cons {n : Nat} {st st' : List Int} {ops : List OpV} {cs V V' : List Int} (hV : Best false n st ops cs V) (hV' : Best false n st' ops cs V') (hlc : cs.length = ops.length) (hcs : ∀ c ∈ cs, 0 ≤ c ∧ c ≤ 100)
    (hops : ∀ o ∈ ops, (∀ p ∈ o.pre, 0 ≤ p ∧ p < (n : Int)) ∧ ∀ p ∈ o.add, 0 ≤ p ∧ p < (n : Int)) (hst' : ∀ q ∈ st', 0 ≤ q ∧ q < (n : Int))
    {i : Nat} {o : OpV} {c : Int} (ho : ops[i]? = some o) (hc : cs[i]? = some c) (hpre : ∀ q ∈ o.pre, q ∈ st) (hadd : ∀ q ∈ st', q ∈ st ∨ q ∈ o.add) {goal : List Int} (hg : ∀ q ∈ goal, 0 ≤ q ∧ q < (n : Int)) (hp : combV false V' goal < 1000000000) : combV false V goal ≤ combV false V' goal + c := by
  have h0 := comb_nonneg (V := V') (xs := goal)
  have hcc := hcs c (List.mem_of_getElem? hc)
  refine comb_le (by omega) (fun x hx => ?_)
  have h1 := comb_ge (V := V') hx
  have h2 := max_cons hV hV' hlc hcs hops hst' ho hc hpre hadd (hg x hx).1 (hg x hx).2 (by omega)
  omega

end Go.Proofs.Ytiaokmofoaeifaa
