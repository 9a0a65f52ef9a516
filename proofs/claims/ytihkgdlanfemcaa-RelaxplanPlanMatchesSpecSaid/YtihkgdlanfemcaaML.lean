/-
  An operator lowers no greatest value by more than its cost: a plain law.
  The greatest values of pairs of facts that no operator can lower: a plain law.
-/
import Derived.Test.YtihkgdlanfemcaaMC
import Derived.Test.YtihkgdlanfemcaaMI
namespace Go.Proofs.Ytihkgdlanfemcaa
set_option linter.unusedVariables false
set_option linter.unusedSimpArgs false

theorem max_cons {n : Nat} {st st' : List Int} {ops : List OpV} {cs V V' : List Int} (hV : Best false n st ops cs V) (hV' : Best false n st' ops cs V') (hlc : cs.length = ops.length) (hcs : ∀ c ∈ cs, 0 ≤ c ∧ c ≤ 100)
    (hops : ∀ o ∈ ops, (∀ p ∈ o.pre, 0 ≤ p ∧ p < (n : Int)) ∧ ∀ p ∈ o.add, 0 ≤ p ∧ p < (n : Int)) (hst' : ∀ q ∈ st', 0 ≤ q ∧ q < (n : Int))
    {i : Nat} {o : OpV} {c : Int} (ho : ops[i]? = some o) (hc : cs[i]? = some c) (hpre : ∀ q ∈ o.pre, q ∈ st) (hadd : ∀ q ∈ st', q ∈ st ∨ q ∈ o.add) {p : Int} (p0 : 0 ≤ p) (p1 : p < (n : Int)) (hp : valAt V' p < 1000000000) : valAt V p ≤ valAt V' p + c := by
  have hVall := hV.fix.shape.all
  have hVin := fun q => valAt_in hVall q
  unfold InV at hVin
  have hcc := hcs c (List.mem_of_getElem? hc)
  have hcm : AllV cs := fun v hv => by have := hcs v hv; unfold InV; omega
  have hi := get_lt ho
  have hz : ∀ q ∈ st', valAt V q ≤ c := fun q hq => by
    rcases hadd q hq with h | h
    · rw [hV.fix.shape.zero q h]; omega
    · have h1 := hV.fix.closed i o c hi ho hc q h
      have h2 := plusV_le (combV_in (s := false) hVall o.pre) (hcm c (List.mem_of_getElem? hc))
      have h3 : combV false V o.pre ≤ 0 := comb_le (Int.le_refl _) (fun x hx => by rw [hV.fix.shape.zero x (hpre x hx)]; omega)
      unfold opV at h1
      omega
  let f : Int → Int := fun q => @ite _ (q ∈ st') (Classical.propDecidable _) 0 (if valAt V q = 1000000000 then 1000000000 else max 0 (valAt V q - c))
  let U : List Int := (List.range n).map fun (q : Nat) => f (q : Int)
  have hU : ∀ q, 0 ≤ q → q < (n : Int) → valAt U q = f q := fun q q0 q1 => by
    obtain ⟨k, rfl⟩ := Int.eq_ofNat_of_zero_le q0
    refine valAt_of ?_
    show ((List.range n).map _)[k]? = _
    rw [List.getElem?_map, List.getElem?_range (by omega)]
    rfl
  have fy : ∀ q, q ∈ st' → f q = 0 := fun q h => if_pos h
  have fn : ∀ q, q ∉ st' → f q = if valAt V q = 1000000000 then 1000000000 else max 0 (valAt V q - c) := fun q h => if_neg h
  have hf : ∀ q, 0 ≤ f q ∧ f q ≤ 1000000000 := fun q => by
    have := hVin q
    by_cases h : q ∈ st'
    · rw [fy q h]; omega
    · rw [fn q h]; split <;> omega
  have hfs : ∀ q ∈ st', f q = 0 := fun q hq => if_pos hq
  have hfn : ∀ q, valAt V q - c ≤ f q := fun q => by
    have h1 := hVin q
    by_cases h : q ∈ st'
    · have := hz q h; rw [fy q h]; omega
    · rw [fn q h]; split <;> omega
  have hfi : ∀ q, f q = 1000000000 ↔ (q ∉ st' ∧ valAt V q = 1000000000) := fun q => by
    have h1 := hVin q
    by_cases h : q ∈ st'
    · rw [fy q h]
      constructor
      · intro e; omega
      · intro e; exact absurd h e.1
    · rw [fn q h]
      split
      · rename_i h2; exact ⟨fun _ => ⟨h, h2⟩, fun _ => rfl⟩
      · rename_i h2; constructor
        · intro e; omega
        · intro e; exact absurd e.2 h2
  have hUall : AllV U := fun v hv => by
    obtain ⟨q, _, rfl⟩ := List.mem_map.1 hv
    exact hf _
  have hfix : Fix false n st' ops cs U := by
    refine ⟨⟨by simp [U], hUall, fun q hq => ?_⟩, fun j o2 c2 hj ho2 hc2 q hq => ?_⟩
    · rw [hU q (hst' q hq).1 (hst' q hq).2, hfs q hq]
    · have hoo := hops o2 (List.mem_of_getElem? ho2)
      obtain ⟨q0, q1⟩ := hoo.2 q hq
      have hc2r := hcs c2 (List.mem_of_getElem? hc2)
      have hc2in := hcm c2 (List.mem_of_getElem? hc2)
      have hcl := hV.fix.closed j o2 c2 hj ho2 hc2 q hq
      unfold opV at hcl ⊢
      have hUin := combV_in (s := false) hUall o2.pre
      have hVin2 := combV_in (s := false) hVall o2.pre
      have hUn := comb_nonneg (V := U) (xs := o2.pre)
      by_cases hqs : q ∈ st'
      · rw [hU q q0 q1, hfs q hqs]
        have := plusV_in hUin hc2in
        unfold InV at this
        exact this.1
      by_cases hqi : valAt V q = 1000000000
      · have hpl := plusV_in hVin2 hc2in
        unfold InV at hpl
        have h5 : combV false V o2.pre = 1000000000 := by
          rcases (plusV_inf_iff hVin2 hc2in).1 (by omega) with e | e
          · exact e
          · omega
        obtain ⟨x, hx, ex⟩ := (combV_inf hVall _).1 h5
        have hxr := hoo.1 x hx
        have h6 : f x = 1000000000 := (hfi x).2 ⟨fun hm => by have := hz x hm; omega, ex⟩
        have h7 : combV false U o2.pre = 1000000000 := (combV_inf hUall _).2 ⟨x, hx, by rw [hU x hxr.1 hxr.2, h6]⟩
        rw [(plusV_inf_iff hUin hc2in).2 (.inl h7)]
        exact (valAt_in hUall q).2
      · have h5 : combV false V o2.pre ≤ combV false U o2.pre + c := comb_le (by omega) (fun x hx => by
          have hxr := hoo.1 x hx
          have h6 := comb_ge (V := U) hx
          rw [hU x hxr.1 hxr.2] at h6
          have := hfn x
          omega)
        have h6 := plusV_le hVin2 hc2in
        have h7 : f q = max 0 (valAt V q - c) := by rw [fn q hqs, if_neg hqi]
        have h8 := hVin q
        rw [hU q q0 q1, h7]
        unfold InV at hc2in
        refine plusV_ge hUin (by unfold InV; omega) (by omega) (by omega)
  have h1 := hV'.great U hfix p
  rw [hU p p0 p1] at h1
  have h2 := hfn p
  omega
/-- The goal's value falls by the operator's cost at most. -/
theorem goal_cons {n : Nat} {st st' : List Int} {ops : List OpV} {cs V V' : List Int} (hV : Best false n st ops cs V) (hV' : Best false n st' ops cs V') (hlc : cs.length = ops.length) (hcs : ∀ c ∈ cs, 0 ≤ c ∧ c ≤ 100)
    (hops : ∀ o ∈ ops, (∀ p ∈ o.pre, 0 ≤ p ∧ p < (n : Int)) ∧ ∀ p ∈ o.add, 0 ≤ p ∧ p < (n : Int)) (hst' : ∀ q ∈ st', 0 ≤ q ∧ q < (n : Int))
    {i : Nat} {o : OpV} {c : Int} (ho : ops[i]? = some o) (hc : cs[i]? = some c) (hpre : ∀ q ∈ o.pre, q ∈ st) (hadd : ∀ q ∈ st', q ∈ st ∨ q ∈ o.add) {goal : List Int} (hg : ∀ q ∈ goal, 0 ≤ q ∧ q < (n : Int)) (hp : combV false V' goal < 1000000000) : combV false V goal ≤ combV false V' goal + c := by
  have h0 := comb_nonneg (V := V') (xs := goal)
  have hcc := hcs c (List.mem_of_getElem? hc)
  refine comb_le (by omega) (fun x hx => ?_)
  have h1 := comb_ge (V := V') hx
  have h2 := max_cons hV hV' hlc hcs hops hst' ho hc hpre hadd (hg x hx).1 (hg x hx).2 (by omega)
  omega

end Go.Proofs.Ytihkgdlanfemcaa

namespace Go.Proofs.Ytihkgdlanfemcaa
set_option linter.unusedVariables false
set_option linter.unusedSimpArgs false

/-- The facts that must be true ahead of an operator so that two facts are true behind it. -/
inductive Arc (o : OpV) (p q : Int) : List Int → Prop
  | both : p ∈ o.add → q ∈ o.add → Arc o p q o.pre
  | left {l : List Int} : p ∈ o.add → q ∉ o.add → q ∉ o.del → (∀ x, x ∈ l ↔ x = q ∨ x ∈ o.pre) → Arc o p q l
  | right {l : List Int} : q ∈ o.add → p ∉ o.add → p ∉ o.del → (∀ x, x ∈ l ↔ x = p ∨ x ∈ o.pre) → Arc o p q l
theorem Arc.symm {o : OpV} {p q : Int} {l : List Int} (h : Arc o p q l) : Arc o q p l := by
  cases h with
  | both h1 h2 => exact .both h2 h1
  | left h1 h2 h3 h4 => exact .right h1 h2 h3 h4
  | right h1 h2 h3 h4 => exact .left h1 h2 h3 h4
def Rng (n : Nat) (p : Int) : Prop := 0 ≤ p ∧ p < (n : Int)
/-- The greatest value of two elements of a set. -/
def valP (V : Int → Int → Int) (l : List Int) : Int := l.foldl (fun o p => l.foldl (fun o q => max o (V p q)) o) 0
theorem foldMx {f : Int → Int} : ∀ (l : List Int) (o : Int), o ≤ l.foldl (fun o q => max o (f q)) o ∧ (∀ q ∈ l, f q ≤ l.foldl (fun o q => max o (f q)) o) ∧ ∀ z, o ≤ z → (∀ q ∈ l, f q ≤ z) → l.foldl (fun o q => max o (f q)) o ≤ z := by
  intro l
  induction l with
  | nil => intro o; exact ⟨Int.le_refl _, by simp, fun z h _ => h⟩
  | cons x l ih =>
    intro o
    obtain ⟨h1, h2, h3⟩ := ih (max o (f x))
    simp only [List.foldl_cons]
    refine ⟨by omega, fun q hq => ?_, fun z hz hx => h3 z ?_ (fun q hq => hx q (List.mem_cons_of_mem _ hq))⟩
    · rcases List.mem_cons.1 hq with e | e
      · subst e; omega
      · exact h2 q e
    · have := hx x (List.mem_cons_self ..)
      omega
theorem foldMx2 {V : Int → Int → Int} (m : List Int) : ∀ (l : List Int) (o : Int), o ≤ l.foldl (fun o p => m.foldl (fun o q => max o (V p q)) o) o ∧ (∀ p ∈ l, ∀ q ∈ m, V p q ≤ l.foldl (fun o p => m.foldl (fun o q => max o (V p q)) o) o) ∧ ∀ z, o ≤ z → (∀ p ∈ l, ∀ q ∈ m, V p q ≤ z) → l.foldl (fun o p => m.foldl (fun o q => max o (V p q)) o) o ≤ z := by
  intro l
  induction l with
  | nil => intro o; exact ⟨Int.le_refl _, by simp, fun z h _ => h⟩
  | cons x l ih =>
    intro o
    obtain ⟨k1, k2, k3⟩ := foldMx (f := V x) m o
    obtain ⟨h1, h2, h3⟩ := ih (m.foldl (fun o q => max o (V x q)) o)
    simp only [List.foldl_cons]
    refine ⟨by omega, fun p hp q hq => ?_, fun z hz hx => h3 z (k3 z hz (fun q hq => hx x (List.mem_cons_self ..) q hq)) (fun p hp q hq => hx p (List.mem_cons_of_mem _ hp) q hq)⟩
    rcases List.mem_cons.1 hp with e | e
    · subst e; have := k2 q hq; omega
    · exact h2 p e q hq
section
variable {V U : Int → Int → Int} {l m : List Int}
theorem valP_ge {p q : Int} (hp : p ∈ l) (hq : q ∈ l) : V p q ≤ valP V l := (foldMx2 l l 0).2.1 p hp q hq
theorem valP_nn : 0 ≤ valP V l := (foldMx2 l l 0).1
theorem valP_le {z : Int} (hz : 0 ≤ z) (h : ∀ p ∈ l, ∀ q ∈ l, V p q ≤ z) : valP V l ≤ z := (foldMx2 l l 0).2.2 z hz h
theorem valP_in {n : Nat} (hV : ∀ p q, Rng n p → Rng n q → InV (V p q)) (hl : ∀ p ∈ l, Rng n p) : InV (valP V l) := ⟨valP_nn, valP_le (by omega) fun p hp q hq => (hV p q (hl p hp) (hl q hq)).2⟩
theorem valP_congr (h : ∀ x, x ∈ l ↔ x ∈ m) : valP V l = valP V m :=
  Int.le_antisymm (valP_le valP_nn fun p hp q hq => valP_ge ((h p).1 hp) ((h q).1 hq)) (valP_le valP_nn fun p hp q hq => valP_ge ((h p).2 hp) ((h q).2 hq))
theorem valP_eq (h : ∀ p ∈ l, ∀ q ∈ l, U p q = V p q) : valP U l = valP V l :=
  Int.le_antisymm (valP_le valP_nn fun p hp q hq => by rw [h p hp q hq]; exact valP_ge hp hq) (valP_le valP_nn fun p hp q hq => by rw [← h p hp q hq]; exact valP_ge hp hq)
theorem valP_mono (h : ∀ p ∈ l, ∀ q ∈ l, U p q ≤ V p q) : valP U l ≤ valP V l := valP_le valP_nn fun p hp q hq => Int.le_trans (h p hp q hq) (valP_ge hp hq)
theorem valP_sub (h : ∀ x ∈ l, x ∈ m) : valP V l ≤ valP V m := valP_le valP_nn fun p hp q hq => valP_ge (h p hp) (h q hq)
theorem valP_inf (h : valP V l = 1000000000) (hV : ∀ p ∈ l, ∀ q ∈ l, V p q ≤ 1000000000) : ∃ p ∈ l, ∃ q ∈ l, V p q = 1000000000 := by
  refine Classical.byContradiction fun hn => ?_
  have : valP V l ≤ 999999999 := valP_le (by omega) fun p hp q hq => by
    have h1 := hV p hp q hq
    have h2 : V p q ≠ 1000000000 := fun e => hn ⟨p, hp, q, hq, e⟩
    omega
  omega
end
/-- Operators' lists lie within the facts, their costs within the bounds. -/
def OpsIn (n : Nat) (ops : List OpV) : Prop := ∀ o ∈ ops, (∀ p ∈ o.pre, Rng n p) ∧ (∀ p ∈ o.add, Rng n p) ∧ 0 ≤ o.cost ∧ o.cost ≤ 100
theorem Arc.rng {n : Nat} {o : OpV} {p q : Int} {l : List Int} (h : Arc o p q l) (hpre : ∀ p ∈ o.pre, Rng n p) (hp : Rng n p) (hq : Rng n q) : ∀ x ∈ l, Rng n x := by
  intro x hx
  cases h with
  | both h1 h2 => exact hpre x hx
  | left h1 h2 h3 h4 => rcases (h4 x).1 hx with e | e; (rw [e]; exact hq); exact hpre x e
  | right h1 h2 h3 h4 => rcases (h4 x).1 hx with e | e; (rw [e]; exact hp); exact hpre x e
theorem Arc.sub {o : OpV} {p q : Int} {l : List Int} (h : Arc o p q l) : ∀ x ∈ o.pre, x ∈ l := by
  intro x hx
  cases h with
  | both h1 h2 => exact hx
  | left h1 h2 h3 h4 => exact (h4 x).2 (.inr hx)
  | right h1 h2 h3 h4 => exact (h4 x).2 (.inr hx)
theorem Arc.ends {o : OpV} {p q : Int} {l : List Int} (h : Arc o p q l) : (p ∈ o.add ∨ p ∈ l) ∧ (q ∈ o.add ∨ q ∈ l) := by
  cases h with
  | both h1 h2 => exact ⟨.inl h1, .inl h2⟩
  | left h1 h2 h3 h4 => exact ⟨.inl h1, .inr ((h4 q).2 (.inl rfl))⟩
  | right h1 h2 h3 h4 => exact ⟨.inr ((h4 p).2 (.inl rfl)), .inl h1⟩
structure PFix (n : Nat) (st : List Int) (ops : List OpV) (V : Int → Int → Int) : Prop where
  all : ∀ p q, Rng n p → Rng n q → InV (V p q)
  zero : ∀ p ∈ st, ∀ q ∈ st, V p q = 0
  closed : ∀ o ∈ ops, ∀ p q l, Rng n p → Rng n q → Arc o p q l → V p q ≤ plusV (valP V l) o.cost
structure PBest (n : Nat) (st : List Int) (ops : List OpV) (V : Int → Int → Int) : Prop where
  fix : PFix n st ops V
  great : ∀ U, PFix n st ops U → ∀ p q, Rng n p → Rng n q → U p q ≤ V p q
section
variable {n : Nat} {st st' : List Int} {ops : List OpV} {V V' : Int → Int → Int}
theorem costIn {o : OpV} (h : OpsIn n ops) (ho : o ∈ ops) : InV o.cost := by have := h o ho; unfold InV; omega
theorem PBest.same (h : PBest n st ops V) (h' : PBest n st ops V') {p q : Int} (hp : Rng n p) (hq : Rng n q) : V p q = V' p q :=
  Int.le_antisymm (h'.great V h.fix p q hp hq) (h.great V' h'.fix p q hp hq)
theorem PBest.symm_ (h : PBest n st ops V) {p q : Int} (hp : Rng n p) (hq : Rng n q) : V p q = V q p := by
  have key : PFix n st ops (fun p q => V q p) := by
    refine ⟨fun p q hp hq => h.fix.all q p hq hp, fun p hp q hq => h.fix.zero q hq p hp, fun o ho p q l hp hq ha => ?_⟩
    have h1 := h.fix.closed o ho q p l hq hp ha.symm
    have h2 : valP (fun p q => V q p) l = valP V l := Int.le_antisymm (valP_le valP_nn fun p hp q hq => valP_ge hq hp) (valP_le valP_nn fun p hp q hq => valP_ge (V := fun p q => V q p) hq hp)
    show V q p ≤ _
    rw [h2]; exact h1
  exact Int.le_antisymm (h.great _ key q p hq hp) (h.great _ key p q hp hq)
/-- A pair has at least the value of each of its elements. -/
theorem PBest.elem (h : PBest n st ops V) (hops : OpsIn n ops) {p q : Int} (hp : Rng n p) (hq : Rng n q) : V p p ≤ V p q ∧ V q q ≤ V p q := by
  have key : PFix n st ops (fun p q => max (V p q) (max (V p p) (V q q))) := by
    refine ⟨fun p q hp hq => ?_, fun p hp q hq => ?_, fun o ho p q l hp hq ha => ?_⟩
    · have h1 := h.fix.all p q hp hq
      have h2 := h.fix.all p p hp hp
      have h3 := h.fix.all q q hq hq
      unfold InV at *
      omega
    · have h1 := h.fix.zero p hp q hq
      have h2 := h.fix.zero p hp p hp
      have h3 := h.fix.zero q hq q hq
      omega
    · have hoo := hops o ho
      have hlr := ha.rng hoo.1 hp hq
      have hle : valP V l ≤ valP (fun p q => max (V p q) (max (V p p) (V q q))) l := valP_mono fun p hp q hq => by omega
      have hin1 := valP_in h.fix.all hlr
      have hUin : InV (valP (fun p q => max (V p q) (max (V p p) (V q q))) l) := ⟨valP_nn, valP_le (by omega) fun p hp q hq => by
        have h1 := h.fix.all p q (hlr p hp) (hlr q hq)
        have h2 := h.fix.all p p (hlr p hp) (hlr p hp)
        have h3 := h.fix.all q q (hlr q hq) (hlr q hq)
        unfold InV at *
        omega⟩
      have hc := costIn hops ho
      have hm := plusV_mono hin1 hc hUin hc hle (Int.le_refl _)
      have h1 := h.fix.closed o ho p q l hp hq ha
      have hpre : valP V o.pre ≤ valP V l := valP_sub ha.sub
      have hpin := valP_in h.fix.all hoo.1
      have hm2 := plusV_mono hpin hc hin1 hc hpre (Int.le_refl _)
      have hself : ∀ x, Rng n x → x ∈ o.add ∨ x ∈ l → V x x ≤ plusV (valP V l) o.cost := fun x hx hxl => by
        rcases hxl with e | e
        · exact Int.le_trans (h.fix.closed o ho x x o.pre hx hx (.both e e)) hm2
        · exact Int.le_trans (valP_ge e e) (plusV_ge_left hin1 hc)
      have h2 : V p p ≤ plusV (valP V l) o.cost := hself p hp ha.ends.1
      have h3 : V q q ≤ plusV (valP V l) o.cost := hself q hq ha.ends.2
      omega
  have := h.great _ key p q hp hq
  omega
/-- The values of facts are at most those of pairs. -/
theorem PBest.above (h : PBest n st ops V) (hops : OpsIn n ops) {cs W : List Int} (hcs : ∀ (i : Nat) (o : OpV), ops[i]? = some o → cs[i]? = some o.cost) (hW : Best false n st ops cs W) {p : Int} (hp : Rng n p) : valAt W p ≤ V p p := by
  have hWi := fun q => valAt_in hW.fix.shape.all q
  have key : PFix n st ops (fun p q => max (valAt W p) (valAt W q)) := by
    refine ⟨fun p q hp hq => ?_, fun p hp q hq => ?_, fun o ho p q l hp hq ha => ?_⟩
    · have h1 := hWi p
      have h2 := hWi q
      unfold InV at *
      omega
    · rw [hW.fix.shape.zero p hp, hW.fix.shape.zero q hq]; rfl
    · have hoo := hops o ho
      have hlr := ha.rng hoo.1 hp hq
      have hc := costIn hops ho
      have hUin : InV (valP (fun p q => max (valAt W p) (valAt W q)) l) := ⟨valP_nn, valP_le (by omega) fun p hp q hq => by
        have h1 := hWi p
        have h2 := hWi q
        unfold InV at *
        omega⟩
      have hcl : combV false W o.pre ≤ valP (fun p q => max (valAt W p) (valAt W q)) l := comb_le valP_nn fun x hx => Int.le_trans (by omega : valAt W x ≤ max (valAt W x) (valAt W x)) (valP_ge (V := fun p q => max (valAt W p) (valAt W q)) (ha.sub x hx) (ha.sub x hx))
      have hm := plusV_mono (combV_in (s := false) hW.fix.shape.all o.pre) hc hUin hc hcl (Int.le_refl _)
      obtain ⟨i, hi⟩ := List.getElem?_of_mem ho
      have hself : ∀ x, x ∈ o.add ∨ x ∈ l → valAt W x ≤ plusV (valP (fun p q => max (valAt W p) (valAt W q)) l) o.cost := fun x hxl => by
        rcases hxl with e | e
        · exact Int.le_trans (hW.fix.closed i o o.cost (get_lt hi) hi (hcs i o hi) x e) hm
        · exact Int.le_trans (Int.le_trans (by omega : valAt W x ≤ max (valAt W x) (valAt W x)) (valP_ge (V := fun p q => max (valAt W p) (valAt W q)) e e)) (plusV_ge_left hUin hc)
      have h2 := hself p ha.ends.1
      have h3 := hself q ha.ends.2
      omega
  have := h.great _ key p p hp hp
  omega
/-- Behind an applicable operator its pairs cost at most its cost. -/
theorem PFix.next (h : PFix n st ops V) (hops : OpsIn n ops) {o : OpV} (ho : o ∈ ops) (hpre : ∀ q ∈ o.pre, q ∈ st) (hst' : ∀ q ∈ st', Rng n q ∧ (q ∈ o.add ∨ (q ∈ st ∧ q ∉ o.del))) {p q : Int} (hp : p ∈ st') (hq : q ∈ st') : V p q ≤ o.cost := by
  have hc := costIn hops ho
  have h0 : ∀ l, (∀ x ∈ l, x ∈ st) → Arc o p q l → V p q ≤ o.cost := fun l hl ha => by
    have h1 := h.closed o ho p q l (hst' p hp).1 (hst' q hq).1 ha
    have h2 : valP V l ≤ 0 := valP_le (Int.le_refl _) fun x hx y hy => by rw [h.zero x (hl x hx) y (hl y hy)]; omega
    have h3 := valP_nn (V := V) (l := l)
    have h4 := plusV_le (a := valP V l) (by unfold InV; omega) hc
    omega
  have hq2 := hst' q hq
  have hp2 := hst' p hp
  by_cases a : p ∈ o.add
  · by_cases b : q ∈ o.add
    · exact h0 _ hpre (.both a b)
    · have hqs : q ∈ st ∧ q ∉ o.del := by rcases hq2.2 with e | e; (exact absurd e b); exact e
      exact h0 (q :: o.pre) (fun x hx => by rcases List.mem_cons.1 hx with e | e; (rw [e]; exact hqs.1); exact hpre x e) (.left a b hqs.2 (fun x => List.mem_cons))
  · have hps : p ∈ st ∧ p ∉ o.del := by rcases hp2.2 with e | e; (exact absurd e a); exact e
    by_cases b : q ∈ o.add
    · exact h0 (p :: o.pre) (fun x hx => by rcases List.mem_cons.1 hx with e | e; (rw [e]; exact hps.1); exact hpre x e) (.right b a hps.2 (fun x => List.mem_cons))
    · have hqs : q ∈ st := by rcases hq2.2 with e | e; (exact absurd e b); exact e.1
      rw [h.zero p hps.1 q hqs]
      exact (costIn hops ho).1
/-- An operator lowers no value by more than its cost. -/
theorem PBest.cons_ (h : PBest n st ops V) (h' : PBest n st' ops V') (hops : OpsIn n ops) {o : OpV} (ho : o ∈ ops) (hpre : ∀ q ∈ o.pre, q ∈ st) (hst' : ∀ q ∈ st', Rng n q ∧ (q ∈ o.add ∨ (q ∈ st ∧ q ∉ o.del))) {p q : Int} (hp : Rng n p) (hq : Rng n q) (hlt : V' p q < 1000000000) : V p q ≤ V' p q + o.cost := by
  have hc := costIn hops ho
  have hz : ∀ p ∈ st', ∀ q ∈ st', V p q ≤ o.cost := fun p hp q hq => h.fix.next hops ho hpre hst' hp hq
  have hoc := hops o ho
  let f : Int → Int → Int := fun p q => @ite _ (p ∈ st' ∧ q ∈ st') (Classical.propDecidable _) 0 (if V p q = 1000000000 then 1000000000 else max 0 (V p q - o.cost))
  have fy : ∀ p q, p ∈ st' ∧ q ∈ st' → f p q = 0 := fun p q h => if_pos h
  have fn : ∀ p q, ¬ (p ∈ st' ∧ q ∈ st') → f p q = if V p q = 1000000000 then 1000000000 else max 0 (V p q - o.cost) := fun p q h => if_neg h
  have hf : ∀ p q, Rng n p → Rng n q → InV (f p q) := fun p q hp hq => by
    have := h.fix.all p q hp hq
    unfold InV at *
    by_cases hm : p ∈ st' ∧ q ∈ st'
    · rw [fy p q hm]; omega
    · rw [fn p q hm]; split <;> omega
  have hfn : ∀ p q, V p q - o.cost ≤ f p q := fun p q => by
    by_cases hm : p ∈ st' ∧ q ∈ st'
    · have := hz p hm.1 q hm.2; rw [fy p q hm]; omega
    · rw [fn p q hm]; split <;> omega
  have hfi : ∀ p q, V p q = 1000000000 → f p q = 1000000000 := fun p q e => by
    rw [fn p q (fun hm => by have := hz p hm.1 q hm.2; omega), if_pos e]
  have key : PFix n st' ops f := by
    refine ⟨fun p q hp hq => hf p q hp hq, fun p hp q hq => if_pos ⟨hp, hq⟩, fun o2 ho2 p q l hp hq ha => ?_⟩
    have hoo := hops o2 ho2
    have hlr := ha.rng hoo.1 hp hq
    have hc2 := costIn hops ho2
    have hVin := valP_in h.fix.all hlr
    have hUin : InV (valP f l) := valP_in hf hlr
    have hcl := h.fix.closed o2 ho2 p q l hp hq ha
    by_cases hm : p ∈ st' ∧ q ∈ st'
    · rw [show f p q = 0 from if_pos hm]
      exact (plusV_in hUin hc2).1
    by_cases hqi : V p q = 1000000000
    · have hpl := plusV_in hVin hc2
      unfold InV at hpl
      have h5 : valP V l = 1000000000 := by
        rcases (plusV_inf_iff hVin hc2).1 (by omega) with e | e
        · exact e
        · omega
      obtain ⟨x, hx, y, hy, e⟩ := valP_inf h5 (fun p hp q hq => (h.fix.all p q (hlr p hp) (hlr q hq)).2)
      have h7 : valP f l = 1000000000 := by
        have := valP_ge (V := f) hx hy
        rw [hfi x y e] at this
        unfold InV at hUin
        omega
      rw [(plusV_inf_iff hUin hc2).2 (.inl h7)]
      exact (hf p q hp hq).2
    · have h5 : valP V l ≤ valP f l + o.cost := by
        have hn := valP_nn (V := f) (l := l)
        refine valP_le (by omega) fun x hx y hy => ?_
        have h6 := valP_ge (V := f) hx hy
        have := hfn x y
        omega
      have h6 := plusV_le hVin hc2
      have h7 : f p q = max 0 (V p q - o.cost) := by rw [fn p q hm, if_neg hqi]
      have h8 := h.fix.all p q hp hq
      have hn := valP_nn (V := f) (l := l)
      rw [h7]
      unfold InV at hc2 h8
      exact plusV_ge hUin (by unfold InV; omega) (by omega) (by omega)
  have h1 := h'.great f key p q hp hq
  have h2 := hfn p q
  omega
theorem PBest.goal_cons (h : PBest n st ops V) (h' : PBest n st' ops V') (hops : OpsIn n ops) {o : OpV} (ho : o ∈ ops) (hpre : ∀ q ∈ o.pre, q ∈ st) (hst' : ∀ q ∈ st', Rng n q ∧ (q ∈ o.add ∨ (q ∈ st ∧ q ∉ o.del))) {goal : List Int} (hg : ∀ q ∈ goal, Rng n q) (hlt : valP V' goal < 1000000000) : valP V goal ≤ valP V' goal + o.cost := by
  have hn := valP_nn (V := V') (l := goal)
  have hoc := hops o ho
  refine valP_le (by omega) fun x hx y hy => ?_
  have h1 := valP_ge (V := V') hx hy
  have h2 := h.cons_ h' hops ho hpre hst' (hg x hx) (hg y hy) (by omega)
  omega
/-- No state of a plan holds both facts of a pair without a value. -/
theorem PBest.together (h : PBest n st ops V) (hops : OpsIn n ops) (hst : ∀ q ∈ st, Rng n q) {plan : List Int} : ∀ (i : Nat) (r : List Int), (runV n ops st plan)[i]? = some r → ∀ p ∈ r, ∀ q ∈ r, V p q < 1000000000 := by
  intro i
  induction i with
  | zero =>
    intro r hr p hp q hq
    rw [runV_head] at hr
    injection hr with hr
    subst hr
    rw [h.fix.zero p hp q hq]; omega
  | succ i ih =>
    intro r hr p hp q hq
    obtain ⟨op, r0, h1, h2, ⟨o, ho, hpre⟩, rfl⟩ := runV_step plan st i r hr
    have ih' := ih r0 h2
    rw [opAt_of ho] at hp hq
    have hom := List.mem_of_getElem? ho
    have hoo := hops o hom
    have hc := costIn hops hom
    obtain ⟨hpr, hp2⟩ := nextV_mem.1 hp
    obtain ⟨hqr, hq2⟩ := nextV_mem.1 hq
    have h0 : ∀ l, (∀ x ∈ l, x ∈ r0) → Arc o p q l → V p q < 1000000000 := fun l hl ha => by
      have hlr := ha.rng hoo.1 hpr hqr
      have h1 := h.fix.closed o hom p q l hpr hqr ha
      have hin := valP_in h.fix.all hlr
      have hnl : valP V l ≠ 1000000000 := fun e => by
        obtain ⟨x, hx, y, hy, e⟩ := valP_inf e (fun p hp q hq => (h.fix.all p q (hlr p hp) (hlr q hq)).2)
        have := ih' x (hl x hx) y (hl y hy)
        omega
      have h3 : plusV (valP V l) o.cost ≠ 1000000000 := fun e => by
        rcases (plusV_inf_iff hin hc).1 e with e | e
        · exact hnl e
        · omega
      have h4 := plusV_in hin hc
      unfold InV at h4
      omega
    by_cases a : p ∈ o.add
    · by_cases b : q ∈ o.add
      · exact h0 _ hpre (.both a b)
      · have hqs : q ∈ r0 ∧ q ∉ o.del := by rcases hq2 with e | e; (exact absurd e b); exact e
        exact h0 (q :: o.pre) (fun x hx => by rcases List.mem_cons.1 hx with e | e; (rw [e]; exact hqs.1); exact hpre x e) (.left a b hqs.2 (fun x => List.mem_cons))
    · have hps : p ∈ r0 ∧ p ∉ o.del := by rcases hp2 with e | e; (exact absurd e a); exact e
      by_cases b : q ∈ o.add
      · exact h0 (p :: o.pre) (fun x hx => by rcases List.mem_cons.1 hx with e | e; (rw [e]; exact hps.1); exact hpre x e) (.right b a hps.2 (fun x => List.mem_cons))
      · have hqs : q ∈ r0 := by rcases hq2 with e | e; (exact absurd e b); exact e.1
        exact ih' p hps.1 q hqs
end

end Go.Proofs.Ytihkgdlanfemcaa
