/-
  An operator lowers no greatest value by more than its cost: a plain law.
  The greatest values of pairs of facts that no operator can lower: a plain law.
  landmark.Achievers: what it returns.
  landmark.Orders: what it returns.
  two(true), landmarkExample: what they return.
  The levels of facts: plain.
  The supporters of facts: plain.
  The relaxed plan that achieves facts one by one: plain.
-/
import Derived.Test.YtihkgdlanfemcaaY2
import Derived.Test.YtihkgdlanfemcaaY12
import Derived.Test.YtihkgdlanfemcaaY8
import Derived.Test.YtihkgdlanfemcaaY1
import Derived.Test.YtihkgdlanfemcaaY7
namespace Go.Proofs.Ytihkgdlanfemcaa
set_option linter.unusedVariables false
set_option linter.unusedSimpArgs false
end Go.Proofs.Ytihkgdlanfemcaa

namespace Go.Proofs.Ytihkgdlanfemcaa
set_option linter.unusedVariables false
set_option linter.unusedSimpArgs false

/-- The facts that must be true ahead of an operator so that two facts are true behind it. -/
inductive Arc (o : OpV) (p q : Int) : List Int → Prop
  | both : p ∈ o.add → q ∈ o.add → Arc o p q o.pre
  | left {l : List Int} : p ∈ o.add → q ∉ o.add → q ∉ o.del → (∀ x, x ∈ l ↔ x = q ∨ x ∈ o.pre) → Arc o p q l
  | right {l : List Int} : q ∈ o.add → p ∉ o.add → p ∉ o.del → (∀ x, x ∈ l ↔ x = p ∨ x ∈ o.pre) → Arc o p q l
theorem Arc.symm {o : OpV} {p q : Int} {l : List Int} (h : Arc o p q l) : Arc o q p l := by
  cases h with
  | both h1 h2 => exact .both h2 h1
  | left h1 h2 h3 h4 => exact .right h1 h2 h3 h4
  | right h1 h2 h3 h4 => exact .left h1 h2 h3 h4
def Rng (n : Nat) (p : Int) : Prop := 0 ≤ p ∧ p < (n : Int)
/-- The greatest value of two elements of a set. -/
def valP (V : Int → Int → Int) (l : List Int) : Int := l.foldl (fun o p => l.foldl (fun o q => max o (V p q)) o) 0
theorem foldMx {f : Int → Int} : ∀ (l : List Int) (o : Int), o ≤ l.foldl (fun o q => max o (f q)) o ∧ (∀ q ∈ l, f q ≤ l.foldl (fun o q => max o (f q)) o) ∧ ∀ z, o ≤ z → (∀ q ∈ l, f q ≤ z) → l.foldl (fun o q => max o (f q)) o ≤ z := by
  intro l
  induction l with
  | nil => intro o; exact ⟨Int.le_refl _, by simp, fun z h _ => h⟩
  | cons x l ih =>
    intro o
    obtain ⟨h1, h2, h3⟩ := ih (max o (f x))
    simp only [List.foldl_cons]
    refine ⟨by omega, fun q hq => ?_, fun z hz hx => h3 z ?_ (fun q hq => hx q (List.mem_cons_of_mem _ hq))⟩
    · rcases List.mem_cons.1 hq with e | e
      · subst e; omega
      · exact h2 q e
    · have := hx x (List.mem_cons_self ..)
      omega
theorem foldMx2 {V : Int → Int → Int} (m : List Int) : ∀ (l : List Int) (o : Int), o ≤ l.foldl (fun o p => m.foldl (fun o q => max o (V p q)) o) o ∧ (∀ p ∈ l, ∀ q ∈ m, V p q ≤ l.foldl (fun o p => m.foldl (fun o q => max o (V p q)) o) o) ∧ ∀ z, o ≤ z → (∀ p ∈ l, ∀ q ∈ m, V p q ≤ z) → l.foldl (fun o p => m.foldl (fun o q => max o (V p q)) o) o ≤ z := by
  intro l
  induction l with
  | nil => intro o; exact ⟨Int.le_refl _, by simp, fun z h _ => h⟩
  | cons x l ih =>
    intro o
    obtain ⟨k1, k2, k3⟩ := foldMx (f := V x) m o
    obtain ⟨h1, h2, h3⟩ := ih (m.foldl (fun o q => max o (V x q)) o)
    simp only [List.foldl_cons]
    refine ⟨by omega, fun p hp q hq => ?_, fun z hz hx => h3 z (k3 z hz (fun q hq => hx x (List.mem_cons_self ..) q hq)) (fun p hp q hq => hx p (List.mem_cons_of_mem _ hp) q hq)⟩
    rcases List.mem_cons.1 hp with e | e
    · subst e; have := k2 q hq; omega
    · exact h2 p e q hq
section
variable {V U : Int → Int → Int} {l m : List Int}
theorem valP_ge {p q : Int} (hp : p ∈ l) (hq : q ∈ l) : V p q ≤ valP V l := (foldMx2 l l 0).2.1 p hp q hq
theorem valP_nn : 0 ≤ valP V l := (foldMx2 l l 0).1
theorem valP_le {z : Int} (hz : 0 ≤ z) (h : ∀ p ∈ l, ∀ q ∈ l, V p q ≤ z) : valP V l ≤ z := (foldMx2 l l 0).2.2 z hz h
theorem valP_in {n : Nat} (hV : ∀ p q, Rng n p → Rng n q → InV (V p q)) (hl : ∀ p ∈ l, Rng n p) : InV (valP V l) := ⟨valP_nn, valP_le (by omega) fun p hp q hq => (hV p q (hl p hp) (hl q hq)).2⟩
theorem valP_inf (h : valP V l = 1000000000) (hV : ∀ p ∈ l, ∀ q ∈ l, V p q ≤ 1000000000) : ∃ p ∈ l, ∃ q ∈ l, V p q = 1000000000 := by
  refine Classical.byContradiction fun hn => ?_
  have : valP V l ≤ 999999999 := valP_le (by omega) fun p hp q hq => by
    have h1 := hV p hp q hq
    have h2 : V p q ≠ 1000000000 := fun e => hn ⟨p, hp, q, hq, e⟩
    omega
  omega
end
/-- Operators' lists lie within the facts, their costs within the bounds. -/
def OpsIn (n : Nat) (ops : List OpV) : Prop := ∀ o ∈ ops, (∀ p ∈ o.pre, Rng n p) ∧ (∀ p ∈ o.add, Rng n p) ∧ 0 ≤ o.cost ∧ o.cost ≤ 100
theorem Arc.rng {n : Nat} {o : OpV} {p q : Int} {l : List Int} (h : Arc o p q l) (hpre : ∀ p ∈ o.pre, Rng n p) (hp : Rng n p) (hq : Rng n q) : ∀ x ∈ l, Rng n x := by
  intro x hx
  cases h with
  | both h1 h2 => exact hpre x hx
  | left h1 h2 h3 h4 => rcases (h4 x).1 hx with e | e; (rw [e]; exact hq); exact hpre x e
  | right h1 h2 h3 h4 => rcases (h4 x).1 hx with e | e; (rw [e]; exact hp); exact hpre x e
theorem Arc.sub {o : OpV} {p q : Int} {l : List Int} (h : Arc o p q l) : ∀ x ∈ o.pre, x ∈ l := by
  intro x hx
  cases h with
  | both h1 h2 => exact hx
  | left h1 h2 h3 h4 => exact (h4 x).2 (.inr hx)
  | right h1 h2 h3 h4 => exact (h4 x).2 (.inr hx)
theorem Arc.ends {o : OpV} {p q : Int} {l : List Int} (h : Arc o p q l) : (p ∈ o.add ∨ p ∈ l) ∧ (q ∈ o.add ∨ q ∈ l) := by
  cases h with
  | both h1 h2 => exact ⟨.inl h1, .inl h2⟩
  | left h1 h2 h3 h4 => exact ⟨.inl h1, .inr ((h4 q).2 (.inl rfl))⟩
  | right h1 h2 h3 h4 => exact ⟨.inr ((h4 p).2 (.inl rfl)), .inl h1⟩
structure PFix (n : Nat) (st : List Int) (ops : List OpV) (V : Int → Int → Int) : Prop where
  all : ∀ p q, Rng n p → Rng n q → InV (V p q)
  zero : ∀ p ∈ st, ∀ q ∈ st, V p q = 0
  closed : ∀ o ∈ ops, ∀ p q l, Rng n p → Rng n q → Arc o p q l → V p q ≤ plusV (valP V l) o.cost
structure PBest (n : Nat) (st : List Int) (ops : List OpV) (V : Int → Int → Int) : Prop where
  fix : PFix n st ops V
  great : ∀ U, PFix n st ops U → ∀ p q, Rng n p → Rng n q → U p q ≤ V p q
section
variable {n : Nat} {st st' : List Int} {ops : List OpV} {V V' : Int → Int → Int}
theorem costIn {o : OpV} (h : OpsIn n ops) (ho : o ∈ ops) : InV o.cost := by have := h o ho; unfold InV; omega
theorem PBest.same (h : PBest n st ops V) (h' : PBest n st ops V') {p q : Int} (hp : Rng n p) (hq : Rng n q) : V p q = V' p q :=
  Int.le_antisymm (h'.great V h.fix p q hp hq) (h.great V' h'.fix p q hp hq)
/-- The values of facts are at most those of pairs. -/
theorem PBest.above (h : PBest n st ops V) (hops : OpsIn n ops) {cs W : List Int} (hcs : ∀ (i : Nat) (o : OpV), ops[i]? = some o → cs[i]? = some o.cost) (hW : Best false n st ops cs W) {p : Int} (hp : Rng n p) : valAt W p ≤ V p p := by
  have hWi := fun q => valAt_in hW.fix.shape.all q
  have key : PFix n st ops (fun p q => max (valAt W p) (valAt W q)) := by
    refine ⟨fun p q hp hq => ?_, fun p hp q hq => ?_, fun o ho p q l hp hq ha => ?_⟩
    · have h1 := hWi p
      have h2 := hWi q
      unfold InV at *
      omega
    · rw [hW.fix.shape.zero p hp, hW.fix.shape.zero q hq]; rfl
    · have hoo := hops o ho
      have hlr := ha.rng hoo.1 hp hq
      have hc := costIn hops ho
      have hUin : InV (valP (fun p q => max (valAt W p) (valAt W q)) l) := ⟨valP_nn, valP_le (by omega) fun p hp q hq => by
        have h1 := hWi p
        have h2 := hWi q
        unfold InV at *
        omega⟩
      have hcl : combV false W o.pre ≤ valP (fun p q => max (valAt W p) (valAt W q)) l := comb_le valP_nn fun x hx => Int.le_trans (by omega : valAt W x ≤ max (valAt W x) (valAt W x)) (valP_ge (V := fun p q => max (valAt W p) (valAt W q)) (ha.sub x hx) (ha.sub x hx))
      have hm := plusV_mono (combV_in (s := false) hW.fix.shape.all o.pre) hc hUin hc hcl (Int.le_refl _)
      obtain ⟨i, hi⟩ := List.getElem?_of_mem ho
      have hself : ∀ x, x ∈ o.add ∨ x ∈ l → valAt W x ≤ plusV (valP (fun p q => max (valAt W p) (valAt W q)) l) o.cost := fun x hxl => by
        rcases hxl with e | e
        · exact Int.le_trans (hW.fix.closed i o o.cost (get_lt hi) hi (hcs i o hi) x e) hm
        · exact Int.le_trans (Int.le_trans (by omega : valAt W x ≤ max (valAt W x) (valAt W x)) (valP_ge (V := fun p q => max (valAt W p) (valAt W q)) e e)) (plusV_ge_left hUin hc)
      have h2 := hself p ha.ends.1
      have h3 := hself q ha.ends.2
      omega
  have := h.great _ key p p hp hp
  omega
/-- Behind an applicable operator its pairs cost at most its cost. -/
theorem PFix.next (h : PFix n st ops V) (hops : OpsIn n ops) {o : OpV} (ho : o ∈ ops) (hpre : ∀ q ∈ o.pre, q ∈ st) (hst' : ∀ q ∈ st', Rng n q ∧ (q ∈ o.add ∨ (q ∈ st ∧ q ∉ o.del))) {p q : Int} (hp : p ∈ st') (hq : q ∈ st') : V p q ≤ o.cost := by
  have hc := costIn hops ho
  have h0 : ∀ l, (∀ x ∈ l, x ∈ st) → Arc o p q l → V p q ≤ o.cost := fun l hl ha => by
    have h1 := h.closed o ho p q l (hst' p hp).1 (hst' q hq).1 ha
    have h2 : valP V l ≤ 0 := valP_le (Int.le_refl _) fun x hx y hy => by rw [h.zero x (hl x hx) y (hl y hy)]; omega
    have h3 := valP_nn (V := V) (l := l)
    have h4 := plusV_le (a := valP V l) (by unfold InV; omega) hc
    omega
  have hq2 := hst' q hq
  have hp2 := hst' p hp
  by_cases a : p ∈ o.add
  · by_cases b : q ∈ o.add
    · exact h0 _ hpre (.both a b)
    · have hqs : q ∈ st ∧ q ∉ o.del := by rcases hq2.2 with e | e; (exact absurd e b); exact e
      exact h0 (q :: o.pre) (fun x hx => by rcases List.mem_cons.1 hx with e | e; (rw [e]; exact hqs.1); exact hpre x e) (.left a b hqs.2 (fun x => List.mem_cons))
  · have hps : p ∈ st ∧ p ∉ o.del := by rcases hp2.2 with e | e; (exact absurd e a); exact e
    by_cases b : q ∈ o.add
    · exact h0 (p :: o.pre) (fun x hx => by rcases List.mem_cons.1 hx with e | e; (rw [e]; exact hps.1); exact hpre x e) (.right b a hps.2 (fun x => List.mem_cons))
    · have hqs : q ∈ st := by rcases hq2.2 with e | e; (exact absurd e b); exact e.1
      rw [h.zero p hps.1 q hqs]
      exact (costIn hops ho).1
/-- No state of a plan holds both facts of a pair without a value. -/
theorem PBest.together (h : PBest n st ops V) (hops : OpsIn n ops) (hst : ∀ q ∈ st, Rng n q) {plan : List Int} : ∀ (i : Nat) (r : List Int), (runV n ops st plan)[i]? = some r → ∀ p ∈ r, ∀ q ∈ r, V p q < 1000000000 := by
  intro i
  induction i with
  | zero =>
    intro r hr p hp q hq
    rw [runV_head] at hr
    injection hr with hr
    subst hr
    rw [h.fix.zero p hp q hq]; omega
  | succ i ih =>
    intro r hr p hp q hq
    obtain ⟨op, r0, h1, h2, ⟨o, ho, hpre⟩, rfl⟩ := runV_step plan st i r hr
    have ih' := ih r0 h2
    rw [opAt_of ho] at hp hq
    have hom := List.mem_of_getElem? ho
    have hoo := hops o hom
    have hc := costIn hops hom
    obtain ⟨hpr, hp2⟩ := nextV_mem.1 hp
    obtain ⟨hqr, hq2⟩ := nextV_mem.1 hq
    have h0 : ∀ l, (∀ x ∈ l, x ∈ r0) → Arc o p q l → V p q < 1000000000 := fun l hl ha => by
      have hlr := ha.rng hoo.1 hpr hqr
      have h1 := h.fix.closed o hom p q l hpr hqr ha
      have hin := valP_in h.fix.all hlr
      have hnl : valP V l ≠ 1000000000 := fun e => by
        obtain ⟨x, hx, y, hy, e⟩ := valP_inf e (fun p hp q hq => (h.fix.all p q (hlr p hp) (hlr q hq)).2)
        have := ih' x (hl x hx) y (hl y hy)
        omega
      have h3 : plusV (valP V l) o.cost ≠ 1000000000 := fun e => by
        rcases (plusV_inf_iff hin hc).1 e with e | e
        · exact hnl e
        · omega
      have h4 := plusV_in hin hc
      unfold InV at h4
      omega
    by_cases a : p ∈ o.add
    · by_cases b : q ∈ o.add
      · exact h0 _ hpre (.both a b)
      · have hqs : q ∈ r0 ∧ q ∉ o.del := by rcases hq2 with e | e; (exact absurd e b); exact e
        exact h0 (q :: o.pre) (fun x hx => by rcases List.mem_cons.1 hx with e | e; (rw [e]; exact hqs.1); exact hpre x e) (.left a b hqs.2 (fun x => List.mem_cons))
    · have hps : p ∈ r0 ∧ p ∉ o.del := by rcases hp2 with e | e; (exact absurd e a); exact e
      by_cases b : q ∈ o.add
      · exact h0 (p :: o.pre) (fun x hx => by rcases List.mem_cons.1 hx with e | e; (rw [e]; exact hps.1); exact hpre x e) (.right b a hps.2 (fun x => List.mem_cons))
      · have hqs : q ∈ r0 := by rcases hq2 with e | e; (exact absurd e b); exact e.1
        exact ih' p hps.1 q hqs
end

end Go.Proofs.Ytihkgdlanfemcaa

namespace Go.Proofs.Ytihkgdlanfemcaa
open Go.RowKit
set_option linter.unusedVariables false
set_option linter.unusedSimpArgs false

theorem OwnLL.drew {base : Nat} {w : World} {v : Value} {rows : List (List Int)} (h : OwnLL base w v rows) : OwnLL base w.drew v rows := h.below (bdrew (Below.refl _ _))
theorem OwnPP.drew {base : Nat} {w : World} {v : Value} {ps : List (Int × Int)} (h : OwnPP base w v ps) : OwnPP base w.drew v ps := h.below (bdrew (Below.refl _ _))
end Go.Proofs.Ytihkgdlanfemcaa

namespace Go.Proofs.Ytihkgdlanfemcaa
open Go.RowKit
set_option linter.unusedVariables false
set_option linter.unusedSimpArgs false
end Go.Proofs.Ytihkgdlanfemcaa

namespace Go.Proofs.Ytihkgdlanfemcaa
open Go.RowKit
set_option linter.unusedVariables false
set_option linter.unusedSimpArgs false

set_option maxRecDepth 100000 in
set_option maxHeartbeats 1000000 in
theorem two_yes (w : World)  :
    Calls Try.prog 67 #[.bool true] w fun e w' => ∃ g h, e = .returned (.agg #[.int .i64 2, .slice none 0 0, .slice (some ⟨g, 0, none⟩) 1 1, .slice (some ⟨h, 0, none⟩) 2 2]) ∧ TaskMem w' none (some ⟨g, 0, none⟩) (some ⟨h, 0, none⟩) chainV ∧ Below w.heap.size w w' := by
  go_enter Try.func67, Try.ntmps67
  go_wp2
  refine bodyPost_ret (v := .agg #[.int .i64 2, .slice none 0 0, .slice (some ⟨w.heap.size + 1 + 1 + 1 + 1 + 1 + 1 + 1, 0, none⟩) 1 1, .slice (some ⟨w.heap.size + 1 + 1 + 1 + 1, 0, none⟩) 2 2]) ?_ rfl ⟨_, _, rfl, ?_, by repeat (first | with_reducible exact Below.refl _ _ | with_reducible apply bdrew | with_reducible apply bdrewN | with_reducible apply balloc | ((with_reducible refine bset ?_ ?_ _); rotate_left; (first | omega | (simp <;> omega))))⟩
  · simp [results, Try.results67, go_sem]
  · refine ⟨Ints.nil _ _, ints_one ?_, ops_two (A0 := none) (c0 := 0) (A1 := some ⟨w.heap.size + 1 + 1, 0, none⟩) (c1 := 1) (A2 := none) (c2 := 0) (B0 := some ⟨w.heap.size + 1 + 1 + 1 + 1 + 1 + 1, 0, none⟩) (d0 := 1) (B1 := some ⟨w.heap.size + 1 + 1 + 1, 0, none⟩) (d1 := 1) (B2 := none) (d2 := 0) ?_ ?_ ?_ ?_ ⟨Ints.nil _ _, ints_one ?_, Ints.nil _ _, by simp [lenOk], by simp [lenOk], by simp [lenOk]⟩ ?_ ?_ ?_ ?_ ⟨ints_one ?_, ints_one ?_, Ints.nil _ _, by simp [lenOk], by simp [lenOk], by simp [lenOk]⟩, by simp [lenOk, chainV], by simp [lenOk, chainV], by simp [lenOk, chainV]⟩
    all_goals simp [go_sem]

theorem chain_valid : Valid chainV := by
  refine ⟨by decide, by decide, SetP.nil _, ?_, by decide, ?_⟩
  · exact SetP.of_pairwise (by simp [chainV]) (by simp [chainV])
  · intro o ho
    simp only [chainV, List.mem_cons, List.not_mem_nil, or_false] at ho
    rcases ho with rfl | rfl
    · exact ⟨⟨SetP.nil _, SetP.of_pairwise (by simp [chainV]) (by simp), SetP.nil _, by simp⟩, by decide, by decide⟩
    · exact ⟨⟨SetP.of_pairwise (by simp [chainV]) (by simp), SetP.of_pairwise (by simp [chainV]) (by simp), SetP.nil _, by simp⟩, by decide, by decide⟩
end Go.Proofs.Ytihkgdlanfemcaa

namespace Go.Proofs.Ytihkgdlanfemcaa
open Go.RowKit
set_option linter.unusedVariables false
set_option linter.unusedSimpArgs false

/-- The facts of the first layers. -/
def layP (st : List Int) (ops : List OpV) : Nat → Int → Prop
  | 0, p => p ∈ st
  | k + 1, p => layP st ops k p ∨ ∃ o ∈ ops, (∀ q ∈ o.pre, layP st ops k q) ∧ p ∈ o.add
theorem layP_mono {st : List Int} {ops : List OpV} {p : Int} {k : Nat} (h : layP st ops k p) : ∀ d, layP st ops (k + d) p
  | 0 => h
  | d + 1 => .inl (layP_mono h d)
theorem layP_le {st : List Int} {ops : List OpV} {p : Int} {j k : Nat} (h : layP st ops j p) (hjk : j ≤ k) : layP st ops k p := by
  have := layP_mono h (k - j)
  rwa [Nat.add_sub_cancel' hjk] at this
/-- The level of a fact, or -1. -/
def LevI (n : Nat) (st : List Int) (ops : List OpV) (p : Int) (v : Int) : Prop :=
  (v = -1 ∧ ∀ k ≤ n, ¬ layP st ops k p) ∨ ∃ k : Nat, v = (k : Int) ∧ k ≤ n ∧ layP st ops k p ∧ ∀ j, j < k → ¬ layP st ops j p
theorem LevI.uniq {n : Nat} {st : List Int} {ops : List OpV} {p v v' : Int} (h : LevI n st ops p v) (h' : LevI n st ops p v') : v = v' := by
  rcases h with ⟨e, h⟩ | ⟨k, e, hk, h1, h2⟩ <;> rcases h' with ⟨e', h'⟩ | ⟨k', e', hk', h1', h2'⟩
  · rw [e, e']
  · exact absurd h1' (h k' hk')
  · exact absurd h1 (h' k hk)
  · rcases Nat.lt_trichotomy k k' with h3 | h3 | h3
    · exact absurd h1 (h2' k h3)
    · rw [e, e', h3]
    · exact absurd h1' (h2 k' h3)
/-- The levels of all facts. -/
structure Levs (n : Nat) (st : List Int) (ops : List OpV) (V : List Int) : Prop where
  len : V.length = n
  lev : ∀ p : Nat, p < n → LevI n st ops (p : Int) (valAt V (p : Int))
theorem Levs.uniq {n : Nat} {st : List Int} {ops : List OpV} {V V' : List Int} (h : Levs n st ops V) (h' : Levs n st ops V') : V = V' := by
  refine List.ext_getElem (by rw [h.len, h'.len]) fun i hi hj => ?_
  rw [← valAt_getElem hi, ← valAt_getElem hj]
  exact (h.lev i (by rw [← h.len]; exact hi)).uniq (h'.lev i (by rw [← h.len]; exact hi))
/-- The operators before place (i, j) add a fact to a layer. -/
def Added (st : List Int) (ops : List OpV) (L i j : Nat) (p : Int) : Prop :=
  ∃ (k : Nat) (o : OpV), ops[k]? = some o ∧ (∀ q ∈ o.pre, layP st ops L q) ∧ (k < i ∧ p ∈ o.add ∨ k = i ∧ p ∈ o.add.take j)
/-- The levels while the layer after layer L is made. -/
structure LevSt (n : Nat) (st : List Int) (ops : List OpV) (L i j : Nat) (V : List Int) : Prop where
  len : V.length = n
  old : ∀ p : Nat, p < n → layP st ops L (p : Int) → ∃ k : Nat, valAt V (p : Int) = (k : Int) ∧ k ≤ L ∧ layP st ops k (p : Int) ∧ ∀ j, j < k → ¬ layP st ops j (p : Int)
  new : ∀ p : Nat, p < n → ¬ layP st ops L (p : Int) → (Added st ops L i j (p : Int) ∧ valAt V (p : Int) = (L : Int) + 1) ∨ (¬ Added st ops L i j (p : Int) ∧ valAt V (p : Int) = -1)
section
variable {n : Nat} {st : List Int} {ops : List OpV} {L i j : Nat} {V : List Int}
theorem added_zero (p : Int) : ¬ Added st ops L 0 0 p := fun ⟨k, o, _, _, h⟩ => by
  rcases h with ⟨h, _⟩ | ⟨_, h⟩
  · omega
  · simp at h
theorem LevSt.start (h : V.length = n) (hV : ∀ p : Nat, p < n → valAt V (p : Int) = if (p : Int) ∈ st then 0 else -1) : LevSt n st ops 0 0 0 V :=
  ⟨h, fun p hp hl => ⟨0, by rw [hV p hp, if_pos (show (p : Int) ∈ st from hl)]; rfl, Nat.le_refl _, hl, fun j hj => by omega⟩, fun p hp hl => .inr ⟨added_zero _, by rw [hV p hp, if_neg (show ¬ (p : Int) ∈ st from hl)]⟩⟩
theorem added_skip {o : OpV} (ho : ops[i]? = some o) (hc : ¬ ∀ q ∈ o.pre, layP st ops L q) (p : Int) : Added st ops L (i + 1) 0 p ↔ Added st ops L i 0 p := by
  constructor
  · rintro ⟨k, o', h1, h2, h3⟩
    rcases h3 with ⟨h3, h4⟩ | ⟨_, h4⟩
    · rcases Nat.lt_or_ge k i with h5 | h5
      · exact ⟨k, o', h1, h2, .inl ⟨h5, h4⟩⟩
      · have : k = i := by omega
        subst this
        rw [ho] at h1
        injection h1 with h1
        subst h1
        exact absurd h2 hc
    · simp at h4
  · rintro ⟨k, o', h1, h2, h3⟩
    rcases h3 with ⟨h3, h4⟩ | ⟨_, h4⟩
    · exact ⟨k, o', h1, h2, .inl ⟨by omega, h4⟩⟩
    · simp at h4
theorem added_row {o : OpV} (ho : ops[i]? = some o) {m : Nat} (hm : o.add.length ≤ m) (p : Int) : Added st ops L (i + 1) 0 p ↔ Added st ops L i m p := by
  constructor
  · rintro ⟨k, o', h1, h2, h3⟩
    rcases h3 with ⟨h3, h4⟩ | ⟨_, h4⟩
    · rcases Nat.lt_or_ge k i with h5 | h5
      · exact ⟨k, o', h1, h2, .inl ⟨h5, h4⟩⟩
      · have : k = i := by omega
        subst this
        rw [ho] at h1
        injection h1 with h1
        subst h1
        exact ⟨k, o, ho, h2, .inr ⟨rfl, by rw [List.take_of_length_le hm]; exact h4⟩⟩
    · simp at h4
  · rintro ⟨k, o', h1, h2, h3⟩
    rcases h3 with ⟨h3, h4⟩ | ⟨h3, h4⟩
    · exact ⟨k, o', h1, h2, .inl ⟨by omega, h4⟩⟩
    · exact ⟨k, o', h1, h2, .inl ⟨by omega, List.mem_of_mem_take h4⟩⟩
theorem LevSt.of_added (h : LevSt n st ops L i j V) {i' j' : Nat} (he : ∀ p, Added st ops L i' j' p ↔ Added st ops L i j p) : LevSt n st ops L i' j' V :=
  ⟨h.len, h.old, fun p hp hl => by rw [he]; exact h.new p hp hl⟩
theorem LevSt.skip (h : LevSt n st ops L i 0 V) {o : OpV} (ho : ops[i]? = some o) (hc : ¬ ∀ q ∈ o.pre, layP st ops L q) : LevSt n st ops L (i + 1) 0 V := h.of_added (added_skip ho hc)
theorem LevSt.row (h : LevSt n st ops L i j V) {o : OpV} (ho : ops[i]? = some o) (hm : o.add.length ≤ j) : LevSt n st ops L (i + 1) 0 V := h.of_added (added_row ho hm)
theorem lay_added {p : Int} : layP st ops (L + 1) p ↔ layP st ops L p ∨ Added st ops L ops.length 0 p := by
  constructor
  · rintro (h | ⟨o, h1, h2, h3⟩)
    · exact .inl h
    · obtain ⟨k, hk⟩ := List.getElem?_of_mem h1
      exact .inr ⟨k, o, hk, h2, .inl ⟨(List.getElem?_eq_some_iff.1 hk).1, h3⟩⟩
  · rintro (h | ⟨k, o, h1, h2, h3⟩)
    · exact .inl h
    · rcases h3 with ⟨_, h3⟩ | ⟨_, h3⟩
      · exact .inr ⟨o, List.mem_of_getElem? h1, h2, h3⟩
      · simp at h3
/-- The next layer. -/
theorem LevSt.next (h : LevSt n st ops L ops.length 0 V) : LevSt n st ops (L + 1) 0 0 V := by
  refine ⟨h.len, fun p hp hl => ?_, fun p hp hl => .inr ⟨added_zero _, ?_⟩⟩
  · by_cases hL : layP st ops L (p : Int)
    · obtain ⟨k, h1, h2, h3⟩ := h.old p hp hL
      exact ⟨k, h1, by omega, h3⟩
    · rcases h.new p hp hL with ⟨h2, h1⟩ | ⟨h2, h1⟩
      · exact ⟨L + 1, by rw [h1]; simp, Nat.le_refl _, hl, fun j hj hlj => hL (layP_le hlj (by omega))⟩
      · exact absurd hl (fun h3 => (lay_added.1 h3).elim hL h2)
  · rcases h.new p hp (fun h3 => hl (.inl h3)) with ⟨h2, h1⟩ | ⟨h2, h1⟩
    · exact absurd (lay_added.2 (.inr h2)) hl
    · exact h1
theorem Levs.rng {V : List Int} (h : Levs n st ops V) : ∀ v ∈ V, -1 ≤ v ∧ v ≤ (n : Int) := fun v hv => by
  obtain ⟨i, hi, e⟩ := List.mem_iff_getElem.1 hv
  rw [← valAt_getElem hi] at e
  rcases h.lev i (by rw [← h.len]; exact hi) with ⟨h1, _⟩ | ⟨k, h1, h2, _⟩
  · omega
  · omega
theorem LevSt.rng (h : LevSt n st ops L i j V) : ∀ v ∈ V, -1 ≤ v ∧ v ≤ (L : Int) + 1 := fun v hv => by
  obtain ⟨p, hp, e⟩ := List.mem_iff_getElem.1 hv
  rw [← valAt_getElem hp] at e
  have hpn : p < n := by rw [← h.len]; exact hp
  by_cases hL : layP st ops L (p : Int)
  · obtain ⟨k, h1, h2, _⟩ := h.old p hpn hL; omega
  · rcases h.new p hpn hL with ⟨_, h1⟩ | ⟨_, h1⟩ <;> omega
end
/-- The levels of a task's facts. -/
noncomputable def levV (n : Nat) (st : List Int) (ops : List OpV) : List Int := @Classical.epsilon _ ⟨[]⟩ (Levs n st ops)
theorem Levs.eq {n : Nat} {st : List Int} {ops : List OpV} {V : List Int} (h : Levs n st ops V) : V = levV n st ops := h.uniq (@Classical.epsilon_spec _ (Levs n st ops) ⟨V, h⟩)

end Go.Proofs.Ytihkgdlanfemcaa

namespace Go.Proofs.Ytihkgdlanfemcaa
open Go.RowKit
set_option linter.unusedVariables false
set_option linter.unusedSimpArgs false

def sumL (V : List Int) (l : List Int) : Int := (l.map fun q => valAt V q).sum
/-- The operator may support the fact. -/
def goodO (V : List Int) (o : OpV) (p : Int) : Prop := p ∈ o.add ∧ 0 < valAt V p ∧ ∀ q ∈ o.pre, 0 ≤ valAt V q ∧ valAt V q < valAt V p
instance (V : List Int) (o : OpV) (p : Int) : Decidable (goodO V o p) := by unfold goodO; exact inferInstance
/-- The supporter among the first operators, and the sum of its levels. -/
def supTo (V : List Int) (ops : List OpV) (p : Int) : Nat → Int × Int
  | 0 => (-1, 0)
  | i + 1 => if goodO V (opAt' ops i) p ∧ ((supTo V ops p i).1 < 0 ∨ sumL V (opAt' ops i).pre < (supTo V ops p i).2) then ((i : Int), sumL V (opAt' ops i).pre) else supTo V ops p i
where opAt' (ops : List OpV) (i : Nat) : OpV := (ops[i]?).getD ⟨[], [], [], 0⟩
theorem supTo_succ {V : List Int} {ops : List OpV} {p : Int} {i : Nat} {o : OpV} (h : ops[i]? = some o) : supTo V ops p (i + 1) = if goodO V o p ∧ ((supTo V ops p i).1 < 0 ∨ sumL V o.pre < (supTo V ops p i).2) then ((i : Int), sumL V o.pre) else supTo V ops p i := by
  rw [supTo]
  have e : supTo.opAt' ops i = o := by unfold supTo.opAt'; rw [h]; rfl
  rw [e]
theorem supTo_good {V : List Int} {ops : List OpV} {p : Int} : ∀ i, i ≤ ops.length → 0 ≤ (supTo V ops p i).1 → ∃ k : Nat, (supTo V ops p i).1 = (k : Int) ∧ k < i ∧ ∃ o, ops[k]? = some o ∧ goodO V o p
  | 0, _, h => by simp [supTo] at h
  | i + 1, hi, h => by
    have ho := List.getElem?_eq_getElem (show i < ops.length by omega)
    rw [supTo_succ ho] at h ⊢
    split at h
    · rename_i hg
      rw [if_pos hg]
      exact ⟨i, rfl, by omega, _, ho, hg.1⟩
    · rename_i hg
      rw [if_neg hg]
      obtain ⟨k, h1, h2, h3⟩ := supTo_good i (by omega) h
      exact ⟨k, h1, by omega, h3⟩
/-- The arrays while the supporters are found. -/
structure SupSt (n : Nat) (V : List Int) (ops : List OpV) (i j : Nat) (O S : List Int) : Prop where
  lenO : O.length = n
  lenS : S.length = n
  out : ∀ p : Nat, p < n → valAt O (p : Int) = (supTo V ops (p : Int) (if (∃ o, ops[i]? = some o ∧ (p : Int) ∈ o.add.take j) then i + 1 else i)).1
  least : ∀ p : Nat, p < n → valAt S (p : Int) = (supTo V ops (p : Int) (if (∃ o, ops[i]? = some o ∧ (p : Int) ∈ o.add.take j) then i + 1 else i)).2
section
variable {n : Nat} {V : List Int} {ops : List OpV} {i j : Nat} {O S : List Int}
open Classical in
theorem SupSt.start (h1 : O = List.replicate n (-1)) (h2 : S = List.replicate n 0) : SupSt n V ops 0 0 O S := by
  subst h1; subst h2
  have hx : ∀ p : Nat, ¬ ∃ o, ops[0]? = some o ∧ (p : Int) ∈ o.add.take 0 := fun p ⟨o, _, h⟩ => by simp at h
  refine ⟨by simp, by simp, fun p hp => ?_, fun p hp => ?_⟩
  · rw [if_neg (hx p), show valAt (List.replicate n (-1)) (p : Int) = -1 from valAt_of (by simp [hp])]; rfl
  · rw [if_neg (hx p), show valAt (List.replicate n 0) (p : Int) = 0 from valAt_of (by simp [hp])]; rfl
theorem sup_row {o : OpV} (ho : ops[i]? = some o) (hj : o.add.length ≤ j) (p : Nat) : supTo V ops (p : Int) (if (∃ o, ops[i]? = some o ∧ (p : Int) ∈ o.add.take j) then i + 1 else i) = supTo V ops (p : Int) (i + 1) := by
  split
  · rfl
  · rename_i h
    rw [supTo_succ ho, if_neg]
    rintro ⟨hg, _⟩
    exact h ⟨o, ho, by rw [List.take_of_length_le hj]; exact hg.1⟩
theorem sup_zero (p : Nat) : supTo V ops (p : Int) (if (∃ o, ops[i]? = some o ∧ (p : Int) ∈ o.add.take 0) then i + 1 else i) = supTo V ops (p : Int) i := by
  rw [if_neg]
  rintro ⟨o, _, h⟩
  simp at h
theorem SupSt.row (h : SupSt n V ops i j O S) {o : OpV} (ho : ops[i]? = some o) (hj : o.add.length ≤ j) : SupSt n V ops (i + 1) 0 O S :=
  ⟨h.lenO, h.lenS, fun p hp => by rw [h.out p hp, sup_row ho hj, sup_zero], fun p hp => by rw [h.least p hp, sup_row ho hj, sup_zero]⟩
/-- The fact at hand has not been looked at. -/
theorem SupSt.at_ (h : SupSt n V ops i j O S) {o : OpV} (ho : ops[i]? = some o) {m : Int} (hset : SetP o.add m) {x : Nat} (hx : o.add[j]? = some (x : Int)) (hxn : x < n) : valAt O (x : Int) = (supTo V ops (x : Int) i).1 ∧ valAt S (x : Int) = (supTo V ops (x : Int) i).2 := by
  have hno : ¬ ∃ o, ops[i]? = some o ∧ (x : Int) ∈ o.add.take j := fun ⟨o', h1, h2⟩ => by
    rw [ho] at h1
    injection h1 with h1
    subst h1
    obtain ⟨k, hk, e⟩ := List.mem_iff_getElem.1 h2
    rw [List.length_take] at hk
    rw [List.getElem_take] at e
    have := hset.inj (i := k) (j := j) (x := (x : Int)) (by rw [← e]; exact List.getElem?_eq_getElem (by omega)) hx
    omega
  have h1 := h.out x hxn
  have h2 := h.least x hxn
  rw [if_neg hno] at h1 h2
  exact ⟨h1, h2⟩
theorem sup_next {o : OpV} (ho : ops[i]? = some o) {x : Nat} (hx : o.add[j]? = some (x : Int)) (p : Nat) (hpx : p ≠ x) : supTo V ops (p : Int) (if (∃ o, ops[i]? = some o ∧ (p : Int) ∈ o.add.take (j + 1)) then i + 1 else i) = supTo V ops (p : Int) (if (∃ o, ops[i]? = some o ∧ (p : Int) ∈ o.add.take j) then i + 1 else i) := by
  have he : (∃ o, ops[i]? = some o ∧ (p : Int) ∈ o.add.take (j + 1)) ↔ (∃ o, ops[i]? = some o ∧ (p : Int) ∈ o.add.take j) := by
    constructor
    · rintro ⟨o', h1, h2⟩
      have h3 := h1
      rw [ho] at h3
      injection h3 with h3
      subst h3
      rw [List.take_add_one, hx] at h2
      rcases List.mem_append.1 h2 with h4 | h4
      · exact ⟨o, ho, h4⟩
      · simp at h4; omega
    · rintro ⟨o', h1, h2⟩
      refine ⟨o', h1, ?_⟩
      rw [List.take_add_one]
      exact List.mem_append_left _ h2
  simp only [he]
theorem sup_this {o : OpV} (ho : ops[i]? = some o) {x : Nat} (hx : o.add[j]? = some (x : Int)) : supTo V ops (x : Int) (if (∃ o, ops[i]? = some o ∧ (x : Int) ∈ o.add.take (j + 1)) then i + 1 else i) = supTo V ops (x : Int) (i + 1) := by
  rw [if_pos]
  refine ⟨o, ho, ?_⟩
  rw [List.take_add_one, hx]
  simp
theorem SupSt.hit (h : SupSt n V ops i j O S) {o : OpV} (ho : ops[i]? = some o) {m : Int} (hset : SetP o.add m) {x : Nat} (hx : o.add[j]? = some (x : Int)) (hxn : x < n) (hyes : goodO V o (x : Int) ∧ (valAt O (x : Int) < 0 ∨ sumL V o.pre < valAt S (x : Int))) : SupSt n V ops i (j + 1) (O.set x (i : Int)) (S.set x (sumL V o.pre)) := by
  have ha := h.at_ ho hset hx hxn
  rw [ha.1, ha.2] at hyes
  have hs := supTo_succ (V := V) (p := (x : Int)) ho
  rw [if_pos hyes] at hs
  have sO : ∀ p : Nat, valAt (O.set x (i : Int)) (p : Int) = if p = x then (i : Int) else valAt O (p : Int) := fun p => by rw [valAt_set (by rw [h.lenO]; exact hxn), Int.toNat_natCast]
  have sS : ∀ p : Nat, valAt (S.set x (sumL V o.pre)) (p : Int) = if p = x then sumL V o.pre else valAt S (p : Int) := fun p => by rw [valAt_set (by rw [h.lenS]; exact hxn), Int.toNat_natCast]
  refine ⟨by rw [List.length_set]; exact h.lenO, by rw [List.length_set]; exact h.lenS, fun p hp => ?_, fun p hp => ?_⟩
  · rw [sO]
    by_cases e : p = x
    · subst e; rw [if_pos rfl, sup_this ho hx, hs]
    · rw [if_neg e, sup_next ho hx p e]; exact h.out p hp
  · rw [sS]
    by_cases e : p = x
    · subst e; rw [if_pos rfl, sup_this ho hx, hs]
    · rw [if_neg e, sup_next ho hx p e]; exact h.least p hp
end
end Go.Proofs.Ytihkgdlanfemcaa

namespace Go.Proofs.Ytihkgdlanfemcaa
open Go.RowKit
set_option linter.unusedVariables false
set_option linter.unusedSimpArgs false

/-- The supporter of a fact. -/
def supOf (V : List Int) (ops : List OpV) (p : Int) : Int := (supTo V ops p ops.length).1
theorem supOf_good {V : List Int} {ops : List OpV} {p : Int} (h : ¬ supOf V ops p < 0) : ∃ k o, supOf V ops p = ((k : Nat) : Int) ∧ ops[k]? = some o ∧ goodO V o p := by
  obtain ⟨k, h1, _, o, h2, h3⟩ := supTo_good (V := V) (ops := ops) (p := p) ops.length (Nat.le_refl _) (by unfold supOf at h; omega)
  exact ⟨k, o, h1, h2, h3⟩
section
variable {V : List Int} {ops : List OpV}
/-! ### What is done -/
/-- Where a fact is achieved: what is planned is done, and what is done else supports no fact of its level or a lower one. -/
structure AchPre (n : Nat) (V : List Int) (ops : List OpV) (D : List Bool) (plan : List Int) (p : Int) : Prop where
  len : D.length = ops.length
  yes : ∀ i : Nat, (i : Int) ∈ plan → i < ops.length → D[i]? = some true
  no : ∀ i : Nat, D[i]? = some true → (i : Int) ∈ plan ∨ ∀ q, valAt V q ≤ valAt V p → supOf V ops q ≠ (i : Int)
def AchPost (ops : List OpV) (D D' : List Bool) (plan' : List Int) : Prop := D'.length = ops.length ∧ ∀ i : Nat, i < ops.length → (D'[i]? = some true ↔ D[i]? = some true ∨ (i : Int) ∈ plan')
theorem AchPre.same {n : Nat} {D : List Bool} {plan : List Int} {p : Int} (h : AchPre n V ops D plan p) : AchPost ops D D plan :=
  ⟨h.len, fun i hi => ⟨.inl, fun h2 => h2.elim id (fun h2 => h.yes i h2 hi)⟩⟩
theorem AchPre.planned {n : Nat} {D : List Bool} {plan : List Int} {p : Int} (h : AchPre n V ops D plan p) {i : Nat} (he : supOf V ops p = (i : Int)) (hd : D[i]? = some true) : (i : Int) ∈ plan :=
  (h.no i hd).resolve_right (fun h2 => h2 p (Int.le_refl _) he)
/-- While the preconditions are achieved. -/
def AchMid (ops : List OpV) (i : Nat) (D Dj : List Bool) (pj : List Int) : Prop := Dj.length = ops.length ∧ ∀ k : Nat, k < ops.length → (Dj[k]? = some true ↔ D[k]? = some true ∨ k = i ∨ (k : Int) ∈ pj)
theorem AchMid.pre {n : Nat} {D Dj : List Bool} {plan pj : List Int} {p q : Int} (h : AchPre n V ops D plan p) {i : Nat} {o : OpV} (ho : ops[i]? = some o) (hg : goodO V o p) (hq : q ∈ o.pre) (hs : ∀ x ∈ plan, x ∈ pj) (hm : AchMid ops i D Dj pj) : AchPre n V ops Dj pj q := by
  refine ⟨hm.1, fun k hk hkl => (hm.2 k hkl).2 (.inr (.inr hk)), fun k hk => ?_⟩
  have hkl : k < ops.length := by rw [← hm.1]; exact (List.getElem?_eq_some_iff.1 hk).1
  rcases (hm.2 k hkl).1 hk with h1 | h1 | h1
  · rcases h.no k h1 with h2 | h2
    · exact .inl (hs _ h2)
    · exact .inr (fun r hr => h2 r (by have := (hg.2.2 q hq).2; omega))
  · subst h1
    refine .inr (fun r hr he => ?_)
    obtain ⟨k', o', h2, h3, h4⟩ := supOf_good (V := V) (ops := ops) (p := r) (by omega)
    have : k' = k := by omega
    subst this
    rw [ho] at h3
    injection h3 with h3
    subst h3
    have := (h4.2.2 q hq).2
    omega
  · exact .inl h1
theorem AchMid.step {D Dj D' : List Bool} {pj p' : List Int} {i : Nat} (hm : AchMid ops i D Dj pj) (h : AchPost ops Dj D' p') (hs : ∀ x ∈ pj, x ∈ p') : AchMid ops i D D' p' := by
  refine ⟨h.1, fun k hk => ?_⟩
  rw [h.2 k hk, hm.2 k hk]
  constructor
  · rintro ((h1 | h1 | h1) | h1)
    · exact .inl h1
    · exact .inr (.inl h1)
    · exact .inr (.inr (hs _ h1))
    · exact .inr (.inr h1)
  · rintro (h1 | h1 | h1)
    · exact .inl (.inl h1)
    · exact .inl (.inr (.inl h1))
    · exact .inr h1
theorem AchMid.post {D Dj : List Bool} {pj : List Int} {i : Nat} (hm : AchMid ops i D Dj pj) : AchPost ops D Dj (pj ++ [(i : Int)]) := by
  refine ⟨hm.1, fun k hk => ?_⟩
  rw [hm.2 k hk, List.mem_append, List.mem_singleton]
  constructor
  · rintro (h1 | h1 | h1)
    · exact .inl h1
    · exact .inr (.inr (by omega))
    · exact .inr (.inl h1)
  · rintro (h1 | h1 | h1)
    · exact .inl h1
    · exact .inr (.inr h1)
    · exact .inr (.inl (by omega))
/-- At a goal nothing is done beyond the plan. -/
theorem AchPost.pre {n : Nat} {D : List Bool} {plan : List Int} (hl : D.length = ops.length) (h : ∀ i : Nat, i < ops.length → (D[i]? = some true ↔ (i : Int) ∈ plan)) (p : Int) : AchPre n V ops D plan p :=
  ⟨hl, fun i hi hil => (h i hil).2 hi, fun i hi => .inl ((h i (by rw [← hl]; exact (List.getElem?_eq_some_iff.1 hi).1)).1 hi)⟩
end
theorem nodup_len : ∀ {m : Nat} {l : List Int}, l.Nodup → (∀ x ∈ l, 0 ≤ x ∧ x < (m : Int)) → l.length ≤ m
  | 0, l, _, hr => by
    cases l with
    | nil => exact Nat.le_refl _
    | cons x l => have := hr x (List.mem_cons_self ..); omega
  | m + 1, l, hn, hr => by
    have h1 : ∀ x ∈ l.erase (m : Int), 0 ≤ x ∧ x < (m : Int) := fun x hx => by
      obtain ⟨h2, h3⟩ := (List.Nodup.mem_erase_iff hn).1 hx
      have := hr x h3
      omega
    have h2 := nodup_len (hn.erase _) h1
    have h3 := List.length_erase (a := (m : Int)) (l := l)
    split at h3 <;> omega

end Go.Proofs.Ytihkgdlanfemcaa
