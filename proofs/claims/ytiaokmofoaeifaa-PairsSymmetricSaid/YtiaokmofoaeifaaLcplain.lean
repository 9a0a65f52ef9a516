/-
  Zones, what lies before them, and cuts: a plain law.
-/
import Derived.Test.YtiaokmofoaeifaaRvals
import Derived.Test.YtiaokmofoaeifaaRclose
import Derived.Test.YtiaokmofoaeifaaRlaw1
import Derived.Test.YtiaokmofoaeifaaLm7
import Derived.Test.YtiaokmofoaeifaaLc1
namespace Go.Proofs.Ytiaokmofoaeifaa
set_option linter.unusedVariables false
set_option linter.unusedSimpArgs false

/-- What edges lead to. -/
inductive GR (start : Int → Prop) (E : Nat → Int → Int → Prop) : Int → Prop
  | start {p : Int} : start p → GR start E p
  | step {i : Nat} {p q : Int} : GR start E p → E i p q → GR start E q
open Classical in
noncomputable def grV (N : Nat) (start : Int → Prop) (E : Nat → Int → Int → Prop) : List Bool := (List.range N).map fun (p : Nat) => decide (GR start E (p : Int))
theorem grV_len (N : Nat) (start : Int → Prop) (E : Nat → Int → Int → Prop) : (grV N start E).length = N := by simp [grV]
theorem grV_get {N p : Nat} {start : Int → Prop} {E : Nat → Int → Int → Prop} (h : p < N) : (grV N start E)[p]? = some true ↔ GR start E (p : Int) := by simp [grV, h]
theorem grV_no {N p : Nat} {start : Int → Prop} {E : Nat → Int → Int → Prop} (h : p < N) : (grV N start E)[p]? = some false ↔ ¬ GR start E (p : Int) := by simp [grV, h]
structure SoundG (N : Nat) (start : Int → Prop) (E : Nat → Int → Int → Prop) (bs : List Bool) : Prop where
  len : bs.length = N
  init : ∀ p, start p → bs[p.toNat]? = some true
  sound : ∀ p : Nat, bs[p]? = some true → GR start E (p : Int)
def ClosedG (E : Nat → Int → Int → Prop) (k : Nat) (bs : List Bool) : Prop := ∀ i p q, i < k → E i p q → bs[p.toNat]? = some true → bs[q.toNat]? = some true
section
variable {N : Nat} {start : Int → Prop} {E : Nat → Int → Int → Prop} {bs : List Bool}
theorem closedG_zero : ClosedG E 0 bs := fun i p q hi => absurd hi (by omega)
theorem closedG_succ {k : Nat} (h : ClosedG E k bs) (h2 : ∀ p q, E k p q → bs[p.toNat]? = some true → bs[q.toNat]? = some true) : ClosedG E (k + 1) bs := fun i p q hi hE hp => by
  by_cases e : i = k
  · subst e; exact h2 p q hE hp
  · exact h i p q (by omega) hE hp
theorem set_true {bs : List Bool} {i j : Nat} (h : bs[i]? = some true) (hj : j < bs.length) : (bs.set j true)[i]? = some true := by
  rw [List.getElem?_set]
  split
  · rename_i e; subst e; simp [hj]
  · exact h
theorem SoundG.set_ (h : SoundG N start E bs) {q : Int} (hq : GR start E q) (q0 : 0 ≤ q) (hN : q < (N : Int)) : SoundG N start E (bs.set q.toNat true) := by
  have hl : q.toNat < bs.length := by rw [h.len]; omega
  refine ⟨by rw [List.length_set]; exact h.len, fun p hp => set_true (h.init p hp) hl, fun p hp => ?_⟩
  rw [List.getElem?_set] at hp
  split at hp
  · rename_i e
    subst e
    rw [Int.toNat_of_nonneg q0]
    exact hq
  · exact h.sound p hp
theorem SoundG.eq {m : Nat} (h : SoundG N start E bs) (hc : ClosedG E m bs) (hE : ∀ i p q, E i p q → i < m) : bs = grV N start E := by
  have key : ∀ p, GR start E p → bs[p.toNat]? = some true := fun p hp => by
    induction hp with
    | start h1 => exact h.init _ h1
    | step _ h2 ih => exact hc _ _ _ (hE _ _ _ h2) h2 ih
  apply List.ext_getElem?
  intro p
  rcases Nat.lt_or_ge p N with hp | hp
  · have h1 : bs[p]? = some true ↔ (grV N start E)[p]? = some true := by
      rw [grV_get hp]
      exact ⟨h.sound p, fun hr => by have := key _ hr; simpa using this⟩
    obtain ⟨a, ha⟩ : ∃ a, bs[p]? = some a := ⟨_, List.getElem?_eq_getElem (by rw [h.len]; exact hp)⟩
    obtain ⟨b, hb⟩ : ∃ b, (grV N start E)[p]? = some b := ⟨_, List.getElem?_eq_getElem (by rw [grV_len]; exact hp)⟩
    rw [ha, hb] at h1 ⊢
    cases a <;> cases b <;> simp_all
  · rw [List.getElem?_eq_none (by rw [h.len]; exact hp), List.getElem?_eq_none (by rw [grV_len]; exact hp)]
end

/-! ### zone, before, cut -/
def ZE (n : Nat) (W : List Int) (ops : List OpV) (cost : List Int) (i : Nat) (p q : Int) : Prop := ∃ o c, ops[i]? = some o ∧ cost[i]? = some c ∧ ¬ 0 < c ∧ p ∈ o.add ∧ q = hardV W n o.pre
def ZS (n : Nat) (W : List Int) (goal : List Int) (p : Int) : Prop := p = hardV W n goal
noncomputable def zoneV (n : Nat) (W : List Int) (ops : List OpV) (cost goal : List Int) : List Bool := grV (n + 1) (ZS n W goal) (ZE n W ops cost)
def BE (n : Nat) (W : List Int) (ops : List OpV) (Z : List Bool) (i : Nat) (p q : Int) : Prop := ∃ o, ops[i]? = some o ∧ p = hardV W n o.pre ∧ q ∈ o.add ∧ Z[q.toNat]? = some false
def BS (n : Nat) (st : List Int) (p : Int) : Prop := p = (n : Int) ∨ p ∈ st
noncomputable def befV (n : Nat) (W : List Int) (ops : List OpV) (st : List Int) (Z : List Bool) : List Bool := grV (n + 1) (BS n st) (BE n W ops Z)
def CutOp (n : Nat) (W : List Int) (ops : List OpV) (Z B : List Bool) (i : Nat) : Prop := ∃ o, ops[i]? = some o ∧ B[(hardV W n o.pre).toNat]? = some true ∧ ∃ p ∈ o.add, Z[p.toNat]? = some true
open Classical in
noncomputable def cutTo (n : Nat) (W : List Int) (ops : List OpV) (Z B : List Bool) (k : Nat) : List Int := ((List.range k).filter fun i => decide (CutOp n W ops Z B i)).map fun (i : Nat) => (i : Int)
noncomputable def cutV (n : Nat) (W : List Int) (ops : List OpV) (Z B : List Bool) : List Int := cutTo n W ops Z B ops.length
/-- The least cost of operators. -/
def minTo (cost : List Int) (l : List Int) : Int := l.foldl (fun m i => min m (valAt cost i)) 1000000000
section
variable {n : Nat} {W : List Int} {ops : List OpV} {Z B : List Bool}
theorem cutTo_yes {k : Nat} (h : CutOp n W ops Z B k) : cutTo n W ops Z B (k + 1) = cutTo n W ops Z B k ++ [(k : Int)] := by
  unfold cutTo; rw [List.range_succ, List.filter_append]; simp [h]
theorem cutTo_no {k : Nat} (h : ¬ CutOp n W ops Z B k) : cutTo n W ops Z B (k + 1) = cutTo n W ops Z B k := by
  unfold cutTo; rw [List.range_succ, List.filter_append]; simp [h]
theorem cutTo_len (k : Nat) : (cutTo n W ops Z B k).length ≤ k := by
  unfold cutTo; rw [List.length_map]
  exact Nat.le_trans (List.length_filter_le _ _) (by simp)
theorem cutTo_mem {k : Nat} {x : Int} : x ∈ cutTo n W ops Z B k ↔ ∃ i : Nat, x = (i : Int) ∧ i < k ∧ CutOp n W ops Z B i := by
  unfold cutTo
  simp only [List.mem_map, List.mem_filter, List.mem_range, decide_eq_true_eq]
  exact ⟨fun ⟨i, ⟨h1, h2⟩, h3⟩ => ⟨i, h3.symm, h1, h2⟩, fun ⟨i, h1, h2, h3⟩ => ⟨i, ⟨h2, h3⟩, h1.symm⟩⟩
theorem cutV_set : SetP (cutV n W ops Z B) (ops.length : Int) := by
  refine SetP.of_pairwise (fun x hx => ?_) ?_
  · obtain ⟨i, rfl, hi, _⟩ := cutTo_mem.1 hx
    omega
  · unfold cutV cutTo
    rw [List.pairwise_map]
    refine List.Pairwise.imp (fun h => ?_) (List.Pairwise.filter _ List.pairwise_lt_range)
    omega
end
theorem minTo_snoc {cost l : List Int} {i c : Int} (h : cost[i.toNat]? = some c) : minTo cost (l ++ [i]) = min (minTo cost l) c := by
  unfold minTo; rw [List.foldl_append, List.foldl_cons, List.foldl_nil, valAt_of h]
theorem foldMin {cost : List Int} : ∀ (l : List Int) (m : Int), l.foldl (fun m i => min m (valAt cost i)) m ≤ m ∧ (∀ i ∈ l, l.foldl (fun m i => min m (valAt cost i)) m ≤ valAt cost i) ∧ (l.foldl (fun m i => min m (valAt cost i)) m = m ∨ ∃ i ∈ l, l.foldl (fun m i => min m (valAt cost i)) m = valAt cost i) := by
  intro l
  induction l with
  | nil => intro m; exact ⟨Int.le_refl _, by simp, .inl rfl⟩
  | cons x l ih =>
    intro m
    obtain ⟨h1, h2, h3⟩ := ih (min m (valAt cost x))
    refine ⟨Int.le_trans h1 (Int.min_le_left _ _), fun i hi => ?_, ?_⟩
    · rcases List.mem_cons.1 hi with e | e
      · subst e; exact Int.le_trans h1 (Int.min_le_right _ _)
      · exact h2 i e
    · rcases h3 with h3 | ⟨i, hi, h3⟩
      · rcases Int.le_total m (valAt cost x) with h4 | h4
        · left; rw [List.foldl_cons, h3]; omega
        · right; exact ⟨x, List.mem_cons_self .., by rw [List.foldl_cons, h3]; omega⟩
      · right; exact ⟨i, List.mem_cons_of_mem _ hi, h3⟩

/-! ### The hardest fact -/
theorem valAt_app {V : List Int} {n : Nat} (hl : V.length = n) {p : Int} (h0 : 0 ≤ p) (h1 : p < (n : Int)) : valAt (V ++ [0]) p = valAt V p := by
  unfold valAt; rw [List.getElem?_append_left (by omega)]
theorem valAt_end {V : List Int} {n : Nat} (hl : V.length = n) : valAt (V ++ [0]) (n : Int) = 0 := by
  unfold valAt; rw [List.getElem?_append_right (by simp; omega)]; simp [hl]
theorem hard_spec {V : List Int} {n : Nat} (hl : V.length = n) (hV : AllV V) {xs : List Int} (hx : ∀ x ∈ xs, 0 ≤ x ∧ x < (n : Int)) :
    (hardV (V ++ [0]) n xs = (n : Int) ∧ xs = [] ∨ hardV (V ++ [0]) n xs ∈ xs) ∧ valAt (V ++ [0]) (hardV (V ++ [0]) n xs) = combV false V xs := by
  have key : ∀ (ys : List Int) (b o : Int), (∀ x ∈ ys, 0 ≤ x ∧ x < (n : Int)) → (b = (n : Int) → o = 0) → valAt (V ++ [0]) b = o → 0 ≤ o →
      (ys.foldl (hardStep (V ++ [0]) n) b = b ∧ (b = (n : Int) → ys = []) ∨ ys.foldl (hardStep (V ++ [0]) n) b ∈ ys) ∧ valAt (V ++ [0]) (ys.foldl (hardStep (V ++ [0]) n) b) = ys.foldl (fun o p => stepV false o (valAt V p)) o := by
    intro ys
    induction ys with
    | nil => intro b o _ _ h _; exact ⟨.inl ⟨rfl, fun _ => rfl⟩, h⟩
    | cons y ys ih =>
      intro b o hy hb he ho
      have hy0 := hy y (List.mem_cons_self ..)
      have ev := valAt_app hl hy0.1 hy0.2
      have hin := valAt_in hV y
      unfold InV at hin
      have hstep : valAt (V ++ [0]) (hardStep (V ++ [0]) n b y) = stepV false o (valAt V y) := by
        unfold hardStep stepV
        dsimp only
        rw [he, ev]
        by_cases e : b = (n : Int)
        · have := hb e
          rw [if_pos (.inl e), ev]
          split <;> omega
        · by_cases e2 : o < valAt V y
          · rw [if_pos (.inr e2), if_pos e2, ev]
          · rw [if_neg (fun h => h.elim e e2), if_neg e2, he]
      have hne : ¬ hardStep (V ++ [0]) n b y = (n : Int) := by
        unfold hardStep
        split
        · omega
        · rename_i h; exact fun e => h (.inl e)
      obtain ⟨h1, h2⟩ := ih (hardStep (V ++ [0]) n b y) (stepV false o (valAt V y)) (fun x hx => hy x (List.mem_cons_of_mem _ hx)) (fun e => absurd e hne) hstep (by unfold stepV; dsimp only; split <;> omega)
      rw [List.foldl_cons, List.foldl_cons]
      refine ⟨?_, h2⟩
      rcases h1 with ⟨h1, _⟩ | h1
      · rw [h1]
        unfold hardStep
        split
        · right; exact List.mem_cons_self ..
        · rename_i h3
          left
          exact ⟨rfl, fun e => absurd (.inl e) h3⟩
      · right; exact List.mem_cons_of_mem _ h1
  obtain ⟨h1, h2⟩ := key xs n 0 hx (fun _ => rfl) (valAt_end hl) (Int.le_refl _)
  refine ⟨?_, h2⟩
  rcases h1 with ⟨h1, h3⟩ | h1
  · left; exact ⟨h1, h3 rfl⟩
  · right; exact h1
theorem foldMax {V : List Int} : ∀ (xs : List Int) (o : Int), o ≤ xs.foldl (fun o p => stepV false o (valAt V p)) o ∧ (∀ x ∈ xs, valAt V x ≤ xs.foldl (fun o p => stepV false o (valAt V p)) o) ∧ ∀ z, o ≤ z → (∀ x ∈ xs, valAt V x ≤ z) → xs.foldl (fun o p => stepV false o (valAt V p)) o ≤ z := by
  intro xs
  induction xs with
  | nil => intro o; exact ⟨Int.le_refl _, by simp, fun z h _ => h⟩
  | cons x xs ih =>
    intro o
    have hs : o ≤ stepV false o (valAt V x) ∧ valAt V x ≤ stepV false o (valAt V x) ∧ (stepV false o (valAt V x) = o ∨ stepV false o (valAt V x) = valAt V x) := by unfold stepV; dsimp only; split <;> omega
    obtain ⟨h1, h2, h3⟩ := ih (stepV false o (valAt V x))
    refine ⟨Int.le_trans hs.1 h1, fun y hy => ?_, fun z hz hx => h3 z ?_ (fun y hy => hx y (List.mem_cons_of_mem _ hy))⟩
    · rcases List.mem_cons.1 hy with e | e
      · subst e; exact Int.le_trans hs.2.1 h1
      · exact h2 y e
    · have := hx x (List.mem_cons_self ..)
      omega
theorem comb_ge {V xs : List Int} {x : Int} (h : x ∈ xs) : valAt V x ≤ combV false V xs := (foldMax xs 0).2.1 x h
theorem comb_nonneg {V xs : List Int} : 0 ≤ combV false V xs := (foldMax xs 0).1
theorem comb_le {V xs : List Int} {z : Int} (h0 : 0 ≤ z) (h : ∀ x ∈ xs, valAt V x ≤ z) : combV false V xs ≤ z := (foldMax xs 0).2.2 z h0 h
theorem plusV_le {a b : Int} (ha : InV a) (hb : InV b) : plusV a b ≤ a + b := by unfold InV at *; unfold plusV; (repeat split) <;> omega
theorem plusV_ge {a b z : Int} (ha : InV a) (hb : InV b) (h : z ≤ a + b) (h2 : z ≤ 999999999) : z ≤ plusV a b := by unfold InV at *; unfold plusV; (repeat split) <;> omega

/-! ### Reachable facts have finite values -/
theorem inf_reach {s : Bool} {n : Nat} {st : List Int} {ops : List OpV} {cs V : List Int} (hV : Best s n st ops cs V) (hlc : cs.length = ops.length) (hc : AllV cs) (hc2 : ∀ c ∈ cs, c < 1000000000)
    (hst : ∀ p ∈ st, 0 ≤ p) (hops : ∀ o ∈ ops, (∀ p ∈ o.pre, 0 ≤ p ∧ p < (n : Int)) ∧ ∀ p ∈ o.add, 0 ≤ p ∧ p < (n : Int)) {p : Int} (h0 : 0 ≤ p) (h1 : p < (n : Int)) : valAt V p = 1000000000 ↔ ¬ Reach st ops (fun _ => true) p := by
  have hVall := hV.fix.shape.all
  have fin : ∀ p, Reach st ops (fun _ => true) p → ¬ valAt V p = 1000000000 := fun p hp => by
    induction hp with
    | init h => rw [hV.fix.shape.zero _ h]; omega
    | @step p i o ho hu hq hp ih =>
      have hi := (List.getElem?_eq_some_iff.1 ho).1
      have hcs : cs[i]? = some cs[i] := List.getElem?_eq_getElem (by omega)
      have hcm := List.mem_of_getElem? hcs
      have h2 := hV.fix.closed i o _ hi ho hcs p hp
      have h3 := opV_in (s := s) hVall o (hc _ hcm)
      have h4 : ¬ opV s V o cs[i] = 1000000000 := fun e => by
        rcases (plusV_inf_iff (combV_in hVall _) (hc _ hcm)).1 e with e | e
        · obtain ⟨x, hx, e⟩ := (combV_inf hVall _).1 e
          exact ih x hx e
        · have := hc2 _ hcm; omega
      unfold InV at h3
      omega
  constructor
  · intro h hr; exact fin p hr h
  · intro h
    let U : List Int := (List.range n).map fun (q : Nat) => @ite _ (Reach st ops (fun _ => true) (q : Int)) (Classical.propDecidable _) (valAt V (q : Int)) 1000000000
    have hU : ∀ q, 0 ≤ q → q < (n : Int) → valAt U q = @ite _ (Reach st ops (fun _ => true) q) (Classical.propDecidable _) (valAt V q) 1000000000 := fun q q0 q1 => by
      obtain ⟨k, rfl⟩ := Int.eq_ofNat_of_zero_le q0
      refine valAt_of ?_
      show ((List.range n).map _)[k]? = _
      rw [List.getElem?_map, List.getElem?_range (by omega)]
      rfl
    have hUall : AllV U := fun v hv => by
      obtain ⟨q, _, rfl⟩ := List.mem_map.1 hv
      split
      · exact valAt_in hVall _
      · exact InV.inf
    have hle : ∀ q, 0 ≤ q → q < (n : Int) → valAt V q ≤ valAt U q := fun q q0 q1 => by
      rw [hU q q0 q1]
      have := valAt_in hVall q
      unfold InV at this
      split <;> omega
    have hleV : LeV V U := fun q => by
      by_cases e : q.toNat < n
      · have h1 : valAt V q = valAt V (q.toNat : Int) := by unfold valAt; rw [Int.toNat_natCast]
        have h2 : valAt U q = valAt U (q.toNat : Int) := by unfold valAt; rw [Int.toNat_natCast]
        rw [h1, h2]; exact hle _ (by omega) (by omega)
      · have : valAt V q = 0 := by unfold valAt; rw [List.getElem?_eq_none (by rw [hV.fix.shape.len]; omega)]; rfl
        rw [this]
        have := valAt_in hUall q
        exact this.1
    have hfix : Fix s n st ops cs U := by
      refine ⟨⟨by simp [U], hUall, fun q hq => ?_⟩, fun i o c hi ho hcs q hq => ?_⟩
      · have q0 := hst q hq
        by_cases q1 : q < (n : Int)
        · rw [hU q q0 q1, if_pos (.init hq)]
          exact hV.fix.shape.zero q hq
        · unfold valAt; rw [List.getElem?_eq_none (by simp [U]; omega)]; rfl
      · have hcm := List.mem_of_getElem? hcs
        have hoo := hops o (List.mem_of_getElem? ho)
        obtain ⟨q0, q1⟩ := hoo.2 q hq
        by_cases hall : ∀ x ∈ o.pre, Reach st ops (fun _ => true) x
        · rw [hU q q0 q1, if_pos (.step ho rfl hall hq)]
          exact Int.le_trans (hV.fix.closed i o c hi ho hcs q hq) (opV_mono hVall hUall hleV o (hc c hcm))
        · have : ∃ x ∈ o.pre, ¬ Reach st ops (fun _ => true) x := Classical.byContradiction fun hn => hall fun x hx => Classical.byContradiction fun hr => hn ⟨x, hx, hr⟩
          obtain ⟨x, hx, hr⟩ := this
          have h5 : combV s U o.pre = 1000000000 := (combV_inf hUall _).2 ⟨x, hx, by rw [hU x (hoo.1 x hx).1 (hoo.1 x hx).2, if_neg hr]⟩
          have h6 : opV s U o c = 1000000000 := by unfold opV; exact plusV_inf (.inl h5)
          have := valAt_in hUall q
          unfold InV at this
          omega
    have h2 := hV.great _ hfix p
    rw [hU p h0 h1, if_neg h] at h2
    have h3 := valAt_in hVall p
    unfold InV at h3
    omega

end Go.Proofs.Ytiaokmofoaeifaa
