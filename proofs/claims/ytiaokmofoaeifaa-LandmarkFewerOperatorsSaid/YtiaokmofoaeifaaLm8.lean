/-
  S.Adders, IsLandmark, Landmarks, FirstAchievers: what they return.
-/
import Derived.Test.YtiaokmofoaeifaaMH
import Derived.Test.YtiaokmofoaeifaaMB
namespace Go.Proofs.Ytiaokmofoaeifaa
open Go.RowKit
set_option linter.unusedVariables false
set_option linter.unusedSimpArgs false

/-- A bool, as an element. -/
def PBool (w : World) (row : Option Nat) (cs : List Value) (b : Bool) : Prop := cs = [.bool b]
theorem pbool_stable : Stable PBool := ⟨fun h _ => h, fun h _ => ⟨h, h⟩⟩
def OwnBs (base : Nat) (w : World) (v : Value) (bs : List Bool) : Prop := OwnEs PBool 4 1 base w v bs
theorem OwnBs.bools {base n c : Nat} {w : World} {A : Option Addr} {bs : List Bool} (h : OwnBs base w (.slice A n c) bs) : Bools w A bs := fun j u hu => by
  rw [List.getElem?_map] at hu
  cases hb : bs[j]? with
  | none => rw [hb] at hu; cases hu
  | some b =>
    rw [hb] at hu
    injection hu with hu
    subst hu
    obtain ⟨g, cs, b', rfl, _, _, hr, hl, hc, hp⟩ := OwnEs.at_ h (i := j) (List.getElem?_eq_some_iff.1 hb).1
    have hr' := hr.out
    rw [hb] at hr'
    injection hr' with hr'
    subst hr'
    subst hp
    have := hc 0 _ rfl
    refine ⟨_, rfl, ?_⟩
    have e : ((⟨g, 0, none⟩ : Addr).add j) = ⟨g, j, none⟩ := by
      unfold Addr.add
      split
      · rename_i hj; subst hj; rfl
      · simp
    rw [e]
    simpa using this
theorem bools_drew8 {w : World} {A : Option Addr} {bs : List Bool} (h : Bools w A bs) : Bools w.drew A bs := h
/-- Which operators add a fact. -/
def addersV (ops : List OpV) (p : Int) : List Bool := ops.map fun o => decide (p ∈ o.add)
theorem adders_use {ops : List OpV} {p : Int} {k : Nat} {d : Bool} (h : (addersV ops p)[k]? = some d) : useNot ops p k = !d := by
  unfold addersV at h
  rw [List.getElem?_map] at h
  cases ho : ops[k]? with
  | none => rw [ho] at h; cases h
  | some o =>
    rw [ho] at h
    injection h with h
    rw [useNot_of ho, ← h]
theorem addersV_len (ops : List OpV) (p : Int) : (addersV ops p).length = ops.length := by unfold addersV; simp
noncomputable def landB (n : Nat) (t : TaskV) (p : Int) : Bool := @decide (Land n t p) (Classical.propDecidable _)
theorem landB_true {n : Nat} {t : TaskV} {p : Int} : landB n t p = true ↔ Land n t p := by unfold landB; exact @decide_eq_true_iff _ (Classical.propDecidable _)
theorem landB_false {n : Nat} {t : TaskV} {p : Int} : landB n t p = false ↔ ¬ Land n t p := by unfold landB; exact @decide_eq_false_iff_not _ (Classical.propDecidable _)
theorem sub_within {n : Nat} {st xs : List Int} {ops : List OpV} {use : Nat → Bool} (h : ∀ x ∈ xs, 0 ≤ x ∧ x < (n : Int)) : (∀ x ∈ xs, x ∈ withinV n st ops use) ↔ ∀ x ∈ xs, Reach st ops use x :=
  ⟨fun ha x hx => (withinV_mem.1 (ha x hx)).2.2, fun ha x hx => withinV_mem.2 ⟨(h x hx).1, (h x hx).2, ha x hx⟩⟩
end Go.Proofs.Ytiaokmofoaeifaa
