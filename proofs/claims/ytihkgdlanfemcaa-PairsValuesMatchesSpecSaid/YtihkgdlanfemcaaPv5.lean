/-
  Contracts of the pairs' law with the number of facts named.
-/
import Derived.Test.YtihkgdlanfemcaaNver
import Derived.Test.YtihkgdlanfemcaaPv3
import Derived.Test.YtihkgdlanfemcaaPv4
import Derived.Test.YtihkgdlanfemcaaLm11
namespace Go.Proofs.Ytihkgdlanfemcaa
open Go.RowKit
set_option linter.unusedVariables false
set_option linter.unusedSimpArgs false

theorem pvalues_1n (w : World) (t : TaskV) (Ai Ag Ao : Option Addr) (ci cg co : Nat) (hT : TaskMem w Ai Ag Ao t) (S : Option Addr) (cs : Nat) (st : List Int) (hS : Ints w S st) (hls : lenOk st.length) (n : Nat) (hn : t.facts = n) (h : ¬ (sfault t st).1 = 0) :
    Calls Try.prog 18 #[.agg #[.int .i64 (n : Int), .slice Ai t.init.length ci, .slice Ag t.goal.length cg, .slice Ao t.ops.length co], .slice S st.length cs] w fun e w' => e = .returned (.tuple #[.slice none 0 0, .agg #[.int .i64 (sfault t st).1, .int .i64 (sfault t st).2]]) ∧ Below w.heap.size w w' := by
  have h := pvalues_1 w t Ai Ag Ao ci cg co hT S cs st hS hls h
  rw [hn] at h
  exact h
theorem pgoal_1n (w : World) (t : TaskV) (Ai Ag Ao : Option Addr) (ci cg co : Nat) (hT : TaskMem w Ai Ag Ao t) (S : Option Addr) (cs : Nat) (st : List Int) (hS : Ints w S st) (hls : lenOk st.length) (n : Nat) (hn : t.facts = n) (h : ¬ (sfault t st).1 = 0) :
    Calls Try.prog 19 #[.agg #[.int .i64 (n : Int), .slice Ai t.init.length ci, .slice Ag t.goal.length cg, .slice Ao t.ops.length co], .slice S st.length cs] w fun e w' => e = .returned (.tuple #[.int .i64 0, .agg #[.int .i64 (sfault t st).1, .int .i64 (sfault t st).2]]) ∧ Below w.heap.size w w' := by
  have h := pgoal_1 w t Ai Ag Ao ci cg co hT S cs st hS hls h
  rw [hn] at h
  exact h
theorem taskfault_anyn (w : World) (t : TaskV) (Ai Ag Ao : Option Addr) (ci cg co : Nat) (hT : TaskMem w Ai Ag Ao t) (n : Nat) (hn : t.facts = n) :
    Calls Try.prog 21 #[.agg #[.int .i64 (n : Int), .slice Ai t.init.length ci, .slice Ag t.goal.length cg, .slice Ao t.ops.length co]] w fun e w' => e = .returned (.agg #[.int .i64 (tfault t).1, .int .i64 (tfault t).2]) ∧ Below w.heap.size w w' := by
  have h := taskfault_any w t Ai Ag Ao ci cg co hT
  rw [hn] at h
  exact h
theorem rstatefault_anyn (w : World) (t : TaskV) (Ai Ag Ao : Option Addr) (ci cg co : Nat) (hT : TaskMem w Ai Ag Ao t) (S : Option Addr) (cs : Nat) (st : List Int) (hS : Ints w S st) (hls : lenOk st.length) (n : Nat) (hn : t.facts = n) :
    Calls Try.prog 24 #[.agg #[.int .i64 (n : Int), .slice Ai t.init.length ci, .slice Ag t.goal.length cg, .slice Ao t.ops.length co], .slice S st.length cs] w fun e w' => e = .returned (.agg #[.int .i64 (sfault t st).1, .int .i64 (sfault t st).2]) ∧ Below w.heap.size w w' := by
  have h := rstatefault_any w t Ai Ag Ao ci cg co hT S cs st hS hls
  rw [hn] at h
  exact h
theorem rpgoal_anyn (w : World) (t : TaskV) (Ai Ag Ao : Option Addr) (ci cg co : Nat) (hT : TaskMem w Ai Ag Ao t) (A : Option Addr) (n c : Nat) (V : Int → Int → Int) (hA : LLR w A (tabR n V)) (hlg : t.goal.length ≤ 1000000) (hn1 : n ≤ 1000) (hgo : ∀ x ∈ t.goal, 0 ≤ x ∧ x < (n : Int)) (hn : t.facts = n) :
    Calls Try.prog 26 #[.agg #[.int .i64 (n : Int), .slice Ai t.init.length ci, .slice Ag t.goal.length cg, .slice Ao t.ops.length co], .slice A n c] w fun e w' => e = .returned (.int .i64 (valP V t.goal)) ∧ Below w.heap.size w w' := by
  have h := rpgoal_any w t Ai Ag Ao ci cg co hT A n c V hA hlg hn1 hgo
  rw [hn] at h
  exact h
theorem TabAt.llr {B g n : Nat} {w : World} {V : Int → Int → Int} (h : TabAt B w g n V) : LLR w (some ⟨g, 0, none⟩) (tabR n V) := fun i r hr => by
  have hi : i < n := by
    have := (List.getElem?_eq_some_iff.1 hr).1
    rwa [tabR_len] at this
  rw [tabR_get hi] at hr
  injection hr with hr
  subst hr
  obtain ⟨bs, _, _, hT⟩ := h
  obtain ⟨b, hb, hgc, _, _⟩ := hT.at_ (p := (i : Int)) (q := 0) ⟨by omega, by omega⟩ ⟨by omega, by omega⟩
  have hbo := hb.out
  rw [Int.toNat_natCast] at hgc hbo
  have hadd : (⟨g, 0, none⟩ : Addr).add i = ⟨g, i, none⟩ := by
    unfold Addr.add
    split
    · rename_i hj; rw [hj]
    · simp
  exact ⟨⟨g, 0, none⟩, some ⟨b, 0, none⟩, n, rfl, by rw [hadd, rowV_len]; exact hgc, (hT.rows i b hbo).ints⟩
theorem tabR_same {n : Nat} {st : List Int} {ops : List OpV} {V U : Int → Int → Int} (h : PBest n st ops V) (h' : PBest n st ops U) : tabR n V = tabR n U := by
  unfold tabR
  refine List.map_congr_left fun p hp => rowV_ext fun q hq => h.same h' ⟨by omega, by have := List.mem_range.1 hp; omega⟩ ⟨by omega, by omega⟩
theorem exTo_same {n : Nat} {st : List Int} {ops : List OpV} {V U : Int → Int → Int} (h : PBest n st ops V) (h' : PBest n st ops U) : exTo n V n = exTo n U n :=
  exTo_congr (fun p q hp hq => h.same h' ⟨by omega, by omega⟩ ⟨by omega, by omega⟩) n (Nat.le_refl _)

end Go.Proofs.Ytihkgdlanfemcaa
