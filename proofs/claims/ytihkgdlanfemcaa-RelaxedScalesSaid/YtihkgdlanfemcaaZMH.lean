/-
  landmark.Achievers: what it returns.
  landmark.Orders: what it returns.
  two(true), landmarkExample: what they return.
-/
import Derived.Test.YtihkgdlanfemcaaZMG
import Derived.Test.YtihkgdlanfemcaaZMA
import Derived.Test.YtihkgdlanfemcaaZMF
namespace Go.Proofs.Ytihkgdlanfemcaa
open Go.RowKit
set_option linter.unusedVariables false
set_option linter.unusedSimpArgs false

theorem OwnLL.drew {base : Nat} {w : World} {v : Value} {rows : List (List Int)} (h : OwnLL base w v rows) : OwnLL base w.drew v rows := h.below (bdrew (Below.refl _ _))
theorem OwnPP.drew {base : Nat} {w : World} {v : Value} {ps : List (Int × Int)} (h : OwnPP base w v ps) : OwnPP base w.drew v ps := h.below (bdrew (Below.refl _ _))
end Go.Proofs.Ytihkgdlanfemcaa

namespace Go.Proofs.Ytihkgdlanfemcaa
open Go.RowKit
set_option linter.unusedVariables false
set_option linter.unusedSimpArgs false
end Go.Proofs.Ytihkgdlanfemcaa

namespace Go.Proofs.Ytihkgdlanfemcaa
open Go.RowKit
set_option linter.unusedVariables false
set_option linter.unusedSimpArgs false

set_option maxRecDepth 100000 in
set_option maxHeartbeats 1000000 in
theorem two_yes (w : World)  :
    Calls Try.prog 67 #[.bool true] w fun e w' => ∃ g h, e = .returned (.agg #[.int .i64 2, .slice none 0 0, .slice (some ⟨g, 0, none⟩) 1 1, .slice (some ⟨h, 0, none⟩) 2 2]) ∧ TaskMem w' none (some ⟨g, 0, none⟩) (some ⟨h, 0, none⟩) chainV ∧ Below w.heap.size w w' := by
  go_enter Try.func67, Try.ntmps67
  go_wp2
  refine bodyPost_ret (v := .agg #[.int .i64 2, .slice none 0 0, .slice (some ⟨w.heap.size + 1 + 1 + 1 + 1 + 1 + 1 + 1, 0, none⟩) 1 1, .slice (some ⟨w.heap.size + 1 + 1 + 1 + 1, 0, none⟩) 2 2]) ?_ rfl ⟨_, _, rfl, ?_, by repeat (first | with_reducible exact Below.refl _ _ | with_reducible apply bdrew | with_reducible apply bdrewN | with_reducible apply balloc | ((with_reducible refine bset ?_ ?_ _); rotate_left; (first | omega | (simp <;> omega))))⟩
  · simp [results, Try.results67, go_sem]
  · refine ⟨Ints.nil _ _, ints_one ?_, ops_two (A0 := none) (c0 := 0) (A1 := some ⟨w.heap.size + 1 + 1, 0, none⟩) (c1 := 1) (A2 := none) (c2 := 0) (B0 := some ⟨w.heap.size + 1 + 1 + 1 + 1 + 1 + 1, 0, none⟩) (d0 := 1) (B1 := some ⟨w.heap.size + 1 + 1 + 1, 0, none⟩) (d1 := 1) (B2 := none) (d2 := 0) ?_ ?_ ?_ ?_ ⟨Ints.nil _ _, ints_one ?_, Ints.nil _ _, by simp [lenOk], by simp [lenOk], by simp [lenOk]⟩ ?_ ?_ ?_ ?_ ⟨ints_one ?_, ints_one ?_, Ints.nil _ _, by simp [lenOk], by simp [lenOk], by simp [lenOk]⟩, by simp [lenOk, chainV], by simp [lenOk, chainV], by simp [lenOk, chainV]⟩
    all_goals simp [go_sem]

theorem chain_valid : Valid chainV := by
  refine ⟨by decide, by decide, SetP.nil _, ?_, by decide, ?_⟩
  · exact SetP.of_pairwise (by simp [chainV]) (by simp [chainV])
  · intro o ho
    simp only [chainV, List.mem_cons, List.not_mem_nil, or_false] at ho
    rcases ho with rfl | rfl
    · exact ⟨⟨SetP.nil _, SetP.of_pairwise (by simp [chainV]) (by simp), SetP.nil _, by simp⟩, by decide, by decide⟩
    · exact ⟨⟨SetP.of_pairwise (by simp [chainV]) (by simp), SetP.of_pairwise (by simp [chainV]) (by simp), SetP.nil _, by simp⟩, by decide, by decide⟩
end Go.Proofs.Ytihkgdlanfemcaa
