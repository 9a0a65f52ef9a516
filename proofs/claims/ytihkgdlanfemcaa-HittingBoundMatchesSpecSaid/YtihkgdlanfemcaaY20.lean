/-
  hittingExample: what it returns.
-/
import Derived.Test.YtihkgdlanfemcaaY14
import Derived.Test.YtihkgdlanfemcaaY11
import Derived.Test.YtihkgdlanfemcaaY10
import Derived.Test.YtihkgdlanfemcaaY5
import Derived.Test.YtihkgdlanfemcaaY2
import Derived.Test.YtihkgdlanfemcaaY15
import Derived.Test.YtihkgdlanfemcaaY19
namespace Go.Proofs.Ytihkgdlanfemcaa
open Go.RowKit
set_option linter.unusedVariables false
set_option linter.unusedSimpArgs false

theorem ints_three {w : World} {g : Nat} {x y z : Int} (h0 : w.cell? ⟨g, 0, none⟩ = some (.int .i64 x)) (h1 : w.cell? ⟨g, 1, none⟩ = some (.int .i64 y)) (h2 : w.cell? ⟨g, 2, none⟩ = some (.int .i64 z)) : Ints w (some ⟨g, 0, none⟩) [x, y, z] := fun j u hu => by
  match j, hu with
  | 0, hu => simp at hu; subst hu; exact ⟨_, rfl, h0⟩
  | 1, hu => simp at hu; subst hu; exact ⟨_, rfl, h1⟩
  | 2, hu => simp at hu; subst hu; exact ⟨_, rfl, h2⟩
  | j + 3, hu => simp at hu
theorem llr_two {w : World} {g c d : Nat} {a b : List Int} {A B : Option Addr} (h0 : w.cell? ⟨g, 0, none⟩ = some (.slice A a.length c)) (h1 : w.cell? ⟨g, 1, none⟩ = some (.slice B b.length d)) (hA : Ints w A a) (hB : Ints w B b) : LLR w (some ⟨g, 0, none⟩) [a, b] := fun i r hr => by
  match i, hr with
  | 0, hr => cases hr; exact ⟨_, A, c, rfl, h0, hA⟩
  | 1, hr => cases hr; exact ⟨_, B, d, rfl, h1, hB⟩
  | i + 2, hr => simp at hr
theorem hex_ok : HOk [[0, 1], [1, 2]] [1, 3, 1] := by
  refine ⟨by decide, by decide, fun c hc => ?_, fun s hs => ?_⟩
  · simp only [List.mem_cons, List.not_mem_nil, or_false] at hc
    omega
  · simp only [List.mem_cons, List.not_mem_nil, or_false] at hs
    rcases hs with rfl | rfl
    · exact ⟨by decide, SetP.of_pairwise (by simp) (by simp)⟩
    · exact ⟨by decide, SetP.of_pairwise (by simp) (by simp)⟩
theorem hex_least : Least (costW [1, 3, 1]) (AllHit [[0, 1], [1, 2]] (2 ^ 3)) 2 5 := by
  refine ⟨⟨by decide, fun s hs => ?_⟩, by decide, fun v hv => ?_⟩
  · simp only [List.mem_cons, List.not_mem_nil, or_false] at hs
    rcases hs with rfl | rfl
    · exact ⟨0, by simp, by decide⟩
    · exact ⟨2, by simp, by decide⟩
  · obtain ⟨h1, h2⟩ := hv
    have a1 := h2 [0, 1] (by simp)
    have a2 := h2 [1, 2] (by simp)
    have key : ∀ v : Nat, v < 8 → (¬ (v.testBit 0 = true ∨ v.testBit 1 = true)) ∨ (¬ (v.testBit 1 = true ∨ v.testBit 2 = true)) ∨ costW [1, 3, 1] 5 < costW [1, 3, 1] v ∨ (costW [1, 3, 1] 5 = costW [1, 3, 1] v ∧ 5 ≤ v) := by decide
    rcases key v h1 with h | h | h
    · exfalso
      obtain ⟨e, he, hb⟩ := a1
      simp only [List.mem_cons, List.not_mem_nil, or_false] at he
      have : e = 0 ∨ e = 1 := by omega
      rcases this with rfl | rfl
      · exact h (.inl hb)
      · exact h (.inr hb)
    · exfalso
      obtain ⟨e, he, hb⟩ := a2
      simp only [List.mem_cons, List.not_mem_nil, or_false] at he
      have : e = 1 ∨ e = 2 := by omega
      rcases this with rfl | rfl
      · exact h (.inl hb)
      · exact h (.inr hb)
    · exact h
theorem hbest_ex (w : World) (g h : Nat) (hL : LLR w (some ⟨g, 0, none⟩) [[0, 1], [1, 2]]) (hC : Ints w (some ⟨h, 0, none⟩) [1, 3, 1]) :
    Calls Try.prog 49 #[.slice (some ⟨g, 0, none⟩) 2 2, .slice (some ⟨h, 0, none⟩) 3 3] w fun e w' => ∃ A c, e = .returned (.tuple #[.slice A 2 c, .int .i64 2, .agg #[.int .i64 0, .int .i64 0]]) ∧ Ints w' A [0, 2] ∧ Below w.heap.size w w' := by
  refine (hBest_2 w (some ⟨g, 0, none⟩) 2 [[0, 1], [1, 2]] hL (fun s hs => by simp at hs; rcases hs with rfl | rfl <;> simp) (by simp) (some ⟨h, 0, none⟩) 3 [1, 3, 1] hC (by simp) hex_ok).mono ?_
  rintro e w' ⟨A, k, c, v, rfl, hl, ho, hB⟩
  obtain ⟨rfl, rfl⟩ := hl.uniq hex_least
  have e1 : bitsL ([1, 3, 1] : List Int).length 5 = [0, 2] := by decide
  rw [e1] at ho ⊢
  obtain ⟨A', c', e2, _, hI⟩ := ho.form
  injection e2 with e2 e3 e4
  subst e2
  exact ⟨A, k, rfl, hI, hB⟩
theorem bound_chain (w : World) (g h : Nat) (hT : TaskMem w none (some ⟨g, 0, none⟩) (some ⟨h, 0, none⟩) chainV) :
    Calls Try.prog 54 #[.agg #[.int .i64 2, .slice none 0 0, .slice (some ⟨g, 0, none⟩) 1 1, .slice (some ⟨h, 0, none⟩) 2 2], .slice none 0 0] w fun e w' => e = .returned (.tuple #[.int .i64 5, .agg #[.int .i64 0, .int .i64 0]]) ∧ Below w.heap.size w w' := by
  have hv := chain_valid
  have hg : GoalR chainV [] := fun q hq => by
    simp [chainV] at hq; subst hq
    exact .step (i := 1) (o := ⟨[0], [1], [], 3⟩) rfl rfl (fun x hx => by simp at hx; subst hx; exact .step (i := 0) (o := ⟨[], [0], [], 2⟩) rfl rfl (by simp) (by simp)) (by simp)
  refine (bound_yes w chainV none (some ⟨g, 0, none⟩) (some ⟨h, 0, none⟩) 0 1 2 hT none 0 [] (Ints.nil _ _) (by simp [lenOk]) 2 rfl chain_valid (SetP.nil _) hg).mono ?_
  rintro e w' ⟨xs, hok, _, hz, hx, hB⟩
  have hfew := chain_few hok
  rcases hx with ⟨h, _⟩ | ⟨_, c, v, rfl, hc⟩
  · exact absurd h hfew
  · have h1 := bound_low hv hok hc
    have h2 := chain_total hok hz
    have hd : RBest 2 (chainV.ops.map rxO) chainV.goal [] (rdist 2 (chainV.ops.map rxO) chainV.goal []) := rdist_spec (rx_cost (fun o ho => (hv.ops o ho).2.1)) _ _
    have h3 := bound_high hv hok (by omega) hc hd
    have h4 := chain_best hd
    have : c = 5 := by omega
    subst this
    exact ⟨rfl, hB⟩
set_option maxRecDepth 100000 in
set_option maxHeartbeats 2000000 in
theorem hexample_any (w : World)  :
    Calls Try.prog 48 #[] w fun e w' => e = .returned (.bool true) ∧ Below w.heap.size w w' := by
  go_enter Try.func48, Try.ntmps48
  go_wp2_with fail
  refine (hbest_ex _ _ _ (llr_two (A := some ⟨w.heap.size, 0, none⟩) (B := some ⟨w.heap.size + 1, 0, none⟩) (c := 2) (d := 2) (by simp [go_sem]) (by simp [go_sem]) (ints_two (by simp [go_sem]) (by simp [go_sem])) (ints_two (by simp [go_sem]) (by simp [go_sem]))) (ints_three (by simp [go_sem]) (by simp [go_sem]) (by simp [go_sem]))).mono ?_
  rintro e w1 ⟨A1, c1, rfl, hI1, hB1⟩
  have D1 := dstep w hB1 (by repeat (first | with_reducible exact Below.refl _ _ | with_reducible apply bdrew | with_reducible apply bdrewN | with_reducible apply balloc | ((with_reducible refine bset ?_ ?_ _); rotate_left; (first | omega | (simp <;> omega)))))
  have d1s := D1.size
  go_wp2_with fail
  refine (two_yes _).mono ?_
  rintro e w2 ⟨g2, h2, rfl, hT2, hB2⟩
  have D2 := dstep w hB2 (by repeat (first | with_reducible exact D1 | with_reducible apply bdrew | with_reducible apply bdrewN | with_reducible apply balloc | ((with_reducible refine bset ?_ ?_ _); rotate_left; (first | omega | (simp <;> omega)))))
  have d2s := D2.size
  have Ew1_2 := dstep w1 hB2 (by repeat (first | with_reducible exact Below.refl _ _ | with_reducible apply bdrew | with_reducible apply bdrewN | with_reducible apply balloc | ((with_reducible refine bset ?_ ?_ _); rotate_left; (first | omega | (simp <;> omega)))))
  have C2 := Cls.below (l := [(w1.heap.size, 0, .int .i64 0), (w1.heap.size, 1, .int .i64 0)]) hB2 (by simp [Cls, go_sem])
  have F2 := C2
  simp only [Cls, and_true] at F2
  have y2w10 : w1.heap.size < w2.heap.size := C2.blk (b := w1.heap.size) (k := 0) (v := .int .i64 0) (by simp)
  have y2w1p1 : w1.heap.size < w2.heap.size + 1 := (by omega)
  have y2w1p2 : w1.heap.size < w2.heap.size + 1 + 1 := (by omega)
  go_wp2_with fail
  refine (bound_chain _ _ _ (hT2.below (by repeat (first | with_reducible exact Below.refl _ _ | with_reducible apply bdrew | with_reducible apply bdrewN | with_reducible apply balloc | ((with_reducible refine bset ?_ ?_ _); rotate_left; (first | omega | (simp <;> omega))))))).mono ?_
  rintro e w3 ⟨rfl, hB3⟩
  have D3 := dstep w hB3 (by repeat (first | with_reducible exact D2 | with_reducible apply bdrew | with_reducible apply bdrewN | with_reducible apply balloc | ((with_reducible refine bset ?_ ?_ _); rotate_left; (first | omega | (simp <;> omega)))))
  have d3s := D3.size
  have Ew1_3 := dstep w1 hB3 (by repeat (first | with_reducible exact Ew1_2 | with_reducible apply bdrew | with_reducible apply bdrewN | with_reducible apply balloc | ((with_reducible refine bset ?_ ?_ _); rotate_left; (first | omega | (simp <;> omega)))))
  have C3 := Cls.below (l := [(w1.heap.size, 0, .int .i64 0), (w1.heap.size, 1, .int .i64 0)]) hB3 (by simp [Cls, go_sem, F2, y2w10, y2w1p1, y2w1p2])
  have F3 := C3
  simp only [Cls, and_true] at F3
  have y3w10 : w1.heap.size < w3.heap.size := C3.blk (b := w1.heap.size) (k := 0) (v := .int .i64 0) (by simp)
  have y3w1p1 : w1.heap.size < w3.heap.size + 1 := (by omega)
  have y3w1p2 : w1.heap.size < w3.heap.size + 1 + 1 := (by omega)
  go_wp2_with fail
  refine (ints_at _ _ _ _ 2 [0, 2] [0, 2] _ (hI1.below (by repeat (first | with_reducible exact Ew1_3 | with_reducible apply bdrew | with_reducible apply bdrewN | with_reducible apply balloc | ((with_reducible refine bset ?_ ?_ _); rotate_left; (first | omega | (simp <;> omega)))))) (ints_two (by simp [go_sem]) (by simp [go_sem])) rfl rfl (by omega) true (by simp)).mono ?_
  rintro e w4 ⟨rfl, hB4⟩
  have D4 := dstep w hB4 (by repeat (first | with_reducible exact D3 | with_reducible apply bdrew | with_reducible apply bdrewN | with_reducible apply balloc | ((with_reducible refine bset ?_ ?_ _); rotate_left; (first | omega | (simp <;> omega)))))
  have d4s := D4.size
  have Ew1_4 := dstep w1 hB4 (by repeat (first | with_reducible exact Ew1_3 | with_reducible apply bdrew | with_reducible apply bdrewN | with_reducible apply balloc | ((with_reducible refine bset ?_ ?_ _); rotate_left; (first | omega | (simp <;> omega)))))
  have C4 := Cls.below (l := [(w1.heap.size, 0, .int .i64 0), (w1.heap.size, 1, .int .i64 0), (w3.heap.size, 0, .int .i64 0), (w3.heap.size, 1, .int .i64 0)]) hB4 (by simp [Cls, go_sem, F3, y3w10, y3w1p1, y3w1p2])
  have F4 := C4
  simp only [Cls, and_true] at F4
  have y4w10 : w1.heap.size < w4.heap.size := C4.blk (b := w1.heap.size) (k := 0) (v := .int .i64 0) (by simp)
  have y4w1p1 : w1.heap.size < w4.heap.size + 1 := (by omega)
  have y4w1p2 : w1.heap.size < w4.heap.size + 1 + 1 := (by omega)
  have y4w30 : w3.heap.size < w4.heap.size := C4.blk (b := w3.heap.size) (k := 0) (v := .int .i64 0) (by simp)
  have y4w3p1 : w3.heap.size < w4.heap.size + 1 := (by omega)
  have y4w3p2 : w3.heap.size < w4.heap.size + 1 + 1 := (by omega)
  go_wp2
  go_ret
  exact ⟨rfl, by repeat (first | with_reducible exact D4 | with_reducible apply bdrew | with_reducible apply bdrewN | with_reducible apply balloc | ((with_reducible refine bset ?_ ?_ _); rotate_left; (first | omega | (simp <;> omega))))⟩


end Go.Proofs.Ytihkgdlanfemcaa
