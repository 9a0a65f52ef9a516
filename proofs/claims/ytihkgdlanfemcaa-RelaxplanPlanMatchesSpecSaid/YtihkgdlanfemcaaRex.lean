/-
  relaxplanExample: what it returns.
-/
import Derived.Test.YtihkgdlanfemcaaPl2
import Derived.Test.YtihkgdlanfemcaaRb3
import Derived.Test.YtihkgdlanfemcaaMH
import Derived.Test.YtihkgdlanfemcaaRxd
namespace Go.Proofs.Ytihkgdlanfemcaa
open Go.RowKit
set_option linter.unusedVariables false
set_option linter.unusedSimpArgs false

theorem chain_levs : Levs 2 [] chainV.ops [1, 2] := by
  have h10 : layP [] chainV.ops 1 0 := .inr ⟨⟨[], [0], [], 2⟩, by simp [chainV], by simp, by simp⟩
  have h21 : layP [] chainV.ops 2 1 := .inr ⟨⟨[0], [1], [], 3⟩, by simp [chainV], fun q hq => by simp at hq; subst hq; exact h10, by simp⟩
  have h0 : ∀ p, ¬ layP [] chainV.ops 0 p := fun p h => by simp [layP] at h
  have h11 : ¬ layP [] chainV.ops 1 1 := by
    rintro (h | ⟨o, ho, hq, hp⟩)
    · exact h0 _ h
    · simp only [chainV, List.mem_cons, List.not_mem_nil, or_false] at ho
      rcases ho with rfl | rfl
      · simp at hp
      · exact h0 _ (hq 0 (by simp))
  refine ⟨rfl, fun p hp => ?_⟩
  have hp2 : p = 0 ∨ p = 1 := by omega
  rcases hp2 with rfl | rfl
  · exact .inr ⟨1, rfl, by omega, h10, fun j hj => by
      obtain rfl : j = 0 := by omega
      exact h0 _⟩
  · exact .inr ⟨2, rfl, by omega, h21, fun j hj => by
      have : j = 0 ∨ j = 1 := by omega
      rcases this with rfl | rfl
      · exact h0 _
      · exact h11⟩
theorem chain_lev : levV 2 [] chainV.ops = [1, 2] := chain_levs.eq.symm
theorem chain_sup : supL 2 [1, 2] chainV.ops = [0, 1] := by decide
theorem chain_plan : planTo [1, 2] chainV.ops 2 chainV.goal = [0, 1] := by decide
theorem chain_low {l : List Int} {c : Int} (h : Cst 2 (chainV.ops.map rxO) [] l c) : 0 ≤ c ∧ (0 ∈ l → 2 ≤ c) ∧ (1 ∈ l → 5 ≤ c) := by
  induction h with
  | init => simp
  | @step l c p o _ hp hq ih =>
    match p, hp with
    | 0, hp =>
      obtain rfl : (⟨[], [0], [], 2⟩ : OpV) = o := by simpa [chainV, rxO] using hp
      refine ⟨by dsimp only; omega, fun _ => by dsimp only; omega, fun h => ?_⟩
      have h1 := (nextV_mem.1 h).2
      simp at h1
      have := ih.2.2 h1
      dsimp only; omega
    | 1, hp =>
      obtain rfl : (⟨[0], [1], [], 3⟩ : OpV) = o := by simpa [chainV, rxO] using hp
      have := ih.2.1 (hq 0 (by simp))
      exact ⟨by dsimp only; omega, fun _ => by dsimp only; omega, fun _ => by dsimp only; omega⟩
    | p + 2, hp => simp [chainV] at hp
theorem chain_best {d : Int} (h : RBest 2 (chainV.ops.map rxO) chainV.goal [] d) : d = 5 := by
  have h1 := Cst.step (n := 2) (p := 0) (o := ⟨[], [0], [], 2⟩) (.init : Cst 2 (chainV.ops.map rxO) [] [] 0) rfl (by simp)
  have h2 := Cst.step (n := 2) (p := 1) (o := ⟨[0], [1], [], 3⟩) h1 rfl (fun q hq => by simp at hq; subst hq; exact nextV_mem.2 ⟨by omega, .inl (by simp)⟩)
  have h3 := h.2.2 _ _ h2 (fun q hq => by simp [chainV] at hq; subst hq; exact nextV_mem.2 ⟨by omega, .inl (by simp)⟩)
  rcases h.1 with e | ⟨l, h4, h5⟩
  · simp at h3; omega
  · have := (chain_low h4).2.2 (h5 1 (by simp [chainV]))
    simp at h3; omega
/-- No more states are reached than there are sets of facts. -/
theorem few_states {n : Nat} {ops : List OpV} {st : List Int} {ls : List (List Int)} (hst : SetP st (n : Int)) (hn : ls.Nodup) (hr : ∀ l ∈ ls, Rch n ops st l) : ls.length ≤ 2 ^ n := by
  have hset : ∀ l ∈ ls, SetP l (n : Int) := fun l hl => by
    have h := hr l hl
    cases h with
    | init => exact hst
    | step _ _ _ => exact nextV_set n _ _
  have h1 : (ls.map wordV).Nodup := by
    refine List.pairwise_map.2 (List.Pairwise.imp_of_mem (fun {a b} ha hb hab => ?_) hn)
    exact fun e => hab (word_inj (hset a ha) (hset b hb) e)
  have h2 := nodup_len (m := 2 ^ n) h1 (fun x hx => by
    obtain ⟨l, hl, rfl⟩ := List.mem_map.1 hx
    have h3 := wordV_lt n (hset l hl).nodup (hset l hl).1
    have h4 := wordV_nn l
    have h5 : ((2 ^ n : Nat) : Int) = 2 ^ n := by simp
    omega)
  simpa using h2
theorem RBOut.small {n : Nat} {ops : List OpV} {goal st : List Int} {d c j : Int} (h : RBOut n ops goal st d c j) (hst : SetP st (n : Int)) (hn : n ≤ 10) : (c = 0 ∧ j = 0) ∧ RBest n ops goal st d := by
  rcases h with ⟨h1, h2, _⟩ | ⟨_, ls, h1, h2, h3⟩
  · exact ⟨h1, h2⟩
  · have h4 := few_states hst h1 h3
    have h5 : 2 ^ n ≤ 2 ^ 10 := Nat.pow_le_pow_right (by decide) hn
    have h6 : (2 : Nat) ^ 10 = 1024 := by decide
    omega
theorem plan_chain (w : World) (g h : Nat) (hT : TaskMem w none (some ⟨g, 0, none⟩) (some ⟨h, 0, none⟩) chainV) :
    Calls Try.prog 29 #[.agg #[.int .i64 2, .slice none 0 0, .slice (some ⟨g, 0, none⟩) 1 1, .slice (some ⟨h, 0, none⟩) 2 2], .slice none 0 0] w fun e w' => ∃ A c, e = .returned (.tuple #[.slice A 2 c, .bool true, .agg #[.int .i64 0, .int .i64 0]]) ∧ Ints w' A [0, 1] ∧ Below w.heap.size w w' := by
  refine (plan_2 w chainV none (some ⟨g, 0, none⟩) (some ⟨h, 0, none⟩) 0 1 2 hT none 0 [] (Ints.nil _ _) (by simp [lenOk]) 2 rfl chain_valid (SetP.nil _)).mono ?_
  rintro e w' ⟨v, ok, rfl, hok, ho, hB⟩
  rw [show levV 2 [] chainV.ops = [1, 2] from chain_lev] at hok ho
  obtain rfl : ok = true := hok.2 (by decide)
  rw [if_pos rfl, chain_plan] at ho
  obtain ⟨A, c, rfl, _, hI⟩ := ho.form
  exact ⟨A, c, rfl, hI, hB⟩
theorem best_chain (w : World) (g h : Nat) (hT : TaskMem w none (some ⟨g, 0, none⟩) (some ⟨h, 0, none⟩) chainV) :
    Calls Try.prog 34 #[.agg #[.int .i64 2, .slice none 0 0, .slice (some ⟨g, 0, none⟩) 1 1, .slice (some ⟨h, 0, none⟩) 2 2], .slice none 0 0] w fun e w' => e = .returned (.tuple #[.int .i64 5, .agg #[.int .i64 0, .int .i64 0]]) ∧ Below w.heap.size w w' := by
  refine (rbest_2 w chainV none (some ⟨g, 0, none⟩) (some ⟨h, 0, none⟩) 0 1 2 hT none 0 [] (Ints.nil _ _) (by simp [lenOk]) 2 rfl chain_valid (SetP.nil _)).mono ?_
  rintro e w' ⟨d, c, j, rfl, hr, hB⟩
  obtain ⟨⟨rfl, rfl⟩, h2⟩ := hr.small (SetP.nil _) (by omega)
  rw [chain_best h2]
  exact ⟨rfl, hB⟩
theorem supps_chain (w : World) (g h : Nat) (hT : TaskMem w none (some ⟨g, 0, none⟩) (some ⟨h, 0, none⟩) chainV) :
    Calls Try.prog 28 #[.agg #[.int .i64 2, .slice none 0 0, .slice (some ⟨g, 0, none⟩) 1 1, .slice (some ⟨h, 0, none⟩) 2 2], .slice none 0 0] w fun e w' => ∃ k, e = .returned (.tuple #[.slice (some ⟨k, 0, none⟩) 2 2, .agg #[.int .i64 0, .int .i64 0]]) ∧ IArr w' k [0, 1] ∧ Below w.heap.size w w' := by
  refine (supps_2 w chainV none (some ⟨g, 0, none⟩) (some ⟨h, 0, none⟩) 0 1 2 hT none 0 [] (Ints.nil _ _) (by simp [lenOk]) 2 rfl chain_valid (SetP.nil _)).mono ?_
  rintro e w' ⟨k, rfl, _, hA, _, hB⟩
  rw [show levV 2 [] chainV.ops = [1, 2] from chain_lev, chain_sup] at hA
  exact ⟨k, rfl, hA, hB⟩
set_option maxRecDepth 100000 in
set_option maxHeartbeats 2000000 in
theorem pxexample_any (w : World)  :
    Calls Try.prog 27 #[] w fun e w' => e = .returned (.bool true) ∧ Below w.heap.size w w' := by
  go_enter Try.func27, Try.ntmps27
  go_wp2_with fail
  refine (two_yes _).mono ?_
  rintro e w1 ⟨g1, h1, rfl, hT1, hB1⟩
  have D1 := dstep w hB1 (by repeat (first | with_reducible exact Below.refl _ _ | with_reducible apply bdrew | with_reducible apply bdrewN | with_reducible apply balloc | ((with_reducible refine bset ?_ ?_ _); rotate_left; (first | omega | (simp <;> omega)))))
  have d1s := D1.size
  go_wp2_with fail
  refine (plan_chain _ _ _ (hT1.below (by repeat (first | with_reducible exact Below.refl _ _ | with_reducible apply bdrew | with_reducible apply bdrewN | with_reducible apply balloc | ((with_reducible refine bset ?_ ?_ _); rotate_left; (first | omega | (simp <;> omega))))))).mono ?_
  rintro e w2 ⟨A2, c2, rfl, hI2, hB2⟩
  have D2 := dstep w hB2 (by repeat (first | with_reducible exact D1 | with_reducible apply bdrew | with_reducible apply bdrewN | with_reducible apply balloc | ((with_reducible refine bset ?_ ?_ _); rotate_left; (first | omega | (simp <;> omega)))))
  have d2s := D2.size
  go_wp2_with fail
  refine (two_yes _).mono ?_
  rintro e w3 ⟨g3, h3, rfl, hT3, hB3⟩
  have D3 := dstep w hB3 (by repeat (first | with_reducible exact D2 | with_reducible apply bdrew | with_reducible apply bdrewN | with_reducible apply balloc | ((with_reducible refine bset ?_ ?_ _); rotate_left; (first | omega | (simp <;> omega)))))
  have d3s := D3.size
  have Ew2_3 := dstep w2 hB3 (by repeat (first | with_reducible exact Below.refl _ _ | with_reducible apply bdrew | with_reducible apply bdrewN | with_reducible apply balloc | ((with_reducible refine bset ?_ ?_ _); rotate_left; (first | omega | (simp <;> omega)))))
  have C3 := Cls.below (l := [(w2.heap.size, 0, .int .i64 0), (w2.heap.size, 1, .int .i64 0)]) hB3 (by simp [Cls, go_sem])
  have F3 := C3
  simp only [Cls, and_true] at F3
  have y3w20 : w2.heap.size < w3.heap.size := C3.blk (b := w2.heap.size) (k := 0) (v := .int .i64 0) (by simp)
  have y3w2p1 : w2.heap.size < w3.heap.size + 1 := (by omega)
  have y3w2p2 : w2.heap.size < w3.heap.size + 1 + 1 := (by omega)
  go_wp2_with fail
  refine (best_chain _ _ _ (hT3.below (by repeat (first | with_reducible exact Below.refl _ _ | with_reducible apply bdrew | with_reducible apply bdrewN | with_reducible apply balloc | ((with_reducible refine bset ?_ ?_ _); rotate_left; (first | omega | (simp <;> omega))))))).mono ?_
  rintro e w4 ⟨rfl, hB4⟩
  have D4 := dstep w hB4 (by repeat (first | with_reducible exact D3 | with_reducible apply bdrew | with_reducible apply bdrewN | with_reducible apply balloc | ((with_reducible refine bset ?_ ?_ _); rotate_left; (first | omega | (simp <;> omega)))))
  have d4s := D4.size
  have Ew2_4 := dstep w2 hB4 (by repeat (first | with_reducible exact Ew2_3 | with_reducible apply bdrew | with_reducible apply bdrewN | with_reducible apply balloc | ((with_reducible refine bset ?_ ?_ _); rotate_left; (first | omega | (simp <;> omega)))))
  have C4 := Cls.below (l := [(w2.heap.size, 0, .int .i64 0), (w2.heap.size, 1, .int .i64 0)]) hB4 (by simp [Cls, go_sem, F3, y3w20, y3w2p1, y3w2p2])
  have F4 := C4
  simp only [Cls, and_true] at F4
  have y4w20 : w2.heap.size < w4.heap.size := C4.blk (b := w2.heap.size) (k := 0) (v := .int .i64 0) (by simp)
  have y4w2p1 : w2.heap.size < w4.heap.size + 1 := (by omega)
  have y4w2p2 : w2.heap.size < w4.heap.size + 1 + 1 := (by omega)
  go_wp2_with fail
  refine (two_yes _).mono ?_
  rintro e w5 ⟨g5, h5, rfl, hT5, hB5⟩
  have D5 := dstep w hB5 (by repeat (first | with_reducible exact D4 | with_reducible apply bdrew | with_reducible apply bdrewN | with_reducible apply balloc | ((with_reducible refine bset ?_ ?_ _); rotate_left; (first | omega | (simp <;> omega)))))
  have d5s := D5.size
  have Ew2_5 := dstep w2 hB5 (by repeat (first | with_reducible exact Ew2_4 | with_reducible apply bdrew | with_reducible apply bdrewN | with_reducible apply balloc | ((with_reducible refine bset ?_ ?_ _); rotate_left; (first | omega | (simp <;> omega)))))
  have C5 := Cls.below (l := [(w2.heap.size, 0, .int .i64 0), (w2.heap.size, 1, .int .i64 0), (w4.heap.size, 0, .int .i64 0), (w4.heap.size, 1, .int .i64 0)]) hB5 (by simp [Cls, go_sem, F4, y4w20, y4w2p1, y4w2p2])
  have F5 := C5
  simp only [Cls, and_true] at F5
  have y5w20 : w2.heap.size < w5.heap.size := C5.blk (b := w2.heap.size) (k := 0) (v := .int .i64 0) (by simp)
  have y5w2p1 : w2.heap.size < w5.heap.size + 1 := (by omega)
  have y5w2p2 : w2.heap.size < w5.heap.size + 1 + 1 := (by omega)
  have y5w40 : w4.heap.size < w5.heap.size := C5.blk (b := w4.heap.size) (k := 0) (v := .int .i64 0) (by simp)
  have y5w4p1 : w4.heap.size < w5.heap.size + 1 := (by omega)
  have y5w4p2 : w4.heap.size < w5.heap.size + 1 + 1 := (by omega)
  go_wp2_with fail
  refine (supps_chain _ _ _ (hT5.below (by repeat (first | with_reducible exact Below.refl _ _ | with_reducible apply bdrew | with_reducible apply bdrewN | with_reducible apply balloc | ((with_reducible refine bset ?_ ?_ _); rotate_left; (first | omega | (simp <;> omega))))))).mono ?_
  rintro e w6 ⟨k6, rfl, hA6, hB6⟩
  have D6 := dstep w hB6 (by repeat (first | with_reducible exact D5 | with_reducible apply bdrew | with_reducible apply bdrewN | with_reducible apply balloc | ((with_reducible refine bset ?_ ?_ _); rotate_left; (first | omega | (simp <;> omega)))))
  have d6s := D6.size
  have Ew2_6 := dstep w2 hB6 (by repeat (first | with_reducible exact Ew2_5 | with_reducible apply bdrew | with_reducible apply bdrewN | with_reducible apply balloc | ((with_reducible refine bset ?_ ?_ _); rotate_left; (first | omega | (simp <;> omega)))))
  have C6 := Cls.below (l := [(w2.heap.size, 0, .int .i64 0), (w2.heap.size, 1, .int .i64 0), (w4.heap.size, 0, .int .i64 0), (w4.heap.size, 1, .int .i64 0)]) hB6 (by simp [Cls, go_sem, F5, y5w20, y5w2p1, y5w2p2, y5w40, y5w4p1, y5w4p2])
  have F6 := C6
  simp only [Cls, and_true] at F6
  have y6w20 : w2.heap.size < w6.heap.size := C6.blk (b := w2.heap.size) (k := 0) (v := .int .i64 0) (by simp)
  have y6w2p1 : w2.heap.size < w6.heap.size + 1 := (by omega)
  have y6w2p2 : w2.heap.size < w6.heap.size + 1 + 1 := (by omega)
  have y6w40 : w4.heap.size < w6.heap.size := C6.blk (b := w4.heap.size) (k := 0) (v := .int .i64 0) (by simp)
  have y6w4p1 : w4.heap.size < w6.heap.size + 1 := (by omega)
  have y6w4p2 : w4.heap.size < w6.heap.size + 1 + 1 := (by omega)
  go_wp2_with fail
  refine (ints_at _ _ _ _ 2 [0, 1] [0, 1] _ (hI2.below (by repeat (first | with_reducible exact Ew2_6 | with_reducible apply bdrew | with_reducible apply bdrewN | with_reducible apply balloc | ((with_reducible refine bset ?_ ?_ _); rotate_left; (first | omega | (simp <;> omega)))))) (ints_two (by simp [go_sem]) (by simp [go_sem])) rfl rfl (by omega) true (by simp)).mono ?_
  rintro e w7 ⟨rfl, hB7⟩
  have D7 := dstep w hB7 (by repeat (first | with_reducible exact D6 | with_reducible apply bdrew | with_reducible apply bdrewN | with_reducible apply balloc | ((with_reducible refine bset ?_ ?_ _); rotate_left; (first | omega | (simp <;> omega)))))
  have d7s := D7.size
  have Ew2_7 := dstep w2 hB7 (by repeat (first | with_reducible exact Ew2_6 | with_reducible apply bdrew | with_reducible apply bdrewN | with_reducible apply balloc | ((with_reducible refine bset ?_ ?_ _); rotate_left; (first | omega | (simp <;> omega)))))
  have Ew6_7 := dstep w6 hB7 (by repeat (first | with_reducible exact Below.refl _ _ | with_reducible apply bdrew | with_reducible apply bdrewN | with_reducible apply balloc | ((with_reducible refine bset ?_ ?_ _); rotate_left; (first | omega | (simp <;> omega)))))
  have C7 := Cls.below (l := [(w2.heap.size, 0, .int .i64 0), (w2.heap.size, 1, .int .i64 0), (w4.heap.size, 0, .int .i64 0), (w4.heap.size, 1, .int .i64 0), (w6.heap.size, 0, .int .i64 0), (w6.heap.size, 1, .int .i64 0)]) hB7 (by simp [Cls, go_sem, F6, y6w20, y6w2p1, y6w2p2, y6w40, y6w4p1, y6w4p2])
  have F7 := C7
  simp only [Cls, and_true] at F7
  have y7w20 : w2.heap.size < w7.heap.size := C7.blk (b := w2.heap.size) (k := 0) (v := .int .i64 0) (by simp)
  have y7w2p1 : w2.heap.size < w7.heap.size + 1 := (by omega)
  have y7w2p2 : w2.heap.size < w7.heap.size + 1 + 1 := (by omega)
  have y7w40 : w4.heap.size < w7.heap.size := C7.blk (b := w4.heap.size) (k := 0) (v := .int .i64 0) (by simp)
  have y7w4p1 : w4.heap.size < w7.heap.size + 1 := (by omega)
  have y7w4p2 : w4.heap.size < w7.heap.size + 1 + 1 := (by omega)
  have y7w60 : w6.heap.size < w7.heap.size := C7.blk (b := w6.heap.size) (k := 0) (v := .int .i64 0) (by simp)
  have y7w6p1 : w6.heap.size < w7.heap.size + 1 := (by omega)
  have y7w6p2 : w6.heap.size < w7.heap.size + 1 + 1 := (by omega)
  go_wp2_with fail
  refine (ints_at _ _ _ _ 2 [0, 1] [0, 1] _ ((hA6.below (by repeat (first | with_reducible exact Ew6_7 | with_reducible apply bdrew | with_reducible apply bdrewN | with_reducible apply balloc | ((with_reducible refine bset ?_ ?_ _); rotate_left; (first | omega | (simp <;> omega)))))).ints) (ints_two (by simp [go_sem]) (by simp [go_sem])) rfl rfl (by omega) true (by simp)).mono ?_
  rintro e w8 ⟨rfl, hB8⟩
  have D8 := dstep w hB8 (by repeat (first | with_reducible exact D7 | with_reducible apply bdrew | with_reducible apply bdrewN | with_reducible apply balloc | ((with_reducible refine bset ?_ ?_ _); rotate_left; (first | omega | (simp <;> omega)))))
  have d8s := D8.size
  have Ew2_8 := dstep w2 hB8 (by repeat (first | with_reducible exact Ew2_7 | with_reducible apply bdrew | with_reducible apply bdrewN | with_reducible apply balloc | ((with_reducible refine bset ?_ ?_ _); rotate_left; (first | omega | (simp <;> omega)))))
  have Ew6_8 := dstep w6 hB8 (by repeat (first | with_reducible exact Ew6_7 | with_reducible apply bdrew | with_reducible apply bdrewN | with_reducible apply balloc | ((with_reducible refine bset ?_ ?_ _); rotate_left; (first | omega | (simp <;> omega)))))
  have C8 := Cls.below (l := [(w2.heap.size, 0, .int .i64 0), (w2.heap.size, 1, .int .i64 0), (w4.heap.size, 0, .int .i64 0), (w4.heap.size, 1, .int .i64 0), (w6.heap.size, 0, .int .i64 0), (w6.heap.size, 1, .int .i64 0)]) hB8 (by simp [Cls, go_sem, F7, y7w20, y7w2p1, y7w2p2, y7w40, y7w4p1, y7w4p2, y7w60, y7w6p1, y7w6p2])
  have F8 := C8
  simp only [Cls, and_true] at F8
  have y8w20 : w2.heap.size < w8.heap.size := C8.blk (b := w2.heap.size) (k := 0) (v := .int .i64 0) (by simp)
  have y8w2p1 : w2.heap.size < w8.heap.size + 1 := (by omega)
  have y8w2p2 : w2.heap.size < w8.heap.size + 1 + 1 := (by omega)
  have y8w40 : w4.heap.size < w8.heap.size := C8.blk (b := w4.heap.size) (k := 0) (v := .int .i64 0) (by simp)
  have y8w4p1 : w4.heap.size < w8.heap.size + 1 := (by omega)
  have y8w4p2 : w4.heap.size < w8.heap.size + 1 + 1 := (by omega)
  have y8w60 : w6.heap.size < w8.heap.size := C8.blk (b := w6.heap.size) (k := 0) (v := .int .i64 0) (by simp)
  have y8w6p1 : w6.heap.size < w8.heap.size + 1 := (by omega)
  have y8w6p2 : w6.heap.size < w8.heap.size + 1 + 1 := (by omega)
  go_wp2
  go_ret
  exact ⟨rfl, by repeat (first | with_reducible exact D8 | with_reducible apply bdrew | with_reducible apply bdrewN | with_reducible apply balloc | ((with_reducible refine bset ?_ ?_ _); rotate_left; (first | omega | (simp <;> omega))))⟩


end Go.Proofs.Ytihkgdlanfemcaa
