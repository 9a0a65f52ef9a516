/-
  two(true), landmarkExample: what they return.
-/
import Derived.Test.YtiaokmofoaeifaaLm5
import Derived.Test.YtiaokmofoaeifaaTrel11
namespace Go.Proofs.Ytiaokmofoaeifaa
open Go.RowKit
set_option linter.unusedVariables false
set_option linter.unusedSimpArgs false

set_option maxRecDepth 100000 in
set_option maxHeartbeats 1000000 in
theorem two_yes (w : World)  :
    Calls Try.prog 49 #[.bool true] w fun e w' => ∃ g h, e = .returned (.agg #[.int .i64 2, .slice none 0 0, .slice (some ⟨g, 0, none⟩) 1 1, .slice (some ⟨h, 0, none⟩) 2 2]) ∧ TaskMem w' none (some ⟨g, 0, none⟩) (some ⟨h, 0, none⟩) chainV ∧ Below w.heap.size w w' := by
  go_enter Try.func49, Try.ntmps49
  go_wp2
  refine bodyPost_ret (v := .agg #[.int .i64 2, .slice none 0 0, .slice (some ⟨w.heap.size + 1 + 1 + 1 + 1 + 1 + 1 + 1, 0, none⟩) 1 1, .slice (some ⟨w.heap.size + 1 + 1 + 1 + 1, 0, none⟩) 2 2]) ?_ rfl ⟨_, _, rfl, ?_, by repeat (first | with_reducible exact Below.refl _ _ | with_reducible apply bdrew | with_reducible apply bdrewN | with_reducible apply balloc | ((with_reducible refine bset ?_ ?_ _); rotate_left; (first | omega | (simp <;> omega))))⟩
  · simp [results, Try.results49, go_sem]
  · refine ⟨Ints.nil _ _, ints_one ?_, ops_two (A0 := none) (c0 := 0) (A1 := some ⟨w.heap.size + 1 + 1, 0, none⟩) (c1 := 1) (A2 := none) (c2 := 0) (B0 := some ⟨w.heap.size + 1 + 1 + 1 + 1 + 1 + 1, 0, none⟩) (d0 := 1) (B1 := some ⟨w.heap.size + 1 + 1 + 1, 0, none⟩) (d1 := 1) (B2 := none) (d2 := 0) ?_ ?_ ?_ ?_ ⟨Ints.nil _ _, ints_one ?_, Ints.nil _ _, by simp [lenOk], by simp [lenOk], by simp [lenOk]⟩ ?_ ?_ ?_ ?_ ⟨ints_one ?_, ints_one ?_, Ints.nil _ _, by simp [lenOk], by simp [lenOk], by simp [lenOk]⟩, by simp [lenOk, chainV], by simp [lenOk, chainV], by simp [lenOk, chainV]⟩
    all_goals simp [go_sem]

theorem eq_pair (a b c d : Int) (w : World) : (Op.equalIn 10000 54 (.agg #[.int .i64 a, .int .i64 b]) (.agg #[.int .i64 c, .int .i64 d])).run Try.prog w = .ok (a == c && b == d) w := by
  have u3 := Try.underlying3
  have a3 := Try.isAgg3
  have z3 := Try.sizeOf3
  rw [show (10000 : Nat) = 9999 + 1 from rfl, Op.equalIn]
  simp only [Sem.run_bind, run_underlying Try.underlying54, Result.andThen_ok]
  simp only [Std.Legacy.Range.forIn_eq_forIn_range', Std.Legacy.Range.size, Nat.sub_zero, Nat.add_sub_cancel, Nat.div_one, List.range'_succ, List.range'_zero, List.forIn_cons, List.forIn_nil]
  go_simp
  by_cases h1 : a = c <;> by_cases h2 : b = d <;> simp [h1, h2]
theorem chain_valid : Valid chainV := by
  refine ⟨by decide, by decide, SetP.nil _, ?_, by decide, ?_⟩
  · exact SetP.of_pairwise (by simp [chainV]) (by simp [chainV])
  · intro o ho
    simp only [chainV, List.mem_cons, List.not_mem_nil, or_false] at ho
    rcases ho with rfl | rfl
    · exact ⟨⟨SetP.nil _, SetP.of_pairwise (by simp [chainV]) (by simp), SetP.nil _, by simp⟩, by decide, by decide⟩
    · exact ⟨⟨SetP.of_pairwise (by simp [chainV]) (by simp), SetP.of_pairwise (by simp [chainV]) (by simp), SetP.nil _, by simp⟩, by decide, by decide⟩
theorem chain_no0 {q : Int} (h : Reach [] chainV.ops (useNot chainV.ops 0) q) : False := by
  induction h with
  | init h => simp at h
  | @step p i o ho hu hq hp ih =>
    match i with
    | 0 => cases ho; simp [useNot, chainV] at hu
    | 1 => cases ho; exact ih 0 (by simp)
    | i + 2 => simp [chainV] at ho
theorem chain_no1 {q : Int} (h : Reach [] chainV.ops (useNot chainV.ops 1) q) : q = 0 := by
  induction h with
  | init h => simp at h
  | @step p i o ho hu hq hp ih =>
    match i with
    | 0 => cases ho; simpa using hp
    | 1 => cases ho; simp [useNot, chainV] at hu
    | i + 2 => simp [chainV] at ho
theorem chain_yes1 : Reach [] chainV.ops (useNot chainV.ops 1) 0 := .step (i := 0) (o := ⟨[], [0], [], 2⟩) rfl (by simp [useNot, chainV]) (by simp) (by simp)
theorem chain_land : landV 2 chainV = [0, 1] := by
  refine SetP.ext landV_set (SetP.of_pairwise (n := 2) (by simp) (by simp)) fun x => ?_
  rw [landV_mem]
  constructor
  · rintro ⟨h0, h1, _⟩
    have : x = 0 ∨ x = 1 := by omega
    simpa using this
  · intro h
    have hx : x = 0 ∨ x = 1 := by simpa using h
    rcases hx with rfl | rfl
    · exact ⟨by decide, by decide, .inr fun h => chain_no0 (h 1 (by simp [chainV]))⟩
    · exact ⟨by decide, by decide, .inr fun h => by have := chain_no1 (h 1 (by simp [chainV])); omega⟩
theorem chain_ach : achV chainV 1 = [1] := by
  have h0 : ¬ AchP chainV 1 0 := fun ⟨o, h1, _, h3, _⟩ => by cases h1; simp at h3
  have h1 : AchP chainV 1 1 := ⟨_, rfl, by simp [chainV], by simp, fun q hq => by simp at hq; subst hq; exact chain_yes1⟩
  show achTo chainV 1 (1 + 1) = [1]
  rw [← achTo_yes h1, show (1 : Nat) = 0 + 1 from rfl, achTo_no h0]
  rfl
theorem chain_ord : ordV 2 chainV = [(0, 1)] := by
  unfold ordV
  rw [chain_land]
  have h01 : OrdP chainV 0 1 := ⟨by decide, fun h => chain_no0 h⟩
  have h00 : ¬ OrdP chainV 0 0 := fun h => h.1 rfl
  have h10 : ¬ OrdP chainV 1 0 := fun h => h.2 chain_yes1
  have h11 : ¬ OrdP chainV 1 1 := fun h => h.1 rfl
  have e : ∀ p : Int, ¬ p ∈ chainV.init := fun p => by simp [chainV]
  simp [ordRow, e, ordPart, h01, h00, h10, h11]
theorem lfacts_chain (w : World) (g h : Nat) (hT : TaskMem w none (some ⟨g, 0, none⟩) (some ⟨h, 0, none⟩) chainV) :
    Calls Try.prog 25 #[.agg #[.int .i64 2, .slice none 0 0, .slice (some ⟨g, 0, none⟩) 1 1, .slice (some ⟨h, 0, none⟩) 2 2]] w fun e w' => ∃ A c, e = .returned (.tuple #[.slice A 2 c, .agg #[.int .i64 0, .int .i64 0]]) ∧ Ints w' A [0, 1] ∧ Below w.heap.size w w' := by
  refine (lfacts_2 w chainV none (some ⟨g, 0, none⟩) (some ⟨h, 0, none⟩) 0 1 2 hT 2 rfl chain_valid).mono ?_
  rintro e w' ⟨v, rfl, ho, hB⟩
  rw [chain_land] at ho
  obtain ⟨A, c, rfl, _, hI⟩ := ho.form
  exact ⟨A, c, rfl, hI, hB⟩
theorem ach_chain (w : World) (g h : Nat) (hT : TaskMem w none (some ⟨g, 0, none⟩) (some ⟨h, 0, none⟩) chainV) :
    Calls Try.prog 43 #[.agg #[.int .i64 2, .slice none 0 0, .slice (some ⟨g, 0, none⟩) 1 1, .slice (some ⟨h, 0, none⟩) 2 2]] w fun e w' => ∃ k c A d, e = .returned (.tuple #[.slice (some ⟨k, 0, none⟩) 2 c, .agg #[.int .i64 0, .int .i64 0]]) ∧ (w'.cell? ⟨k, 1, none⟩ = some (.slice A 1 d) ∧ w'.frozen? ⟨k, 1, none⟩ = false) ∧ Ints w' A [1] ∧ Below w.heap.size w w' := by
  refine (achievers_2 w chainV none (some ⟨g, 0, none⟩) (some ⟨h, 0, none⟩) 0 1 2 hT 2 rfl chain_valid).mono ?_
  rintro e w' ⟨v, rfl, ⟨B, _, ho⟩, hB⟩
  rw [chain_land] at ho
  obtain ⟨A, c, rfl⟩ := OwnEs.form ho
  have h0 := ho
  obtain ⟨k, cs, r, rfl, _, _, hr, hl, hc, A', c', rfl, hI, _⟩ := OwnEs.at_ ho (i := 1) (by simp)
  have hr' : r = [1] := by have := hr.out; simp at this; rw [← this]; exact chain_ach
  subst hr'
  exact ⟨k, c, A', c', rfl, ⟨hc 0 _ rfl, OwnEs.free (A := none) h0 1⟩, hI, hB⟩
theorem ord_chain (w : World) (g h : Nat) (hT : TaskMem w none (some ⟨g, 0, none⟩) (some ⟨h, 0, none⟩) chainV) :
    Calls Try.prog 45 #[.agg #[.int .i64 2, .slice none 0 0, .slice (some ⟨g, 0, none⟩) 1 1, .slice (some ⟨h, 0, none⟩) 2 2]] w fun e w' => ∃ k c, e = .returned (.tuple #[.slice (some ⟨k, 0, none⟩) 1 c, .agg #[.int .i64 0, .int .i64 0]]) ∧ (w'.cell? ⟨k, 0, none⟩ = some (.int .i64 0) ∧ w'.frozen? ⟨k, 0, none⟩ = false) ∧ (w'.cell? ⟨k, 1, none⟩ = some (.int .i64 1) ∧ w'.frozen? ⟨k, 1, none⟩ = false) ∧ Below w.heap.size w w' := by
  refine (orders_2 w chainV none (some ⟨g, 0, none⟩) (some ⟨h, 0, none⟩) 0 1 2 hT 2 rfl chain_valid).mono ?_
  rintro e w' ⟨v, rfl, ⟨B, _, ho⟩, hB⟩
  rw [chain_ord] at ho
  obtain ⟨A, c, rfl⟩ := OwnEs.form ho
  have h0 := ho
  obtain ⟨k, cs, r, rfl, _, _, hr, hl, hc, hp⟩ := OwnEs.at_ ho (i := 0) (by simp)
  have hr' : r = (0, 1) := by have := hr.out; simp at this; exact this.symm
  subst hr'
  subst hp
  exact ⟨k, c, rfl, ⟨hc 0 _ rfl, OwnEs.free (A := none) h0 0⟩, ⟨hc 1 _ rfl, OwnEs.free (A := none) h0 1⟩, hB⟩
set_option maxRecDepth 100000 in
set_option maxHeartbeats 2000000 in
theorem lexample_any (w : World)  :
    Calls Try.prog 24 #[] w fun e w' => e = .returned (.bool true) ∧ Below w.heap.size w w' := by
  have heq := eq_pair 0 1 0 1
  go_enter Try.func24, Try.ntmps24
  go_wp2_with fail
  refine (two_yes _).mono ?_
  rintro e w1 ⟨g1, h1, rfl, hT1, hB1⟩
  have D1 := dstep w hB1 (by repeat (first | with_reducible exact Below.refl _ _ | with_reducible apply bdrew | with_reducible apply bdrewN | with_reducible apply balloc | ((with_reducible refine bset ?_ ?_ _); rotate_left; (first | omega | (simp <;> omega)))))
  have d1s := D1.size
  go_wp2_with fail
  refine (lfacts_chain _ _ _ (hT1.below (by repeat (first | with_reducible exact Below.refl _ _ | with_reducible apply bdrew | with_reducible apply bdrewN | with_reducible apply balloc | ((with_reducible refine bset ?_ ?_ _); rotate_left; (first | omega | (simp <;> omega))))))).mono ?_
  rintro e w2 ⟨A2, c2, rfl, hI2, hB2⟩
  have D2 := dstep w hB2 (by repeat (first | with_reducible exact D1 | with_reducible apply bdrew | with_reducible apply bdrewN | with_reducible apply balloc | ((with_reducible refine bset ?_ ?_ _); rotate_left; (first | omega | (simp <;> omega)))))
  have d2s := D2.size
  go_wp2_with fail
  refine (two_yes _).mono ?_
  rintro e w3 ⟨g3, h3, rfl, hT3, hB3⟩
  have D3 := dstep w hB3 (by repeat (first | with_reducible exact D2 | with_reducible apply bdrew | with_reducible apply bdrewN | with_reducible apply balloc | ((with_reducible refine bset ?_ ?_ _); rotate_left; (first | omega | (simp <;> omega)))))
  have d3s := D3.size
  have Ew2_3 := dstep w2 hB3 (by repeat (first | with_reducible exact Below.refl _ _ | with_reducible apply bdrew | with_reducible apply bdrewN | with_reducible apply balloc | ((with_reducible refine bset ?_ ?_ _); rotate_left; (first | omega | (simp <;> omega)))))
  have C3 := Cls.below (l := [(w2.heap.size, 0, .int .i64 0), (w2.heap.size, 1, .int .i64 0)]) hB3 (by simp [Cls, go_sem])
  have F3 := C3
  simp only [Cls, and_true] at F3
  have y3w20 : w2.heap.size < w3.heap.size := C3.blk (b := w2.heap.size) (k := 0) (v := .int .i64 0) (by simp)
  have y3w2p1 : w2.heap.size < w3.heap.size + 1 := (by omega)
  have y3w2p2 : w2.heap.size < w3.heap.size + 1 + 1 := (by omega)
  go_wp2_with fail
  refine (ach_chain _ _ _ (hT3.below (by repeat (first | with_reducible exact Below.refl _ _ | with_reducible apply bdrew | with_reducible apply bdrewN | with_reducible apply balloc | ((with_reducible refine bset ?_ ?_ _); rotate_left; (first | omega | (simp <;> omega))))))).mono ?_
  rintro e w4 ⟨k4, c4, A4, d4, rfl, hc4, hI4, hB4⟩
  have D4 := dstep w hB4 (by repeat (first | with_reducible exact D3 | with_reducible apply bdrew | with_reducible apply bdrewN | with_reducible apply balloc | ((with_reducible refine bset ?_ ?_ _); rotate_left; (first | omega | (simp <;> omega)))))
  have d4s := D4.size
  have Ew2_4 := dstep w2 hB4 (by repeat (first | with_reducible exact Ew2_3 | with_reducible apply bdrew | with_reducible apply bdrewN | with_reducible apply balloc | ((with_reducible refine bset ?_ ?_ _); rotate_left; (first | omega | (simp <;> omega)))))
  have C4 := Cls.below (l := [(w2.heap.size, 0, .int .i64 0), (w2.heap.size, 1, .int .i64 0)]) hB4 (by simp [Cls, go_sem, F3, y3w20, y3w2p1, y3w2p2])
  have F4 := C4
  simp only [Cls, and_true] at F4
  have y4w20 : w2.heap.size < w4.heap.size := C4.blk (b := w2.heap.size) (k := 0) (v := .int .i64 0) (by simp)
  have y4w2p1 : w2.heap.size < w4.heap.size + 1 := (by omega)
  have y4w2p2 : w2.heap.size < w4.heap.size + 1 + 1 := (by omega)
  have hk4 : k4 < w4.heap.size := World.block_lt_of_cell? w4 _ hc4.1
  go_wp2_with fail
  refine (two_yes _).mono ?_
  rintro e w5 ⟨g5, h5, rfl, hT5, hB5⟩
  have D5 := dstep w hB5 (by repeat (first | with_reducible exact D4 | with_reducible apply bdrew | with_reducible apply bdrewN | with_reducible apply balloc | ((with_reducible refine bset ?_ ?_ _); rotate_left; (first | omega | (simp <;> omega)))))
  have d5s := D5.size
  have Ew2_5 := dstep w2 hB5 (by repeat (first | with_reducible exact Ew2_4 | with_reducible apply bdrew | with_reducible apply bdrewN | with_reducible apply balloc | ((with_reducible refine bset ?_ ?_ _); rotate_left; (first | omega | (simp <;> omega)))))
  have Ew4_5 := dstep w4 hB5 (by repeat (first | with_reducible exact Below.refl _ _ | with_reducible apply bdrew | with_reducible apply bdrewN | with_reducible apply balloc | ((with_reducible refine bset ?_ ?_ _); rotate_left; (first | omega | (simp <;> omega)))))
  have C5 := Cls.below (l := [(w2.heap.size, 0, .int .i64 0), (w2.heap.size, 1, .int .i64 0), (w4.heap.size, 0, .int .i64 0), (w4.heap.size, 1, .int .i64 0), (k4, 1, .slice A4 1 d4)]) hB5 (by simp [Cls, go_sem, F4, hc4, y4w20, y4w2p1, y4w2p2, hk4])
  have F5 := C5
  simp only [Cls, and_true] at F5
  have y5k40 : k4 < w5.heap.size := C5.blk (b := k4) (k := 1) (v := .slice A4 1 d4) (by simp)
  have y5k4p1 : k4 < w5.heap.size + 1 := (by omega)
  have y5k4p2 : k4 < w5.heap.size + 1 + 1 := (by omega)
  have y5w20 : w2.heap.size < w5.heap.size := C5.blk (b := w2.heap.size) (k := 0) (v := .int .i64 0) (by simp)
  have y5w2p1 : w2.heap.size < w5.heap.size + 1 := (by omega)
  have y5w2p2 : w2.heap.size < w5.heap.size + 1 + 1 := (by omega)
  have y5w40 : w4.heap.size < w5.heap.size := C5.blk (b := w4.heap.size) (k := 0) (v := .int .i64 0) (by simp)
  have y5w4p1 : w4.heap.size < w5.heap.size + 1 := (by omega)
  have y5w4p2 : w4.heap.size < w5.heap.size + 1 + 1 := (by omega)
  go_wp2_with fail
  refine (ord_chain _ _ _ (hT5.below (by repeat (first | with_reducible exact Below.refl _ _ | with_reducible apply bdrew | with_reducible apply bdrewN | with_reducible apply balloc | ((with_reducible refine bset ?_ ?_ _); rotate_left; (first | omega | (simp <;> omega))))))).mono ?_
  rintro e w6 ⟨k6, c6, rfl, hc60, hc61, hB6⟩
  have D6 := dstep w hB6 (by repeat (first | with_reducible exact D5 | with_reducible apply bdrew | with_reducible apply bdrewN | with_reducible apply balloc | ((with_reducible refine bset ?_ ?_ _); rotate_left; (first | omega | (simp <;> omega)))))
  have d6s := D6.size
  have Ew2_6 := dstep w2 hB6 (by repeat (first | with_reducible exact Ew2_5 | with_reducible apply bdrew | with_reducible apply bdrewN | with_reducible apply balloc | ((with_reducible refine bset ?_ ?_ _); rotate_left; (first | omega | (simp <;> omega)))))
  have Ew4_6 := dstep w4 hB6 (by repeat (first | with_reducible exact Ew4_5 | with_reducible apply bdrew | with_reducible apply bdrewN | with_reducible apply balloc | ((with_reducible refine bset ?_ ?_ _); rotate_left; (first | omega | (simp <;> omega)))))
  have C6 := Cls.below (l := [(w2.heap.size, 0, .int .i64 0), (w2.heap.size, 1, .int .i64 0), (w4.heap.size, 0, .int .i64 0), (w4.heap.size, 1, .int .i64 0), (k4, 1, .slice A4 1 d4)]) hB6 (by simp [Cls, go_sem, F5, y5k40, y5k4p1, y5k4p2, y5w20, y5w2p1, y5w2p2, y5w40, y5w4p1, y5w4p2])
  have F6 := C6
  simp only [Cls, and_true] at F6
  have y6k40 : k4 < w6.heap.size := C6.blk (b := k4) (k := 1) (v := .slice A4 1 d4) (by simp)
  have y6k4p1 : k4 < w6.heap.size + 1 := (by omega)
  have y6k4p2 : k4 < w6.heap.size + 1 + 1 := (by omega)
  have y6w20 : w2.heap.size < w6.heap.size := C6.blk (b := w2.heap.size) (k := 0) (v := .int .i64 0) (by simp)
  have y6w2p1 : w2.heap.size < w6.heap.size + 1 := (by omega)
  have y6w2p2 : w2.heap.size < w6.heap.size + 1 + 1 := (by omega)
  have y6w40 : w4.heap.size < w6.heap.size := C6.blk (b := w4.heap.size) (k := 0) (v := .int .i64 0) (by simp)
  have y6w4p1 : w4.heap.size < w6.heap.size + 1 := (by omega)
  have y6w4p2 : w4.heap.size < w6.heap.size + 1 + 1 := (by omega)
  have hk6 : k6 < w6.heap.size := World.block_lt_of_cell? w6 _ hc60.1
  go_wp2_with fail
  refine (ints_at _ _ _ _ 2 [0, 1] [0, 1] _ (hI2.below (by repeat (first | with_reducible exact Ew2_6 | with_reducible apply bdrew | with_reducible apply bdrewN | with_reducible apply balloc | ((with_reducible refine bset ?_ ?_ _); rotate_left; (first | omega | (simp <;> omega)))))) (ints_two (by simp [go_sem]) (by simp [go_sem])) rfl rfl (by omega) true (by simp)).mono ?_
  rintro e w7 ⟨rfl, hB7⟩
  have D7 := dstep w hB7 (by repeat (first | with_reducible exact D6 | with_reducible apply bdrew | with_reducible apply bdrewN | with_reducible apply balloc | ((with_reducible refine bset ?_ ?_ _); rotate_left; (first | omega | (simp <;> omega)))))
  have d7s := D7.size
  have Ew2_7 := dstep w2 hB7 (by repeat (first | with_reducible exact Ew2_6 | with_reducible apply bdrew | with_reducible apply bdrewN | with_reducible apply balloc | ((with_reducible refine bset ?_ ?_ _); rotate_left; (first | omega | (simp <;> omega)))))
  have Ew4_7 := dstep w4 hB7 (by repeat (first | with_reducible exact Ew4_6 | with_reducible apply bdrew | with_reducible apply bdrewN | with_reducible apply balloc | ((with_reducible refine bset ?_ ?_ _); rotate_left; (first | omega | (simp <;> omega)))))
  have Ew6_7 := dstep w6 hB7 (by repeat (first | with_reducible exact Below.refl _ _ | with_reducible apply bdrew | with_reducible apply bdrewN | with_reducible apply balloc | ((with_reducible refine bset ?_ ?_ _); rotate_left; (first | omega | (simp <;> omega)))))
  have C7 := Cls.below (l := [(w2.heap.size, 0, .int .i64 0), (w2.heap.size, 1, .int .i64 0), (w4.heap.size, 0, .int .i64 0), (w4.heap.size, 1, .int .i64 0), (k4, 1, .slice A4 1 d4), (w6.heap.size, 0, .int .i64 0), (w6.heap.size, 1, .int .i64 0), (k6, 0, .int .i64 0), (k6, 1, .int .i64 1)]) hB7 (by simp [Cls, go_sem, F6, hc60, hc61, y6k40, y6k4p1, y6k4p2, y6w20, y6w2p1, y6w2p2, y6w40, y6w4p1, y6w4p2, hk6])
  have F7 := C7
  simp only [Cls, and_true] at F7
  have y7k40 : k4 < w7.heap.size := C7.blk (b := k4) (k := 1) (v := .slice A4 1 d4) (by simp)
  have y7k4p1 : k4 < w7.heap.size + 1 := (by omega)
  have y7k4p2 : k4 < w7.heap.size + 1 + 1 := (by omega)
  have y7k60 : k6 < w7.heap.size := C7.blk (b := k6) (k := 0) (v := .int .i64 0) (by simp)
  have y7k6p1 : k6 < w7.heap.size + 1 := (by omega)
  have y7k6p2 : k6 < w7.heap.size + 1 + 1 := (by omega)
  have y7w20 : w2.heap.size < w7.heap.size := C7.blk (b := w2.heap.size) (k := 0) (v := .int .i64 0) (by simp)
  have y7w2p1 : w2.heap.size < w7.heap.size + 1 := (by omega)
  have y7w2p2 : w2.heap.size < w7.heap.size + 1 + 1 := (by omega)
  have y7w40 : w4.heap.size < w7.heap.size := C7.blk (b := w4.heap.size) (k := 0) (v := .int .i64 0) (by simp)
  have y7w4p1 : w4.heap.size < w7.heap.size + 1 := (by omega)
  have y7w4p2 : w4.heap.size < w7.heap.size + 1 + 1 := (by omega)
  have y7w60 : w6.heap.size < w7.heap.size := C7.blk (b := w6.heap.size) (k := 0) (v := .int .i64 0) (by simp)
  have y7w6p1 : w6.heap.size < w7.heap.size + 1 := (by omega)
  have y7w6p2 : w6.heap.size < w7.heap.size + 1 + 1 := (by omega)
  go_wp2_with fail
  refine (ints_at _ _ _ _ 1 [1] [1] _ (hI4.below (by repeat (first | with_reducible exact Ew4_7 | with_reducible apply bdrew | with_reducible apply bdrewN | with_reducible apply balloc | ((with_reducible refine bset ?_ ?_ _); rotate_left; (first | omega | (simp <;> omega)))))) (ints_one (by simp [go_sem])) rfl rfl (by omega) true (by simp)).mono ?_
  rintro e w8 ⟨rfl, hB8⟩
  have D8 := dstep w hB8 (by repeat (first | with_reducible exact D7 | with_reducible apply bdrew | with_reducible apply bdrewN | with_reducible apply balloc | ((with_reducible refine bset ?_ ?_ _); rotate_left; (first | omega | (simp <;> omega)))))
  have d8s := D8.size
  have Ew2_8 := dstep w2 hB8 (by repeat (first | with_reducible exact Ew2_7 | with_reducible apply bdrew | with_reducible apply bdrewN | with_reducible apply balloc | ((with_reducible refine bset ?_ ?_ _); rotate_left; (first | omega | (simp <;> omega)))))
  have Ew4_8 := dstep w4 hB8 (by repeat (first | with_reducible exact Ew4_7 | with_reducible apply bdrew | with_reducible apply bdrewN | with_reducible apply balloc | ((with_reducible refine bset ?_ ?_ _); rotate_left; (first | omega | (simp <;> omega)))))
  have Ew6_8 := dstep w6 hB8 (by repeat (first | with_reducible exact Ew6_7 | with_reducible apply bdrew | with_reducible apply bdrewN | with_reducible apply balloc | ((with_reducible refine bset ?_ ?_ _); rotate_left; (first | omega | (simp <;> omega)))))
  have C8 := Cls.below (l := [(w2.heap.size, 0, .int .i64 0), (w2.heap.size, 1, .int .i64 0), (w4.heap.size, 0, .int .i64 0), (w4.heap.size, 1, .int .i64 0), (k4, 1, .slice A4 1 d4), (w6.heap.size, 0, .int .i64 0), (w6.heap.size, 1, .int .i64 0), (k6, 0, .int .i64 0), (k6, 1, .int .i64 1)]) hB8 (by simp [Cls, go_sem, F7, y7k40, y7k4p1, y7k4p2, y7k60, y7k6p1, y7k6p2, y7w20, y7w2p1, y7w2p2, y7w40, y7w4p1, y7w4p2, y7w60, y7w6p1, y7w6p2])
  have F8 := C8
  simp only [Cls, and_true] at F8
  have y8k40 : k4 < w8.heap.size := C8.blk (b := k4) (k := 1) (v := .slice A4 1 d4) (by simp)
  have y8k4p1 : k4 < w8.heap.size + 1 := (by omega)
  have y8k4p2 : k4 < w8.heap.size + 1 + 1 := (by omega)
  have y8k60 : k6 < w8.heap.size := C8.blk (b := k6) (k := 0) (v := .int .i64 0) (by simp)
  have y8k6p1 : k6 < w8.heap.size + 1 := (by omega)
  have y8k6p2 : k6 < w8.heap.size + 1 + 1 := (by omega)
  have y8w20 : w2.heap.size < w8.heap.size := C8.blk (b := w2.heap.size) (k := 0) (v := .int .i64 0) (by simp)
  have y8w2p1 : w2.heap.size < w8.heap.size + 1 := (by omega)
  have y8w2p2 : w2.heap.size < w8.heap.size + 1 + 1 := (by omega)
  have y8w40 : w4.heap.size < w8.heap.size := C8.blk (b := w4.heap.size) (k := 0) (v := .int .i64 0) (by simp)
  have y8w4p1 : w4.heap.size < w8.heap.size + 1 := (by omega)
  have y8w4p2 : w4.heap.size < w8.heap.size + 1 + 1 := (by omega)
  have y8w60 : w6.heap.size < w8.heap.size := C8.blk (b := w6.heap.size) (k := 0) (v := .int .i64 0) (by simp)
  have y8w6p1 : w6.heap.size < w8.heap.size + 1 := (by omega)
  have y8w6p2 : w6.heap.size < w8.heap.size + 1 + 1 := (by omega)
  go_wp2
  go_ret
  exact ⟨rfl, by repeat (first | with_reducible exact D8 | with_reducible apply bdrew | with_reducible apply bdrewN | with_reducible apply balloc | ((with_reducible refine bset ?_ ?_ _); rotate_left; (first | omega | (simp <;> omega))))⟩


end Go.Proofs.Ytiaokmofoaeifaa
