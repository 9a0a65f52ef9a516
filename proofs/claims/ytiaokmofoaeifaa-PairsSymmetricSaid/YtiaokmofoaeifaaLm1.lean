/-
  landmark.without, facts, Facts: what they return.
-/
import Derived.Test.YtiaokmofoaeifaaTrel8
import Derived.Test.YtiaokmofoaeifaaTrel10
namespace Go.Proofs.Ytiaokmofoaeifaa
open Go.RowKit
set_option linter.unusedVariables false
set_option linter.unusedSimpArgs false

/-- The operators that do not add a fact. -/
def useNot (ops : List OpV) (p : Int) (k : Nat) : Bool := match ops[k]? with | some o => !decide (p ∈ o.add) | none => true
theorem useNot_of {ops : List OpV} {p : Int} {k : Nat} {o : OpV} (h : ops[k]? = some o) : useNot ops p k = !decide (p ∈ o.add) := by unfold useNot; rw [h]
/-- A fact is a landmark. -/
def Land (n : Nat) (t : TaskV) (p : Int) : Prop := p ∈ t.init ∨ ¬ ∀ q ∈ t.goal, Reach t.init t.ops (useNot t.ops p) q
/-- The facts below k that are landmarks. -/
noncomputable def landTo (n : Nat) (t : TaskV) (k : Nat) : List Int := ((List.range k).filter fun (p : Nat) => @decide (Land n t (p : Int)) (Classical.propDecidable _)).map fun (p : Nat) => (p : Int)
noncomputable def landV (n : Nat) (t : TaskV) : List Int := landTo n t n
theorem landTo_len (n : Nat) (t : TaskV) (k : Nat) : (landTo n t k).length ≤ k := by
  unfold landTo
  rw [List.length_map]
  exact Nat.le_trans (List.length_filter_le _ _) (by simp)
theorem landTo_yes {n : Nat} {t : TaskV} {k : Nat} (h : Land n t (k : Int)) : landTo n t k ++ [(k : Int)] = landTo n t (k + 1) := by
  unfold landTo
  rw [List.range_succ, List.filter_append, List.map_append]
  simp [h]
theorem landTo_no {n : Nat} {t : TaskV} {k : Nat} (h : ¬ Land n t (k : Int)) : landTo n t (k + 1) = landTo n t k := by
  unfold landTo
  rw [List.range_succ, List.filter_append, List.map_append]
  simp [h]
theorem landV_mem {n : Nat} {t : TaskV} {x : Int} : x ∈ landV n t ↔ 0 ≤ x ∧ x < (n : Int) ∧ Land n t x := by
  unfold landV landTo
  rw [List.mem_map]
  constructor
  · rintro ⟨p, hp, rfl⟩
    rw [List.mem_filter, List.mem_range] at hp
    exact ⟨by omega, by omega, (@decide_eq_true_iff _ (Classical.propDecidable _)).1 hp.2⟩
  · rintro ⟨h0, h1, h2⟩
    refine ⟨x.toNat, ?_, by omega⟩
    rw [List.mem_filter, List.mem_range]
    exact ⟨by omega, (@decide_eq_true_iff _ (Classical.propDecidable _)).2 (by rw [Int.toNat_of_nonneg h0]; exact h2)⟩
theorem landV_set {n : Nat} {t : TaskV} : SetP (landV n t) (n : Int) := by
  refine SetP.of_pairwise (fun x hx => ⟨(landV_mem.1 hx).1, (landV_mem.1 hx).2.1⟩) ?_
  unfold landV landTo
  rw [List.pairwise_map]
  exact (List.pairwise_lt_range.filter _).imp (fun h => by omega)
theorem landV_len (n : Nat) (t : TaskV) : (landV n t).length ≤ n := landTo_len n t n
theorem init_in {t : TaskV} {n : Nat} (hv : Valid t) (hn : t.facts = n) : ∀ p ∈ t.init, 0 ≤ p ∧ p < (n : Int) := fun p hp => by
  have := hv.init.1 p hp
  rw [hn] at this
  exact this
theorem allIn_close {n : Nat} {st : List Int} {ops : List OpV} {use : Nat → Bool} {xs : List Int} (h : ∀ x ∈ xs, 0 ≤ x ∧ x < (n : Int)) : AllIn (closeV n st ops use) xs ↔ ∀ x ∈ xs, Reach st ops use x := by
  constructor
  · intro ha x hx
    have h1 := h x hx
    have h2 := (closeV_get (n := n) (st := st) (ops := ops) (use := use) (p := x.toNat) (by omega)).1 (ha x hx)
    rw [Int.toNat_of_nonneg h1.1] at h2
    exact h2
  · intro ha x hx
    have h1 := h x hx
    refine (closeV_get (n := n) (p := x.toNat) (by omega)).2 ?_
    rw [Int.toNat_of_nonneg h1.1]
    exact ha x hx
set_option maxRecDepth 100000 in
set_option maxHeartbeats 1000000 in
theorem without1_any (w : World) (t : TaskV) (Ai Ag Ao : Option Addr) (ci cg co : Nat) (hT : TaskMem w Ai Ag Ao t) (b d : Nat) (p : Int) (k : Nat) (hk : k < t.ops.length) (hb3 : w.cell? ⟨b, 3, none⟩ = some (.slice Ao t.ops.length co)) (hd0 : w.cell? ⟨d, 0, none⟩ = some (.int .i64 p)) :
    Calls Try.prog 95 #[.int .i64 k, .pointer (some ⟨b, 0, none⟩), .pointer (some ⟨d, 0, none⟩)] w fun e w' => e = .returned (.bool (useNot t.ops p k)) ∧ Below w.heap.size w w' := by
  have hlo := hT.lops.le
  have hki : (k : Int) < (t.ops.length : Int) := by omega
  have hk0 : (0 : Int) ≤ (k : Int) := by omega
  obtain ⟨ad, o, A0, c0, A1, c1, A2, c2, rfl, ho, hc0, hc1, hc2, hc3, hm⟩ := hT.ops.at_ hk
  have hla := hm.ladd.le
  have HU := Lib.hid (useNot_of (p := p) ho.out)
  cases hd2 : decide (p ∈ o.add)
  all_goals
    have HD := Lib.hid hd2
    clear hd2
    go_enter Try.func95, Try.ntmps95
    go_wp2_with fail
    go_region_held3 (fun W => W.cell? ⟨b, 3, none⟩ = some (.slice (some ad) t.ops.length co) ∧ W.cell? ⟨d, 0, none⟩ = some (.int .i64 p) ∧ W.cell? ⟨(ad.add (k * 4)).block, (ad.add (k * 4)).off + 1, none⟩ = some (.slice A1 o.add.length c1)) (first | exact hK | go_keep) (first | (go_at_call 78; refine (contains_any _ _ _ _ _ (hm.add.below (by repeat (first | with_reducible exact Below.refl _ _ | with_reducible apply bdrew | with_reducible apply bdrewN | with_reducible apply balloc | ((with_reducible refine bset ?_ ?_ _); rotate_left; (first | omega | (simp <;> omega)))))) hla).mono ?_; rintro e w1 ⟨he, hB⟩; rw [HD.out] at he; subst he; have D1 := dstep w hB (by repeat (first | with_reducible exact Below.refl _ _ | with_reducible apply bdrew | with_reducible apply bdrewN | with_reducible apply balloc | ((with_reducible refine bset ?_ ?_ _); rotate_left; (first | omega | (simp <;> omega))))); have hK : w1.cell? ⟨b, 3, none⟩ = some (.slice (some ad) t.ops.length co) ∧ w1.cell? ⟨d, 0, none⟩ = some (.int .i64 p) ∧ w1.cell? ⟨(ad.add (k * 4)).block, (ad.add (k * 4)).off + 1, none⟩ = some (.slice A1 o.add.length c1) := ⟨(D1.cell (World.block_lt_of_cell? w _ hb3)).trans hb3, (D1.cell (World.block_lt_of_cell? w _ hd0)).trans hd0, (D1.cell (World.block_lt_of_cell? w _ hc1)).trans hc1⟩))
    go_wp2
    go_ret
    exact ⟨ret_bool (by rw [HU.out, HD.out]; rfl), D1⟩

theorem without1_uses (w : World) (t : TaskV) (Ai Ag Ao : Option Addr) (ci cg co : Nat) (hT : TaskMem w Ai Ag Ao t) (b d : Nat) (p : Int) (hb3 : w.cell? ⟨b, 3, none⟩ = some (.slice Ao t.ops.length co)) (hd0 : w.cell? ⟨d, 0, none⟩ = some (.int .i64 p)) :
    Uses 95 #[.pointer (some ⟨b, 0, none⟩), .pointer (some ⟨d, 0, none⟩)] (useNot t.ops p) t.ops.length w :=
  ⟨fun args w => by kernel_rfl, fun k wr hk hB => without1_any wr t Ai Ag Ao ci cg co (hT.below hB) b d p k hk ((hB.cell (World.block_lt_of_cell? w _ hb3)).trans hb3) ((hB.cell (World.block_lt_of_cell? w _ hd0)).trans hd0)⟩
set_option maxRecDepth 100000 in
set_option maxHeartbeats 1000000 in
theorem without_any (w : World) (t : TaskV) (Ai Ag Ao : Option Addr) (ci cg co : Nat) (hT : TaskMem w Ai Ag Ao t) (n : Nat) (hn : t.facts = n) (hv : Valid t) (p : Int) :
    Calls Try.prog 77 #[.agg #[.int .i64 t.facts, .slice Ai t.init.length ci, .slice Ag t.goal.length cg, .slice Ao t.ops.length co], .int .i64 p] w fun e w' => ∃ g, e = .returned (.slice (some ⟨g, 0, none⟩) n n) ∧ w.heap.size ≤ g ∧ BArr w' g (closeV n t.init t.ops (useNot t.ops p)) ∧ Below w.heap.size w w' := by
  have HV := Lib.hid hv
  have HN := Lib.hid hn
  have hn24 : n ≤ 1000000000000 := by have := hv.f1; omega
  have HST := Lib.hid (init_in hv hn)
  have HOPS := Lib.hid (ops_in hv hn)
  clear hv hn
  go_enter Try.func77, Try.ntmps77
  go_wp2_with fail
  refine (close_any _ _ _ _ _ _ _ _ (hT.below (by repeat (first | with_reducible exact Below.refl _ _ | with_reducible apply bdrew | with_reducible apply bdrewN | with_reducible apply balloc | ((with_reducible refine bset ?_ ?_ _); rotate_left; (first | omega | (simp <;> omega)))))) n HN.out hn24 _ _ _ (hT.init.below (by repeat (first | with_reducible exact Below.refl _ _ | with_reducible apply bdrew | with_reducible apply bdrewN | with_reducible apply balloc | ((with_reducible refine bset ?_ ?_ _); rotate_left; (first | omega | (simp <;> omega)))))) hT.linit HST.out HOPS.out _ _ _ (without1_uses _ t Ai Ag Ao ci cg co (hT.below (by repeat (first | with_reducible exact Below.refl _ _ | with_reducible apply bdrew | with_reducible apply bdrewN | with_reducible apply balloc | ((with_reducible refine bset ?_ ?_ _); rotate_left; (first | omega | (simp <;> omega)))))) w.heap.size (w.heap.size + 1) p (by simp [go_sem]) (by simp [go_sem]))).mono ?_
  rintro e w1 ⟨g1, rfl, hg1, hA1, hB1⟩
  have D1 := dstep w hB1 (by repeat (first | with_reducible exact Below.refl _ _ | with_reducible apply bdrew | with_reducible apply bdrewN | with_reducible apply balloc | ((with_reducible refine bset ?_ ?_ _); rotate_left; (first | omega | (simp <;> omega)))))
  have d1s := D1.size
  have C1 := Cls.below (l := [(w.heap.size, 0, .int .i64 t.facts), (w.heap.size, 1, .slice Ai t.init.length ci), (w.heap.size, 2, .slice Ag t.goal.length cg), (w.heap.size, 3, .slice Ao t.ops.length co), (w.heap.size + 1, 0, .int .i64 p)]) hB1 (by simp [Cls, go_sem])
  have F1 := C1
  simp only [Cls, and_true] at F1
  have y1w1 : w.heap.size + 1 < w1.heap.size := C1.blk (b := w.heap.size + 1) (k := 0) (v := .int .i64 p) (by simp)
  have y1w0 : w.heap.size < w1.heap.size := (by omega)
  have y1wp1 : w.heap.size < w1.heap.size + 1 := (by omega)
  have y1wp2 : w.heap.size < w1.heap.size + 1 + 1 := (by omega)
  go_wp2
  go_ret
  exact ⟨_, rfl, by simp at hg1; omega, hA1, by repeat (first | with_reducible exact D1 | with_reducible apply bdrew | with_reducible apply bdrewN | with_reducible apply balloc | ((with_reducible refine bset ?_ ?_ _); rotate_left; (first | omega | (simp <;> omega))))⟩


end Go.Proofs.Ytiaokmofoaeifaa
