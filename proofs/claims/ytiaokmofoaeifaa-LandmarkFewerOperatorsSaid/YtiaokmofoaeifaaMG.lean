/-
  landmark.without, facts, Facts: what they return.
  S.IsCut: what it returns.
  landmark.facts, Facts: what they return.
  landmark.Facts: what it returns.
-/
import Derived.Test.YtiaokmofoaeifaaME
import Derived.Test.YtiaokmofoaeifaaMF
import Derived.Test.YtiaokmofoaeifaaMB
namespace Go.Proofs.Ytiaokmofoaeifaa
open Go.RowKit
set_option linter.unusedVariables false
set_option linter.unusedSimpArgs false

/-- The operators that do not add a fact. -/
def useNot (ops : List OpV) (p : Int) (k : Nat) : Bool := match ops[k]? with | some o => !decide (p ∈ o.add) | none => true
theorem useNot_of {ops : List OpV} {p : Int} {k : Nat} {o : OpV} (h : ops[k]? = some o) : useNot ops p k = !decide (p ∈ o.add) := by unfold useNot; rw [h]
/-- A fact is a landmark. -/
def Land (n : Nat) (t : TaskV) (p : Int) : Prop := p ∈ t.init ∨ ¬ ∀ q ∈ t.goal, Reach t.init t.ops (useNot t.ops p) q
/-- The facts below k that are landmarks. -/
noncomputable def landTo (n : Nat) (t : TaskV) (k : Nat) : List Int := ((List.range k).filter fun (p : Nat) => @decide (Land n t (p : Int)) (Classical.propDecidable _)).map fun (p : Nat) => (p : Int)
noncomputable def landV (n : Nat) (t : TaskV) : List Int := landTo n t n
theorem landTo_len (n : Nat) (t : TaskV) (k : Nat) : (landTo n t k).length ≤ k := by
  unfold landTo
  rw [List.length_map]
  exact Nat.le_trans (List.length_filter_le _ _) (by simp)
theorem landTo_yes {n : Nat} {t : TaskV} {k : Nat} (h : Land n t (k : Int)) : landTo n t k ++ [(k : Int)] = landTo n t (k + 1) := by
  unfold landTo
  rw [List.range_succ, List.filter_append, List.map_append]
  simp [h]
theorem landTo_no {n : Nat} {t : TaskV} {k : Nat} (h : ¬ Land n t (k : Int)) : landTo n t (k + 1) = landTo n t k := by
  unfold landTo
  rw [List.range_succ, List.filter_append, List.map_append]
  simp [h]
theorem landV_mem {n : Nat} {t : TaskV} {x : Int} : x ∈ landV n t ↔ 0 ≤ x ∧ x < (n : Int) ∧ Land n t x := by
  unfold landV landTo
  rw [List.mem_map]
  constructor
  · rintro ⟨p, hp, rfl⟩
    rw [List.mem_filter, List.mem_range] at hp
    exact ⟨by omega, by omega, (@decide_eq_true_iff _ (Classical.propDecidable _)).1 hp.2⟩
  · rintro ⟨h0, h1, h2⟩
    refine ⟨x.toNat, ?_, by omega⟩
    rw [List.mem_filter, List.mem_range]
    exact ⟨by omega, (@decide_eq_true_iff _ (Classical.propDecidable _)).2 (by rw [Int.toNat_of_nonneg h0]; exact h2)⟩
theorem landV_set {n : Nat} {t : TaskV} : SetP (landV n t) (n : Int) := by
  refine SetP.of_pairwise (fun x hx => ⟨(landV_mem.1 hx).1, (landV_mem.1 hx).2.1⟩) ?_
  unfold landV landTo
  rw [List.pairwise_map]
  exact (List.pairwise_lt_range.filter _).imp (fun h => by omega)
theorem landV_len (n : Nat) (t : TaskV) : (landV n t).length ≤ n := landTo_len n t n
theorem init_in {t : TaskV} {n : Nat} (hv : Valid t) (hn : t.facts = n) : ∀ p ∈ t.init, 0 ≤ p ∧ p < (n : Int) := fun p hp => by
  have := hv.init.1 p hp
  rw [hn] at this
  exact this
theorem allIn_close {n : Nat} {st : List Int} {ops : List OpV} {use : Nat → Bool} {xs : List Int} (h : ∀ x ∈ xs, 0 ≤ x ∧ x < (n : Int)) : AllIn (closeV n st ops use) xs ↔ ∀ x ∈ xs, Reach st ops use x := by
  constructor
  · intro ha x hx
    have h1 := h x hx
    have h2 := (closeV_get (n := n) (st := st) (ops := ops) (use := use) (p := x.toNat) (by omega)).1 (ha x hx)
    rw [Int.toNat_of_nonneg h1.1] at h2
    exact h2
  · intro ha x hx
    have h1 := h x hx
    refine (closeV_get (n := n) (p := x.toNat) (by omega)).2 ?_
    rw [Int.toNat_of_nonneg h1.1]
    exact ha x hx
set_option maxRecDepth 100000 in
set_option maxHeartbeats 1000000 in
theorem without1_any (w : World) (t : TaskV) (Ai Ag Ao : Option Addr) (ci cg co : Nat) (hT : TaskMem w Ai Ag Ao t) (b d : Nat) (p : Int) (k : Nat) (hk : k < t.ops.length) (hb3 : w.cell? ⟨b, 3, none⟩ = some (.slice Ao t.ops.length co)) (hd0 : w.cell? ⟨d, 0, none⟩ = some (.int .i64 p)) :
    Calls Try.prog 95 #[.int .i64 k, .pointer (some ⟨b, 0, none⟩), .pointer (some ⟨d, 0, none⟩)] w fun e w' => e = .returned (.bool (useNot t.ops p k)) ∧ Below w.heap.size w w' := by
  have hlo := hT.lops.le
  have hki : (k : Int) < (t.ops.length : Int) := by omega
  have hk0 : (0 : Int) ≤ (k : Int) := by omega
  obtain ⟨ad, o, A0, c0, A1, c1, A2, c2, rfl, ho, hc0, hc1, hc2, hc3, hm⟩ := hT.ops.at_ hk
  have hla := hm.ladd.le
  have HU := Lib.hid (useNot_of (p := p) ho.out)
  cases hd2 : decide (p ∈ o.add)
  all_goals
    have HD := Lib.hid hd2
    clear hd2
    go_enter Try.func95, Try.ntmps95
    go_wp2_with fail
    go_region_held3 (fun W => W.cell? ⟨b, 3, none⟩ = some (.slice (some ad) t.ops.length co) ∧ W.cell? ⟨d, 0, none⟩ = some (.int .i64 p) ∧ W.cell? ⟨(ad.add (k * 4)).block, (ad.add (k * 4)).off + 1, none⟩ = some (.slice A1 o.add.length c1)) (first | exact hK | go_keep) (first | (go_at_call 78; refine (contains_any _ _ _ _ _ (hm.add.below (by repeat (first | with_reducible exact Below.refl _ _ | with_reducible apply bdrew | with_reducible apply bdrewN | with_reducible apply balloc | ((with_reducible refine bset ?_ ?_ _); rotate_left; (first | omega | (simp <;> omega)))))) hla).mono ?_; rintro e w1 ⟨he, hB⟩; rw [HD.out] at he; subst he; have D1 := dstep w hB (by repeat (first | with_reducible exact Below.refl _ _ | with_reducible apply bdrew | with_reducible apply bdrewN | with_reducible apply balloc | ((with_reducible refine bset ?_ ?_ _); rotate_left; (first | omega | (simp <;> omega))))); have hK : w1.cell? ⟨b, 3, none⟩ = some (.slice (some ad) t.ops.length co) ∧ w1.cell? ⟨d, 0, none⟩ = some (.int .i64 p) ∧ w1.cell? ⟨(ad.add (k * 4)).block, (ad.add (k * 4)).off + 1, none⟩ = some (.slice A1 o.add.length c1) := ⟨(D1.cell (World.block_lt_of_cell? w _ hb3)).trans hb3, (D1.cell (World.block_lt_of_cell? w _ hd0)).trans hd0, (D1.cell (World.block_lt_of_cell? w _ hc1)).trans hc1⟩))
    go_wp2
    go_ret
    exact ⟨ret_bool (by rw [HU.out, HD.out]; rfl), D1⟩

theorem without1_uses (w : World) (t : TaskV) (Ai Ag Ao : Option Addr) (ci cg co : Nat) (hT : TaskMem w Ai Ag Ao t) (b d : Nat) (p : Int) (hb3 : w.cell? ⟨b, 3, none⟩ = some (.slice Ao t.ops.length co)) (hd0 : w.cell? ⟨d, 0, none⟩ = some (.int .i64 p)) :
    Uses 95 #[.pointer (some ⟨b, 0, none⟩), .pointer (some ⟨d, 0, none⟩)] (useNot t.ops p) t.ops.length w :=
  ⟨fun args w => by kernel_rfl, fun k wr hk hB => without1_any wr t Ai Ag Ao ci cg co (hT.below hB) b d p k hk ((hB.cell (World.block_lt_of_cell? w _ hb3)).trans hb3) ((hB.cell (World.block_lt_of_cell? w _ hd0)).trans hd0)⟩
set_option maxRecDepth 100000 in
set_option maxHeartbeats 1000000 in
theorem without_any (w : World) (t : TaskV) (Ai Ag Ao : Option Addr) (ci cg co : Nat) (hT : TaskMem w Ai Ag Ao t) (n : Nat) (hn : t.facts = n) (hv : Valid t) (p : Int) :
    Calls Try.prog 77 #[.agg #[.int .i64 t.facts, .slice Ai t.init.length ci, .slice Ag t.goal.length cg, .slice Ao t.ops.length co], .int .i64 p] w fun e w' => ∃ g, e = .returned (.slice (some ⟨g, 0, none⟩) n n) ∧ w.heap.size ≤ g ∧ BArr w' g (closeV n t.init t.ops (useNot t.ops p)) ∧ Below w.heap.size w w' := by
  have HV := Lib.hid hv
  have HN := Lib.hid hn
  have hn24 : n ≤ 1000000000000 := by have := hv.f1; omega
  have HST := Lib.hid (init_in hv hn)
  have HOPS := Lib.hid (ops_in hv hn)
  clear hv hn
  go_enter Try.func77, Try.ntmps77
  go_wp2_with fail
  refine (close_any _ _ _ _ _ _ _ _ (hT.below (by repeat (first | with_reducible exact Below.refl _ _ | with_reducible apply bdrew | with_reducible apply bdrewN | with_reducible apply balloc | ((with_reducible refine bset ?_ ?_ _); rotate_left; (first | omega | (simp <;> omega)))))) n HN.out hn24 _ _ _ (hT.init.below (by repeat (first | with_reducible exact Below.refl _ _ | with_reducible apply bdrew | with_reducible apply bdrewN | with_reducible apply balloc | ((with_reducible refine bset ?_ ?_ _); rotate_left; (first | omega | (simp <;> omega)))))) hT.linit HST.out HOPS.out _ _ _ (without1_uses _ t Ai Ag Ao ci cg co (hT.below (by repeat (first | with_reducible exact Below.refl _ _ | with_reducible apply bdrew | with_reducible apply bdrewN | with_reducible apply balloc | ((with_reducible refine bset ?_ ?_ _); rotate_left; (first | omega | (simp <;> omega)))))) w.heap.size (w.heap.size + 1) p (by simp [go_sem]) (by simp [go_sem]))).mono ?_
  rintro e w1 ⟨g1, rfl, hg1, hA1, hB1⟩
  have D1 := dstep w hB1 (by repeat (first | with_reducible exact Below.refl _ _ | with_reducible apply bdrew | with_reducible apply bdrewN | with_reducible apply balloc | ((with_reducible refine bset ?_ ?_ _); rotate_left; (first | omega | (simp <;> omega)))))
  have d1s := D1.size
  have C1 := Cls.below (l := [(w.heap.size, 0, .int .i64 t.facts), (w.heap.size, 1, .slice Ai t.init.length ci), (w.heap.size, 2, .slice Ag t.goal.length cg), (w.heap.size, 3, .slice Ao t.ops.length co), (w.heap.size + 1, 0, .int .i64 p)]) hB1 (by simp [Cls, go_sem])
  have F1 := C1
  simp only [Cls, and_true] at F1
  have y1w1 : w.heap.size + 1 < w1.heap.size := C1.blk (b := w.heap.size + 1) (k := 0) (v := .int .i64 p) (by simp)
  have y1w0 : w.heap.size < w1.heap.size := (by omega)
  have y1wp1 : w.heap.size < w1.heap.size + 1 := (by omega)
  have y1wp2 : w.heap.size < w1.heap.size + 1 + 1 := (by omega)
  go_wp2
  go_ret
  exact ⟨_, rfl, by simp at hg1; omega, hA1, by repeat (first | with_reducible exact D1 | with_reducible apply bdrew | with_reducible apply bdrewN | with_reducible apply balloc | ((with_reducible refine bset ?_ ?_ _); rotate_left; (first | omega | (simp <;> omega))))⟩


end Go.Proofs.Ytiaokmofoaeifaa

namespace Go.Proofs.Ytiaokmofoaeifaa
open Go.RowKit
set_option linter.unusedVariables false
set_option linter.unusedSimpArgs false

/-- The operators that are no elements of a list. -/
def useOut (l : List Int) (k : Nat) : Bool := !decide ((k : Int) ∈ l)
theorem init3_use {m k : Nat} {l : List Int} {d : Bool} (h : ∀ x ∈ l, 0 ≤ x ∧ x < (m : Int)) (hd : (init3 m l)[k]? = some d) : useOut l k = !d := by
  have hk := (List.getElem?_eq_some_iff.1 hd).1
  rw [init3_len] at hk
  unfold init3 at hd
  rw [init3_get l _ k (fun x hx => (h x hx).1) (by simpa using hk)] at hd
  unfold useOut
  by_cases e : (k : Int) ∈ l
  · rw [if_pos e] at hd; injection hd with hd; subst hd; simp [e]
  · rw [if_neg e] at hd
    simp [hk] at hd
    subst hd; simp [e]
theorem bools_drew0 {w : World} {A : Option Addr} {bs : List Bool} (h : Bools w A bs) : Bools w.drew A bs := h
end Go.Proofs.Ytiaokmofoaeifaa

namespace Go.Proofs.Ytiaokmofoaeifaa
open Go.RowKit
set_option linter.unusedVariables false
set_option linter.unusedSimpArgs false

set_option maxRecDepth 100000 in
set_option maxHeartbeats 2000000 in
theorem facts_any (w : World) (t : TaskV) (Ai Ag Ao : Option Addr) (ci cg co : Nat) (hT : TaskMem w Ai Ag Ao t) (n : Nat) (hn : t.facts = n) (hv : Valid t) :
    Calls Try.prog 58 #[.agg #[.int .i64 t.facts, .slice Ai t.init.length ci, .slice Ag t.goal.length cg, .slice Ao t.ops.length co]] w fun e w' => ∃ v, e = .returned v ∧ OwnI w.heap.size w' v (landV n t) ∧ Below w.heap.size w w' := by
  have HV := Lib.hid hv
  have HN := Lib.hid hn
  have hn24 : n ≤ 24 := by have := hv.f1; omega
  have HGOAL := Lib.hid (goal_in hv hn)
  have hli := hT.linit.le
  have hlg := hT.lgoal
  have hn12 : n ≤ 1000000000000 := by omega
  clear hv hn
  go_enter Try.func58, Try.ntmps58
  go_wp2_with fail
  go_loopw [3, 7] (fun v i wr => ∃ k : Nat, k ≤ n ∧ i = .int .i64 k ∧ OwnI (w.heap.size + 1) wr v (landTo n t k) ∧ Below w.heap.size w wr ∧ Cls wr [(w.heap.size, 0, .int .i64 t.facts), (w.heap.size, 1, .slice Ai t.init.length ci), (w.heap.size, 2, .slice Ag t.goal.length cg), (w.heap.size, 3, .slice Ao t.ops.length co)]) (fun _ i _ => n - (intOf i).toNat)
  case atStart => exact ⟨0, Nat.zero_le _, rfl, OwnI.nil _ _, (by repeat (first | with_reducible exact Below.refl _ _ | with_reducible apply bdrew | with_reducible apply bdrewN | with_reducible apply balloc | ((with_reducible refine bset ?_ ?_ _); rotate_left; (first | omega | (simp <;> omega))))), (by simp [Cls, go_sem])⟩
  case round =>
    obtain ⟨k, hk, rfl, hown, hBr, hCr⟩ := hrel
    obtain ⟨w2, rfl⟩ : ∃ wo : World, wo = wr := ⟨_, rfl⟩
    have drs := hBr.size
    have Fr := hCr
    simp only [Cls, and_true] at Fr
    have yrw0 : w.heap.size < w2.heap.size := hCr.blk (b := w.heap.size) (k := 0) (v := .int .i64 t.facts) (by simp)
    have yrwp1 : w.heap.size < w2.heap.size + 1 := (by omega)
    have yrwp2 : w.heap.size < w2.heap.size + 1 + 1 := (by omega)
    by_cases hlt : k < n
    · have hltf : (k : Int) < t.facts := by have := HN.out; omega
      have hlen := Nat.lt_of_le_of_lt (landTo_len n t k) (show k < 1000000000000 by omega)
      cases hd : decide ((k : Int) ∈ t.init) with
      | true =>
        have HD := Lib.hid hd
        have HL := Lib.hid (landTo_yes (n := n) (t := t) (k := k) (.inl (by simpa using hd)))
        clear hd
        go_wp2_with fail
        go_quiet ((go_at_call 78; exact Calls.quiet_of_same (contains_v _ _ _ _ _ true (hT.init.below (by repeat (first | with_reducible exact hBr | with_reducible apply bdrew | with_reducible apply bdrewN | with_reducible apply balloc | ((with_reducible refine bset ?_ ?_ _); rotate_left; (first | omega | (simp <;> omega)))))) hli HD.out)))
        go_wp2_with (at_builtin; go_must (refine wpList_push rfl (.tmp 23) (.tmp 25) rfl w [(w.heap.size, 0, .int .i64 t.facts), (w.heap.size, 1, .slice Ai t.init.length ci), (w.heap.size, 2, .slice Ag t.goal.length cg), (w.heap.size, 3, .slice Ao t.ops.length co)] (w.heap.size + 1) u3 _ ((k : Int)) rfl (OwnI.below hown ?p1) ⟨w2.heap.size, 0, none⟩ 1 rfl ?p2 hlen ?p3 ?p4 ?p5 ?p6 ?p7 ?_; (case p1 => repeat (first | with_reducible exact Below.refl _ _ | with_reducible apply bdrew | with_reducible apply bdrewN | with_reducible apply balloc | ((with_reducible refine bset ?_ ?_ _); rotate_left; (first | omega | (simp <;> omega))))); (case p2 => (first | simp [Cls, go_sem, Fr, yrw0, yrwp1, yrwp2] | exact cell_new_at _ _ _ _ rfl)); (case p3 => (first | omega | (simp <;> omega))); (case p4 => (first | omega | (simp <;> omega))); (case p5 => repeat (first | with_reducible exact hBr | with_reducible apply bdrew | with_reducible apply bdrewN | with_reducible apply balloc | ((with_reducible refine bset ?_ ?_ _); rotate_left; (first | omega | (simp <;> omega))))); (case p6 => exact Cls.below (w := w2) (by repeat (first | with_reducible exact Below.refl _ _ | with_reducible apply bdrew | with_reducible apply bdrewN | with_reducible apply balloc | ((with_reducible refine bset ?_ ?_ _); rotate_left; (first | omega | (simp <;> omega))))) hCr); (case p7 => (simp <;> omega)); intro v1 w1 o1 D1 C1 sz1; have d1s := D1.size; have F1 := C1; simp only [Cls, and_true] at F1; have y1w0 : w.heap.size < w1.heap.size := C1.blk (b := w.heap.size) (k := 0) (v := .int .i64 t.facts) (by simp); have y1wp1 : w.heap.size < w1.heap.size + 1 := (by omega); have y1wp2 : w.heap.size < w1.heap.size + 1 + 1 := (by omega)))
        go_roundw
        case rel => exact ⟨k + 1, by omega, by go_num, by rw [← HL.out]; exact o1, (by repeat (first | with_reducible exact D1 | with_reducible apply bdrew | with_reducible apply bdrewN | with_reducible apply balloc | ((with_reducible refine bset ?_ ?_ _); rotate_left; (first | omega | (simp <;> omega))))), (by simp [Cls, go_sem, F1, y1w0, y1wp1, y1wp2])⟩
        case measure => simp [intOf]; omega
      | false =>
        have HD := Lib.hid hd
        have HNI := Lib.hid (show ¬ (k : Int) ∈ t.init by simpa using hd)
        clear hd
        have hcl := closeV_len n t.init t.ops (useNot t.ops k)
        by_cases hall : ∀ q ∈ t.goal, Reach t.init t.ops (useNot t.ops k) q
        · have HAll := Lib.hid hall
          clear hall
          have HL := Lib.hid (landTo_no (n := n) (t := t) (k := k) (fun h => h.elim HNI.out (fun h => h HAll.out)))
          go_wp2_with fail
          go_region_held3 (fun W => W.cell? ⟨w.heap.size, 0, none⟩ = some (.int .i64 t.facts) ∧ W.cell? ⟨w.heap.size, 1, none⟩ = some (.slice Ai t.init.length ci) ∧ W.cell? ⟨w.heap.size, 2, none⟩ = some (.slice Ag t.goal.length cg) ∧ W.cell? ⟨w.heap.size, 3, none⟩ = some (.slice Ao t.ops.length co)) (first | exact hK | go_keep) (first | (go_at_call 78; refine (contains_v _ _ _ _ _ false (hT.init.below (by repeat (first | with_reducible exact hBr | with_reducible apply bdrew | with_reducible apply bdrewN | with_reducible apply balloc | ((with_reducible refine bset ?_ ?_ _); rotate_left; (first | omega | (simp <;> omega)))))) hli HD.out).mono ?_; rintro e w9 ⟨rfl, rfl⟩) | (go_at_call 77; refine (without_any _ t Ai Ag Ao ci cg co (hT.below (by repeat (first | with_reducible exact hBr | with_reducible apply bdrew | with_reducible apply bdrewN | with_reducible apply balloc | ((with_reducible refine bset ?_ ?_ _); rotate_left; (first | omega | (simp <;> omega)))))) n HN.out HV.out (k : Int)).mono ?_; rintro e w3 ⟨g3, rfl, hg3, hA3, hB3⟩; have D3 := dstep w hB3 (by repeat (first | with_reducible exact hBr | with_reducible apply bdrew | with_reducible apply bdrewN | with_reducible apply balloc | ((with_reducible refine bset ?_ ?_ _); rotate_left; (first | omega | (simp <;> omega))))); have E3 := dstep w2 hB3 (by repeat (first | with_reducible exact Below.refl _ _ | with_reducible apply bdrew | with_reducible apply bdrewN | with_reducible apply balloc | ((with_reducible refine bset ?_ ?_ _); rotate_left; (first | omega | (simp <;> omega))))); have C3 := Cls.below (l := [(w.heap.size, 0, .int .i64 t.facts), (w.heap.size, 1, .slice Ai t.init.length ci), (w.heap.size, 2, .slice Ag t.goal.length cg), (w.heap.size, 3, .slice Ao t.ops.length co)]) hB3 (by simp [Cls, go_sem, Fr, yrw0, yrwp1, yrwp2]); have F3 := C3; simp only [Cls, and_true] at F3; have hK : w3.cell? ⟨w.heap.size, 0, none⟩ = some (.int .i64 t.facts) ∧ w3.cell? ⟨w.heap.size, 1, none⟩ = some (.slice Ai t.init.length ci) ∧ w3.cell? ⟨w.heap.size, 2, none⟩ = some (.slice Ag t.goal.length cg) ∧ w3.cell? ⟨w.heap.size, 3, none⟩ = some (.slice Ao t.ops.length co) := (by simp [F3])) | (go_at_call 79; refine (all_at _ _ _ _ n _ _ _ hA3.bools (hT.goal.below D3) hcl hlg hn12 HGOAL.out true (by rw [allIn_close HGOAL.out]; exact ⟨fun _ => HAll.out, fun _ => rfl⟩)).mono ?_; rintro e w4 ⟨rfl, hB4⟩; have D4 := dstep w hB4 (by repeat (first | with_reducible exact D3 | with_reducible apply bdrew | with_reducible apply bdrewN | with_reducible apply balloc | ((with_reducible refine bset ?_ ?_ _); rotate_left; (first | omega | (simp <;> omega))))); have E4 := dstep w2 hB4 (by repeat (first | with_reducible exact E3 | with_reducible apply bdrew | with_reducible apply bdrewN | with_reducible apply balloc | ((with_reducible refine bset ?_ ?_ _); rotate_left; (first | omega | (simp <;> omega))))); have C4 := C3.below hB4; have F4 := C4; simp only [Cls, and_true] at F4; have hK : w4.cell? ⟨w.heap.size, 0, none⟩ = some (.int .i64 t.facts) ∧ w4.cell? ⟨w.heap.size, 1, none⟩ = some (.slice Ai t.init.length ci) ∧ w4.cell? ⟨w.heap.size, 2, none⟩ = some (.slice Ag t.goal.length cg) ∧ w4.cell? ⟨w.heap.size, 3, none⟩ = some (.slice Ao t.ops.length co) := (by simp [F4])))
          have F4 := C4
          simp only [Cls, and_true] at F4
          have y4w0 : w.heap.size < w4.heap.size := C4.blk (b := w.heap.size) (k := 0) (v := .int .i64 t.facts) (by simp)
          have y4wp1 : w.heap.size < w4.heap.size + 1 := (by omega)
          have y4wp2 : w.heap.size < w4.heap.size + 1 + 1 := (by omega)
          go_wp2
          go_roundw
          case rel => exact ⟨k + 1, by omega, by go_num, by rw [HL.out]; exact hown.below (by repeat (first | with_reducible exact E4 | with_reducible apply bdrew | with_reducible apply bdrewN | with_reducible apply balloc | ((with_reducible refine bset ?_ ?_ _); rotate_left; (first | omega | (simp <;> omega))))), (by repeat (first | with_reducible exact D4 | with_reducible apply bdrew | with_reducible apply bdrewN | with_reducible apply balloc | ((with_reducible refine bset ?_ ?_ _); rotate_left; (first | omega | (simp <;> omega))))), (by simp [Cls, go_sem, F4, y4w0, y4wp1, y4wp2])⟩
          case measure => simp [intOf]; omega
        · have HAll := Lib.hid hall
          clear hall
          have HL := Lib.hid (landTo_yes (n := n) (t := t) (k := k) (.inr HAll.out))
          go_wp2_with fail
          go_region_held3 (fun W => W.cell? ⟨w.heap.size, 0, none⟩ = some (.int .i64 t.facts) ∧ W.cell? ⟨w.heap.size, 1, none⟩ = some (.slice Ai t.init.length ci) ∧ W.cell? ⟨w.heap.size, 2, none⟩ = some (.slice Ag t.goal.length cg) ∧ W.cell? ⟨w.heap.size, 3, none⟩ = some (.slice Ao t.ops.length co)) (first | exact hK | go_keep) (first | (go_at_call 78; refine (contains_v _ _ _ _ _ false (hT.init.below (by repeat (first | with_reducible exact hBr | with_reducible apply bdrew | with_reducible apply bdrewN | with_reducible apply balloc | ((with_reducible refine bset ?_ ?_ _); rotate_left; (first | omega | (simp <;> omega)))))) hli HD.out).mono ?_; rintro e w9 ⟨rfl, rfl⟩) | (go_at_call 77; refine (without_any _ t Ai Ag Ao ci cg co (hT.below (by repeat (first | with_reducible exact hBr | with_reducible apply bdrew | with_reducible apply bdrewN | with_reducible apply balloc | ((with_reducible refine bset ?_ ?_ _); rotate_left; (first | omega | (simp <;> omega)))))) n HN.out HV.out (k : Int)).mono ?_; rintro e w3 ⟨g3, rfl, hg3, hA3, hB3⟩; have D3 := dstep w hB3 (by repeat (first | with_reducible exact hBr | with_reducible apply bdrew | with_reducible apply bdrewN | with_reducible apply balloc | ((with_reducible refine bset ?_ ?_ _); rotate_left; (first | omega | (simp <;> omega))))); have E3 := dstep w2 hB3 (by repeat (first | with_reducible exact Below.refl _ _ | with_reducible apply bdrew | with_reducible apply bdrewN | with_reducible apply balloc | ((with_reducible refine bset ?_ ?_ _); rotate_left; (first | omega | (simp <;> omega))))); have C3 := Cls.below (l := [(w.heap.size, 0, .int .i64 t.facts), (w.heap.size, 1, .slice Ai t.init.length ci), (w.heap.size, 2, .slice Ag t.goal.length cg), (w.heap.size, 3, .slice Ao t.ops.length co)]) hB3 (by simp [Cls, go_sem, Fr, yrw0, yrwp1, yrwp2]); have F3 := C3; simp only [Cls, and_true] at F3; have hK : w3.cell? ⟨w.heap.size, 0, none⟩ = some (.int .i64 t.facts) ∧ w3.cell? ⟨w.heap.size, 1, none⟩ = some (.slice Ai t.init.length ci) ∧ w3.cell? ⟨w.heap.size, 2, none⟩ = some (.slice Ag t.goal.length cg) ∧ w3.cell? ⟨w.heap.size, 3, none⟩ = some (.slice Ao t.ops.length co) := (by simp [F3])) | (go_at_call 79; refine (all_at _ _ _ _ n _ _ _ hA3.bools (hT.goal.below D3) hcl hlg hn12 HGOAL.out false (by rw [allIn_close HGOAL.out]; exact ⟨fun h => (by cases h), fun h => absurd h HAll.out⟩)).mono ?_; rintro e w4 ⟨rfl, hB4⟩; have D4 := dstep w hB4 (by repeat (first | with_reducible exact D3 | with_reducible apply bdrew | with_reducible apply bdrewN | with_reducible apply balloc | ((with_reducible refine bset ?_ ?_ _); rotate_left; (first | omega | (simp <;> omega))))); have E4 := dstep w2 hB4 (by repeat (first | with_reducible exact E3 | with_reducible apply bdrew | with_reducible apply bdrewN | with_reducible apply balloc | ((with_reducible refine bset ?_ ?_ _); rotate_left; (first | omega | (simp <;> omega))))); have C4 := C3.below hB4; have F4 := C4; simp only [Cls, and_true] at F4; have hK : w4.cell? ⟨w.heap.size, 0, none⟩ = some (.int .i64 t.facts) ∧ w4.cell? ⟨w.heap.size, 1, none⟩ = some (.slice Ai t.init.length ci) ∧ w4.cell? ⟨w.heap.size, 2, none⟩ = some (.slice Ag t.goal.length cg) ∧ w4.cell? ⟨w.heap.size, 3, none⟩ = some (.slice Ao t.ops.length co) := (by simp [F4])))
          have F4 := C4
          simp only [Cls, and_true] at F4
          have y4w0 : w.heap.size < w4.heap.size := C4.blk (b := w.heap.size) (k := 0) (v := .int .i64 t.facts) (by simp)
          have y4wp1 : w.heap.size < w4.heap.size + 1 := (by omega)
          have y4wp2 : w.heap.size < w4.heap.size + 1 + 1 := (by omega)
          have hown4 := hown.below E4
          go_wp2_with (at_builtin; go_must (refine wpList_push rfl (.tmp 23) (.tmp 25) rfl w [(w.heap.size, 0, .int .i64 t.facts), (w.heap.size, 1, .slice Ai t.init.length ci), (w.heap.size, 2, .slice Ag t.goal.length cg), (w.heap.size, 3, .slice Ao t.ops.length co)] (w.heap.size + 1) u3 _ ((k : Int)) rfl (OwnI.below hown4 ?p1) ⟨w4.heap.size, 0, none⟩ 1 rfl ?p2 hlen ?p3 ?p4 ?p5 ?p6 ?p7 ?_; (case p1 => repeat (first | with_reducible exact Below.refl _ _ | with_reducible apply bdrew | with_reducible apply bdrewN | with_reducible apply balloc | ((with_reducible refine bset ?_ ?_ _); rotate_left; (first | omega | (simp <;> omega))))); (case p2 => simp [Cls, go_sem, F4, y4w0, y4wp1, y4wp2]); (case p3 => (first | omega | (simp <;> omega))); (case p4 => (first | omega | (simp <;> omega))); (case p5 => repeat (first | with_reducible exact D4 | with_reducible apply bdrew | with_reducible apply bdrewN | with_reducible apply balloc | ((with_reducible refine bset ?_ ?_ _); rotate_left; (first | omega | (simp <;> omega))))); (case p6 => simp [Cls, go_sem, F4, y4w0, y4wp1, y4wp2]); (case p7 => (simp <;> omega)); intro v5 w5 o5 D5 C5 sz5; have d5s := D5.size; have F5 := C5; simp only [Cls, and_true] at F5; have y5w0 : w.heap.size < w5.heap.size := C5.blk (b := w.heap.size) (k := 0) (v := .int .i64 t.facts) (by simp); have y5wp1 : w.heap.size < w5.heap.size + 1 := (by omega); have y5wp2 : w.heap.size < w5.heap.size + 1 + 1 := (by omega)))
          go_roundw
          case rel => exact ⟨k + 1, by omega, by go_num, by rw [← HL.out]; exact o5, (by repeat (first | with_reducible exact D5 | with_reducible apply bdrew | with_reducible apply bdrewN | with_reducible apply balloc | ((with_reducible refine bset ?_ ?_ _); rotate_left; (first | omega | (simp <;> omega))))), (by simp [Cls, go_sem, F5, y5w0, y5wp1, y5wp2])⟩
          case measure => simp [intOf]; omega
    · have hltf : ¬ (k : Int) < t.facts := by have := HN.out; omega
      obtain rfl : k = n := by omega
      go_wp2
      go_ret
      exact ⟨_, rfl, OwnI.mono hown (by omega), by repeat (first | with_reducible exact hBr | with_reducible apply bdrew | with_reducible apply bdrewN | with_reducible apply balloc | ((with_reducible refine bset ?_ ?_ _); rotate_left; (first | omega | (simp <;> omega))))⟩


end Go.Proofs.Ytiaokmofoaeifaa

namespace Go.Proofs.Ytiaokmofoaeifaa
open Go.RowKit
set_option linter.unusedVariables false
set_option linter.unusedSimpArgs false

set_option maxRecDepth 100000 in
set_option maxHeartbeats 400000 in
theorem lfacts_1 (w : World) (t : TaskV) (Ai Ag Ao : Option Addr) (ci cg co : Nat) (hT : TaskMem w Ai Ag Ao t) (h : ¬ (tfault t).1 = 0) :
    Calls Try.prog 25 #[.agg #[.int .i64 t.facts, .slice Ai t.init.length ci, .slice Ag t.goal.length cg, .slice Ao t.ops.length co]] w fun e w' => e = .returned (.tuple #[.slice none 0 0, .agg #[.int .i64 (tfault t).1, .int .i64 (tfault t).2]]) ∧ Below w.heap.size w w' := by
  have N := bb_no h
  have N' := bn_yes h
  go_enter Try.func25, Try.ntmps25
  go_wp2_with fail
  refine (validate_any _ _ _ _ _ _ _ _ (hT.below (by repeat (first | with_reducible exact Below.refl _ _ | with_reducible apply bdrew | with_reducible apply bdrewN | with_reducible apply balloc | ((with_reducible refine bset ?_ ?_ _); rotate_left; (first | omega | (simp <;> omega))))))).mono ?_
  rintro e w1 ⟨rfl, hB1⟩
  have D1 := dstep w hB1 (by repeat (first | with_reducible exact Below.refl _ _ | with_reducible apply bdrew | with_reducible apply bdrewN | with_reducible apply balloc | ((with_reducible refine bset ?_ ?_ _); rotate_left; (first | omega | (simp <;> omega)))))
  have d1s := D1.size
  have C1 := Cls.below (l := [(w.heap.size, 0, .int .i64 t.facts), (w.heap.size, 1, .slice Ai t.init.length ci), (w.heap.size, 2, .slice Ag t.goal.length cg), (w.heap.size, 3, .slice Ao t.ops.length co), (w.heap.size + 1, 0, .int .i64 0), (w.heap.size + 1, 1, .int .i64 0)]) hB1 (by simp [Cls, go_sem])
  have F1 := C1
  simp only [Cls, and_true] at F1
  have y1w1 : w.heap.size + 1 < w1.heap.size := C1.blk (b := w.heap.size + 1) (k := 0) (v := .int .i64 0) (by simp)
  have y1w0 : w.heap.size < w1.heap.size := (by omega)
  have y1wp1 : w.heap.size < w1.heap.size + 1 := (by omega)
  have y1wp2 : w.heap.size < w1.heap.size + 1 + 1 := (by omega)
  go_wp2_with fail
  refine region_still_tail 2 (by kernel_rfl) (by kernel_rfl) ?_
  simp only [List.take_succ_cons, List.take_zero, List.drop_succ_cons, List.drop_zero]
  repeat still_step
  refine wpStill_nil ?_
  go_wp2
  refine bodyPost_ret (v := .tuple #[.slice none 0 0, .agg #[.int .i64 (tfault t).1, .int .i64 (tfault t).2]]) ?_ rfl ⟨rfl, by repeat (first | with_reducible exact D1 | with_reducible apply bdrew | with_reducible apply bdrewN | with_reducible apply balloc | ((with_reducible refine bset ?_ ?_ _); rotate_left; (first | omega | (simp <;> omega))))⟩
  simp [results, Try.results25, go_sem, F1, y1w1, y1w0, y1wp1, y1wp2]

set_option maxRecDepth 100000 in
set_option maxHeartbeats 2000000 in
theorem lfacts_2 (w : World) (t : TaskV) (Ai Ag Ao : Option Addr) (ci cg co : Nat) (hT : TaskMem w Ai Ag Ao t) (n : Nat) (hn : t.facts = n) (hv : Valid t) :
    Calls Try.prog 25 #[.agg #[.int .i64 t.facts, .slice Ai t.init.length ci, .slice Ag t.goal.length cg, .slice Ao t.ops.length co]] w fun e w' => ∃ v, e = .returned (.tuple #[v, .agg #[.int .i64 0, .int .i64 0]]) ∧ OwnI w.heap.size w' v (landV n t) ∧ Below w.heap.size w w' := by
  have HT0 := Lib.hid (tfault_valid hv)
  have HN := Lib.hid hn
  have HV := Lib.hid hv
  clear hv hn
  go_enter Try.func25, Try.ntmps25
  go_wp2_with fail
  refine (validate_any _ _ _ _ _ _ _ _ (hT.below (by repeat (first | with_reducible exact Below.refl _ _ | with_reducible apply bdrew | with_reducible apply bdrewN | with_reducible apply balloc | ((with_reducible refine bset ?_ ?_ _); rotate_left; (first | omega | (simp <;> omega))))))).mono ?_
  rintro e w1 ⟨he, hB1⟩
  rw [HT0.out] at he
  subst he
  have D1 := dstep w hB1 (by repeat (first | with_reducible exact Below.refl _ _ | with_reducible apply bdrew | with_reducible apply bdrewN | with_reducible apply balloc | ((with_reducible refine bset ?_ ?_ _); rotate_left; (first | omega | (simp <;> omega)))))
  have d1s := D1.size
  have C1 := Cls.below (l := [(w.heap.size, 0, .int .i64 t.facts), (w.heap.size, 1, .slice Ai t.init.length ci), (w.heap.size, 2, .slice Ag t.goal.length cg), (w.heap.size, 3, .slice Ao t.ops.length co), (w.heap.size + 1, 0, .int .i64 0), (w.heap.size + 1, 1, .int .i64 0)]) hB1 (by simp [Cls, go_sem])
  have F1 := C1
  simp only [Cls, and_true] at F1
  have y1w1 : w.heap.size + 1 < w1.heap.size := C1.blk (b := w.heap.size + 1) (k := 0) (v := .int .i64 0) (by simp)
  have y1w0 : w.heap.size < w1.heap.size := (by omega)
  have y1wp1 : w.heap.size < w1.heap.size + 1 := (by omega)
  have y1wp2 : w.heap.size < w1.heap.size + 1 + 1 := (by omega)
  have hne1 : ¬ w.heap.size + 1 = w1.heap.size := by omega
  have hne2 : ¬ w1.heap.size = w.heap.size + 1 := by omega
  go_wp2_with fail
  go_region_held3 (fun W => W.cell? ⟨w.heap.size, 0, none⟩ = some (.int .i64 t.facts) ∧ W.cell? ⟨w.heap.size, 1, none⟩ = some (.slice Ai t.init.length ci) ∧ W.cell? ⟨w.heap.size, 2, none⟩ = some (.slice Ag t.goal.length cg) ∧ W.cell? ⟨w.heap.size, 3, none⟩ = some (.slice Ao t.ops.length co) ∧ W.cell? ⟨w1.heap.size, 0, none⟩ = some (.int .i64 0) ∧ W.cell? ⟨w1.heap.size, 1, none⟩ = some (.int .i64 0)) (first | exact hK | go_keep) (first | (go_at_call 58; refine (facts_any _ t Ai Ag Ao ci cg co (hT.below (by repeat (first | with_reducible exact D1 | with_reducible apply bdrew | with_reducible apply bdrewN | with_reducible apply balloc | ((with_reducible refine bset ?_ ?_ _); rotate_left; (first | omega | (simp <;> omega)))))) n HN.out HV.out).mono ?_; rintro e w2 ⟨v2, rfl, ho2, hB2⟩; have D2 := dstep w hB2 (by repeat (first | with_reducible exact D1 | with_reducible apply bdrew | with_reducible apply bdrewN | with_reducible apply balloc | ((with_reducible refine bset ?_ ?_ _); rotate_left; (first | omega | (simp <;> omega))))); have C2 := Cls.below (l := [(w.heap.size, 0, .int .i64 t.facts), (w.heap.size, 1, .slice Ai t.init.length ci), (w.heap.size, 2, .slice Ag t.goal.length cg), (w.heap.size, 3, .slice Ao t.ops.length co), (w.heap.size + 1, 0, .int .i64 0), (w.heap.size + 1, 1, .int .i64 0), (w1.heap.size, 0, .int .i64 0), (w1.heap.size, 1, .int .i64 0)]) hB2 (by simp [Cls, go_sem, F1, y1w1, y1w0, y1wp1, y1wp2]); have F2 := C2; simp only [Cls, and_true] at F2; have hK : w2.cell? ⟨w.heap.size, 0, none⟩ = some (.int .i64 t.facts) ∧ w2.cell? ⟨w.heap.size, 1, none⟩ = some (.slice Ai t.init.length ci) ∧ w2.cell? ⟨w.heap.size, 2, none⟩ = some (.slice Ag t.goal.length cg) ∧ w2.cell? ⟨w.heap.size, 3, none⟩ = some (.slice Ao t.ops.length co) ∧ w2.cell? ⟨w1.heap.size, 0, none⟩ = some (.int .i64 0) ∧ w2.cell? ⟨w1.heap.size, 1, none⟩ = some (.int .i64 0) := (by simp [F2]); have hq2 := C2.blk (b := w1.heap.size) (k := 0) (v := .int .i64 0) (by simp)))
  all_goals
    have hq0 : w.heap.size < w2.heap.size := by have := C2.blk (b := w.heap.size) (k := 0) (v := .int .i64 t.facts) (by simp); omega
    have hq1 : w.heap.size + 1 < w2.heap.size := by have := C2.blk (b := w.heap.size + 1) (k := 0) (v := .int .i64 0) (by simp); omega
    go_wp2
    refine bodyPost_ret (v := .tuple #[v2, .agg #[.int .i64 0, .int .i64 0]]) ?_ rfl ⟨_, rfl, ?_, by repeat (first | with_reducible exact D2 | with_reducible apply bdrew | with_reducible apply bdrewN | with_reducible apply balloc | ((with_reducible refine bset ?_ ?_ _); rotate_left; (first | omega | (simp <;> omega))))⟩
    · simp [results, Try.results25, go_sem, F2, hq0, hq1, hq2]
    · refine OwnI.mono (base := w1.heap.size) ?_ (by omega)
      have ho3 := OwnI.mono (base' := w1.heap.size) ho2 (by simp)
      repeat (first | with_reducible exact ho3 | (with_reducible refine OwnI.far ?_ ?_ _; rotate_left; (first | omega | (simp; omega))))


end Go.Proofs.Ytiaokmofoaeifaa
