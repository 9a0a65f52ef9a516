/-
  hitting.Bound: the sets and costs of the cuts, plain.
  hitting.Bound: what it returns.
  The least cost of a hitting set for cuts lies between the costs of the cuts and those of relaxed plans: plain.
  The list of cuts is determined: plain.
  The operators and the sets of a law on cuts, as the law makes them: plain.
-/
import Derived.Test.YtihkgdlanfemcaaY11
import Derived.Test.YtihkgdlanfemcaaY13
import Derived.Test.YtihkgdlanfemcaaY9
import Derived.Test.YtihkgdlanfemcaaY1
import Derived.Test.YtihkgdlanfemcaaY2
import Derived.Test.YtihkgdlanfemcaaY16
import Derived.Test.YtihkgdlanfemcaaY15
namespace Go.Proofs.Ytihkgdlanfemcaa
open Go.RowKit
set_option linter.unusedVariables false
set_option linter.unusedSimpArgs false

theorem llr_of_own {base n c : Nat} {w : World} {A : Option Addr} {rows : List (List Int)} (h : OwnLL base w (.slice A n c) rows) : LLR w A rows := fun i r hr => by
  obtain ⟨g, cs, a, rfl, _, _, ha, hcl, hc, A0, c0, e, hI, _⟩ := OwnEs.at_ h (i := i) (List.getElem?_eq_some_iff.1 hr).1
  have hra : a = r := by have := ha.out; rw [hr] at this; injection this with this; exact this.symm
  subst hra
  subst e
  have hadd : (⟨g, 0, none⟩ : Addr).add i = ⟨g, i * 1, none⟩ := by
    rw [Nat.mul_one]
    unfold Addr.add
    split
    · rename_i hj; rw [hj]
    · simp
  exact ⟨_, A0, c0, rfl, by rw [hadd]; exact hc 0 _ rfl, hI⟩
theorem get_of {l : List Int} {k : Nat} {x : Int} (h : l[k]? = some x) : ∃ hk : k < l.length, l[k] = x := List.getElem?_eq_some_iff.1 h
/-- All operators of the first k cuts. -/
def allOps (xs : List (List Int × Int)) (k : Nat) : List Int := (xs.take k).flatMap (·.1)
theorem allOps_zero (xs : List (List Int × Int)) : allOps xs 0 = [] := by simp [allOps]
theorem allOps_succ {xs : List (List Int × Int)} {k : Nat} {x : List Int × Int} (h : xs[k]? = some x) : allOps xs (k + 1) = allOps xs k ++ x.1 := by
  unfold allOps
  rw [List.take_add_one, h, List.flatMap_append]
  simp
theorem allOps_len {xs : List (List Int × Int)} {m : Nat} (h : ∀ c ∈ xs, c.1.length ≤ m) (k : Nat) : (allOps xs k).length ≤ k * m := by
  induction k with
  | zero => simp [allOps]
  | succ k ih =>
    rcases Nat.lt_or_ge k xs.length with hk | hk
    · have e := List.getElem?_eq_getElem hk
      rw [allOps_succ e, List.length_append, Nat.succ_mul]
      have := h _ (List.getElem_mem hk)
      omega
    · have e : allOps xs (k + 1) = allOps xs k := by unfold allOps; rw [List.take_of_length_le (by omega), List.take_of_length_le hk]
      rw [e, Nat.succ_mul]; omega
theorem allOps_mem {xs : List (List Int × Int)} {x : Int} : x ∈ allOps xs xs.length ↔ ∃ c ∈ xs, x ∈ c.1 := by
  unfold allOps
  rw [List.take_length, List.mem_flatMap]
/-- The operators of the cuts, in order. -/
def usedV (xs : List (List Int × Int)) : List Int := Lib.compact (sortV (allOps xs xs.length))
theorem usedV_mem {xs : List (List Int × Int)} {x : Int} : x ∈ usedV xs ↔ ∃ c ∈ xs, x ∈ c.1 := by
  unfold usedV
  rw [(compact_of (sortV_le _)).2, sortV_mem, allOps_mem]
theorem usedV_lt (xs : List (List Int × Int)) : (usedV xs).Pairwise (· < ·) := (compact_of (sortV_le _)).1
theorem usedV_len (xs : List (List Int × Int)) : (usedV xs).length ≤ (allOps xs xs.length).length := by
  have h := compact_len (sortV (allOps xs xs.length))
  rw [sortV_len] at h
  exact h
/-- The place of an element. -/
def ixV (U : List Int) (x : Int) : Nat := U.idxOf x
theorem ixV_at {U : List Int} {x : Int} (h : x ∈ U) : U[ixV U x]? = some x := by
  have h1 : U.idxOf x < U.length := List.idxOf_lt_length_of_mem h
  unfold ixV
  rw [List.getElem?_eq_getElem h1, List.getElem_idxOf h1]
theorem sorted_inj {U : List Int} (hs : U.Pairwise (· < ·)) {i j : Nat} {x : Int} (hi : U[i]? = some x) (hj : U[j]? = some x) : i = j := by
  obtain ⟨a1, rfl⟩ := get_of hi
  obtain ⟨a2, b2⟩ := get_of hj
  rcases Nat.lt_trichotomy i j with h | h | h
  · have := List.pairwise_iff_getElem.1 hs i j a1 a2 h; omega
  · exact h
  · have := List.pairwise_iff_getElem.1 hs j i a2 a1 h; omega
/-- What the search finds. -/
theorem bin_ix {U : List Int} {x : Int} {k : Nat} (hs : U.Pairwise (· < ·)) (hx : x ∈ U) (h1 : ∀ j : Nat, ∀ y : Int, j < k → U[j]? = some y → y < x) (h2 : ∀ j : Nat, ∀ y : Int, k ≤ j → U[j]? = some y → x ≤ y) : k = ixV U x := by
  have h3 := ixV_at hx
  have h4 : k ≤ ixV U x := by
    rcases Nat.lt_or_ge (ixV U x) k with h | h
    · have := h1 _ _ h h3; omega
    · exact h
  rcases Nat.lt_or_ge k (ixV U x) with h | h
  · obtain ⟨a1, b1⟩ := get_of h3
    have h5 := h2 k _ (Nat.le_refl _) (List.getElem?_eq_getElem (by omega))
    have h6 := List.pairwise_iff_getElem.1 hs k (ixV U x) (by omega) a1 h
    omega
  · omega
/-- A cut as a set of places. -/
def setV (U C : List Int) : List Int := C.map fun x => ((ixV U x : Nat) : Int)
theorem setV_len (U C : List Int) : (setV U C).length = C.length := by unfold setV; rw [List.length_map]
theorem setV_succ {U C : List Int} {k : Nat} {x : Int} (h : C[k]? = some x) : setV U (C.take (k + 1)) = setV U (C.take k) ++ [((ixV U x : Nat) : Int)] := by
  unfold setV; rw [List.take_add_one, h, List.map_append]; rfl
theorem setV_mem {U C : List Int} (hs : U.Pairwise (· < ·)) (hC : ∀ x ∈ C, x ∈ U) {e : Nat} : (e : Int) ∈ setV U C ↔ ∃ x ∈ C, U[e]? = some x := by
  unfold setV
  rw [List.mem_map]
  constructor
  · rintro ⟨x, hx, he⟩
    have : ixV U x = e := by omega
    exact ⟨x, hx, by rw [← this]; exact ixV_at (hC x hx)⟩
  · rintro ⟨x, hx, he⟩
    exact ⟨x, hx, by rw [sorted_inj hs (ixV_at (hC x hx)) he]⟩
def setsV (U : List Int) (xs : List (List Int × Int)) : List (List Int) := xs.map fun c => setV U c.1
theorem setsV_succ {U : List Int} {xs : List (List Int × Int)} {k : Nat} {x : List Int × Int} (h : xs[k]? = some x) : setsV U (xs.take (k + 1)) = setsV U (xs.take k) ++ [setV U x.1] := by
  unfold setsV; rw [List.take_add_one, h, List.map_append]; rfl
theorem setsV_len (U : List Int) (xs : List (List Int × Int)) : (setsV U xs).length = xs.length := by unfold setsV; rw [List.length_map]
/-- The costs of operators. -/
def costsV (ops : List OpV) (U : List Int) : List Int := U.map (valAt (ops.map (·.cost)))
theorem costsV_len (ops : List OpV) (U : List Int) : (costsV ops U).length = U.length := by unfold costsV; rw [List.length_map]
theorem costsV_succ {ops : List OpV} {U : List Int} {k : Nat} {x : Int} (h : U[k]? = some x) : costsV ops (U.take (k + 1)) = costsV ops (U.take k) ++ [valAt (ops.map (·.cost)) x] := by
  unfold costsV; rw [List.take_add_one, h, List.map_append]; rfl
theorem cost_at {ops : List OpV} {x : Int} {o : OpV} (h : ops[x.toNat]? = some o) : valAt (ops.map (·.cost)) x = o.cost := valAt_of (by rw [List.getElem?_map, h]; rfl)
theorem costsV_in {t : TaskV} {U : List Int} (hv : Valid t) (hU : ∀ x ∈ U, 0 ≤ x ∧ x < (t.ops.length : Int)) : CostsIn (costsV t.ops U) := fun c hc => by
  unfold costsV at hc
  obtain ⟨x, hx, rfl⟩ := List.mem_map.1 hc
  have h1 := hU x hx
  have e := List.getElem?_eq_getElem (show x.toNat < t.ops.length by omega)
  rw [cost_at e]
  have := (hv.ops _ (List.mem_of_getElem? e)).2
  omega

end Go.Proofs.Ytihkgdlanfemcaa

namespace Go.Proofs.Ytihkgdlanfemcaa
open Go.RowKit
set_option linter.unusedVariables false
set_option linter.unusedSimpArgs false

set_option maxRecDepth 100000 in
set_option maxHeartbeats 1000000 in
theorem bound_1 (w : World) (t : TaskV) (Ai Ag Ao : Option Addr) (ci cg co : Nat) (hT : TaskMem w Ai Ag Ao t) (S : Option Addr) (cs : Nat) (st : List Int) (hS : Ints w S st) (hls : lenOk st.length) (h : ¬ (sfault t st).1 = 0) :
    Calls Try.prog 54 #[.agg #[.int .i64 t.facts, .slice Ai t.init.length ci, .slice Ag t.goal.length cg, .slice Ao t.ops.length co], .slice S st.length cs] w fun e w' => e = .returned (.tuple #[.int .i64 0, .agg #[.int .i64 (sfault t st).1, .int .i64 (sfault t st).2]]) ∧ Below w.heap.size w w' := by
  have N := bb_no h
  have N' := bn_yes h
  go_enter Try.func54, Try.ntmps54
  go_wp2_with fail
  refine (cuts_1 _ t Ai Ag Ao ci cg co (hT.below (by repeat (first | with_reducible exact Below.refl _ _ | with_reducible apply bdrew | with_reducible apply bdrewN | with_reducible apply balloc | ((with_reducible refine bset ?_ ?_ _); rotate_left; (first | omega | (simp <;> omega)))))) S cs st (hS.below (by repeat (first | with_reducible exact Below.refl _ _ | with_reducible apply bdrew | with_reducible apply bdrewN | with_reducible apply balloc | ((with_reducible refine bset ?_ ?_ _); rotate_left; (first | omega | (simp <;> omega)))))) hls h).mono ?_
  rintro e w1 ⟨rfl, hB1⟩
  have D1 := dstep w hB1 (by repeat (first | with_reducible exact Below.refl _ _ | with_reducible apply bdrew | with_reducible apply bdrewN | with_reducible apply balloc | ((with_reducible refine bset ?_ ?_ _); rotate_left; (first | omega | (simp <;> omega)))))
  have d1s := D1.size
  have C1 := Cls.below (l := [(w.heap.size, 0, .int .i64 t.facts), (w.heap.size, 1, .slice Ai t.init.length ci), (w.heap.size, 2, .slice Ag t.goal.length cg), (w.heap.size, 3, .slice Ao t.ops.length co), (w.heap.size + 1, 0, .int .i64 0), (w.heap.size + 1, 1, .int .i64 0)]) hB1 (by simp [Cls, go_sem])
  have F1 := C1
  simp only [Cls, and_true] at F1
  have y1w1 : w.heap.size + 1 < w1.heap.size := C1.blk (b := w.heap.size + 1) (k := 0) (v := .int .i64 0) (by simp)
  have y1w0 : w.heap.size < w1.heap.size := (by omega)
  have y1wp1 : w.heap.size < w1.heap.size + 1 := (by omega)
  have y1wp2 : w.heap.size < w1.heap.size + 1 + 1 := (by omega)
  go_wp2_with fail
  refine region_still_tail 3 (by kernel_rfl) (by kernel_rfl) ?_
  simp only [List.take_succ_cons, List.take_zero, List.drop_succ_cons, List.drop_zero]
  repeat still_step
  refine wpStill_nil ?_
  go_wp2
  refine bodyPost_ret (v := .tuple #[.int .i64 0, .agg #[.int .i64 (sfault t st).1, .int .i64 (sfault t st).2]]) ?_ rfl ⟨rfl, by repeat (first | with_reducible exact D1 | with_reducible apply bdrew | with_reducible apply bdrewN | with_reducible apply balloc | ((with_reducible refine bset ?_ ?_ _); rotate_left; (first | omega | (simp <;> omega))))⟩
  simp [results, Try.results54, go_sem, F1, y1w1, y1w0, y1wp1, y1wp2]

set_option maxRecDepth 100000 in
set_option maxHeartbeats 1000000 in
theorem bound_no (w : World) (t : TaskV) (Ai Ag Ao : Option Addr) (ci cg co : Nat) (hT : TaskMem w Ai Ag Ao t) (S : Option Addr) (cs : Nat) (st : List Int) (hS : Ints w S st) (hls : lenOk st.length) (n : Nat) (hn : t.facts = n) (hv : Valid t) (h2 : SetP st t.facts) (hre : ¬ GoalR t st) :
    Calls Try.prog 54 #[.agg #[.int .i64 t.facts, .slice Ai t.init.length ci, .slice Ag t.goal.length cg, .slice Ao t.ops.length co], .slice S st.length cs] w fun e w' => e = .returned (.tuple #[.int .i64 1000000000, .agg #[.int .i64 0, .int .i64 0]]) ∧ Below w.heap.size w w' := by
  have HN := Lib.hid hn
  have HV := Lib.hid hv
  have H2 := Lib.hid h2
  have HRE := Lib.hid hre
  clear hv h2 hn hre
  go_enter Try.func54, Try.ntmps54
  go_wp2_with fail
  refine (cuts_no _ t Ai Ag Ao ci cg co (hT.below (by repeat (first | with_reducible exact Below.refl _ _ | with_reducible apply bdrew | with_reducible apply bdrewN | with_reducible apply balloc | ((with_reducible refine bset ?_ ?_ _); rotate_left; (first | omega | (simp <;> omega)))))) S cs st (hS.below (by repeat (first | with_reducible exact Below.refl _ _ | with_reducible apply bdrew | with_reducible apply bdrewN | with_reducible apply balloc | ((with_reducible refine bset ?_ ?_ _); rotate_left; (first | omega | (simp <;> omega)))))) hls n HN.out HV.out H2.out HRE.out).mono ?_
  rintro e w1 ⟨rfl, hB1⟩
  have D1 := dstep w hB1 (by repeat (first | with_reducible exact Below.refl _ _ | with_reducible apply bdrew | with_reducible apply bdrewN | with_reducible apply balloc | ((with_reducible refine bset ?_ ?_ _); rotate_left; (first | omega | (simp <;> omega)))))
  have d1s := D1.size
  have C1 := Cls.below (l := [(w.heap.size, 0, .int .i64 t.facts), (w.heap.size, 1, .slice Ai t.init.length ci), (w.heap.size, 2, .slice Ag t.goal.length cg), (w.heap.size, 3, .slice Ao t.ops.length co), (w.heap.size + 1, 0, .int .i64 0), (w.heap.size + 1, 1, .int .i64 0)]) hB1 (by simp [Cls, go_sem])
  have F1 := C1
  simp only [Cls, and_true] at F1
  have y1w1 : w.heap.size + 1 < w1.heap.size := C1.blk (b := w.heap.size + 1) (k := 0) (v := .int .i64 0) (by simp)
  have y1w0 : w.heap.size < w1.heap.size := (by omega)
  have y1wp1 : w.heap.size < w1.heap.size + 1 := (by omega)
  have y1wp2 : w.heap.size < w1.heap.size + 1 + 1 := (by omega)
  go_wp2_with fail
  refine region_still_tail 3 (by kernel_rfl) (by kernel_rfl) ?_
  simp only [List.take_succ_cons, List.take_zero, List.drop_succ_cons, List.drop_zero]
  repeat still_step
  refine wpStill_nil ?_
  go_wp2
  refine bodyPost_ret (v := .tuple #[.int .i64 1000000000, .agg #[.int .i64 0, .int .i64 0]]) ?_ rfl ⟨rfl, by repeat (first | with_reducible exact D1 | with_reducible apply bdrew | with_reducible apply bdrewN | with_reducible apply balloc | ((with_reducible refine bset ?_ ?_ _); rotate_left; (first | omega | (simp <;> omega))))⟩
  simp [results, Try.results54, go_sem, F1, y1w1, y1w0, y1wp1, y1wp2]

/-- What is known of the cuts. -/
structure CutsIn (t : TaskV) (xs : List (List Int × Int)) : Prop where
  set : ∀ c ∈ xs, SetP c.1 (t.ops.length : Int)
  ne : ∀ c ∈ xs, c.1 ≠ []
  len : ∀ c ∈ xs, c.1.length ≤ 40
  num : xs.length ≤ 4000
  tot : 0 ≤ totalOf xs ∧ totalOf xs ≤ 4000
theorem cuts_in {n : Nat} {t : TaskV} {st : List Int} {xs : List (List Int × Int)} (hv : Valid t) (h : CutsOk n st t.goal t.ops (t.ops.map (·.cost)) xs) : CutsIn t xs := by
  have hs : ∀ c ∈ xs, SetP c.1 (t.ops.length : Int) := fun c hc => by
    obtain ⟨k, hk⟩ := List.getElem?_of_mem hc
    exact (h k c hk).set
  have h40 := hv.nops
  have h1 := h.total (by rw [List.length_map]) xs.length (Nat.le_refl _)
  rw [List.take_length] at h1
  have h2 := sumV_le (V := t.ops.map (·.cost)) (fun c hc => by obtain ⟨o, ho, rfl⟩ := List.mem_map.1 hc; exact (hv.ops o ho).2)
  rw [List.length_map] at h2
  refine ⟨hs, fun c hc => ?_, fun c hc => ?_, ?_, ?_⟩
  · obtain ⟨k, hk⟩ := List.getElem?_of_mem hc
    exact (h k c hk).ne
  · have := (hs c hc).length (by omega); omega
  · omega
  · omega
set_option maxRecDepth 100000 in
set_option maxHeartbeats 4000000 in
theorem bound_yes (w : World) (t : TaskV) (Ai Ag Ao : Option Addr) (ci cg co : Nat) (hT : TaskMem w Ai Ag Ao t) (S : Option Addr) (cs : Nat) (st : List Int) (hS : Ints w S st) (hls : lenOk st.length) (n : Nat) (hn : t.facts = n) (hv : Valid t) (h2 : SetP st t.facts) (hre : GoalR t st) :
    Calls Try.prog 54 #[.agg #[.int .i64 t.facts, .slice Ai t.init.length ci, .slice Ag t.goal.length cg, .slice Ao t.ops.length co], .slice S st.length cs] w fun e w' => ∃ xs, CutsOk n st t.goal t.ops (t.ops.map (·.cost)) xs ∧ Best false n st t.ops (leftOf (t.ops.map (·.cost)) xs) (valuesV false n st t.ops (leftOf (t.ops.map (·.cost)) xs)) ∧ combV false (valuesV false n st t.ops (leftOf (t.ops.map (·.cost)) xs)) t.goal = 0 ∧ (((16 < xs.length ∨ 16 < (usedV xs).length) ∧ e = .returned (.tuple #[.int .i64 0, .agg #[.int .i64 10, .int .i64 (-8)]])) ∨ (¬ (16 < xs.length ∨ 16 < (usedV xs).length) ∧ ∃ (c : Int) (v : Nat), e = .returned (.tuple #[.int .i64 c, .agg #[.int .i64 0, .int .i64 0]]) ∧ Cho (costW (costsV t.ops (usedV xs))) (AllHit (setsV (usedV xs) xs) (2 ^ (costsV t.ops (usedV xs)).length)) c v)) ∧ Below w.heap.size w w' := by
  have HN := Lib.hid hn
  have HV := Lib.hid hv
  have H2 := Lib.hid h2
  have HRE := Lib.hid hre
  clear hv h2 hn hre
  go_enter Try.func54, Try.ntmps54
  go_wp2_with fail
  refine (cuts_yes _ t Ai Ag Ao ci cg co (hT.below (by repeat (first | with_reducible exact Below.refl _ _ | with_reducible apply bdrew | with_reducible apply bdrewN | with_reducible apply balloc | ((with_reducible refine bset ?_ ?_ _); rotate_left; (first | omega | (simp <;> omega)))))) S cs st (hS.below (by repeat (first | with_reducible exact Below.refl _ _ | with_reducible apply bdrew | with_reducible apply bdrewN | with_reducible apply balloc | ((with_reducible refine bset ?_ ?_ _); rotate_left; (first | omega | (simp <;> omega)))))) hls n HN.out HV.out H2.out HRE.out).mono ?_
  rintro e w1 ⟨v1, xs, bs, rfl, hbs, hcs, hok, hbest, hz, hB1⟩
  have D1 := dstep w hB1 (by repeat (first | with_reducible exact Below.refl _ _ | with_reducible apply bdrew | with_reducible apply bdrewN | with_reducible apply balloc | ((with_reducible refine bset ?_ ?_ _); rotate_left; (first | omega | (simp <;> omega)))))
  have d1s := D1.size
  have C1 := Cls.below (l := [(w.heap.size, 0, .int .i64 t.facts), (w.heap.size, 1, .slice Ai t.init.length ci), (w.heap.size, 2, .slice Ag t.goal.length cg), (w.heap.size, 3, .slice Ao t.ops.length co), (w.heap.size + 1, 0, .int .i64 0), (w.heap.size + 1, 1, .int .i64 0)]) hB1 (by simp [Cls, go_sem])
  have F1 := C1
  simp only [Cls, and_true] at F1
  have y1w1 : w.heap.size + 1 < w1.heap.size := C1.blk (b := w.heap.size + 1) (k := 0) (v := .int .i64 0) (by simp)
  have y1w0 : w.heap.size < w1.heap.size := (by omega)
  have y1wp1 : w.heap.size < w1.heap.size + 1 := (by omega)
  have y1wp2 : w.heap.size < w1.heap.size + 1 + 1 := (by omega)
  have Hok := Lib.hid hok
  have Hbest := Lib.hid hbest
  have Hz := Lib.hid hz
  obtain ⟨i1, i2, i3, i4, i5⟩ := cuts_in HV.out hok
  have I1 := Lib.hid i1
  have I3 := Lib.hid i3
  have htot : (totalOf xs == 1000000000) = false := by simp; omega
  have h40 := HV.out.nops
  have hU : ∀ x ∈ usedV xs, 0 ≤ x ∧ x < (t.ops.length : Int) := fun x hx => by
    obtain ⟨c, hc, hx2⟩ := usedV_mem.1 hx
    exact (i1 c hc).1 x hx2
  have HU := Lib.hid hU
  have hAL : ∀ k, (allOps xs k).length ≤ k * 40 := allOps_len i3
  have HAL := Lib.hid hAL
  have hUl : (usedV xs).length ≤ 160000 := by have h1 := usedV_len xs; have h2 := hAL xs.length; omega
  obtain ⟨A3, c3, rfl⟩ := OwnEs.form hcs
  have Dw1 := D1
  clear hok hbest hz i1 i2 i3 hU hAL
  go_wp2_with fail
  go_loopw [9, 41] (fun sv x wr => ∃ (k : Nat) (vj : Value), k ≤ xs.length ∧ x = .int .i64 k ∧ vj = sv ∧ OwnI (w1.heap.size + 1) wr vj (allOps xs k) ∧ Below w1.heap.size w1 wr) (fun _ x _ => xs.length - (intOf x).toNat)
  case atStart => exact ⟨0, _, Nat.zero_le _, rfl, rfl, (by rw [allOps_zero]; exact OwnI.nil _ _), (by repeat (first | with_reducible exact Below.refl _ _ | with_reducible apply bdrew | with_reducible apply bdrewN | with_reducible apply balloc | ((with_reducible refine bset ?_ ?_ _); rotate_left; (first | omega | (simp <;> omega)))))⟩
  case round =>
    obtain ⟨k, vj, hk, rfl, rfl, hown, hBr⟩ := hrel
    obtain ⟨w2, rfl⟩ : ∃ wo : World, wo = wr := ⟨_, rfl⟩
    have d2s := hBr.size
    have C2 := C1.below hBr
    have F2 := C2
    simp only [Cls, and_true] at F2
    have y2w1 : w.heap.size + 1 < w2.heap.size := C2.blk (b := w.heap.size + 1) (k := 0) (v := .int .i64 0) (by simp)
    have y2w0 : w.heap.size < w2.heap.size := (by omega)
    have y2wp1 : w.heap.size < w2.heap.size + 1 := (by omega)
    have y2wp2 : w.heap.size < w2.heap.size + 1 + 1 := (by omega)
    by_cases hlt : k < xs.length
    · obtain ⟨g, cs', x, e3, hgb, hgl, hx, hcl, hcell, hpc⟩ := OwnEs.at_ (OwnCs.below hcs hBr) (i := k) hlt
      subst e3
      obtain ⟨A', c', rfl, hJ, hJn⟩ := hpc.form
      have hcr0 : w2.cell? ⟨g, k * 2, none⟩ = some (.slice A' x.1.length c') := by have := hcell 0 _ rfl; simpa using this
      have hcr1 : w2.cell? ⟨g, k * 2 + 1, none⟩ = some (.int .i64 x.2) := hcell 1 _ rfl
      have HNX := Lib.hid (allOps_succ hx.out)
      have hl1 : (allOps xs k).length + x.1.length ≤ 1000000000000 := by
        have h1 := HAL.out k
        have h2 := I3.out x (List.mem_of_getElem? hx.out)
        have : k * 40 ≤ 4000 * 40 := Nat.mul_le_mul_right _ (by omega)
        omega
      have HJN := Lib.hid (fun e : A' = none => (hJn e).2)
      clear hcell hcl hJn
      go_wp2_with (at_builtin; go_must (refine wpList_cat rfl (.tmp 45) (.tmp 47) rfl w1 [] (w1.heap.size + 1) vj _ rfl (hown.below ?p0) A' c' _ x.1 rfl rfl HJN.out ?p1 hl1 ?p3 ?p4 ?p5 trivial ?p6 ?_; (case p0 => repeat (first | with_reducible exact Below.refl _ _ | with_reducible apply bdrew | with_reducible apply bdrewN | with_reducible apply balloc | ((with_reducible refine bset ?_ ?_ _); rotate_left; (first | omega | (simp <;> omega))))); (case p1 => exact hJ.below (by repeat (first | with_reducible exact Below.refl _ _ | with_reducible apply bdrew | with_reducible apply bdrewN | with_reducible apply balloc | ((with_reducible refine bset ?_ ?_ _); rotate_left; (first | omega | (simp <;> omega)))))); (case p3 => (simp <;> omega)); (case p4 => omega); (case p5 => repeat (first | with_reducible exact hBr | with_reducible apply bdrew | with_reducible apply bdrewN | with_reducible apply balloc | ((with_reducible refine bset ?_ ?_ _); rotate_left; (first | omega | (simp <;> omega))))); (case p6 => simp); intro v3 w3 o3 D3 C3 sz3))
      go_roundw
      case rel => exact ⟨k + 1, v3, by omega, by go_num, rfl, by rw [HNX.out]; exact o3, D3⟩
      case measure => simp [intOf]; omega
    · obtain rfl : k = xs.length := by omega
      have hl4 : (allOps xs xs.length).length ≤ 1000000000000 := by have h1 := HAL.out xs.length; omega
      go_wp2_with fail
      refine (sort_own lays_sort (w0 := w1) (base := w1.heap.size + 1) (hown.below (by repeat (first | with_reducible exact Below.refl _ _ | with_reducible apply bdrew | with_reducible apply bdrewN | with_reducible apply balloc | ((with_reducible refine bset ?_ ?_ _); rotate_left; (first | omega | (simp <;> omega)))))) (by omega) (by repeat (first | with_reducible exact hBr | with_reducible apply bdrew | with_reducible apply bdrewN | with_reducible apply balloc | ((with_reducible refine bset ?_ ?_ _); rotate_left; (first | omega | (simp <;> omega))))) hl4).mono ?_
      rintro e w4 ⟨rfl, o4, D4⟩
      have d4s := D4.size
      have hl5 : (sortV (allOps xs xs.length)).length ≤ 1000000000000 := by rw [sortV_len]; exact hl4
      go_wp2_with fail
      refine (compact_own lays_compact (w0 := w1) (base := w1.heap.size + 1) (o4.below (by repeat (first | with_reducible exact Below.refl _ _ | with_reducible apply bdrew | with_reducible apply bdrewN | with_reducible apply balloc | ((with_reducible refine bset ?_ ?_ _); rotate_left; (first | omega | (simp <;> omega)))))) (by omega) (by repeat (first | with_reducible exact D4 | with_reducible apply bdrew | with_reducible apply bdrewN | with_reducible apply balloc | ((with_reducible refine bset ?_ ?_ _); rotate_left; (first | omega | (simp <;> omega))))) hl5).mono ?_
      rintro e w5 ⟨v5, rfl, o5, D5⟩
      have d5s := D5.size
      have o5 : OwnI (w1.heap.size + 1) w5 v5 (usedV xs) := o5
      obtain ⟨A5, c5, rfl, -, hI5⟩ := o5.form
      have C5 := C1.below D5
      have F5 := C5
      simp only [Cls, and_true] at F5
      have y5w1 : w.heap.size + 1 < w5.heap.size := C5.blk (b := w.heap.size + 1) (k := 0) (v := .int .i64 0) (by simp)
      have y5w0 : w.heap.size < w5.heap.size := (by omega)
      have y5wp1 : w.heap.size < w5.heap.size + 1 := (by omega)
      have y5wp2 : w.heap.size < w5.heap.size + 1 + 1 := (by omega)
      have DW := Dw1.trans (D5.mono Dw1.size)
      by_cases h16 : 16 < xs.length
      · have hd1 : decide ((xs.length : Int) > 16) = true := decide_eq_true (by omega)
        go_wp2_with fail
        refine bodyPost_ret (v := .tuple #[.int .i64 0, .agg #[.int .i64 10, .int .i64 (-8)]]) ?_ rfl ⟨xs, Hok.out, Hbest.out, Hz.out, .inl ⟨by omega, rfl⟩, by repeat (first | with_reducible exact DW | with_reducible apply bdrew | with_reducible apply bdrewN | with_reducible apply balloc | ((with_reducible refine bset ?_ ?_ _); rotate_left; (first | omega | (simp <;> omega))))⟩
        simp [results, Try.results54, go_sem, F5, y5w1, y5w0, y5wp1, y5wp2]
      · have hd1 : decide ((xs.length : Int) > 16) = false := decide_eq_false (by omega)
        by_cases hu16 : 16 < (usedV xs).length
        · have hd2 : decide (((usedV xs).length : Int) > 16) = true := decide_eq_true (by omega)
          go_wp2_with fail
          refine bodyPost_ret (v := .tuple #[.int .i64 0, .agg #[.int .i64 10, .int .i64 (-8)]]) ?_ rfl ⟨xs, Hok.out, Hbest.out, Hz.out, .inl ⟨by omega, rfl⟩, by repeat (first | with_reducible exact DW | with_reducible apply bdrew | with_reducible apply bdrewN | with_reducible apply balloc | ((with_reducible refine bset ?_ ?_ _); rotate_left; (first | omega | (simp <;> omega))))⟩
          simp [results, Try.results54, go_sem, F5, y5w1, y5w0, y5wp1, y5wp2]
        · have hd2 : decide (((usedV xs).length : Int) > 16) = false := decide_eq_false (by omega)
          have HS5 := Lib.hid (usedV_lt xs)
          go_wp2_with fail
          go_loopw [10, 65] (fun sv x wr => ∃ (k : Nat) (vj : Value), k ≤ (usedV xs).length ∧ x = .int .i64 k ∧ vj = sv ∧ OwnI w5.heap.size wr vj (costsV t.ops ((usedV xs).take k)) ∧ Below w5.heap.size w5 wr ∧ Cls wr [(w.heap.size, 0, .int .i64 t.facts), (w.heap.size, 1, .slice Ai t.init.length ci), (w.heap.size, 2, .slice Ag t.goal.length cg), (w.heap.size, 3, .slice Ao t.ops.length co), (w.heap.size + 1, 0, .int .i64 0), (w.heap.size + 1, 1, .int .i64 0)]) (fun _ x _ => (usedV xs).length - (intOf x).toNat)
          case atStart => exact ⟨0, _, Nat.zero_le _, rfl, rfl, OwnI.nil _ _, (by repeat (first | with_reducible exact Below.refl _ _ | with_reducible apply bdrew | with_reducible apply bdrewN | with_reducible apply balloc | ((with_reducible refine bset ?_ ?_ _); rotate_left; (first | omega | (simp <;> omega))))), (by simp [Cls, go_sem, F5, y5w1, y5w0, y5wp1, y5wp2])⟩
          case round =>
            obtain ⟨k, vj, hk, rfl, rfl, hown6, hBs, hCs⟩ := hrel
            obtain ⟨w6, rfl⟩ : ∃ wo : World, wo = wr := ⟨_, rfl⟩
            have dss := hBs.size
            have Fs := hCs
            simp only [Cls, and_true] at Fs
            have ysw1 : w.heap.size + 1 < w6.heap.size := hCs.blk (b := w.heap.size + 1) (k := 0) (v := .int .i64 0) (by simp)
            have ysw0 : w.heap.size < w6.heap.size := (by omega)
            have yswp1 : w.heap.size < w6.heap.size + 1 := (by omega)
            have yswp2 : w.heap.size < w6.heap.size + 1 + 1 := (by omega)
            have DS := DW.trans (hBs.mono DW.size)
            by_cases hlt : k < (usedV xs).length
            · obtain ⟨ad, x, rfl, hx, hxc⟩ := (hI5.below hBs).at_ hlt
              have hxr := HU.out x (List.mem_of_getElem? hx.out)
              obtain ⟨j, rfl⟩ : ∃ j : Nat, x = (j : Int) := ⟨x.toNat, by omega⟩
              have hj : j < t.ops.length := by omega
              obtain ⟨ad', o, A6, c6, A7, c7, A8, c8, rfl, ho, hc0, hc1, hc2, hc3, hm⟩ := hT.ops.at2 DS hj
              have hlen : (costsV t.ops ((usedV xs).take k)).length < 1000000000000 := by rw [costsV_len, List.length_take]; omega
              have HNX := Lib.hid (show costsV t.ops ((usedV xs).take (k + 1)) = costsV t.ops ((usedV xs).take k) ++ [o.cost] by rw [costsV_succ hx.out, cost_at (x := (j : Int)) (o := o) ho.out])
              go_wp2_with (at_builtin; go_must (refine wpList_push rfl (.tmp 69) (.tmp 76) rfl w5 [(w.heap.size, 0, .int .i64 t.facts), (w.heap.size, 1, .slice Ai t.init.length ci), (w.heap.size, 2, .slice Ag t.goal.length cg), (w.heap.size, 3, .slice (some ad') t.ops.length co), (w.heap.size + 1, 0, .int .i64 0), (w.heap.size + 1, 1, .int .i64 0)] (w5.heap.size) vj _ (o.cost) rfl (OwnI.below hown6 ?p1) ⟨w6.heap.size, 0, none⟩ 1 rfl ?p2 hlen ?p3 ?p4 ?p5 ?p6 ?p7 ?_; (case p1 => repeat (first | with_reducible exact Below.refl _ _ | with_reducible apply bdrew | with_reducible apply bdrewN | with_reducible apply balloc | ((with_reducible refine bset ?_ ?_ _); rotate_left; (first | omega | (simp <;> omega))))); (case p2 => (first | simp [Cls, go_sem, Fs, ysw1, ysw0, yswp1, yswp2] | exact cell_new_at _ _ _ _ rfl)); (case p3 => (first | omega | (simp <;> omega))); (case p4 => (first | omega | (simp <;> omega))); (case p5 => repeat (first | with_reducible exact hBs | with_reducible apply bdrew | with_reducible apply bdrewN | with_reducible apply balloc | ((with_reducible refine bset ?_ ?_ _); rotate_left; (first | omega | (simp <;> omega))))); (case p6 => exact Cls.below (w := w6) (by repeat (first | with_reducible exact Below.refl _ _ | with_reducible apply bdrew | with_reducible apply bdrewN | with_reducible apply balloc | ((with_reducible refine bset ?_ ?_ _); rotate_left; (first | omega | (simp <;> omega))))) hCs); (case p7 => (simp <;> omega)); intro v2 w2 o2 D2 C2 sz2; have d2s := D2.size; have F2 := C2; simp only [Cls, and_true] at F2; have y2w1 : w.heap.size + 1 < w2.heap.size := C2.blk (b := w.heap.size + 1) (k := 0) (v := .int .i64 0) (by simp); have y2w0 : w.heap.size < w2.heap.size := (by omega); have y2wp1 : w.heap.size < w2.heap.size + 1 := (by omega); have y2wp2 : w.heap.size < w2.heap.size + 1 + 1 := (by omega)))
              go_roundw
              case rel => exact ⟨k + 1, v2, by omega, by go_num, rfl, by rw [HNX.out]; exact o2, (by repeat (first | with_reducible exact D2 | with_reducible apply bdrew | with_reducible apply bdrewN | with_reducible apply balloc | ((with_reducible refine bset ?_ ?_ _); rotate_left; (first | omega | (simp <;> omega))))), (by simp [Cls, go_sem, F2, y2w1, y2w0, y2wp1, y2wp2])⟩
              case measure => simp [intOf]; omega
            · obtain rfl : k = (usedV xs).length := by omega
              rw [List.take_length] at hown6
              obtain ⟨A6, c6, rfl, -, hI6⟩ := hown6.form
              have D6w5 := hBs
              go_wp2_with fail
              go_loopw [15, 81] (fun sv x wr => ∃ (k : Nat) (vj : Value), k ≤ xs.length ∧ x = .int .i64 k ∧ vj = sv ∧ OwnLL w6.heap.size wr vj (setsV (usedV xs) (xs.take k)) ∧ Below w6.heap.size w6 wr ∧ Cls wr [(w.heap.size, 0, .int .i64 t.facts), (w.heap.size, 1, .slice Ai t.init.length ci), (w.heap.size, 2, .slice Ag t.goal.length cg), (w.heap.size, 3, .slice Ao t.ops.length co), (w.heap.size + 1, 0, .int .i64 0), (w.heap.size + 1, 1, .int .i64 0)]) (fun _ x _ => xs.length - (intOf x).toNat)
              case atStart => exact ⟨0, _, Nat.zero_le _, rfl, rfl, OwnEs.nil _ _, (by repeat (first | with_reducible exact Below.refl _ _ | with_reducible apply bdrew | with_reducible apply bdrewN | with_reducible apply balloc | ((with_reducible refine bset ?_ ?_ _); rotate_left; (first | omega | (simp <;> omega))))), (by simp [Cls, go_sem, Fs, ysw1, ysw0, yswp1, yswp2])⟩
              case round =>
                obtain ⟨k, vj, hk, rfl, rfl, hown7, hBu, hCu⟩ := hrel
                obtain ⟨w7, rfl⟩ : ∃ wo : World, wo = wr := ⟨_, rfl⟩
                have dus := hBu.size
                have Fu := hCu
                simp only [Cls, and_true] at Fu
                have yuw1 : w.heap.size + 1 < w7.heap.size := hCu.blk (b := w.heap.size + 1) (k := 0) (v := .int .i64 0) (by simp)
                have yuw0 : w.heap.size < w7.heap.size := (by omega)
                have yuwp1 : w.heap.size < w7.heap.size + 1 := (by omega)
                have yuwp2 : w.heap.size < w7.heap.size + 1 + 1 := (by omega)
                have DU5 := hBs.trans (hBu.mono hBs.size)
                have DU1 := D5.trans (DU5.mono D5.size)
                have DU := DW.trans (DU5.mono DW.size)
                by_cases hlt : k < xs.length
                · obtain ⟨g, cs', x, e3, hgb, hgl, hx, hcl, hcell, hpc⟩ := OwnEs.at_ (OwnCs.below hcs DU1) (i := k) hlt
                  subst e3
                  obtain ⟨A', c', rfl, hJ, hJn⟩ := hpc.form
                  have hcr0 : w7.cell? ⟨g, k * 2, none⟩ = some (.slice A' x.1.length c') := by have := hcell 0 _ rfl; simpa using this
                  have hcr1 : w7.cell? ⟨g, k * 2 + 1, none⟩ = some (.int .i64 x.2) := hcell 1 _ rfl
                  have HX := Lib.hid hx.out
                  have hxm := List.mem_of_getElem? hx.out
                  have hx40 := I3.out x hxm
                  have HXU := Lib.hid (show ∀ y ∈ x.1, y ∈ usedV xs from fun y hy => usedV_mem.2 ⟨x, hxm, hy⟩)
                  obtain ⟨C, cm⟩ := x
                  have hcr0 : w7.cell? ⟨g, k * 2, none⟩ = some (.slice A' C.length c') := hcr0
                  have hcr1 : w7.cell? ⟨g, k * 2 + 1, none⟩ = some (.int .i64 cm) := hcr1
                  have hJ : Ints w7 A' C := hJ
                  have hx40 : C.length ≤ 40 := hx40
                  have HXU : Hid (∀ y ∈ C, y ∈ usedV xs) := HXU
                  clear hcell hcl hJn hx hxm
                  go_wp2_with fail
                  go_loopw [18, 88] (fun sv x wr => ∃ (j : Nat) (vs : Value), j ≤ C.length ∧ x = .int .i64 j ∧ vs = sv ∧ OwnI (w7.heap.size + 1) wr vs (setV (usedV xs) (C.take j)) ∧ Below w7.heap.size w7 wr ∧ Cls wr [(w.heap.size, 0, .int .i64 t.facts), (w.heap.size, 1, .slice Ai t.init.length ci), (w.heap.size, 2, .slice Ag t.goal.length cg), (w.heap.size, 3, .slice Ao t.ops.length co), (w.heap.size + 1, 0, .int .i64 0), (w.heap.size + 1, 1, .int .i64 0)]) (fun _ x _ => C.length - (intOf x).toNat)
                  case atStart => exact ⟨0, _, Nat.zero_le _, rfl, rfl, OwnI.nil _ _, (by repeat (first | with_reducible exact Below.refl _ _ | with_reducible apply bdrew | with_reducible apply bdrewN | with_reducible apply balloc | ((with_reducible refine bset ?_ ?_ _); rotate_left; (first | omega | (simp <;> omega))))), (by simp [Cls, go_sem, Fu, yuw1, yuw0, yuwp1, yuwp2])⟩
                  case round =>
                    obtain ⟨j, vs, hj, rfl, rfl, hown8, hBv, hCv⟩ := hrel
                    obtain ⟨w8, rfl⟩ : ∃ wo : World, wo = wr := ⟨_, rfl⟩
                    have dvs := hBv.size
                    have Fv := hCv
                    simp only [Cls, and_true] at Fv
                    have yvw1 : w.heap.size + 1 < w8.heap.size := hCv.blk (b := w.heap.size + 1) (k := 0) (v := .int .i64 0) (by simp)
                    have yvw0 : w.heap.size < w8.heap.size := (by omega)
                    have yvwp1 : w.heap.size < w8.heap.size + 1 := (by omega)
                    have yvwp2 : w.heap.size < w8.heap.size + 1 + 1 := (by omega)
                    by_cases hlt2 : j < C.length
                    · obtain ⟨ad8, y, rfl, hy, hyc⟩ := (hJ.below hBv).at_ hlt2
                      have HYU := Lib.hid (HXU.out y (List.mem_of_getElem? hy.out))
                      have HNX := Lib.hid (setV_succ (U := usedV xs) hy.out)
                      have hlen : (setV (usedV xs) (C.take j)).length < 1000000000000 := by rw [setV_len, List.length_take]; omega
                      go_wp2_with fail
                      refine (bin_any _ _ (usedV xs) y _ ((hI5.below DU5).below (by repeat (first | with_reducible exact hBv | with_reducible apply bdrew | with_reducible apply bdrewN | with_reducible apply balloc | ((with_reducible refine bset ?_ ?_ _); rotate_left; (first | omega | (simp <;> omega)))))) (by omega) HS5.out).mono ?_
                      rintro e w9 ⟨kk, rfl, hk1, hk2, hk3, hB9⟩
                      obtain rfl := bin_ix HS5.out HYU.out hk2 hk3
                      have D9 := dstep w7 hB9 (by repeat (first | with_reducible exact hBv | with_reducible apply bdrew | with_reducible apply bdrewN | with_reducible apply balloc | ((with_reducible refine bset ?_ ?_ _); rotate_left; (first | omega | (simp <;> omega)))))
                      have d9s := D9.size
                      have Ew8_9 := dstep w8 hB9 (by repeat (first | with_reducible exact Below.refl _ _ | with_reducible apply bdrew | with_reducible apply bdrewN | with_reducible apply balloc | ((with_reducible refine bset ?_ ?_ _); rotate_left; (first | omega | (simp <;> omega)))))
                      have C9 := Cls.below (l := [(w.heap.size, 0, .int .i64 t.facts), (w.heap.size, 1, .slice Ai t.init.length ci), (w.heap.size, 2, .slice Ag t.goal.length cg), (w.heap.size, 3, .slice Ao t.ops.length co), (w.heap.size + 1, 0, .int .i64 0), (w.heap.size + 1, 1, .int .i64 0)]) hB9 (by simp [Cls, go_sem, Fv, yvw1, yvw0, yvwp1, yvwp2])
                      have F9 := C9
                      simp only [Cls, and_true] at F9
                      have y9w1 : w.heap.size + 1 < w9.heap.size := C9.blk (b := w.heap.size + 1) (k := 0) (v := .int .i64 0) (by simp)
                      have y9w0 : w.heap.size < w9.heap.size := (by omega)
                      have y9wp1 : w.heap.size < w9.heap.size + 1 := (by omega)
                      have y9wp2 : w.heap.size < w9.heap.size + 1 + 1 := (by omega)
                      have hown9 := hown8.below (by repeat (first | with_reducible exact Ew8_9 | with_reducible apply bdrew | with_reducible apply bdrewN | with_reducible apply balloc | ((with_reducible refine bset ?_ ?_ _); rotate_left; (first | omega | (simp <;> omega)))))
                      go_wp2_with (at_builtin; go_must (refine wpList_push rfl (.tmp 98) (.tmp 100) rfl w7 [(w.heap.size, 0, .int .i64 t.facts), (w.heap.size, 1, .slice Ai t.init.length ci), (w.heap.size, 2, .slice Ag t.goal.length cg), (w.heap.size, 3, .slice Ao t.ops.length co), (w.heap.size + 1, 0, .int .i64 0), (w.heap.size + 1, 1, .int .i64 0)] (w7.heap.size + 1) vs _ (((ixV (usedV xs) y : Nat) : Int)) rfl (OwnI.below hown9 ?p1) ⟨w9.heap.size, 0, none⟩ 1 rfl ?p2 hlen ?p3 ?p4 ?p5 ?p6 ?p7 ?_; (case p1 => repeat (first | with_reducible exact Below.refl _ _ | with_reducible apply bdrew | with_reducible apply bdrewN | with_reducible apply balloc | ((with_reducible refine bset ?_ ?_ _); rotate_left; (first | omega | (simp <;> omega))))); (case p2 => (first | simp [Cls, go_sem, F9, y9w1, y9w0, y9wp1, y9wp2] | exact cell_new_at _ _ _ _ rfl)); (case p3 => (first | omega | (simp <;> omega))); (case p4 => (first | omega | (simp <;> omega))); (case p5 => repeat (first | with_reducible exact D9 | with_reducible apply bdrew | with_reducible apply bdrewN | with_reducible apply balloc | ((with_reducible refine bset ?_ ?_ _); rotate_left; (first | omega | (simp <;> omega))))); (case p6 => exact Cls.below (w := w9) (by repeat (first | with_reducible exact Below.refl _ _ | with_reducible apply bdrew | with_reducible apply bdrewN | with_reducible apply balloc | ((with_reducible refine bset ?_ ?_ _); rotate_left; (first | omega | (simp <;> omega))))) C9); (case p7 => (simp <;> omega)); intro v10 w10 o10 D10 C10 sz10; have d10s := D10.size; have F10 := C10; simp only [Cls, and_true] at F10; have y10w1 : w.heap.size + 1 < w10.heap.size := C10.blk (b := w.heap.size + 1) (k := 0) (v := .int .i64 0) (by simp); have y10w0 : w.heap.size < w10.heap.size := (by omega); have y10wp1 : w.heap.size < w10.heap.size + 1 := (by omega); have y10wp2 : w.heap.size < w10.heap.size + 1 + 1 := (by omega)))
                      go_roundw
                      case rel => exact ⟨j + 1, v10, by omega, by go_num, rfl, by rw [HNX.out]; exact o10, (by repeat (first | with_reducible exact D10 | with_reducible apply bdrew | with_reducible apply bdrewN | with_reducible apply balloc | ((with_reducible refine bset ?_ ?_ _); rotate_left; (first | omega | (simp <;> omega))))), (by simp [Cls, go_sem, F10, y10w1, y10w0, y10wp1, y10wp2])⟩
                      case measure => simp [intOf]; omega
                    · obtain rfl : j = C.length := by omega
                      rw [List.take_length] at hown8
                      obtain ⟨A9, c9, rfl, -, -⟩ := hown8.form
                      have hown7' := hown7.below hBv
                      have hlt67 := hBu.size
                      have hrow : ∀ b, vj.ownBlock = some b → b < w7.heap.size + 1 := fun b hb => by
                        have h1 := (OwnEs.lt hown7 b hb).2
                        omega
                      have HY := Lib.hid (plist_of (B := w6.heap.size) (row := vj.ownBlock) hown8 (by omega) hrow)
                      have hlen : (setsV (usedV xs) (xs.take k)).length < 1000000000000 := by rw [setsV_len, List.length_take]; omega
                      have HT1 := Lib.hid (setsV_succ (U := usedV xs) HX.out)
                      have hB68 := hBu.trans (hBv.mono hBu.size)
                      have hs68 := hB68.size
                      go_wp2_with (at_builtin; go_must (refine wpList_el (plist_stable _) 27 24 (.slice none 0 0) Try.underlying27 info_list rfl (by decide) (by decide) rfl (.tmp 103) (.tmp 105) rfl w6 [(w.heap.size, 0, .int .i64 t.facts), (w.heap.size, 1, .slice Ai t.init.length ci), (w.heap.size, 2, .slice Ag t.goal.length cg), (w.heap.size, 3, .slice Ao t.ops.length co), (w.heap.size + 1, 0, .int .i64 0), (w.heap.size + 1, 1, .int .i64 0)] rfl (OwnLL.below hown7' ?p1) ⟨w8.heap.size, 0, none⟩ 1 rfl [.slice A9 (setV (usedV xs) C).length c9] (setV (usedV xs) C) rfl (cells_one ?p2) ?p8 ((plist_stable _).below HY.out ?p9) hlen ?p3 (Nat.le_refl _) ?p5 ?p6 ?p7 ?_; (case p1 => repeat (first | with_reducible exact Below.refl _ _ | with_reducible apply bdrew | with_reducible apply bdrewN | with_reducible apply balloc | ((with_reducible refine bset ?_ ?_ _); rotate_left; (first | omega | (simp <;> omega))))); (case p2 => simp [go_sem]); (case p3 => (simp <;> omega)); (case p5 => repeat (first | with_reducible exact hB68 | with_reducible apply bdrew | with_reducible apply bdrewN | with_reducible apply balloc | ((with_reducible refine bset ?_ ?_ _); rotate_left; (first | omega | (simp <;> omega))))); (case p6 => simp [Cls, go_sem, Fv, yvw1, yvw0, yvwp1, yvwp2]); (case p7 => (simp <;> omega)); (case p8 => intro u hu; simp at hu; subst hu; rfl); (case p9 => repeat (first | with_reducible exact Below.refl _ _ | with_reducible apply bdrew | with_reducible apply bdrewN | with_reducible apply balloc | ((with_reducible refine bset ?_ ?_ _); rotate_left; (first | omega | (simp <;> omega))))); intro v10 w10 o10 D10 C10 sz10 G10 at10; clear G10 at10; have d10s := D10.size))
                      go_roundw
                      case rel => exact ⟨k + 1, v10, by omega, by go_num, rfl, by rw [HT1.out]; exact o10, D10, C10⟩
                      case measure => simp [intOf]; omega
                · obtain rfl : k = xs.length := by omega
                  rw [List.take_length] at hown7
                  obtain ⟨A9, c9, rfl⟩ := OwnEs.form hown7
                  have HCI := Lib.hid (costsV_in HV.out HU.out)
                  have hfd : ∀ (w : World) (c v : Int), (Instr.field 114 (.agg #[.int .i64 c, .int .i64 v]) 0).run Try.prog w = .ok (.int .i64 c) w := fun _ _ _ => by kernel_rfl
                  have HSL := Lib.hid (show ∀ s ∈ setsV (usedV xs) xs, s.length ≤ 9223372036854775807 from fun s hs => by
                    unfold setsV at hs
                    obtain ⟨c, hc, rfl⟩ := List.mem_map.1 hs
                    rw [setV_len]
                    have := I3.out c hc
                    omega)
                  have DU5 := hBs.trans (hBu.mono hBs.size)
                  have DU := DW.trans (DU5.mono DW.size)
                  go_wp2_with fail
                  refine (hbest_any _ A9 c9 _ (llr_of_own hown7) A6 c6 _ (hI6.below hBu) (by rw [setsV_len]; omega) (by rw [costsV_len]; omega) HCI.out HSL.out).mono ?_
                  rintro e w11 ⟨c, v, rfl, hch, hB11⟩
                  have D11 := dstep w hB11 (by repeat (first | with_reducible exact DU | with_reducible apply bdrew | with_reducible apply bdrewN | with_reducible apply balloc | ((with_reducible refine bset ?_ ?_ _); rotate_left; (first | omega | (simp <;> omega)))))
                  have d11s := D11.size
                  have C11 := Cls.below (l := [(w.heap.size, 0, .int .i64 t.facts), (w.heap.size, 1, .slice Ai t.init.length ci), (w.heap.size, 2, .slice Ag t.goal.length cg), (w.heap.size, 3, .slice Ao t.ops.length co), (w.heap.size + 1, 0, .int .i64 0), (w.heap.size + 1, 1, .int .i64 0)]) hB11 (by simp [Cls, go_sem, Fu, yuw1, yuw0, yuwp1, yuwp2])
                  have F11 := C11
                  simp only [Cls, and_true] at F11
                  have y11w1 : w.heap.size + 1 < w11.heap.size := C11.blk (b := w.heap.size + 1) (k := 0) (v := .int .i64 0) (by simp)
                  have y11w0 : w.heap.size < w11.heap.size := (by omega)
                  have y11wp1 : w.heap.size < w11.heap.size + 1 := (by omega)
                  have y11wp2 : w.heap.size < w11.heap.size + 1 + 1 := (by omega)
                  have HCH := Lib.hid hch
                  clear hch
                  go_wp2_with fail
                  refine bodyPost_ret (v := .tuple #[.int .i64 c, .agg #[.int .i64 0, .int .i64 0]]) ?_ rfl ⟨xs, Hok.out, Hbest.out, Hz.out, .inr ⟨by omega, c, v, rfl, HCH.out⟩, by repeat (first | with_reducible exact D11 | with_reducible apply bdrew | with_reducible apply bdrewN | with_reducible apply balloc | ((with_reducible refine bset ?_ ?_ _); rotate_left; (first | omega | (simp <;> omega))))⟩
                  simp [results, Try.results54, go_sem, F11, y11w1, y11w0, y11wp1, y11wp2]


end Go.Proofs.Ytihkgdlanfemcaa

namespace Go.Proofs.Ytihkgdlanfemcaa
open Go.RowKit
set_option linter.unusedVariables false
set_option linter.unusedSimpArgs false

theorem sum_filter {α : Type} (p : α → Bool) (f : α → Int) : ∀ l : List α, ((l.filter p).map f).sum = (l.map fun e => if p e = true then f e else 0).sum
  | [] => rfl
  | x :: l => by
    by_cases h : p x = true
    · rw [List.filter_cons_of_pos h]; simp [h, sum_filter p f l]
    · rw [List.filter_cons_of_neg h]; simp [h, sum_filter p f l]
/-- The operators of a word. -/
def opsW (U : List Int) (v : Nat) : List Nat := ((List.range U.length).filter fun e => v.testBit e).map fun e : Nat => ((U[e]?).getD 0).toNat
theorem opsW_mem {U : List Int} {v p : Nat} (hU : ∀ x ∈ U, 0 ≤ x) : p ∈ opsW U v ↔ ∃ e : Nat, U[e]? = some (p : Int) ∧ v.testBit e = true := by
  unfold opsW
  rw [List.mem_map]
  constructor
  · rintro ⟨e, he, rfl⟩
    rw [List.mem_filter, List.mem_range] at he
    have h1 := List.getElem?_eq_getElem he.1
    have h2 := hU _ (List.getElem_mem he.1)
    refine ⟨e, ?_, he.2⟩
    rw [h1, Option.getD_some, Int.toNat_of_nonneg h2]
  · rintro ⟨e, h1, h2⟩
    refine ⟨e, ?_, by rw [h1]; rfl⟩
    rw [List.mem_filter, List.mem_range]
    exact ⟨(List.getElem?_eq_some_iff.1 h1).1, h2⟩
theorem opsW_nodup {U : List Int} (v : Nat) (hs : U.Pairwise (· < ·)) (hU : ∀ x ∈ U, 0 ≤ x) : (opsW U v).Nodup := by
  unfold opsW
  refine List.pairwise_map.2 (List.Pairwise.imp_of_mem (fun {a b} ha hb hab => ?_) (List.Pairwise.filter _ List.pairwise_lt_range))
  rw [List.mem_filter, List.mem_range] at ha hb
  have h1 := List.pairwise_iff_getElem.1 hs a b ha.1 hb.1 hab
  have h2 := hU _ (List.getElem_mem ha.1)
  have h3 := hU _ (List.getElem_mem hb.1)
  rw [List.getElem?_eq_getElem ha.1, List.getElem?_eq_getElem hb.1, Option.getD_some, Option.getD_some]
  omega
theorem cost_opsW (ops : List OpV) {U : List Int} (v : Nat) (hU : ∀ x ∈ U, 0 ≤ x) : costW (costsV ops U) v = costOf (ops.map (·.cost)) (opsW U v) := by
  unfold costW costOf opsW
  rw [List.map_map, sum_filter, costsV_len]
  congr 1
  refine List.map_congr_left fun e he => ?_
  rw [List.mem_range] at he
  have h2 := hU _ (List.getElem_mem he)
  by_cases h : v.testBit e = true
  · rw [if_pos h, if_pos h]
    unfold costsV
    rw [List.getElem?_map, List.getElem?_eq_getElem he]
    simp only [Option.map_some, Option.getD_some, Function.comp]
    rw [List.getElem?_eq_getElem he, Option.getD_some, Int.toNat_of_nonneg h2]
  · rw [if_neg h, if_neg h]
/-- There is a word with given elements. -/
theorem word_ex (P : Nat → Prop) : ∀ n, ∃ v, v < 2 ^ n ∧ ∀ e, v.testBit e = true ↔ e < n ∧ P e
  | 0 => ⟨0, by omega, fun e => by simp⟩
  | n + 1 => by
    obtain ⟨v, h1, h2⟩ := word_ex P n
    by_cases h : P n
    · refine ⟨v ||| 2 ^ n, or_lt_succ h1, fun e => ?_⟩
      rw [bit_or_pow, Bool.or_eq_true, h2 e, decide_eq_true_iff]
      constructor
      · rintro (⟨h3, h4⟩ | rfl)
        · exact ⟨by omega, h4⟩
        · exact ⟨by omega, h⟩
      · rintro ⟨h3, h4⟩
        by_cases h5 : e < n
        · exact .inl ⟨h5, h4⟩
        · exact .inr (by omega)
    · refine ⟨v, Nat.lt_of_lt_of_le h1 (Nat.pow_le_pow_right (by decide) (by omega)), fun e => ?_⟩
      rw [h2 e]
      constructor
      · rintro ⟨h3, h4⟩; exact ⟨by omega, h4⟩
      · rintro ⟨h3, h4⟩
        refine ⟨?_, h4⟩
        rcases Nat.lt_or_ge e n with h5 | h5
        · exact h5
        · exact absurd h4 (by rw [show e = n by omega]; exact h)
theorem costOf_erase (cs : List Int) {ps : List Nat} {p : Nat} (h : p ∈ ps) : costOf cs ps = valAt cs (p : Int) + costOf cs (ps.erase p) := by
  have h1 := (List.perm_cons_erase h).map (fun (p : Nat) => valAt cs (p : Int))
  unfold costOf
  have h2 : ∀ {l k : List Int}, l.Perm k → l.sum = k.sum := fun hp => by
    induction hp with
    | nil => rfl
    | cons x _ ih => simp [ih]
    | swap x y l => simp; omega
    | trans _ _ i1 i2 => omega
  rw [h2 h1]; simp
theorem costOf_sub {cs : List Int} (h0 : ∀ c ∈ cs, 0 ≤ c) : ∀ (l ps : List Nat), l.Nodup → (∀ p ∈ l, p ∈ ps) → (∀ p ∈ ps, p < cs.length) → costOf cs l ≤ costOf cs ps
  | [], ps, _, _, hp => cost_nn h0 ps hp
  | p :: l, ps, hn, hs, hp => by
    have h1 := hs p (List.mem_cons_self ..)
    rw [List.nodup_cons] at hn
    have h2 := costOf_sub h0 l (ps.erase p) hn.2 (fun q hq => by
      have hne : q ≠ p := fun e => hn.1 (e ▸ hq)
      exact (List.mem_erase_of_ne hne).2 (hs q (List.mem_cons_of_mem _ hq))) (fun q hq => hp q (List.mem_of_mem_erase hq))
    rw [costOf_erase cs h1]
    have h3 : costOf cs (p :: l) = valAt cs (p : Int) + costOf cs l := by unfold costOf; rw [List.map_cons, List.sum_cons]
    omega
section
variable {n : Nat} {t : TaskV} {st : List Int} {xs : List (List Int × Int)}
/-- Operators that hit all cuts cost no less than the cuts. -/
theorem cuts_hit {goal : List Int} {ops : List OpV} {c0 : List Int} (h : CutsOk n st goal ops c0 xs) (hl : c0.length = ops.length) (hv : ∀ c ∈ c0, 0 ≤ c ∧ c ≤ 100) {ps : List Nat} (hr : ∀ p ∈ ps, p < ops.length) (hh : ∀ x ∈ xs, ∃ p ∈ ps, (p : Int) ∈ x.1) : totalOf xs ≤ costOf c0 ps := by
  have key : ∀ k, k ≤ xs.length → totalOf (xs.take k) + costOf (leftOf c0 (xs.take k)) ps ≤ costOf c0 ps := by
    intro k
    induction k with
    | zero => intro _; simp [totalOf, leftOf]
    | succ k ih =>
      intro hk
      have hx := List.getElem?_eq_getElem (show k < xs.length by omega)
      have hc := h k _ hx
      have h1 := ih (by omega)
      rw [leftOf_succ hx, totalOf_succ hx]
      have h2 := (cost_lower (left := leftOf c0 (xs.take k)) (C := xs[k].1) (c := xs[k].2) (by rw [leftOf_len, hl]; exact hc.set) (by have := hc.pos; omega) ps (fun p hpp => by rw [leftOf_len, hl]; exact hr p hpp)).2 (hh _ (List.getElem_mem _))
      omega
  have h1 := key xs.length (Nat.le_refl _)
  rw [List.take_length] at h1
  have h2 := cost_nn (cs := leftOf c0 xs) (fun c hc => by
    have := h.left_in hl hv xs.length c (by rw [List.take_length]; exact hc)
    exact this.1) ps (fun p hpp => by rw [leftOf_len, hl]; exact hr p hpp)
  omega
theorem used_rng (hv : Valid t) (hok : CutsOk n st t.goal t.ops (t.ops.map (·.cost)) xs) : ∀ x ∈ usedV xs, 0 ≤ x ∧ x < (t.ops.length : Int) := fun x hx => by
  obtain ⟨c, hc, h⟩ := usedV_mem.1 hx
  exact ((cuts_in hv hok).set c hc).1 x h
theorem used_set (hv : Valid t) (hok : CutsOk n st t.goal t.ops (t.ops.map (·.cost)) xs) : SetP (usedV xs) (t.ops.length : Int) := SetP.of_pairwise (used_rng hv hok) (usedV_lt xs)
theorem opcost_in (hv : Valid t) : ∀ c ∈ t.ops.map (·.cost), 0 ≤ c ∧ c ≤ 100 := fun c h => by obtain ⟨o, h1, rfl⟩ := List.mem_map.1 h; exact (hv.ops o h1).2
/-- The bound is at least the sum of the costs of the cuts. -/
theorem bound_low (hv : Valid t) (hok : CutsOk n st t.goal t.ops (t.ops.map (·.cost)) xs) {c : Int} {v : Nat} (h : Cho (costW (costsV t.ops (usedV xs))) (AllHit (setsV (usedV xs) xs) (2 ^ (costsV t.ops (usedV xs)).length)) c v) : totalOf xs ≤ c := by
  have hi := cuts_in hv hok
  have hU : ∀ x ∈ usedV xs, 0 ≤ x := fun x hx => (used_rng hv hok x hx).1
  rcases h with h | ⟨rfl, _, _⟩
  · rw [h.eq, cost_opsW _ _ hU]
    refine cuts_hit hok (List.length_map _) (opcost_in hv) (fun p hp => ?_) (fun x hx => ?_)
    · obtain ⟨e, he, _⟩ := (opsW_mem hU).1 hp
      have := (used_rng hv hok _ (List.mem_of_getElem? he)).2
      omega
    · obtain ⟨e, h1, h2⟩ := h.is.2 (setV (usedV xs) x.1) (List.mem_map.2 ⟨x, hx, rfl⟩)
      obtain ⟨y, hy, hye⟩ := (setV_mem (usedV_lt xs) (fun y hy => usedV_mem.2 ⟨x, hx, hy⟩)).1 h1
      have h0 := hU y (List.mem_of_getElem? hye)
      refine ⟨y.toNat, (opsW_mem hU).2 ⟨e, by rw [Int.toNat_of_nonneg h0]; exact hye, h2⟩, by rw [Int.toNat_of_nonneg h0]; exact hy⟩
  · have := hi.tot; omega
/-- The bound is at most the cost of a relaxed plan. -/
theorem bound_high (hv : Valid t) (hok : CutsOk n st t.goal t.ops (t.ops.map (·.cost)) xs) (h16 : (usedV xs).length ≤ 16) {c : Int} {v : Nat} (h : Cho (costW (costsV t.ops (usedV xs))) (AllHit (setsV (usedV xs) xs) (2 ^ (costsV t.ops (usedV xs)).length)) c v) {d : Int} (hd : RBest n (t.ops.map rxO) t.goal st d) : c ≤ d := by
  have hU : ∀ x ∈ usedV xs, 0 ≤ x := fun x hx => (used_rng hv hok x hx).1
  have hci := costsV_in hv (used_rng hv hok)
  rcases hd.1 with e | ⟨l, h3, h4⟩
  · have := (cho_rng h (e := (costsV t.ops (usedV xs)).length) (fun v hv => hv.1) hci (by rw [costsV_len]; exact h16) (by rw [costsV_len]; exact h16)).2.1
    omega
  · obtain ⟨ps, h5, h6⟩ := h3.pth
    have hr : ∀ p ∈ ps, p < t.ops.length := fun p hq => by have := h5.rng p hq; rwa [List.length_map] at this
    obtain ⟨u, hu1, hu2⟩ := word_ex (fun e => ∃ p ∈ ps, (usedV xs)[e]? = some (p : Int)) (usedV xs).length
    have hall : AllHit (setsV (usedV xs) xs) (2 ^ (costsV t.ops (usedV xs)).length) u := by
      refine ⟨by rw [costsV_len]; exact hu1, fun s hs => ?_⟩
      obtain ⟨x, hx, rfl⟩ := List.mem_map.1 hs
      obtain ⟨k, hk⟩ := List.getElem?_of_mem hx
      have hc := hok k x hk
      have hex : ∃ p ∈ ps, (p : Int) ∈ x.1 := Classical.byContradiction fun hno =>
        hc.cut fun q hq => h5.reach (fun p hpp hpc => hno ⟨p, hpp, hpc⟩) q (h4 q hq)
      obtain ⟨p, hp, hpx⟩ := hex
      have hpU := usedV_mem.2 ⟨x, hx, hpx⟩
      obtain ⟨e, he⟩ := List.getElem?_of_mem hpU
      exact ⟨e, (setV_mem (usedV_lt xs) (fun y hy => usedV_mem.2 ⟨x, hx, hy⟩)).2 ⟨_, hpx, he⟩, (hu2 e).2 ⟨(List.getElem?_eq_some_iff.1 he).1, p, hp, he⟩⟩
    rcases h with h | ⟨_, _, h⟩
    · have h7 := h.least u hall
      have h8 := h.eq
      have h9 : costW (costsV t.ops (usedV xs)) u ≤ costOf (t.ops.map (·.cost)) ps := by
        rw [cost_opsW _ _ hU]
        refine costOf_sub (fun c hc => (opcost_in hv c hc).1) _ _ (opsW_nodup _ (usedV_lt xs) hU) (fun p hp => ?_) (fun p hp => by rw [List.length_map]; exact hr p hp)
        obtain ⟨e, he, hb⟩ := (opsW_mem hU).1 hp
        obtain ⟨_, q, hq, hqe⟩ := (hu2 e).1 hb
        rw [he] at hqe
        injection hqe with hqe
        have : p = q := by omega
        rw [this]; exact hq
      omega
    · exact absurd hall (h u)
end

/-! ### The chain -/
theorem chain_best2 : Best false 2 [] chainV.ops (chainV.ops.map (·.cost)) [2, 5] := by
  refine ⟨⟨⟨rfl, ?_, by simp⟩, ?_⟩, ?_⟩
  · intro v hv
    simp only [List.mem_cons, List.not_mem_nil, or_false] at hv
    unfold InV
    omega
  · intro i o c hi ho hc p hp
    match i, hi with
    | 0, _ => cases ho; cases hc; simp at hp; subst hp; decide
    | 1, _ => cases ho; cases hc; simp at hp; subst hp; decide
  · intro U hU p
    have h0 := hU.closed 0 _ _ (by decide) rfl rfl 0 (by simp)
    have h1 := hU.closed 1 _ _ (by decide) rfl rfl 1 (by simp)
    have e0 : opV false U ⟨[], [0], [], 2⟩ 2 = 2 := by unfold opV; rw [combV_nil]; rfl
    rw [e0] at h0
    have hl := hU.shape.len
    have hall := hU.shape.all
    have e1 : combV false U [0] ≤ 2 := comb_le (by omega) (fun x hx => by simp at hx; subst hx; exact h0)
    have e2 : opV false U ⟨[0], [1], [], 3⟩ 3 ≤ 5 := by
      have := plusV_le (combV_in (s := false) hall [0]) (show InV 3 by unfold InV; omega)
      unfold opV
      show plusV (combV false U [0]) 3 ≤ 5
      omega
    have h1' : valAt U 1 ≤ 5 := Int.le_trans h1 e2
    unfold valAt at h0 h1' ⊢
    rcases Nat.lt_or_ge p.toNat 2 with hp | hp
    · rcases (by omega : p.toNat = 0 ∨ p.toNat = 1) with e | e
      · rw [e]; exact h0
      · rw [e]; exact h1'
    · rw [List.getElem?_eq_none (by omega), List.getElem?_eq_none (by simpa using hp)]
      exact Int.le_refl _
theorem chain_few {xs : List (List Int × Int)} (hok : CutsOk 2 [] chainV.goal chainV.ops (chainV.ops.map (·.cost)) xs) : ¬ (16 < xs.length ∨ 16 < (usedV xs).length) := by
  have h1 := (hok.total rfl xs.length (Nat.le_refl _)).2.2
  have h2 := (used_set chain_valid hok).length (by omega)
  have h3 : chainV.ops.length = 2 := rfl
  have h4 : sumV (chainV.ops.map (·.cost)) = 5 := by decide
  omega
theorem chain_total {xs : List (List Int × Int)} (hok : CutsOk 2 [] chainV.goal chainV.ops (chainV.ops.map (·.cost)) xs) (hz : combV false (valuesV false 2 [] chainV.ops (leftOf (chainV.ops.map (·.cost)) xs)) chainV.goal = 0) : 5 ≤ totalOf xs := by
  have h := hok.value rfl (opcost_in chain_valid) (by simp) (fun o ho => by
    simp only [chainV, List.mem_cons, List.not_mem_nil, or_false] at ho
    rcases ho with rfl | rfl <;> simp)
  rw [hz, show valuesV false 2 [] chainV.ops (chainV.ops.map (·.cost)) = [2, 5] from (best_eq chain_best2).symm] at h
  have e : combV false [2, 5] chainV.goal = 5 := by decide
  omega

end Go.Proofs.Ytihkgdlanfemcaa

namespace Go.Proofs.Ytihkgdlanfemcaa
open Go.RowKit
set_option linter.unusedVariables false
set_option linter.unusedSimpArgs false

theorem cuts_take {n : Nat} {st goal : List Int} {ops : List OpV} {c0 : List Int} {xs ys : List (List Int × Int)} (h : CutsOk n st goal ops c0 xs) (k : CutsOk n st goal ops c0 ys) (hz : combV false (valuesV false n st ops (leftOf c0 ys)) goal = 0) :
    ∀ i, i ≤ xs.length → i ≤ ys.length ∧ xs.take i = ys.take i
  | 0, _ => ⟨Nat.zero_le _, by simp⟩
  | i + 1, hi => by
    obtain ⟨h1, h2⟩ := cuts_take h k hz i (by omega)
    have hx := List.getElem?_eq_getElem (show i < xs.length by omega)
    obtain ⟨V, hV, hC, hc⟩ := (h i _ hx).ex
    have hVe := best_eq hV.best
    rcases Nat.lt_or_ge i ys.length with h3 | h3
    · have hy := List.getElem?_eq_getElem h3
      obtain ⟨V', hV', hC', hc'⟩ := (k i _ hy).ex
      have hVe' := best_eq hV'.best
      rw [← h2] at hVe' hC' hc'
      have e : xs[i] = ys[i] := Prod.ext (by rw [hC, hC', hVe, hVe']) (by
        rw [hc, hc', hC, hC', hVe, hVe'])
      exact ⟨by omega, by rw [List.take_add_one, List.take_add_one, h2, hx, hy, e]⟩
    · exfalso
      have h4 : ys.take i = ys := List.take_of_length_le h3
      rw [h4] at h2
      refine hV.pos ?_
      rw [hVe, h2]
      exact hz
theorem cuts_uniq {n : Nat} {st goal : List Int} {ops : List OpV} {c0 : List Int} {xs ys : List (List Int × Int)} (h : CutsOk n st goal ops c0 xs) (k : CutsOk n st goal ops c0 ys)
    (hx : combV false (valuesV false n st ops (leftOf c0 xs)) goal = 0) (hy : combV false (valuesV false n st ops (leftOf c0 ys)) goal = 0) : xs = ys := by
  obtain ⟨h1, h2⟩ := cuts_take h k hy xs.length (Nat.le_refl _)
  obtain ⟨h3, h4⟩ := cuts_take k h hx ys.length (Nat.le_refl _)
  rw [List.take_length] at h2
  rw [h2, List.take_of_length_le (by omega)]

end Go.Proofs.Ytihkgdlanfemcaa

namespace Go.Proofs.Ytihkgdlanfemcaa
open Go.RowKit
set_option linter.unusedVariables false
set_option linter.unusedSimpArgs false

def inCuts (xs : List (List Int × Int)) (k : Nat) : Prop := ∃ c ∈ xs, (k : Int) ∈ c.1
noncomputable instance (xs : List (List Int × Int)) (k : Nat) : Decidable (inCuts xs k) := Classical.propDecidable _
/-- The operators below k that are in a cut. -/
noncomputable def usedTo (xs : List (List Int × Int)) (k : Nat) : List Int := ((List.range k).filter fun e => decide (inCuts xs e)).map fun e : Nat => (e : Int)
theorem usedTo_succ (xs : List (List Int × Int)) (k : Nat) : usedTo xs (k + 1) = usedTo xs k ++ if inCuts xs k then [(k : Int)] else [] := by
  unfold usedTo
  rw [List.range_succ, List.filter_append, List.map_append]
  congr 1
  by_cases h : inCuts xs k
  · simp [h]
  · simp [h]
theorem usedTo_mem {xs : List (List Int × Int)} {k : Nat} {x : Int} : x ∈ usedTo xs k ↔ ∃ e : Nat, x = (e : Int) ∧ e < k ∧ inCuts xs e := by
  unfold usedTo
  rw [List.mem_map]
  constructor
  · rintro ⟨e, he, rfl⟩
    rw [List.mem_filter, List.mem_range, decide_eq_true_iff] at he
    exact ⟨e, rfl, he⟩
  · rintro ⟨e, rfl, h⟩
    exact ⟨e, by rw [List.mem_filter, List.mem_range, decide_eq_true_iff]; exact h, rfl⟩
theorem usedTo_len (xs : List (List Int × Int)) (k : Nat) : (usedTo xs k).length ≤ k := by
  unfold usedTo
  rw [List.length_map]
  exact Nat.le_trans (List.length_filter_le _ _) (by rw [List.length_range]; exact Nat.le_refl _)
theorem usedTo_set (xs : List (List Int × Int)) (k : Nat) : SetP (usedTo xs k) (k : Int) := SetP.of_pairwise (fun x hx => by
  obtain ⟨e, rfl, h, _⟩ := usedTo_mem.1 hx
  omega) (by
  unfold usedTo
  refine List.pairwise_map.2 (List.Pairwise.imp (fun {a b} h => by omega) (List.Pairwise.filter _ List.pairwise_lt_range)))
theorem usedTo_all {xs : List (List Int × Int)} {N : Nat} (h : ∀ x ∈ usedV xs, 0 ≤ x ∧ x < (N : Int)) : usedTo xs N = usedV xs :=
  SetP.ext (usedTo_set xs N) (SetP.of_pairwise h (usedV_lt xs)) fun x => by
    rw [usedTo_mem]
    constructor
    · rintro ⟨e, rfl, _, c, hc, h⟩
      exact usedV_mem.2 ⟨c, hc, h⟩
    · intro hx
      have h1 := h x hx
      obtain ⟨c, hc, h2⟩ := usedV_mem.1 hx
      exact ⟨x.toNat, by omega, by omega, c, hc, by rw [Int.toNat_of_nonneg h1.1]; exact h2⟩
/-- .. while operator k is looked for in the first j cuts. -/
noncomputable def usedMid (xs : List (List Int × Int)) (k j : Nat) : List Int := usedTo xs k ++ if inCuts (xs.take j) k then [(k : Int)] else []
theorem usedMid_zero (xs : List (List Int × Int)) (k : Nat) : usedMid xs k 0 = usedTo xs k := by
  unfold usedMid
  rw [if_neg (by rintro ⟨c, hc, _⟩; simp at hc), List.append_nil]
theorem usedMid_all (xs : List (List Int × Int)) (k : Nat) : usedMid xs k xs.length = usedTo xs (k + 1) := by
  unfold usedMid; rw [usedTo_succ, List.take_length]
theorem usedMid_has {xs : List (List Int × Int)} {k j : Nat} : (k : Int) ∈ usedMid xs k j ↔ inCuts (xs.take j) k := by
  unfold usedMid
  rw [List.mem_append]
  constructor
  · rintro (h | h)
    · obtain ⟨e, h1, h2, _⟩ := usedTo_mem.1 h; omega
    · by_cases h2 : inCuts (xs.take j) k
      · exact h2
      · rw [if_neg h2] at h; cases h
  · intro h; rw [if_pos h]; exact .inr (by simp)
theorem usedMid_len (xs : List (List Int × Int)) (k j : Nat) : (usedMid xs k j).length ≤ k + 1 := by
  unfold usedMid
  have := usedTo_len xs k
  rw [List.length_append]
  split <;> simp <;> omega
theorem inCuts_succ {xs : List (List Int × Int)} {j k : Nat} {x : List Int × Int} (h : xs[j]? = some x) : inCuts (xs.take (j + 1)) k ↔ inCuts (xs.take j) k ∨ (k : Int) ∈ x.1 := by
  rw [List.take_add_one, h]
  constructor
  · rintro ⟨c, hc, hk⟩
    rcases List.mem_append.1 hc with h1 | h1
    · exact .inl ⟨c, h1, hk⟩
    · simp at h1; subst h1; exact .inr hk
  · rintro (⟨c, hc, hk⟩ | hk)
    · exact ⟨c, List.mem_append_left _ hc, hk⟩
    · exact ⟨x, List.mem_append_right _ (by simp), hk⟩
theorem usedMid_same {xs : List (List Int × Int)} {j k : Nat} {x : List Int × Int} (h : xs[j]? = some x) (hn : (k : Int) ∉ x.1 ∨ (k : Int) ∈ usedMid xs k j) : usedMid xs k (j + 1) = usedMid xs k j := by
  have e : inCuts (xs.take (j + 1)) k ↔ inCuts (xs.take j) k := by
    rw [inCuts_succ h]
    constructor
    · rintro (h1 | h1)
      · exact h1
      · rcases hn with h2 | h2
        · exact absurd h1 h2
        · exact usedMid_has.1 h2
    · exact .inl
  unfold usedMid
  by_cases h1 : inCuts (xs.take j) k
  · rw [if_pos h1, if_pos (e.2 h1)]
  · rw [if_neg h1, if_neg (fun h => h1 (e.1 h))]
theorem usedMid_new {xs : List (List Int × Int)} {j k : Nat} {x : List Int × Int} (h : xs[j]? = some x) (h1 : (k : Int) ∈ x.1) (h2 : (k : Int) ∉ usedMid xs k j) : usedMid xs k (j + 1) = usedMid xs k j ++ [(k : Int)] := by
  have h3 : ¬ inCuts (xs.take j) k := fun h => h2 (usedMid_has.2 h)
  unfold usedMid
  rw [if_neg h3, if_pos ((inCuts_succ h).2 (.inr h1)), List.append_nil]
theorem costsV_snoc (ops : List OpV) (U : List Int) (x : Int) : costsV ops (U ++ [x]) = costsV ops U ++ [valAt (ops.map (·.cost)) x] := by unfold costsV; rw [List.map_append]; rfl
/-- The places of a cut's operators, as the law finds them. -/
def setTo (U C : List Int) (e : Nat) : List Int := ((List.range e).filter fun i => decide ((U[i]?).getD (-1) ∈ C)).map fun i : Nat => (i : Int)
theorem setTo_succ {U C : List Int} {e : Nat} {x : Int} (h : U[e]? = some x) : setTo U C (e + 1) = setTo U C e ++ if x ∈ C then [(e : Int)] else [] := by
  unfold setTo
  rw [List.range_succ, List.filter_append, List.map_append]
  congr 1
  by_cases hx : x ∈ C
  · simp [h, hx]
  · simp [h, hx]
theorem setTo_len (U C : List Int) (e : Nat) : (setTo U C e).length ≤ e := by
  unfold setTo
  rw [List.length_map]
  exact Nat.le_trans (List.length_filter_le _ _) (by rw [List.length_range]; exact Nat.le_refl _)
theorem setTo_mem {U C : List Int} {e : Nat} {x : Int} : x ∈ setTo U C e ↔ ∃ i : Nat, x = (i : Int) ∧ i < e ∧ (U[i]?).getD (-1) ∈ C := by
  unfold setTo
  rw [List.mem_map]
  constructor
  · rintro ⟨i, hi, rfl⟩
    rw [List.mem_filter, List.mem_range, decide_eq_true_iff] at hi
    exact ⟨i, rfl, hi⟩
  · rintro ⟨i, rfl, h⟩
    exact ⟨i, by rw [List.mem_filter, List.mem_range, decide_eq_true_iff]; exact h, rfl⟩
theorem setTo_set (U C : List Int) (e : Nat) : SetP (setTo U C e) (e : Int) := SetP.of_pairwise (fun x hx => by
  obtain ⟨i, rfl, h, _⟩ := setTo_mem.1 hx
  omega) (by
  unfold setTo
  refine List.pairwise_map.2 (List.Pairwise.imp (fun {a b} h => by omega) (List.Pairwise.filter _ List.pairwise_lt_range)))
theorem setTo_ne {U C : List Int} (h : ∃ x ∈ C, x ∈ U) : ¬ (setTo U C U.length).length = 0 := by
  obtain ⟨x, h1, h2⟩ := h
  obtain ⟨i, hi⟩ := List.getElem?_of_mem h2
  intro h0
  have h3 : (i : Int) ∈ setTo U C U.length := setTo_mem.2 ⟨i, rfl, (List.getElem?_eq_some_iff.1 hi).1, by rw [hi]; exact h1⟩
  rw [List.eq_nil_of_length_eq_zero h0] at h3
  cases h3
/-- Whether a word hits a set does not depend on how the set is written. -/
theorem hit_setTo {U C : List Int} (hs : U.Pairwise (· < ·)) (hC : ∀ x ∈ C, x ∈ U) {v : Nat} : HitW (setTo U C U.length) v ↔ HitW (setV U C) v := by
  constructor
  · rintro ⟨e, h1, h2⟩
    obtain ⟨i, hi, hl, hx⟩ := setTo_mem.1 h1
    obtain rfl : e = i := by omega
    rw [List.getElem?_eq_getElem hl, Option.getD_some] at hx
    exact ⟨e, (setV_mem hs hC).2 ⟨_, hx, List.getElem?_eq_getElem hl⟩, h2⟩
  · rintro ⟨e, h1, h2⟩
    obtain ⟨x, hx, hu⟩ := (setV_mem hs hC).1 h1
    exact ⟨e, setTo_mem.2 ⟨e, rfl, (List.getElem?_eq_some_iff.1 hu).1, by rw [hu]; exact hx⟩, h2⟩
def setsT (U : List Int) (xs : List (List Int × Int)) : List (List Int) := xs.map fun c => setTo U c.1 U.length
theorem setsT_succ {U : List Int} {xs : List (List Int × Int)} {k : Nat} {x : List Int × Int} (h : xs[k]? = some x) : setsT U (xs.take (k + 1)) = setsT U (xs.take k) ++ [setTo U x.1 U.length] := by
  unfold setsT; rw [List.take_add_one, h, List.map_append]; rfl
theorem setsT_len (U : List Int) (xs : List (List Int × Int)) : (setsT U xs).length = xs.length := by unfold setsT; rw [List.length_map]
theorem allhit_setsT (xs : List (List Int × Int)) (N v : Nat) : AllHit (setsT (usedV xs) xs) N v ↔ AllHit (setsV (usedV xs) xs) N v := by
  have key : ∀ c ∈ xs, (HitW (setTo (usedV xs) c.1 (usedV xs).length) v ↔ HitW (setV (usedV xs) c.1) v) := fun c hc => hit_setTo (usedV_lt xs) fun y hy => usedV_mem.2 ⟨c, hc, hy⟩
  constructor
  · rintro ⟨h1, h2⟩
    refine ⟨h1, fun s hs => ?_⟩
    obtain ⟨c, hc, rfl⟩ := List.mem_map.1 hs
    exact (key c hc).1 (h2 _ (List.mem_map.2 ⟨c, hc, rfl⟩))
  · rintro ⟨h1, h2⟩
    refine ⟨h1, fun s hs => ?_⟩
    obtain ⟨c, hc, rfl⟩ := List.mem_map.1 hs
    exact (key c hc).2 (h2 _ (List.mem_map.2 ⟨c, hc, rfl⟩))
section
variable {n : Nat} {t : TaskV} {st : List Int} {xs : List (List Int × Int)}
theorem hok_cuts (hv : Valid t) (hok : CutsOk n st t.goal t.ops (t.ops.map (·.cost)) xs) (hf : ¬ (16 < xs.length ∨ 16 < (usedV xs).length)) : HOk (setsT (usedV xs) xs) (costsV t.ops (usedV xs)) := by
  refine ⟨by rw [setsT_len]; omega, by rw [costsV_len]; omega, costsV_in hv (used_rng hv hok), fun s hs => ?_⟩
  obtain ⟨c, hc, rfl⟩ := List.mem_map.1 hs
  refine ⟨setTo_ne ?_, by rw [costsV_len]; exact setTo_set _ _ _⟩
  have hne := (cuts_in hv hok).ne c hc
  obtain ⟨x, hx⟩ := List.exists_mem_of_ne_nil _ hne
  exact ⟨x, hx, usedV_mem.2 ⟨c, hc, hx⟩⟩
theorem cho_cuts (hv : Valid t) (hok : CutsOk n st t.goal t.ops (t.ops.map (·.cost)) xs) (hf : ¬ (16 < xs.length ∨ 16 < (usedV xs).length)) {c d : Int} {v u : Nat}
    (h : Cho (costW (costsV t.ops (usedV xs))) (AllHit (setsV (usedV xs) xs) (2 ^ (costsV t.ops (usedV xs)).length)) c v) (k : Cho (costW (costsV t.ops (usedV xs))) (AllHit (setsT (usedV xs) xs) (2 ^ (costsV t.ops (usedV xs)).length)) d u) : c = d := by
  have h2 := h.congr fun w => (allhit_setsT xs _ w).symm
  exact ((cho_least (hok_cuts hv hok hf) h2).uniq (cho_least (hok_cuts hv hok hf) k)).1
end

end Go.Proofs.Ytihkgdlanfemcaa
