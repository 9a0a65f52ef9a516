/-
  The achievers of a landmark that is not in the initial state are a cut.
-/
import Derived.Test.YthnhhohnjiigcaaLm6
import Derived.Test.YthnhhohnjiigcaaLm7
import Derived.Test.YthnhhohnjiigcaaBlaw
import Derived.Test.YthnhhohnjiigcaaOpen
namespace Go.Proofs.Ythnhhohnjiigcaa
open Go.RowKit
set_option linter.unusedVariables false
set_option linter.unusedSimpArgs false

theorem quiet_add_same {P : Program} {f : FuncId} {args : Array Value} {w : World} {a n : Nat} {v : Value}
    (h : Calls P f args (w.drewN (a + n)) fun e w' => e = .returned v ∧ w' = w.drewN (a + n)) :
    Calls P f args (w.drewN (a + n)) fun e w'' => e = .returned v ∧ ∃ m, w'' = w.drewN (a + m) :=
  h.mono fun _ _ ⟨he, hm⟩ => ⟨he, n, hm⟩
theorem achV_mem {t : TaskV} {p x : Int} : x ∈ achV t p ↔ ∃ i : Nat, x = (i : Int) ∧ i < t.ops.length ∧ AchP t p i := by
  unfold achV achTo
  rw [List.mem_map]
  constructor
  · rintro ⟨i, hi, rfl⟩
    rw [List.mem_filter, List.mem_range] at hi
    exact ⟨i, rfl, hi.1, (@decide_eq_true_iff _ (Classical.propDecidable _)).1 hi.2⟩
  · rintro ⟨i, rfl, h1, h2⟩
    refine ⟨i, ?_, rfl⟩
    rw [List.mem_filter, List.mem_range]
    exact ⟨h1, (@decide_eq_true_iff _ (Classical.propDecidable _)).2 h2⟩
theorem achV_in {t : TaskV} {p : Int} : ∀ x ∈ achV t p, 0 ≤ x ∧ x < (t.ops.length : Int) := fun x hx => by
  obtain ⟨i, rfl, h, _⟩ := achV_mem.1 hx
  omega
theorem achV_set {t : TaskV} {p : Int} : SetP (achV t p) (t.ops.length : Int) := by
  refine SetP.of_pairwise achV_in ?_
  unfold achV achTo
  rw [List.pairwise_map]
  exact (List.pairwise_lt_range.filter _).imp (fun h => by omega)
theorem achV_init {t : TaskV} {p : Int} (h : p ∈ t.init) : achV t p = [] := by
  apply List.eq_nil_iff_forall_not_mem.2
  intro x hx
  obtain ⟨i, _, _, o, _, h2, _⟩ := achV_mem.1 hx
  exact h2 h
theorem ach_reach {t : TaskV} {p q : Int} (hp : ¬ p ∈ t.init) (h : Reach t.init t.ops (useOut (achV t p)) q) : Reach t.init t.ops (useNot t.ops p) q := by
  induction h with
  | init h => exact .init h
  | @step q i o ho hu hq hpa ih =>
    refine .step ho ?_ ih hpa
    rw [useNot_of ho]
    by_cases hpo : p ∈ o.add
    · exfalso
      have hm : ((i : Nat) : Int) ∈ achV t p := achV_mem.2 ⟨i, rfl, (List.getElem?_eq_some_iff.1 ho).1, o, ho, hp, hpo, ih⟩
      unfold useOut at hu
      simp [hm] at hu
    · simp [hpo]
theorem land_cut {n : Nat} {t : TaskV} {p : Int} (h : p ∈ landV n t) (hp : ¬ p ∈ t.init) : ¬ ∀ x ∈ t.goal, x ∈ withinV n t.init t.ops (useOut (achV t p)) := fun ha => by
  rcases (landV_mem.1 h).2.2 with h1 | h1
  · exact hp h1
  · exact h1 fun q hq => ach_reach hp (withinV_mem.1 (ha q hq)).2.2
set_option maxRecDepth 100000 in
set_option maxHeartbeats 1000000 in
theorem walk_lcuts_1 (w : World) (t : TaskV) (Ai Ag Ao : Option Addr) (ci cg co : Nat) (hR : TaskRead w Ai Ag Ao ci cg co t) (h : ¬ (tfault t).1 = 0) :
    Calls Try.prog 5 #[.agg #[.int .i64 t.facts, .slice Ai t.init.length ci, .slice Ag t.goal.length cg, .slice Ao t.ops.length co]] w fun e w' => e = .returned (.bool true) ∧ Below w.heap.size w w' := by
  have N := bb_no h
  have N' := bn_yes h
  have hT := hR.mem
  go_enter Try.func5, Try.ntmps5
  go_wp2_with fail
  refine (lexample_any _).mono ?_
  rintro e w1 ⟨rfl, hB1⟩
  have D1 := dstep w hB1 (by repeat (first | with_reducible exact Below.refl _ _ | with_reducible apply bdrew | with_reducible apply bdrewN | with_reducible apply balloc | ((with_reducible refine bset ?_ ?_ _); rotate_left; (first | omega | (simp <;> omega)))))
  have d1s := D1.size
  have C1 := Cls.below (l := [(w.heap.size, 0, .int .i64 t.facts), (w.heap.size, 1, .slice Ai t.init.length ci), (w.heap.size, 2, .slice Ag t.goal.length cg), (w.heap.size, 3, .slice Ao t.ops.length co)]) hB1 (by simp [Cls, go_sem])
  have F1 := C1
  simp only [Cls, and_true] at F1
  have y1w0 : w.heap.size < w1.heap.size := C1.blk (b := w.heap.size) (k := 0) (v := .int .i64 t.facts) (by simp)
  have y1wp1 : w.heap.size < w1.heap.size + 1 := (by omega)
  have y1wp2 : w.heap.size < w1.heap.size + 1 + 1 := (by omega)
  go_wp2_with fail
  refine (lfacts_1 _ t Ai Ag Ao ci cg co (hT.below (by repeat (first | with_reducible exact D1 | with_reducible apply bdrew | with_reducible apply bdrewN | with_reducible apply balloc | ((with_reducible refine bset ?_ ?_ _); rotate_left; (first | omega | (simp <;> omega)))))) h).mono ?_
  rintro e w2 ⟨rfl, hB2⟩
  have D2 := dstep w hB2 (by repeat (first | with_reducible exact D1 | with_reducible apply bdrew | with_reducible apply bdrewN | with_reducible apply balloc | ((with_reducible refine bset ?_ ?_ _); rotate_left; (first | omega | (simp <;> omega)))))
  have d2s := D2.size
  have C2 := Cls.below (l := [(w.heap.size, 0, .int .i64 t.facts), (w.heap.size, 1, .slice Ai t.init.length ci), (w.heap.size, 2, .slice Ag t.goal.length cg), (w.heap.size, 3, .slice Ao t.ops.length co)]) hB2 (by simp [Cls, go_sem, F1, y1w0, y1wp1, y1wp2])
  have F2 := C2
  simp only [Cls, and_true] at F2
  have y2w0 : w.heap.size < w2.heap.size := C2.blk (b := w.heap.size) (k := 0) (v := .int .i64 t.facts) (by simp)
  have y2wp1 : w.heap.size < w2.heap.size + 1 := (by omega)
  have y2wp2 : w.heap.size < w2.heap.size + 1 + 1 := (by omega)
  go_wp2_with fail
  refine (achievers_1 _ t Ai Ag Ao ci cg co (hT.below (by repeat (first | with_reducible exact D2 | with_reducible apply bdrew | with_reducible apply bdrewN | with_reducible apply balloc | ((with_reducible refine bset ?_ ?_ _); rotate_left; (first | omega | (simp <;> omega)))))) h).mono ?_
  rintro e w3 ⟨rfl, hB3⟩
  have D3 := dstep w hB3 (by repeat (first | with_reducible exact D2 | with_reducible apply bdrew | with_reducible apply bdrewN | with_reducible apply balloc | ((with_reducible refine bset ?_ ?_ _); rotate_left; (first | omega | (simp <;> omega)))))
  have d3s := D3.size
  have C3 := Cls.below (l := [(w.heap.size, 0, .int .i64 t.facts), (w.heap.size, 1, .slice Ai t.init.length ci), (w.heap.size, 2, .slice Ag t.goal.length cg), (w.heap.size, 3, .slice Ao t.ops.length co), (w2.heap.size, 0, .int .i64 (tfault t).1), (w2.heap.size, 1, .int .i64 (tfault t).2)]) hB3 (by simp [Cls, go_sem, F2, y2w0, y2wp1, y2wp2])
  have F3 := C3
  simp only [Cls, and_true] at F3
  have y3w0 : w.heap.size < w3.heap.size := C3.blk (b := w.heap.size) (k := 0) (v := .int .i64 t.facts) (by simp)
  have y3wp1 : w.heap.size < w3.heap.size + 1 := (by omega)
  have y3wp2 : w.heap.size < w3.heap.size + 1 + 1 := (by omega)
  have y3w20 : w2.heap.size < w3.heap.size := C3.blk (b := w2.heap.size) (k := 0) (v := .int .i64 (tfault t).1) (by simp)
  have y3w2p1 : w2.heap.size < w3.heap.size + 1 := (by omega)
  have y3w2p2 : w2.heap.size < w3.heap.size + 1 + 1 := (by omega)
  go_wp2
  go_ret
  exact ⟨by simp, by repeat (first | with_reducible exact D3 | with_reducible apply bdrew | with_reducible apply bdrewN | with_reducible apply balloc | ((with_reducible refine bset ?_ ?_ _); rotate_left; (first | omega | (simp <;> omega))))⟩

set_option maxRecDepth 100000 in
set_option maxHeartbeats 4000000 in
theorem walk_lcuts_2 (w : World) (t : TaskV) (Ai Ag Ao : Option Addr) (ci cg co : Nat) (hR : TaskRead w Ai Ag Ao ci cg co t) (n : Nat) (hn : t.facts = n) (hv : Valid t) :
    Calls Try.prog 5 #[.agg #[.int .i64 t.facts, .slice Ai t.init.length ci, .slice Ag t.goal.length cg, .slice Ao t.ops.length co]] w fun e w' => e = .returned (.bool true) ∧ Below w.heap.size w w' := by
  have hT := hR.mem
  have hn24 : n ≤ 24 := by have := hv.f1; omega
  have hn9 : n ≤ 1000000000 := by omega
  have h40 := hv.nops
  have h12 : t.ops.length ≤ 1000000000000 := by omega
  have HN := Lib.hid hn
  have HV := Lib.hid hv
  have HSI := Lib.hid (show SetP t.init (n : Int) by rw [← hn]; exact hv.init)
  have HNI := Lib.hid hR.ninit.1
  have HOPS := Lib.hid (ops_in hv hn)
  have hll := landV_len n t
  have hli := hT.linit.le
  have hlo := hT.lops.le
  have hoi1 : -9223372036854775808 < (t.ops.length : Int) := by omega
  have hoi2 : (t.ops.length : Int) ≤ 9223372036854775807 := by omega
  clear hv hn
  go_enter Try.func5, Try.ntmps5
  go_wp2_with fail
  refine (lexample_any _).mono ?_
  rintro e w1 ⟨rfl, hB1⟩
  have D1 := dstep w hB1 (by repeat (first | with_reducible exact Below.refl _ _ | with_reducible apply bdrew | with_reducible apply bdrewN | with_reducible apply balloc | ((with_reducible refine bset ?_ ?_ _); rotate_left; (first | omega | (simp <;> omega)))))
  have d1s := D1.size
  have C1 := Cls.below (l := [(w.heap.size, 0, .int .i64 t.facts), (w.heap.size, 1, .slice Ai t.init.length ci), (w.heap.size, 2, .slice Ag t.goal.length cg), (w.heap.size, 3, .slice Ao t.ops.length co)]) hB1 (by simp [Cls, go_sem])
  have F1 := C1
  simp only [Cls, and_true] at F1
  have y1w0 : w.heap.size < w1.heap.size := C1.blk (b := w.heap.size) (k := 0) (v := .int .i64 t.facts) (by simp)
  have y1wp1 : w.heap.size < w1.heap.size + 1 := (by omega)
  have y1wp2 : w.heap.size < w1.heap.size + 1 + 1 := (by omega)
  go_wp2_with fail
  refine (lfacts_2 _ t Ai Ag Ao ci cg co (hT.below (by repeat (first | with_reducible exact D1 | with_reducible apply bdrew | with_reducible apply bdrewN | with_reducible apply balloc | ((with_reducible refine bset ?_ ?_ _); rotate_left; (first | omega | (simp <;> omega)))))) n HN.out HV.out).mono ?_
  rintro e w2 ⟨v2, rfl, ho2, hB2⟩
  have D2 := dstep w hB2 (by repeat (first | with_reducible exact D1 | with_reducible apply bdrew | with_reducible apply bdrewN | with_reducible apply balloc | ((with_reducible refine bset ?_ ?_ _); rotate_left; (first | omega | (simp <;> omega)))))
  have d2s := D2.size
  have C2 := Cls.below (l := [(w.heap.size, 0, .int .i64 t.facts), (w.heap.size, 1, .slice Ai t.init.length ci), (w.heap.size, 2, .slice Ag t.goal.length cg), (w.heap.size, 3, .slice Ao t.ops.length co)]) hB2 (by simp [Cls, go_sem, F1, y1w0, y1wp1, y1wp2])
  have F2 := C2
  simp only [Cls, and_true] at F2
  have y2w0 : w.heap.size < w2.heap.size := C2.blk (b := w.heap.size) (k := 0) (v := .int .i64 t.facts) (by simp)
  have y2wp1 : w.heap.size < w2.heap.size + 1 := (by omega)
  have y2wp2 : w.heap.size < w2.heap.size + 1 + 1 := (by omega)
  obtain ⟨l, hl⟩ : ∃ l, Hid (landV n t = l) := ⟨_, Lib.hid rfl⟩
  rw [hl.out] at ho2 hll
  obtain ⟨A2, c2, rfl, hnil2, hI2⟩ := ho2.form
  clear hnil2 ho2
  go_wp2_with fail
  refine (achievers_2 _ t Ai Ag Ao ci cg co (hT.below (by repeat (first | with_reducible exact D2 | with_reducible apply bdrew | with_reducible apply bdrewN | with_reducible apply balloc | ((with_reducible refine bset ?_ ?_ _); rotate_left; (first | omega | (simp <;> omega)))))) n HN.out HV.out).mono ?_
  rintro e w3 ⟨v3, rfl, ⟨Bq, hBq, ho3⟩, hB3⟩
  have D3 := dstep w hB3 (by repeat (first | with_reducible exact D2 | with_reducible apply bdrew | with_reducible apply bdrewN | with_reducible apply balloc | ((with_reducible refine bset ?_ ?_ _); rotate_left; (first | omega | (simp <;> omega)))))
  have d3s := D3.size
  have Ew2_3 := dstep w2 hB3 (by repeat (first | with_reducible exact Below.refl _ _ | with_reducible apply bdrew | with_reducible apply bdrewN | with_reducible apply balloc | ((with_reducible refine bset ?_ ?_ _); rotate_left; (first | omega | (simp <;> omega)))))
  have C3 := Cls.below (l := [(w.heap.size, 0, .int .i64 t.facts), (w.heap.size, 1, .slice Ai t.init.length ci), (w.heap.size, 2, .slice Ag t.goal.length cg), (w.heap.size, 3, .slice Ao t.ops.length co), (w2.heap.size, 0, .int .i64 0), (w2.heap.size, 1, .int .i64 0)]) hB3 (by simp [Cls, go_sem, F2, y2w0, y2wp1, y2wp2])
  have F3 := C3
  simp only [Cls, and_true] at F3
  have y3w0 : w.heap.size < w3.heap.size := C3.blk (b := w.heap.size) (k := 0) (v := .int .i64 t.facts) (by simp)
  have y3wp1 : w.heap.size < w3.heap.size + 1 := (by omega)
  have y3wp2 : w.heap.size < w3.heap.size + 1 + 1 := (by omega)
  have y3w20 : w2.heap.size < w3.heap.size := C3.blk (b := w2.heap.size) (k := 0) (v := .int .i64 0) (by simp)
  have y3w2p1 : w2.heap.size < w3.heap.size + 1 := (by omega)
  have y3w2p2 : w2.heap.size < w3.heap.size + 1 + 1 := (by omega)
  rw [hl.out] at ho3
  obtain ⟨A3, c3, rfl⟩ := OwnEs.form ho3
  have ho3' : OwnLL Bq w3 (.slice A3 l.length c3) (l.map (achV t)) := by have := ho3; rw [List.length_map] at this; exact this
  have hI3 := hI2.below (by repeat (first | with_reducible exact Ew2_3 | with_reducible apply bdrew | with_reducible apply bdrewN | with_reducible apply balloc | ((with_reducible refine bset ?_ ?_ _); rotate_left; (first | omega | (simp <;> omega)))))
  have hrl : (l.map (achV t)).length = l.length := List.length_map _
  have HRL := Lib.hid hrl
  clear hrl ho3 hBq
  go_wp2_with fail
  go_loopw [7] (fun i wr => ∃ k : Nat, k ≤ l.length ∧ i = .int .i64 k ∧ Below w3.heap.size w3 wr ∧ Cls wr [(w.heap.size, 0, .int .i64 t.facts), (w.heap.size, 1, .slice Ai t.init.length ci), (w.heap.size, 2, .slice Ag t.goal.length cg), (w.heap.size, 3, .slice Ao t.ops.length co), (w2.heap.size, 0, .int .i64 0), (w2.heap.size, 1, .int .i64 0), (w3.heap.size, 0, .int .i64 0), (w3.heap.size, 1, .int .i64 0)]) (fun i _ => l.length - (intOf i).toNat)
  case atStart => exact ⟨0, Nat.zero_le _, rfl, (by repeat (first | with_reducible exact Below.refl _ _ | with_reducible apply bdrew | with_reducible apply bdrewN | with_reducible apply balloc | ((with_reducible refine bset ?_ ?_ _); rotate_left; (first | omega | (simp <;> omega))))), (by simp [Cls, go_sem, F3, y3w0, y3wp1, y3wp2, y3w20, y3w2p1, y3w2p2])⟩
  case round =>
    obtain ⟨k, hk, rfl, hBr, hCr⟩ := hrel
    obtain ⟨w4, rfl⟩ : ∃ wo : World, wo = wr := ⟨_, rfl⟩
    have drs := hBr.size
    have Fr := hCr
    simp only [Cls, and_true] at Fr
    have yrw0 : w.heap.size < w4.heap.size := hCr.blk (b := w.heap.size) (k := 0) (v := .int .i64 t.facts) (by simp)
    have yrwp1 : w.heap.size < w4.heap.size + 1 := (by omega)
    have yrwp2 : w.heap.size < w4.heap.size + 1 + 1 := (by omega)
    have yrw20 : w2.heap.size < w4.heap.size := hCr.blk (b := w2.heap.size) (k := 0) (v := .int .i64 0) (by simp)
    have yrw2p1 : w2.heap.size < w4.heap.size + 1 := (by omega)
    have yrw2p2 : w2.heap.size < w4.heap.size + 1 + 1 := (by omega)
    have yrw30 : w3.heap.size < w4.heap.size := hCr.blk (b := w3.heap.size) (k := 0) (v := .int .i64 0) (by simp)
    have yrw3p1 : w3.heap.size < w4.heap.size + 1 := (by omega)
    have yrw3p2 : w3.heap.size < w4.heap.size + 1 + 1 := (by omega)
    have DR := D3.trans (hBr.mono D3.size)
    by_cases hlt : k < l.length
    · obtain ⟨pd, p, rfl, hp, hpc⟩ := (hI3.below hBr).at_ hlt
      obtain ⟨g, cs', r, rfl, hgb, hgl, hr, hcl, hcell, A', c', rfl, hJ, hJn, hJ1, hJ2, hJ3⟩ := OwnEs.at_ (ho3'.below hBr) (i := k) (by have := HRL.out; omega)
      have hrr : r = achV t p := by
        have := hr.out
        rw [List.getElem?_map, hp.out] at this
        injection this with this
        exact this.symm
      subst hrr
      have hcr : w4.cell? ⟨g, k, none⟩ = some (.slice A' (achV t p).length c') := by have := hcell 0 _ rfl; simpa using this
      have HPL := Lib.hid (show p ∈ landV n t by rw [hl.out]; exact List.mem_of_getElem? hp.out)
      have hrl : (achV t p).length ≤ 9223372036854775807 := by omega
      have HST := Lib.hid (setB_true.2 (achV_set (t := t) (p := p)))
      clear hr hcl hcell hJn hJ1 hJ2 hJ3 hgb
      by_cases hi : p ∈ t.init
      · have HE := Lib.hid (achV_init hi)
        have HI := Lib.hid hi
        rw [HE.out] at hcr hJ HST hrl
        clear hi
        have hi := HI
        go_wp2_with fail
        go_quiet ((first | (go_at_call 26; exact Calls.quiet_of ((risset_q _ _ _ _ _ (hJ.below (by repeat (first | with_reducible exact Below.refl _ _ | with_reducible apply bdrew | with_reducible apply bdrewN | with_reducible apply balloc | ((with_reducible refine bset ?_ ?_ _); rotate_left; (first | omega | (simp <;> omega)))))) hrl hoi1 hoi2).mono fun _ _ h => ⟨by rw [h.1, HST.out], h.2⟩)) | (go_at_call 27; exact Calls.quiet_of_same (((has_yes _ _ _ _ _ (hT.init.below (by repeat (first | with_reducible exact DR | with_reducible apply bdrew | with_reducible apply bdrewN | with_reducible apply balloc | ((with_reducible refine bset ?_ ?_ _); rotate_left; (first | omega | (simp <;> omega)))))) hli hi.out).mono fun _ _ h => ⟨h.1, h.2.symm⟩)))))
        go_wp2_with fail
        go_quiet ((go_at_call 27; exact quiet_add_same (((has_yes _ _ _ _ _ (hT.init.below (by repeat (first | with_reducible exact DR | with_reducible apply bdrew | with_reducible apply bdrewN | with_reducible apply balloc | ((with_reducible refine bset ?_ ?_ _); rotate_left; (first | omega | (simp <;> omega)))))) hli hi.out).mono fun _ _ h => ⟨h.1, h.2.symm⟩))))
        go_wp2
        go_roundw
        case rel => exact ⟨k + 1, by omega, by go_num, (by repeat (first | with_reducible exact hBr | with_reducible apply bdrew | with_reducible apply bdrewN | with_reducible apply balloc | ((with_reducible refine bset ?_ ?_ _); rotate_left; (first | omega | (simp <;> omega))))), (Cls.below (w := w4) (by repeat (first | with_reducible exact Below.refl _ _ | with_reducible apply bdrew | with_reducible apply bdrewN | with_reducible apply balloc | ((with_reducible refine bset ?_ ?_ _); rotate_left; (first | omega | (simp <;> omega))))) hCr)⟩
        case measure => simp [intOf]; omega
      · have HI := Lib.hid hi
        have HC := Lib.hid (decide_eq_false (land_cut HPL.out hi))
        clear hi
        have hi := HI
        go_wp2_with fail
        go_quiet ((first | (go_at_call 26; exact Calls.quiet_of ((risset_q _ _ _ _ _ (hJ.below (by repeat (first | with_reducible exact Below.refl _ _ | with_reducible apply bdrew | with_reducible apply bdrewN | with_reducible apply balloc | ((with_reducible refine bset ?_ ?_ _); rotate_left; (first | omega | (simp <;> omega)))))) hrl hoi1 hoi2).mono fun _ _ h => ⟨by rw [h.1, HST.out], h.2⟩)) | (go_at_call 27; exact Calls.quiet_of_same (((has_no _ _ _ _ _ (hT.init.below (by repeat (first | with_reducible exact DR | with_reducible apply bdrew | with_reducible apply bdrewN | with_reducible apply balloc | ((with_reducible refine bset ?_ ?_ _); rotate_left; (first | omega | (simp <;> omega)))))) hli hi.out).mono fun _ _ h => ⟨h.1, h.2.symm⟩)))))
        go_wp2_with fail
        go_region_held3 (fun W => W.cell? ⟨w.heap.size, 0, none⟩ = some (.int .i64 t.facts) ∧ W.cell? ⟨w.heap.size, 1, none⟩ = some (.slice Ai t.init.length ci) ∧ W.cell? ⟨w.heap.size, 2, none⟩ = some (.slice Ag t.goal.length cg) ∧ W.cell? ⟨w.heap.size, 3, none⟩ = some (.slice Ao t.ops.length co) ∧ W.cell? (pd.add k) = some (.int .i64 p) ∧ W.cell? ⟨g, k, none⟩ = some (.slice A' (achV t p).length c')) (first | exact hK | go_keep) (first | (go_at_call 27; refine (has_no _ _ _ _ _ (hT.init.below (by repeat (first | with_reducible exact DR | with_reducible apply bdrew | with_reducible apply bdrewN | with_reducible apply balloc | ((with_reducible refine bset ?_ ?_ _); rotate_left; (first | omega | (simp <;> omega)))))) hli hi.out).mono ?_; rintro e w9 ⟨rfl, hW⟩; subst hW) | (go_at_call 28; refine (iscut_any _ t Ai Ag Ao ci cg co (hT.below (by repeat (first | with_reducible exact DR | with_reducible apply bdrew | with_reducible apply bdrewN | with_reducible apply balloc | ((with_reducible refine bset ?_ ?_ _); rotate_left; (first | omega | (simp <;> omega)))))) n HN.out hn9 h12 _ _ _ (hT.init.below (by repeat (first | with_reducible exact DR | with_reducible apply bdrew | with_reducible apply bdrewN | with_reducible apply balloc | ((with_reducible refine bset ?_ ?_ _); rotate_left; (first | omega | (simp <;> omega)))))) HSI.out HNI.out HOPS.out _ _ _ (hJ.below (by repeat (first | with_reducible exact Below.refl _ _ | with_reducible apply bdrew | with_reducible apply bdrewN | with_reducible apply balloc | ((with_reducible refine bset ?_ ?_ _); rotate_left; (first | omega | (simp <;> omega)))))) hrl achV_in).mono ?_; rintro e w5 ⟨he, hB5⟩; rw [HC.out] at he; subst he; have D5 := dstep w3 hB5 (by repeat (first | with_reducible exact hBr | with_reducible apply bdrew | with_reducible apply bdrewN | with_reducible apply balloc | ((with_reducible refine bset ?_ ?_ _); rotate_left; (first | omega | (simp <;> omega))))); have E5 := dstep w4 hB5 (by repeat (first | with_reducible exact Below.refl _ _ | with_reducible apply bdrew | with_reducible apply bdrewN | with_reducible apply balloc | ((with_reducible refine bset ?_ ?_ _); rotate_left; (first | omega | (simp <;> omega))))); have C5 := Cls.below (w := w4) E5 hCr; have F5 := C5; simp only [Cls, and_true] at F5; have hpc5 := (E5.cell (World.block_lt_of_cell? w4 _ hpc)).trans hpc; have hcr5 := (E5.cell (World.block_lt_of_cell? w4 _ hcr)).trans hcr; have hK : w5.cell? ⟨w.heap.size, 0, none⟩ = some (.int .i64 t.facts) ∧ w5.cell? ⟨w.heap.size, 1, none⟩ = some (.slice Ai t.init.length ci) ∧ w5.cell? ⟨w.heap.size, 2, none⟩ = some (.slice Ag t.goal.length cg) ∧ w5.cell? ⟨w.heap.size, 3, none⟩ = some (.slice Ao t.ops.length co) ∧ w5.cell? (pd.add k) = some (.int .i64 p) ∧ w5.cell? ⟨g, k, none⟩ = some (.slice A' (achV t p).length c') := (by simp [F5, hpc5, hcr5])))
        go_wp2
        go_roundw
        case rel => exact ⟨k + 1, by omega, by go_num, (by repeat (first | with_reducible exact D5 | with_reducible apply bdrew | with_reducible apply bdrewN | with_reducible apply balloc | ((with_reducible refine bset ?_ ?_ _); rotate_left; (first | omega | (simp <;> omega))))), C5⟩
        case measure => simp [intOf]; omega
    · go_wp2
      go_ret
      exact ⟨rfl, by repeat (first | with_reducible exact DR | with_reducible apply bdrew | with_reducible apply bdrewN | with_reducible apply balloc | ((with_reducible refine bset ?_ ?_ _); rotate_left; (first | omega | (simp <;> omega))))⟩

theorem walk_lcuts (w : World) (t : TaskV) (Ai Ag Ao : Option Addr) (ci cg co : Nat) (hR : TaskRead w Ai Ag Ao ci cg co t) :
    Calls Try.prog 5 #[.agg #[.int .i64 t.facts, .slice Ai t.init.length ci, .slice Ag t.goal.length cg, .slice Ao t.ops.length co]] w fun e w' => e = .returned (.bool true) ∧ Below w.heap.size w w' := by
  by_cases h : (tfault t).1 = 0
  · have hv := tfault_zero.1 h
    obtain ⟨n, hn⟩ := Int.eq_ofNat_of_zero_le hv.f0
    exact walk_lcuts_2 w t Ai Ag Ao ci cg co hR n hn hv
  · exact walk_lcuts_1 w t Ai Ag Ao ci cg co hR h

namespace landmarkAchieversAreCuts
open Go.ChangeShapes Go.WideShapes Go.ChangeAt Go.RowKit

set_option maxRecDepth 100000 in
theorem lifted (os : Os) (started : os.Started) (H : Type) (enc : TypeId × Value → H) :
    ReturnsInHanded {} Try.checked os 5 .any (Rows.landmarkAchieversAreCutsSpec.pre6 enc Try.prog Try.f5 Rows.landmarkAchieversAreCutsRow.domain false) (Rows.landmarkAchieversAreCutsSpec.post enc Try.prog Try.f5 false true false false) := by
  refine returnsInHanded_of_change (C := Try.checked) own_knob started (by kernel_rfl) Try.func5
    (ChangeSpec.witness6 (enc := enc) (C := Try.checked) false ⟨#[], #[.agg #[.int .i64 0, .slice none 0 0, .slice none 0 0, .slice none 0 0]], []⟩ 8 (by kernel_rfl) (by kernel_rfl) (by kernel_rfl) (by kernel_rfl)) ?_
  intro W base args ds gs before hval0 hW _ hsz
  have hval : ∀ (j : Nat) t v, Try.f5.params[j]? = some t → args[j]? = some v → Value.okWide Try.prog W .any base t v := hval0
  have hpost := fun (W' : World) (hfn : gs = [] → Rows.landmarkAchieversAreCutsSpec.fn H (ds ++ gs) = { results := [.lit (.bool true)], args := ds }) (hb : Below W.heap.size W W') => law_post (f := Try.f5) (tb := 4) laid_out_B Try.underlying4 rfl (by kernel_rfl) rfl hfn hW hb
  obtain ⟨p, q, hA0, hV, hpq, hfz, hnd⟩ := hW
  have hA : DataW.TrodAll enc Try.prog W 0 (fun _ => true) true Try.f5.params.toList args.toList ds p := hA0
  rw [Try.params5] at hA hval
  obtain ⟨v0, vs0, d0, ds0, p0, q0, hargs, rfl, hp0, h0, r0⟩ := trodAll_cons hA
  obtain ⟨rfl, rfl, hpn⟩ := trodAll_nil r0
  obtain rfl : args = #[v0] := by cases args; simp_all
  obtain ⟨t, Ai, Ag, Ao, ci, cg, co, rfl, hR⟩ := open_taskW (hval 0 25 v0 rfl rfl) h0
  refine (walk_lcuts W t Ai Ag Ao ci cg co hR).mono fun e W' ⟨he, hb⟩ => ?_
  subst he
  exact ⟨_, rfl, hpost W' (fun hg => by subst hg; rfl) hb⟩

theorem proved : Rows.LandmarkAchieversAreCutsSaid :=
  OpenClaim.holds_of_wide 5 Try.f5 rfl rfl rfl rfl rfl rfl rfl ⟨rfl, rfl, rfl, rfl, rfl⟩ rfl rfl rfl rfl rfl (by kernel_rfl) Try.func5 (by kernel_rfl)
    (of_decide_eq_true (by kernel_rfl)) (by unfold Func.isWrapper; first | (rw [if_pos (by decide +kernel)]; kernel_rfl) | (rw [if_neg (by decide +kernel)]; exact ⟨rfl, rfl⟩))
    (fun os started H enc _ => lifted os started H enc)
#print axioms proved
end landmarkAchieversAreCuts

end Go.Proofs.Ythnhhohnjiigcaa
