/-
  S.Adders, IsLandmark, Landmarks, FirstAchievers: what they return.
-/
import Derived.Test.YthnhhohnjiigcaaLm4
import Derived.Test.YthnhhohnjiigcaaTmeet
namespace Go.Proofs.Ythnhhohnjiigcaa
open Go.RowKit
set_option linter.unusedVariables false
set_option linter.unusedSimpArgs false

/-- A bool, as an element. -/
def PBool (w : World) (row : Option Nat) (cs : List Value) (b : Bool) : Prop := cs = [.bool b]
theorem pbool_stable : Stable PBool := ⟨fun h _ => h, fun h _ => ⟨h, h⟩⟩
def OwnBs (base : Nat) (w : World) (v : Value) (bs : List Bool) : Prop := OwnEs PBool 4 1 base w v bs
theorem OwnBs.bools {base n c : Nat} {w : World} {A : Option Addr} {bs : List Bool} (h : OwnBs base w (.slice A n c) bs) : Bools w A bs := fun j u hu => by
  rw [List.getElem?_map] at hu
  cases hb : bs[j]? with
  | none => rw [hb] at hu; cases hu
  | some b =>
    rw [hb] at hu
    injection hu with hu
    subst hu
    obtain ⟨g, cs, b', rfl, _, _, hr, hl, hc, hp⟩ := OwnEs.at_ h (i := j) (List.getElem?_eq_some_iff.1 hb).1
    have hr' := hr.out
    rw [hb] at hr'
    injection hr' with hr'
    subst hr'
    subst hp
    have := hc 0 _ rfl
    refine ⟨_, rfl, ?_⟩
    have e : ((⟨g, 0, none⟩ : Addr).add j) = ⟨g, j, none⟩ := by
      unfold Addr.add
      split
      · rename_i hj; subst hj; rfl
      · simp
    rw [e]
    simpa using this
theorem bools_drew8 {w : World} {A : Option Addr} {bs : List Bool} (h : Bools w A bs) : Bools w.drew A bs := h
/-- Which operators add a fact. -/
def addersV (ops : List OpV) (p : Int) : List Bool := ops.map fun o => decide (p ∈ o.add)
theorem adders_use {ops : List OpV} {p : Int} {k : Nat} {d : Bool} (h : (addersV ops p)[k]? = some d) : useNot ops p k = !d := by
  unfold addersV at h
  rw [List.getElem?_map] at h
  cases ho : ops[k]? with
  | none => rw [ho] at h; cases h
  | some o =>
    rw [ho] at h
    injection h with h
    rw [useNot_of ho, ← h]
theorem addersV_len (ops : List OpV) (p : Int) : (addersV ops p).length = ops.length := by unfold addersV; simp
noncomputable def landB (n : Nat) (t : TaskV) (p : Int) : Bool := @decide (Land n t p) (Classical.propDecidable _)
theorem landB_true {n : Nat} {t : TaskV} {p : Int} : landB n t p = true ↔ Land n t p := by unfold landB; exact @decide_eq_true_iff _ (Classical.propDecidable _)
theorem landB_false {n : Nat} {t : TaskV} {p : Int} : landB n t p = false ↔ ¬ Land n t p := by unfold landB; exact @decide_eq_false_iff_not _ (Classical.propDecidable _)
theorem sub_within {n : Nat} {st xs : List Int} {ops : List OpV} {use : Nat → Bool} (h : ∀ x ∈ xs, 0 ≤ x ∧ x < (n : Int)) : (∀ x ∈ xs, x ∈ withinV n st ops use) ↔ ∀ x ∈ xs, Reach st ops use x :=
  ⟨fun ha x hx => (withinV_mem.1 (ha x hx)).2.2, fun ha x hx => withinV_mem.2 ⟨(h x hx).1, (h x hx).2, ha x hx⟩⟩
set_option maxRecDepth 100000 in
set_option maxHeartbeats 1000000 in
theorem adders_any (w : World) (t : TaskV) (Ai Ag Ao : Option Addr) (ci cg co : Nat) (hT : TaskMem w Ai Ag Ao t) (p : Int) (h12 : t.ops.length ≤ 100000000000) :
    Calls Try.prog 55 #[.agg #[.int .i64 t.facts, .slice Ai t.init.length ci, .slice Ag t.goal.length cg, .slice Ao t.ops.length co], .int .i64 p] w fun e w' => ∃ v, e = .returned v ∧ OwnBs w.heap.size w' v (addersV t.ops p) ∧ Below w.heap.size w w' := by
  have hlo := hT.lops.le
  go_enter Try.func55, Try.ntmps55
  go_wp2_with fail
  go_loopw [5, 6] (fun v i wr => ∃ k : Nat, k ≤ t.ops.length ∧ i = .int .i64 k ∧ OwnBs (w.heap.size + 1) wr v (addersV (t.ops.take k) p) ∧ Below w.heap.size w wr ∧ Cls wr [(w.heap.size, 0, .int .i64 t.facts), (w.heap.size, 1, .slice Ai t.init.length ci), (w.heap.size, 2, .slice Ag t.goal.length cg), (w.heap.size, 3, .slice Ao t.ops.length co)]) (fun _ i _ => t.ops.length - (intOf i).toNat)
  case atStart => exact ⟨0, Nat.zero_le _, rfl, OwnEs.nil _ _, (by repeat (first | with_reducible exact Below.refl _ _ | with_reducible apply bdrew | with_reducible apply bdrewN | with_reducible apply balloc | ((with_reducible refine bset ?_ ?_ _); rotate_left; (first | omega | (simp <;> omega))))), (by simp [Cls, go_sem])⟩
  case round =>
    obtain ⟨k, hk, rfl, hown, hBr, hCr⟩ := hrel
    obtain ⟨w2, rfl⟩ : ∃ wo : World, wo = wr := ⟨_, rfl⟩
    have drs := hBr.size
    have Fr := hCr
    simp only [Cls, and_true] at Fr
    have yrw0 : w.heap.size < w2.heap.size := hCr.blk (b := w.heap.size) (k := 0) (v := .int .i64 t.facts) (by simp)
    have yrwp1 : w.heap.size < w2.heap.size + 1 := (by omega)
    have yrwp2 : w.heap.size < w2.heap.size + 1 + 1 := (by omega)
    by_cases hlt : k < t.ops.length
    · obtain ⟨ad, o, A0, c0, A1, c1, A2, c2, rfl, ho, hc0, hc1, hc2, hc3, hm⟩ := hT.ops.at2 hBr hlt
      have hla := hm.ladd.le
      have hlen : (addersV (t.ops.take k) p).length < 1000000000000 := by rw [addersV_len, List.length_take]; omega
      have HT1 := Lib.hid (show addersV (t.ops.take k) p ++ [decide (p ∈ o.add)] = addersV (t.ops.take (k + 1)) p by unfold addersV; rw [List.take_add_one, ho.out]; simp)
      go_wp2_with fail
      refine (has_any _ _ _ _ _ (hm.add.below (by repeat (first | with_reducible exact hBr | with_reducible apply bdrew | with_reducible apply bdrewN | with_reducible apply balloc | ((with_reducible refine bset ?_ ?_ _); rotate_left; (first | omega | (simp <;> omega)))))) hla).mono ?_
      rintro e w9 ⟨rfl, rfl⟩
      go_wp2_with (at_builtin; go_must (refine wpList_el pbool_stable 53 1 (.bool false) Try.underlying53 info_bool rfl (by decide) (by decide) rfl (.tmp 14) (.tmp 23) rfl w [(w.heap.size, 0, .int .i64 t.facts), (w.heap.size, 1, .slice Ai t.init.length ci), (w.heap.size, 2, .slice Ag t.goal.length cg), (w.heap.size, 3, .slice (some ad) t.ops.length co)] rfl (OwnEs.below pbool_stable hown ?p1) ⟨w2.heap.size, 0, none⟩ 1 rfl [.bool (decide (p ∈ o.add))] (decide (p ∈ o.add)) rfl (cells_one ?p2) ?p8 rfl hlen ?p3 ?p4 ?p5 ?p6 ?p7 ?_; (case p1 => repeat (first | with_reducible exact Below.refl _ _ | with_reducible apply bdrew | with_reducible apply bdrewN | with_reducible apply balloc | ((with_reducible refine bset ?_ ?_ _); rotate_left; (first | omega | (simp <;> omega))))); (case p2 => simp [go_sem]); (case p3 => (simp <;> omega)); (case p4 => omega); (case p5 => repeat (first | with_reducible exact hBr | with_reducible apply bdrew | with_reducible apply bdrewN | with_reducible apply balloc | ((with_reducible refine bset ?_ ?_ _); rotate_left; (first | omega | (simp <;> omega))))); (case p6 => simp [Cls, go_sem, Fr, yrw0, yrwp1, yrwp2]); (case p7 => (simp <;> omega)); (case p8 => intro u hu; simp at hu; subst hu; rfl); intro v6 w6 o6 D6 C6 sz6 G6 at6; clear G6 at6))
      go_roundw
      case rel => exact ⟨k + 1, by omega, by go_num, by rw [← HT1.out]; exact o6, D6, C6⟩
      case measure => simp [intOf]; omega
    · rw [List.take_of_length_le (by omega)] at hown
      go_wp2
      go_ret
      exact ⟨_, rfl, OwnEs.mono hown (by omega), by repeat (first | with_reducible exact hBr | with_reducible apply bdrew | with_reducible apply bdrewN | with_reducible apply balloc | ((with_reducible refine bset ?_ ?_ _); rotate_left; (first | omega | (simp <;> omega))))⟩

theorem within_at (w : World) (t : TaskV) (Ai Ag Ao : Option Addr) (ci cg co : Nat) (hT : TaskMem w Ai Ag Ao t) (n : Nat) (hn : t.facts = n) (hn9 : n ≤ 1000000000) (S : Option Addr) (cs : Nat) (st : List Int) (hS : Ints w S st) (hst : SetP st (n : Int)) (hnil : S = none → st = [] ∧ cs = 0) (hops : ∀ o ∈ t.ops, (∀ p ∈ o.pre, 0 ≤ p ∧ p < (n : Int)) ∧ ∀ p ∈ o.add, 0 ≤ p ∧ p < (n : Int)) (D : Option Addr) (cd m : Nat) (ds : List Bool) (hD : Bools w D ds) (hdl : ds.length = t.ops.length) (hdm : m = ds.length) (use : Nat → Bool) (huse : ∀ k d, ds[k]? = some d → use k = !d) :
    Calls Try.prog 37 #[.agg #[.int .i64 t.facts, .slice Ai t.init.length ci, .slice Ag t.goal.length cg, .slice Ao t.ops.length co], .slice S st.length cs, .slice D m cd] w fun e w' => ∃ v, e = .returned v ∧ OwnI w.heap.size w' v (withinV n st t.ops use) ∧ Below w.heap.size w w' :=
  within_any w t Ai Ag Ao ci cg co hT n hn hn9 S cs st hS hst hnil hops D cd m ds hD ⟨hdm.symm, hdm.trans hdl⟩ use huse
set_option maxRecDepth 100000 in
set_option maxHeartbeats 2000000 in
theorem islandmark_any (w : World) (t : TaskV) (Ai Ag Ao : Option Addr) (ci cg co : Nat) (hT : TaskMem w Ai Ag Ao t) (n : Nat) (hn : t.facts = n) (hv : Valid t) (hnil : Ai = none → t.init = [] ∧ ci = 0) (p : Int) :
    Calls Try.prog 54 #[.agg #[.int .i64 t.facts, .slice Ai t.init.length ci, .slice Ag t.goal.length cg, .slice Ao t.ops.length co], .int .i64 p] w fun e w' => e = .returned (.bool (landB n t p)) ∧ Below w.heap.size w w' := by
  have hli := hT.linit.le
  have hlg := hT.lgoal.le
  have hn9 : n ≤ 1000000000 := by have := hv.f1; omega
  have h12 : t.ops.length ≤ 100000000000 := by have := hv.nops; omega
  have HSI := Lib.hid (show SetP t.init (n : Int) by rw [← hn]; exact hv.init)
  have HNI := Lib.hid hnil
  have HOPS := Lib.hid (ops_in hv hn)
  have HGOAL := Lib.hid (goal_in hv hn)
  have HN := Lib.hid hn
  clear hv hn hnil
  by_cases hi : p ∈ t.init
  · have HI := Lib.hid hi
    have HL := Lib.hid (landB_true.2 (show Land n t p from .inl hi))
    clear hi
    go_enter Try.func54, Try.ntmps54
    go_wp2_with fail
    go_quiet ((go_at_call 27; exact Calls.quiet_of_same (((has_yes _ _ _ _ _ (hT.init.below (by repeat (first | with_reducible exact Below.refl _ _ | with_reducible apply bdrew | with_reducible apply bdrewN | with_reducible apply balloc | ((with_reducible refine bset ?_ ?_ _); rotate_left; (first | omega | (simp <;> omega)))))) hli HI.out).mono fun _ _ h => ⟨h.1, h.2.symm⟩))))
    go_wp2
    go_ret
    exact ⟨ret_bool HL.out.symm, by repeat (first | with_reducible exact Below.refl _ _ | with_reducible apply bdrew | with_reducible apply bdrewN | with_reducible apply balloc | ((with_reducible refine bset ?_ ?_ _); rotate_left; (first | omega | (simp <;> omega))))⟩
  · have HI := Lib.hid hi
    clear hi
    have hwl : (withinV n t.init t.ops (useNot t.ops p)).length ≤ 9223372036854775807 := Nat.le_trans withinV_len (by omega)
    by_cases hg : ∀ x ∈ t.goal, x ∈ withinV n t.init t.ops (useNot t.ops p)
    · have HD := Lib.hid (decide_eq_true hg)
      have HL := Lib.hid (show landB n t p = false from landB_false.2 fun h => h.elim HI.out fun h => h ((sub_within HGOAL.out).1 hg))
      clear hg
      go_enter Try.func54, Try.ntmps54
      go_wp2_with fail
      go_region_held3 (fun W => W.cell? ⟨w.heap.size, 0, none⟩ = some (.int .i64 t.facts) ∧ W.cell? ⟨w.heap.size, 1, none⟩ = some (.slice Ai t.init.length ci) ∧ W.cell? ⟨w.heap.size, 2, none⟩ = some (.slice Ag t.goal.length cg) ∧ W.cell? ⟨w.heap.size, 3, none⟩ = some (.slice Ao t.ops.length co)) (first | exact hK | go_keep) (first | (go_at_call 27; refine (has_no _ _ _ _ _ (hT.init.below (by repeat (first | with_reducible exact Below.refl _ _ | with_reducible apply bdrew | with_reducible apply bdrewN | with_reducible apply balloc | ((with_reducible refine bset ?_ ?_ _); rotate_left; (first | omega | (simp <;> omega)))))) hli HI.out).mono ?_; rintro e w9 ⟨rfl, hW⟩; subst hW) | (go_at_call 55; refine (adders_any _ t Ai Ag Ao ci cg co (hT.below (by repeat (first | with_reducible exact Below.refl _ _ | with_reducible apply bdrew | with_reducible apply bdrewN | with_reducible apply balloc | ((with_reducible refine bset ?_ ?_ _); rotate_left; (first | omega | (simp <;> omega)))))) p h12).mono ?_; rintro e w1 ⟨v1, rfl, ho1, hB1⟩; obtain ⟨A1, c1, rfl⟩ := OwnEs.form ho1; have hbl1 := OwnBs.bools ho1; have HAL := Lib.hid (addersV_len t.ops p); have D1 := dstep w hB1 (by repeat (first | with_reducible exact Below.refl _ _ | with_reducible apply bdrew | with_reducible apply bdrewN | with_reducible apply balloc | ((with_reducible refine bset ?_ ?_ _); rotate_left; (first | omega | (simp <;> omega))))); have C1 := Cls.below (l := [(w.heap.size, 0, .int .i64 t.facts), (w.heap.size, 1, .slice Ai t.init.length ci), (w.heap.size, 2, .slice Ag t.goal.length cg), (w.heap.size, 3, .slice Ao t.ops.length co)]) hB1 (by simp [Cls, go_sem]); have F1 := C1; simp only [Cls, and_true] at F1; have hK : w1.cell? ⟨w.heap.size, 0, none⟩ = some (.int .i64 t.facts) ∧ w1.cell? ⟨w.heap.size, 1, none⟩ = some (.slice Ai t.init.length ci) ∧ w1.cell? ⟨w.heap.size, 2, none⟩ = some (.slice Ag t.goal.length cg) ∧ w1.cell? ⟨w.heap.size, 3, none⟩ = some (.slice Ao t.ops.length co) := (by simp [F1])) | (go_at_call 37; refine (within_at _ t Ai Ag Ao ci cg co (hT.below (by repeat (first | with_reducible exact D1 | with_reducible apply bdrew | with_reducible apply bdrewN | with_reducible apply balloc | ((with_reducible refine bset ?_ ?_ _); rotate_left; (first | omega | (simp <;> omega)))))) n HN.out hn9 _ _ _ (hT.init.below (by repeat (first | with_reducible exact D1 | with_reducible apply bdrew | with_reducible apply bdrewN | with_reducible apply balloc | ((with_reducible refine bset ?_ ?_ _); rotate_left; (first | omega | (simp <;> omega)))))) HSI.out HNI.out HOPS.out _ _ _ _ hbl1 HAL.out (by first | with_reducible rfl | exact HAL.out.symm) (useNot t.ops p) (fun k d h => adders_use h)).mono ?_; rintro e w2 ⟨v2, rfl, ho2, hB2⟩; obtain ⟨A2, c2, rfl, hnil2, hI2⟩ := ho2.form; clear hnil2 ho2; have D2 := dstep w hB2 (by repeat (first | with_reducible exact D1 | with_reducible apply bdrew | with_reducible apply bdrewN | with_reducible apply balloc | ((with_reducible refine bset ?_ ?_ _); rotate_left; (first | omega | (simp <;> omega))))); have C2 := C1.below hB2; have F2 := C2; simp only [Cls, and_true] at F2; have hK : w2.cell? ⟨w.heap.size, 0, none⟩ = some (.int .i64 t.facts) ∧ w2.cell? ⟨w.heap.size, 1, none⟩ = some (.slice Ai t.init.length ci) ∧ w2.cell? ⟨w.heap.size, 2, none⟩ = some (.slice Ag t.goal.length cg) ∧ w2.cell? ⟨w.heap.size, 3, none⟩ = some (.slice Ao t.ops.length co) := (by simp [F2])) | (go_at_call 25; refine (subset_any _ _ _ _ _ _ _ (hT.goal.below D2) hI2 hlg hwl).mono ?_; rintro e w3 ⟨he, hW3⟩; rw [HD.out] at he; subst he; subst hW3))
      go_wp2
      go_ret
      exact ⟨ret_bool HL.out.symm, D2⟩
    · have HD := Lib.hid (decide_eq_false hg)
      have HL := Lib.hid (show landB n t p = true from landB_true.2 (.inr fun h => hg ((sub_within HGOAL.out).2 h)))
      clear hg
      go_enter Try.func54, Try.ntmps54
      go_wp2_with fail
      go_region_held3 (fun W => W.cell? ⟨w.heap.size, 0, none⟩ = some (.int .i64 t.facts) ∧ W.cell? ⟨w.heap.size, 1, none⟩ = some (.slice Ai t.init.length ci) ∧ W.cell? ⟨w.heap.size, 2, none⟩ = some (.slice Ag t.goal.length cg) ∧ W.cell? ⟨w.heap.size, 3, none⟩ = some (.slice Ao t.ops.length co)) (first | exact hK | go_keep) (first | (go_at_call 27; refine (has_no _ _ _ _ _ (hT.init.below (by repeat (first | with_reducible exact Below.refl _ _ | with_reducible apply bdrew | with_reducible apply bdrewN | with_reducible apply balloc | ((with_reducible refine bset ?_ ?_ _); rotate_left; (first | omega | (simp <;> omega)))))) hli HI.out).mono ?_; rintro e w9 ⟨rfl, hW⟩; subst hW) | (go_at_call 55; refine (adders_any _ t Ai Ag Ao ci cg co (hT.below (by repeat (first | with_reducible exact Below.refl _ _ | with_reducible apply bdrew | with_reducible apply bdrewN | with_reducible apply balloc | ((with_reducible refine bset ?_ ?_ _); rotate_left; (first | omega | (simp <;> omega)))))) p h12).mono ?_; rintro e w1 ⟨v1, rfl, ho1, hB1⟩; obtain ⟨A1, c1, rfl⟩ := OwnEs.form ho1; have hbl1 := OwnBs.bools ho1; have HAL := Lib.hid (addersV_len t.ops p); have D1 := dstep w hB1 (by repeat (first | with_reducible exact Below.refl _ _ | with_reducible apply bdrew | with_reducible apply bdrewN | with_reducible apply balloc | ((with_reducible refine bset ?_ ?_ _); rotate_left; (first | omega | (simp <;> omega))))); have C1 := Cls.below (l := [(w.heap.size, 0, .int .i64 t.facts), (w.heap.size, 1, .slice Ai t.init.length ci), (w.heap.size, 2, .slice Ag t.goal.length cg), (w.heap.size, 3, .slice Ao t.ops.length co)]) hB1 (by simp [Cls, go_sem]); have F1 := C1; simp only [Cls, and_true] at F1; have hK : w1.cell? ⟨w.heap.size, 0, none⟩ = some (.int .i64 t.facts) ∧ w1.cell? ⟨w.heap.size, 1, none⟩ = some (.slice Ai t.init.length ci) ∧ w1.cell? ⟨w.heap.size, 2, none⟩ = some (.slice Ag t.goal.length cg) ∧ w1.cell? ⟨w.heap.size, 3, none⟩ = some (.slice Ao t.ops.length co) := (by simp [F1])) | (go_at_call 37; refine (within_at _ t Ai Ag Ao ci cg co (hT.below (by repeat (first | with_reducible exact D1 | with_reducible apply bdrew | with_reducible apply bdrewN | with_reducible apply balloc | ((with_reducible refine bset ?_ ?_ _); rotate_left; (first | omega | (simp <;> omega)))))) n HN.out hn9 _ _ _ (hT.init.below (by repeat (first | with_reducible exact D1 | with_reducible apply bdrew | with_reducible apply bdrewN | with_reducible apply balloc | ((with_reducible refine bset ?_ ?_ _); rotate_left; (first | omega | (simp <;> omega)))))) HSI.out HNI.out HOPS.out _ _ _ _ hbl1 HAL.out (by first | with_reducible rfl | exact HAL.out.symm) (useNot t.ops p) (fun k d h => adders_use h)).mono ?_; rintro e w2 ⟨v2, rfl, ho2, hB2⟩; obtain ⟨A2, c2, rfl, hnil2, hI2⟩ := ho2.form; clear hnil2 ho2; have D2 := dstep w hB2 (by repeat (first | with_reducible exact D1 | with_reducible apply bdrew | with_reducible apply bdrewN | with_reducible apply balloc | ((with_reducible refine bset ?_ ?_ _); rotate_left; (first | omega | (simp <;> omega))))); have C2 := C1.below hB2; have F2 := C2; simp only [Cls, and_true] at F2; have hK : w2.cell? ⟨w.heap.size, 0, none⟩ = some (.int .i64 t.facts) ∧ w2.cell? ⟨w.heap.size, 1, none⟩ = some (.slice Ai t.init.length ci) ∧ w2.cell? ⟨w.heap.size, 2, none⟩ = some (.slice Ag t.goal.length cg) ∧ w2.cell? ⟨w.heap.size, 3, none⟩ = some (.slice Ao t.ops.length co) := (by simp [F2])) | (go_at_call 25; refine (subset_any _ _ _ _ _ _ _ (hT.goal.below D2) hI2 hlg hwl).mono ?_; rintro e w3 ⟨he, hW3⟩; rw [HD.out] at he; subst he; subst hW3))
      go_wp2
      go_ret
      exact ⟨ret_bool HL.out.symm, D2⟩

set_option maxRecDepth 100000 in
set_option maxHeartbeats 2000000 in
theorem landmarks_any (w : World) (t : TaskV) (Ai Ag Ao : Option Addr) (ci cg co : Nat) (hT : TaskMem w Ai Ag Ao t) (n : Nat) (hn : t.facts = n) (hv : Valid t) (hnil : Ai = none → t.init = [] ∧ ci = 0) :
    Calls Try.prog 20 #[.agg #[.int .i64 t.facts, .slice Ai t.init.length ci, .slice Ag t.goal.length cg, .slice Ao t.ops.length co]] w fun e w' => ∃ v, e = .returned v ∧ OwnI w.heap.size w' v (landV n t) ∧ Below w.heap.size w w' := by
  have HV := Lib.hid hv
  have HN := Lib.hid hn
  have HNI := Lib.hid hnil
  have hn24 : n ≤ 24 := by have := hv.f1; omega
  clear hv hn hnil
  go_enter Try.func20, Try.ntmps20
  go_wp2_with fail
  go_loopw [3, 4] (fun v i wr => ∃ k : Nat, k ≤ n ∧ i = .int .i64 k ∧ OwnI (w.heap.size + 1) wr v (landTo n t k) ∧ Below w.heap.size w wr ∧ Cls wr [(w.heap.size, 0, .int .i64 t.facts), (w.heap.size, 1, .slice Ai t.init.length ci), (w.heap.size, 2, .slice Ag t.goal.length cg), (w.heap.size, 3, .slice Ao t.ops.length co)]) (fun _ i _ => n - (intOf i).toNat)
  case atStart => exact ⟨0, Nat.zero_le _, rfl, OwnI.nil _ _, (by repeat (first | with_reducible exact Below.refl _ _ | with_reducible apply bdrew | with_reducible apply bdrewN | with_reducible apply balloc | ((with_reducible refine bset ?_ ?_ _); rotate_left; (first | omega | (simp <;> omega))))), (by simp [Cls, go_sem])⟩
  case round =>
    obtain ⟨k, hk, rfl, hown, hBr, hCr⟩ := hrel
    obtain ⟨w2, rfl⟩ : ∃ wo : World, wo = wr := ⟨_, rfl⟩
    have drs := hBr.size
    have Fr := hCr
    simp only [Cls, and_true] at Fr
    have yrw0 : w.heap.size < w2.heap.size := hCr.blk (b := w.heap.size) (k := 0) (v := .int .i64 t.facts) (by simp)
    have yrwp1 : w.heap.size < w2.heap.size + 1 := (by omega)
    have yrwp2 : w.heap.size < w2.heap.size + 1 + 1 := (by omega)
    by_cases hlt : k < n
    · have hltf : (k : Int) < t.facts := by have := HN.out; omega
      have hlen := Nat.lt_of_le_of_lt (landTo_len n t k) (show k < 1000000000000 by omega)
      go_wp2_with fail
      refine (islandmark_any _ t Ai Ag Ao ci cg co (hT.below (by repeat (first | with_reducible exact hBr | with_reducible apply bdrew | with_reducible apply bdrewN | with_reducible apply balloc | ((with_reducible refine bset ?_ ?_ _); rotate_left; (first | omega | (simp <;> omega)))))) n HN.out HV.out HNI.out (k : Int)).mono ?_
      rintro e w3 ⟨he, hB3⟩
      have D3 := dstep w hB3 (by repeat (first | with_reducible exact hBr | with_reducible apply bdrew | with_reducible apply bdrewN | with_reducible apply balloc | ((with_reducible refine bset ?_ ?_ _); rotate_left; (first | omega | (simp <;> omega)))))
      have d3s := D3.size
      have Ew2_3 := dstep w2 hB3 (by repeat (first | with_reducible exact Below.refl _ _ | with_reducible apply bdrew | with_reducible apply bdrewN | with_reducible apply balloc | ((with_reducible refine bset ?_ ?_ _); rotate_left; (first | omega | (simp <;> omega)))))
      have C3 := Cls.below (l := [(w.heap.size, 0, .int .i64 t.facts), (w.heap.size, 1, .slice Ai t.init.length ci), (w.heap.size, 2, .slice Ag t.goal.length cg), (w.heap.size, 3, .slice Ao t.ops.length co)]) hB3 (by simp [Cls, go_sem, Fr, yrw0, yrwp1, yrwp2])
      have F3 := C3
      simp only [Cls, and_true] at F3
      have y3w0 : w.heap.size < w3.heap.size := C3.blk (b := w.heap.size) (k := 0) (v := .int .i64 t.facts) (by simp)
      have y3wp1 : w.heap.size < w3.heap.size + 1 := (by omega)
      have y3wp2 : w.heap.size < w3.heap.size + 1 + 1 := (by omega)
      cases hlb : landB n t k with
      | true =>
        have HL := Lib.hid (landTo_yes (landB_true.1 hlb))
        rw [hlb] at he
        subst he
        clear hlb
        have hown3 := hown.below (by repeat (first | with_reducible exact Ew2_3 | with_reducible apply bdrew | with_reducible apply bdrewN | with_reducible apply balloc | ((with_reducible refine bset ?_ ?_ _); rotate_left; (first | omega | (simp <;> omega)))))
        go_wp2_with (at_builtin; go_must (refine wpList_push rfl (.tmp 14) (.tmp 16) rfl w [(w.heap.size, 0, .int .i64 t.facts), (w.heap.size, 1, .slice Ai t.init.length ci), (w.heap.size, 2, .slice Ag t.goal.length cg), (w.heap.size, 3, .slice Ao t.ops.length co)] (w.heap.size + 1) u3 _ ((k : Int)) rfl (OwnI.below hown3 ?p1) ⟨w3.heap.size, 0, none⟩ 1 rfl ?p2 hlen ?p3 ?p4 ?p5 ?p6 ?p7 ?_; (case p1 => repeat (first | with_reducible exact Below.refl _ _ | with_reducible apply bdrew | with_reducible apply bdrewN | with_reducible apply balloc | ((with_reducible refine bset ?_ ?_ _); rotate_left; (first | omega | (simp <;> omega))))); (case p2 => simp [Cls, go_sem, F3, y3w0, y3wp1, y3wp2]); (case p3 => (first | omega | (simp <;> omega))); (case p4 => (first | omega | (simp <;> omega))); (case p5 => repeat (first | with_reducible exact D3 | with_reducible apply bdrew | with_reducible apply bdrewN | with_reducible apply balloc | ((with_reducible refine bset ?_ ?_ _); rotate_left; (first | omega | (simp <;> omega))))); (case p6 => simp [Cls, go_sem, F3, y3w0, y3wp1, y3wp2]); (case p7 => (simp <;> omega)); intro v4 w4 o4 D4 C4 sz4; have d4s := D4.size; have F4 := C4; simp only [Cls, and_true] at F4; have y4w0 : w.heap.size < w4.heap.size := C4.blk (b := w.heap.size) (k := 0) (v := .int .i64 t.facts) (by simp); have y4wp1 : w.heap.size < w4.heap.size + 1 := (by omega); have y4wp2 : w.heap.size < w4.heap.size + 1 + 1 := (by omega)))
        go_roundw
        case rel => exact ⟨k + 1, by omega, by go_num, by rw [← HL.out]; exact o4, (by repeat (first | with_reducible exact D4 | with_reducible apply bdrew | with_reducible apply bdrewN | with_reducible apply balloc | ((with_reducible refine bset ?_ ?_ _); rotate_left; (first | omega | (simp <;> omega))))), (by simp [Cls, go_sem, F4, y4w0, y4wp1, y4wp2])⟩
        case measure => simp [intOf]; omega
      | false =>
        have HL := Lib.hid (landTo_no (landB_false.1 hlb))
        rw [hlb] at he
        subst he
        clear hlb
        go_wp2
        go_roundw
        case rel => exact ⟨k + 1, by omega, by go_num, by rw [HL.out]; exact hown.below (by repeat (first | with_reducible exact Ew2_3 | with_reducible apply bdrew | with_reducible apply bdrewN | with_reducible apply balloc | ((with_reducible refine bset ?_ ?_ _); rotate_left; (first | omega | (simp <;> omega))))), (by repeat (first | with_reducible exact D3 | with_reducible apply bdrew | with_reducible apply bdrewN | with_reducible apply balloc | ((with_reducible refine bset ?_ ?_ _); rotate_left; (first | omega | (simp <;> omega))))), (by simp [Cls, go_sem, F3, y3w0, y3wp1, y3wp2])⟩
        case measure => simp [intOf]; omega
    · have hltf : ¬ (k : Int) < t.facts := by have := HN.out; omega
      obtain rfl : k = n := by omega
      go_wp2
      go_ret
      exact ⟨_, rfl, OwnI.mono hown (by omega), by repeat (first | with_reducible exact hBr | with_reducible apply bdrew | with_reducible apply bdrewN | with_reducible apply balloc | ((with_reducible refine bset ?_ ?_ _); rotate_left; (first | omega | (simp <;> omega))))⟩


end Go.Proofs.Ythnhhohnjiigcaa
