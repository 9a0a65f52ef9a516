/-
  ProperCuts: it returns true for the cuts that are found.
-/
import Derived.Test.YthnhhohnjiigcaaLc6
import Derived.Test.YthnhhohnjiigcaaLm8
import Derived.Test.YthnhhohnjiigcaaTrel10
import Derived.Test.YthnhhohnjiigcaaTrel5
namespace Go.Proofs.Ythnhhohnjiigcaa
open Go.RowKit
set_option linter.unusedVariables false
set_option linter.unusedSimpArgs false

theorem subset_w (A B : Option Addr) (c d : Nat) (xs ys : List Int) (w : World) (v : Bool) (hI : Ints w A xs) (hJ : Ints w B ys) (hl : xs.length ≤ 9223372036854775807) (hm : ys.length ≤ 9223372036854775807) (hv : (∀ x ∈ xs, x ∈ ys) ↔ v = true) :
    Calls Try.prog 25 #[.slice A xs.length c, .slice B ys.length d] w fun e w' => e = .returned (.bool v) ∧ Below w.heap.size w w' := by
  have h := subset_any A B c d xs ys w hI hJ hl hm
  rw [show decide (∀ x ∈ xs, x ∈ ys) = v by rw [Bool.eq_iff_iff, decide_eq_true_iff]; exact hv] at h
  exact h.mono fun e w' ⟨h1, h2⟩ => ⟨h1, by subst h2; exact Below.refl _ _⟩
theorem risset_t (A : Option Addr) (c : Nat) (xs : List Int) (n : Int) (w : World) (hI : Ints w A xs) (hl : xs.length ≤ 9223372036854775807) (hn : -9223372036854775808 < n) (hn2 : n ≤ 9223372036854775807) (hs : SetP xs n) :
    Calls Try.prog 26 #[.slice A xs.length c, .int .i64 n] w fun e w' => e = .returned (.bool true) ∧ Below w.heap.size w w' :=
  (risset_q A c xs n w hI hl hn hn2).mono fun e w' ⟨h1, m, h2⟩ => ⟨by rw [h1, setB_true.2 hs], by rw [h2]; exact below_drewN (Below.refl _ _) m⟩
theorem bools_drew7 {w : World} {A : Option Addr} {bs : List Bool} (h : Bools w A bs) : Bools w.drew A bs := h
theorem iscut_t (w : World) (t : TaskV) (Ai Ag Ao : Option Addr) (ci cg co : Nat) (hT : TaskMem w Ai Ag Ao t) (n : Nat) (hn : t.facts = n) (hv : Valid t) (S : Option Addr) (cs : Nat) (st : List Int) (hS : Ints w S st) (hst : SetP st (n : Int)) (hnil : S = none → st = [] ∧ cs = 0) (A : Option Addr) (c : Nat) (l : List Int) (hJ : Ints w A l) (hl : SetP l (t.ops.length : Int)) (hc : ¬ ∀ q ∈ t.goal, Reach st t.ops (useOut l) q) :
    Calls Try.prog 28 #[.agg #[.int .i64 t.facts, .slice Ai t.init.length ci, .slice Ag t.goal.length cg, .slice Ao t.ops.length co], .slice S st.length cs, .slice A l.length c] w fun e w' => e = .returned (.bool true) ∧ Below w.heap.size w w' := by
  have h40 := hv.nops
  have hll := hl.length (by omega)
  have h := iscut_any w t Ai Ag Ao ci cg co hT n hn (by have := hv.f1; omega) (by omega) S cs st hS hst hnil (ops_in hv hn) A c l hJ (by omega) hl.1
  rw [show decide (∀ x ∈ t.goal, x ∈ withinV n st t.ops (useOut l)) = false by rw [decide_eq_false_iff_not]; intro ha; exact hc ((sub_within (goal_in hv hn)).1 ha)] at h
  exact h
theorem factvalues_t (w : World) (t : TaskV) (Ai Ag Ao : Option Addr) (ci cg co : Nat) (hT : TaskMem w Ai Ag Ao t) (n : Nat) (hn : t.facts = n) (hn24 : n ≤ 1000000000) (S : Option Addr) (cs : Nat) (st : List Int) (hS : Ints w S st) (hls : lenOk st.length) (hst : ∀ p ∈ st, 0 ≤ p ∧ p < (n : Int)) (C : Option Addr) (cc m : Nat) (cost : List Int) (hC : Ints w C cost) (hm : m = t.ops.length) (hlc : cost.length = t.ops.length) (hcv : AllV cost) (hops : ∀ o ∈ t.ops, (∀ p ∈ o.pre, 0 ≤ p ∧ p < (n : Int)) ∧ ∀ p ∈ o.add, 0 ≤ p ∧ p < (n : Int)) (s : Bool) :
    Calls Try.prog 34 #[.agg #[.int .i64 t.facts, .slice Ai t.init.length ci, .slice Ag t.goal.length cg, .slice Ao t.ops.length co], .slice S st.length cs, .slice C m cc, .bool s] w fun e w' => ∃ v, e = .returned v ∧ OwnI w.heap.size w' v (valuesV s n st t.ops cost) ∧ Best s n st t.ops cost (valuesV s n st t.ops cost) ∧ Below w.heap.size w w' := by
  obtain rfl : m = cost.length := by rw [hm, hlc]
  exact factvalues_any w t Ai Ag Ao ci cg co hT n hn hn24 S cs st hS hls hst C cc cost hC hlc hcv hops s
theorem goalvalue_t (w : World) (t : TaskV) (Ai Ag Ao : Option Addr) (ci cg co : Nat) (hT : TaskMem w Ai Ag Ao t) (A : Option Addr) (c n : Nat) (vs : List Int) (v : Int) (hI : Ints w A vs) (hm : vs.length = n) (hn : n ≤ 1000000000000) (hgoal : ∀ p ∈ t.goal, 0 ≤ p ∧ p < (n : Int)) (hall : AllV vs) (s : Bool) (hv : combV s vs t.goal = v) :
    Calls Try.prog 36 #[.agg #[.int .i64 t.facts, .slice Ai t.init.length ci, .slice Ag t.goal.length cg, .slice Ao t.ops.length co], .slice A n c, .bool s] w fun e w' => e = .returned (.int .i64 v) ∧ Below w.heap.size w w' := by
  subst hv
  exact goalvalue_any w t Ai Ag Ao ci cg co hT A c n vs hI hm hn hgoal hall s
set_option maxRecDepth 100000 in
set_option maxHeartbeats 2000000 in
theorem proper_no (w : World) (t : TaskV) (Ai Ag Ao : Option Addr) (ci cg co : Nat) (hT : TaskMem w Ai Ag Ao t) (S : Option Addr) (cs : Nat) (st : List Int) (hS : Ints w S st) (hls : lenOk st.length) (n : Nat) (hn : t.facts = n) (hv : Valid t) (h2 : SetP st t.facts) (hnil : S = none → st = [] ∧ cs = 0) (hre : ¬ GoalR t st) :
    Calls Try.prog 45 #[.agg #[.int .i64 t.facts, .slice Ai t.init.length ci, .slice Ag t.goal.length cg, .slice Ao t.ops.length co], .slice S st.length cs, .slice none 0 0, .int .i64 1000000000] w fun e w' => e = .returned (.bool true) ∧ Below w.heap.size w w' := by
  have hli := hls.le
  have hlg := hT.lgoal.le
  have hlo := hT.lops.le
  have hn24 : n ≤ 24 := by have := hv.f1; omega
  have hn9 : n ≤ 1000000000 := by omega
  have hn10 : n ≤ 1000000000000 := by omega
  have h40 := hv.nops
  have hmk := make_bools t.ops.length (by omega)
  have hoi1 : -9223372036854775808 < (t.ops.length : Int) := by omega
  have hoi2 : (t.ops.length : Int) ≤ 9223372036854775807 := by omega
  have HN := Lib.hid hn
  have HV := Lib.hid hv
  have HST := Lib.hid (fun p hp => by have := h2.1 p hp; rw [hn] at this; exact this : ∀ p ∈ st, 0 ≤ p ∧ p < (n : Int))
  have HSET := Lib.hid (show SetP st (n : Int) by rw [← hn]; exact h2)
  have HOPS := Lib.hid (ops_in hv hn)
  have HGO := Lib.hid (goal_in hv hn)
  have HL0 := Lib.hid (show (t.ops.map (·.cost)).length = t.ops.length by simp)
  have HC0 := Lib.hid (show ∀ c ∈ t.ops.map (·.cost), 0 ≤ c ∧ c ≤ 100 from fun c hc => by obtain ⟨o, ho, rfl⟩ := List.mem_map.1 hc; exact (hv.ops o ho).2)
  have HS0 := Lib.hid (sumV_le HC0.out)
  have hwl : (withinV n st t.ops fun _ => true).length ≤ 9223372036854775807 := Nat.le_trans withinV_len (by omega)
  have HSN := Lib.hid hnil
  have HRE := Lib.hid hre
  clear hv h2 hn hre hnil
  go_enter Try.func45, Try.ntmps45
  have HB := Below.refl w.heap.size w
  have HCL := True.intro
  go_wp2_with fail
  go_region_held3 (fun W => W.cell? ⟨w.heap.size, 0, none⟩ = some (.int .i64 t.facts) ∧ W.cell? ⟨w.heap.size, 1, none⟩ = some (.slice Ai t.init.length ci) ∧ W.cell? ⟨w.heap.size, 2, none⟩ = some (.slice Ag t.goal.length cg) ∧ W.cell? ⟨w.heap.size, 3, none⟩ = some (.slice Ao t.ops.length co)) (first | exact hK | go_keep) (first | (go_at_call 37; refine (within_any _ _ _ _ _ _ _ _ (hT.below (by repeat (first | with_reducible exact HB | with_reducible apply bdrew | with_reducible apply bdrewN | with_reducible apply balloc | ((with_reducible refine bset ?_ ?_ _); rotate_left; (first | omega | (simp <;> omega)))))) n HN.out hn9 _ _ _ (hS.below (by repeat (first | with_reducible exact HB | with_reducible apply bdrew | with_reducible apply bdrewN | with_reducible apply balloc | ((with_reducible refine bset ?_ ?_ _); rotate_left; (first | omega | (simp <;> omega)))))) HSET.out HSN.out HOPS.out _ _ _ (List.replicate t.ops.length false) (by first | exact bools_drew7 (BArr.made _ _ _ (by simp)).bools | exact (BArr.made _ _ _ rfl).bools) ⟨by simp, rfl⟩ (fun _ => true) (by intro k d h; have := List.mem_of_getElem? h; rw [List.mem_replicate] at this; rw [this.2]; rfl)).mono ?_; rintro e wx ⟨v11, rfl, ho11, hB⟩; have HB' := dstep w hB (by repeat (first | with_reducible exact HB | with_reducible apply bdrew | with_reducible apply bdrewN | with_reducible apply balloc | ((with_reducible refine bset ?_ ?_ _); rotate_left; (first | omega | (simp <;> omega))))); clear HB; have HB := HB'; clear HB'; have HC' : Cls wx [(w.heap.size, 0, .int .i64 t.facts), (w.heap.size, 1, .slice Ai t.init.length ci), (w.heap.size, 2, .slice Ag t.goal.length cg), (w.heap.size, 3, .slice Ao t.ops.length co)] := (by first | exact HCL.below hB | exact Cls.below hB (by simp [Cls, go_sem])); clear HCL; have HCL := HC'; clear HC'; have CX := HCL; have FX := CX; simp only [Cls, and_true] at FX; have hK : wx.cell? ⟨w.heap.size, 0, none⟩ = some (.int .i64 t.facts) ∧ wx.cell? ⟨w.heap.size, 1, none⟩ = some (.slice Ai t.init.length ci) ∧ wx.cell? ⟨w.heap.size, 2, none⟩ = some (.slice Ag t.goal.length cg) ∧ wx.cell? ⟨w.heap.size, 3, none⟩ = some (.slice Ao t.ops.length co) := (by simp [FX]); clear hB; obtain ⟨A11, c11, rfl, hnil11, hI11⟩ := ho11.form; clear hnil11 ho11) | (go_at_call 25; refine (subset_w _ _ _ _ _ _ _ false (hT.goal.below (by repeat (first | with_reducible exact HB | with_reducible apply bdrew | with_reducible apply bdrewN | with_reducible apply balloc | ((with_reducible refine bset ?_ ?_ _); rotate_left; (first | omega | (simp <;> omega)))))) hI11 hlg hwl ((sub_within HGO.out).trans (by simp; simpa [GoalR] using HRE.out))).mono ?_; rintro e wx ⟨rfl, hB⟩; have HB' := dstep w hB (by repeat (first | with_reducible exact HB | with_reducible apply bdrew | with_reducible apply bdrewN | with_reducible apply balloc | ((with_reducible refine bset ?_ ?_ _); rotate_left; (first | omega | (simp <;> omega))))); clear HB; have HB := HB'; clear HB'; have HC' : Cls wx [(w.heap.size, 0, .int .i64 t.facts), (w.heap.size, 1, .slice Ai t.init.length ci), (w.heap.size, 2, .slice Ag t.goal.length cg), (w.heap.size, 3, .slice Ao t.ops.length co)] := (by first | exact HCL.below hB | exact Cls.below hB (by simp [Cls, go_sem])); clear HCL; have HCL := HC'; clear HC'; have CX := HCL; have FX := CX; simp only [Cls, and_true] at FX; have hK : wx.cell? ⟨w.heap.size, 0, none⟩ = some (.int .i64 t.facts) ∧ wx.cell? ⟨w.heap.size, 1, none⟩ = some (.slice Ai t.init.length ci) ∧ wx.cell? ⟨w.heap.size, 2, none⟩ = some (.slice Ag t.goal.length cg) ∧ wx.cell? ⟨w.heap.size, 3, none⟩ = some (.slice Ao t.ops.length co) := (by simp [FX]); clear hB; skip))
  go_wp2
  go_ret
  exact ⟨rfl, HB⟩

set_option maxRecDepth 100000 in
set_option maxHeartbeats 4000000 in
theorem proper_yes (w : World) (t : TaskV) (Ai Ag Ao : Option Addr) (ci cg co : Nat) (hT : TaskMem w Ai Ag Ao t) (S : Option Addr) (cs : Nat) (st : List Int) (hS : Ints w S st) (hls : lenOk st.length) (n : Nat) (hn : t.facts = n) (hv : Valid t) (h2 : SetP st t.facts) (hnil : S = none → st = [] ∧ cs = 0) (hre : GoalR t st) (A : Option Addr) (c : Nat) (bs : Nat) (xs : List (List Int × Int)) (tt : Int) (htt : tt = totalOf xs) (hX : OwnCs bs w (.slice A xs.length c) xs) (hok : CutsOk n st t.goal t.ops (t.ops.map (·.cost)) xs) (hbest : Best false n st t.ops (leftOf (t.ops.map (·.cost)) xs) (valuesV false n st t.ops (leftOf (t.ops.map (·.cost)) xs))) (hz : combV false (valuesV false n st t.ops (leftOf (t.ops.map (·.cost)) xs)) t.goal = 0) (hxl : xs.length ≤ 4000) :
    Calls Try.prog 45 #[.agg #[.int .i64 t.facts, .slice Ai t.init.length ci, .slice Ag t.goal.length cg, .slice Ao t.ops.length co], .slice S st.length cs, .slice A xs.length c, .int .i64 tt] w fun e w' => e = .returned (.bool true) ∧ Below w.heap.size w w' := by
  have hli := hls.le
  have hlg := hT.lgoal.le
  have hlo := hT.lops.le
  have hn24 : n ≤ 24 := by have := hv.f1; omega
  have hn9 : n ≤ 1000000000 := by omega
  have hn10 : n ≤ 1000000000000 := by omega
  have h40 := hv.nops
  have hmk := make_bools t.ops.length (by omega)
  have hoi1 : -9223372036854775808 < (t.ops.length : Int) := by omega
  have hoi2 : (t.ops.length : Int) ≤ 9223372036854775807 := by omega
  have HN := Lib.hid hn
  have HV := Lib.hid hv
  have HST := Lib.hid (fun p hp => by have := h2.1 p hp; rw [hn] at this; exact this : ∀ p ∈ st, 0 ≤ p ∧ p < (n : Int))
  have HSET := Lib.hid (show SetP st (n : Int) by rw [← hn]; exact h2)
  have HOPS := Lib.hid (ops_in hv hn)
  have HGO := Lib.hid (goal_in hv hn)
  have HL0 := Lib.hid (show (t.ops.map (·.cost)).length = t.ops.length by simp)
  have HC0 := Lib.hid (show ∀ c ∈ t.ops.map (·.cost), 0 ≤ c ∧ c ≤ 100 from fun c hc => by obtain ⟨o, ho, rfl⟩ := List.mem_map.1 hc; exact (hv.ops o ho).2)
  have HS0 := Lib.hid (sumV_le HC0.out)
  have hwl : (withinV n st t.ops fun _ => true).length ≤ 9223372036854775807 := Nat.le_trans withinV_len (by omega)
  have HSN := Lib.hid hnil
  have HRE := Lib.hid hre
  have HOK := Lib.hid hok
  have HBE := Lib.hid hbest
  have HZ := Lib.hid hz
  have HT := Lib.hid htt
  clear hv h2 hn hre hok hbest hz hnil htt
  go_enter Try.func45, Try.ntmps45
  have HB := Below.refl w.heap.size w
  have HCL := True.intro
  go_wp2_with fail
  go_region_held3 (fun W => W.cell? ⟨w.heap.size, 0, none⟩ = some (.int .i64 t.facts) ∧ W.cell? ⟨w.heap.size, 1, none⟩ = some (.slice Ai t.init.length ci) ∧ W.cell? ⟨w.heap.size, 2, none⟩ = some (.slice Ag t.goal.length cg) ∧ W.cell? ⟨w.heap.size, 3, none⟩ = some (.slice Ao t.ops.length co)) (first | exact hK | go_keep) (first | (go_at_call 37; refine (within_any _ _ _ _ _ _ _ _ (hT.below (by repeat (first | with_reducible exact HB | with_reducible apply bdrew | with_reducible apply bdrewN | with_reducible apply balloc | ((with_reducible refine bset ?_ ?_ _); rotate_left; (first | omega | (simp <;> omega)))))) n HN.out hn9 _ _ _ (hS.below (by repeat (first | with_reducible exact HB | with_reducible apply bdrew | with_reducible apply bdrewN | with_reducible apply balloc | ((with_reducible refine bset ?_ ?_ _); rotate_left; (first | omega | (simp <;> omega)))))) HSET.out HSN.out HOPS.out _ _ _ (List.replicate t.ops.length false) (by first | exact bools_drew7 (BArr.made _ _ _ (by simp)).bools | exact (BArr.made _ _ _ rfl).bools) ⟨by simp, rfl⟩ (fun _ => true) (by intro k d h; have := List.mem_of_getElem? h; rw [List.mem_replicate] at this; rw [this.2]; rfl)).mono ?_; rintro e wx ⟨v11, rfl, ho11, hB⟩; have HB' := dstep w hB (by repeat (first | with_reducible exact HB | with_reducible apply bdrew | with_reducible apply bdrewN | with_reducible apply balloc | ((with_reducible refine bset ?_ ?_ _); rotate_left; (first | omega | (simp <;> omega))))); clear HB; have HB := HB'; clear HB'; have HC' : Cls wx [(w.heap.size, 0, .int .i64 t.facts), (w.heap.size, 1, .slice Ai t.init.length ci), (w.heap.size, 2, .slice Ag t.goal.length cg), (w.heap.size, 3, .slice Ao t.ops.length co)] := (by first | exact HCL.below hB | exact Cls.below hB (by simp [Cls, go_sem])); clear HCL; have HCL := HC'; clear HC'; have CX := HCL; have FX := CX; simp only [Cls, and_true] at FX; have hK : wx.cell? ⟨w.heap.size, 0, none⟩ = some (.int .i64 t.facts) ∧ wx.cell? ⟨w.heap.size, 1, none⟩ = some (.slice Ai t.init.length ci) ∧ wx.cell? ⟨w.heap.size, 2, none⟩ = some (.slice Ag t.goal.length cg) ∧ wx.cell? ⟨w.heap.size, 3, none⟩ = some (.slice Ao t.ops.length co) := (by simp [FX]); clear hB; obtain ⟨A11, c11, rfl, hnil11, hI11⟩ := ho11.form; clear hnil11 ho11) | (go_at_call 25; refine (subset_w _ _ _ _ _ _ _ true (hT.goal.below (by repeat (first | with_reducible exact HB | with_reducible apply bdrew | with_reducible apply bdrewN | with_reducible apply balloc | ((with_reducible refine bset ?_ ?_ _); rotate_left; (first | omega | (simp <;> omega)))))) hI11 hlg hwl ((sub_within HGO.out).trans (by simp; exact HRE.out))).mono ?_; rintro e wx ⟨rfl, hB⟩; have HB' := dstep w hB (by repeat (first | with_reducible exact HB | with_reducible apply bdrew | with_reducible apply bdrewN | with_reducible apply balloc | ((with_reducible refine bset ?_ ?_ _); rotate_left; (first | omega | (simp <;> omega))))); clear HB; have HB := HB'; clear HB'; have HC' : Cls wx [(w.heap.size, 0, .int .i64 t.facts), (w.heap.size, 1, .slice Ai t.init.length ci), (w.heap.size, 2, .slice Ag t.goal.length cg), (w.heap.size, 3, .slice Ao t.ops.length co)] := (by first | exact HCL.below hB | exact Cls.below hB (by simp [Cls, go_sem])); clear HCL; have HCL := HC'; clear HC'; have CX := HCL; have FX := CX; simp only [Cls, and_true] at FX; have hK : wx.cell? ⟨w.heap.size, 0, none⟩ = some (.int .i64 t.facts) ∧ wx.cell? ⟨w.heap.size, 1, none⟩ = some (.slice Ai t.init.length ci) ∧ wx.cell? ⟨w.heap.size, 2, none⟩ = some (.slice Ag t.goal.length cg) ∧ wx.cell? ⟨w.heap.size, 3, none⟩ = some (.slice Ao t.ops.length co) := (by simp [FX]); clear hB; skip))
  have dxs := HB.size
  have Fx := CX
  simp only [Cls, and_true] at Fx
  have yxw0 : w.heap.size < wx.heap.size := CX.blk (b := w.heap.size) (k := 0) (v := .int .i64 t.facts) (by simp)
  have yxwp1 : w.heap.size < wx.heap.size + 1 := (by omega)
  have yxwp2 : w.heap.size < wx.heap.size + 1 + 1 := (by omega)
  go_wp2_with fail
  refine (owncosts_any _ _ _ _ _ _ _ _ (hT.below (by repeat (first | with_reducible exact HB | with_reducible apply bdrew | with_reducible apply bdrewN | with_reducible apply balloc | ((with_reducible refine bset ?_ ?_ _); rotate_left; (first | omega | (simp <;> omega)))))) h40).mono ?_
  rintro e w1 ⟨v1, rfl, ho1, hB1⟩
  have D1 := dstep w hB1 (by repeat (first | with_reducible exact HB | with_reducible apply bdrew | with_reducible apply bdrewN | with_reducible apply balloc | ((with_reducible refine bset ?_ ?_ _); rotate_left; (first | omega | (simp <;> omega)))))
  have d1s := D1.size
  have C1 := Cls.below (l := [(w.heap.size, 0, .int .i64 t.facts), (w.heap.size, 1, .slice Ai t.init.length ci), (w.heap.size, 2, .slice Ag t.goal.length cg), (w.heap.size, 3, .slice Ao t.ops.length co)]) hB1 (by simp [Cls, go_sem, Fx, yxw0, yxwp1, yxwp2])
  have F1 := C1
  simp only [Cls, and_true] at F1
  have y1w0 : w.heap.size < w1.heap.size := C1.blk (b := w.heap.size) (k := 0) (v := .int .i64 t.facts) (by simp)
  have y1wp1 : w.heap.size < w1.heap.size + 1 := (by omega)
  have y1wp2 : w.heap.size < w1.heap.size + 1 + 1 := (by omega)
  have ho1' := OwnI.mono (base' := w.heap.size + 1) ho1 (by first | omega | (simp <;> omega))
  obtain ⟨C, cc, rfl, -⟩ := ho1'.form_at HL0.out
  clear ho1
  go_wp2_with fail
  go_loopg [10, 11] (xs.length) (fun gk s10 i wr => ∃ (k : Nat) (tk : Int), i = .int .i64 k ∧ Hid (k + gk = xs.length) ∧ s10 = .int .i64 tk ∧ Hid (tk = totalOf (xs.take k)) ∧ OwnI (w.heap.size + 1) wr (.slice C t.ops.length cc) (leftOf (t.ops.map (·.cost)) (xs.take k)) ∧ Below w.heap.size w wr ∧ Cls wr [(w.heap.size, 0, .int .i64 t.facts), (w.heap.size, 1, .slice Ai t.init.length ci), (w.heap.size, 2, .slice Ag t.goal.length cg), (w.heap.size, 3, .slice Ao t.ops.length co)])
  case atStart => exact ⟨0, 0, rfl, Lib.hid (by omega), rfl, Lib.hid rfl, ho1'.below (by repeat (first | with_reducible exact Below.refl _ _ | with_reducible apply bdrew | with_reducible apply bdrewN | with_reducible apply balloc | ((with_reducible refine bset ?_ ?_ _); rotate_left; (first | omega | (simp <;> omega))))), (by repeat (first | with_reducible exact D1 | with_reducible apply bdrew | with_reducible apply bdrewN | with_reducible apply balloc | ((with_reducible refine bset ?_ ?_ _); rotate_left; (first | omega | (simp <;> omega))))), (by simp [Cls, go_sem, F1, y1w0, y1wp1, y1wp2])⟩
  case round =>
    obtain ⟨k, tk, rfl, hk, rfl, htk, hco, hBr, hCr⟩ := hrel
    obtain ⟨g3, rfl⟩ : ∃ g : Nat, g = gk := ⟨_, rfl⟩
    obtain ⟨w3, rfl⟩ : ∃ wo : World, wo = wr := ⟨_, rfl⟩
    have HLL := Lib.hid (show (leftOf (t.ops.map (·.cost)) (xs.take k)).length = t.ops.length by rw [leftOf_len]; exact HL0.out)
    have HLV := Lib.hid (HOK.out.left_in HL0.out HC0.out k)
    have drs := hBr.size
    have Fr := hCr
    simp only [Cls, and_true] at Fr
    have yrw0 : w.heap.size < w3.heap.size := hCr.blk (b := w.heap.size) (k := 0) (v := .int .i64 t.facts) (by simp)
    have yrwp1 : w.heap.size < w3.heap.size + 1 := (by omega)
    have yrwp2 : w.heap.size < w3.heap.size + 1 + 1 := (by omega)
    by_cases hlt : k < xs.length
    · obtain ⟨tb0, tb1⟩ : 0 ≤ tk ∧ tk ≤ 4000 := by
        have h1 := HOK.out.total HL0.out k (by omega)
        have h3 := HS0.out
        have h4 := HL0.out
        have h5 := htk.out
        omega
      have hk1 := Lib.hid (show k + 1 + (g3 - 1) = xs.length ∧ g3 - 1 < g3 by have := hk.out; omega)
      obtain ⟨g, cs', x, rfl, hgb, hgl, hx, hcl, hcell, hpc⟩ := OwnEs.at_ hX (i := k) hlt
      obtain ⟨A', c', rfl, hJw, hJn⟩ := hpc.form
      have hcr0w : w.cell? ⟨g, k * 2, none⟩ = some (.slice A' x.1.length c') := by have := hcell 0 _ rfl; simpa using this
      have hcr1w : w.cell? ⟨g, k * 2 + 1, none⟩ = some (.int .i64 x.2) := hcell 1 _ rfl
      obtain ⟨Cl, cm⟩ := x
      have hcr0w : w.cell? ⟨g, k * 2, none⟩ = some (.slice A' Cl.length c') := hcr0w
      have hcr1w : w.cell? ⟨g, k * 2 + 1, none⟩ = some (.int .i64 cm) := hcr1w
      have hJw : Ints w A' Cl := hJw
      have hcr0 := (hBr.cell (p := ⟨g, k * 2, none⟩) hgl).trans hcr0w
      have hcr1 := (hBr.cell (p := ⟨g, k * 2 + 1, none⟩) hgl).trans hcr1w
      have hJ := hJw.below hBr
      have hcp := Lib.hid (HOK.out k _ hx.out)
      have hcm0 : 0 < cm := hcp.out.pos
      have hcm1 : cm ≤ 100 := hcp.out.le
      have hcs' : SetP Cl (t.ops.length : Int) := hcp.out.set
      have HCS := Lib.hid hcs'
      have hcll : Cl.length ≤ 40 := by have := hcs'.length (by omega); omega
      have hcl8 : Cl.length ≤ 9223372036854775807 := by omega
      have HCC := Lib.hid (show ¬ ∀ q ∈ t.goal, Reach st t.ops (useOut Cl) q from hcp.out.cut)
      have hd0 : decide (cm ≤ 0) = false := by simp; omega
      have hd1 : decide (100 < cm) = false := by simp; omega
      have hk0 : (0 : Int) ≤ (k : Int) := by omega
      have hki : (k : Int) < (xs.length : Int) := by omega
      clear hcs' hcl hcell hpc hJn
      have HE := Below.refl w3.heap.size w3
      go_wp2_with fail
      go_region_held3 (fun W => W.cell? ⟨w.heap.size, 0, none⟩ = some (.int .i64 t.facts) ∧ W.cell? ⟨w.heap.size, 1, none⟩ = some (.slice Ai t.init.length ci) ∧ W.cell? ⟨w.heap.size, 2, none⟩ = some (.slice Ag t.goal.length cg) ∧ W.cell? ⟨w.heap.size, 3, none⟩ = some (.slice Ao t.ops.length co) ∧ W.cell? ⟨g, k * 2, none⟩ = some (.slice A' Cl.length c') ∧ W.cell? ⟨g, k * 2 + 1, none⟩ = some (.int .i64 cm)) (first | exact hK | go_keep) (first | (go_at_call 26; refine (risset_t _ _ _ _ _ (hJ.below (by repeat (first | with_reducible exact HE | with_reducible apply bdrew | with_reducible apply bdrewN | with_reducible apply balloc | ((with_reducible refine bset ?_ ?_ _); rotate_left; (first | omega | (simp <;> omega)))))) hcl8 hoi1 hoi2 HCS.out).mono ?_; rintro e wx ⟨rfl, hB⟩; have HE' := dstep w3 hB (by repeat (first | with_reducible exact HE | with_reducible apply bdrew | with_reducible apply bdrewN | with_reducible apply balloc | ((with_reducible refine bset ?_ ?_ _); rotate_left; (first | omega | (simp <;> omega))))); clear HE; have HE := HE'; clear HE'; have CX := Cls.below (w := w3) HE hCr; have FX := CX; simp only [Cls, and_true] at FX; have HGX := And.intro ((HE.cell (World.block_lt_of_cell? w3 _ hcr0)).trans hcr0) ((HE.cell (World.block_lt_of_cell? w3 _ hcr1)).trans hcr1); have hK : wx.cell? ⟨w.heap.size, 0, none⟩ = some (.int .i64 t.facts) ∧ wx.cell? ⟨w.heap.size, 1, none⟩ = some (.slice Ai t.init.length ci) ∧ wx.cell? ⟨w.heap.size, 2, none⟩ = some (.slice Ag t.goal.length cg) ∧ wx.cell? ⟨w.heap.size, 3, none⟩ = some (.slice Ao t.ops.length co) ∧ wx.cell? ⟨g, k * 2, none⟩ = some (.slice A' Cl.length c') ∧ wx.cell? ⟨g, k * 2 + 1, none⟩ = some (.int .i64 cm) := (by simp [FX, HGX]); clear hB) | (go_at_call 28; refine (iscut_t _ _ _ _ _ _ _ _ (hT.below (by repeat (first | with_reducible exact (hBr.trans (HE.mono hBr.size)) | with_reducible apply bdrew | with_reducible apply bdrewN | with_reducible apply balloc | ((with_reducible refine bset ?_ ?_ _); rotate_left; (first | omega | (simp <;> omega)))))) n HN.out HV.out _ _ _ (hS.below (by repeat (first | with_reducible exact (hBr.trans (HE.mono hBr.size)) | with_reducible apply bdrew | with_reducible apply bdrewN | with_reducible apply balloc | ((with_reducible refine bset ?_ ?_ _); rotate_left; (first | omega | (simp <;> omega)))))) HSET.out HSN.out _ _ _ (hJ.below (by repeat (first | with_reducible exact HE | with_reducible apply bdrew | with_reducible apply bdrewN | with_reducible apply balloc | ((with_reducible refine bset ?_ ?_ _); rotate_left; (first | omega | (simp <;> omega)))))) HCS.out HCC.out).mono ?_; rintro e wx ⟨rfl, hB⟩; have HE' := dstep w3 hB (by repeat (first | with_reducible exact HE | with_reducible apply bdrew | with_reducible apply bdrewN | with_reducible apply balloc | ((with_reducible refine bset ?_ ?_ _); rotate_left; (first | omega | (simp <;> omega))))); clear HE; have HE := HE'; clear HE'; have CX := Cls.below (w := w3) HE hCr; have FX := CX; simp only [Cls, and_true] at FX; have HGX := And.intro ((HE.cell (World.block_lt_of_cell? w3 _ hcr0)).trans hcr0) ((HE.cell (World.block_lt_of_cell? w3 _ hcr1)).trans hcr1); have hK : wx.cell? ⟨w.heap.size, 0, none⟩ = some (.int .i64 t.facts) ∧ wx.cell? ⟨w.heap.size, 1, none⟩ = some (.slice Ai t.init.length ci) ∧ wx.cell? ⟨w.heap.size, 2, none⟩ = some (.slice Ag t.goal.length cg) ∧ wx.cell? ⟨w.heap.size, 3, none⟩ = some (.slice Ao t.ops.length co) ∧ wx.cell? ⟨g, k * 2, none⟩ = some (.slice A' Cl.length c') ∧ wx.cell? ⟨g, k * 2 + 1, none⟩ = some (.int .i64 cm) := (by simp [FX, HGX]); clear hB))
      have hE4 := HE
      have hC4 := CX
      obtain ⟨w4, rfl⟩ : ∃ wo : World, wo = wx := ⟨_, rfl⟩
      have D4 := hBr.trans (hE4.mono hBr.size)
      have hco4 := hco.below hE4
      have d4s := D4.size
      have F4 := hC4
      simp only [Cls, and_true] at F4
      have y4w0 : w.heap.size < w4.heap.size := hC4.blk (b := w.heap.size) (k := 0) (v := .int .i64 t.facts) (by simp)
      have y4wp1 : w.heap.size < w4.heap.size + 1 := (by omega)
      have y4wp2 : w.heap.size < w4.heap.size + 1 + 1 := (by omega)
      go_wp2_with fail
      go_loopg [12] (Cl.length) (fun gk i wr => ∃ j : Nat, i = .int .i64 j ∧ Hid (j + gk = Cl.length) ∧ OwnI (w.heap.size + 1) wr (.slice C t.ops.length cc) (lower (leftOf (t.ops.map (·.cost)) (xs.take k)) (Cl.take j) cm) ∧ Below w.heap.size w wr ∧ Cls wr [(w.heap.size, 0, .int .i64 t.facts), (w.heap.size, 1, .slice Ai t.init.length ci), (w.heap.size, 2, .slice Ag t.goal.length cg), (w.heap.size, 3, .slice Ao t.ops.length co)])
      case atStart => exact ⟨0, rfl, Lib.hid (by omega), hco4.below (by repeat (first | with_reducible exact Below.refl _ _ | with_reducible apply bdrew | with_reducible apply bdrewN | with_reducible apply balloc | ((with_reducible refine bset ?_ ?_ _); rotate_left; (first | omega | (simp <;> omega))))), (by repeat (first | with_reducible exact D4 | with_reducible apply bdrew | with_reducible apply bdrewN | with_reducible apply balloc | ((with_reducible refine bset ?_ ?_ _); rotate_left; (first | omega | (simp <;> omega))))), (by simp [Cls, go_sem, F4, y4w0, y4wp1, y4wp2])⟩
      case round =>
        obtain ⟨j, rfl, hj, hcoj, hBs, hCs⟩ := hrel
        obtain ⟨w8, rfl⟩ : ∃ wo : World, wo = wr := ⟨_, rfl⟩
        have dss := hBs.size
        have Fs := hCs
        simp only [Cls, and_true] at Fs
        have ysw0 : w.heap.size < w8.heap.size := hCs.blk (b := w.heap.size) (k := 0) (v := .int .i64 t.facts) (by simp)
        have yswp1 : w.heap.size < w8.heap.size + 1 := (by omega)
        have yswp2 : w.heap.size < w8.heap.size + 1 + 1 := (by omega)
        have hcr08 := (hBs.cell (p := ⟨g, k * 2, none⟩) hgl).trans hcr0w
        have hcr18 := (hBs.cell (p := ⟨g, k * 2 + 1, none⟩) hgl).trans hcr1w
        by_cases hlj : j < Cl.length
        · have hj1 := Lib.hid (show j + 1 + (gk - 1) = Cl.length ∧ gk - 1 < gk by have := hj.out; omega)
          obtain ⟨a7, x, rfl, hx7, hxc⟩ := (hJw.below hBs).at_ hlj
          obtain ⟨x0, x1⟩ := HCS.out.1 x (List.mem_of_getElem? hx7.out)
          have HLJ := Lib.hid (show (lower (leftOf (t.ops.map (·.cost)) (xs.take k)) (Cl.take j) cm).length = t.ops.length by rw [lower_len]; exact HLL.out)
          obtain ⟨gc, y, rfl, hgc, hgc2, hy, hyc, hyw⟩ := hcoj.at_ (k := x.toNat) (by rw [HLJ.out]; omega)
          have hyb : cm ≤ y ∧ y ≤ 100 := by
            have h1 := hcp.out.not_yet HLL.out hx7.out
            have h3 := hcp.out.lower_in HLL.out HLV.out j y (List.mem_of_getElem? hy.out)
            rw [valAt_of hy.out] at h1
            exact ⟨by omega, h3.2⟩
          obtain ⟨hyb0, hyb1⟩ := hyb
          have HLS := Lib.hid (show lower (leftOf (t.ops.map (·.cost)) (xs.take k)) (Cl.take (j + 1)) cm = (lower (leftOf (t.ops.map (·.cost)) (xs.take k)) (Cl.take j) cm).set x.toNat (y - cm) by rw [lower_succ hx7.out, valAt_of hy.out])
          have hgne : ¬ gc = g ∧ ¬ gc = w.heap.size ∧ ¬ g = gc ∧ ¬ w.heap.size = gc := by omega
          have hdn : decide (y - cm < 0) = false := by simp; omega
          go_wp2_with fail
          refine region_still_tail 13 (by kernel_rfl) (by kernel_rfl) ?_
          simp only [List.take_succ_cons, List.take_zero, List.drop_succ_cons, List.drop_zero]
          repeat still_step
          refine wpStill_nil ?_
          go_wp2
          go_roundg (gk - 1)
          case measure => exact hj1.out.2
          case rel =>
            refine ⟨j + 1, by go_num, Lib.hid hj1.out.1, ?_, (by repeat (first | with_reducible exact hBs | with_reducible apply bdrew | with_reducible apply bdrewN | with_reducible apply balloc | ((with_reducible refine bset ?_ ?_ _); rotate_left; (first | omega | (simp <;> omega))))), (by simp [Cls, go_sem, Fs, ysw0, yswp1, yswp2, hgne])⟩
            rw [HLS.out]
            exact OwnI.drew' (OwnI.set_ hcoj HLJ.out _ _)
        · rw [List.take_of_length_le (l := Cl) (by omega)] at hcoj
          have HTS := Lib.hid (totalOf_succ hx.out)
          have HLS := Lib.hid (leftOf_succ (c0 := t.ops.map (·.cost)) hx.out)
          go_wp2
          go_roundg (g3 - 1)
          case measure => exact hk1.out.2
          case rel => exact ⟨k + 1, tk + cm, by go_num, Lib.hid hk1.out.1, rfl, Lib.hid (by rw [HTS.out, htk.out]), by rw [HLS.out]; exact hcoj, (by repeat (first | with_reducible exact hBs | with_reducible apply bdrew | with_reducible apply bdrewN | with_reducible apply balloc | ((with_reducible refine bset ?_ ?_ _); rotate_left; (first | omega | (simp <;> omega))))), (by simp [Cls, go_sem, Fs, ysw0, yswp1, yswp2])⟩
    · rw [List.take_of_length_le (by omega)] at hco htk
      obtain rfl : tk = tt := htk.out.trans HT.out.symm
      have HLL2 := Lib.hid (show (leftOf (t.ops.map (·.cost)) xs).length = t.ops.length by rw [leftOf_len]; exact HL0.out)
      have HLA := Lib.hid (show AllV (leftOf (t.ops.map (·.cost)) xs) from fun c hc => by have := HOK.out.left_in HL0.out HC0.out xs.length; rw [List.take_length] at this; have := this c hc; unfold InV; omega)
      obtain ⟨left, hle⟩ : ∃ left, Hid (leftOf (t.ops.map (·.cost)) xs = left) := ⟨_, Lib.hid rfl⟩
      rw [hle.out] at hco HLL2 HLA HBE HZ
      obtain ⟨V, hVe⟩ : ∃ V, Hid (valuesV false n st t.ops left = V) := ⟨_, Lib.hid rfl⟩
      rw [hVe.out] at HBE HZ
      have HVL := Lib.hid HBE.out.fix.shape.len
      have HVA := Lib.hid HBE.out.fix.shape.all
      have HB := hBr
      have HE := Below.refl w3.heap.size w3
      go_wp2_with fail
      go_region_held3 (fun W => W.cell? ⟨w.heap.size, 0, none⟩ = some (.int .i64 t.facts) ∧ W.cell? ⟨w.heap.size, 1, none⟩ = some (.slice Ai t.init.length ci) ∧ W.cell? ⟨w.heap.size, 2, none⟩ = some (.slice Ag t.goal.length cg) ∧ W.cell? ⟨w.heap.size, 3, none⟩ = some (.slice Ao t.ops.length co)) (first | exact hK | go_keep) (first | (go_at_call 34; refine (factvalues_t _ _ _ _ _ _ _ _ (hT.below (by repeat (first | with_reducible exact HB | with_reducible apply bdrew | with_reducible apply bdrewN | with_reducible apply balloc | ((with_reducible refine bset ?_ ?_ _); rotate_left; (first | omega | (simp <;> omega)))))) n HN.out hn9 _ _ _ (hS.below (by repeat (first | with_reducible exact HB | with_reducible apply bdrew | with_reducible apply bdrewN | with_reducible apply balloc | ((with_reducible refine bset ?_ ?_ _); rotate_left; (first | omega | (simp <;> omega)))))) hls HST.out _ _ _ left ((OwnI.ints_at hco).below (by repeat (first | with_reducible exact HE | with_reducible apply bdrew | with_reducible apply bdrewN | with_reducible apply balloc | ((with_reducible refine bset ?_ ?_ _); rotate_left; (first | omega | (simp <;> omega)))))) rfl HLL2.out HLA.out HOPS.out false).mono ?_; rintro e wx ⟨v, rfl, ho, -, hB⟩; have HB' := dstep w hB (by repeat (first | with_reducible exact HB | with_reducible apply bdrew | with_reducible apply bdrewN | with_reducible apply balloc | ((with_reducible refine bset ?_ ?_ _); rotate_left; (first | omega | (simp <;> omega))))); clear HB; have HB := HB'; clear HB'; have HE' := dstep w3 hB (by repeat (first | with_reducible exact HE | with_reducible apply bdrew | with_reducible apply bdrewN | with_reducible apply balloc | ((with_reducible refine bset ?_ ?_ _); rotate_left; (first | omega | (simp <;> omega))))); clear HE; have HE := HE'; clear HE'; have CX := Cls.below (w := w3) HE hCr; have FX := CX; simp only [Cls, and_true] at FX; have hK : wx.cell? ⟨w.heap.size, 0, none⟩ = some (.int .i64 t.facts) ∧ wx.cell? ⟨w.heap.size, 1, none⟩ = some (.slice Ai t.init.length ci) ∧ wx.cell? ⟨w.heap.size, 2, none⟩ = some (.slice Ag t.goal.length cg) ∧ wx.cell? ⟨w.heap.size, 3, none⟩ = some (.slice Ao t.ops.length co) := (by simp [FX]); clear hB; have hq := ho; rw [hVe.out] at hq; obtain ⟨Af, cf, rfl, -⟩ := hq.form_at HVL.out; have hIf := OwnI.ints_at hq; clear ho hq) | (go_at_call 36; refine (goalvalue_t _ _ _ _ _ _ _ _ (hT.below (by repeat (first | with_reducible exact HB | with_reducible apply bdrew | with_reducible apply bdrewN | with_reducible apply balloc | ((with_reducible refine bset ?_ ?_ _); rotate_left; (first | omega | (simp <;> omega)))))) _ _ n V 0 (hIf.below (by repeat (first | with_reducible exact Below.refl _ _ | with_reducible apply bdrew | with_reducible apply bdrewN | with_reducible apply balloc | ((with_reducible refine bset ?_ ?_ _); rotate_left; (first | omega | (simp <;> omega)))))) HVL.out hn10 HGO.out HVA.out false HZ.out).mono ?_; rintro e wx ⟨rfl, hB⟩; have HB' := dstep w hB (by repeat (first | with_reducible exact HB | with_reducible apply bdrew | with_reducible apply bdrewN | with_reducible apply balloc | ((with_reducible refine bset ?_ ?_ _); rotate_left; (first | omega | (simp <;> omega))))); clear HB; have HB := HB'; clear HB'; have HE' := dstep w3 hB (by repeat (first | with_reducible exact HE | with_reducible apply bdrew | with_reducible apply bdrewN | with_reducible apply balloc | ((with_reducible refine bset ?_ ?_ _); rotate_left; (first | omega | (simp <;> omega))))); clear HE; have HE := HE'; clear HE'; have CX := Cls.below (w := w3) HE hCr; have FX := CX; simp only [Cls, and_true] at FX; have hK : wx.cell? ⟨w.heap.size, 0, none⟩ = some (.int .i64 t.facts) ∧ wx.cell? ⟨w.heap.size, 1, none⟩ = some (.slice Ai t.init.length ci) ∧ wx.cell? ⟨w.heap.size, 2, none⟩ = some (.slice Ag t.goal.length cg) ∧ wx.cell? ⟨w.heap.size, 3, none⟩ = some (.slice Ao t.ops.length co) := (by simp [FX]); clear hB; skip))
      go_wp2
      go_ret
      exact ⟨rfl, HB⟩


end Go.Proofs.Ythnhhohnjiigcaa
