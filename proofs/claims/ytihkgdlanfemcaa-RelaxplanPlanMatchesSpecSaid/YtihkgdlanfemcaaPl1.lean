/-
  relaxplan.Plan's closure: what it does.
-/
import Derived.Test.YtihkgdlanfemcaaSp1
import Derived.Test.YtihkgdlanfemcaaAch
import Derived.Test.YtihkgdlanfemcaaBf3
namespace Go.Proofs.Ytihkgdlanfemcaa
open Go.RowKit
set_option linter.unusedVariables false
set_option linter.unusedSimpArgs false

/-- The memory of a plan that is being made. -/
structure PSt (w0 : World) (t : TaskV) (Ai Ag Ao : Option Addr) (ci cg co n : Nat) (V : List Int) (b1 b2 b3 b4 b5 gs gd B : Nat) (W : World) (D : List Bool) (v : Value) (plan : List Int) : Prop where
  bel : Below w0.heap.size w0 W
  cls : Cls W [(b1, 0, .slice (some ⟨gs, 0, none⟩) n n), (b2, 0, .slice (some ⟨gd, 0, none⟩) t.ops.length t.ops.length), (b3, 0, .int .i64 (n : Int)), (b3, 1, .slice Ai t.init.length ci), (b3, 2, .slice Ag t.goal.length cg), (b3, 3, .slice Ao t.ops.length co), (b4, 0, .func (.func 72) #[] #[.pointer (some ⟨b1, 0, none⟩), .pointer (some ⟨b2, 0, none⟩), .pointer (some ⟨b3, 0, none⟩), .pointer (some ⟨b4, 0, none⟩), .pointer (some ⟨b5, 0, none⟩)])]
  pl : W.cell? ⟨b5, 0, none⟩ = some v ∧ W.frozen? ⟨b5, 0, none⟩ = false
  sup : IArr W gs (supL n V t.ops)
  dn : BArr W gd D
  own : OwnI B W v plan
  siz : B ≤ W.heap.size
/-- The order of its blocks. -/
def PLt (w0 : World) (b1 b2 b3 b4 b5 gs gd B : Nat) : Prop := w0.heap.size ≤ b5 ∧ b3 < b5 ∧ gs < b5 ∧ b1 < b5 ∧ b5 < gd ∧ gd < b2 ∧ b2 < b4 ∧ b4 < B
theorem cell_set_far {W : World} {p q : Addr} {u x : Value} (h : W.cell? p = some x) (hne : q.block ≠ p.block) : (W.setCell q u).cell? p = some x := by
  have := (Below.heap_setCell W q u p.block (fun e => hne e.symm))
  simp only [World.cell?, this]; exact h
theorem frozen_set_far {W : World} {p q : Addr} {u : Value} {x : Bool} (h : W.frozen? p = x) (hne : q.block ≠ p.block) : (W.setCell q u).frozen? p = x := by
  have := (Below.heap_setCell W q u p.block (fun e => hne e.symm))
  simp only [World.frozen?, this]; exact h
theorem PSt.mark {w0 : World} {t : TaskV} {Ai Ag Ao : Option Addr} {ci cg co n : Nat} {V : List Int} {b1 b2 b3 b4 b5 gs gd B : Nat} {W : World} {D : List Bool} {v : Value} {plan : List Int} (hlt : PLt w0 b1 b2 b3 b4 b5 gs gd B) (h : PSt w0 t Ai Ag Ao ci cg co n V b1 b2 b3 b4 b5 gs gd B W D v plan) (i : Nat) : PSt w0 t Ai Ag Ao ci cg co n V b1 b2 b3 b4 b5 gs gd B (W.setCell ⟨gd, i, none⟩ (.bool true)) (D.set i true) v plan := by
  obtain ⟨o1, o2, o3, o4, o5, o6, o7, o8⟩ := hlt
  refine ⟨(by repeat (first | with_reducible exact h.bel | ((with_reducible refine bset ?_ ?_ _); rotate_left; (first | omega | (simp <;> omega))))), h.cls.far _ _ ?_, ⟨cell_set_far h.pl.1 (by dsimp only; omega), frozen_set_far h.pl.2 (by dsimp only; omega)⟩, h.sup.far (by dsimp only; omega) _, h.dn.set_ i true, h.own.far (by dsimp only; omega) _, by simp; exact h.siz⟩
  intro x hx
  simp only [List.mem_cons, List.not_mem_nil, or_false] at hx
  rcases hx with rfl | rfl | rfl | rfl | rfl | rfl | rfl <;> (simp only [ne_eq]; omega)
def PlanIn (ops : List OpV) (plan : List Int) : Prop := plan.Nodup ∧ ∀ x ∈ plan, 0 ≤ x ∧ x < (ops.length : Int)
set_option maxRecDepth 100000 in
set_option maxHeartbeats 2000000 in
theorem ach_neg (w0 : World) (t : TaskV) (Ai Ag Ao : Option Addr) (ci cg co n : Nat) (V : List Int) (b1 b2 b3 b4 b5 gs gd B : Nat) (hlt : PLt w0 b1 b2 b3 b4 b5 gs gd B) (k : Nat) (p : Int) (W : World) (D : List Bool) (v : Value) (plan : List Int) (hp0 : 0 ≤ p) (hp1 : p < (n : Int)) (hP : PSt w0 t Ai Ag Ao ci cg co n V b1 b2 b3 b4 b5 gs gd B W D v plan) (hpre : AchPre n V t.ops D plan p) (hs : supOf V t.ops p < 0) :
    Calls Try.prog 72 (#[.int .i64 p] ++ #[.pointer (some ⟨b1, 0, none⟩), .pointer (some ⟨b2, 0, none⟩), .pointer (some ⟨b3, 0, none⟩), .pointer (some ⟨b4, 0, none⟩), .pointer (some ⟨b5, 0, none⟩)]) W fun e W' => e = .returned (.tuple #[]) ∧ ∃ D' v', PSt w0 t Ai Ag Ao ci cg co n V b1 b2 b3 b4 b5 gs gd B W' D' v' (rpV V t.ops k plan p) ∧ AchPost t.ops D D' (rpV V t.ops k plan p) := by
  have HP := Lib.hid hP
  have HPO := Lib.hid hpre.same
  rw [rpV_skip (.inl hs)]
  obtain ⟨p, rfl⟩ := Int.eq_ofNat_of_zero_le hp0
  have hpn : p < n := by omega
  obtain ⟨o1, o2, o3, o4, o5, o6, o7, o8⟩ := hlt
  obtain ⟨hbel, hcls, ⟨hpl, hpf⟩, hsup, hdn, hown, hsiz⟩ := hP
  have FC := hcls
  simp only [Cls, and_true] at FC
  obtain ⟨a, ha, hac, haf⟩ := hsup.cell (i := p) (by rw [supL_len]; exact hpn)
  have HA := Lib.hid (show supOf V t.ops (p : Int) = a from by have h := ha.out; rw [supL_get hpn] at h; injection h)
  have HCL := Lib.hid hcls
  have HSUP := Lib.hid hsup
  clear hcls hsup
  rw [HA.out] at hs
  have hd1 : decide (a < 0) = true := decide_eq_true hs
  go_enter Try.func72, Try.ntmps72
  go_wp2
  (try simp only [Exit.inBlock, Exit.then])
  refine bodyPost_ret (results_none rfl _ _ _) rfl ?_
  exact ⟨rfl, D, v, HP.out, HPO.out⟩
set_option maxRecDepth 100000 in
set_option maxHeartbeats 2000000 in
theorem ach_done (w0 : World) (t : TaskV) (Ai Ag Ao : Option Addr) (ci cg co n : Nat) (V : List Int) (b1 b2 b3 b4 b5 gs gd B : Nat) (hlt : PLt w0 b1 b2 b3 b4 b5 gs gd B) (k : Nat) (p : Int) (W : World) (D : List Bool) (v : Value) (plan : List Int) (hp0 : 0 ≤ p) (hp1 : p < (n : Int)) (hP : PSt w0 t Ai Ag Ao ci cg co n V b1 b2 b3 b4 b5 gs gd B W D v plan) (hpre : AchPre n V t.ops D plan p) (i : Nat) (hs : supOf V t.ops p = (i : Int)) (hd : D[i]? = some true) :
    Calls Try.prog 72 (#[.int .i64 p] ++ #[.pointer (some ⟨b1, 0, none⟩), .pointer (some ⟨b2, 0, none⟩), .pointer (some ⟨b3, 0, none⟩), .pointer (some ⟨b4, 0, none⟩), .pointer (some ⟨b5, 0, none⟩)]) W fun e W' => e = .returned (.tuple #[]) ∧ ∃ D' v', PSt w0 t Ai Ag Ao ci cg co n V b1 b2 b3 b4 b5 gs gd B W' D' v' (rpV V t.ops k plan p) ∧ AchPost t.ops D D' (rpV V t.ops k plan p) := by
  have HP := Lib.hid hP
  have HPO := Lib.hid hpre.same
  have hin := hpre.planned hs hd
  rw [rpV_skip (.inr (by rw [hs]; exact hin))]
  clear hin
  obtain ⟨p, rfl⟩ := Int.eq_ofNat_of_zero_le hp0
  have hpn : p < n := by omega
  obtain ⟨o1, o2, o3, o4, o5, o6, o7, o8⟩ := hlt
  obtain ⟨hbel, hcls, ⟨hpl, hpf⟩, hsup, hdn, hown, hsiz⟩ := hP
  have FC := hcls
  simp only [Cls, and_true] at FC
  obtain ⟨a, ha, hac, haf⟩ := hsup.cell (i := p) (by rw [supL_len]; exact hpn)
  have HA := Lib.hid (show supOf V t.ops (p : Int) = a from by have h := ha.out; rw [supL_get hpn] at h; injection h)
  have HCL := Lib.hid hcls
  have HSUP := Lib.hid hsup
  clear hcls hsup
  have hai : a = (i : Int) := by rw [← HA.out]; exact hs
  subst hai
  have hdl := hpre.len
  have hil : i < D.length := (List.getElem?_eq_some_iff.1 hd).1
  obtain ⟨y, hy, hyc, hyf⟩ := hdn.cell hil
  have hyt : y = true := by have h := hy.out; rw [hd] at h; injection h with h; exact h.symm
  subst hyt
  have hd1 : decide ((i : Int) < 0) = false := decide_eq_false (by omega)
  have hi2 : i < t.ops.length := by omega
  clear hs hd hy
  go_enter Try.func72, Try.ntmps72
  go_wp2
  (try simp only [Exit.inBlock, Exit.then])
  refine bodyPost_ret (results_none rfl _ _ _) rfl ?_
  exact ⟨rfl, D, v, HP.out, HPO.out⟩
theorem ach_any (w0 : World) (t : TaskV) (Ai Ag Ao : Option Addr) (ci cg co n : Nat) (V : List Int) (b1 b2 b3 b4 b5 gs gd B : Nat) (hT : TaskMem w0 Ai Ag Ao t) (hlt : PLt w0 b1 b2 b3 b4 b5 gs gd B) (h40 : t.ops.length ≤ 40) (hops : ∀ o ∈ t.ops, (∀ p ∈ o.pre, 0 ≤ p ∧ p < (n : Int)) ∧ ∀ p ∈ o.add, 0 ≤ p ∧ p < (n : Int)) (k : Nat) : ∀ (p : Int) (W : World) (D : List Bool) (v : Value) (plan : List Int), 0 ≤ p → p < (n : Int) → valAt V p < (k : Int) → PSt w0 t Ai Ag Ao ci cg co n V b1 b2 b3 b4 b5 gs gd B W D v plan → AchPre n V t.ops D plan p → PlanIn t.ops plan →
    Calls Try.prog 72 (#[.int .i64 p] ++ #[.pointer (some ⟨b1, 0, none⟩), .pointer (some ⟨b2, 0, none⟩), .pointer (some ⟨b3, 0, none⟩), .pointer (some ⟨b4, 0, none⟩), .pointer (some ⟨b5, 0, none⟩)]) W fun e W' => e = .returned (.tuple #[]) ∧ ∃ D' v', PSt w0 t Ai Ag Ao ci cg co n V b1 b2 b3 b4 b5 gs gd B W' D' v' (rpV V t.ops k plan p) ∧ AchPost t.ops D D' (rpV V t.ops k plan p) := by
  induction k with
  | zero =>
    intro p W D v plan hp0 hp1 hk hP hpre hpk
    refine ach_neg w0 t Ai Ag Ao ci cg co n V b1 b2 b3 b4 b5 gs gd B hlt 0 p W D v plan hp0 hp1 hP hpre ?_
    refine Classical.byContradiction fun hc => ?_
    obtain ⟨_, _, _, _, hg⟩ := supOf_good hc
    have := hg.2.1
    omega
  | succ k ih =>
    intro p W D v plan hp0 hp1 hk hP hpre hpk
    have HPK := Lib.hid hpk
    clear hpk
    have HPRE := Lib.hid hpre
    have HP := Lib.hid hP
    by_cases hs : supOf V t.ops p < 0
    · exact ach_neg w0 t Ai Ag Ao ci cg co n V b1 b2 b3 b4 b5 gs gd B hlt _ p W D v plan hp0 hp1 hP hpre hs
    · obtain ⟨i, o, he, ho, hg⟩ := supOf_good hs
      have hil : i < t.ops.length := (List.getElem?_eq_some_iff.1 ho).1
      have hdl := hpre.len
      obtain ⟨d, hd⟩ : ∃ d, D[i]? = some d := ⟨_, List.getElem?_eq_getElem (by omega)⟩
      cases d with
      | true => exact ach_done w0 t Ai Ag Ao ci cg co n V b1 b2 b3 b4 b5 gs gd B hlt _ p W D v plan hp0 hp1 hP hpre i he hd
      | false =>
        have hnp := hpre.notplanned hil hd
        rw [rpV_do ho he hnp]
        have HMID := Lib.hid (hpre.mid hil)
        have HG := Lib.hid hg
        have HO := Lib.hid ho
        have HIH := Lib.hid ih
        have hoo := Lib.hid (hops o (List.mem_of_getElem? ho))
        have HT := Lib.hid hT
        have HLT := Lib.hid hlt
        clear hpre ih hnp hg hs
        obtain ⟨p, rfl⟩ := Int.eq_ofNat_of_zero_le hp0
        have hpn : p < n := by omega
        obtain ⟨o1, o2, o3, o4, o5, o6, o7, o8⟩ := hlt
        obtain ⟨hbel, hcls, ⟨hpl, hpf⟩, hsup, hdn, hown, hsiz⟩ := hP
        have FC := hcls
        simp only [Cls, and_true] at FC
        obtain ⟨a, ha, hac, haf⟩ := hsup.cell (i := p) (by rw [supL_len]; exact hpn)
        have HA := Lib.hid (show supOf V t.ops (p : Int) = a from by have h := ha.out; rw [supL_get hpn] at h; injection h)
        have HCL := Lib.hid hcls
        have HSUP := Lib.hid hsup
        clear hcls hsup
        have hai : a = (i : Int) := by rw [← HA.out]; exact he
        subst hai
        obtain ⟨y, hy, hyc, hyf⟩ := hdn.cell (i := i) (by omega)
        have hyt : y = false := by have h := hy.out; rw [hd] at h; injection h with h; exact h.symm
        subst hyt
        have hd1 : decide ((i : Int) < 0) = false := decide_eq_false (by omega)
        obtain ⟨ad, o', A0, c0, A2, c2, A4, c4, rfl, ho', hc0, hc1, hc2, hc3, hm⟩ := hT.ops.at_ hil
        have hoe : o' = o := by have h := ho'.out; rw [ho] at h; injection h with h; exact h.symm
        subst hoe
        have hx0 := (hbel.cell (World.block_lt_of_cell? w0 _ hc0)).trans hc0
        have hxb : (ad.add (i * 4)).block < w0.heap.size := World.block_lt_of_cell? w0 _ hc0
        have hx1 : (W.setCell ⟨gd, i, none⟩ (.bool true)).cell? (ad.add (i * 4)) = some (.slice A0 o'.pre.length c0) := cell_set_far hx0 (by dsimp only; omega)
        have hlp := hm.lpre.le
        have hE : ∀ (args : Array Value) (w : World), (callFunc 72 args).run Try.prog w = .ok (.enter 72 args) w := fun args w => by kernel_rfl
        have HK := Lib.hid hk
        clear hd hy he hk ho ho'
        go_enter Try.func72, Try.ntmps72
        go_wp2_with fail
        go_loopw [32] (fun x wr => ∃ (j : Nat) (Dj : List Bool) (vj : Value), j ≤ o'.pre.length ∧ x = .int .i64 j ∧ PSt w0 t Ai Ag (some ad) ci cg co n V b1 b2 b3 b4 b5 gs gd B wr Dj vj ((o'.pre.take j).foldl (rpV V t.ops k) plan) ∧ Hid (AchMid t.ops i D Dj ((o'.pre.take j).foldl (rpV V t.ops k) plan)) ∧ Hid (PlanIn t.ops ((o'.pre.take j).foldl (rpV V t.ops k) plan))) (fun x _ => o'.pre.length - (intOf x).toNat)
        case atStart => exact ⟨0, D.set i true, v, Nat.zero_le _, rfl, HP.out.mark HLT.out i, HMID, HPK⟩
        case round =>
          obtain ⟨j, Dj, vj, hj, rfl, hPj, hmid, hok⟩ := hrel
          obtain ⟨w1, rfl⟩ : ∃ wo : World, wo = wr := ⟨_, rfl⟩
          obtain ⟨pj, hpj⟩ : ∃ l, Hid ((o'.pre.take j).foldl (rpV V t.ops k) plan = l) := ⟨_, Lib.hid rfl⟩
          rw [hpj.out] at hPj hmid hok
          have HPJ := Lib.hid hPj
          obtain ⟨jbel, jcls, ⟨jpl, jpf⟩, jsup, jdn, jown, jsiz⟩ := hPj
          have FJ := jcls
          simp only [Cls, and_true] at FJ
          by_cases hlj : j < o'.pre.length
          · obtain ⟨qd, q, rfl, hq, hqc⟩ := (hm.pre.below jbel).at_ hlj
            have hqm := List.mem_of_getElem? hq.out
            obtain ⟨q0, q1⟩ := hoo.out.1 q hqm
            have HQ := Lib.hid (hmid.out.pre HPRE.out HO.out HG.out hqm (fun x hx => by rw [← hpj.out]; exact fold_mono k _ _ hx))
            have hqk : valAt V q < (k : Int) := by have := (HG.out.2.2 q hqm).2; have := HK.out; omega
            have HFS := Lib.hid (fold_succ (V := V) (ops := t.ops) (k := k) (pl := plan) hq.out)
            rw [hpj.out] at HFS
            have HOK2 : Hid (PlanIn t.ops (rpV V t.ops k pj q)) := Lib.hid (by have h := ach_nodup (V := V) (ops := t.ops) k pj q hqk hok.out.1 hok.out.2; exact ⟨h.1, h.2.1⟩)
            go_wp2_with fail
            refine (HIH.out q _ Dj vj pj q0 q1 hqk HPJ.out HQ.out hok.out).mono ?_
            rintro e w2 ⟨rfl, D2, v2, hP2, hpost⟩
            have HM2 := Lib.hid (hmid.out.step hpost (fun x hx => rpV_mono k pj q x hx))
            go_wp2
            go_roundw
            case rel => exact ⟨j + 1, D2, v2, by omega, by go_num, by rw [HFS.out]; exact hP2, by rw [HFS.out]; exact HM2, by rw [HFS.out]; exact HOK2⟩
            case measure => simp [intOf]; omega
          · have hje := Lib.hid (show (o'.pre.take j).foldl (rpV V t.ops k) plan = o'.pre.foldl (rpV V t.ops k) plan by rw [List.take_of_length_le (by omega)])
            rw [hpj.out] at hje
            have HPO := Lib.hid hmid.out.post
            have HPL : Hid (pj.length ≤ 40) := Lib.hid (by have := nodup_len hok.out.1 hok.out.2; omega)
            have HNB := Lib.hid (fun k (hk : vj.ownBlock = some k) => show B ≤ k from (jown.lt k hk).1)
            have hlen : pj.length < 1000000000000 := by have := HPL.out; omega
            have CJ : Cls w1 ([(b1, 0, .slice (some ⟨gs, 0, none⟩) n n), (b2, 0, .slice (some ⟨gd, 0, none⟩) t.ops.length t.ops.length), (b3, 0, .int .i64 (n : Int)), (b3, 1, .slice Ai t.init.length ci), (b3, 2, .slice Ag t.goal.length cg), (b3, 3, .slice (some ad) t.ops.length co), (b4, 0, .func (.func 72) #[] #[.pointer (some ⟨b1, 0, none⟩), .pointer (some ⟨b2, 0, none⟩), .pointer (some ⟨b3, 0, none⟩), .pointer (some ⟨b4, 0, none⟩), .pointer (some ⟨b5, 0, none⟩)]), (b5, 0, vj)]) := by simp [Cls, FJ, jpl, jpf]
            have hsz1 := jbel.size
            go_wp2_with (at_builtin; go_must (refine wpList_push_at rfl (.tmp 40) (.tmp 42) rfl w0 ([(b1, 0, .slice (some ⟨gs, 0, none⟩) n n), (b2, 0, .slice (some ⟨gd, 0, none⟩) t.ops.length t.ops.length), (b3, 0, .int .i64 (n : Int)), (b3, 1, .slice Ai t.init.length ci), (b3, 2, .slice Ag t.goal.length cg), (b3, 3, .slice (some ad) t.ops.length co), (b4, 0, .func (.func 72) #[] #[.pointer (some ⟨b1, 0, none⟩), .pointer (some ⟨b2, 0, none⟩), .pointer (some ⟨b3, 0, none⟩), .pointer (some ⟨b4, 0, none⟩), .pointer (some ⟨b5, 0, none⟩)]), (b5, 0, vj)]) B vj pj (i : Int) rfl (OwnI.below jown ?p1) ⟨w1.heap.size, 0, none⟩ 1 rfl ?p2 hlen ?p3 ?p4 ?p5 ?p6 ?p7 ?_; (case p1 => repeat (first | with_reducible exact Below.refl _ _ | with_reducible apply bdrew | with_reducible apply bdrewN | with_reducible apply balloc | ((with_reducible refine bset ?_ ?_ _); rotate_left; (first | omega | (simp <;> omega))))); (case p2 => simp [go_sem]); (case p3 => (first | omega | (simp <;> omega))); (case p4 => (first | omega | (simp <;> omega))); (case p5 => repeat (first | with_reducible exact jbel | with_reducible apply bdrew | with_reducible apply bdrewN | with_reducible apply balloc | ((with_reducible refine bset ?_ ?_ _); rotate_left; (first | omega | (simp <;> omega))))); (case p6 => exact Cls.below (w := w1) (by repeat (first | with_reducible exact Below.refl _ _ | with_reducible apply bdrew | with_reducible apply bdrewN | with_reducible apply balloc | ((with_reducible refine bset ?_ ?_ _); rotate_left; (first | omega | (simp <;> omega))))) CJ); (case p7 => (simp <;> omega)); intro v2 w2 o2 D2 C2 sz2 G2 at2; have HS2 := Lib.hid (Arr.grown (IArr.below jsup (by repeat (first | with_reducible exact Below.refl _ _ | with_reducible apply bdrew | with_reducible apply bdrewN | with_reducible apply balloc | ((with_reducible refine bset ?_ ?_ _); rotate_left; (first | omega | (simp <;> omega)))))) G2 (fun h => by have := HNB.out gs h; omega)); have HD2 := Lib.hid (Arr.grown (BArr.below jdn (by repeat (first | with_reducible exact Below.refl _ _ | with_reducible apply bdrew | with_reducible apply bdrewN | with_reducible apply balloc | ((with_reducible refine bset ?_ ?_ _); rotate_left; (first | omega | (simp <;> omega)))))) G2 (fun h => by have := HNB.out gd h; omega)); clear G2 at2; have F2 := C2; simp only [Cls, and_true] at F2; obtain ⟨A9, c9, rfl, hn9, hI9⟩ := o2.form; clear hn9 hI9))
            go_end0
            have o2' : OwnI B w2 (.slice A9 (pj.length + 1) c9) (pj ++ [(i : Int)]) := by have h := o2; rwa [List.length_append] at h
            refine ⟨rfl, Dj, .slice A9 (pj.length + 1) c9, ?_, ?_⟩
            · rw [← hje.out]
              have hsz2 := D2.size
              have hb5 : w2.cell? ⟨b5, 0, none⟩ = some vj ∧ w2.frozen? ⟨b5, 0, none⟩ = false := by simp [F2]
              simp at sz2
              refine ⟨(by repeat (first | with_reducible exact D2 | ((with_reducible refine bset ?_ ?_ _); rotate_left; (first | omega | (simp <;> omega))))), ?_, ⟨World.cell?_setCell_same w2 _ _ hb5.1, (by first | simp [hb5] | simp [go_sem, hb5])⟩, IArr.far HS2.out (by dsimp only; omega) _, Arr.far HD2.out (by dsimp only; omega) _, o2'.far (by dsimp only; omega) _, by simp; omega⟩
              have h7 : Cls w2 [(b1, 0, .slice (some ⟨gs, 0, none⟩) n n), (b2, 0, .slice (some ⟨gd, 0, none⟩) t.ops.length t.ops.length), (b3, 0, .int .i64 (n : Int)), (b3, 1, .slice Ai t.init.length ci), (b3, 2, .slice Ag t.goal.length cg), (b3, 3, .slice (some ad) t.ops.length co), (b4, 0, .func (.func 72) #[] #[.pointer (some ⟨b1, 0, none⟩), .pointer (some ⟨b2, 0, none⟩), .pointer (some ⟨b3, 0, none⟩), .pointer (some ⟨b4, 0, none⟩), .pointer (some ⟨b5, 0, none⟩)])] := by simp [Cls, F2]
              refine h7.far _ _ ?_
              intro x hx
              simp only [List.mem_cons, List.not_mem_nil, or_false] at hx
              rcases hx with rfl | rfl | rfl | rfl | rfl | rfl | rfl <;> (simp only [ne_eq]; omega)
            · rw [← hje.out]; exact HPO.out
set_option maxRecDepth 100000 in
set_option maxHeartbeats 400000 in
theorem pln1_neg (w : World) (ob g n p : Nat) (x : Int) (hp : p < n) (h1 : w.cell? ⟨ob, 0, none⟩ = some (.slice (some ⟨g, 0, none⟩) n n)) (hx : w.cell? ⟨g, p, none⟩ = some (.int .i64 x)) (h : x < 0) :
    Calls Try.prog 71 #[.int .i64 p, .pointer (some ⟨ob, 0, none⟩)] w fun e w' => e = .returned (.bool true) ∧ Below w.heap.size w w' := by
  have hxd : decide (x < 0) = true := decide_eq_true h
  go_enter Try.func71, Try.ntmps71
  go_wp2
  go_ret
  exact ⟨ret_bool (by simp [h]), by repeat (first | with_reducible exact Below.refl _ _ | with_reducible apply bdrew | with_reducible apply bdrewN | with_reducible apply balloc | ((with_reducible refine bset ?_ ?_ _); rotate_left; (first | omega | (simp <;> omega))))⟩
set_option maxRecDepth 100000 in
set_option maxHeartbeats 400000 in
theorem pln1_no (w : World) (ob g n p : Nat) (x : Int) (hp : p < n) (h1 : w.cell? ⟨ob, 0, none⟩ = some (.slice (some ⟨g, 0, none⟩) n n)) (hx : w.cell? ⟨g, p, none⟩ = some (.int .i64 x)) (h : ¬ x < 0) :
    Calls Try.prog 71 #[.int .i64 p, .pointer (some ⟨ob, 0, none⟩)] w fun e w' => e = .returned (.bool false) ∧ Below w.heap.size w w' := by
  have hxd : decide (x < 0) = false := decide_eq_false h
  go_enter Try.func71, Try.ntmps71
  go_wp2
  go_ret
  exact ⟨ret_bool (by simp [h]), by repeat (first | with_reducible exact Below.refl _ _ | with_reducible apply bdrew | with_reducible apply bdrewN | with_reducible apply balloc | ((with_reducible refine bset ?_ ?_ _); rotate_left; (first | omega | (simp <;> omega))))⟩

end Go.Proofs.Ytihkgdlanfemcaa
