/-
  helmsmanref3.Achieved: the plan behind a fact.
-/
import Derived.Test.YtihkgdlanfemcaaSo1
import Derived.Test.YtihkgdlanfemcaaPl1
import Derived.Test.YtihkgdlanfemcaaBf3
namespace Go.Proofs.Ytihkgdlanfemcaa
open Go.RowKit
set_option linter.unusedVariables false
set_option linter.unusedSimpArgs false

theorem grown_trans {a b c : World} {r s : Option Nat} (h : a.grownBy b r) (k : b.grownBy c s) (hs : s = r ∨ ∀ g, s = some g → a.heap.size ≤ g) : a.grownBy c r :=
  ⟨k.os.trans h.os, k.tape.trans h.tape, k.output.trans h.output, Nat.le_trans h.size k.size, fun i hi hne => (k.block i (by have := h.size; omega) (fun e => by
    rcases hs with e2 | e2
    · exact hne (e.trans e2)
    · have := e2 i e.symm; omega)).trans (h.block i hi hne)⟩
theorem grown_of {a b : World} (h : Below a.heap.size a b) (r : Option Nat) : a.grownBy b r := ⟨h.os, h.tape, h.output, h.size, fun i hi _ => h.block i hi⟩
theorem cls_kept {w w' : World} {row : Option Nat} {l : List (Nat × Nat × Value)} (hC : Cls w l) (hg : w.grownBy w' row) (hl : ∀ x ∈ l, some x.1 ≠ row) : Cls w' l := by
  induction l with
  | nil => trivial
  | cons x r ih =>
    obtain ⟨b, k, u⟩ := x
    obtain ⟨⟨h1, h2⟩, h3⟩ := hC
    have hlt := World.block_lt_of_cell? w ⟨b, k, none⟩ h1
    have hne : w'.heap[b]? = w.heap[b]? := hg.block b hlt (hl (b, k, u) (by simp))
    exact ⟨⟨(World.cell?_of_block (w := w) hne).trans h1, (World.frozen?_of_block (w := w) hne).trans h2⟩, ih h3 (fun x hx => hl x (by simp [hx]))⟩
theorem planin_do {V : List Int} {ops : List OpV} {k : Nat} {pl : List Int} {q : Int} (hq : valAt V q < (k : Int)) (h : PlanIn ops pl) : PlanIn ops (rpV V ops k pl q) := by
  have := ach_nodup (V := V) (ops := ops) k pl q hq h.1 h.2
  exact ⟨this.1, this.2.1⟩
set_option maxRecDepth 100000 in
set_option maxHeartbeats 1000000 in
theorem achieved_neg (w : World) (wb : World) (t : TaskV) (Ai Ag Ao : Option Addr) (ci cg co : Nat) (hT : TaskMem wb Ai Ag Ao t) (gl : Nat) (V : List Int) (hA : IArr wb gl V) (n : Nat) (hn : t.facts = n) (hv : Valid t) (hVl : V.length = n) (hVr : ∀ q, -1 ≤ valAt V q ∧ valAt V q ≤ (n : Int)) (p : Nat) (hp : p < n) (hW : Below wb.heap.size wb w) (v : Value) (plan : List Int) (B : Nat) (hP : OwnI B w v plan) (hpl : plan.length ≤ 40) (hs : supOf V t.ops (p : Int) < 0) :
    Calls Try.prog 74 #[.agg #[.int .i64 t.facts, .slice Ai t.init.length ci, .slice Ag t.goal.length cg, .slice Ao t.ops.length co], .slice (some ⟨gl, 0, none⟩) n n, v, .int .i64 (p : Int)] w fun e w' => e = .returned v ∧ Below w.heap.size w w' := by
  have hTw := hT.below hW
  have HNA := Lib.hid hn
  have HV := Lib.hid hv
  have HVR := Lib.hid hVr
  clear hn hv hVr
  obtain ⟨A, c, rfl, _, hI⟩ := hP.form
  obtain ⟨x, hx⟩ : ∃ x, Hid (supOf V t.ops (p : Int) = x) := ⟨_, Lib.hid rfl⟩
  rw [hx.out] at hs
  have hd1 : decide (x < 0) = true := decide_eq_true hs
  go_enter Try.func74, Try.ntmps74
  go_wp2_with fail
  refine (supporterof_any _ t Ai Ag Ao ci cg co (hTw.below (by repeat (first | with_reducible exact Below.refl _ _ | with_reducible apply bdrew | with_reducible apply bdrewN | with_reducible apply balloc | ((with_reducible refine bset ?_ ?_ _); rotate_left; (first | omega | (simp <;> omega)))))) gl V (hA.below (hW.trans ((by repeat (first | with_reducible exact Below.refl _ _ | with_reducible apply bdrew | with_reducible apply bdrewN | with_reducible apply balloc | ((with_reducible refine bset ?_ ?_ _); rotate_left; (first | omega | (simp <;> omega)))) : Below w.heap.size w _).mono hW.size))) n HNA.out HV.out hVl HVR.out p hp).mono ?_
  rintro e w1 ⟨rfl, hB1⟩
  have D1 := dstep w hB1 (by repeat (first | with_reducible exact Below.refl _ _ | with_reducible apply bdrew | with_reducible apply bdrewN | with_reducible apply balloc | ((with_reducible refine bset ?_ ?_ _); rotate_left; (first | omega | (simp <;> omega)))))
  have d1s := D1.size
  have C1 := Cls.below (l := [(w.heap.size, 0, .int .i64 t.facts), (w.heap.size, 1, .slice Ai t.init.length ci), (w.heap.size, 2, .slice Ag t.goal.length cg), (w.heap.size, 3, .slice Ao t.ops.length co)]) hB1 (by simp [Cls, go_sem])
  have F1 := C1
  simp only [Cls, and_true] at F1
  have y1w0 : w.heap.size < w1.heap.size := C1.blk (b := w.heap.size) (k := 0) (v := .int .i64 t.facts) (by simp)
  have y1wp1 : w.heap.size < w1.heap.size + 1 := (by omega)
  have y1wp2 : w.heap.size < w1.heap.size + 1 + 1 := (by omega)
  rw [hx.out]
  go_wp2
  go_ret
  exact ⟨rfl, by repeat (first | with_reducible exact D1 | with_reducible apply bdrew | with_reducible apply bdrewN | with_reducible apply balloc | ((with_reducible refine bset ?_ ?_ _); rotate_left; (first | omega | (simp <;> omega))))⟩

set_option maxRecDepth 100000 in
set_option maxHeartbeats 1000000 in
theorem achieved_done (w : World) (wb : World) (t : TaskV) (Ai Ag Ao : Option Addr) (ci cg co : Nat) (hT : TaskMem wb Ai Ag Ao t) (gl : Nat) (V : List Int) (hA : IArr wb gl V) (n : Nat) (hn : t.facts = n) (hv : Valid t) (hVl : V.length = n) (hVr : ∀ q, -1 ≤ valAt V q ∧ valAt V q ≤ (n : Int)) (p : Nat) (hp : p < n) (hW : Below wb.heap.size wb w) (v : Value) (plan : List Int) (B : Nat) (hP : OwnI B w v plan) (hpl : plan.length ≤ 40) (i : Nat) (hs : supOf V t.ops (p : Int) = (i : Int)) (hin : (i : Int) ∈ plan) :
    Calls Try.prog 74 #[.agg #[.int .i64 t.facts, .slice Ai t.init.length ci, .slice Ag t.goal.length cg, .slice Ao t.ops.length co], .slice (some ⟨gl, 0, none⟩) n n, v, .int .i64 (p : Int)] w fun e w' => e = .returned v ∧ Below w.heap.size w w' := by
  have hTw := hT.below hW
  have HNA := Lib.hid hn
  have HV := Lib.hid hv
  have HVR := Lib.hid hVr
  clear hn hv hVr
  obtain ⟨A, c, rfl, _, hI⟩ := hP.form
  have HIN := Lib.hid hin
  have hd1 : decide ((i : Int) < 0) = false := decide_eq_false (by omega)
  clear hin
  go_enter Try.func74, Try.ntmps74
  go_wp2_with fail
  refine (supporterof_any _ t Ai Ag Ao ci cg co (hTw.below (by repeat (first | with_reducible exact Below.refl _ _ | with_reducible apply bdrew | with_reducible apply bdrewN | with_reducible apply balloc | ((with_reducible refine bset ?_ ?_ _); rotate_left; (first | omega | (simp <;> omega)))))) gl V (hA.below (hW.trans ((by repeat (first | with_reducible exact Below.refl _ _ | with_reducible apply bdrew | with_reducible apply bdrewN | with_reducible apply balloc | ((with_reducible refine bset ?_ ?_ _); rotate_left; (first | omega | (simp <;> omega)))) : Below w.heap.size w _).mono hW.size))) n HNA.out HV.out hVl HVR.out p hp).mono ?_
  rintro e w1 ⟨rfl, hB1⟩
  have D1 := dstep w hB1 (by repeat (first | with_reducible exact Below.refl _ _ | with_reducible apply bdrew | with_reducible apply bdrewN | with_reducible apply balloc | ((with_reducible refine bset ?_ ?_ _); rotate_left; (first | omega | (simp <;> omega)))))
  have d1s := D1.size
  have C1 := Cls.below (l := [(w.heap.size, 0, .int .i64 t.facts), (w.heap.size, 1, .slice Ai t.init.length ci), (w.heap.size, 2, .slice Ag t.goal.length cg), (w.heap.size, 3, .slice Ao t.ops.length co)]) hB1 (by simp [Cls, go_sem])
  have F1 := C1
  simp only [Cls, and_true] at F1
  have y1w0 : w.heap.size < w1.heap.size := C1.blk (b := w.heap.size) (k := 0) (v := .int .i64 t.facts) (by simp)
  have y1wp1 : w.heap.size < w1.heap.size + 1 := (by omega)
  have y1wp2 : w.heap.size < w1.heap.size + 1 + 1 := (by omega)
  rw [hs]
  go_wp2_with fail
  refine (has_yes _ _ _ _ _ (hI.below (by repeat (first | with_reducible exact D1 | with_reducible apply bdrew | with_reducible apply bdrewN | with_reducible apply balloc | ((with_reducible refine bset ?_ ?_ _); rotate_left; (first | omega | (simp <;> omega)))))) (by omega) HIN.out).mono ?_
  rintro e w' ⟨rfl, rfl⟩
  go_wp2
  go_ret
  exact ⟨rfl, by repeat (first | with_reducible exact D1 | with_reducible apply bdrew | with_reducible apply bdrewN | with_reducible apply balloc | ((with_reducible refine bset ?_ ?_ _); rotate_left; (first | omega | (simp <;> omega))))⟩

set_option maxRecDepth 100000 in
set_option maxHeartbeats 4000000 in
theorem achieved_any (wb : World) (t : TaskV) (Ai Ag Ao : Option Addr) (ci cg co : Nat) (hT : TaskMem wb Ai Ag Ao t) (gl : Nat) (V : List Int) (hA : IArr wb gl V) (n : Nat) (hn : t.facts = n) (hv : Valid t) (hVl : V.length = n) (hVr : ∀ q, -1 ≤ valAt V q ∧ valAt V q ≤ (n : Int)) (B : Nat) (hB : wb.heap.size ≤ B) (k : Nat) : ∀ (p : Nat) (w : World) (v : Value) (plan : List Int), p < n → valAt V (p : Int) < (k : Int) → Below wb.heap.size wb w → OwnI B w v plan → B ≤ w.heap.size → PlanIn t.ops plan →
    Calls Try.prog 74 #[.agg #[.int .i64 t.facts, .slice Ai t.init.length ci, .slice Ag t.goal.length cg, .slice Ao t.ops.length co], .slice (some ⟨gl, 0, none⟩) n n, v, .int .i64 (p : Int)] w fun e w' => ∃ v', e = .returned v' ∧ OwnI B w' v' (rpV V t.ops k plan (p : Int)) ∧ w.grownBy w' v.ownBlock ∧ (v'.ownBlock = v.ownBlock ∨ ∀ g, v'.ownBlock = some g → w.heap.size ≤ g) := by
  have h40 := hv.nops
  have HNA := Lib.hid hn
  have HV := Lib.hid hv
  have HOPS := Lib.hid (ops_in hv hn)
  have HPL := Lib.hid (show ∀ o ∈ t.ops, o.pre.length ≤ 24 from fun o ho => by have h1 := (hv.ops o ho).1.1.length hv.f0; have h2 := hv.f1; omega)
  have hlo := hT.lops.le
  have HVR := Lib.hid hVr
  clear hv hn hVr
  induction k with
  | zero =>
    intro p w v plan hp hk hW hP hBw hpk
    have hs : supOf V t.ops (p : Int) < 0 := by
      rw [supOf_none (by omega)]; omega
    refine (achieved_neg w wb t Ai Ag Ao ci cg co hT gl V hA n HNA.out HV.out hVl HVR.out p hp hW v plan B hP (by have := nodup_len hpk.1 hpk.2; omega) hs).mono ?_
    rintro e w' ⟨rfl, hB'⟩
    exact ⟨v, rfl, hP.below hB', grown_of hB' _, .inl rfl⟩
  | succ k ih =>
    intro p w v plan hp hk hW hP hBw hpk
    have hpl := nodup_len hpk.1 hpk.2
    by_cases hs : supOf V t.ops (p : Int) < 0
    · rw [rpV_skip (.inl hs)]
      refine (achieved_neg w wb t Ai Ag Ao ci cg co hT gl V hA n HNA.out HV.out hVl HVR.out p hp hW v plan B hP (by omega) hs).mono ?_
      rintro e w' ⟨rfl, hB'⟩
      exact ⟨v, rfl, hP.below hB', grown_of hB' _, .inl rfl⟩
    · obtain ⟨i, o, he, ho, hg⟩ := supOf_good hs
      by_cases hin : (i : Int) ∈ plan
      · rw [rpV_skip (.inr (by rw [he]; exact hin))]
        refine (achieved_done w wb t Ai Ag Ao ci cg co hT gl V hA n HNA.out HV.out hVl HVR.out p hp hW v plan B hP (by omega) i he hin).mono ?_
        rintro e w' ⟨rfl, hB'⟩
        exact ⟨v, rfl, hP.below hB', grown_of hB' _, .inl rfl⟩
      · rw [rpV_do ho he hin]
        have hil : i < t.ops.length := (List.getElem?_eq_some_iff.1 ho).1
        have HNI := Lib.hid hin
        have HE := Lib.hid he
        have HO := Lib.hid ho
        have HG := Lib.hid hg
        have HPK := Lib.hid hpk
        have HIH := Lib.hid ih
        have hd1 : decide ((i : Int) < 0) = false := decide_eq_false (by omega)
        have hTw := hT.below hW
        have hoo := Lib.hid (HOPS.out o (List.mem_of_getElem? ho))
        have hprl := HPL.out o (List.mem_of_getElem? ho)
        obtain ⟨ad, o', A0, c0, A2, c2, A4, c4, rfl, ho', hc0, hc1, hc2, hc3, hm⟩ := hT.ops.at_ hil
        have hoe : o' = o := by have h := ho'.out; rw [ho] at h; injection h with h; exact h.symm
        subst hoe
        obtain ⟨A, c, rfl, _, hI⟩ := hP.form
        have hvo := fun kk hh => hP.lt kk hh
        have hlp := hm.lpre.le
        have hpl' : plan.length ≤ 9223372036854775807 := by omega
        clear hs he ho ho' hg hpk ih hin hc1 hc2 hc3
        go_enter Try.func74, Try.ntmps74
        go_wp2_with fail
        refine (supporterof_any _ t Ai Ag (some ad) ci cg co (hTw.below (by repeat (first | with_reducible exact Below.refl _ _ | with_reducible apply bdrew | with_reducible apply bdrewN | with_reducible apply balloc | ((with_reducible refine bset ?_ ?_ _); rotate_left; (first | omega | (simp <;> omega)))))) gl V (hA.below (hW.trans ((by repeat (first | with_reducible exact Below.refl _ _ | with_reducible apply bdrew | with_reducible apply bdrewN | with_reducible apply balloc | ((with_reducible refine bset ?_ ?_ _); rotate_left; (first | omega | (simp <;> omega)))) : Below w.heap.size w _).mono hW.size))) n HNA.out HV.out hVl HVR.out p hp).mono ?_
        rintro e w1 ⟨rfl, hB1⟩
        have D1 := dstep w hB1 (by repeat (first | with_reducible exact Below.refl _ _ | with_reducible apply bdrew | with_reducible apply bdrewN | with_reducible apply balloc | ((with_reducible refine bset ?_ ?_ _); rotate_left; (first | omega | (simp <;> omega)))))
        have d1s := D1.size
        have C1 := Cls.below (l := [(w.heap.size, 0, .int .i64 t.facts), (w.heap.size, 1, .slice Ai t.init.length ci), (w.heap.size, 2, .slice Ag t.goal.length cg), (w.heap.size, 3, .slice (some ad) t.ops.length co)]) hB1 (by simp [Cls, go_sem])
        have F1 := C1
        simp only [Cls, and_true] at F1
        have y1w0 : w.heap.size < w1.heap.size := C1.blk (b := w.heap.size) (k := 0) (v := .int .i64 t.facts) (by simp)
        have y1wp1 : w.heap.size < w1.heap.size + 1 := (by omega)
        have y1wp2 : w.heap.size < w1.heap.size + 1 + 1 := (by omega)
        rw [HE.out]
        go_wp2_with fail
        refine (has_no _ _ _ _ _ (hI.below (by repeat (first | with_reducible exact D1 | with_reducible apply bdrew | with_reducible apply bdrewN | with_reducible apply balloc | ((with_reducible refine bset ?_ ?_ _); rotate_left; (first | omega | (simp <;> omega)))))) hpl' HNI.out).mono ?_
        rintro e w' ⟨rfl, rfl⟩
        go_wp2_with fail
        go_loopw [2, 10] (fun sv x wr => ∃ (j : Nat) (vj : Value), j ≤ o'.pre.length ∧ x = .int .i64 j ∧ vj = sv ∧ OwnI B wr vj ((o'.pre.take j).foldl (rpV V t.ops k) plan) ∧ Hid (PlanIn t.ops ((o'.pre.take j).foldl (rpV V t.ops k) plan)) ∧ w.grownBy wr (Value.slice A plan.length c).ownBlock ∧ Hid (vj.ownBlock = (Value.slice A plan.length c).ownBlock ∨ ∀ g, vj.ownBlock = some g → w.heap.size + 1 ≤ g) ∧ Below wb.heap.size wb wr ∧ w.heap.size < wr.heap.size ∧ Cls wr [(w.heap.size, 0, .int .i64 t.facts), (w.heap.size, 1, .slice Ai t.init.length ci), (w.heap.size, 2, .slice Ag t.goal.length cg), (w.heap.size, 3, .slice (some ad) t.ops.length co)]) (fun _ x _ => o'.pre.length - (intOf x).toNat)
        case atStart => exact ⟨0, _, Nat.zero_le _, rfl, rfl, hP.below (by repeat (first | with_reducible exact D1 | with_reducible apply bdrew | with_reducible apply bdrewN | with_reducible apply balloc | ((with_reducible refine bset ?_ ?_ _); rotate_left; (first | omega | (simp <;> omega))))), HPK, grown_of (by repeat (first | with_reducible exact D1 | with_reducible apply bdrew | with_reducible apply bdrewN | with_reducible apply balloc | ((with_reducible refine bset ?_ ?_ _); rotate_left; (first | omega | (simp <;> omega))))) _, Lib.hid (.inl rfl), hW.trans ((by repeat (first | with_reducible exact D1 | with_reducible apply bdrew | with_reducible apply bdrewN | with_reducible apply balloc | ((with_reducible refine bset ?_ ?_ _); rotate_left; (first | omega | (simp <;> omega)))) : Below w.heap.size w _).mono hW.size), (by omega), (by simp [Cls, go_sem, F1, y1w0, y1wp1, y1wp2])⟩
        case round =>
          obtain ⟨j, vj, hj, rfl, rfl, hown, hpkj, hGr, hsr, hBr, hsz, hCr⟩ := hrel
          obtain ⟨w2, rfl⟩ : ∃ wo : World, wo = wr := ⟨_, rfl⟩
          obtain ⟨pj, hpj⟩ : ∃ l, Hid (((o'.pre.take j).foldl (rpV V t.ops k) plan) = l) := ⟨_, Lib.hid rfl⟩
          rw [hpj.out] at hown hpkj
          have Fr := hCr
          simp only [Cls, and_true] at Fr
          have hx0 := (hBr.cell (World.block_lt_of_cell? wb _ hc0)).trans hc0
          have hxb : (ad.add (i * 4)).block < w2.heap.size := World.block_lt_of_cell? w2 _ hx0
          by_cases hlj : j < o'.pre.length
          · obtain ⟨qd, q, rfl, hq, hqc0⟩ := hm.pre.at_ hlj
            have hqc := (hBr.cell (World.block_lt_of_cell? wb _ hqc0)).trans hqc0
            have hqm := List.mem_of_getElem? hq.out
            obtain ⟨q0, q1⟩ := hoo.out.1 q hqm
            obtain ⟨q, rfl⟩ := Int.eq_ofNat_of_zero_le q0
            have hqn : q < n := by omega
            have hqk : valAt V (q : Int) < (k : Int) := by have := (HG.out.2.2 (q : Int) hqm).2; omega
            have HQK := Lib.hid hqk
            have HFS := Lib.hid (fold_succ (V := V) (ops := t.ops) (k := k) (pl := plan) hq.out)
            rw [hpj.out] at HFS
            have HOK2 := Lib.hid (planin_do hqk hpkj.out)
            have HBR := Lib.hid hBr
            have HGR := Lib.hid hGr
            have HOW := Lib.hid hown
            have HCR := Lib.hid hCr
            have HNR := Lib.hid (show ∀ x ∈ ([(w.heap.size, 0, .int .i64 t.facts), (w.heap.size, 1, .slice Ai t.init.length ci), (w.heap.size, 2, .slice Ag t.goal.length cg), (w.heap.size, 3, .slice (some ad) t.ops.length co)] : List (Nat × Nat × Value)), some x.1 ≠ vj.ownBlock from fun x hx e => by
              have hxe : x.1 = w.heap.size := by
                simp only [List.mem_cons, List.not_mem_nil, or_false] at hx
                rcases hx with rfl | rfl | rfl | rfl <;> rfl
              rcases hsr.out with h | h
              · have := (hvo x.1 (h ▸ e.symm)).2; omega
              · have := h x.1 e.symm; omega)
            have hBw2 : B ≤ w2.heap.size := by omega
            have HNB := Lib.hid (fun kk (hk : vj.ownBlock = some kk) => show wb.heap.size ≤ kk from Nat.le_trans hB (hown.lt kk hk).1)
            clear hqk hGr hCr hown
            go_wp2_with fail
            go_region_held3 (fun W => W.cell? ⟨w.heap.size, 0, none⟩ = some (.int .i64 t.facts) ∧ W.cell? ⟨w.heap.size, 1, none⟩ = some (.slice Ai t.init.length ci) ∧ W.cell? ⟨w.heap.size, 2, none⟩ = some (.slice Ag t.goal.length cg) ∧ W.cell? ⟨w.heap.size, 3, none⟩ = some (.slice (some ad) t.ops.length co) ∧ W.cell? (ad.add (i * 4)) = some (.slice (some qd) o'.pre.length c0) ∧ W.cell? (qd.add j) = some (.int .i64 (q : Int))) (first | exact hK | go_keep) (first | (go_at_call 74; refine (HIH.out q _ vj pj hqn HQK.out (hBr.trans ((by repeat (first | with_reducible exact Below.refl _ _ | with_reducible apply bdrew | with_reducible apply bdrewN | with_reducible apply balloc | ((with_reducible refine bset ?_ ?_ _); rotate_left; (first | omega | (simp <;> omega)))) : Below w2.heap.size w2 _).mono hBr.size)) (HOW.out.below (by repeat (first | with_reducible exact Below.refl _ _ | with_reducible apply bdrew | with_reducible apply bdrewN | with_reducible apply balloc | ((with_reducible refine bset ?_ ?_ _); rotate_left; (first | omega | (simp <;> omega)))))) (by simp <;> omega) hpkj.out).mono ?_; rintro e w3 ⟨v3, rfl, ho3, hG3, hs3⟩; have G23 := grown_trans (grown_of (by repeat (first | with_reducible exact Below.refl _ _ | with_reducible apply bdrew | with_reducible apply bdrewN | with_reducible apply balloc | ((with_reducible refine bset ?_ ?_ _); rotate_left; (first | omega | (simp <;> omega)))) : Below w2.heap.size w2 _) vj.ownBlock) hG3 (.inl rfl); have hB3 := hBr.grown G23 hBr.size HNB.out; have C3 := cls_kept HCR.out G23 HNR.out; have F3 := C3; simp only [Cls, and_true] at F3; have hy0 := (hB3.cell (World.block_lt_of_cell? wb _ hc0)).trans hc0; have hyq := (hB3.cell (World.block_lt_of_cell? wb _ hqc0)).trans hqc0; have hK : w3.cell? ⟨w.heap.size, 0, none⟩ = some (.int .i64 t.facts) ∧ w3.cell? ⟨w.heap.size, 1, none⟩ = some (.slice Ai t.init.length ci) ∧ w3.cell? ⟨w.heap.size, 2, none⟩ = some (.slice Ag t.goal.length cg) ∧ w3.cell? ⟨w.heap.size, 3, none⟩ = some (.slice (some ad) t.ops.length co) ∧ w3.cell? (ad.add (i * 4)) = some (.slice (some qd) o'.pre.length c0) ∧ w3.cell? (qd.add j) = some (.int .i64 (q : Int)) := (by simp [F3, hy0, hyq])))
            have G3 := grown_trans HGR.out G23 (by
              rcases hsr.out with h | h
              · exact .inl h
              · exact .inr (fun g hg => by have := h g hg; omega))
            have hs33 : v3.ownBlock = (Value.slice A plan.length c).ownBlock ∨ ∀ g, v3.ownBlock = some g → w.heap.size + 1 ≤ g := by
              rcases hs3 with h | h
              · rw [h]; exact hsr.out
              · refine .inr (fun g hg => ?_)
                have := h g hg
                simp at this
                omega
            have hsz3 := G23.size
            go_wp2
            go_roundw
            case rel => exact ⟨j + 1, v3, by omega, by go_num, rfl, by rw [HFS.out]; exact ho3, by rw [HFS.out]; exact HOK2, G3, Lib.hid hs33, hB3, by omega, C3⟩
            case measure => simp [intOf]; omega
          · have hje := Lib.hid (show ((o'.pre.take j).foldl (rpV V t.ops k) plan) = o'.pre.foldl (rpV V t.ops k) plan by rw [List.take_of_length_le (by omega)])
            rw [hpj.out] at hje
            have hpj40 := nodup_len hpkj.out.1 hpkj.out.2
            have hlen : pj.length < 1000000000000 := by omega
            have hBs := hBr.size
            have hBB : B ≤ w2.heap.size := Nat.le_trans hBw (by omega)
            go_wp2_with (at_builtin; go_must (refine wpList_push_at rfl (.tmp 47) (.tmp 49) rfl wb [] B vj pj (i : Int) rfl (OwnI.below hown ?p1) ⟨w2.heap.size, 0, none⟩ 1 rfl ?p2 hlen ?p3 hB ?p5 ?p6 ?p7 ?_; (case p1 => repeat (first | with_reducible exact Below.refl _ _ | with_reducible apply bdrew | with_reducible apply bdrewN | with_reducible apply balloc | ((with_reducible refine bset ?_ ?_ _); rotate_left; (first | omega | (simp <;> omega))))); (case p2 => simp [go_sem]); (case p3 => (simp <;> omega)); (case p5 => exact hBr.trans ((by repeat (first | with_reducible exact Below.refl _ _ | with_reducible apply bdrew | with_reducible apply bdrewN | with_reducible apply balloc | ((with_reducible refine bset ?_ ?_ _); rotate_left; (first | omega | (simp <;> omega)))) : Below w2.heap.size w2 _).mono hBr.size)); (case p6 => trivial); (case p7 => simp); intro v4 w4 o4 D4 C4 sz4 G4 at4))
            go_ret
            refine ⟨v4, rfl, by rw [← hje.out]; exact o4, ?_, ?_⟩
            · refine grown_trans hGr (grown_trans (grown_of (by repeat (first | with_reducible exact Below.refl _ _ | with_reducible apply bdrew | with_reducible apply bdrewN | with_reducible apply balloc | ((with_reducible refine bset ?_ ?_ _); rotate_left; (first | omega | (simp <;> omega)))) : Below w2.heap.size w2 _) vj.ownBlock) G4 (.inl rfl)) ?_
              rcases hsr.out with h | h
              · exact .inl h
              · exact .inr (fun g hg => by have := h g hg; omega)
            · rcases at4 with h | h
              · rw [h]
                rcases hsr.out with h2 | h2
                · exact .inl h2
                · exact .inr (fun g hg => by have := h2 g hg; omega)
              · refine .inr (fun g hg => ?_)
                rw [h] at hg
                injection hg with hg
                simp at hg
                omega

end Go.Proofs.Ytihkgdlanfemcaa
