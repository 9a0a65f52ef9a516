/-
  compile.Relax: the operators that it returns, too.
-/
import Derived.Test.YtihkgdlanfemcaaZCp4
import Derived.Test.YtihkgdlanfemcaaZMA
import Derived.Test.YtihkgdlanfemcaaZSt3
namespace Go.Proofs.Ytihkgdlanfemcaa
open Go.RowKit
set_option linter.unusedVariables false
set_option linter.unusedSimpArgs false

/-- The operators, with all that is read of them. -/
theorem OwnOps.read {base n c : Nat} {w : World} {A : Option Addr} {ops : List OpV} (h : OwnOps base w (.slice A n c) ops) (hl : ∀ o ∈ ops, lenOk o.pre.length ∧ lenOk o.add.length ∧ lenOk o.del.length) (hco : ∀ o ∈ ops, In64 o.cost) : OpsRead w A ops := fun k o hk => by
  have hlt := (List.getElem?_eq_some_iff.1 hk).1
  obtain ⟨g, cs, a, rfl, _, _, ha, hcl, hc, A0, c0, A1, c1, A2, c2, e, h0, h1, h2⟩ := OwnEs.at_ h (i := k) hlt
  have : o = a := by have := ha.out; rw [hk] at this; injection this
  subst this
  subst e
  have hadd : (⟨g, 0, none⟩ : Addr).add (k * 4) = ⟨g, k * 4, none⟩ := by
    unfold Addr.add
    split
    · rename_i hj; rw [hj]
    · simp
  have hf : ∀ {A : Option Addr} {c : Nat} {xs : List Int}, PList base w (some g) [.slice A xs.length c] xs → Ints w A xs ∧ NilOk A xs c := fun h => by
    obtain ⟨A', c', e, hI, hn, h1, h2, _⟩ := h
    injection e with e
    injection e with e1 e2 e3
    subst e1; subst e3
    exact ⟨hI, hn, h1, h2⟩
  have hlo := hl o (List.mem_of_getElem? hk)
  refine ⟨⟨g, 0, none⟩, A0, c0, A1, c1, A2, c2, rfl, ?_, ?_, ?_, ?_, ⟨(hf h0).1, (hf h1).1, (hf h2).1, hlo.1, hlo.2.1, hlo.2.2⟩, (hf h0).2, (hf h1).2, (hf h2).2, hco o (List.mem_of_getElem? hk)⟩
  · rw [hadd]; exact hc 0 _ rfl
  · rw [hadd]; exact hc 1 _ rfl
  · rw [hadd]; exact hc 2 _ rfl
  · rw [hadd]; exact hc 3 _ rfl
set_option maxRecDepth 100000 in
set_option maxHeartbeats 2000000 in
theorem relax_3 (w : World) (t : TaskV) (Ai Ag Ao : Option Addr) (ci cg co : Nat) (hT : TaskMem w Ai Ag Ao t) (hv : Valid t) :
    Calls Try.prog 56 #[.agg #[.int .i64 t.facts, .slice Ai t.init.length ci, .slice Ag t.goal.length cg, .slice Ao t.ops.length co]] w fun e w' => ∃ u Ai' ci' Ag' cg' Ao' co', Hid (u = rxT t) ∧ e = .returned (.tuple #[.agg #[.int .i64 u.facts, .slice Ai' u.init.length ci', .slice Ag' u.goal.length cg', .slice Ao' u.ops.length co'], .agg #[.int .i64 0, .int .i64 0]]) ∧ TaskMem w' Ai' Ag' Ao' u ∧ OpsRead w' Ao' u.ops ∧ Below w.heap.size w w' := by
  have HT0 := Lib.hid (tfault_valid hv)
  have HV := Lib.hid hv
  have h40 := hv.nops
  have hl1 : t.init.length ≤ 1000000000000 := by have := SetP.length hv.init hv.f0; have := hv.f1; omega
  have hl2 : t.goal.length ≤ 1000000000000 := by have := SetP.length hv.goal hv.f0; have := hv.f1; omega
  have HOL := Lib.hid (valid_lens hv)
  have HCO := Lib.hid (show ∀ o ∈ (rxT t).ops, In64 o.cost from fun o ho => by
    obtain ⟨p, hp, rfl⟩ := List.mem_map.1 ho
    have h1 := (hv.ops p hp).2
    have h2 : (rxO p).cost = p.cost := rfl
    unfold In64; omega)
  clear hv
  go_enter Try.func56, Try.ntmps56
  go_wp2_with fail
  refine (validate_any _ _ _ _ _ _ _ _ (hT.below (by repeat (first | with_reducible exact Below.refl _ _ | with_reducible apply bdrew | with_reducible apply bdrewN | with_reducible apply balloc | ((with_reducible refine bset ?_ ?_ _); rotate_left; (first | omega | (simp <;> omega))))))).mono ?_
  rintro e w1 ⟨he, hB1⟩
  rw [HT0.out] at he
  subst he
  have D1 := dstep w hB1 (by repeat (first | with_reducible exact Below.refl _ _ | with_reducible apply bdrew | with_reducible apply bdrewN | with_reducible apply balloc | ((with_reducible refine bset ?_ ?_ _); rotate_left; (first | omega | (simp <;> omega)))))
  have d1s := D1.size
  have C1 := Cls.below (l := [(w.heap.size, 0, .int .i64 t.facts), (w.heap.size, 1, .slice Ai t.init.length ci), (w.heap.size, 2, .slice Ag t.goal.length cg), (w.heap.size, 3, .slice Ao t.ops.length co), (w.heap.size + 1, 0, .int .i64 0), (w.heap.size + 1, 1, .slice none 0 0), (w.heap.size + 1, 2, .slice none 0 0), (w.heap.size + 1, 3, .slice none 0 0), (w.heap.size + 1 + 1, 0, .int .i64 0), (w.heap.size + 1 + 1, 1, .int .i64 0)]) hB1 (by simp [Cls, go_sem])
  have F1 := C1
  simp only [Cls, and_true] at F1
  have y1w2 : w.heap.size + 1 + 1 < w1.heap.size := C1.blk (b := w.heap.size + 1 + 1) (k := 0) (v := .int .i64 0) (by simp)
  have y1w1 : w.heap.size + 1 < w1.heap.size := (by omega)
  have y1w0 : w.heap.size < w1.heap.size := (by omega)
  have y1wp1 : w.heap.size < w1.heap.size + 1 := (by omega)
  have y1wp2 : w.heap.size < w1.heap.size + 1 + 1 := (by omega)
  go_wp2_with fail
  refine (tclone_any _ t Ai Ag Ao ci cg co (hT.below (by repeat (first | with_reducible exact D1 | with_reducible apply bdrew | with_reducible apply bdrewN | with_reducible apply balloc | ((with_reducible refine bset ?_ ?_ _); rotate_left; (first | omega | (simp <;> omega)))))) hl1 hl2 HOL.out (by omega)).mono ?_
  rintro e w2 ⟨A1, c1, A2, c2, A3, c3, rfl, hF1, hF2, hO, hdis, hB2⟩
  have D2 := dstep w hB2 (by repeat (first | with_reducible exact D1 | with_reducible apply bdrew | with_reducible apply bdrewN | with_reducible apply balloc | ((with_reducible refine bset ?_ ?_ _); rotate_left; (first | omega | (simp <;> omega)))))
  have d2s := D2.size
  have C2 := Cls.below (l := [(w.heap.size, 0, .int .i64 t.facts), (w.heap.size, 1, .slice Ai t.init.length ci), (w.heap.size, 2, .slice Ag t.goal.length cg), (w.heap.size, 3, .slice Ao t.ops.length co), (w.heap.size + 1, 0, .int .i64 0), (w.heap.size + 1, 1, .slice none 0 0), (w.heap.size + 1, 2, .slice none 0 0), (w.heap.size + 1, 3, .slice none 0 0), (w.heap.size + 1 + 1, 0, .int .i64 0), (w.heap.size + 1 + 1, 1, .int .i64 0), (w1.heap.size, 0, .int .i64 0), (w1.heap.size, 1, .int .i64 0)]) hB2 (by simp [Cls, go_sem, F1, y1w2, y1w1, y1w0, y1wp1, y1wp2])
  have F2 := C2
  simp only [Cls, and_true] at F2
  have y2w2 : w.heap.size + 1 + 1 < w2.heap.size := C2.blk (b := w.heap.size + 1 + 1) (k := 0) (v := .int .i64 0) (by simp)
  have y2w1 : w.heap.size + 1 < w2.heap.size := (by omega)
  have y2w0 : w.heap.size < w2.heap.size := (by omega)
  have y2wp1 : w.heap.size < w2.heap.size + 1 := (by omega)
  have y2wp2 : w.heap.size < w2.heap.size + 1 + 1 := (by omega)
  have y2w10 : w1.heap.size < w2.heap.size := C2.blk (b := w1.heap.size) (k := 0) (v := .int .i64 0) (by simp)
  have y2w1p1 : w1.heap.size < w2.heap.size + 1 := (by omega)
  have y2w1p2 : w1.heap.size < w2.heap.size + 1 + 1 := (by omega)
  have hbase : w.heap.size ≤ w1.heap.size := by omega
  have hdl := fun k hk => OwnEs.lt hO k hk
  go_wp2_with fail
  go_loopw [19] (fun i wr => ∃ k : Nat, k ≤ t.ops.length ∧ i = .int .i64 k ∧ OwnOps w1.heap.size wr (.slice A3 t.ops.length c3) (mapTo rxO k t.ops) ∧ Fresh w1.heap.size wr A1 c1 t.init ∧ Fresh w1.heap.size wr A2 c2 t.goal ∧ w2.heap.size < wr.heap.size ∧ Below w.heap.size w wr ∧ Cls wr [(w.heap.size, 0, .int .i64 t.facts), (w.heap.size, 1, .slice Ai t.init.length ci), (w.heap.size, 2, .slice Ag t.goal.length cg), (w.heap.size, 3, .slice Ao t.ops.length co), (w.heap.size + 1, 0, .int .i64 0), (w.heap.size + 1, 1, .slice none 0 0), (w.heap.size + 1, 2, .slice none 0 0), (w.heap.size + 1, 3, .slice none 0 0), (w.heap.size + 1 + 1, 0, .int .i64 0), (w.heap.size + 1 + 1, 1, .int .i64 0), (w1.heap.size, 0, .int .i64 0), (w1.heap.size, 1, .int .i64 0), (w2.heap.size, 0, .int .i64 t.facts), (w2.heap.size, 1, .slice A1 t.init.length c1), (w2.heap.size, 2, .slice A2 t.goal.length c2), (w2.heap.size, 3, .slice A3 t.ops.length c3)]) (fun i _ => t.ops.length - (intOf i).toNat)
  case atStart => exact ⟨0, Nat.zero_le _, rfl, by rw [mapTo_zero]; exact (hO.mono (by (first | omega | (simp <;> omega)))).below (by repeat (first | with_reducible exact Below.refl _ _ | with_reducible apply bdrew | with_reducible apply bdrewN | with_reducible apply balloc | ((with_reducible refine bset ?_ ?_ _); rotate_left; (first | omega | (simp <;> omega))))), (hF1.mono (by (first | omega | (simp <;> omega)))).below (by repeat (first | with_reducible exact Below.refl _ _ | with_reducible apply bdrew | with_reducible apply bdrewN | with_reducible apply balloc | ((with_reducible refine bset ?_ ?_ _); rotate_left; (first | omega | (simp <;> omega))))), (hF2.mono (by (first | omega | (simp <;> omega)))).below (by repeat (first | with_reducible exact Below.refl _ _ | with_reducible apply bdrew | with_reducible apply bdrewN | with_reducible apply balloc | ((with_reducible refine bset ?_ ?_ _); rotate_left; (first | omega | (simp <;> omega))))), (by simp), (by repeat (first | with_reducible exact D2 | with_reducible apply bdrew | with_reducible apply bdrewN | with_reducible apply balloc | ((with_reducible refine bset ?_ ?_ _); rotate_left; (first | omega | (simp <;> omega))))), (by simp [Cls, go_sem, F2, y2w2, y2w1, y2w0, y2wp1, y2wp2, y2w10, y2w1p1, y2w1p2])⟩
  case round =>
    obtain ⟨k, hk, rfl, hown, hX1, hX2, hsz, hBr, hCr⟩ := hrel
    obtain ⟨w3, rfl⟩ : ∃ wo : World, wo = wr := ⟨_, rfl⟩
    have drs := hBr.size
    have Fr := hCr
    simp only [Cls, and_true] at Fr
    have yrw2 : w.heap.size + 1 + 1 < w3.heap.size := hCr.blk (b := w.heap.size + 1 + 1) (k := 0) (v := .int .i64 0) (by simp)
    have yrw1 : w.heap.size + 1 < w3.heap.size := (by omega)
    have yrw0 : w.heap.size < w3.heap.size := (by omega)
    have yrwp1 : w.heap.size < w3.heap.size + 1 := (by omega)
    have yrwp2 : w.heap.size < w3.heap.size + 1 + 1 := (by omega)
    have yrw10 : w1.heap.size < w3.heap.size := hCr.blk (b := w1.heap.size) (k := 0) (v := .int .i64 0) (by simp)
    have yrw1p1 : w1.heap.size < w3.heap.size + 1 := (by omega)
    have yrw1p2 : w1.heap.size < w3.heap.size + 1 + 1 := (by omega)
    have yrw20 : w2.heap.size < w3.heap.size := hCr.blk (b := w2.heap.size) (k := 0) (v := .int .i64 t.facts) (by simp)
    have yrw2p1 : w2.heap.size < w3.heap.size + 1 := (by omega)
    have yrw2p2 : w2.heap.size < w3.heap.size + 1 + 1 := (by omega)
    by_cases hlt : k < t.ops.length
    · have hltm : k < (mapTo rxO k t.ops).length := by rw [mapTo_len]; exact hlt
      obtain ⟨g, cs, a, rfl, hg1, hg2, ha, hcl, hcs, hpa⟩ := OwnEs.at_ hown hltm
      obtain ⟨q0, q1, q2, q3, q4, q5, rfl, p0, p1, p2⟩ := hpa
      have hc2 : w3.cell? ⟨g, k * 4 + 2, none⟩ = some (.slice q4 a.del.length q5) := hcs 2 _ rfl
      have hfr : w3.frozen? ⟨g, k * 4 + 2, none⟩ = false := OwnEs.free (A := none) hown _
      have hadd : ((⟨g, 0, none⟩ : Addr).add (k * 4)) = ⟨g, k * 4, none⟩ := add_off g _
      have hset := Lib.hid (OwnOps.set_del hown k hltm)
      have hgd := hdis g rfl
      have hgl := hdl g rfl
      have hgw2 : g < w2.heap.size := hgl.2
      have HX1 := Lib.hid (hX1.away (p := ⟨g, k * 4 + 2, none⟩) hgd.1 (.slice none 0 0))
      have HX2 := Lib.hid (hX2.away (p := ⟨g, k * 4 + 2, none⟩) hgd.2 (.slice none 0 0))
      have HMS := Lib.hid (show (mapTo rxO k t.ops).set k (rxO (mapTo rxO k t.ops)[k]) = mapTo rxO (k + 1) t.ops by
        have := mapTo_at rxO hlt
        rw [List.getElem?_eq_getElem hltm] at this
        injection this with this
        rw [this]; exact mapTo_set rxO hlt)
      clear hcs hdis hdl hcl
      go_wp2_with fail
      go_roundw
      case rel => exact ⟨k + 1, by omega, by go_num, by rw [← HMS.out]; exact hset.out, HX1.out, HX2.out, (by simpa using hsz), (by repeat (first | with_reducible exact hBr | with_reducible apply bdrew | with_reducible apply bdrewN | with_reducible apply balloc | ((with_reducible refine bset ?_ ?_ _); rotate_left; (first | omega | (simp <;> omega))))), (by simp [Cls, go_sem, Fr, yrw2, yrw1, yrw0, yrwp1, yrwp2, yrw10, yrw1p1, yrw1p2, yrw20, yrw2p1, yrw2p2])⟩
      case measure => simp [intOf]; omega
    · have hke := Lib.hid (mapTo_all rxO (xs := t.ops) (k := k) (by omega))
      rw [hke.out] at hown
      have hon : lenOk (rxT t).ops.length := by simp [rxT]; exact hT.lops
      have HTM : OwnT w1.heap.size w3 A1 A2 A3 c1 c2 c3 (rxT t) := ⟨hX1, hX2, by simpa [rxT] using hown⟩
      have hb1 : w.heap.size + 1 < w1.heap.size := by omega
      have hb2 : w.heap.size + 1 + 1 < w1.heap.size := by omega
      go_wp2_with fail
      refine bodyPost_ret (v := .tuple #[.agg #[.int .i64 t.facts, .slice A1 t.init.length c1, .slice A2 t.goal.length c2, .slice A3 t.ops.length c3], .agg #[.int .i64 0, .int .i64 0]]) ?_ rfl ⟨rxT t, A1, c1, A2, c2, A3, c3, Lib.hid rfl, (by simp [rxT]), OwnT.mem (base := w1.heap.size) ((((((HTM.far (p := ⟨w.heap.size + 1, 0, none⟩) hb1 _).far (p := ⟨w.heap.size + 1, 1, none⟩) hb1 _).far (p := ⟨w.heap.size + 1, 2, none⟩) hb1 _).far (p := ⟨w.heap.size + 1, 3, none⟩) hb1 _).far (p := ⟨w.heap.size + 1 + 1, 0, none⟩) hb2 _).far (p := ⟨w.heap.size + 1 + 1, 1, none⟩) hb2 _) (rx_lens (fun o ho => by have := HOL.out o ho; simp only [lenOk]; omega)) hT.linit hT.lgoal hon, OwnOps.read (base := w1.heap.size) (((((((HTM.far (p := ⟨w.heap.size + 1, 0, none⟩) hb1 _).far (p := ⟨w.heap.size + 1, 1, none⟩) hb1 _).far (p := ⟨w.heap.size + 1, 2, none⟩) hb1 _).far (p := ⟨w.heap.size + 1, 3, none⟩) hb1 _).far (p := ⟨w.heap.size + 1 + 1, 0, none⟩) hb2 _).far (p := ⟨w.heap.size + 1 + 1, 1, none⟩) hb2 _)).o (rx_lens (fun o ho => by have := HOL.out o ho; simp only [lenOk]; omega)) HCO.out, by repeat (first | with_reducible exact hBr | with_reducible apply bdrew | with_reducible apply bdrewN | with_reducible apply balloc | ((with_reducible refine bset ?_ ?_ _); rotate_left; (first | omega | (simp <;> omega))))⟩
      simp [results, Try.results56, go_sem, Fr, yrw2, yrw1, yrw0, yrwp1, yrwp2, yrw10, yrw1p1, yrw1p2, yrw20, yrw2p1, yrw2p2]


end Go.Proofs.Ytihkgdlanfemcaa
