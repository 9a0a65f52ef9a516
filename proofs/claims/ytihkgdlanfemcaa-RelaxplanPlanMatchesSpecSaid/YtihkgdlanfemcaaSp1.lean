/-
  relaxplan.supporters, Supporters: what they return.
-/
import Derived.Test.YtihkgdlanfemcaaLv1
import Derived.Test.YtihkgdlanfemcaaNver
import Derived.Test.YtihkgdlanfemcaaSup
namespace Go.Proofs.Ytihkgdlanfemcaa
open Go.RowKit
set_option linter.unusedVariables false
set_option linter.unusedSimpArgs false

theorem levs_rng {n : Nat} {st : List Int} {ops : List OpV} {V : List Int} (h : Levs n st ops V) (q : Int) : -1 ≤ valAt V q ∧ valAt V q ≤ (n : Int) := by
  by_cases hq : q.toNat < V.length
  · have e : valAt V q = V[q.toNat] := by unfold valAt; simp [hq]
    rw [e]; exact h.rng _ (List.getElem_mem hq)
  · have e : valAt V q = 0 := by unfold valAt; rw [List.getElem?_eq_none (by omega)]; rfl
    rw [e]; omega
theorem fillM_all (n : Nat) : fillM n n = List.replicate n (-1) := by simp [fillM]
theorem fillM_zero (n : Nat) : fillM 0 n = List.replicate n 0 := by simp [fillM]
theorem levels_anyn (w : World) (t : TaskV) (Ai Ag Ao : Option Addr) (ci cg co : Nat) (hT : TaskMem w Ai Ag Ao t) (S : Option Addr) (cs : Nat) (st : List Int) (hS : Ints w S st) (hls : lenOk st.length) (n : Nat) (hn : t.facts = n) (hv : Valid t) (h2 : SetP st t.facts) :
    Calls Try.prog 69 #[.agg #[.int .i64 (n : Int), .slice Ai t.init.length ci, .slice Ag t.goal.length cg, .slice Ao t.ops.length co], .slice S st.length cs] w fun e w' => ∃ g, e = .returned (.slice (some ⟨g, 0, none⟩) n n) ∧ w.heap.size ≤ g ∧ IArr w' g (levV n st t.ops) ∧ Levs n st t.ops (levV n st t.ops) ∧ Below w.heap.size w w' := by
  have h := levels_any w t Ai Ag Ao ci cg co hT S cs st hS hls n hn hv h2
  rwa [hn] at h
set_option maxRecDepth 100000 in
set_option maxHeartbeats 2000000 in
theorem supporters_any (w : World) (t : TaskV) (Ai Ag Ao : Option Addr) (ci cg co : Nat) (hT : TaskMem w Ai Ag Ao t) (S : Option Addr) (cs : Nat) (st : List Int) (hS : Ints w S st) (hls : lenOk st.length) (n : Nat) (hn : t.facts = n) (hv : Valid t) (h2 : SetP st t.facts) :
    Calls Try.prog 68 #[.agg #[.int .i64 t.facts, .slice Ai t.init.length ci, .slice Ag t.goal.length cg, .slice Ao t.ops.length co], .slice S st.length cs] w fun e w' => ∃ g, e = .returned (.slice (some ⟨g, 0, none⟩) n n) ∧ w.heap.size ≤ g ∧ IArr w' g (supL n (levV n st t.ops) t.ops) ∧ Levs n st t.ops (levV n st t.ops) ∧ Below w.heap.size w w' := by
  have HN := Lib.hid hn
  have hn24 : n ≤ 24 := by have := hv.f1; omega
  have HOPS := Lib.hid (ops_in hv hn)
  have HSETS := Lib.hid (fun o (ho : o ∈ t.ops) => show SetP o.pre (n : Int) ∧ SetP o.add (n : Int) from by
    obtain ⟨⟨h1, h2, _, _⟩, _⟩ := hv.ops o ho
    rw [hn] at h1 h2
    exact ⟨h1, h2⟩)
  have HV := Lib.hid hv
  have H2 := Lib.hid h2
  have h40 : t.ops.length ≤ 40 := hv.nops
  have hmk := make_ints n (by omega)
  rw [hn]
  clear hv h2 hn
  go_enter Try.func68, Try.ntmps68
  go_wp2_with fail
  refine (levels_anyn _ t Ai Ag Ao ci cg co (hT.below (by repeat (first | with_reducible exact Below.refl _ _ | with_reducible apply bdrew | with_reducible apply bdrewN | with_reducible apply balloc | ((with_reducible refine bset ?_ ?_ _); rotate_left; (first | omega | (simp <;> omega)))))) _ _ _ (hS.below (by repeat (first | with_reducible exact Below.refl _ _ | with_reducible apply bdrew | with_reducible apply bdrewN | with_reducible apply balloc | ((with_reducible refine bset ?_ ?_ _); rotate_left; (first | omega | (simp <;> omega)))))) hls n HN.out HV.out H2.out).mono ?_
  rintro e w1 ⟨g1, rfl, hg1, hA1, hV1, hB1⟩
  have D1 := dstep w hB1 (by repeat (first | with_reducible exact Below.refl _ _ | with_reducible apply bdrew | with_reducible apply bdrewN | with_reducible apply balloc | ((with_reducible refine bset ?_ ?_ _); rotate_left; (first | omega | (simp <;> omega)))))
  have d1s := D1.size
  have C1 := Cls.below (l := [(w.heap.size, 0, .int .i64 (n : Int)), (w.heap.size, 1, .slice Ai t.init.length ci), (w.heap.size, 2, .slice Ag t.goal.length cg), (w.heap.size, 3, .slice Ao t.ops.length co)]) hB1 (by simp [Cls, go_sem])
  have F1 := C1
  simp only [Cls, and_true] at F1
  have y1w0 : w.heap.size < w1.heap.size := C1.blk (b := w.heap.size) (k := 0) (v := .int .i64 (n : Int)) (by simp)
  have y1wp1 : w.heap.size < w1.heap.size + 1 := (by omega)
  have y1wp2 : w.heap.size < w1.heap.size + 1 + 1 := (by omega)
  have HLV := Lib.hid hV1
  have hg1' : w.heap.size ≤ g1 := by simp at hg1; omega
  have hgl := Arr.lt hA1
  have hT1 := hT.below D1
  clear hV1 hg1
  obtain ⟨V, hVe⟩ : ∃ V, Hid ((levV n st t.ops) = V) := ⟨_, Lib.hid rfl⟩
  rw [hVe.out] at hA1 HLV
  go_wp2_with fail
  go_loopw [28] (fun i wr => ∃ k : Nat, k ≤ n ∧ i = .int .i64 k ∧ IArr wr w1.heap.size (fillM k n) ∧ IArr wr (w1.heap.size + 1) (List.replicate n 0) ∧ Below w1.heap.size w1 wr ∧ Cls wr [(w.heap.size, 0, .int .i64 (n : Int)), (w.heap.size, 1, .slice Ai t.init.length ci), (w.heap.size, 2, .slice Ag t.goal.length cg), (w.heap.size, 3, .slice Ao t.ops.length co)]) (fun i _ => n - (intOf i).toNat)
  case atStart =>
    refine ⟨0, Nat.zero_le _, rfl, ?_, ?_, (by repeat (first | with_reducible exact Below.refl _ _ | with_reducible apply bdrew | with_reducible apply bdrewN | with_reducible apply balloc | ((with_reducible refine bset ?_ ?_ _); rotate_left; (first | omega | (simp <;> omega))))), (by simp [Cls, go_sem, F1, y1w0, y1wp1, y1wp2])⟩
    · rw [fillM_zero]
      have h := IArr.made w1 n w1.heap.size rfl
      have h2 := IArr.below h (balloc (Below.refl _ _) : Below _ _ ((w1.alloc (.cells (Array.replicate n (.int .i64 0)) 3)).alloc (.cells (Array.replicate n (.int .i64 0)) 3)))
      simpa using h2
    · have h := IArr.made (w1.alloc (.cells (Array.replicate n (.int .i64 0)) 3)) n (w1.heap.size + 1) (by simp)
      simpa using h
  case round =>
    obtain ⟨k, hk, rfl, hO, hL, hBr, hCr⟩ := hrel
    obtain ⟨w2, rfl⟩ : ∃ wo : World, wo = wr := ⟨_, rfl⟩
    have drs := hBr.size
    have Fr := hCr
    simp only [Cls, and_true] at Fr
    have yrw0 : w.heap.size < w2.heap.size := hCr.blk (b := w.heap.size) (k := 0) (v := .int .i64 (n : Int)) (by simp)
    have yrwp1 : w.heap.size < w2.heap.size + 1 := (by omega)
    have yrwp2 : w.heap.size < w2.heap.size + 1 + 1 := (by omega)
    by_cases hlt : k < n
    · obtain ⟨x, hx, hc, hf⟩ := hO.cell (i := k) (by rw [fillM_len hk]; exact hlt)
      go_wp2
      go_roundw
      case rel => exact ⟨k + 1, by omega, by go_num, by rw [← fillM_succ hlt]; exact hO.set_ _ _, IArr.far hL (by simp) _, (by repeat (first | with_reducible exact hBr | with_reducible apply bdrew | with_reducible apply bdrewN | with_reducible apply balloc | ((with_reducible refine bset ?_ ?_ _); rotate_left; (first | omega | (simp <;> omega))))), (by simp [Cls, go_sem, Fr, yrw0, yrwp1, yrwp2])⟩
      case measure => simp [intOf]; omega
    · have hke : k = n := by omega
      rw [hke, fillM_all] at hO
      have HS0 := Lib.hid (SupSt.start (V := V) (ops := t.ops) (n := n) rfl rfl)
      clear hke
      go_wp2_with fail
      clear hk hlt
      go_loopw [38] (fun i wr => ∃ (k : Nat) (O L : List Int), k ≤ t.ops.length ∧ i = .int .i64 k ∧ IArr wr w1.heap.size O ∧ IArr wr (w1.heap.size + 1) L ∧ Hid (SupSt n V t.ops k 0 O L) ∧ Below w1.heap.size w1 wr ∧ Cls wr [(w.heap.size, 0, .int .i64 (n : Int)), (w.heap.size, 1, .slice Ai t.init.length ci), (w.heap.size, 2, .slice Ag t.goal.length cg), (w.heap.size, 3, .slice Ao t.ops.length co)]) (fun i _ => t.ops.length - (intOf i).toNat)
      case atStart => exact ⟨0, _, _, Nat.zero_le _, rfl, hO, hL, HS0, (by repeat (first | with_reducible exact hBr | with_reducible apply bdrew | with_reducible apply bdrewN | with_reducible apply balloc | ((with_reducible refine bset ?_ ?_ _); rotate_left; (first | omega | (simp <;> omega))))), (by simp [Cls, go_sem, Fr, yrw0, yrwp1, yrwp2])⟩
      case round =>
        clear hO hL HS0
        obtain ⟨k, O, L, hk, rfl, hO, hL, hSt, hBq, hCq⟩ := hrel
        obtain ⟨w3, rfl⟩ : ∃ wo : World, wo = wr := ⟨_, rfl⟩
        have dqs := hBq.size
        have Fq := hCq
        simp only [Cls, and_true] at Fq
        have yqw0 : w.heap.size < w3.heap.size := hCq.blk (b := w.heap.size) (k := 0) (v := .int .i64 (n : Int)) (by simp)
        have yqwp1 : w.heap.size < w3.heap.size + 1 := (by omega)
        have yqwp2 : w.heap.size < w3.heap.size + 1 + 1 := (by omega)
        by_cases hlp : k < t.ops.length
        · obtain ⟨ad, o, A0, c0, A2, c2, A4, c4, rfl, ho, hc0, hc1, hc2, hc3, hm⟩ := hT1.ops.at2 hBq hlp
          have hoo := Lib.hid (HOPS.out o (List.mem_of_getElem? ho.out))
          have hss := Lib.hid (HSETS.out o (List.mem_of_getElem? ho.out))
          have hlp' := hm.lpre.le
          have hla := hm.ladd.le
          have hpl : o.pre.length ≤ 24 := by have := hss.out.1.length (by omega); omega
          have hVl := HLV.out.len
          have HRG := Lib.hid (fun q => levs_rng HLV.out q)
          have hA3 : IArr (w3.alloc (.cells #[.slice A0 o.pre.length c0, .slice A2 o.add.length c2, .slice A4 o.del.length c4, .int .i64 o.cost] 61)) g1 V := hA1.below (by repeat (first | with_reducible exact hBq | with_reducible apply bdrew | with_reducible apply bdrewN | with_reducible apply balloc | ((with_reducible refine bset ?_ ?_ _); rotate_left; (first | omega | (simp <;> omega)))))
          go_wp2_with fail
          go_loop [11, 12, 46] (fun s tp i => ∃ j : Nat, j ≤ o.pre.length ∧ i = .int .i64 j ∧ s = .int .i64 (sumL V (o.pre.take j)) ∧ tp = .int .i64 (topL n V (o.pre.take j))) (fun _ _ i => o.pre.length - (intOf i).toNat)
          case atStart => exact ⟨0, Nat.zero_le _, rfl, rfl, rfl⟩
          case round =>
            obtain ⟨j, hj, rfl, rfl, rfl⟩ := hrel
            by_cases hlj : j < o.pre.length
            · obtain ⟨pd, x, rfl, hx, hpc⟩ := (hm.pre.below (w' := (w3.alloc (.cells #[.slice A0 o.pre.length c0, .slice A2 o.add.length c2, .slice A4 o.del.length c4, .int .i64 o.cost] 61))) (by repeat (first | with_reducible exact hBq | with_reducible apply bdrew | with_reducible apply bdrewN | with_reducible apply balloc | ((with_reducible refine bset ?_ ?_ _); rotate_left; (first | omega | (simp <;> omega)))))).at_ hlj
              obtain ⟨x0, x1⟩ := hoo.out.1 x (List.mem_of_getElem? hx.out)
              obtain ⟨x, rfl⟩ := Int.eq_ofNat_of_zero_le x0
              obtain ⟨y, hy, hyc, hyf⟩ := hA3.cell (i := x) (by rw [hVl]; omega)
              have hva := Lib.hid (show valAt V (x : Int) = y from valAt_of (by simpa using hy.out))
              have HSU := Lib.hid (sumL_succ (V := V) hx.out)
              have HTO := Lib.hid (topL_succ (n := n) (V := V) hx.out)
              have hsr := sumL_rng HRG.out (o.pre.take j)
              have htr := topL_rng HRG.out (o.pre.take j)
              have hyr := HRG.out (x : Int)
              rw [hva.out] at HSU HTO hyr
              have hjl : ((o.pre.take j).length : Int) ≤ 24 := by rw [List.length_take]; omega
              have hjm : ((o.pre.take j).length : Int) * (n : Int) ≤ 24 * 24 := Int.mul_le_mul hjl (by omega) (by omega) (by omega)
              obtain ⟨sj, hsj⟩ : ∃ a, Hid (sumL V (o.pre.take j) = a) := ⟨_, Lib.hid rfl⟩
              obtain ⟨tj, htj⟩ : ∃ a, Hid (topL n V (o.pre.take j) = a) := ⟨_, Lib.hid rfl⟩
              rw [hsj.out] at HSU hsr ⊢
              rw [htj.out] at HTO htr ⊢
              have hsb : -1000 ≤ sj ∧ sj ≤ 1000 := by omega
              obtain ⟨mx, hmx⟩ : ∃ a, max tj y = a := ⟨_, rfl⟩
              have hmx2 : (if tj ≤ y then y else tj) = mx := by rw [← hmx]; split <;> omega
              have hmx3 : (if y ≤ tj then tj else y) = mx := by rw [← hmx]; split <;> omega
              by_cases hy0 : y < 0
              · rw [if_pos hy0] at HTO
                go_wp2
                go_round
                case rel => exact ⟨j + 1, by omega, by go_num, by rw [HSU.out], by rw [HTO.out]⟩
                case measure => simp [intOf]; omega
              · rw [if_neg hy0, hmx] at HTO
                go_wp2
                go_round
                case rel => exact ⟨j + 1, by omega, by go_num, by rw [HSU.out], by rw [HTO.out]⟩
                case measure => simp [intOf]; omega
            · have hall := Lib.hid (show o.pre.take j = o.pre from List.take_of_length_le (by omega))
              rw [hall.out]
              have hsr := sumL_rng HRG.out o.pre
              have htr := topL_rng HRG.out o.pre
              have hjm : (o.pre.length : Int) * (n : Int) ≤ 24 * 24 := Int.mul_le_mul (by omega) (by omega) (by omega) (by omega)
              obtain ⟨sm, hsm⟩ : ∃ a, Hid (sumL V o.pre = a) := ⟨_, Lib.hid rfl⟩
              obtain ⟨tp, htp⟩ : ∃ a, Hid (topL n V o.pre = a) := ⟨_, Lib.hid rfl⟩
              rw [hsm.out] at hsr ⊢
              rw [htp.out] at htr ⊢
              go_wp2_with fail
              go_loopw [73] (fun i wr => ∃ (j : Nat) (O L : List Int), j ≤ o.add.length ∧ i = .int .i64 j ∧ IArr wr w1.heap.size O ∧ IArr wr (w1.heap.size + 1) L ∧ Hid (SupSt n V t.ops k j O L) ∧ Below w1.heap.size w1 wr ∧ Cls wr [(w.heap.size, 0, .int .i64 (n : Int)), (w.heap.size, 1, .slice Ai t.init.length ci), (w.heap.size, 2, .slice Ag t.goal.length cg), (w.heap.size, 3, .slice (some ad) t.ops.length co)]) (fun i _ => o.add.length - (intOf i).toNat)
              case atStart => exact ⟨0, O, L, Nat.zero_le _, rfl, hO.below (by repeat (first | with_reducible exact Below.refl _ _ | with_reducible apply bdrew | with_reducible apply bdrewN | with_reducible apply balloc | ((with_reducible refine bset ?_ ?_ _); rotate_left; (first | omega | (simp <;> omega))))), hL.below (by repeat (first | with_reducible exact Below.refl _ _ | with_reducible apply bdrew | with_reducible apply bdrewN | with_reducible apply balloc | ((with_reducible refine bset ?_ ?_ _); rotate_left; (first | omega | (simp <;> omega))))), hSt, (by repeat (first | with_reducible exact hBq | with_reducible apply bdrew | with_reducible apply bdrewN | with_reducible apply balloc | ((with_reducible refine bset ?_ ?_ _); rotate_left; (first | omega | (simp <;> omega))))), (Cls.below (w := w3) (by repeat (first | with_reducible exact Below.refl _ _ | with_reducible apply bdrew | with_reducible apply bdrewN | with_reducible apply balloc | ((with_reducible refine bset ?_ ?_ _); rotate_left; (first | omega | (simp <;> omega))))) hCq)⟩
              case round =>
                clear hO hL hSt hlj hj
                obtain ⟨j, O, L, hj, rfl, hO, hL, hSt, hBu, hCu⟩ := hrel
                obtain ⟨w4, rfl⟩ : ∃ wo : World, wo = wr := ⟨_, rfl⟩
                have dus := hBu.size
                have Fu := hCu
                simp only [Cls, and_true] at Fu
                have yuw0 : w.heap.size < w4.heap.size := hCu.blk (b := w.heap.size) (k := 0) (v := .int .i64 (n : Int)) (by simp)
                have yuwp1 : w.heap.size < w4.heap.size + 1 := (by omega)
                have yuwp2 : w.heap.size < w4.heap.size + 1 + 1 := (by omega)
                by_cases hlj : j < o.add.length
                · obtain ⟨pd, x, rfl, hx, hpc⟩ := (hm.add.below hBu).at_ hlj
                  obtain ⟨x0, x1⟩ := hoo.out.2 x (List.mem_of_getElem? hx.out)
                  obtain ⟨x, rfl⟩ := Int.eq_ofNat_of_zero_le x0
                  have hlO := hSt.out.lenO
                  have hlL := hSt.out.lenS
                  have hA4 := hA1.below hBu
                  obtain ⟨y, hy, hyc, hyf⟩ := hA4.cell (i := x) (by rw [hVl]; omega)
                  have hva := Lib.hid (show valAt V (x : Int) = y from valAt_of (by simpa using hy.out))
                  obtain ⟨a, ha, hac, haf⟩ := hO.cell (i := x) (by rw [hlO]; omega)
                  have haa := Lib.hid (show valAt O (x : Int) = a from valAt_of (by simpa using ha.out))
                  obtain ⟨l, hl, hlc, hlf⟩ := hL.cell (i := x) (by rw [hlL]; omega)
                  have hll := Lib.hid (show valAt L (x : Int) = l from valAt_of (by simpa using hl.out))
                  have hyr := HRG.out (x : Int)
                  rw [hva.out] at hyr
                  have HG : Hid (goodO V o (x : Int) ↔ tp < y ∧ 0 < y) := Lib.hid (by
                    unfold goodO
                    rw [hva.out]
                    constructor
                    · rintro ⟨_, h2, h3⟩
                      exact ⟨by rw [← htp.out]; exact (topL_lt hyr.2 h2).2 h3, h2⟩
                    · rintro ⟨h1, h2⟩
                      exact ⟨List.mem_of_getElem? hx.out, h2, (topL_lt hyr.2 h2).1 (by rw [htp.out]; exact h1)⟩)
                  have HSM := fun hno : ¬ (goodO V o (x : Int) ∧ (a < 0 ∨ sm < l)) => Lib.hid (hSt.out.miss ho.out hss.out.2 hx.out (by omega) (by rw [haa.out, hll.out, hsm.out]; exact hno))
                  have HSH := fun hyes : goodO V o (x : Int) ∧ (a < 0 ∨ sm < l) => Lib.hid (show SupSt n V t.ops k (j + 1) (O.set x (k : Int)) (L.set x sm) from by have h := hSt.out.hit ho.out hss.out.2 hx.out (by omega) (by rw [haa.out, hll.out, hsm.out]; exact hyes); rwa [hsm.out] at h)
                  have HM := Lib.hid HSM
                  have HH := Lib.hid HSH
                  clear HSM HSH hlO hlL
                  by_cases c1 : tp < y
                  · have d1 : decide (y > tp) = true := decide_eq_true c1
                    by_cases c2 : 0 < y
                    · have d2 : decide (y > 0) = true := decide_eq_true c2
                      have HGO := Lib.hid (HG.out.2 ⟨c1, c2⟩)
                      by_cases c3 : a < 0
                      · have d3 : decide (a < 0) = true := decide_eq_true c3
                        have HN2 := HH.out ⟨HGO.out, .inl c3⟩
                        go_wp2
                        go_roundw
                        case rel => exact ⟨j + 1, _, _, by omega, by go_num, (hO.set_ x (k : Int)).far (by simp) _, (hL.far (by simp) _).set_ x sm, HN2, (by repeat (first | with_reducible exact hBu | with_reducible apply bdrew | with_reducible apply bdrewN | with_reducible apply balloc | ((with_reducible refine bset ?_ ?_ _); rotate_left; (first | omega | (simp <;> omega))))), (by simp [Cls, go_sem, Fu, yuw0, yuwp1, yuwp2])⟩
                        case measure => simp [intOf]; omega
                      · have d3 : decide (a < 0) = false := decide_eq_false c3
                        by_cases c4 : sm < l
                        · have d4 : decide (sm < l) = true := decide_eq_true c4
                          have HN2 := HH.out ⟨HGO.out, .inr c4⟩
                          go_wp2
                          go_roundw
                          case rel => exact ⟨j + 1, _, _, by omega, by go_num, (hO.set_ x (k : Int)).far (by simp) _, (hL.far (by simp) _).set_ x sm, HN2, (by repeat (first | with_reducible exact hBu | with_reducible apply bdrew | with_reducible apply bdrewN | with_reducible apply balloc | ((with_reducible refine bset ?_ ?_ _); rotate_left; (first | omega | (simp <;> omega))))), (by simp [Cls, go_sem, Fu, yuw0, yuwp1, yuwp2])⟩
                          case measure => simp [intOf]; omega
                        · have d4 : decide (sm < l) = false := decide_eq_false c4
                          have HN2 := HM.out (fun h => h.2.elim c3 c4)
                          go_wp2
                          go_roundw
                          case rel => exact ⟨j + 1, O, L, by omega, by go_num, hO, hL, HN2, (by repeat (first | with_reducible exact hBu | with_reducible apply bdrew | with_reducible apply bdrewN | with_reducible apply balloc | ((with_reducible refine bset ?_ ?_ _); rotate_left; (first | omega | (simp <;> omega))))), (by simp [Cls, go_sem, Fu, yuw0, yuwp1, yuwp2])⟩
                          case measure => simp [intOf]; omega
                    · have d2 : decide (y > 0) = false := decide_eq_false c2
                      have HN2 := HM.out (fun h => c2 (HG.out.1 h.1).2)
                      go_wp2
                      go_roundw
                      case rel => exact ⟨j + 1, O, L, by omega, by go_num, hO, hL, HN2, (by repeat (first | with_reducible exact hBu | with_reducible apply bdrew | with_reducible apply bdrewN | with_reducible apply balloc | ((with_reducible refine bset ?_ ?_ _); rotate_left; (first | omega | (simp <;> omega))))), (by simp [Cls, go_sem, Fu, yuw0, yuwp1, yuwp2])⟩
                      case measure => simp [intOf]; omega
                  · have d1 : decide (y > tp) = false := decide_eq_false c1
                    have HN2 := HM.out (fun h => c1 (HG.out.1 h.1).1)
                    go_wp2
                    go_roundw
                    case rel => exact ⟨j + 1, O, L, by omega, by go_num, hO, hL, HN2, (by repeat (first | with_reducible exact hBu | with_reducible apply bdrew | with_reducible apply bdrewN | with_reducible apply balloc | ((with_reducible refine bset ?_ ?_ _); rotate_left; (first | omega | (simp <;> omega))))), (by simp [Cls, go_sem, Fu, yuw0, yuwp1, yuwp2])⟩
                    case measure => simp [intOf]; omega
                · have HN2 := Lib.hid (hSt.out.row ho.out (by omega))
                  go_wp2
                  go_roundw
                  case rel => exact ⟨k + 1, O, L, by omega, by go_num, hO, hL, HN2, (by repeat (first | with_reducible exact hBu | with_reducible apply bdrew | with_reducible apply bdrewN | with_reducible apply balloc | ((with_reducible refine bset ?_ ?_ _); rotate_left; (first | omega | (simp <;> omega))))), (by simp [Cls, go_sem, Fu, yuw0, yuwp1, yuwp2])⟩
                  case measure => simp [intOf]; omega
        · have hke : k = t.ops.length := by omega
          have HE := Lib.hid (show O = supL n V t.ops from by have h := hSt.out; rw [hke] at h; exact h.end_)
          rw [HE.out] at hO
          clear hke
          go_wp2
          refine bodyPost_ret (v := .slice (some ⟨w1.heap.size, 0, none⟩) n n) ?_ rfl ⟨_, rfl, by omega, by rw [hVe.out]; exact hO, by rw [hVe.out]; exact HLV.out, D1.trans (hBq.mono D1.size)⟩
          simp [results, Try.results68, go_sem, Fq, yqw0, yqwp1, yqwp2]


end Go.Proofs.Ytihkgdlanfemcaa
