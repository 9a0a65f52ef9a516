/-
  strips.Union, Contains of one element; pairs: use: what they return.
-/
import Derived.Test.YtiaokmofoaeifaaPt2
import Derived.Test.YtiaokmofoaeifaaSt2
import Derived.Test.YtiaokmofoaeifaaSt3
import Derived.Test.YtiaokmofoaeifaaOpen
namespace Go.Proofs.Ytiaokmofoaeifaa
open Go.RowKit
set_option linter.unusedVariables false
set_option linter.unusedSimpArgs false

theorem one_ints (w : World) (q : Int) (k : Nat) (hk : k = w.heap.size) : Ints (w.alloc (.cells #[.int .i64 q] 3)) (some ⟨k, 0, none⟩) [q] := by
  subst hk
  exact Arr.row (Arr.new w 3 [Value.int .i64 q])
theorem ints_one {w : World} {k : Nat} {q : Int} (h : w.cell? ⟨k, 0, none⟩ = some (.int .i64 q)) : Ints w (some ⟨k, 0, none⟩) [q] := fun j u hu => by
  cases j with
  | zero => simp at hu; subst hu; exact ⟨_, rfl, h⟩
  | succ j => simp at hu
theorem scont1 (A B : Option Addr) (c d : Nat) (s : List Int) (q : Int) (w : World) (v : Bool) (hI : Ints w A s) (hJ : Ints w B [q]) (hl : s.length ≤ 9223372036854775807) (hs : s.Pairwise (· < ·)) (hv : decide (q ∈ s) = v) :
    Calls Try.prog 89 #[.slice A s.length c, .slice B 1 d] w fun e w' => e = .returned (.bool v) ∧ w = w' :=
  scontains_v A B c d s [q] w v hI hJ hl (by simp) hs (by simp) (by rw [← hv]; simp)
set_option maxRecDepth 100000 in
set_option maxHeartbeats 400000 in
theorem union_any (w : World) (A B : Option Addr) (c d : Nat) (l k : List Int) (hA : Ints w A l) (hB : Ints w B k) (hl : l.length ≤ 100000000000) (hk : k.length ≤ 100000000000) (hnil : B = none → d = 0) :
    Calls Try.prog 103 #[.slice A l.length c, .slice B k.length d] w fun e w' => ∃ v, e = .returned v ∧ OwnI w.heap.size w' v (updV l k []) ∧ Below w.heap.size w w' := by
  go_enter Try.func103, Try.ntmps103
  go_wp2_with fail
  refine (update_any _ A B none c d 0 l k [] hA hB (Ints.nil _ _) hl hk (by simp) (by simp) hnil).mono ?_
  rintro e w9 ⟨v9, rfl, ho9, hB9⟩
  go_wp2
  go_ret
  exact ⟨_, rfl, ho9, hB9⟩

theorem updV_len_le {l k : List Int} {n : Nat} (hl : ∀ x ∈ l, 0 ≤ x ∧ x < (n : Int)) (hk : ∀ x ∈ k, 0 ≤ x ∧ x < (n : Int)) : ∀ x ∈ updV l k [], 0 ≤ x ∧ x < (n : Int) := fun x hx => by
  rcases updV_mem.1 hx with h | h
  · exact hk x h
  · exact hl x h.1
section
variable {n : Nat} {st : List Int} {ops : List OpV} {V U : Int → Int → Int} {o : OpV} {p q : Int}
theorem plus_val_mono (hU : PFix n st ops U) (h : PAb n st ops V) {l : List Int} (hl : ∀ x ∈ l, Rng n x) {c : Int} (hc : InV c) : plusV (valP U l) c ≤ plusV (valP V l) c :=
  plusV_mono (valP_in hU.all hl) hc (valP_in h.all hl) hc (valP_mono fun a ha b hb => h.great U hU a b (hl a ha) (hl b hb)) (Int.le_refl _)
theorem use_both (h : PAb n st ops V) (hops : OpsIn n ops) (ho : o ∈ ops) (hp : p ∈ o.add) (hq : q ∈ o.add) : ∀ U, PFix n st ops U → U p q ≤ plusV (valP V o.pre) o.cost := fun U hU => by
  have h1 := hops o ho
  exact Int.le_trans (hU.closed o ho p q o.pre (h1.2.1 p hp) (h1.2.1 q hq) (.both hp hq)) (plus_val_mono hU h h1.1 (costIn hops ho))
theorem upd_arc (hp : p ∈ o.add) (hq : q ∉ o.add) (hd : q ∉ o.del) : Arc o p q (updV o.pre [q] []) := .left hp hq hd fun x => by
  rw [updV_mem]; simp
theorem use_left (h : PAb n st ops V) (hops : OpsIn n ops) (ho : o ∈ ops) (hp : p ∈ o.add) (hr : Rng n q) (hq : q ∉ o.add) (hd : q ∉ o.del) : ∀ U, PFix n st ops U → U p q ≤ plusV (valP V (updV o.pre [q] [])) o.cost := fun U hU => by
  have h1 := hops o ho
  have ha := upd_arc hp hq hd
  exact Int.le_trans (hU.closed o ho p q _ (h1.2.1 p hp) hr ha) (plus_val_mono hU h (ha.rng h1.1 (h1.2.1 p hp) hr) (costIn hops ho))
/-- What is known of the operator's facts, one by one, if no value was changed. -/
def DoneQ (n : Nat) (V : Int → Int → Int) (o : OpV) (p : Int) : Prop := (∀ q ∈ o.add, V p q ≤ plusV (valP V o.pre) o.cost) ∧ ∀ q, Rng n q → q ∉ o.add → q ∉ o.del → V p q ≤ plusV (valP V (updV o.pre [q] [])) o.cost
def OpClosed (n : Nat) (V : Int → Int → Int) (o : OpV) : Prop := ∀ p q l, Rng n p → Rng n q → Arc o p q l → V p q ≤ plusV (valP V l) o.cost
theorem done_closed (h : PAb n st ops V) (hd : ∀ p ∈ o.add, DoneQ n V o p) : OpClosed n V o := fun p q l hp hq ha => by
  cases ha with
  | both h1 h2 => exact (hd p h1).1 q h2
  | left h1 h2 h3 h4 =>
    rw [valP_congr (V := V) (m := updV o.pre [q] []) (fun x => by rw [h4 x, updV_mem]; simp)]
    exact (hd p h1).2 q hq h2 h3
  | right h1 h2 h3 h4 =>
    rw [valP_congr (V := V) (m := updV o.pre [p] []) (fun x => by rw [h4 x, updV_mem]; simp), h.sym p q hp hq]
    exact (hd q h1).2 p hp h2 h3
theorem take_all_add {P : Int → Prop} {l : List Int} {k : Nat} (hk : ¬ k < l.length) (h : ∀ x ∈ l.take k, P x) : ∀ x ∈ l, P x := by rwa [List.take_of_length_le (by omega)] at h
theorem take_next {P : Int → Prop} {l : List Int} {k : Nat} {x : Int} (hx : l[k]? = some x) (h : ∀ y ∈ l.take k, P y) (h1 : P x) : ∀ y ∈ l.take (k + 1), P y := fun y hy => by
  rw [List.take_add_one, hx] at hy
  rcases List.mem_append.1 hy with e | e
  · exact h y e
  · have : y = x := by simpa using e
    rw [this]; exact h1
end
set_option maxRecDepth 100000 in
set_option maxHeartbeats 1000000 in
theorem use_any (wz w : World) (hz : Below wz.heap.size wz w) (o : OpV) (A0 A1 A2 : Option Addr) (c0 c1 c2 : Nat) (hm : OpMem wz A0 A1 A2 o) (hnp : NilOk A0 o.pre c0) (g n : Nat) (bs : List Nat) (V : Int → Int → Int) (hT : Tbl w g bs n V) (hbs : ∀ b ∈ bs, wz.heap.size ≤ b) (hn : n ≤ 1000)
    (st : List Int) (ops : List OpV) (hops : OpsIn n ops) (ho : o ∈ ops) (hs0 : SetP o.pre (n : Int)) (hs1 : SetP o.add (n : Int)) (hs2 : SetP o.del (n : Int)) (hV : PAb n st ops V) :
    Calls Try.prog 90 #[.slice (some ⟨g, 0, none⟩) n n, .agg #[.slice A0 o.pre.length c0, .slice A1 o.add.length c1, .slice A2 o.del.length c2, .int .i64 o.cost]] w fun e w' => ∃ b V', e = .returned (.bool b) ∧ Tbl w' g bs n V' ∧ Wr bs w w' ∧ Use n st ops V V' b (OpClosed n V o) := by
  have HC0 := Lib.hid (costIn hops ho)
  have HOP := Lib.hid (hops o ho)
  have hKb := hT.lt.2
  have hc02 : c0 ≤ 9223372036854775807 := hnp.2.2
  have hlpre : o.pre.length ≤ 100000000000 := by have := SetP.length hs0 (by omega); omega
  have hladd : o.add.length ≤ 9223372036854775807 := by have := SetP.length hs1 (by omega); omega
  have hldel : o.del.length ≤ 9223372036854775807 := by have := SetP.length hs2 (by omega); omega
  have HS0 := Lib.hid hs0
  have HS1 := Lib.hid hs1
  have HS2 := Lib.hid hs2
  have HSYM := Lib.hid (fun p hp q hq => hV.sym p q (HOP.out.1 p hp) (HOP.out.1 q hq) : ∀ p ∈ o.pre, ∀ q ∈ o.pre, V p q = V q p)
  have HVI := Lib.hid (valP_in hV.all HOP.out.1)
  have HU0 : Hid (Use n st ops V V false (∀ p ∈ o.add.take 0, DoneQ n V o p)) := Lib.hid ⟨hV, (fun h => by cases h), fun _ => ⟨rfl, by simp⟩⟩
  have HV := Lib.hid hV
  obtain ⟨cst, hcst⟩ : ∃ cst, Hid (plusV (valP V o.pre) o.cost = cst) := ⟨_, Lib.hid rfl⟩
  have HCI := Lib.hid (show InV cst by rw [← hcst.out]; exact plusV_in HVI.out HC0.out)
  have HB2 := Lib.hid (fun p q (hp : p ∈ o.add) (hq : q ∈ o.add) => show ∀ U, PFix n st ops U → U p q ≤ cst by rw [← hcst.out]; exact use_both hV hops ho hp hq)
  have HOPS := Lib.hid hops
  have HOO := Lib.hid ho
  clear hs0 hs1 hs2 hV hops ho
  go_enter Try.func90, Try.ntmps90
  go_wp2_with fail
  go_quiet (first | (go_at_call 65; exact Calls.quiet_of_same ((pvalue_any _ g n c0 bs V (hT.below (by repeat (first | with_reducible exact Below.refl _ _ | with_reducible apply bdrew | with_reducible apply bdrewN | with_reducible apply balloc | ((with_reducible refine bset ?_ ?_ _); rotate_left; (first | omega | (simp <;> omega)))))) A0 o.pre (hm.pre.below (by repeat (first | with_reducible exact hz | with_reducible apply bdrew | with_reducible apply bdrewN | with_reducible apply balloc | ((with_reducible refine bset ?_ ?_ _); rotate_left; (first | omega | (simp <;> omega)))))) hnp.2.1 hc02 hn HOP.out.1 HSYM.out).mono fun _ _ h => ⟨h.1, h.2.symm⟩)) | (go_at_call 88; exact Calls.quiet_of_same ((plus_any _ _ _ HVI.out HC0.out).mono fun _ _ h => ⟨h.1, h.2.symm⟩)))
  rw [hcst.out]
  go_wp2_with fail
  go_loopw [5, 23] (fun ch i wr => ∃ (k : Nat) (Vc : Int → Int → Int) (bc : Bool), k ≤ o.add.length ∧ i = .int .i64 k ∧ ch = .bool bc ∧ Tbl wr g bs n Vc ∧ Wr bs w wr ∧ Cls wr [(w.heap.size, 0, .slice A0 o.pre.length c0), (w.heap.size, 1, .slice A1 o.add.length c1), (w.heap.size, 2, .slice A2 o.del.length c2), (w.heap.size, 3, .int .i64 o.cost)] ∧ Hid (Use n st ops V Vc bc (∀ p ∈ o.add.take k, DoneQ n V o p))) (fun _ i _ => o.add.length - (intOf i).toNat)
  case atStart => exact ⟨0, V, false, Nat.zero_le _, rfl, rfl, hT.below (by repeat (first | with_reducible exact Below.refl _ _ | with_reducible apply bdrew | with_reducible apply bdrewN | with_reducible apply balloc | ((with_reducible refine bset ?_ ?_ _); rotate_left; (first | omega | (simp <;> omega))))), Wr.of (by repeat (first | with_reducible exact Below.refl _ _ | with_reducible apply bdrew | with_reducible apply bdrewN | with_reducible apply balloc | ((with_reducible refine bset ?_ ?_ _); rotate_left; (first | omega | (simp <;> omega))))), (by simp [Cls, go_sem]), HU0⟩
  case round =>
    obtain ⟨k, Vc, bc, hk, rfl, rfl, hTr, hWr, hCr, hU⟩ := hrel
    obtain ⟨w1, rfl⟩ : ∃ wo : World, wo = wr := ⟨_, rfl⟩
    have hBzr := hz.trans (hWr.below hz.size hbs)
    have dsr := hWr.size
    have Fr := hCr
    simp only [Cls, and_true] at Fr
    have yr : w.heap.size < w1.heap.size := hCr.blk (b := w.heap.size) (k := 3) (v := .int .i64 o.cost) (by simp)
    have yrp : w.heap.size < w1.heap.size + 1 := (by omega)
    have yrq : w.heap.size < w1.heap.size + 1 + 1 := (by omega)
    by_cases hlt : k < o.add.length
    · obtain ⟨ad, p, hA1, hp, hpc⟩ := (hm.add.below hBzr).at_ hlt
      have hcell := hpc
      have HP := Lib.hid (List.mem_of_getElem? hp.out)
      obtain ⟨p0, p1⟩ := HOP.out.2.1 p HP.out
      subst hA1
      have HU2 : Hid (Use n st ops V Vc bc ((∀ p ∈ o.add.take k, DoneQ n V o p) ∧ ∀ q ∈ o.add.take 0, V p q ≤ cst)) := Lib.hid (hU.out.imp fun _ h => ⟨h, by simp⟩)
      go_wp2_with fail
      go_loopw [5, 30] (fun ch i wr => ∃ (j : Nat) (Vc : Int → Int → Int) (bc : Bool), j ≤ o.add.length ∧ i = .int .i64 j ∧ ch = .bool bc ∧ Tbl wr g bs n Vc ∧ Wr bs w wr ∧ Cls wr [(w.heap.size, 0, .slice A0 o.pre.length c0), (w.heap.size, 1, .slice (some ad) o.add.length c1), (w.heap.size, 2, .slice A2 o.del.length c2), (w.heap.size, 3, .int .i64 o.cost)] ∧ Hid (Use n st ops V Vc bc ((∀ p ∈ o.add.take k, DoneQ n V o p) ∧ ∀ q ∈ o.add.take j, V p q ≤ cst))) (fun _ i _ => o.add.length - (intOf i).toNat)
      case atStart => exact ⟨0, Vc, bc, Nat.zero_le _, rfl, rfl, hTr.below (by repeat (first | with_reducible exact Below.refl _ _ | with_reducible apply bdrew | with_reducible apply bdrewN | with_reducible apply balloc | ((with_reducible refine bset ?_ ?_ _); rotate_left; (first | omega | (simp <;> omega))))), hWr.trans (Wr.of (by repeat (first | with_reducible exact Below.refl _ _ | with_reducible apply bdrew | with_reducible apply bdrewN | with_reducible apply balloc | ((with_reducible refine bset ?_ ?_ _); rotate_left; (first | omega | (simp <;> omega)))))), (Cls.below (w := w1) (by repeat (first | with_reducible exact Below.refl _ _ | with_reducible apply bdrew | with_reducible apply bdrewN | with_reducible apply balloc | ((with_reducible refine bset ?_ ?_ _); rotate_left; (first | omega | (simp <;> omega))))) hCr), HU2⟩
      case round =>
        obtain ⟨j, Vd, bd, hj, rfl, rfl, hTs, hWs, hCs, hU2⟩ := hrel
        obtain ⟨w2, rfl⟩ : ∃ wo : World, wo = wr := ⟨_, rfl⟩
        have hBzs := hz.trans (hWs.below hz.size hbs)
        have dss := hWs.size
        have Fs := hCs
        simp only [Cls, and_true] at Fs
        have ys : w.heap.size < w2.heap.size := hCs.blk (b := w.heap.size) (k := 3) (v := .int .i64 o.cost) (by simp)
        have ysp : w.heap.size < w2.heap.size + 1 := (by omega)
        have ysq : w.heap.size < w2.heap.size + 1 + 1 := (by omega)
        by_cases hjl : j < o.add.length
        · obtain ⟨ad', q, e, hq, hqc⟩ := (hm.add.below hBzs).at_ hjl
          injection e with e
          subst e
          have HQ := Lib.hid (List.mem_of_getElem? hq.out)
          obtain ⟨q0, q1⟩ := HOP.out.2.1 q HQ.out
          have HN := Lib.hid (hU2.out.set_ (p := p) (q := q) (x := cst) (P' := (∀ p ∈ o.add.take k, DoneQ n V o p) ∧ ∀ q ∈ o.add.take (j + 1), V p q ≤ cst) ⟨p0, p1⟩ ⟨q0, q1⟩ HCI.out (HB2.out p q HP.out HQ.out) (fun _ h hle => ⟨h.1, take_next hq.out h.2 hle⟩))
          cases hdd : decide (cst < Vd p q)
          all_goals
            have HD := Lib.hid hdd
            rw [hdd] at HN
            clear hdd
            go_wp2_with fail
            refine (pset_any _ g n bs Vd (hTs.below (by repeat (first | with_reducible exact Below.refl _ _ | with_reducible apply bdrew | with_reducible apply bdrewN | with_reducible apply balloc | ((with_reducible refine bset ?_ ?_ _); rotate_left; (first | omega | (simp <;> omega)))))) hn p q cst ⟨p0, p1⟩ ⟨q0, q1⟩ _ HD.out).mono ?_
            rintro e w3 ⟨rfl, hT3, hW3⟩
            have hC3 := Cls.wr hW3 hKb (l := [(w.heap.size, 0, .slice A0 o.pre.length c0), (w.heap.size, 1, .slice (some ad) o.add.length c1), (w.heap.size, 2, .slice A2 o.del.length c2), (w.heap.size, 3, .int .i64 o.cost)]) (Cls.below (w := w2) (by repeat (first | with_reducible exact Below.refl _ _ | with_reducible apply bdrew | with_reducible apply bdrewN | with_reducible apply balloc | ((with_reducible refine bset ?_ ?_ _); rotate_left; (first | omega | (simp <;> omega))))) hCs) (by simp)
            have hW3' := (hWs.trans (Wr.of (by repeat (first | with_reducible exact Below.refl _ _ | with_reducible apply bdrew | with_reducible apply bdrewN | with_reducible apply balloc | ((with_reducible refine bset ?_ ?_ _); rotate_left; (first | omega | (simp <;> omega))))))).trans hW3
            go_wp2
            go_roundw
            case rel => exact ⟨j + 1, _, _, by omega, by go_num, rfl, hT3.below (by repeat (first | with_reducible exact Below.refl _ _ | with_reducible apply bdrew | with_reducible apply bdrewN | with_reducible apply balloc | ((with_reducible refine bset ?_ ?_ _); rotate_left; (first | omega | (simp <;> omega))))), hW3'.trans (Wr.of (by repeat (first | with_reducible exact Below.refl _ _ | with_reducible apply bdrew | with_reducible apply bdrewN | with_reducible apply balloc | ((with_reducible refine bset ?_ ?_ _); rotate_left; (first | omega | (simp <;> omega)))))), (Cls.below (w := w3) (by repeat (first | with_reducible exact Below.refl _ _ | with_reducible apply bdrew | with_reducible apply bdrewN | with_reducible apply balloc | ((with_reducible refine bset ?_ ?_ _); rotate_left; (first | omega | (simp <;> omega))))) hC3), HN⟩
            case measure => simp [intOf]; omega
        · have HU3 : Hid (Use n st ops V Vd bd ((∀ p ∈ o.add.take k, DoneQ n V o p) ∧ (∀ q ∈ o.add, V p q ≤ cst) ∧ ∀ q : Nat, q < 0 → (q : Int) ∉ o.add → (q : Int) ∉ o.del → V p (q : Int) ≤ plusV (valP V (updV o.pre [(q : Int)] [])) o.cost)) := Lib.hid (hU2.out.imp fun _ h => ⟨h.1, take_all_add hjl h.2, fun q h => by omega⟩)
          go_wp2_with fail
          go_loopw [5, 45] (fun ch i wr => ∃ (j : Nat) (Vc : Int → Int → Int) (bc : Bool), j ≤ n ∧ i = .int .i64 j ∧ ch = .bool bc ∧ Tbl wr g bs n Vc ∧ Wr bs w wr ∧ Cls wr [(w.heap.size, 0, .slice A0 o.pre.length c0), (w.heap.size, 1, .slice (some ad) o.add.length c1), (w.heap.size, 2, .slice A2 o.del.length c2), (w.heap.size, 3, .int .i64 o.cost)] ∧ Hid (Use n st ops V Vc bc ((∀ p ∈ o.add.take k, DoneQ n V o p) ∧ (∀ q ∈ o.add, V p q ≤ cst) ∧ ∀ q : Nat, q < j → (q : Int) ∉ o.add → (q : Int) ∉ o.del → V p (q : Int) ≤ plusV (valP V (updV o.pre [(q : Int)] [])) o.cost))) (fun _ i _ => n - (intOf i).toNat)
          case atStart => exact ⟨0, Vd, bd, Nat.zero_le _, rfl, rfl, hTs.below (by repeat (first | with_reducible exact Below.refl _ _ | with_reducible apply bdrew | with_reducible apply bdrewN | with_reducible apply balloc | ((with_reducible refine bset ?_ ?_ _); rotate_left; (first | omega | (simp <;> omega))))), hWs.trans (Wr.of (by repeat (first | with_reducible exact Below.refl _ _ | with_reducible apply bdrew | with_reducible apply bdrewN | with_reducible apply balloc | ((with_reducible refine bset ?_ ?_ _); rotate_left; (first | omega | (simp <;> omega)))))), (Cls.below (w := w2) (by repeat (first | with_reducible exact Below.refl _ _ | with_reducible apply bdrew | with_reducible apply bdrewN | with_reducible apply balloc | ((with_reducible refine bset ?_ ?_ _); rotate_left; (first | omega | (simp <;> omega))))) hCs), HU3⟩
          case round =>
            obtain ⟨q, Ve, be, hqn, rfl, rfl, hTt, hWt, hCt, hU3⟩ := hrel
            obtain ⟨w4, rfl⟩ : ∃ wo : World, wo = wr := ⟨_, rfl⟩
            have hBzt := hz.trans (hWt.below hz.size hbs)
            have dst := hWt.size
            have Ft := hCt
            simp only [Cls, and_true] at Ft
            have yt : w.heap.size < w4.heap.size := hCt.blk (b := w.heap.size) (k := 3) (v := .int .i64 o.cost) (by simp)
            have ytp : w.heap.size < w4.heap.size + 1 := (by omega)
            have ytq : w.heap.size < w4.heap.size + 1 + 1 := (by omega)
            by_cases hql : q < n
            · have HQR := Lib.hid (show Rng n (q : Int) from ⟨by omega, by omega⟩)
              by_cases hqa : (q : Int) ∈ o.add
              · have HD := Lib.hid (decide_eq_true hqa)
                have HN : Hid (Use n st ops V Ve be ((∀ p ∈ o.add.take k, DoneQ n V o p) ∧ (∀ q ∈ o.add, V p q ≤ cst) ∧ ∀ i : Nat, i < q + 1 → (i : Int) ∉ o.add → (i : Int) ∉ o.del → V p (i : Int) ≤ plusV (valP V (updV o.pre [(i : Int)] [])) o.cost)) := Lib.hid (hU3.out.imp fun _ h => ⟨h.1, h.2.1, fun i hi h1 h2 => by
                  rcases Nat.lt_or_ge i q with h3 | h3
                  · exact h.2.2 i h3 h1 h2
                  · obtain rfl : i = q := by omega
                    exact absurd hqa h1⟩)
                clear hqa
                go_wp2_with fail
                refine (scont1 _ _ _ _ o.add q _ true (hm.add.below (by repeat (first | with_reducible exact hBzt | with_reducible apply bdrew | with_reducible apply bdrewN | with_reducible apply balloc | ((with_reducible refine bset ?_ ?_ _); rotate_left; (first | omega | (simp <;> omega)))))) (ints_one (by simp [go_sem])) hladd (SetP.pairwise HS1.out) HD.out).mono ?_
                rintro e w9 ⟨rfl, rfl⟩
                go_wp2
                go_roundw
                case rel => exact ⟨q + 1, _, _, by omega, by go_num, rfl, hTt.below (by repeat (first | with_reducible exact Below.refl _ _ | with_reducible apply bdrew | with_reducible apply bdrewN | with_reducible apply balloc | ((with_reducible refine bset ?_ ?_ _); rotate_left; (first | omega | (simp <;> omega))))), hWt.trans (Wr.of (by repeat (first | with_reducible exact Below.refl _ _ | with_reducible apply bdrew | with_reducible apply bdrewN | with_reducible apply balloc | ((with_reducible refine bset ?_ ?_ _); rotate_left; (first | omega | (simp <;> omega)))))), (Cls.below (w := w4) (by repeat (first | with_reducible exact Below.refl _ _ | with_reducible apply bdrew | with_reducible apply bdrewN | with_reducible apply balloc | ((with_reducible refine bset ?_ ?_ _); rotate_left; (first | omega | (simp <;> omega))))) hCt), HN⟩
                case measure => simp [intOf]; omega
              · have HD := Lib.hid (decide_eq_false hqa)
                by_cases hqd : (q : Int) ∈ o.del
                · have HD2 := Lib.hid (decide_eq_true hqd)
                  have HN : Hid (Use n st ops V Ve be ((∀ p ∈ o.add.take k, DoneQ n V o p) ∧ (∀ q ∈ o.add, V p q ≤ cst) ∧ ∀ i : Nat, i < q + 1 → (i : Int) ∉ o.add → (i : Int) ∉ o.del → V p (i : Int) ≤ plusV (valP V (updV o.pre [(i : Int)] [])) o.cost)) := Lib.hid (hU3.out.imp fun _ h => ⟨h.1, h.2.1, fun i hi h1 h2 => by
                    rcases Nat.lt_or_ge i q with h3 | h3
                    · exact h.2.2 i h3 h1 h2
                    · obtain rfl : i = q := by omega
                      exact absurd hqd h2⟩)
                  clear hqa hqd
                  go_wp2_with fail
                  refine (scont1 _ _ _ _ o.add q _ false (hm.add.below (by repeat (first | with_reducible exact hBzt | with_reducible apply bdrew | with_reducible apply bdrewN | with_reducible apply balloc | ((with_reducible refine bset ?_ ?_ _); rotate_left; (first | omega | (simp <;> omega)))))) (ints_one (by simp [go_sem])) hladd (SetP.pairwise HS1.out) HD.out).mono ?_
                  rintro e w9 ⟨rfl, rfl⟩
                  go_wp2_with fail
                  refine (scont1 _ _ _ _ o.del q _ true (hm.del.below (by repeat (first | with_reducible exact hBzt | with_reducible apply bdrew | with_reducible apply bdrewN | with_reducible apply balloc | ((with_reducible refine bset ?_ ?_ _); rotate_left; (first | omega | (simp <;> omega)))))) (ints_one (by simp [go_sem])) hldel (SetP.pairwise HS2.out) HD2.out).mono ?_
                  rintro e w9 ⟨rfl, rfl⟩
                  go_wp2
                  go_roundw
                  case rel => exact ⟨q + 1, _, _, by omega, by go_num, rfl, hTt.below (by repeat (first | with_reducible exact Below.refl _ _ | with_reducible apply bdrew | with_reducible apply bdrewN | with_reducible apply balloc | ((with_reducible refine bset ?_ ?_ _); rotate_left; (first | omega | (simp <;> omega))))), hWt.trans (Wr.of (by repeat (first | with_reducible exact Below.refl _ _ | with_reducible apply bdrew | with_reducible apply bdrewN | with_reducible apply balloc | ((with_reducible refine bset ?_ ?_ _); rotate_left; (first | omega | (simp <;> omega)))))), (Cls.below (w := w4) (by repeat (first | with_reducible exact Below.refl _ _ | with_reducible apply bdrew | with_reducible apply bdrewN | with_reducible apply balloc | ((with_reducible refine bset ?_ ?_ _); rotate_left; (first | omega | (simp <;> omega))))) hCt), HN⟩
                  case measure => simp [intOf]; omega
                · have HD2 := Lib.hid (decide_eq_false hqd)
                  have HB3 := Lib.hid (use_left hU3.out.ab HOPS.out HOO.out HP.out HQR.out hqa hqd)
                  have HL := Lib.hid (updV_len_le (l := o.pre) (k := [(q : Int)]) HS0.out.1 (fun x hx => by rw [List.mem_singleton.1 hx]; exact HQR.out))
                  have HSY := Lib.hid (fun p hp q hq => hU3.out.ab.sym p q (HL.out p hp) (HL.out q hq) : ∀ a ∈ updV o.pre [(q : Int)] [], ∀ b ∈ updV o.pre [(q : Int)] [], Ve a b = Ve b a)
                  have HVI3 := Lib.hid (valP_in hU3.out.ab.all HL.out)
                  obtain ⟨val, hval⟩ : ∃ val, Hid (plusV (valP Ve (updV o.pre [(q : Int)] [])) o.cost = val) := ⟨_, Lib.hid rfl⟩
                  have HXI := Lib.hid (show InV val by rw [← hval.out]; exact plusV_in HVI3.out HC0.out)
                  have HN := Lib.hid (hU3.out.set_ (p := p) (q := (q : Int)) (x := val) (P' := (∀ p ∈ o.add.take k, DoneQ n V o p) ∧ (∀ q ∈ o.add, V p q ≤ cst) ∧ ∀ i : Nat, i < q + 1 → (i : Int) ∉ o.add → (i : Int) ∉ o.del → V p (i : Int) ≤ plusV (valP V (updV o.pre [(i : Int)] [])) o.cost) ⟨p0, p1⟩ HQR.out HXI.out (by rw [← hval.out]; exact HB3.out) (fun he h hle => ⟨h.1, h.2.1, fun i hi h1 h2 => by
                    rcases Nat.lt_or_ge i q with h3 | h3
                    · exact h.2.2 i h3 h1 h2
                    · obtain rfl : i = q := by omega
                      rw [← he] at hle ⊢
                      rw [hval.out]; exact hle⟩))
                  clear hqa hqd
                  go_wp2_with fail
                  refine (scont1 _ _ _ _ o.add q _ false (hm.add.below (by repeat (first | with_reducible exact hBzt | with_reducible apply bdrew | with_reducible apply bdrewN | with_reducible apply balloc | ((with_reducible refine bset ?_ ?_ _); rotate_left; (first | omega | (simp <;> omega)))))) (ints_one (by simp [go_sem])) hladd (SetP.pairwise HS1.out) HD.out).mono ?_
                  rintro e w9 ⟨rfl, rfl⟩
                  go_wp2_with fail
                  refine (scont1 _ _ _ _ o.del q _ false (hm.del.below (by repeat (first | with_reducible exact hBzt | with_reducible apply bdrew | with_reducible apply bdrewN | with_reducible apply balloc | ((with_reducible refine bset ?_ ?_ _); rotate_left; (first | omega | (simp <;> omega)))))) (ints_one (by simp [go_sem])) hldel (SetP.pairwise HS2.out) HD2.out).mono ?_
                  rintro e w9 ⟨rfl, rfl⟩
                  go_upto_region 15 with (fail)
                  go_cut [12] (fun s12 wx => s12 = .int .i64 val ∧ Tbl wx g bs n Ve ∧ Wr bs w wx ∧ Cls wx [(w.heap.size, 0, .slice A0 o.pre.length c0), (w.heap.size, 1, .slice (some ad) o.add.length c1), (w.heap.size, 2, .slice A2 o.del.length c2), (w.heap.size, 3, .int .i64 o.cost)])
                  case first =>
                    have HE := Below.refl w4.heap.size w4
                    have hU3' := hval
                    go_region_held3 (fun W => W.cell? ⟨w.heap.size, 0, none⟩ = some (.slice A0 o.pre.length c0) ∧ W.cell? ⟨w.heap.size, 3, none⟩ = some (.int .i64 o.cost)) (first | exact hK | simp [go_sem, Ft, yt, ytp, ytq] | go_keep) (first | (go_at_call 103; refine (union_any _ _ _ _ _ o.pre [(q : Int)] (hm.pre.below (by repeat (first | with_reducible exact hBzt | with_reducible apply bdrew | with_reducible apply bdrewN | with_reducible apply balloc | ((with_reducible refine bset ?_ ?_ _); rotate_left; (first | omega | (simp <;> omega)))))) (ints_one (by simp [go_sem])) hlpre (by simp) (fun h => by cases h)).mono ?_; rintro e w5 ⟨v5, rfl, ho5, hB5⟩; have HE' := dstep w4 hB5 (by repeat (first | with_reducible exact HE | with_reducible apply bdrew | with_reducible apply bdrewN | with_reducible apply balloc | ((with_reducible refine bset ?_ ?_ _); rotate_left; (first | omega | (simp <;> omega))))); clear HE; have HE := HE'; clear HE'; have ds5 := HE.size; have C5 := Cls.below (w := w4) HE hCt; have F5 := C5; simp only [Cls, and_true] at F5; have hK : w5.cell? ⟨w.heap.size, 0, none⟩ = some (.slice A0 o.pre.length c0) ∧ w5.cell? ⟨w.heap.size, 3, none⟩ = some (.int .i64 o.cost) := (by simp [F5]); clear hB5; obtain ⟨A5, c5, rfl, -, hI5⟩ := ho5.form; have hcap := OwnI.cap_le ho5; have hcam := OwnI.cap_max ho5) | (go_at_call 65; refine (pvalue_any _ g n c5 bs Ve (hTt.below (by repeat (first | with_reducible exact HE | with_reducible apply bdrew | with_reducible apply bdrewN | with_reducible apply balloc | ((with_reducible refine bset ?_ ?_ _); rotate_left; (first | omega | (simp <;> omega)))))) A5 (updV o.pre [(q : Int)] []) (hI5.below (by repeat (first | with_reducible exact Below.refl _ _ | with_reducible apply bdrew | with_reducible apply bdrewN | with_reducible apply balloc | ((with_reducible refine bset ?_ ?_ _); rotate_left; (first | omega | (simp <;> omega)))))) hcap hcam hn HL.out HSY.out).mono ?_; rintro e wx ⟨rfl, hW⟩; rw [← hW]; clear hW wx) | (go_at_call 88; refine (plus_any _ _ _ HVI3.out HC0.out).mono ?_; rintro e wx ⟨rfl, hW⟩; rw [← hW]; clear hW wx))
                    all_goals
                      go_wp2_with fail
                      go_meet
                      exact ⟨by rw [hval.out], hTt.below (by repeat (first | with_reducible exact HE | with_reducible apply bdrew | with_reducible apply bdrewN | with_reducible apply balloc | ((with_reducible refine bset ?_ ?_ _); rotate_left; (first | omega | (simp <;> omega))))), hWt.trans (Wr.of (by repeat (first | with_reducible exact HE | with_reducible apply bdrew | with_reducible apply bdrewN | with_reducible apply balloc | ((with_reducible refine bset ?_ ?_ _); rotate_left; (first | omega | (simp <;> omega)))))), (Cls.below (w := w4) (by repeat (first | with_reducible exact HE | with_reducible apply bdrew | with_reducible apply bdrewN | with_reducible apply balloc | ((with_reducible refine bset ?_ ?_ _); rotate_left; (first | omega | (simp <;> omega))))) hCt)⟩
                  case rest =>
                    obtain ⟨w6, rfl⟩ : ∃ wo : World, wo = wc := ⟨_, rfl⟩
                    obtain ⟨rfl, hT6, hW6, hC6⟩ := hcut
                    cases hdd : decide (val < Ve p (q : Int))
                    all_goals
                      have HDD := Lib.hid hdd
                      rw [hdd] at HN
                      clear hdd
                      go_wp2_with fail
                      refine (pset_any _ g n bs Ve (hT6.below (by repeat (first | with_reducible exact Below.refl _ _ | with_reducible apply bdrew | with_reducible apply bdrewN | with_reducible apply balloc | ((with_reducible refine bset ?_ ?_ _); rotate_left; (first | omega | (simp <;> omega)))))) hn p (q : Int) val ⟨p0, p1⟩ HQR.out _ HDD.out).mono ?_
                      rintro e w7 ⟨rfl, hT7, hW7⟩
                      have hC7 := Cls.wr hW7 hKb (l := [(w.heap.size, 0, .slice A0 o.pre.length c0), (w.heap.size, 1, .slice (some ad) o.add.length c1), (w.heap.size, 2, .slice A2 o.del.length c2), (w.heap.size, 3, .int .i64 o.cost)]) (Cls.below (w := w6) (by repeat (first | with_reducible exact Below.refl _ _ | with_reducible apply bdrew | with_reducible apply bdrewN | with_reducible apply balloc | ((with_reducible refine bset ?_ ?_ _); rotate_left; (first | omega | (simp <;> omega))))) hC6) (by simp)
                      have hW7' := (hW6.trans (Wr.of (by repeat (first | with_reducible exact Below.refl _ _ | with_reducible apply bdrew | with_reducible apply bdrewN | with_reducible apply balloc | ((with_reducible refine bset ?_ ?_ _); rotate_left; (first | omega | (simp <;> omega))))))).trans hW7
                      go_wp2
                      go_roundw
                      case rel => exact ⟨q + 1, _, _, by omega, by go_num, rfl, hT7.below (by repeat (first | with_reducible exact Below.refl _ _ | with_reducible apply bdrew | with_reducible apply bdrewN | with_reducible apply balloc | ((with_reducible refine bset ?_ ?_ _); rotate_left; (first | omega | (simp <;> omega))))), hW7'.trans (Wr.of (by repeat (first | with_reducible exact Below.refl _ _ | with_reducible apply bdrew | with_reducible apply bdrewN | with_reducible apply balloc | ((with_reducible refine bset ?_ ?_ _); rotate_left; (first | omega | (simp <;> omega)))))), (Cls.below (w := w7) (by repeat (first | with_reducible exact Below.refl _ _ | with_reducible apply bdrew | with_reducible apply bdrewN | with_reducible apply balloc | ((with_reducible refine bset ?_ ?_ _); rotate_left; (first | omega | (simp <;> omega))))) hC7), HN⟩
                      case measure => simp [intOf]; omega
            · have HN : Hid (Use n st ops V Ve be (∀ p ∈ o.add.take (k + 1), DoneQ n V o p)) := Lib.hid (hU3.out.imp fun _ h => take_next hp.out h.1 ⟨fun q hq => by rw [hcst.out]; exact h.2.1 q hq, fun i hi h1 h2 => by
                have h3 := h.2.2 i.toNat (by have := hi.1; have := hi.2; omega)
                have e : ((i.toNat : Nat) : Int) = i := by have := hi.1; omega
                rw [e] at h3
                exact h3 h1 h2⟩)
              go_wp2
              go_roundw
              case rel => exact ⟨k + 1, _, _, by omega, by go_num, rfl, hTt.below (by repeat (first | with_reducible exact Below.refl _ _ | with_reducible apply bdrew | with_reducible apply bdrewN | with_reducible apply balloc | ((with_reducible refine bset ?_ ?_ _); rotate_left; (first | omega | (simp <;> omega))))), hWt.trans (Wr.of (by repeat (first | with_reducible exact Below.refl _ _ | with_reducible apply bdrew | with_reducible apply bdrewN | with_reducible apply balloc | ((with_reducible refine bset ?_ ?_ _); rotate_left; (first | omega | (simp <;> omega)))))), (Cls.below (w := w4) (by repeat (first | with_reducible exact Below.refl _ _ | with_reducible apply bdrew | with_reducible apply bdrewN | with_reducible apply balloc | ((with_reducible refine bset ?_ ?_ _); rotate_left; (first | omega | (simp <;> omega))))) hCt), HN⟩
              case measure => simp [intOf]; omega
    · have HF := Lib.hid (show Use n st ops V Vc bc (OpClosed n V o) from hU.out.imp fun _ h => done_closed HV.out (take_all_add hlt h))
      go_wp2
      go_ret
      exact ⟨_, _, rfl, hTr, hWr, HF.out⟩


end Go.Proofs.Ytiaokmofoaeifaa
