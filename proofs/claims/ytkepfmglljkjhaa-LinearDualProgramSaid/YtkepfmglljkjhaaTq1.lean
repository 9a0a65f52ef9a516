/-
  The dual program of the reference: the walk.
-/
import Derived.Test.YtkepfmglljkjhaaTq0
namespace Go.Proofs.Ytkepfmglljkjhaa
open Go.RowKit
set_option linter.unusedVariables false
set_option linter.unusedSimpArgs false

theorem OwnAx.inner {base : Nat} {w : World} {v : Value} {els : List (Option Addr × Nat × List Int)} (h : OwnAx base w v els) : ∀ x ∈ els, ∀ ad, x.1 = some ad → ad.block < w.heap.size := fun x hx ad e => by
  obtain ⟨i, hi⟩ := List.getElem?_of_mem hx
  obtain ⟨A, c, rfl⟩ := OwnEs.form h
  obtain ⟨g, cs, a, _, _, _, ha, _, _, hp⟩ := OwnEs.at_ h (i := i) (List.getElem?_eq_some_iff.1 hi).1
  have hax : a = x := by have := ha.out; rw [hi] at this; injection this with this; exact this.symm
  subst hax
  exact (hp.2.2.2 ad e).2.2
theorem rows_snoc (j : Nat) (f : Nat → List Int) : (List.range (j + 1)).map f = (List.range j).map f ++ [f j] := by rw [List.range_succ, List.map_append]; rfl
set_option maxRecDepth 100000 in
set_option maxHeartbeats 4000000 in
theorem transposed_any (w : World) (AR AB AO : Option Addr) (cr cb co : Nat) (p : LpV) (hM : LpMem w AR AB AO p) (hok : LpOk p) (m n : Nat) (hrl : Hid (p.rows.length = m)) (hbl : Hid (p.bounds.length = m)) (hol : Hid (p.obj.length = n)) (hm6 : m ≤ 6) (hn6 : n ≤ 6) :
    Calls Try.prog 25 #[.agg #[.slice AR m cr, .slice AB m cb, .slice AO n co]] w fun e w' => ∃ (AX AY AZ : Option Addr) (cx cy cz : Nat), e = .returned (.agg #[.slice AX n cx, .slice AY n cy, .slice AZ m cz]) ∧ LpMem w' AX AY AZ (dualV p) ∧ Below w.heap.size w w' := by
  have HRO := Lib.hid hM.rows.llr
  have HBO := Lib.hid hM.bounds
  have HOB := Lib.hid hM.obj
  have HOK := Lib.hid hok
  have HNO := Lib.hid (show (dualV p).rows = (List.range n).map (fun j => tbRow m fun k => - p.lp.A k j) ∧ (dualV p).bounds = tbRow n (fun j => - p.lp.c j) ∧ (dualV p).obj = tbRow m (fun k => - p.lp.b k) by unfold dualV; rw [hrl.out, hol.out]; exact ⟨rfl, rfl, rfl⟩)
  clear hM hok
  go_enter Try.func25, Try.ntmps25
  go_wp2_with fail
  go_loopw [4] (fun x wr => ∃ (j : Nat) (els : List (Option Addr × Nat × List Int)) (vR vB : Value), j ≤ n ∧ x = .int .i64 j ∧ Hid (els.map (·.2.2) = (List.range j).map (fun j => tbRow m fun k => - p.lp.A k j) ∧ Sep vR vB ∧ ∀ x ∈ els, ∀ ad, x.1 = some ad → vB.ownBlock ≠ some ad.block) ∧ OwnAx (w.heap.size + 1 + 1 + 1) wr vR els ∧ OwnI (w.heap.size + 1 + 1 + 1) wr vB (tbRow j fun j => - p.lp.c j) ∧ Below w.heap.size w wr ∧ Cls wr [(w.heap.size, 0, .slice AR m cr), (w.heap.size, 1, .slice AB m cb), (w.heap.size, 2, .slice AO n co), (w.heap.size + 1, 0, .slice none 0 0), (w.heap.size + 1, 1, .slice none 0 0), (w.heap.size + 1, 2, .slice none 0 0), (w.heap.size + 1 + 1, 0, vR), (w.heap.size + 1 + 1, 1, vB), (w.heap.size + 1 + 1, 2, .slice none 0 0)]) (fun x _ => n - (intOf x).toNat)
  case atStart => exact ⟨0, [], .slice none 0 0, .slice none 0 0, Nat.zero_le _, rfl, Lib.hid ⟨rfl, sep_nil _, (fun x h => by cases h)⟩, OwnEs.nil _ _, OwnI.nil _ _, (by repeat (first | with_reducible exact Below.refl _ _ | with_reducible apply bdrew | with_reducible apply bdrewN | with_reducible apply balloc | ((with_reducible refine bset ?_ ?_ _); rotate_left; (first | omega | (simp <;> omega))))), (by simp [Cls, go_sem])⟩
  case round =>
    obtain ⟨j, els, vR, vB, hj, rfl, HP, hR, hB, hBr, hCr⟩ := hrel
    obtain ⟨w1, rfl⟩ : ∃ wo : World, wo = wr := ⟨_, rfl⟩
    have drs := hBr.size
    have Fr := hCr
    simp only [Cls, and_true] at Fr
    have yrw2 : w.heap.size + 1 + 1 < w1.heap.size := hCr.blk (b := w.heap.size + 1 + 1) (k := 0) (v := vR) (by simp)
    have yrw1 : w.heap.size + 1 < w1.heap.size := (by omega)
    have yrw0 : w.heap.size < w1.heap.size := (by omega)
    have yrwp1 : w.heap.size < w1.heap.size + 1 := (by omega)
    have yrwp2 : w.heap.size < w1.heap.size + 1 + 1 := (by omega)
    have hlenE : els.length = j := by have h := congrArg List.length HP.out.1; simpa using h
    have hrw : ∀ k, vR.ownBlock = some k → k < w1.heap.size := fun k hk => (OwnEs.lt hR k hk).2
    have hbw : ∀ k, vB.ownBlock = some k → k < w1.heap.size := fun k hk => (hB.lt k hk).2
    have hin : ∀ x ∈ els, ∀ ad, x.1 = some ad → ad.block < w1.heap.size := OwnAx.inner hR
    by_cases hlt : j < n
    · have hC1 := Lib.hid hCr
      go_wp2_with fail
      go_loopw [5, 6] (fun v x wr => ∃ i : Nat, i ≤ m ∧ x = .int .i64 i ∧ OwnI w1.heap.size wr v (tbRow i fun k => - p.lp.A k j) ∧ Below w1.heap.size w1 wr) (fun _ x _ => m - (intOf x).toNat)
      case atStart => exact ⟨0, Nat.zero_le _, rfl, OwnI.nil _ _, by repeat (first | with_reducible exact Below.refl _ _ | with_reducible apply bdrew | with_reducible apply bdrewN | with_reducible apply balloc | ((with_reducible refine bset ?_ ?_ _); rotate_left; (first | omega | (simp <;> omega))))⟩
      case round =>
        obtain ⟨i, hi, rfl, hO, hBs⟩ := hrel
        obtain ⟨w2, rfl⟩ : ∃ wo : World, wo = wr := ⟨_, rfl⟩
        have D2 := hBr.trans (hBs.mono drs)
        have d2s := hBs.size
        have C2 := Cls.below (w := w1) hBs hC1.out
        have F2 := C2
        simp only [Cls, and_true] at F2
        have y2w2 : w.heap.size + 1 + 1 < w2.heap.size := C2.blk (b := w.heap.size + 1 + 1) (k := 0) (v := vR) (by simp)
        have y2w1 : w.heap.size + 1 < w2.heap.size := (by omega)
        have y2w0 : w.heap.size < w2.heap.size := (by omega)
        have y2wp1 : w.heap.size < w2.heap.size + 1 := (by omega)
        have y2wp2 : w.heap.size < w2.heap.size + 1 + 1 := (by omega)
        by_cases hlt2 : i < m
        · obtain ⟨ad, r, R, cR, rfl, hr, hrc0, hI⟩ := HRO.out.at_ (k := i) (by rw [hrl.out]; exact hlt2)
          have hrc := (D2.cell (World.block_lt_of_cell? w _ hrc0)).trans hrc0
          have hrn := (HOK.out.row hr.out).1
          rw [hol.out] at hrn
          have HRN := Lib.hid hrn
          rw [hrn] at hrc
          clear hrn hrc0
          obtain ⟨ad2, a, rfl, ha, hac0⟩ := hI.at_ (k := j) (by rw [HRN.out]; exact hlt)
          have hac := (D2.cell (World.block_lt_of_cell? w _ hac0)).trans hac0
          have hab := (HOK.out.row hr.out).2 a (List.mem_of_getElem? ha.out)
          obtain ⟨hab1, hab2⟩ := hab
          have hlen : (tbRow i fun k => - p.lp.A k j).length < 1000000000000 := by rw [tbRow_len]; omega
          have HE := Lib.hid (show tbRow (i + 1) (fun k => - p.lp.A k j) = tbRow i (fun k => - p.lp.A k j) ++ [-a] by rw [tbRow_snoc, A_at hr.out ha.out])
          have hji : (j : Int) < (n : Int) := by omega
          clear hac0 hI
          go_wp2_with (at_builtin; go_must (refine wpList_push rfl (.tmp 22) (.tmp 32) rfl w1 [(w.heap.size, 0, .slice (some ad) m cr), (w.heap.size, 1, .slice AB m cb), (w.heap.size, 2, .slice AO n co), (w.heap.size + 1, 0, .slice none 0 0), (w.heap.size + 1, 1, .slice none 0 0), (w.heap.size + 1, 2, .slice none 0 0), (w.heap.size + 1 + 1, 0, vR), (w.heap.size + 1 + 1, 1, vB), (w.heap.size + 1 + 1, 2, .slice none 0 0)] (w1.heap.size) _ _ ((-a)) rfl (OwnI.below hO ?p1) ⟨w2.heap.size, 0, none⟩ 1 rfl ?p2 hlen ?p3 ?p4 ?p5 ?p6 ?p7 ?_; (case p1 => repeat (first | with_reducible exact Below.refl _ _ | with_reducible apply bdrew | with_reducible apply bdrewN | with_reducible apply balloc | ((with_reducible refine bset ?_ ?_ _); rotate_left; (first | omega | (simp <;> omega))))); (case p2 => simp [Cls, go_sem, F2, y2w2, y2w1, y2w0, y2wp1, y2wp2]); (case p3 => (first | omega | (simp <;> omega))); (case p4 => (first | omega | (simp <;> omega))); (case p5 => repeat (first | with_reducible exact hBs | with_reducible apply bdrew | with_reducible apply bdrewN | with_reducible apply balloc | ((with_reducible refine bset ?_ ?_ _); rotate_left; (first | omega | (simp <;> omega))))); (case p6 => simp [Cls, go_sem, F2, y2w2, y2w1, y2w0, y2wp1, y2wp2]); (case p7 => (simp <;> omega)); intro v3 w3 o3 D3 C3 sz3; have d3s := D3.size; have F3 := C3; simp only [Cls, and_true] at F3; have y3w2 : w.heap.size + 1 + 1 < w3.heap.size := C3.blk (b := w.heap.size + 1 + 1) (k := 0) (v := vR) (by simp); have y3w1 : w.heap.size + 1 < w3.heap.size := (by omega); have y3w0 : w.heap.size < w3.heap.size := (by omega); have y3wp1 : w.heap.size < w3.heap.size + 1 := (by omega); have y3wp2 : w.heap.size < w3.heap.size + 1 + 1 := (by omega)))
          go_wp2
          go_roundw
          case rel => exact ⟨i + 1, by omega, by go_num, by rw [HE.out]; exact OwnI.below o3 (by repeat (first | with_reducible exact Below.refl _ _ | with_reducible apply bdrew | with_reducible apply bdrewN | with_reducible apply balloc | ((with_reducible refine bset ?_ ?_ _); rotate_left; (first | omega | (simp <;> omega))))), by repeat (first | with_reducible exact D3 | with_reducible apply bdrew | with_reducible apply bdrewN | with_reducible apply balloc | ((with_reducible refine bset ?_ ?_ _); rotate_left; (first | omega | (simp <;> omega))))⟩
          case measure => simp [intOf]; omega
        · obtain rfl : m = i := by omega
          obtain ⟨A5, c5, hv5, -, hI5⟩ := hO.form
          rw [tbRow_len] at hv5
          subst hv5
          have HO5 := Lib.hid hO
          have HI5 := Lib.hid hI5
          have HN5 := Lib.hid hO.nilok
          have HK5 : Hid (∀ ad, A5 = some ad → w1.heap.size ≤ ad.block ∧ ad.block < w2.heap.size) := Lib.hid (fun ad e => hO.blk_ ad e)
          obtain ⟨L5, hL5⟩ : ∃ L, Hid (tbRow m (fun k => - p.lp.A k j) = L) := ⟨_, Lib.hid rfl⟩
          rw [hL5.out] at HI5 HN5
          have HL5 := Lib.hid (show L5.length = m by rw [← hL5.out, tbRow_len])
          have hR2 := hR.below hBs
          have hB2 := hB.below hBs
          have hlenR : els.length < 1000000000000 := by rw [hlenE]; omega
          have hlenB : (tbRow j fun j => - p.lp.c j).length < 1000000000000 := by rw [tbRow_len]; omega
          have hbase : w.heap.size + 1 + 1 + 1 ≤ w1.heap.size := by omega
          clear hO hI5
          go_upto_region 11 with (at_builtin; refine wpList_el (pax_stable (w.heap.size + 1 + 1 + 1)) 22 24 (.slice none 0 0) Try.underlying22 info_list rfl (by decide) (by decide) rfl (.tmp 35) (.tmp 37) rfl w [(w.heap.size, 0, .slice AR m cr), (w.heap.size, 1, .slice AB m cb), (w.heap.size, 2, .slice AO n co), (w.heap.size + 1, 0, .slice none 0 0), (w.heap.size + 1, 1, .slice none 0 0), (w.heap.size + 1, 2, .slice none 0 0), (w.heap.size + 1 + 1, 0, vR), (w.heap.size + 1 + 1, 1, vB), (w.heap.size + 1 + 1, 2, .slice none 0 0)] rfl (OwnAx.below hR2 ?p1) ⟨w2.heap.size, 0, none⟩ 1 rfl [.slice A5 m c5] (A5, c5, L5) rfl (cells_one ?p2) ?p8 ?p9 hlenR ?p3 ?p4 ?p5 ?p6 ?p7 ?_; (case p1 => repeat (first | with_reducible exact Below.refl _ _ | with_reducible apply bdrew | with_reducible apply bdrewN | with_reducible apply balloc | ((with_reducible refine bset ?_ ?_ _); rotate_left; (first | omega | (simp <;> omega))))); (case p2 => simp [go_sem]); (case p3 => (simp <;> omega)); (case p4 => omega); (case p5 => repeat (first | with_reducible exact D2 | with_reducible apply bdrew | with_reducible apply bdrewN | with_reducible apply balloc | ((with_reducible refine bset ?_ ?_ _); rotate_left; (first | omega | (simp <;> omega))))); (case p6 => simp [Cls, go_sem, F2, y2w2, y2w1, y2w0, y2wp1, y2wp2]); (case p7 => (simp <;> omega)); (case p8 => intro u hu; simp at hu; subst hu; rfl); (case p9 => exact ⟨by rw [HL5.out], HI5.out.below (by repeat (first | with_reducible exact Below.refl _ _ | with_reducible apply bdrew | with_reducible apply bdrewN | with_reducible apply balloc | ((with_reducible refine bset ?_ ?_ _); rotate_left; (first | omega | (simp <;> omega))))), HN5.out, fun ad e => ⟨fun h => by have h1 := hrw _ h.symm; have h2 := (HK5.out ad e).1; omega, by have h2 := (HK5.out ad e).1; omega, by have h2 := (HK5.out ad e).2; simp; omega⟩⟩); intro v6 w6 o6 D6 C6 sz6 G6 at6; obtain ⟨A6, c6, e6⟩ := OwnEs.form o6; rw [show (els ++ [(A5, c5, L5)]).length = j + 1 from (by rw [List.length_append, hlenE]; rfl)] at e6; subst e6; have nv6 : (Value.slice A6 (j + 1) c6).ownBlock = vR.ownBlock ∨ (Value.slice A6 (j + 1) c6).ownBlock = some (w2.heap.size + 1) := (by rcases at6 with h | h; exact Or.inl h; exact Or.inr (by rw [h]; simp)); clear at6; have d6s := D6.size; have sz6' : w2.heap.size < w6.heap.size := (by have h := sz6; simp at h; omega); have hB6 := own_grown_i (u := vR) (hB2.below (by repeat (first | with_reducible exact Below.refl _ _ | with_reducible apply bdrew | with_reducible apply bdrewN | with_reducible apply balloc | ((with_reducible refine bset ?_ ?_ _); rotate_left; (first | omega | (simp <;> omega)))) : Below w2.heap.size w2 (w2.alloc (.cells #[.slice A5 m c5] 23)))) G6 HP.out.2.1; have F6 := C6; simp only [Cls, and_true] at F6; have y6w2 : w.heap.size + 1 + 1 < w6.heap.size := C6.blk (b := w.heap.size + 1 + 1) (k := 0) (v := vR) (by simp); have y6w1 : w.heap.size + 1 < w6.heap.size := (by omega); have y6w0 : w.heap.size < w6.heap.size := (by omega); have y6wp1 : w.heap.size < w6.heap.size + 1 := (by omega); have y6wp2 : w.heap.size < w6.heap.size + 1 + 1 := (by omega))
          have D7 : Below w.heap.size w (w6.setCell ⟨w.heap.size + 1 + 1, 0, none⟩ (.slice A6 (j + 1) c6)) := by repeat (first | with_reducible exact D6 | with_reducible apply bdrew | with_reducible apply bdrewN | with_reducible apply balloc | ((with_reducible refine bset ?_ ?_ _); rotate_left; (first | omega | (simp <;> omega))))
          have C7 : Cls (w6.setCell ⟨w.heap.size + 1 + 1, 0, none⟩ (.slice A6 (j + 1) c6)) [(w.heap.size, 0, .slice AR m cr), (w.heap.size, 1, .slice AB m cb), (w.heap.size, 2, .slice AO n co), (w.heap.size + 1, 0, .slice none 0 0), (w.heap.size + 1, 1, .slice none 0 0), (w.heap.size + 1, 2, .slice none 0 0), (w.heap.size + 1 + 1, 0, .slice A6 (j + 1) c6), (w.heap.size + 1 + 1, 1, vB), (w.heap.size + 1 + 1, 2, .slice none 0 0)] := by simp [Cls, go_sem, F6, y6w2, y6w1, y6w0, y6wp1, y6wp2]
          have hR7 : OwnAx (w.heap.size + 1 + 1 + 1) (w6.setCell ⟨w.heap.size + 1 + 1, 0, none⟩ (.slice A6 (j + 1) c6)) (.slice A6 (j + 1) c6) (els ++ [(A5, c5, L5)]) := OwnAx.far o6 (p := ⟨w.heap.size + 1 + 1, 0, none⟩) (by dsimp only; omega) _
          have hB7 : OwnI (w.heap.size + 1 + 1 + 1) (w6.setCell ⟨w.heap.size + 1 + 1, 0, none⟩ (.slice A6 (j + 1) c6)) vB (tbRow j fun j => - p.lp.c j) := OwnI.far hB6 (p := ⟨w.heap.size + 1 + 1, 0, none⟩) (by dsimp only; omega) _
          have sz7 : w2.heap.size < (w6.setCell ⟨w.heap.size + 1 + 1, 0, none⟩ (.slice A6 (j + 1) c6)).heap.size := by simp; omega
          have h6lt : ∀ k, (Value.slice A6 (j + 1) c6).ownBlock = some k → k < (w6.setCell ⟨w.heap.size + 1 + 1, 0, none⟩ (.slice A6 (j + 1) c6)).heap.size := fun k hk => (OwnEs.lt hR7 k hk).2
          generalize (w6.setCell ⟨w.heap.size + 1 + 1, 0, none⟩ (.slice A6 (j + 1) c6)) = w7 at D7 C7 hR7 hB7 sz7 h6lt ⊢
          clear o6 D6 C6 sz6 G6 hB6 d6s sz6' F6 y6w2 y6w1 y6w0 y6wp1 y6wp2
          have d7s := D7.size
          have F7 := C7
          simp only [Cls, and_true] at F7
          have y7w2 : w.heap.size + 1 + 1 < w7.heap.size := C7.blk (b := w.heap.size + 1 + 1) (k := 0) (v := .slice A6 (j + 1) c6) (by simp)
          have y7w1 : w.heap.size + 1 < w7.heap.size := (by omega)
          have y7w0 : w.heap.size < w7.heap.size := (by omega)
          have y7wp1 : w.heap.size < w7.heap.size + 1 := (by omega)
          have y7wp2 : w.heap.size < w7.heap.size + 1 + 1 := (by omega)
          obtain ⟨ad, c, hAO, hc, hcw⟩ := HOB.out.at_ (k := j) (by rw [hol.out]; exact hlt)
          have hcc := (D7.cell (World.block_lt_of_cell? w _ hcw)).trans hcw
          subst hAO
          have hcb := HOK.out.c c (List.mem_of_getElem? hc.out)
          obtain ⟨hcb1, hcb2⟩ := hcb
          have HE := Lib.hid (show tbRow (j + 1) (fun j => - p.lp.c j) = tbRow j (fun j => - p.lp.c j) ++ [-c] by rw [tbRow_snoc, obj_at hc.out])
          have hji : (j : Int) < (n : Int) := by omega
          have hcw0 := hcw
          have hwn : IntKind.i64.wrap (-c) = -c := Go.IntWalk.i64_in _ (by omega)
          go_wp2_with fail
          refine wp_region_held_drew (S := fun W => W.cell? ⟨w.heap.size, 2, none⟩ = some (.slice (some ad) n co) ∧ W.cell? (ad.add j) = some (.int .i64 c)) (by kernel_rfl) (by simp [go_sem, hcc, F7, y7w2, y7w1, y7w0, y7wp1, y7wp2]) (fun hHeld => ?_)
          refine wpAnyH_take (i := 0) (v := ?vo10) rfl (by kernel_rfl) (by kernel_rfl) (by kernel_rfl) (fun _ _ _ h => h) (Or.inl ⟨by rfl, ?ho10⟩) (by assumption) ?ro10
          case ho10 => (intro w hSw; (try dsimp only at hSw); go_simp; (try with_reducible rfl))
          try simp only [Act.put, List.getElem_toArray, List.getElem_cons_succ, List.getElem_cons_zero, List.setIfInBounds_toArray, List.set_cons_zero, List.set_cons_succ]
          refine wpAnyH_take (i := 2) (v := ?vo12) rfl (by kernel_rfl) (by kernel_rfl) (by kernel_rfl) (fun _ _ _ h => h) (Or.inl ⟨by rfl, ?ho12⟩) (by assumption) ?ro12
          case ho12 => (intro w hSw; (try dsimp only at hSw); go_simp; (try with_reducible rfl))
          try simp only [Act.put, List.getElem_toArray, List.getElem_cons_succ, List.getElem_cons_zero, List.setIfInBounds_toArray, List.set_cons_zero, List.set_cons_succ]
          refine wpAnyH_take (i := 3) (v := ?vo13) rfl (by kernel_rfl) (by kernel_rfl) (by kernel_rfl) (fun _ _ _ h => h) (Or.inl ⟨by rfl, ?ho13⟩) (by assumption) ?ro13
          case ho13 => (intro w hSw; (try dsimp only at hSw); go_simp; (try with_reducible rfl))
          try simp only [Act.put, List.getElem_toArray, List.getElem_cons_succ, List.getElem_cons_zero, List.setIfInBounds_toArray, List.set_cons_zero, List.set_cons_succ]
          refine wpAnyH_take (i := 4) (v := ?vo14) rfl (by kernel_rfl) (by kernel_rfl) (by kernel_rfl) (fun _ _ _ h => h) (Or.inl ⟨by rfl, ?ho14⟩) (by assumption) ?ro14
          case ho14 => (intro w hSw; (try dsimp only at hSw); go_simp; (try with_reducible rfl))
          try simp only [Act.put, List.getElem_toArray, List.getElem_cons_succ, List.getElem_cons_zero, List.setIfInBounds_toArray, List.set_cons_zero, List.set_cons_succ]
          refine wpAnyH_take (i := 5) (v := ?vo15) rfl (by kernel_rfl) (by kernel_rfl) (by kernel_rfl) (fun _ _ _ h => h) (Or.inl ⟨by rfl, ?ho15⟩) (by assumption) ?ro15
          case ho15 => (intro w hSw; (try dsimp only at hSw); go_simp; (try with_reducible rfl))
          try simp only [Act.put, List.getElem_toArray, List.getElem_cons_succ, List.getElem_cons_zero, List.setIfInBounds_toArray, List.set_cons_zero, List.set_cons_succ]
          refine wpAnyH_take (i := 6) (v := ?vo16) rfl (by kernel_rfl) (by kernel_rfl) (by kernel_rfl) (fun _ _ _ h => h) (Or.inl ⟨by rfl, ?ho16⟩) (by assumption) ?ro16
          case ho16 => (intro w hSw; (try dsimp only at hSw); go_simp; (try with_reducible rfl))
          try simp only [Act.put, List.getElem_toArray, List.getElem_cons_succ, List.getElem_cons_zero, List.setIfInBounds_toArray, List.set_cons_zero, List.set_cons_succ]
          refine wpAnyH_take (i := 7) (v := ?vo17) rfl (by kernel_rfl) (by kernel_rfl) (by kernel_rfl) (fun _ _ _ h => h) (Or.inl ⟨by rfl, ?ho17⟩) (by assumption) ?ro17
          case ho17 => (intro w hSw; (try dsimp only at hSw); go_simp; (try with_reducible rfl))
          try simp only [Act.put, List.getElem_toArray, List.getElem_cons_succ, List.getElem_cons_zero, List.setIfInBounds_toArray, List.set_cons_zero, List.set_cons_succ]
          refine wpAnyH_ready (rs := [1, 8]) (by kernel_rfl) (by simp) ?_
          refine (AllReadyH.cons rfl (fun K hK => ?bo11x1) (AllReadyH.cons rfl (fun K hK => ?bo11x8) AllReadyH.nil))
          case bo11x1 =>
            go_simp
            have hSS := hHeld
            go_wp2_with fail
            refine hK.out _ _ hSS (fun hHeld => ?_)
            clear hK K
            try simp only [Act.put, List.getElem_toArray, List.getElem_cons_succ, List.getElem_cons_zero, List.setIfInBounds_toArray, List.set_cons_zero, List.set_cons_succ]
            refine wpAnyH_ready (rs := [8]) (by kernel_rfl) (by simp) ?_
            refine (AllReadyH.cons rfl (fun K hK => ?bo12x8) AllReadyH.nil)
            case bo12x8 =>
              go_simp
              have hSS : (w7.alloc (.cells #[.int .i64 (-c)] 3)).cell? ⟨w.heap.size, 2, none⟩ = some (.slice (some ad) n co) ∧ (w7.alloc (.cells #[.int .i64 (-c)] 3)).cell? (ad.add j) = some (.int .i64 c) := ⟨by simp [go_sem, F7, y7w2, y7w1, y7w0, y7wp1, y7wp2], (Below.cell (by repeat (first | with_reducible exact Below.refl _ _ | with_reducible apply bdrew | with_reducible apply bdrewN | with_reducible apply balloc | ((with_reducible refine bset ?_ ?_ _); rotate_left; (first | omega | (simp <;> omega)))) : Below w7.heap.size w7 (w7.alloc (.cells #[.int .i64 (-c)] 3))) (blt hcc)).trans hcc⟩
              go_wp2_with fail
              refine hK.out _ _ hSS (fun hHeld => ?_)
              clear hK K
              try simp only [Act.put, List.getElem_toArray, List.getElem_cons_succ, List.getElem_cons_zero, List.setIfInBounds_toArray, List.set_cons_zero, List.set_cons_succ]
              refine wpAnyH_ready (rs := [9]) (by kernel_rfl) (by simp) ?_
              refine AllReadyH.cons rfl (fun K hK => ?_) AllReadyH.nil
              refine step_push_at rfl (.tmp 41) (.tmp 48) rfl w [(w.heap.size, 0, .slice AR m cr), (w.heap.size, 1, .slice AB m cb), (w.heap.size, 2, .slice (some ad) n co), (w.heap.size + 1, 0, .slice none 0 0), (w.heap.size + 1, 1, .slice none 0 0), (w.heap.size + 1, 2, .slice none 0 0), (w.heap.size + 1 + 1, 0, .slice A6 (j + 1) c6), (w.heap.size + 1 + 1, 1, vB), (w.heap.size + 1 + 1, 2, .slice none 0 0)] (w.heap.size + 1 + 1 + 1) vB (tbRow j fun j => - p.lp.c j) (-c) rfl (OwnI.below hB7 ?n1_1) ⟨w7.heap.size, 0, none⟩ 1 rfl ?n2_1 hlenB ?n3_1 ?n4_1 ?n5_1 ?n6_1 ?n7_1 ?nn_1
              case n1_1 => repeat (first | with_reducible exact Below.refl _ _ | with_reducible apply bdrew | with_reducible apply bdrewN | with_reducible apply balloc | ((with_reducible refine bset ?_ ?_ _); rotate_left; (first | omega | (simp <;> omega))))
              case n2_1 => simp [go_sem]
              case n3_1 => (simp <;> omega)
              case n4_1 => omega
              case n5_1 => repeat (first | with_reducible exact D7 | with_reducible apply bdrew | with_reducible apply bdrewN | with_reducible apply balloc | ((with_reducible refine bset ?_ ?_ _); rotate_left; (first | omega | (simp <;> omega))))
              case n6_1 => simp [Cls, go_sem, F7, y7w2, y7w1, y7w0, y7wp1, y7wp2]
              case n7_1 => (simp <;> omega)
              all_goals first | done | skip
              intro g8 cap8 w8 o8 D8 C8 sz8 G8 at8
              rw [show ((tbRow j fun j => - p.lp.c j)).length = j from tbRow_len _ _] at o8
              have nv8 : vB.ownBlock = some g8 ∨ g8 = w7.heap.size + 1 := (by rcases at8 with h | h; exact Or.inl h; exact Or.inr (by rw [h]; simp))
              clear at8
              have d8s := D8.size
              have F8 := C8
              simp only [Cls, and_true] at F8
              have y8w2 : w.heap.size + 1 + 1 < w8.heap.size := C8.blk (b := w.heap.size + 1 + 1) (k := 0) (v := .slice A6 (j + 1) c6) (by simp)
              have y8w1 : w.heap.size + 1 < w8.heap.size := (by omega)
              have y8w0 : w.heap.size < w8.heap.size := (by omega)
              have y8wp1 : w.heap.size < w8.heap.size + 1 := (by omega)
              have y8wp2 : w.heap.size < w8.heap.size + 1 + 1 := (by omega)
              have hx8 := (D8.cell (World.block_lt_of_cell? w _ hcw0)).trans hcw0
              have hSS : w8.cell? ⟨w.heap.size, 2, none⟩ = some (.slice (some ad) n co) ∧ w8.cell? (ad.add j) = some (.int .i64 c) := (by simp [F8, hx8])
              rw [tbRow_len]
              go_wp2_with fail
              refine hK.out _ _ hSS (fun hHeld => ?_)
              clear hK K
              try simp only [Act.put, List.getElem_toArray, List.getElem_cons_succ, List.getElem_cons_zero, List.setIfInBounds_toArray, List.set_cons_zero, List.set_cons_succ]
              refine wpAnyH_take (i := 10) (v := ?vo1l410) rfl (by kernel_rfl) (by kernel_rfl) (by kernel_rfl) (fun _ _ _ h => h) (Or.inl ⟨by rfl, ?ho1l410⟩) (by assumption) ?ro1l410
              case ho1l410 => (intro w hSw; (try dsimp only at hSw); go_simp; (try with_reducible rfl))
              try simp only [Act.put, List.getElem_toArray, List.getElem_cons_succ, List.getElem_cons_zero, List.setIfInBounds_toArray, List.set_cons_zero, List.set_cons_succ]
              refine wpAnyH_ready (rs := [11]) (by kernel_rfl) (by simp) ?_
              refine AllReadyH.cons rfl (fun K hK => ?_) AllReadyH.nil
              go_simp
              go_wp2_with fail
              refine hK.out _ _ ⟨by simp [go_sem, F8, y8w2, y8w1, y8w0, y8wp1, y8wp2], ((by repeat (first | with_reducible exact D8 | with_reducible apply bdrew | with_reducible apply bdrewN | with_reducible apply balloc | ((with_reducible refine bset ?_ ?_ _); rotate_left; (first | omega | (simp <;> omega)))) : Below w.heap.size w _).cell (blt hcw0)).trans hcw0⟩ (fun hHeld => ?_)
              clear hK K
              try simp only [Act.put, List.getElem_toArray, List.getElem_cons_succ, List.getElem_cons_zero, List.setIfInBounds_toArray, List.set_cons_zero, List.set_cons_succ]
              refine wpAnyH_done (by kernel_rfl) ?_ _

              go_wp2
              have sz8' : w7.heap.size < w8.heap.size := by have h := sz8; simp at h; omega
              have nv8' : (Value.slice (some ⟨g8, 0, none⟩) (j + 1) cap8).ownBlock = vB.ownBlock ∨ (Value.slice (some ⟨g8, 0, none⟩) (j + 1) cap8).ownBlock = some (w7.heap.size + 1) := (by rcases nv8 with h | h; exact Or.inl h.symm; exact Or.inr (by rw [h]; rfl))
              have hRo := OwnAx.other (hR7.below (by repeat (first | with_reducible exact Below.refl _ _ | with_reducible apply bdrew | with_reducible apply bdrewN | with_reducible apply balloc | ((with_reducible refine bset ?_ ?_ _); rotate_left; (first | omega | (simp <;> omega)))) : Below w7.heap.size w7 (w7.alloc (.cells #[.int .i64 (-c)] 3)).drew)) G8 (fun k hk hb => by
                rcases nv6 with e | e
                · exact HP.out.2.1 k (by rw [← e]; exact hk) hb
                · rw [e] at hk; have h1 := hbw k hb; injection hk with hk; omega) (fun x hx ad e hb => by
                rcases List.mem_append.1 hx with hx | hx
                · exact HP.out.2.2 x hx ad e hb
                · simp at hx; subst hx; have h1 := hbw _ hb; have h2 := (HK5.out ad e).1; omega)
              have HPN : Hid ((els ++ [(A5, c5, L5)]).map (·.2.2) = (List.range (j + 1)).map (fun j => tbRow m fun k => - p.lp.A k j) ∧ Sep (.slice A6 (j + 1) c6) (.slice (some ⟨g8, 0, none⟩) (j + 1) cap8) ∧ ∀ x ∈ els ++ [(A5, c5, L5)], ∀ ad, x.1 = some ad → (Value.slice (some ⟨g8, 0, none⟩) (j + 1) cap8).ownBlock ≠ some ad.block) := Lib.hid (by
                obtain ⟨q1, q2, q3⟩ := HP.out
                refine ⟨by rw [List.map_append, q1, rows_snoc, hL5.out]; rfl, ?_, fun x hx ad e hb => ?_⟩
                · refine Sep.next (v := vB) (K := w7.heap.size + 1) (fun k hk hb => ?_) nv8' (fun k hk => Nat.lt_succ_of_lt (h6lt k hk))
                  rcases nv6 with e | e
                  · exact q2 k (by rw [← e]; exact hk) hb
                  · rw [e] at hk; have h1 := hbw k hb; injection hk with hk; omega
                · have hx7 : ad.block < w2.heap.size := by
                    rcases List.mem_append.1 hx with hx | hx
                    · have := hin x hx ad e; omega
                    · simp at hx; subst hx; exact (HK5.out ad e).2
                  rcases nv8' with e8 | e8
                  · rw [e8] at hb
                    rcases List.mem_append.1 hx with hx | hx
                    · exact q3 x hx ad e hb
                    · simp at hx; subst hx; have h1 := hbw _ hb; have h2 := (HK5.out ad e).1; omega
                  · rw [e8] at hb; injection hb with hb; omega)
              go_roundw
              case rel => exact ⟨j + 1, els ++ [(A5, c5, L5)], .slice A6 (j + 1) c6, .slice (some ⟨g8, 0, none⟩) (j + 1) cap8, by omega, by go_num, HPN, (OwnAx.far hRo (p := ⟨w.heap.size + 1 + 1, 1, none⟩) (by dsimp only; omega) _).below (by repeat (first | with_reducible exact Below.refl _ _ | with_reducible apply bdrew | with_reducible apply bdrewN | with_reducible apply balloc | ((with_reducible refine bset ?_ ?_ _); rotate_left; (first | omega | (simp <;> omega))))), (by rw [HE.out]; exact (OwnI.far o8 (p := ⟨w.heap.size + 1 + 1, 1, none⟩) (by dsimp only; omega) _).below (by repeat (first | with_reducible exact Below.refl _ _ | with_reducible apply bdrew | with_reducible apply bdrewN | with_reducible apply balloc | ((with_reducible refine bset ?_ ?_ _); rotate_left; (first | omega | (simp <;> omega)))))), by repeat (first | with_reducible exact D8 | with_reducible apply bdrew | with_reducible apply bdrewN | with_reducible apply balloc | ((with_reducible refine bset ?_ ?_ _); rotate_left; (first | omega | (simp <;> omega)))), by simp [Cls, go_sem, F8, y8w2, y8w1, y8w0, y8wp1, y8wp2]⟩
              case measure => simp [intOf]; omega
          case bo11x8 =>
            go_simp
            have hSS : (w7.alloc (.cells #[.int .i64 (-c)] 3)).cell? ⟨w.heap.size, 2, none⟩ = some (.slice (some ad) n co) ∧ (w7.alloc (.cells #[.int .i64 (-c)] 3)).cell? (ad.add j) = some (.int .i64 c) := ⟨by simp [go_sem, F7, y7w2, y7w1, y7w0, y7wp1, y7wp2], (Below.cell (by repeat (first | with_reducible exact Below.refl _ _ | with_reducible apply bdrew | with_reducible apply bdrewN | with_reducible apply balloc | ((with_reducible refine bset ?_ ?_ _); rotate_left; (first | omega | (simp <;> omega)))) : Below w7.heap.size w7 (w7.alloc (.cells #[.int .i64 (-c)] 3))) (blt hcc)).trans hcc⟩
            go_wp2_with fail
            refine hK.out _ _ hSS (fun hHeld => ?_)
            clear hK K
            try simp only [Act.put, List.getElem_toArray, List.getElem_cons_succ, List.getElem_cons_zero, List.setIfInBounds_toArray, List.set_cons_zero, List.set_cons_succ]
            refine wpAnyH_ready (rs := [1]) (by kernel_rfl) (by simp) ?_
            refine (AllReadyH.cons rfl (fun K hK => ?bo16x1) AllReadyH.nil)
            case bo16x1 =>
              go_simp
              have hSS := hHeld
              go_wp2_with fail
              refine hK.out _ _ hSS (fun hHeld => ?_)
              clear hK K
              try simp only [Act.put, List.getElem_toArray, List.getElem_cons_succ, List.getElem_cons_zero, List.setIfInBounds_toArray, List.set_cons_zero, List.set_cons_succ]
              refine wpAnyH_ready (rs := [9]) (by kernel_rfl) (by simp) ?_
              refine AllReadyH.cons rfl (fun K hK => ?_) AllReadyH.nil
              refine step_push_at rfl (.tmp 41) (.tmp 48) rfl w [(w.heap.size, 0, .slice AR m cr), (w.heap.size, 1, .slice AB m cb), (w.heap.size, 2, .slice (some ad) n co), (w.heap.size + 1, 0, .slice none 0 0), (w.heap.size + 1, 1, .slice none 0 0), (w.heap.size + 1, 2, .slice none 0 0), (w.heap.size + 1 + 1, 0, .slice A6 (j + 1) c6), (w.heap.size + 1 + 1, 1, vB), (w.heap.size + 1 + 1, 2, .slice none 0 0)] (w.heap.size + 1 + 1 + 1) vB (tbRow j fun j => - p.lp.c j) (-c) rfl (OwnI.below hB7 ?n1_2) ⟨w7.heap.size, 0, none⟩ 1 rfl ?n2_2 hlenB ?n3_2 ?n4_2 ?n5_2 ?n6_2 ?n7_2 ?nn_2
              case n1_2 => repeat (first | with_reducible exact Below.refl _ _ | with_reducible apply bdrew | with_reducible apply bdrewN | with_reducible apply balloc | ((with_reducible refine bset ?_ ?_ _); rotate_left; (first | omega | (simp <;> omega))))
              case n2_2 => simp [go_sem]
              case n3_2 => (simp <;> omega)
              case n4_2 => omega
              case n5_2 => repeat (first | with_reducible exact D7 | with_reducible apply bdrew | with_reducible apply bdrewN | with_reducible apply balloc | ((with_reducible refine bset ?_ ?_ _); rotate_left; (first | omega | (simp <;> omega))))
              case n6_2 => simp [Cls, go_sem, F7, y7w2, y7w1, y7w0, y7wp1, y7wp2]
              case n7_2 => (simp <;> omega)
              all_goals first | done | skip
              intro g8 cap8 w8 o8 D8 C8 sz8 G8 at8
              rw [show ((tbRow j fun j => - p.lp.c j)).length = j from tbRow_len _ _] at o8
              have nv8 : vB.ownBlock = some g8 ∨ g8 = w7.heap.size + 1 := (by rcases at8 with h | h; exact Or.inl h; exact Or.inr (by rw [h]; simp))
              clear at8
              have d8s := D8.size
              have F8 := C8
              simp only [Cls, and_true] at F8
              have y8w2 : w.heap.size + 1 + 1 < w8.heap.size := C8.blk (b := w.heap.size + 1 + 1) (k := 0) (v := .slice A6 (j + 1) c6) (by simp)
              have y8w1 : w.heap.size + 1 < w8.heap.size := (by omega)
              have y8w0 : w.heap.size < w8.heap.size := (by omega)
              have y8wp1 : w.heap.size < w8.heap.size + 1 := (by omega)
              have y8wp2 : w.heap.size < w8.heap.size + 1 + 1 := (by omega)
              have hx8 := (D8.cell (World.block_lt_of_cell? w _ hcw0)).trans hcw0
              have hSS : w8.cell? ⟨w.heap.size, 2, none⟩ = some (.slice (some ad) n co) ∧ w8.cell? (ad.add j) = some (.int .i64 c) := (by simp [F8, hx8])
              rw [tbRow_len]
              go_wp2_with fail
              refine hK.out _ _ hSS (fun hHeld => ?_)
              clear hK K
              try simp only [Act.put, List.getElem_toArray, List.getElem_cons_succ, List.getElem_cons_zero, List.setIfInBounds_toArray, List.set_cons_zero, List.set_cons_succ]
              refine wpAnyH_take (i := 10) (v := ?vo1l810) rfl (by kernel_rfl) (by kernel_rfl) (by kernel_rfl) (fun _ _ _ h => h) (Or.inl ⟨by rfl, ?ho1l810⟩) (by assumption) ?ro1l810
              case ho1l810 => (intro w hSw; (try dsimp only at hSw); go_simp; (try with_reducible rfl))
              try simp only [Act.put, List.getElem_toArray, List.getElem_cons_succ, List.getElem_cons_zero, List.setIfInBounds_toArray, List.set_cons_zero, List.set_cons_succ]
              refine wpAnyH_ready (rs := [11]) (by kernel_rfl) (by simp) ?_
              refine AllReadyH.cons rfl (fun K hK => ?_) AllReadyH.nil
              go_simp
              go_wp2_with fail
              refine hK.out _ _ ⟨by simp [go_sem, F8, y8w2, y8w1, y8w0, y8wp1, y8wp2], ((by repeat (first | with_reducible exact D8 | with_reducible apply bdrew | with_reducible apply bdrewN | with_reducible apply balloc | ((with_reducible refine bset ?_ ?_ _); rotate_left; (first | omega | (simp <;> omega)))) : Below w.heap.size w _).cell (blt hcw0)).trans hcw0⟩ (fun hHeld => ?_)
              clear hK K
              try simp only [Act.put, List.getElem_toArray, List.getElem_cons_succ, List.getElem_cons_zero, List.setIfInBounds_toArray, List.set_cons_zero, List.set_cons_succ]
              refine wpAnyH_done (by kernel_rfl) ?_ _

              go_wp2
              have sz8' : w7.heap.size < w8.heap.size := by have h := sz8; simp at h; omega
              have nv8' : (Value.slice (some ⟨g8, 0, none⟩) (j + 1) cap8).ownBlock = vB.ownBlock ∨ (Value.slice (some ⟨g8, 0, none⟩) (j + 1) cap8).ownBlock = some (w7.heap.size + 1) := (by rcases nv8 with h | h; exact Or.inl h.symm; exact Or.inr (by rw [h]; rfl))
              have hRo := OwnAx.other (hR7.below (by repeat (first | with_reducible exact Below.refl _ _ | with_reducible apply bdrew | with_reducible apply bdrewN | with_reducible apply balloc | ((with_reducible refine bset ?_ ?_ _); rotate_left; (first | omega | (simp <;> omega)))) : Below w7.heap.size w7 (w7.alloc (.cells #[.int .i64 (-c)] 3)).drew)) G8 (fun k hk hb => by
                rcases nv6 with e | e
                · exact HP.out.2.1 k (by rw [← e]; exact hk) hb
                · rw [e] at hk; have h1 := hbw k hb; injection hk with hk; omega) (fun x hx ad e hb => by
                rcases List.mem_append.1 hx with hx | hx
                · exact HP.out.2.2 x hx ad e hb
                · simp at hx; subst hx; have h1 := hbw _ hb; have h2 := (HK5.out ad e).1; omega)
              have HPN : Hid ((els ++ [(A5, c5, L5)]).map (·.2.2) = (List.range (j + 1)).map (fun j => tbRow m fun k => - p.lp.A k j) ∧ Sep (.slice A6 (j + 1) c6) (.slice (some ⟨g8, 0, none⟩) (j + 1) cap8) ∧ ∀ x ∈ els ++ [(A5, c5, L5)], ∀ ad, x.1 = some ad → (Value.slice (some ⟨g8, 0, none⟩) (j + 1) cap8).ownBlock ≠ some ad.block) := Lib.hid (by
                obtain ⟨q1, q2, q3⟩ := HP.out
                refine ⟨by rw [List.map_append, q1, rows_snoc, hL5.out]; rfl, ?_, fun x hx ad e hb => ?_⟩
                · refine Sep.next (v := vB) (K := w7.heap.size + 1) (fun k hk hb => ?_) nv8' (fun k hk => Nat.lt_succ_of_lt (h6lt k hk))
                  rcases nv6 with e | e
                  · exact q2 k (by rw [← e]; exact hk) hb
                  · rw [e] at hk; have h1 := hbw k hb; injection hk with hk; omega
                · have hx7 : ad.block < w2.heap.size := by
                    rcases List.mem_append.1 hx with hx | hx
                    · have := hin x hx ad e; omega
                    · simp at hx; subst hx; exact (HK5.out ad e).2
                  rcases nv8' with e8 | e8
                  · rw [e8] at hb
                    rcases List.mem_append.1 hx with hx | hx
                    · exact q3 x hx ad e hb
                    · simp at hx; subst hx; have h1 := hbw _ hb; have h2 := (HK5.out ad e).1; omega
                  · rw [e8] at hb; injection hb with hb; omega)
              go_roundw
              case rel => exact ⟨j + 1, els ++ [(A5, c5, L5)], .slice A6 (j + 1) c6, .slice (some ⟨g8, 0, none⟩) (j + 1) cap8, by omega, by go_num, HPN, (OwnAx.far hRo (p := ⟨w.heap.size + 1 + 1, 1, none⟩) (by dsimp only; omega) _).below (by repeat (first | with_reducible exact Below.refl _ _ | with_reducible apply bdrew | with_reducible apply bdrewN | with_reducible apply balloc | ((with_reducible refine bset ?_ ?_ _); rotate_left; (first | omega | (simp <;> omega))))), (by rw [HE.out]; exact (OwnI.far o8 (p := ⟨w.heap.size + 1 + 1, 1, none⟩) (by dsimp only; omega) _).below (by repeat (first | with_reducible exact Below.refl _ _ | with_reducible apply bdrew | with_reducible apply bdrewN | with_reducible apply balloc | ((with_reducible refine bset ?_ ?_ _); rotate_left; (first | omega | (simp <;> omega)))))), by repeat (first | with_reducible exact D8 | with_reducible apply bdrew | with_reducible apply bdrewN | with_reducible apply balloc | ((with_reducible refine bset ?_ ?_ _); rotate_left; (first | omega | (simp <;> omega)))), by simp [Cls, go_sem, F8, y8w2, y8w1, y8w0, y8wp1, y8wp2]⟩
              case measure => simp [intOf]; omega
    · obtain rfl : n = j := by omega
      obtain ⟨AX, cx, hvR⟩ := OwnEs.form hR
      rw [hlenE] at hvR
      subst hvR
      obtain ⟨AY, cy, hvB, -, -⟩ := hB.form
      rw [tbRow_len] at hvB
      subst hvB
      have HMB := Lib.hid HP.out.1
      clear HP
      go_wp2_with fail
      go_loopw [7] (fun x wr => ∃ (i : Nat) (vO : Value), i ≤ m ∧ x = .int .i64 i ∧ OwnAx (w.heap.size + 1 + 1 + 1) wr (.slice AX n cx) els ∧ OwnI (w.heap.size + 1 + 1 + 1) wr (.slice AY n cy) (tbRow n fun j => - p.lp.c j) ∧ OwnI w1.heap.size wr vO (tbRow i fun k => - p.lp.b k) ∧ Below w.heap.size w wr ∧ Cls wr [(w.heap.size, 0, .slice AR m cr), (w.heap.size, 1, .slice AB m cb), (w.heap.size, 2, .slice AO n co), (w.heap.size + 1, 0, .slice none 0 0), (w.heap.size + 1, 1, .slice none 0 0), (w.heap.size + 1, 2, .slice none 0 0), (w.heap.size + 1 + 1, 0, .slice AX n cx), (w.heap.size + 1 + 1, 1, .slice AY n cy), (w.heap.size + 1 + 1, 2, vO)] ∧ w1.heap.size ≤ wr.heap.size) (fun x _ => m - (intOf x).toNat)
      case atStart => exact ⟨0, .slice none 0 0, Nat.zero_le _, rfl, hR.below (by repeat (first | with_reducible exact Below.refl _ _ | with_reducible apply bdrew | with_reducible apply bdrewN | with_reducible apply balloc | ((with_reducible refine bset ?_ ?_ _); rotate_left; (first | omega | (simp <;> omega))))), hB.below (by repeat (first | with_reducible exact Below.refl _ _ | with_reducible apply bdrew | with_reducible apply bdrewN | with_reducible apply balloc | ((with_reducible refine bset ?_ ?_ _); rotate_left; (first | omega | (simp <;> omega))))), OwnI.nil _ _, by repeat (first | with_reducible exact hBr | with_reducible apply bdrew | with_reducible apply bdrewN | with_reducible apply balloc | ((with_reducible refine bset ?_ ?_ _); rotate_left; (first | omega | (simp <;> omega)))), by simp [Cls, go_sem, Fr, yrw2, yrw1, yrw0, yrwp1, yrwp2], Nat.le_refl _⟩
      case round =>
        obtain ⟨i, vO, hi, rfl, hR2, hB2, hO2, hBs, hCs, hsz⟩ := hrel
        obtain ⟨w2, rfl⟩ : ∃ wo : World, wo = wr := ⟨_, rfl⟩
        have dss := hBs.size
        have Fs := hCs
        simp only [Cls, and_true] at Fs
        have ysw2 : w.heap.size + 1 + 1 < w2.heap.size := hCs.blk (b := w.heap.size + 1 + 1) (k := 0) (v := .slice AX n cx) (by simp)
        have ysw1 : w.heap.size + 1 < w2.heap.size := (by omega)
        have ysw0 : w.heap.size < w2.heap.size := (by omega)
        have yswp1 : w.heap.size < w2.heap.size + 1 := (by omega)
        have yswp2 : w.heap.size < w2.heap.size + 1 + 1 := (by omega)
        by_cases hlt2 : i < m
        · obtain ⟨ad, c, hAB, hc, hcw0⟩ := HBO.out.at_ (k := i) (by rw [hbl.out]; exact hlt2)
          have hcc := (hBs.cell (World.block_lt_of_cell? w _ hcw0)).trans hcw0
          subst hAB
          have hcb := HOK.out.bound hc.out
          obtain ⟨hcb1, hcb2⟩ := hcb
          have HE := Lib.hid (show tbRow (i + 1) (fun k => - p.lp.b k) = tbRow i (fun k => - p.lp.b k) ++ [-c] by rw [tbRow_snoc, bnd_at hc.out])
          have hji : (i : Int) < (m : Int) := by omega
          have hlenO : (tbRow i fun k => - p.lp.b k).length < 1000000000000 := by rw [tbRow_len]; omega
          have hob : ∀ k, vO.ownBlock = some k → w1.heap.size ≤ k := fun k hk => (hO2.lt k hk).1
          have hwn : IntKind.i64.wrap (-c) = -c := Go.IntWalk.i64_in _ (by omega)
          go_wp2_with fail
          refine wp_region_held_drew (S := fun W => W.cell? ⟨w.heap.size, 1, none⟩ = some (.slice (some ad) m cb) ∧ W.cell? (ad.add i) = some (.int .i64 c)) (by kernel_rfl) (by simp [go_sem, hcc, Fs, ysw2, ysw1, ysw0, yswp1, yswp2]) (fun hHeld => ?_)
          refine wpAnyH_take (i := 0) (v := ?vo20) rfl (by kernel_rfl) (by kernel_rfl) (by kernel_rfl) (fun _ _ _ h => h) (Or.inl ⟨by rfl, ?ho20⟩) (by assumption) ?ro20
          case ho20 => (intro w hSw; (try dsimp only at hSw); go_simp; (try with_reducible rfl))
          try simp only [Act.put, List.getElem_toArray, List.getElem_cons_succ, List.getElem_cons_zero, List.setIfInBounds_toArray, List.set_cons_zero, List.set_cons_succ]
          refine wpAnyH_take (i := 2) (v := ?vo22) rfl (by kernel_rfl) (by kernel_rfl) (by kernel_rfl) (fun _ _ _ h => h) (Or.inl ⟨by rfl, ?ho22⟩) (by assumption) ?ro22
          case ho22 => (intro w hSw; (try dsimp only at hSw); go_simp; (try with_reducible rfl))
          try simp only [Act.put, List.getElem_toArray, List.getElem_cons_succ, List.getElem_cons_zero, List.setIfInBounds_toArray, List.set_cons_zero, List.set_cons_succ]
          refine wpAnyH_take (i := 3) (v := ?vo23) rfl (by kernel_rfl) (by kernel_rfl) (by kernel_rfl) (fun _ _ _ h => h) (Or.inl ⟨by rfl, ?ho23⟩) (by assumption) ?ro23
          case ho23 => (intro w hSw; (try dsimp only at hSw); go_simp; (try with_reducible rfl))
          try simp only [Act.put, List.getElem_toArray, List.getElem_cons_succ, List.getElem_cons_zero, List.setIfInBounds_toArray, List.set_cons_zero, List.set_cons_succ]
          refine wpAnyH_take (i := 4) (v := ?vo24) rfl (by kernel_rfl) (by kernel_rfl) (by kernel_rfl) (fun _ _ _ h => h) (Or.inl ⟨by rfl, ?ho24⟩) (by assumption) ?ro24
          case ho24 => (intro w hSw; (try dsimp only at hSw); go_simp; (try with_reducible rfl))
          try simp only [Act.put, List.getElem_toArray, List.getElem_cons_succ, List.getElem_cons_zero, List.setIfInBounds_toArray, List.set_cons_zero, List.set_cons_succ]
          refine wpAnyH_take (i := 5) (v := ?vo25) rfl (by kernel_rfl) (by kernel_rfl) (by kernel_rfl) (fun _ _ _ h => h) (Or.inl ⟨by rfl, ?ho25⟩) (by assumption) ?ro25
          case ho25 => (intro w hSw; (try dsimp only at hSw); go_simp; (try with_reducible rfl))
          try simp only [Act.put, List.getElem_toArray, List.getElem_cons_succ, List.getElem_cons_zero, List.setIfInBounds_toArray, List.set_cons_zero, List.set_cons_succ]
          refine wpAnyH_take (i := 6) (v := ?vo26) rfl (by kernel_rfl) (by kernel_rfl) (by kernel_rfl) (fun _ _ _ h => h) (Or.inl ⟨by rfl, ?ho26⟩) (by assumption) ?ro26
          case ho26 => (intro w hSw; (try dsimp only at hSw); go_simp; (try with_reducible rfl))
          try simp only [Act.put, List.getElem_toArray, List.getElem_cons_succ, List.getElem_cons_zero, List.setIfInBounds_toArray, List.set_cons_zero, List.set_cons_succ]
          refine wpAnyH_take (i := 7) (v := ?vo27) rfl (by kernel_rfl) (by kernel_rfl) (by kernel_rfl) (fun _ _ _ h => h) (Or.inl ⟨by rfl, ?ho27⟩) (by assumption) ?ro27
          case ho27 => (intro w hSw; (try dsimp only at hSw); go_simp; (try with_reducible rfl))
          try simp only [Act.put, List.getElem_toArray, List.getElem_cons_succ, List.getElem_cons_zero, List.setIfInBounds_toArray, List.set_cons_zero, List.set_cons_succ]
          refine wpAnyH_ready (rs := [1, 8]) (by kernel_rfl) (by simp) ?_
          refine (AllReadyH.cons rfl (fun K hK => ?bo21x1) (AllReadyH.cons rfl (fun K hK => ?bo21x8) AllReadyH.nil))
          case bo21x1 =>
            go_simp
            have hSS := hHeld
            go_wp2_with fail
            refine hK.out _ _ hSS (fun hHeld => ?_)
            clear hK K
            try simp only [Act.put, List.getElem_toArray, List.getElem_cons_succ, List.getElem_cons_zero, List.setIfInBounds_toArray, List.set_cons_zero, List.set_cons_succ]
            refine wpAnyH_ready (rs := [8]) (by kernel_rfl) (by simp) ?_
            refine (AllReadyH.cons rfl (fun K hK => ?bo22x8) AllReadyH.nil)
            case bo22x8 =>
              go_simp
              have hSS : (w2.alloc (.cells #[.int .i64 (-c)] 3)).cell? ⟨w.heap.size, 1, none⟩ = some (.slice (some ad) m cb) ∧ (w2.alloc (.cells #[.int .i64 (-c)] 3)).cell? (ad.add i) = some (.int .i64 c) := ⟨by simp [go_sem, Fs, ysw2, ysw1, ysw0, yswp1, yswp2], (Below.cell (by repeat (first | with_reducible exact Below.refl _ _ | with_reducible apply bdrew | with_reducible apply bdrewN | with_reducible apply balloc | ((with_reducible refine bset ?_ ?_ _); rotate_left; (first | omega | (simp <;> omega)))) : Below w2.heap.size w2 (w2.alloc (.cells #[.int .i64 (-c)] 3))) (blt hcc)).trans hcc⟩
              go_wp2_with fail
              refine hK.out _ _ hSS (fun hHeld => ?_)
              clear hK K
              try simp only [Act.put, List.getElem_toArray, List.getElem_cons_succ, List.getElem_cons_zero, List.setIfInBounds_toArray, List.set_cons_zero, List.set_cons_succ]
              refine wpAnyH_ready (rs := [9]) (by kernel_rfl) (by simp) ?_
              refine AllReadyH.cons rfl (fun K hK => ?_) AllReadyH.nil
              refine step_push_at rfl (.tmp 59) (.tmp 66) rfl w [(w.heap.size, 0, .slice AR m cr), (w.heap.size, 1, .slice (some ad) m cb), (w.heap.size, 2, .slice AO n co), (w.heap.size + 1, 0, .slice none 0 0), (w.heap.size + 1, 1, .slice none 0 0), (w.heap.size + 1, 2, .slice none 0 0), (w.heap.size + 1 + 1, 0, .slice AX n cx), (w.heap.size + 1 + 1, 1, .slice AY n cy), (w.heap.size + 1 + 1, 2, vO)] (w1.heap.size) vO (tbRow i fun k => - p.lp.b k) (-c) rfl (OwnI.below hO2 ?n1_3) ⟨w2.heap.size, 0, none⟩ 1 rfl ?n2_3 hlenO ?n3_3 ?n4_3 ?n5_3 ?n6_3 ?n7_3 ?nn_3
              case n1_3 => repeat (first | with_reducible exact Below.refl _ _ | with_reducible apply bdrew | with_reducible apply bdrewN | with_reducible apply balloc | ((with_reducible refine bset ?_ ?_ _); rotate_left; (first | omega | (simp <;> omega))))
              case n2_3 => simp [go_sem]
              case n3_3 => (simp <;> omega)
              case n4_3 => omega
              case n5_3 => repeat (first | with_reducible exact hBs | with_reducible apply bdrew | with_reducible apply bdrewN | with_reducible apply balloc | ((with_reducible refine bset ?_ ?_ _); rotate_left; (first | omega | (simp <;> omega))))
              case n6_3 => simp [Cls, go_sem, Fs, ysw2, ysw1, ysw0, yswp1, yswp2]
              case n7_3 => (simp <;> omega)
              all_goals first | done | skip
              intro g8 cap8 w8 o8 D8 C8 sz8 G8 at8
              rw [show ((tbRow i fun k => - p.lp.b k)).length = i from tbRow_len _ _] at o8
              have nv8 : vO.ownBlock = some g8 ∨ g8 = w2.heap.size + 1 := (by rcases at8 with h | h; exact Or.inl h; exact Or.inr (by rw [h]; simp))
              clear at8
              have d8s := D8.size
              have F8 := C8
              simp only [Cls, and_true] at F8
              have y8w2 : w.heap.size + 1 + 1 < w8.heap.size := C8.blk (b := w.heap.size + 1 + 1) (k := 0) (v := .slice AX n cx) (by simp)
              have y8w1 : w.heap.size + 1 < w8.heap.size := (by omega)
              have y8w0 : w.heap.size < w8.heap.size := (by omega)
              have y8wp1 : w.heap.size < w8.heap.size + 1 := (by omega)
              have y8wp2 : w.heap.size < w8.heap.size + 1 + 1 := (by omega)
              have hx8 := (D8.cell (World.block_lt_of_cell? w _ hcw0)).trans hcw0
              have hSS : w8.cell? ⟨w.heap.size, 1, none⟩ = some (.slice (some ad) m cb) ∧ w8.cell? (ad.add i) = some (.int .i64 c) := (by simp [F8, hx8])
              rw [tbRow_len]
              go_wp2_with fail
              refine hK.out _ _ hSS (fun hHeld => ?_)
              clear hK K
              try simp only [Act.put, List.getElem_toArray, List.getElem_cons_succ, List.getElem_cons_zero, List.setIfInBounds_toArray, List.set_cons_zero, List.set_cons_succ]
              refine wpAnyH_take (i := 10) (v := ?vo2l410) rfl (by kernel_rfl) (by kernel_rfl) (by kernel_rfl) (fun _ _ _ h => h) (Or.inl ⟨by rfl, ?ho2l410⟩) (by assumption) ?ro2l410
              case ho2l410 => (intro w hSw; (try dsimp only at hSw); go_simp; (try with_reducible rfl))
              try simp only [Act.put, List.getElem_toArray, List.getElem_cons_succ, List.getElem_cons_zero, List.setIfInBounds_toArray, List.set_cons_zero, List.set_cons_succ]
              refine wpAnyH_ready (rs := [11]) (by kernel_rfl) (by simp) ?_
              refine AllReadyH.cons rfl (fun K hK => ?_) AllReadyH.nil
              go_simp
              go_wp2_with fail
              refine hK.out _ _ ⟨by simp [go_sem, F8, y8w2, y8w1, y8w0, y8wp1, y8wp2], ((by repeat (first | with_reducible exact D8 | with_reducible apply bdrew | with_reducible apply bdrewN | with_reducible apply balloc | ((with_reducible refine bset ?_ ?_ _); rotate_left; (first | omega | (simp <;> omega)))) : Below w.heap.size w _).cell (blt hcw0)).trans hcw0⟩ (fun hHeld => ?_)
              clear hK K
              try simp only [Act.put, List.getElem_toArray, List.getElem_cons_succ, List.getElem_cons_zero, List.setIfInBounds_toArray, List.set_cons_zero, List.set_cons_succ]
              refine wpAnyH_done (by kernel_rfl) ?_ _

              go_wp2
              have sz8' : w2.heap.size < w8.heap.size := by have h := sz8; simp at h; omega
              have hR8 := OwnAx.other (hR2.below (by repeat (first | with_reducible exact Below.refl _ _ | with_reducible apply bdrew | with_reducible apply bdrewN | with_reducible apply balloc | ((with_reducible refine bset ?_ ?_ _); rotate_left; (first | omega | (simp <;> omega)))) : Below w2.heap.size w2 (w2.alloc (.cells #[.int .i64 (-c)] 3)).drew)) G8 (fun k hk hb => by have := hob k hb; have := hrw k hk; omega) (fun x hx ad e hb => by have := hob _ hb; have := hin x hx ad e; omega)
              have hB8 := own_grown_i (u := vO) (hB2.below (by repeat (first | with_reducible exact Below.refl _ _ | with_reducible apply bdrew | with_reducible apply bdrewN | with_reducible apply balloc | ((with_reducible refine bset ?_ ?_ _); rotate_left; (first | omega | (simp <;> omega)))) : Below w2.heap.size w2 (w2.alloc (.cells #[.int .i64 (-c)] 3)).drew)) G8 (fun k hk hb => by have := hob k hk; have := hbw k hb; omega)
              go_roundw
              case rel => exact ⟨i + 1, .slice (some ⟨g8, 0, none⟩) (i + 1) cap8, by omega, by go_num, (OwnAx.far hR8 (p := ⟨w.heap.size + 1 + 1, 2, none⟩) (by dsimp only; omega) _).below (by repeat (first | with_reducible exact Below.refl _ _ | with_reducible apply bdrew | with_reducible apply bdrewN | with_reducible apply balloc | ((with_reducible refine bset ?_ ?_ _); rotate_left; (first | omega | (simp <;> omega))))), (OwnI.far hB8 (p := ⟨w.heap.size + 1 + 1, 2, none⟩) (by dsimp only; omega) _).below (by repeat (first | with_reducible exact Below.refl _ _ | with_reducible apply bdrew | with_reducible apply bdrewN | with_reducible apply balloc | ((with_reducible refine bset ?_ ?_ _); rotate_left; (first | omega | (simp <;> omega))))), (by rw [HE.out]; exact (OwnI.far o8 (p := ⟨w.heap.size + 1 + 1, 2, none⟩) (by dsimp only; omega) _).below (by repeat (first | with_reducible exact Below.refl _ _ | with_reducible apply bdrew | with_reducible apply bdrewN | with_reducible apply balloc | ((with_reducible refine bset ?_ ?_ _); rotate_left; (first | omega | (simp <;> omega)))))), by repeat (first | with_reducible exact D8 | with_reducible apply bdrew | with_reducible apply bdrewN | with_reducible apply balloc | ((with_reducible refine bset ?_ ?_ _); rotate_left; (first | omega | (simp <;> omega)))), by simp [Cls, go_sem, F8, y8w2, y8w1, y8w0, y8wp1, y8wp2], by simp; omega⟩
              case measure => simp [intOf]; omega
          case bo21x8 =>
            go_simp
            have hSS : (w2.alloc (.cells #[.int .i64 (-c)] 3)).cell? ⟨w.heap.size, 1, none⟩ = some (.slice (some ad) m cb) ∧ (w2.alloc (.cells #[.int .i64 (-c)] 3)).cell? (ad.add i) = some (.int .i64 c) := ⟨by simp [go_sem, Fs, ysw2, ysw1, ysw0, yswp1, yswp2], (Below.cell (by repeat (first | with_reducible exact Below.refl _ _ | with_reducible apply bdrew | with_reducible apply bdrewN | with_reducible apply balloc | ((with_reducible refine bset ?_ ?_ _); rotate_left; (first | omega | (simp <;> omega)))) : Below w2.heap.size w2 (w2.alloc (.cells #[.int .i64 (-c)] 3))) (blt hcc)).trans hcc⟩
            go_wp2_with fail
            refine hK.out _ _ hSS (fun hHeld => ?_)
            clear hK K
            try simp only [Act.put, List.getElem_toArray, List.getElem_cons_succ, List.getElem_cons_zero, List.setIfInBounds_toArray, List.set_cons_zero, List.set_cons_succ]
            refine wpAnyH_ready (rs := [1]) (by kernel_rfl) (by simp) ?_
            refine (AllReadyH.cons rfl (fun K hK => ?bo26x1) AllReadyH.nil)
            case bo26x1 =>
              go_simp
              have hSS := hHeld
              go_wp2_with fail
              refine hK.out _ _ hSS (fun hHeld => ?_)
              clear hK K
              try simp only [Act.put, List.getElem_toArray, List.getElem_cons_succ, List.getElem_cons_zero, List.setIfInBounds_toArray, List.set_cons_zero, List.set_cons_succ]
              refine wpAnyH_ready (rs := [9]) (by kernel_rfl) (by simp) ?_
              refine AllReadyH.cons rfl (fun K hK => ?_) AllReadyH.nil
              refine step_push_at rfl (.tmp 59) (.tmp 66) rfl w [(w.heap.size, 0, .slice AR m cr), (w.heap.size, 1, .slice (some ad) m cb), (w.heap.size, 2, .slice AO n co), (w.heap.size + 1, 0, .slice none 0 0), (w.heap.size + 1, 1, .slice none 0 0), (w.heap.size + 1, 2, .slice none 0 0), (w.heap.size + 1 + 1, 0, .slice AX n cx), (w.heap.size + 1 + 1, 1, .slice AY n cy), (w.heap.size + 1 + 1, 2, vO)] (w1.heap.size) vO (tbRow i fun k => - p.lp.b k) (-c) rfl (OwnI.below hO2 ?n1_4) ⟨w2.heap.size, 0, none⟩ 1 rfl ?n2_4 hlenO ?n3_4 ?n4_4 ?n5_4 ?n6_4 ?n7_4 ?nn_4
              case n1_4 => repeat (first | with_reducible exact Below.refl _ _ | with_reducible apply bdrew | with_reducible apply bdrewN | with_reducible apply balloc | ((with_reducible refine bset ?_ ?_ _); rotate_left; (first | omega | (simp <;> omega))))
              case n2_4 => simp [go_sem]
              case n3_4 => (simp <;> omega)
              case n4_4 => omega
              case n5_4 => repeat (first | with_reducible exact hBs | with_reducible apply bdrew | with_reducible apply bdrewN | with_reducible apply balloc | ((with_reducible refine bset ?_ ?_ _); rotate_left; (first | omega | (simp <;> omega))))
              case n6_4 => simp [Cls, go_sem, Fs, ysw2, ysw1, ysw0, yswp1, yswp2]
              case n7_4 => (simp <;> omega)
              all_goals first | done | skip
              intro g8 cap8 w8 o8 D8 C8 sz8 G8 at8
              rw [show ((tbRow i fun k => - p.lp.b k)).length = i from tbRow_len _ _] at o8
              have nv8 : vO.ownBlock = some g8 ∨ g8 = w2.heap.size + 1 := (by rcases at8 with h | h; exact Or.inl h; exact Or.inr (by rw [h]; simp))
              clear at8
              have d8s := D8.size
              have F8 := C8
              simp only [Cls, and_true] at F8
              have y8w2 : w.heap.size + 1 + 1 < w8.heap.size := C8.blk (b := w.heap.size + 1 + 1) (k := 0) (v := .slice AX n cx) (by simp)
              have y8w1 : w.heap.size + 1 < w8.heap.size := (by omega)
              have y8w0 : w.heap.size < w8.heap.size := (by omega)
              have y8wp1 : w.heap.size < w8.heap.size + 1 := (by omega)
              have y8wp2 : w.heap.size < w8.heap.size + 1 + 1 := (by omega)
              have hx8 := (D8.cell (World.block_lt_of_cell? w _ hcw0)).trans hcw0
              have hSS : w8.cell? ⟨w.heap.size, 1, none⟩ = some (.slice (some ad) m cb) ∧ w8.cell? (ad.add i) = some (.int .i64 c) := (by simp [F8, hx8])
              rw [tbRow_len]
              go_wp2_with fail
              refine hK.out _ _ hSS (fun hHeld => ?_)
              clear hK K
              try simp only [Act.put, List.getElem_toArray, List.getElem_cons_succ, List.getElem_cons_zero, List.setIfInBounds_toArray, List.set_cons_zero, List.set_cons_succ]
              refine wpAnyH_take (i := 10) (v := ?vo2l810) rfl (by kernel_rfl) (by kernel_rfl) (by kernel_rfl) (fun _ _ _ h => h) (Or.inl ⟨by rfl, ?ho2l810⟩) (by assumption) ?ro2l810
              case ho2l810 => (intro w hSw; (try dsimp only at hSw); go_simp; (try with_reducible rfl))
              try simp only [Act.put, List.getElem_toArray, List.getElem_cons_succ, List.getElem_cons_zero, List.setIfInBounds_toArray, List.set_cons_zero, List.set_cons_succ]
              refine wpAnyH_ready (rs := [11]) (by kernel_rfl) (by simp) ?_
              refine AllReadyH.cons rfl (fun K hK => ?_) AllReadyH.nil
              go_simp
              go_wp2_with fail
              refine hK.out _ _ ⟨by simp [go_sem, F8, y8w2, y8w1, y8w0, y8wp1, y8wp2], ((by repeat (first | with_reducible exact D8 | with_reducible apply bdrew | with_reducible apply bdrewN | with_reducible apply balloc | ((with_reducible refine bset ?_ ?_ _); rotate_left; (first | omega | (simp <;> omega)))) : Below w.heap.size w _).cell (blt hcw0)).trans hcw0⟩ (fun hHeld => ?_)
              clear hK K
              try simp only [Act.put, List.getElem_toArray, List.getElem_cons_succ, List.getElem_cons_zero, List.setIfInBounds_toArray, List.set_cons_zero, List.set_cons_succ]
              refine wpAnyH_done (by kernel_rfl) ?_ _

              go_wp2
              have sz8' : w2.heap.size < w8.heap.size := by have h := sz8; simp at h; omega
              have hR8 := OwnAx.other (hR2.below (by repeat (first | with_reducible exact Below.refl _ _ | with_reducible apply bdrew | with_reducible apply bdrewN | with_reducible apply balloc | ((with_reducible refine bset ?_ ?_ _); rotate_left; (first | omega | (simp <;> omega)))) : Below w2.heap.size w2 (w2.alloc (.cells #[.int .i64 (-c)] 3)).drew)) G8 (fun k hk hb => by have := hob k hb; have := hrw k hk; omega) (fun x hx ad e hb => by have := hob _ hb; have := hin x hx ad e; omega)
              have hB8 := own_grown_i (u := vO) (hB2.below (by repeat (first | with_reducible exact Below.refl _ _ | with_reducible apply bdrew | with_reducible apply bdrewN | with_reducible apply balloc | ((with_reducible refine bset ?_ ?_ _); rotate_left; (first | omega | (simp <;> omega)))) : Below w2.heap.size w2 (w2.alloc (.cells #[.int .i64 (-c)] 3)).drew)) G8 (fun k hk hb => by have := hob k hk; have := hbw k hb; omega)
              go_roundw
              case rel => exact ⟨i + 1, .slice (some ⟨g8, 0, none⟩) (i + 1) cap8, by omega, by go_num, (OwnAx.far hR8 (p := ⟨w.heap.size + 1 + 1, 2, none⟩) (by dsimp only; omega) _).below (by repeat (first | with_reducible exact Below.refl _ _ | with_reducible apply bdrew | with_reducible apply bdrewN | with_reducible apply balloc | ((with_reducible refine bset ?_ ?_ _); rotate_left; (first | omega | (simp <;> omega))))), (OwnI.far hB8 (p := ⟨w.heap.size + 1 + 1, 2, none⟩) (by dsimp only; omega) _).below (by repeat (first | with_reducible exact Below.refl _ _ | with_reducible apply bdrew | with_reducible apply bdrewN | with_reducible apply balloc | ((with_reducible refine bset ?_ ?_ _); rotate_left; (first | omega | (simp <;> omega))))), (by rw [HE.out]; exact (OwnI.far o8 (p := ⟨w.heap.size + 1 + 1, 2, none⟩) (by dsimp only; omega) _).below (by repeat (first | with_reducible exact Below.refl _ _ | with_reducible apply bdrew | with_reducible apply bdrewN | with_reducible apply balloc | ((with_reducible refine bset ?_ ?_ _); rotate_left; (first | omega | (simp <;> omega)))))), by repeat (first | with_reducible exact D8 | with_reducible apply bdrew | with_reducible apply bdrewN | with_reducible apply balloc | ((with_reducible refine bset ?_ ?_ _); rotate_left; (first | omega | (simp <;> omega)))), by simp [Cls, go_sem, F8, y8w2, y8w1, y8w0, y8wp1, y8wp2], by simp; omega⟩
              case measure => simp [intOf]; omega
        · obtain rfl : m = i := by omega
          obtain ⟨AZ, cz, hvO, -, -⟩ := hO2.form
          rw [tbRow_len] at hvO
          subst hvO
          have HFin : ∀ W : World, OwnAx (w.heap.size + 1 + 1 + 1) W (.slice AX n cx) els → OwnI (w.heap.size + 1 + 1 + 1) W (.slice AY n cy) (tbRow n fun j => - p.lp.c j) → OwnI w1.heap.size W (.slice AZ m cz) (tbRow m fun k => - p.lp.b k) → LpMem W AX AY AZ (dualV p) := fun W h1 h2 h3 => by
            refine ⟨?_, ?_, ?_, ?_, ?_, ?_⟩
            · rw [HNO.out.1, ← HMB.out]; exact h1.read
            · rw [HNO.out.2.1]; exact h2.ints_at
            · rw [HNO.out.2.2]; exact h3.ints_at
            · rw [HNO.out.1, List.length_map, List.length_range]; omega
            · rw [HNO.out.2.1, tbRow_len]; omega
            · rw [HNO.out.2.2, tbRow_len]; omega
          have HFin' := Lib.hid HFin
          clear HFin
          go_wp2
          refine bodyPost_ret (v := .agg #[.slice AX n cx, .slice AY n cy, .slice AZ m cz]) ?_ rfl ⟨AX, AY, AZ, cx, cy, cz, rfl, HFin'.out _ (OwnAx.far (OwnAx.far (OwnAx.far hR2 (p := ⟨w.heap.size + 1, 0, none⟩) (by dsimp only; omega) _) (p := ⟨w.heap.size + 1, 1, none⟩) (by dsimp only; omega) _) (p := ⟨w.heap.size + 1, 2, none⟩) (by dsimp only; omega) _) (OwnI.far (OwnI.far (OwnI.far hB2 (p := ⟨w.heap.size + 1, 0, none⟩) (by dsimp only; omega) _) (p := ⟨w.heap.size + 1, 1, none⟩) (by dsimp only; omega) _) (p := ⟨w.heap.size + 1, 2, none⟩) (by dsimp only; omega) _) (OwnI.far (OwnI.far (OwnI.far hO2 (p := ⟨w.heap.size + 1, 0, none⟩) (by dsimp only; omega) _) (p := ⟨w.heap.size + 1, 1, none⟩) (by dsimp only; omega) _) (p := ⟨w.heap.size + 1, 2, none⟩) (by dsimp only; omega) _), by repeat (first | with_reducible exact hBs | with_reducible apply bdrew | with_reducible apply bdrewN | with_reducible apply balloc | ((with_reducible refine bset ?_ ?_ _); rotate_left; (first | omega | (simp <;> omega))))⟩
          simp [results, Try.results25, go_sem, Fs, ysw2, ysw1, ysw0, yswp1, yswp2]


end Go.Proofs.Ytkepfmglljkjhaa
