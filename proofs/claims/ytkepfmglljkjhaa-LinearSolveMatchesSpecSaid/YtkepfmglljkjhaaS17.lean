/-
  LinearValue of the reference: the walk.
-/
import Derived.Test.YtkepfmglljkjhaaS16
import Derived.Test.YtkepfmglljkjhaaS4
import Derived.Test.YtkepfmglljkjhaaS12
namespace Go.Proofs.Ytkepfmglljkjhaa
open Go.RowKit
set_option linter.unusedVariables false
set_option linter.unusedSimpArgs false

theorem alls_of {p : LpV} (hok : LpOk p) (bs : List Int) (hl : bs.length = p.rows.length) : LA.Alls p.lp (fun q => (bs[q]?).getD 0) (allA p.rows bs p.obj.length) := by
  refine ⟨allA_len _ _ _, fun q hq => ?_, fun k hk => ⟨_, allA_unit hk, fun j hj => ?_, ?_⟩⟩
  · have hq' : q < p.rows.length := hq
    have hr := List.getElem?_eq_getElem hq'
    have hy := List.getElem?_eq_getElem (show q < bs.length by omega)
    have h := atI_snoc (hok.row hr).1 bs[q]
    refine ⟨_, allA_row hr hy, fun j hj => ?_, ?_⟩
    · rw [h.1 j hj]
      show LA.atI p.rows[q] j = (((p.rows[q]?).getD [])[j]?).getD 0
      rw [hr]; rfl
    · show LA.atI _ p.obj.length = _
      rw [h.2, hy]; rfl
  · have hj' : j < p.obj.length := hj
    unfold unitR; rw [tb_atI _ (by omega)]
  · have hk' : k < p.obj.length := hk
    unfold unitR
    show LA.atI _ p.obj.length = 0
    rw [tb_atI _ (by omega), if_neg (by omega)]
theorem alls_zero {p : LpV} (hok : LpOk p) : LA.Alls p.lp (fun _ => 0) (allA p.rows (List.replicate p.rows.length 0) p.obj.length) := by
  have h := alls_of hok (List.replicate p.rows.length 0) (by simp)
  have e : (fun q : Nat => ((List.replicate p.rows.length (0 : Int))[q]?).getD 0) = fun _ => 0 := by
    funext q
    rw [List.getElem?_replicate]
    split <;> rfl
  rw [e] at h; exact h
theorem ones_at (n : Nat) : ∀ j, j ≤ n → LA.atI (onesR n) j = 1 := fun j hj => by unfold onesR; rw [tb_atI _ (by omega)]
theorem objv_dot (p : LpV) (x : List Int) : dotL p.obj.length p.obj x = LA.valP p.lp (LA.atI x) := rfl
theorem val_le {p : LpV} (hok : LpOk p) {x : List Int} (hx : ∀ y ∈ x, -5898240 ≤ y ∧ y ≤ 5898240) : -707788800 ≤ LA.valP p.lp (LA.atI x) ∧ LA.valP p.lp (LA.atI x) ≤ 707788800 := by
  have h := LA.sum_le6 (m := p.lp.n) (f := fun j => p.lp.c j * LA.atI x j) (B := 117964800) hok.n (fun j _ => by
    have h1 := hok.c_le j
    have h2 : -5898240 ≤ LA.atI x j ∧ LA.atI x j ≤ 5898240 := by
      unfold LA.atI
      cases e : x[j]? with
      | none => simp
      | some y => exact hx y (List.mem_of_getElem? e)
    have h3 := LA.abs_mul h1 h2
    omega) (by omega)
  unfold LA.valP
  omega
/-- A corner in memory. -/
theorem OwnCo.at2 {base : Nat} {w : World} {A : Option Addr} {q c : Nat} {cs : List (List Int × Int)} (h : OwnCo base w (.slice A q c) cs) {i : Nat} {x : List Int × Int} (hx : cs[i]? = some x) :
    ∃ g AV cV, A = some ⟨g, 0, none⟩ ∧ w.cell? ⟨g, i * 2, none⟩ = some (.slice AV x.1.length cV) ∧ w.cell? ⟨g, i * 2 + 1, none⟩ = some (.int .i64 x.2) ∧ Ints w AV x.1 := by
  obtain ⟨g, vs, a, e, _, _, ha, _, hc, AV, cV, rfl, hI, _⟩ := OwnEs.at_ h (i := i) (List.getElem?_eq_some_iff.1 hx).1
  have hax : a = x := by have := ha.out; rw [hx] at this; injection this with this; exact this.symm
  subst hax
  exact ⟨g, AV, cV, e, by have := hc 0 _ rfl; simpa using this, hc 1 _ rfl, hI⟩
theorem OwnCo.max {base : Nat} {w : World} {v : Value} {cs : List (List Int × Int)} (h : OwnCo base w v cs) : cs.length ≤ 9223372036854775807 := by
  obtain ⟨cells, hr, _⟩ := h
  rcases hr.2 with ⟨_, h2⟩ | ⟨g, cap, cur, _, _, _, h3, h4, _⟩
  · omega
  · simp only [maxLen] at h4; omega
/-- What LinearValue says. -/
def LvSays (p : LpV) (w : World) (e : Ending) (w' : World) : Prop :=
  ∃ st num den, e = .returned (.tuple #[.int .i64 st, .int .i64 num, .int .i64 den]) ∧ (∀ s0 n0 d0, LA.Outcome p.lp s0 n0 d0 → st = s0 ∧ (st = 1 → 0 < den ∧ num * d0 = n0 * den)) ∧ (-707788800 ≤ num ∧ num ≤ 707788800 ∧ 0 < den ∧ den ≤ 1179648) ∧ Below w.heap.size w w'
/-- The corners of a program and of its directions. -/
structure Found (p : LpV) (n : Nat) (cs rs : List (List Int × Int)) : Prop where
  c : LA.Corners (allA p.rows p.bounds n) [] n cs
  r : 0 < n → LA.Corners (allA p.rows (List.replicate p.rows.length 0) n) [onesR n] n rs
theorem Found.val {p : LpV} {n : Nat} {cs rs : List (List Int × Int)} {st num den : Int} (h : Found p n cs rs) (hok : LpOk p) (hn : p.obj.length = n) (hv : LA.LinVal p.lp cs rs st num den) :
    ∀ s0 n0 d0, LA.Outcome p.lp s0 n0 d0 → st = s0 ∧ (st = 1 → 0 < den ∧ num * d0 = n0 * den) := fun s0 n0 d0 ho => by
  subst hn
  exact LA.value_ok (alls_of hok p.bounds hok.b) (fun _ => alls_zero hok) (fun _ => ones_at _) h.c (fun hn => h.r hn) hv ho
theorem better {a num den s d e : Int} (h1 : a * den ≤ num * e) (h2 : s * den > num * d) (hd : 0 < den) (hd2 : 0 < d) (he : 0 < e) : a * d ≤ s * e := by
  have h3 := Int.mul_le_mul_of_nonneg_right h1 (Int.le_of_lt hd2)
  have h4 := Int.mul_le_mul_of_nonneg_right (Int.le_of_lt h2) (Int.le_of_lt he)
  have e1 : a * den * d = den * (a * d) := by grind
  have e2 : num * e * d = num * d * e := by grind
  have e3 : s * den * e = den * (s * e) := by grind
  exact Int.le_of_mul_le_mul_left (show den * (a * d) ≤ den * (s * e) by omega) hd
set_option maxRecDepth 100000 in
set_option maxHeartbeats 8000000 in
theorem linvalue_any (w : World) (AR AB AO : Option Addr) (cr cb co : Nat) (p : LpV) (hM : LpMem w AR AB AO p) (hok : LpOk p) (m n : Nat) (hrl : Hid (p.rows.length = m)) (hbl : Hid (p.bounds.length = m)) (hol : Hid (p.obj.length = n)) (hm6 : m ≤ 6) (hn6 : n ≤ 6) :
    Calls Try.prog 17 #[.agg #[.slice AR m cr, .slice AB m cb, .slice AO n co]] w fun e w' => LvSays p w e w' := by
  have HM := Lib.hid hM
  have HOK := Lib.hid hok
  clear hM hok
  go_enter Try.func17, Try.ntmps17
  go_wp2_with fail
  refine (corners_0 _ AR AB cr cb p.rows p.bounds m n hrl hbl hm6 hn6 (HM.out.rows.below (by repeat (first | with_reducible exact Below.refl _ _ | with_reducible apply bdrew | with_reducible apply bdrewN | with_reducible apply balloc | ((with_reducible refine bset ?_ ?_ _); rotate_left; (first | omega | (simp <;> omega)))))) (HM.out.bounds.below (by repeat (first | with_reducible exact Below.refl _ _ | with_reducible apply bdrew | with_reducible apply bdrewN | with_reducible apply balloc | ((with_reducible refine bset ?_ ?_ _); rotate_left; (first | omega | (simp <;> omega)))))) (fun i r hr => by have h := HOK.out.row hr; rw [hol.out] at h; exact h) (fun y hy => by obtain ⟨k, hk⟩ := List.getElem?_of_mem hy; exact HOK.out.bound hk)).mono ?_
  rintro e w1 ⟨v1, cs, rfl, hO1, hCS, hB1⟩
  have D1 := dstep w hB1 (by repeat (first | with_reducible exact Below.refl _ _ | with_reducible apply bdrew | with_reducible apply bdrewN | with_reducible apply balloc | ((with_reducible refine bset ?_ ?_ _); rotate_left; (first | omega | (simp <;> omega)))))
  have d1s := D1.size
  have C1 := Cls.below (l := [(w.heap.size, 0, .slice AR m cr), (w.heap.size, 1, .slice AB m cb), (w.heap.size, 2, .slice AO n co)]) hB1 (by simp [Cls, go_sem])
  have F1 := C1
  simp only [Cls, and_true] at F1
  have y1w0 : w.heap.size < w1.heap.size := C1.blk (b := w.heap.size) (k := 0) (v := .slice AR m cr) (by simp)
  have y1wp1 : w.heap.size < w1.heap.size + 1 := (by omega)
  have y1wp2 : w.heap.size < w1.heap.size + 1 + 1 := (by omega)
  obtain ⟨A1, c1, rfl⟩ := OwnEs.form hO1
  obtain ⟨lc, hlc⟩ : ∃ lc, Hid (cs.length = lc) := ⟨_, Lib.hid rfl⟩
  have hlc63 := OwnCo.max hO1
  rw [hlc.out] at hO1 hlc63
  rw [show cs.length = lc from hlc.out]
  have HO1 := Lib.hid hO1
  have HCS := Lib.hid hCS
  clear hO1 hCS
  by_cases hz : lc = 0
  · subst hz
    have HF : Hid (LA.LinVal p.lp cs [] 2 0 1) := Lib.hid (.inl ⟨List.eq_nil_of_length_eq_zero hlc.out, rfl, rfl, rfl⟩)
    go_wp2
    refine bodyPost_ret (v := .tuple #[.int .i64 2, .int .i64 0, .int .i64 1]) ?_ rfl ⟨2, 0, 1, rfl, fun s0 n0 d0 ho => ?_, by omega, by repeat (first | with_reducible exact D1 | with_reducible apply bdrew | with_reducible apply bdrewN | with_reducible apply balloc | ((with_reducible refine bset ?_ ?_ _); rotate_left; (first | omega | (simp <;> omega))))⟩
    · simp [results, Try.results17, go_sem, F1, y1w0, y1wp1, y1wp2]
    · have hcs0 := HCS.out
      have e0 := hol.out
      subst e0
      rcases LA.final p.lp with ⟨y, hy⟩ | ⟨s, hs, hna, _⟩
      · rcases ho with ⟨_, _, ⟨x, d, hd, hx, _⟩, _⟩ | ⟨h, _⟩ | ⟨_, _, _, ⟨x, d, hd, hx⟩, _⟩
        · exact (LA.no_point hd hx hy).elim
        · exact ⟨h.symm, fun h => by omega⟩
        · exact (LA.no_point hd hx hy).elim
      · obtain ⟨c, hcm, _⟩ := LA.has_corner (alls_of HOK.out p.bounds HOK.out.b) hcs0 hs hna
        rw [List.eq_nil_of_length_eq_zero hlc.out] at hcm; cases hcm
  · have hz1 : ((lc : Int) == 0) = false := beq_eq_false_iff_ne.2 (by omega)
    have hlp : (0 : Int) < (lc : Int) := by omega
    have hlpN : 0 < lc := by omega
    obtain ⟨x0, hx0⟩ : ∃ x, Hid (cs[0]? = some x) := ⟨_, Lib.hid (List.getElem?_eq_getElem (by rw [hlc.out]; omega))⟩
    by_cases hn0 : n = 0
    · have hnd : decide ((n : Int) > 0) = false := decide_eq_false (by omega)
      have hnd2 : decide (0 < n) = false := decide_eq_false (by omega)
      have hnd3 : ¬ 0 < n := by omega
      have HN0 := Lib.hid hn0
      have HF : Hid (Found p n cs []) := Lib.hid ⟨HCS.out, fun h => by omega⟩
      obtain ⟨rs, hrs⟩ : ∃ rs : List (List Int × Int), rs = [] := ⟨_, rfl⟩
      rw [← hrs] at HF
      clear hrs hn0
      obtain ⟨g1, AV, cV, hA1, hx1, hx2, hXI⟩ := OwnCo.at2 HO1.out hx0.out
      subst hA1
      simp only [Nat.zero_mul, Nat.zero_add] at hx1 hx2
      have HX := Lib.hid (HCS.out.ok x0 (List.mem_of_getElem? hx0.out))
      rw [HX.out.1] at hx1
      have HXI := Lib.hid hXI
      obtain ⟨s, hs⟩ : ∃ s, Hid (dotL n p.obj x0.1 = s) := ⟨_, Lib.hid rfl⟩
      have HSV : Hid (s = LA.valP p.lp (LA.atI x0.1)) := Lib.hid (by rw [← hs.out, ← hol.out, objv_dot])
      have HSB : Hid (-707788800 ≤ s ∧ s ≤ 707788800) := Lib.hid (by rw [HSV.out]; exact val_le HOK.out HX.out.2.2.2.1)
      obtain ⟨d0, hd0⟩ : ∃ d, Hid (x0.2 = d) := ⟨_, Lib.hid rfl⟩
      rw [hd0.out] at hx2
      have HDB : Hid (0 < d0 ∧ d0 ≤ 1179648) := Lib.hid (by rw [← hd0.out]; exact ⟨HX.out.2.1, HX.out.2.2.1⟩)
      clear hXI
      have HP : Hid (∀ W : World, Below w1.heap.size w1 W → Calls Try.prog 28 #[.slice AO n co, .slice AV n cV] W fun e w' => e = .returned (.int .i64 s) ∧ Below W.heap.size W w') := Lib.hid (fun W hW => by
        have h := sprod_any W AO AV co cV p.obj x0.1 n hol (Lib.hid HX.out.1) hn6 (HM.out.obj.below (D1.trans (hW.mono D1.size))) (HXI.out.below hW) (fun a ha => by have := HOK.out.c a ha; omega) (fun a ha => by have := HX.out.2.2.2.1 a ha; omega)
        rw [hs.out] at h; exact h)
      go_wp2_with fail
      refine wp_region_held_drew (S := fun W => W.cell? ⟨w.heap.size, 2, none⟩ = some (.slice AO n co) ∧ W.cell? ⟨g1, 0, none⟩ = some (.slice AV n cV)) (by kernel_rfl) (by exact ⟨(by simp [go_sem, F1, y1w0, y1wp1, y1wp2]), ((by repeat (first | with_reducible exact Below.refl _ _ | with_reducible apply bdrew | with_reducible apply bdrewN | with_reducible apply balloc | ((with_reducible refine bset ?_ ?_ _); rotate_left; (first | omega | (simp <;> omega)))) : Below w1.heap.size w1 w1.drew).cell (blt hx1)).trans hx1⟩) (fun hHeld => ?_)
      refine wpAnyH_take (i := 0) (v := ?vo10) rfl (by kernel_rfl) (by kernel_rfl) (by kernel_rfl) (fun _ _ _ h => h) (Or.inl ⟨by rfl, ?ho10⟩) (by assumption) ?ro10
      case ho10 => (intro w hSw; (try dsimp only at hSw); go_simp; (try with_reducible rfl))
      try simp only [Act.put, List.getElem_toArray, List.getElem_cons_succ, List.getElem_cons_zero, List.setIfInBounds_toArray, List.set_cons_zero, List.set_cons_succ]
      refine wpAnyH_take (i := 1) (v := ?vo11) rfl (by kernel_rfl) (by kernel_rfl) (by kernel_rfl) (fun _ _ _ h => h) (Or.inl ⟨by rfl, ?ho11⟩) (by assumption) ?ro11
      case ho11 => (intro w hSw; (try dsimp only at hSw); go_simp; (try with_reducible rfl))
      try simp only [Act.put, List.getElem_toArray, List.getElem_cons_succ, List.getElem_cons_zero, List.setIfInBounds_toArray, List.set_cons_zero, List.set_cons_succ]
      refine wpAnyH_take (i := 2) (v := ?vo12) rfl (by kernel_rfl) (by kernel_rfl) (by kernel_rfl) (fun _ _ _ h => h) (Or.inl ⟨by rfl, ?ho12⟩) (by assumption) ?ro12
      case ho12 => (intro w hSw; (try dsimp only at hSw); go_simp; (try with_reducible rfl))
      try simp only [Act.put, List.getElem_toArray, List.getElem_cons_succ, List.getElem_cons_zero, List.setIfInBounds_toArray, List.set_cons_zero, List.set_cons_succ]
      refine wpAnyH_take (i := 3) (v := ?vo13) rfl (by kernel_rfl) (by kernel_rfl) (by kernel_rfl) (fun _ _ _ h => h) (Or.inl ⟨by rfl, ?ho13⟩) (by assumption) ?ro13
      case ho13 => (intro w hSw; (try dsimp only at hSw); go_simp; (try with_reducible rfl))
      try simp only [Act.put, List.getElem_toArray, List.getElem_cons_succ, List.getElem_cons_zero, List.setIfInBounds_toArray, List.set_cons_zero, List.set_cons_succ]
      refine wpAnyH_take (i := 4) (v := ?vo14) rfl (by kernel_rfl) (by kernel_rfl) (by kernel_rfl) (fun _ _ _ h => h) (Or.inl ⟨by rfl, ?ho14⟩) (by assumption) ?ro14
      case ho14 => (intro w hSw; (try dsimp only at hSw); go_simp; (try with_reducible rfl))
      try simp only [Act.put, List.getElem_toArray, List.getElem_cons_succ, List.getElem_cons_zero, List.setIfInBounds_toArray, List.set_cons_zero, List.set_cons_succ]
      refine wpAnyH_take (i := 5) (v := ?vo15) rfl (by kernel_rfl) (by kernel_rfl) (by kernel_rfl) (fun _ _ _ h => h) (Or.inl ⟨by rfl, ?ho15⟩) (by assumption) ?ro15
      case ho15 => (intro w hSw; (try dsimp only at hSw); go_simp; (try with_reducible rfl))
      try simp only [Act.put, List.getElem_toArray, List.getElem_cons_succ, List.getElem_cons_zero, List.setIfInBounds_toArray, List.set_cons_zero, List.set_cons_succ]
      refine wpAnyH_ready (rs := [6]) (by kernel_rfl) (by simp) ?_
      refine (AllReadyH.cons rfl (fun K hK => ?bo11x6) AllReadyH.nil)
      case bo11x6 =>
        go_simp
        go_at_call 28
        refine (HP.out _ (by repeat (first | with_reducible exact Below.refl _ _ | with_reducible apply bdrew | with_reducible apply bdrewN | with_reducible apply balloc | ((with_reducible refine bset ?_ ?_ _); rotate_left; (first | omega | (simp <;> omega)))))).mono ?_
        rintro e w2 ⟨rfl, hB2⟩
        have D2 := dstep w hB2 (by repeat (first | with_reducible exact D1 | with_reducible apply bdrew | with_reducible apply bdrewN | with_reducible apply balloc | ((with_reducible refine bset ?_ ?_ _); rotate_left; (first | omega | (simp <;> omega)))))
        have E2 := dstep w1 hB2 (by repeat (first | with_reducible exact Below.refl _ _ | with_reducible apply bdrew | with_reducible apply bdrewN | with_reducible apply balloc | ((with_reducible refine bset ?_ ?_ _); rotate_left; (first | omega | (simp <;> omega)))))
        have C2 := Cls.below (l := [(w.heap.size, 0, .slice AR m cr), (w.heap.size, 1, .slice AB m cb), (w.heap.size, 2, .slice AO n co)]) hB2 (by simp [Cls, go_sem, F1, y1w0, y1wp1, y1wp2])
        have F2 := C2
        simp only [Cls, and_true] at F2
        have y2w0 : w.heap.size < w2.heap.size := C2.blk (b := w.heap.size) (k := 0) (v := .slice AR m cr) (by simp)
        have y2wp1 : w.heap.size < w2.heap.size + 1 := (by omega)
        have y2wp2 : w.heap.size < w2.heap.size + 1 + 1 := (by omega)
        have hSS : w2.cell? ⟨w.heap.size, 2, none⟩ = some (.slice AO n co) ∧ w2.cell? ⟨g1, 0, none⟩ = some (.slice AV n cV) := ⟨(by simp [F2]), (E2.cell (blt hx1)).trans hx1⟩
        go_wp2_with fail
        refine hK.out _ _ hSS (fun hHeld => ?_)
        clear hK K
        try simp only [Act.put, List.getElem_toArray, List.getElem_cons_succ, List.getElem_cons_zero, List.setIfInBounds_toArray, List.set_cons_zero, List.set_cons_succ]
        refine wpAnyH_take (i := 7) (v := ?vo1l27) rfl (by kernel_rfl) (by kernel_rfl) (by kernel_rfl) (fun _ _ _ h => h) (Or.inl ⟨by rfl, ?ho1l27⟩) (by assumption) ?ro1l27
        case ho1l27 => (intro w hSw; (try dsimp only at hSw); go_simp; (try with_reducible rfl))
        try simp only [Act.put, List.getElem_toArray, List.getElem_cons_succ, List.getElem_cons_zero, List.setIfInBounds_toArray, List.set_cons_zero, List.set_cons_succ]
        refine wpAnyH_done (by kernel_rfl) ?_ _
        have hx2c := (E2.cell (blt hx2)).trans hx2
        go_wp2_with fail
        clear hx2c
        go_loopw [9, 10, 11] (fun a b x wr => ∃ (i : Nat) (num den : Int), 1 ≤ i ∧ i ≤ lc ∧ x = .int .i64 i ∧ .int .i64 num = a ∧ .int .i64 den = b ∧ Hid ((∃ c ∈ cs, num = LA.valP p.lp (LA.atI c.1) ∧ den = c.2) ∧ ∀ k : Nat, k < i → ∀ c, cs[k]? = some c → LA.valP p.lp (LA.atI c.1) * den ≤ num * c.2) ∧ Hid ((-707788800 ≤ num ∧ num ≤ 707788800) ∧ 0 < den ∧ den ≤ 1179648) ∧ Below w1.heap.size w1 wr) (fun _ _ x _ => lc - (intOf x).toNat)
        case atStart => exact ⟨1, s, d0, Nat.le_refl _, by omega, rfl, rfl, rfl, Lib.hid ⟨⟨x0, List.mem_of_getElem? hx0.out, HSV.out, hd0.out.symm⟩, fun k hk c hc => by obtain rfl : k = 0 := (by omega); rw [hx0.out] at hc; injection hc with hc; subst hc; rw [← HSV.out, ← hd0.out]; exact Int.le_refl _⟩, Lib.hid ⟨HSB.out, HDB.out⟩, by repeat (first | with_reducible exact E2 | with_reducible apply bdrew | with_reducible apply bdrewN | with_reducible apply balloc | ((with_reducible refine bset ?_ ?_ _); rotate_left; (first | omega | (simp <;> omega))))⟩
        case round =>
          clear HP HX HXI hs HSV HSB hd0 HDB hx1 hx2
          obtain ⟨i, num, den, hi1, hi, rfl, rfl, rfl, HI, HBD, hBr⟩ := hrel
          obtain ⟨w20, rfl⟩ : ∃ wo : World, wo = wr := ⟨_, rfl⟩
          have D20 := D1.trans (hBr.mono D1.size)
          have C20 := Cls.below (l := [(w.heap.size, 0, .slice AR m cr), (w.heap.size, 1, .slice AB m cb), (w.heap.size, 2, .slice AO n co)]) hBr C1
          have d20s := D20.size
          have F20 := C20
          simp only [Cls, and_true] at F20
          have y20w0 : w.heap.size < w20.heap.size := C20.blk (b := w.heap.size) (k := 0) (v := .slice AR m cr) (by simp)
          have y20wp1 : w.heap.size < w20.heap.size + 1 := (by omega)
          have y20wp2 : w.heap.size < w20.heap.size + 1 + 1 := (by omega)
          by_cases hlt : i < lc
          · obtain ⟨x, hx⟩ : ∃ x, Hid (cs[i]? = some x) := ⟨_, Lib.hid (List.getElem?_eq_getElem (by rw [hlc.out]; exact hlt))⟩
            obtain ⟨g2, AV, cV, hA2, hx1, hx2, hXI⟩ := OwnCo.at2 HO1.out hx.out
            injection hA2 with hA2
            injection hA2 with hA2
            subst hA2
            have HX := Lib.hid (HCS.out.ok x (List.mem_of_getElem? hx.out))
            rw [HX.out.1] at hx1
            have HXI := Lib.hid hXI
            obtain ⟨s, hs⟩ : ∃ s, Hid (dotL n p.obj x.1 = s) := ⟨_, Lib.hid rfl⟩
            have HSV : Hid (s = LA.valP p.lp (LA.atI x.1)) := Lib.hid (by rw [← hs.out, ← hol.out, objv_dot])
            have hsb : -707788800 ≤ s ∧ s ≤ 707788800 := by rw [HSV.out]; exact val_le HOK.out HX.out.2.2.2.1
            obtain ⟨d, hd⟩ : ∃ d, Hid (x.2 = d) := ⟨_, Lib.hid rfl⟩
            rw [hd.out] at hx2
            have hdb : 0 < d ∧ d ≤ 1179648 := by rw [← hd.out]; exact ⟨HX.out.2.1, HX.out.2.2.1⟩
            have HSB := Lib.hid hsb
            have HDB := Lib.hid hdb
            obtain ⟨⟨hn1, hn2⟩, hd1, hd2⟩ := HBD.out
            have hm1 := LA.abs_mul hsb (show -1179648 ≤ den ∧ den ≤ 1179648 by omega)
            have hm2 := LA.abs_mul (show -707788800 ≤ num ∧ num ≤ 707788800 by omega) (show -1179648 ≤ d ∧ d ≤ 1179648 by omega)
            obtain ⟨hm3, hm4⟩ := hm1
            obtain ⟨hm5, hm6⟩ := hm2
            obtain ⟨u1, hu1⟩ : ∃ u, Hid (s * den = u) := ⟨_, Lib.hid rfl⟩
            obtain ⟨u2, hu2⟩ : ∃ u, Hid (num * d = u) := ⟨_, Lib.hid rfl⟩
            have hwu1 : IntKind.i64.wrap (s * den) = u1 := by rw [hu1.out] at hm3 hm4 ⊢; exact Go.IntWalk.i64_in _ (by omega)
            have hwu2 : IntKind.i64.wrap (num * d) = u2 := by rw [hu2.out] at hm5 hm6 ⊢; exact Go.IntWalk.i64_in _ (by omega)
            have hiI : (i : Int) < (lc : Int) := by omega
            clear hXI hsb hdb hm3 hm4 hm5 hm6
            have HP : Hid (∀ W : World, Below w1.heap.size w1 W → Calls Try.prog 28 #[.slice AO n co, .slice AV n cV] W fun e w' => e = .returned (.int .i64 s) ∧ Below W.heap.size W w') := Lib.hid (fun W hW => by
              have h := sprod_any W AO AV co cV p.obj x.1 n hol (Lib.hid HX.out.1) hn6 (HM.out.obj.below (D1.trans (hW.mono D1.size))) (HXI.out.below hW) (fun a ha => by have := HOK.out.c a ha; omega) (fun a ha => by have := HX.out.2.2.2.1 a ha; omega)
              rw [hs.out] at h; exact h)
            go_wp2_with fail
            refine wp_region_held_drew (S := fun W => W.cell? ⟨w.heap.size, 2, none⟩ = some (.slice AO n co) ∧ W.cell? ⟨g1, i * 2, none⟩ = some (.slice AV n cV)) (by kernel_rfl) (by exact ⟨(by simp [F20]), (hBr.cell (blt hx1)).trans hx1⟩) (fun hHeld => ?_)
            refine wpAnyH_take (i := 0) (v := ?vo20) rfl (by kernel_rfl) (by kernel_rfl) (by kernel_rfl) (fun _ _ _ h => h) (Or.inl ⟨by rfl, ?ho20⟩) (by assumption) ?ro20
            case ho20 => (intro w hSw; (try dsimp only at hSw); go_simp; (try with_reducible rfl))
            try simp only [Act.put, List.getElem_toArray, List.getElem_cons_succ, List.getElem_cons_zero, List.setIfInBounds_toArray, List.set_cons_zero, List.set_cons_succ]
            refine wpAnyH_take (i := 1) (v := ?vo21) rfl (by kernel_rfl) (by kernel_rfl) (by kernel_rfl) (fun _ _ _ h => h) (Or.inl ⟨by rfl, ?ho21⟩) (by assumption) ?ro21
            case ho21 => (intro w hSw; (try dsimp only at hSw); go_simp; (try with_reducible rfl))
            try simp only [Act.put, List.getElem_toArray, List.getElem_cons_succ, List.getElem_cons_zero, List.setIfInBounds_toArray, List.set_cons_zero, List.set_cons_succ]
            refine wpAnyH_take (i := 2) (v := ?vo22) rfl (by kernel_rfl) (by kernel_rfl) (by kernel_rfl) (fun _ _ _ h => h) (Or.inl ⟨by rfl, ?ho22⟩) (by assumption) ?ro22
            case ho22 => (intro w hSw; (try dsimp only at hSw); go_simp; (try with_reducible rfl))
            try simp only [Act.put, List.getElem_toArray, List.getElem_cons_succ, List.getElem_cons_zero, List.setIfInBounds_toArray, List.set_cons_zero, List.set_cons_succ]
            refine wpAnyH_take (i := 3) (v := ?vo23) rfl (by kernel_rfl) (by kernel_rfl) (by kernel_rfl) (fun _ _ _ h => h) (Or.inl ⟨by rfl, ?ho23⟩) (by assumption) ?ro23
            case ho23 => (intro w hSw; (try dsimp only at hSw); go_simp; (try with_reducible rfl))
            try simp only [Act.put, List.getElem_toArray, List.getElem_cons_succ, List.getElem_cons_zero, List.setIfInBounds_toArray, List.set_cons_zero, List.set_cons_succ]
            refine wpAnyH_take (i := 4) (v := ?vo24) rfl (by kernel_rfl) (by kernel_rfl) (by kernel_rfl) (fun _ _ _ h => h) (Or.inl ⟨by rfl, ?ho24⟩) (by assumption) ?ro24
            case ho24 => (intro w hSw; (try dsimp only at hSw); go_simp; (try with_reducible rfl))
            try simp only [Act.put, List.getElem_toArray, List.getElem_cons_succ, List.getElem_cons_zero, List.setIfInBounds_toArray, List.set_cons_zero, List.set_cons_succ]
            refine wpAnyH_take (i := 5) (v := ?vo25) rfl (by kernel_rfl) (by kernel_rfl) (by kernel_rfl) (fun _ _ _ h => h) (Or.inl ⟨by rfl, ?ho25⟩) (by assumption) ?ro25
            case ho25 => (intro w hSw; (try dsimp only at hSw); go_simp; (try with_reducible rfl))
            try simp only [Act.put, List.getElem_toArray, List.getElem_cons_succ, List.getElem_cons_zero, List.setIfInBounds_toArray, List.set_cons_zero, List.set_cons_succ]
            refine wpAnyH_take (i := 6) (v := ?vo26) rfl (by kernel_rfl) (by kernel_rfl) (by kernel_rfl) (fun _ _ _ h => h) (Or.inl ⟨by rfl, ?ho26⟩) (by assumption) ?ro26
            case ho26 => (intro w hSw; (try dsimp only at hSw); go_simp; (try with_reducible rfl))
            try simp only [Act.put, List.getElem_toArray, List.getElem_cons_succ, List.getElem_cons_zero, List.setIfInBounds_toArray, List.set_cons_zero, List.set_cons_succ]
            refine wpAnyH_ready (rs := [7]) (by kernel_rfl) (by simp) ?_
            refine (AllReadyH.cons rfl (fun K hK => ?bo21x7) AllReadyH.nil)
            case bo21x7 =>
              go_simp
              go_at_call 28
              refine (HP.out _ (by repeat (first | with_reducible exact hBr | with_reducible apply bdrew | with_reducible apply bdrewN | with_reducible apply balloc | ((with_reducible refine bset ?_ ?_ _); rotate_left; (first | omega | (simp <;> omega)))))).mono ?_
              rintro e w21 ⟨rfl, hB21⟩
              have D21 := dstep w hB21 (by repeat (first | with_reducible exact D20 | with_reducible apply bdrew | with_reducible apply bdrewN | with_reducible apply balloc | ((with_reducible refine bset ?_ ?_ _); rotate_left; (first | omega | (simp <;> omega)))))
              have E21 := dstep w1 hB21 (by repeat (first | with_reducible exact hBr | with_reducible apply bdrew | with_reducible apply bdrewN | with_reducible apply balloc | ((with_reducible refine bset ?_ ?_ _); rotate_left; (first | omega | (simp <;> omega)))))
              have C21 := Cls.below (l := [(w.heap.size, 0, .slice AR m cr), (w.heap.size, 1, .slice AB m cb), (w.heap.size, 2, .slice AO n co)]) hB21 (by simp [Cls, go_sem, F20, y20w0, y20wp1, y20wp2])
              have F21 := C21
              simp only [Cls, and_true] at F21
              have y21w0 : w.heap.size < w21.heap.size := C21.blk (b := w.heap.size) (k := 0) (v := .slice AR m cr) (by simp)
              have y21wp1 : w.heap.size < w21.heap.size + 1 := (by omega)
              have y21wp2 : w.heap.size < w21.heap.size + 1 + 1 := (by omega)
              have hSS : w21.cell? ⟨w.heap.size, 2, none⟩ = some (.slice AO n co) ∧ w21.cell? ⟨g1, i * 2, none⟩ = some (.slice AV n cV) := ⟨(by simp [F21]), (E21.cell (blt hx1)).trans hx1⟩
              go_wp2_with fail
              refine hK.out _ _ hSS (fun hHeld => ?_)
              clear hK K
              try simp only [Act.put, List.getElem_toArray, List.getElem_cons_succ, List.getElem_cons_zero, List.setIfInBounds_toArray, List.set_cons_zero, List.set_cons_succ]
              refine wpAnyH_take (i := 8) (v := ?vo2l28) rfl (by kernel_rfl) (by kernel_rfl) (by kernel_rfl) (fun _ _ _ h => h) (Or.inl ⟨by rfl, ?ho2l28⟩) (by assumption) ?ro2l28
              case ho2l28 => (intro w hSw; (try dsimp only at hSw); go_simp; (try with_reducible rfl))
              try simp only [Act.put, List.getElem_toArray, List.getElem_cons_succ, List.getElem_cons_zero, List.setIfInBounds_toArray, List.set_cons_zero, List.set_cons_succ]
              refine wpAnyH_done (by kernel_rfl) ?_ _
              have hx2c := (E21.cell (blt hx2)).trans hx2
              by_cases hgt : u1 > u2
              · have hdg : decide (u1 > u2) = true := decide_eq_true hgt
                have HG := Lib.hid hgt
                go_wp2_with fail
                refine wp_region_held_drew (S := fun W => W.cell? ⟨g1, i * 2 + 1, none⟩ = some (.int .i64 d)) (by kernel_rfl) (by simp [hx2c]) (fun hHeld => ?_)
                refine wpAnyH_take (i := 0) (v := ?vo30) rfl (by kernel_rfl) (by kernel_rfl) (by kernel_rfl) (fun _ _ _ h => h) (Or.inl ⟨by rfl, ?ho30⟩) (by assumption) ?ro30
                case ho30 => (intro w hSw; (try dsimp only at hSw); go_simp; (try with_reducible rfl))
                try simp only [Act.put, List.getElem_toArray, List.getElem_cons_succ, List.getElem_cons_zero, List.setIfInBounds_toArray, List.set_cons_zero, List.set_cons_succ]
                refine wpAnyH_take (i := 1) (v := ?vo31) rfl (by kernel_rfl) (by kernel_rfl) (by kernel_rfl) (fun _ _ _ h => h) (Or.inl ⟨by rfl, ?ho31⟩) (by assumption) ?ro31
                case ho31 => (intro w hSw; (try dsimp only at hSw); go_simp; (try with_reducible rfl))
                try simp only [Act.put, List.getElem_toArray, List.getElem_cons_succ, List.getElem_cons_zero, List.setIfInBounds_toArray, List.set_cons_zero, List.set_cons_succ]
                refine wpAnyH_take (i := 2) (v := ?vo32) rfl (by kernel_rfl) (by kernel_rfl) (by kernel_rfl) (fun _ _ _ h => h) (Or.inl ⟨by rfl, ?ho32⟩) (by assumption) ?ro32
                case ho32 => (intro w hSw; (try dsimp only at hSw); go_simp; (try with_reducible rfl))
                try simp only [Act.put, List.getElem_toArray, List.getElem_cons_succ, List.getElem_cons_zero, List.setIfInBounds_toArray, List.set_cons_zero, List.set_cons_succ]
                refine wpAnyH_take (i := 3) (v := ?vo33) rfl (by kernel_rfl) (by kernel_rfl) (by kernel_rfl) (fun _ _ _ h => h) (Or.inl ⟨by rfl, ?ho33⟩) (by assumption) ?ro33
                case ho33 => (intro w hSw; (try dsimp only at hSw); go_simp; (try with_reducible rfl))
                try simp only [Act.put, List.getElem_toArray, List.getElem_cons_succ, List.getElem_cons_zero, List.setIfInBounds_toArray, List.set_cons_zero, List.set_cons_succ]
                refine wpAnyH_take (i := 4) (v := ?vo34) rfl (by kernel_rfl) (by kernel_rfl) (by kernel_rfl) (fun _ _ _ h => h) (Or.inl ⟨by rfl, ?ho34⟩) (by assumption) ?ro34
                case ho34 => (intro w hSw; (try dsimp only at hSw); go_simp; (try with_reducible rfl))
                try simp only [Act.put, List.getElem_toArray, List.getElem_cons_succ, List.getElem_cons_zero, List.setIfInBounds_toArray, List.set_cons_zero, List.set_cons_succ]
                refine wpAnyH_take (i := 5) (v := ?vo35) rfl (by kernel_rfl) (by kernel_rfl) (by kernel_rfl) (fun _ _ _ h => h) (Or.inl ⟨by rfl, ?ho35⟩) (by assumption) ?ro35
                case ho35 => (intro w hSw; (try dsimp only at hSw); go_simp; (try with_reducible rfl))
                try simp only [Act.put, List.getElem_toArray, List.getElem_cons_succ, List.getElem_cons_zero, List.setIfInBounds_toArray, List.set_cons_zero, List.set_cons_succ]
                refine wpAnyH_take (i := 6) (v := ?vo36) rfl (by kernel_rfl) (by kernel_rfl) (by kernel_rfl) (fun _ _ _ h => h) (Or.inl ⟨by rfl, ?ho36⟩) (by assumption) ?ro36
                case ho36 => (intro w hSw; (try dsimp only at hSw); go_simp; (try with_reducible rfl))
                try simp only [Act.put, List.getElem_toArray, List.getElem_cons_succ, List.getElem_cons_zero, List.setIfInBounds_toArray, List.set_cons_zero, List.set_cons_succ]
                refine wpAnyH_take (i := 7) (v := ?vo37) rfl (by kernel_rfl) (by kernel_rfl) (by kernel_rfl) (fun _ _ _ h => h) (Or.inl ⟨by rfl, ?ho37⟩) (by assumption) ?ro37
                case ho37 => (intro w hSw; (try dsimp only at hSw); go_simp; (try with_reducible rfl))
                try simp only [Act.put, List.getElem_toArray, List.getElem_cons_succ, List.getElem_cons_zero, List.setIfInBounds_toArray, List.set_cons_zero, List.set_cons_succ]
                refine wpAnyH_done (by kernel_rfl) ?_ _
                go_wp2
                go_roundw
                case rel => exact ⟨i + 1, s, d, by omega, by omega, by go_num, rfl, rfl, Lib.hid ⟨⟨x, List.mem_of_getElem? hx.out, HSV.out, hd.out.symm⟩, fun k hk c hc => by
                  rcases Nat.lt_or_ge k i with h | h
                  · exact better (HI.out.2 k h c hc) (by rw [hu1.out, hu2.out]; exact HG.out) hd1 HDB.out.1 (HCS.out.ok c (List.mem_of_getElem? hc)).2.1
                  · obtain rfl : k = i := (by omega)
                    rw [hx.out] at hc
                    injection hc with hc
                    subst hc
                    rw [← HSV.out, ← hd.out]; exact Int.le_refl _⟩, Lib.hid ⟨HSB.out, HDB.out⟩, by repeat (first | with_reducible exact E21 | with_reducible apply bdrew | with_reducible apply bdrewN | with_reducible apply balloc | ((with_reducible refine bset ?_ ?_ _); rotate_left; (first | omega | (simp <;> omega))))⟩
                case measure => simp [intOf]; omega
              · have hdg : decide (u1 > u2) = false := decide_eq_false hgt
                have HG := Lib.hid (show u1 ≤ u2 by omega)
                go_wp2_with fail
                go_roundw
                case rel => exact ⟨i + 1, num, den, by omega, by omega, by go_num, rfl, rfl, Lib.hid ⟨HI.out.1, fun k hk c hc => by
                  rcases Nat.lt_or_ge k i with h | h
                  · exact HI.out.2 k h c hc
                  · obtain rfl : k = i := (by omega)
                    rw [hx.out] at hc
                    injection hc with hc
                    subst hc
                    rw [← HSV.out, hd.out, hu1.out, hu2.out]; exact HG.out⟩, HBD, by repeat (first | with_reducible exact E21 | with_reducible apply bdrew | with_reducible apply bdrewN | with_reducible apply balloc | ((with_reducible refine bset ?_ ?_ _); rotate_left; (first | omega | (simp <;> omega))))⟩
                case measure => simp [intOf]; omega
          · obtain rfl : i = lc := by omega
            have HV : Hid (LA.LinVal p.lp cs rs 1 num den) := Lib.hid (.inr (.inr ⟨fun e => hz (by rw [← hlc.out, e]; rfl), fun h => by have e2 : p.lp.n = n := hol.out; have := HN0.out; omega, rfl, HI.out.1, fun c hc => by obtain ⟨k, hk⟩ := List.getElem?_of_mem hc; exact HI.out.2 k (by rw [← hlc.out]; exact (List.getElem?_eq_some_iff.1 hk).1) c hk⟩))
            obtain ⟨⟨hn1, hn2⟩, hd1, hd2⟩ := HBD.out
            go_wp2
            refine bodyPost_ret (v := .tuple #[.int .i64 1, .int .i64 num, .int .i64 den]) ?_ rfl ⟨1, num, den, rfl, HF.out.val HOK.out hol.out HV.out, ⟨hn1, hn2, hd1, hd2⟩, by repeat (first | with_reducible exact D20 | with_reducible apply bdrew | with_reducible apply bdrewN | with_reducible apply balloc | ((with_reducible refine bset ?_ ?_ _); rotate_left; (first | omega | (simp <;> omega))))⟩
            simp [results, Try.results17]
    · have hnI : (0 : Int) < (n : Int) := by omega
      have HNP := Lib.hid (show 0 < n by omega)
      have hmk := make_at m (m : Int) rfl (by omega)
      have HZ := Lib.hid (IArr.made w1 m _ rfl)
      go_wp2_with fail
      refine wp_region_held_drew (S := fun W => W.cell? ⟨w.heap.size, 0, none⟩ = some (.slice AR m cr)) (by kernel_rfl) (by simp [go_sem, F1, y1w0, y1wp1, y1wp2]) (fun hHeld => ?_)
      refine wpAnyH_take (i := 0) (v := ?vo40) rfl (by kernel_rfl) (by kernel_rfl) (by kernel_rfl) (fun _ _ _ h => h) (Or.inl ⟨by rfl, ?ho40⟩) (by assumption) ?ro40
      case ho40 => (intro w hSw; (try dsimp only at hSw); go_simp; (try with_reducible rfl))
      try simp only [Act.put, List.getElem_toArray, List.getElem_cons_succ, List.getElem_cons_zero, List.setIfInBounds_toArray, List.set_cons_zero, List.set_cons_succ]
      refine wpAnyH_take (i := 1) (v := ?vo41) rfl (by kernel_rfl) (by kernel_rfl) (by kernel_rfl) (fun _ _ _ h => h) (Or.inl ⟨by rfl, ?ho41⟩) (by assumption) ?ro41
      case ho41 => (intro w hSw; (try dsimp only at hSw); go_simp; (try with_reducible rfl))
      try simp only [Act.put, List.getElem_toArray, List.getElem_cons_succ, List.getElem_cons_zero, List.setIfInBounds_toArray, List.set_cons_zero, List.set_cons_succ]
      refine wpAnyH_take (i := 2) (v := ?vo42) rfl (by kernel_rfl) (by kernel_rfl) (by kernel_rfl) (fun _ _ _ h => h) (Or.inl ⟨by rfl, ?ho42⟩) (by assumption) ?ro42
      case ho42 => (intro w hSw; (try dsimp only at hSw); go_simp; (try with_reducible rfl))
      try simp only [Act.put, List.getElem_toArray, List.getElem_cons_succ, List.getElem_cons_zero, List.setIfInBounds_toArray, List.set_cons_zero, List.set_cons_succ]
      refine wpAnyH_take (i := 3) (v := ?vo43) rfl (by kernel_rfl) (by kernel_rfl) (by kernel_rfl) (fun _ _ _ h => h) (Or.inl ⟨by rfl, ?ho43⟩) (by assumption) ?ro43
      case ho43 => (intro w hSw; (try dsimp only at hSw); go_simp; (try with_reducible rfl))
      try simp only [Act.put, List.getElem_toArray, List.getElem_cons_succ, List.getElem_cons_zero, List.setIfInBounds_toArray, List.set_cons_zero, List.set_cons_succ]
      refine wpAnyH_take (i := 4) (v := ?vo44) rfl (by kernel_rfl) (by kernel_rfl) (by kernel_rfl) (fun _ _ _ h => h) (Or.inl ⟨by rfl, ?ho44⟩) (by assumption) ?ro44
      case ho44 => (intro w hSw; (try dsimp only at hSw); go_simp; (try with_reducible rfl))
      try simp only [Act.put, List.getElem_toArray, List.getElem_cons_succ, List.getElem_cons_zero, List.setIfInBounds_toArray, List.set_cons_zero, List.set_cons_succ]
      refine wpAnyH_take (i := 6) (v := ?vo46) rfl (by kernel_rfl) (by kernel_rfl) (by kernel_rfl) (fun _ _ _ h => h) (Or.inl ⟨by rfl, ?ho46⟩) (by assumption) ?ro46
      case ho46 => (intro w hSw; (try dsimp only at hSw); go_simp; (try with_reducible rfl))
      try simp only [Act.put, List.getElem_toArray, List.getElem_cons_succ, List.getElem_cons_zero, List.setIfInBounds_toArray, List.set_cons_zero, List.set_cons_succ]
      refine wpAnyH_ready (rs := [5]) (by kernel_rfl) (by simp) ?_
      refine (AllReadyH.cons rfl (fun K hK => ?bo41x5) AllReadyH.nil)
      case bo41x5 =>
        go_simp
        have hSS : (w1.drew.alloc (.cells (Array.replicate m (Value.int .i64 0)) 3)).cell? ⟨w.heap.size, 0, none⟩ = some (.slice AR m cr) := (by simp [go_sem, F1, y1w0, y1wp1, y1wp2])
        go_wp2_with fail
        refine hK.out _ _ hSS (fun hHeld => ?_)
        clear hK K
        try simp only [Act.put, List.getElem_toArray, List.getElem_cons_succ, List.getElem_cons_zero, List.setIfInBounds_toArray, List.set_cons_zero, List.set_cons_succ]
        refine wpAnyH_ready (rs := [7]) (by kernel_rfl) (by simp) ?_
        refine (AllReadyH.cons rfl (fun K hK => ?bo42x7) AllReadyH.nil)
        case bo42x7 =>
          go_simp
          go_at_call 41
          refine (corners_1 _ AR (some ⟨w1.heap.size, 0, none⟩) cr m p.rows (List.replicate m 0) m n hrl (Lib.hid List.length_replicate) hm6 hn6 (HM.out.rows.below (by repeat (first | with_reducible exact D1 | with_reducible apply bdrew | with_reducible apply bdrewN | with_reducible apply balloc | ((with_reducible refine bset ?_ ?_ _); rotate_left; (first | omega | (simp <;> omega)))))) ((IArr.ints HZ.out).below (by repeat (first | with_reducible exact Below.refl _ _ | with_reducible apply bdrew | with_reducible apply bdrewN | with_reducible apply balloc | ((with_reducible refine bset ?_ ?_ _); rotate_left; (first | omega | (simp <;> omega)))))) (fun i r hr => by have h := HOK.out.row hr; rw [hol.out] at h; exact h) (fun y hy => by have := List.eq_of_mem_replicate hy; omega)).mono ?_
          rintro e w2 ⟨v2, rs, rfl, hO2, hRS, hB2⟩
          have D2 := dstep w hB2 (by repeat (first | with_reducible exact D1 | with_reducible apply bdrew | with_reducible apply bdrewN | with_reducible apply balloc | ((with_reducible refine bset ?_ ?_ _); rotate_left; (first | omega | (simp <;> omega)))))
          have E2 := dstep w1 hB2 (by repeat (first | with_reducible exact Below.refl _ _ | with_reducible apply bdrew | with_reducible apply bdrewN | with_reducible apply balloc | ((with_reducible refine bset ?_ ?_ _); rotate_left; (first | omega | (simp <;> omega)))))
          have C2 := Cls.below (l := [(w.heap.size, 0, .slice AR m cr), (w.heap.size, 1, .slice AB m cb), (w.heap.size, 2, .slice AO n co)]) hB2 (by simp [Cls, go_sem, F1, y1w0, y1wp1, y1wp2])
          have F2 := C2
          simp only [Cls, and_true] at F2
          have y2w0 : w.heap.size < w2.heap.size := C2.blk (b := w.heap.size) (k := 0) (v := .slice AR m cr) (by simp)
          have y2wp1 : w.heap.size < w2.heap.size + 1 := (by omega)
          have y2wp2 : w.heap.size < w2.heap.size + 1 + 1 := (by omega)
          obtain ⟨A2, c2, rfl⟩ := OwnEs.form hO2
          obtain ⟨lr, hlr⟩ : ∃ lr, Hid (rs.length = lr) := ⟨_, Lib.hid rfl⟩
          have hlr63 := OwnCo.max hO2
          rw [hlr.out] at hO2 hlr63
          rw [show rs.length = lr from hlr.out]
          have HO2 := Lib.hid hO2
          have HRS := Lib.hid hRS
          clear hO2 hRS
          have hSS : w2.cell? ⟨w.heap.size, 0, none⟩ = some (.slice AR m cr) := (by simp [F2])
          go_wp2_with fail
          refine hK.out _ _ hSS (fun hHeld => ?_)
          clear hK K
          try simp only [Act.put, List.getElem_toArray, List.getElem_cons_succ, List.getElem_cons_zero, List.setIfInBounds_toArray, List.set_cons_zero, List.set_cons_succ]
          refine wpAnyH_take (i := 8) (v := ?vo4l38) rfl (by kernel_rfl) (by kernel_rfl) (by kernel_rfl) (fun _ _ _ h => h) (Or.inl ⟨by rfl, ?ho4l38⟩) (by assumption) ?ro4l38
          case ho4l38 => (intro w hSw; (try dsimp only at hSw); go_simp; (try with_reducible rfl))
          try simp only [Act.put, List.getElem_toArray, List.getElem_cons_succ, List.getElem_cons_zero, List.setIfInBounds_toArray, List.set_cons_zero, List.set_cons_succ]
          refine wpAnyH_done (by kernel_rfl) ?_ _
          have HF : Hid (Found p n cs rs) := Lib.hid ⟨HCS.out, fun _ => by rw [hrl.out]; exact HRS.out⟩
          go_wp2_with fail
          go_loopw [8] (fun x wr => ∃ i : Nat, i ≤ lr ∧ x = .int .i64 i ∧ Hid (∀ k : Nat, k < i → ∀ r, rs[k]? = some r → LA.valP p.lp (LA.atI r.1) ≤ 0) ∧ Below w2.heap.size w2 wr) (fun x _ => lr - (intOf x).toNat)
          case atStart => exact ⟨0, Nat.zero_le _, rfl, Lib.hid (fun k hk => by omega), by repeat (first | with_reducible exact Below.refl _ _ | with_reducible apply bdrew | with_reducible apply bdrewN | with_reducible apply balloc | ((with_reducible refine bset ?_ ?_ _); rotate_left; (first | omega | (simp <;> omega))))⟩
          case round =>
            obtain ⟨i, hi, rfl, HI, hBr⟩ := hrel
            obtain ⟨w10, rfl⟩ : ∃ wo : World, wo = wr := ⟨_, rfl⟩
            have D10 := D2.trans (hBr.mono D2.size)
            have E10 := E2.trans (hBr.mono E2.size)
            have C10 := Cls.below (l := [(w.heap.size, 0, .slice AR m cr), (w.heap.size, 1, .slice AB m cb), (w.heap.size, 2, .slice AO n co)]) hBr C2
            have d10s := D10.size
            have F10 := C10
            simp only [Cls, and_true] at F10
            have y10w0 : w.heap.size < w10.heap.size := C10.blk (b := w.heap.size) (k := 0) (v := .slice AR m cr) (by simp)
            have y10wp1 : w.heap.size < w10.heap.size + 1 := (by omega)
            have y10wp2 : w.heap.size < w10.heap.size + 1 + 1 := (by omega)
            by_cases hlt : i < lr
            · obtain ⟨x, hx⟩ : ∃ x, Hid (rs[i]? = some x) := ⟨_, Lib.hid (List.getElem?_eq_getElem (by rw [hlr.out]; exact hlt))⟩
              obtain ⟨g2, AV, cV, hA2, hx1, -, hXI⟩ := OwnCo.at2 HO2.out hx.out
              subst hA2
              have HX := Lib.hid (HRS.out.ok x (List.mem_of_getElem? hx.out))
              rw [HX.out.1] at hx1
              have HXI := Lib.hid hXI
              obtain ⟨s, hs⟩ : ∃ s, Hid (dotL n p.obj x.1 = s) := ⟨_, Lib.hid rfl⟩
              have HSV : Hid (s = LA.valP p.lp (LA.atI x.1)) := Lib.hid (by rw [← hs.out, ← hol.out, objv_dot])
              have HP : Hid (∀ W : World, Below w2.heap.size w2 W → Calls Try.prog 28 #[.slice AO n co, .slice AV n cV] W fun e w' => e = .returned (.int .i64 s) ∧ Below W.heap.size W w') := Lib.hid (fun W hW => by
                have h := sprod_any W AO AV co cV p.obj x.1 n hol (Lib.hid HX.out.1) hn6 (HM.out.obj.below (D2.trans (hW.mono D2.size))) (HXI.out.below hW) (fun a ha => by have := HOK.out.c a ha; omega) (fun a ha => by have := HX.out.2.2.2.1 a ha; omega)
                rw [hs.out] at h; exact h)
              have hiI : (i : Int) < (lr : Int) := by omega
              clear hXI
              by_cases hgt : s > 0
              · have hdg : decide (s > 0) = true := decide_eq_true hgt
                have HG := Lib.hid hgt
                go_wp2_with fail
                refine wp_region_held_drew (S := fun W => W.cell? ⟨w.heap.size, 2, none⟩ = some (.slice AO n co) ∧ W.cell? ⟨g2, i * 2, none⟩ = some (.slice AV n cV)) (by kernel_rfl) (by exact ⟨(by simp [F10]), (hBr.cell (blt hx1)).trans hx1⟩) (fun hHeld => ?_)
                refine wpAnyH_take (i := 0) (v := ?vo50) rfl (by kernel_rfl) (by kernel_rfl) (by kernel_rfl) (fun _ _ _ h => h) (Or.inl ⟨by rfl, ?ho50⟩) (by assumption) ?ro50
                case ho50 => (intro w hSw; (try dsimp only at hSw); go_simp; (try with_reducible rfl))
                try simp only [Act.put, List.getElem_toArray, List.getElem_cons_succ, List.getElem_cons_zero, List.setIfInBounds_toArray, List.set_cons_zero, List.set_cons_succ]
                refine wpAnyH_take (i := 1) (v := ?vo51) rfl (by kernel_rfl) (by kernel_rfl) (by kernel_rfl) (fun _ _ _ h => h) (Or.inl ⟨by rfl, ?ho51⟩) (by assumption) ?ro51
                case ho51 => (intro w hSw; (try dsimp only at hSw); go_simp; (try with_reducible rfl))
                try simp only [Act.put, List.getElem_toArray, List.getElem_cons_succ, List.getElem_cons_zero, List.setIfInBounds_toArray, List.set_cons_zero, List.set_cons_succ]
                refine wpAnyH_take (i := 2) (v := ?vo52) rfl (by kernel_rfl) (by kernel_rfl) (by kernel_rfl) (fun _ _ _ h => h) (Or.inl ⟨by rfl, ?ho52⟩) (by assumption) ?ro52
                case ho52 => (intro w hSw; (try dsimp only at hSw); go_simp; (try with_reducible rfl))
                try simp only [Act.put, List.getElem_toArray, List.getElem_cons_succ, List.getElem_cons_zero, List.setIfInBounds_toArray, List.set_cons_zero, List.set_cons_succ]
                refine wpAnyH_take (i := 3) (v := ?vo53) rfl (by kernel_rfl) (by kernel_rfl) (by kernel_rfl) (fun _ _ _ h => h) (Or.inl ⟨by rfl, ?ho53⟩) (by assumption) ?ro53
                case ho53 => (intro w hSw; (try dsimp only at hSw); go_simp; (try with_reducible rfl))
                try simp only [Act.put, List.getElem_toArray, List.getElem_cons_succ, List.getElem_cons_zero, List.setIfInBounds_toArray, List.set_cons_zero, List.set_cons_succ]
                refine wpAnyH_take (i := 4) (v := ?vo54) rfl (by kernel_rfl) (by kernel_rfl) (by kernel_rfl) (fun _ _ _ h => h) (Or.inl ⟨by rfl, ?ho54⟩) (by assumption) ?ro54
                case ho54 => (intro w hSw; (try dsimp only at hSw); go_simp; (try with_reducible rfl))
                try simp only [Act.put, List.getElem_toArray, List.getElem_cons_succ, List.getElem_cons_zero, List.setIfInBounds_toArray, List.set_cons_zero, List.set_cons_succ]
                refine wpAnyH_take (i := 5) (v := ?vo55) rfl (by kernel_rfl) (by kernel_rfl) (by kernel_rfl) (fun _ _ _ h => h) (Or.inl ⟨by rfl, ?ho55⟩) (by assumption) ?ro55
                case ho55 => (intro w hSw; (try dsimp only at hSw); go_simp; (try with_reducible rfl))
                try simp only [Act.put, List.getElem_toArray, List.getElem_cons_succ, List.getElem_cons_zero, List.setIfInBounds_toArray, List.set_cons_zero, List.set_cons_succ]
                refine wpAnyH_take (i := 6) (v := ?vo56) rfl (by kernel_rfl) (by kernel_rfl) (by kernel_rfl) (fun _ _ _ h => h) (Or.inl ⟨by rfl, ?ho56⟩) (by assumption) ?ro56
                case ho56 => (intro w hSw; (try dsimp only at hSw); go_simp; (try with_reducible rfl))
                try simp only [Act.put, List.getElem_toArray, List.getElem_cons_succ, List.getElem_cons_zero, List.setIfInBounds_toArray, List.set_cons_zero, List.set_cons_succ]
                refine wpAnyH_ready (rs := [7]) (by kernel_rfl) (by simp) ?_
                refine (AllReadyH.cons rfl (fun K hK => ?bo51x7) AllReadyH.nil)
                case bo51x7 =>
                  go_simp
                  go_at_call 28
                  refine (HP.out _ (by repeat (first | with_reducible exact hBr | with_reducible apply bdrew | with_reducible apply bdrewN | with_reducible apply balloc | ((with_reducible refine bset ?_ ?_ _); rotate_left; (first | omega | (simp <;> omega)))))).mono ?_
                  rintro e w11 ⟨rfl, hB11⟩
                  have D11 := dstep w hB11 (by repeat (first | with_reducible exact D10 | with_reducible apply bdrew | with_reducible apply bdrewN | with_reducible apply balloc | ((with_reducible refine bset ?_ ?_ _); rotate_left; (first | omega | (simp <;> omega)))))
                  have B11 := dstep w2 hB11 (by repeat (first | with_reducible exact hBr | with_reducible apply bdrew | with_reducible apply bdrewN | with_reducible apply balloc | ((with_reducible refine bset ?_ ?_ _); rotate_left; (first | omega | (simp <;> omega)))))
                  have C11 := Cls.below (l := [(w.heap.size, 0, .slice AR m cr), (w.heap.size, 1, .slice AB m cb), (w.heap.size, 2, .slice AO n co)]) hB11 (by simp [Cls, go_sem, F10, y10w0, y10wp1, y10wp2])
                  have F11 := C11
                  simp only [Cls, and_true] at F11
                  have y11w0 : w.heap.size < w11.heap.size := C11.blk (b := w.heap.size) (k := 0) (v := .slice AR m cr) (by simp)
                  have y11wp1 : w.heap.size < w11.heap.size + 1 := (by omega)
                  have y11wp2 : w.heap.size < w11.heap.size + 1 + 1 := (by omega)
                  have hSS : w11.cell? ⟨w.heap.size, 2, none⟩ = some (.slice AO n co) ∧ w11.cell? ⟨g2, i * 2, none⟩ = some (.slice AV n cV) := ⟨(by simp [F11]), (B11.cell (blt hx1)).trans hx1⟩
                  go_wp2_with fail
                  refine hK.out _ _ hSS (fun hHeld => ?_)
                  clear hK K
                  try simp only [Act.put, List.getElem_toArray, List.getElem_cons_succ, List.getElem_cons_zero, List.setIfInBounds_toArray, List.set_cons_zero, List.set_cons_succ]
                  refine wpAnyH_take (i := 8) (v := ?vo5l28) rfl (by kernel_rfl) (by kernel_rfl) (by kernel_rfl) (fun _ _ _ h => h) (Or.inl ⟨by rfl, ?ho5l28⟩) (by assumption) ?ro5l28
                  case ho5l28 => (intro w hSw; (try dsimp only at hSw); go_simp; (try with_reducible rfl))
                  try simp only [Act.put, List.getElem_toArray, List.getElem_cons_succ, List.getElem_cons_zero, List.setIfInBounds_toArray, List.set_cons_zero, List.set_cons_succ]
                  refine wpAnyH_done (by kernel_rfl) ?_ _
                  have hnp : 0 < p.lp.n := by have e2 : p.lp.n = n := hol.out; have := HNP.out; omega
                  have HV : Hid (LA.LinVal p.lp cs rs 3 0 1) := Lib.hid (.inr (.inl ⟨fun e => hz (by rw [← hlc.out, e]; rfl), hnp, ⟨x, List.mem_of_getElem? hx.out, by rw [← HSV.out]; exact HG.out⟩, rfl, rfl, rfl⟩))
                  go_wp2
                  refine bodyPost_ret (v := .tuple #[.int .i64 3, .int .i64 0, .int .i64 1]) ?_ rfl ⟨3, 0, 1, rfl, HF.out.val HOK.out hol.out HV.out, by omega, by repeat (first | with_reducible exact D11 | with_reducible apply bdrew | with_reducible apply bdrewN | with_reducible apply balloc | ((with_reducible refine bset ?_ ?_ _); rotate_left; (first | omega | (simp <;> omega))))⟩
                  simp [results, Try.results17]
              · have hdg : decide (s > 0) = false := decide_eq_false hgt
                have HG := Lib.hid (show s ≤ 0 by omega)
                go_wp2_with fail
                refine wp_region_held_drew (S := fun W => W.cell? ⟨w.heap.size, 2, none⟩ = some (.slice AO n co) ∧ W.cell? ⟨g2, i * 2, none⟩ = some (.slice AV n cV)) (by kernel_rfl) (by exact ⟨(by simp [F10]), (hBr.cell (blt hx1)).trans hx1⟩) (fun hHeld => ?_)
                refine wpAnyH_take (i := 0) (v := ?vo60) rfl (by kernel_rfl) (by kernel_rfl) (by kernel_rfl) (fun _ _ _ h => h) (Or.inl ⟨by rfl, ?ho60⟩) (by assumption) ?ro60
                case ho60 => (intro w hSw; (try dsimp only at hSw); go_simp; (try with_reducible rfl))
                try simp only [Act.put, List.getElem_toArray, List.getElem_cons_succ, List.getElem_cons_zero, List.setIfInBounds_toArray, List.set_cons_zero, List.set_cons_succ]
                refine wpAnyH_take (i := 1) (v := ?vo61) rfl (by kernel_rfl) (by kernel_rfl) (by kernel_rfl) (fun _ _ _ h => h) (Or.inl ⟨by rfl, ?ho61⟩) (by assumption) ?ro61
                case ho61 => (intro w hSw; (try dsimp only at hSw); go_simp; (try with_reducible rfl))
                try simp only [Act.put, List.getElem_toArray, List.getElem_cons_succ, List.getElem_cons_zero, List.setIfInBounds_toArray, List.set_cons_zero, List.set_cons_succ]
                refine wpAnyH_take (i := 2) (v := ?vo62) rfl (by kernel_rfl) (by kernel_rfl) (by kernel_rfl) (fun _ _ _ h => h) (Or.inl ⟨by rfl, ?ho62⟩) (by assumption) ?ro62
                case ho62 => (intro w hSw; (try dsimp only at hSw); go_simp; (try with_reducible rfl))
                try simp only [Act.put, List.getElem_toArray, List.getElem_cons_succ, List.getElem_cons_zero, List.setIfInBounds_toArray, List.set_cons_zero, List.set_cons_succ]
                refine wpAnyH_take (i := 3) (v := ?vo63) rfl (by kernel_rfl) (by kernel_rfl) (by kernel_rfl) (fun _ _ _ h => h) (Or.inl ⟨by rfl, ?ho63⟩) (by assumption) ?ro63
                case ho63 => (intro w hSw; (try dsimp only at hSw); go_simp; (try with_reducible rfl))
                try simp only [Act.put, List.getElem_toArray, List.getElem_cons_succ, List.getElem_cons_zero, List.setIfInBounds_toArray, List.set_cons_zero, List.set_cons_succ]
                refine wpAnyH_take (i := 4) (v := ?vo64) rfl (by kernel_rfl) (by kernel_rfl) (by kernel_rfl) (fun _ _ _ h => h) (Or.inl ⟨by rfl, ?ho64⟩) (by assumption) ?ro64
                case ho64 => (intro w hSw; (try dsimp only at hSw); go_simp; (try with_reducible rfl))
                try simp only [Act.put, List.getElem_toArray, List.getElem_cons_succ, List.getElem_cons_zero, List.setIfInBounds_toArray, List.set_cons_zero, List.set_cons_succ]
                refine wpAnyH_take (i := 5) (v := ?vo65) rfl (by kernel_rfl) (by kernel_rfl) (by kernel_rfl) (fun _ _ _ h => h) (Or.inl ⟨by rfl, ?ho65⟩) (by assumption) ?ro65
                case ho65 => (intro w hSw; (try dsimp only at hSw); go_simp; (try with_reducible rfl))
                try simp only [Act.put, List.getElem_toArray, List.getElem_cons_succ, List.getElem_cons_zero, List.setIfInBounds_toArray, List.set_cons_zero, List.set_cons_succ]
                refine wpAnyH_take (i := 6) (v := ?vo66) rfl (by kernel_rfl) (by kernel_rfl) (by kernel_rfl) (fun _ _ _ h => h) (Or.inl ⟨by rfl, ?ho66⟩) (by assumption) ?ro66
                case ho66 => (intro w hSw; (try dsimp only at hSw); go_simp; (try with_reducible rfl))
                try simp only [Act.put, List.getElem_toArray, List.getElem_cons_succ, List.getElem_cons_zero, List.setIfInBounds_toArray, List.set_cons_zero, List.set_cons_succ]
                refine wpAnyH_ready (rs := [7]) (by kernel_rfl) (by simp) ?_
                refine (AllReadyH.cons rfl (fun K hK => ?bo61x7) AllReadyH.nil)
                case bo61x7 =>
                  go_simp
                  go_at_call 28
                  refine (HP.out _ (by repeat (first | with_reducible exact hBr | with_reducible apply bdrew | with_reducible apply bdrewN | with_reducible apply balloc | ((with_reducible refine bset ?_ ?_ _); rotate_left; (first | omega | (simp <;> omega)))))).mono ?_
                  rintro e w11 ⟨rfl, hB11⟩
                  have D11 := dstep w hB11 (by repeat (first | with_reducible exact D10 | with_reducible apply bdrew | with_reducible apply bdrewN | with_reducible apply balloc | ((with_reducible refine bset ?_ ?_ _); rotate_left; (first | omega | (simp <;> omega)))))
                  have B11 := dstep w2 hB11 (by repeat (first | with_reducible exact hBr | with_reducible apply bdrew | with_reducible apply bdrewN | with_reducible apply balloc | ((with_reducible refine bset ?_ ?_ _); rotate_left; (first | omega | (simp <;> omega)))))
                  have C11 := Cls.below (l := [(w.heap.size, 0, .slice AR m cr), (w.heap.size, 1, .slice AB m cb), (w.heap.size, 2, .slice AO n co)]) hB11 (by simp [Cls, go_sem, F10, y10w0, y10wp1, y10wp2])
                  have F11 := C11
                  simp only [Cls, and_true] at F11
                  have y11w0 : w.heap.size < w11.heap.size := C11.blk (b := w.heap.size) (k := 0) (v := .slice AR m cr) (by simp)
                  have y11wp1 : w.heap.size < w11.heap.size + 1 := (by omega)
                  have y11wp2 : w.heap.size < w11.heap.size + 1 + 1 := (by omega)
                  have hSS : w11.cell? ⟨w.heap.size, 2, none⟩ = some (.slice AO n co) ∧ w11.cell? ⟨g2, i * 2, none⟩ = some (.slice AV n cV) := ⟨(by simp [F11]), (B11.cell (blt hx1)).trans hx1⟩
                  go_wp2_with fail
                  refine hK.out _ _ hSS (fun hHeld => ?_)
                  clear hK K
                  try simp only [Act.put, List.getElem_toArray, List.getElem_cons_succ, List.getElem_cons_zero, List.setIfInBounds_toArray, List.set_cons_zero, List.set_cons_succ]
                  refine wpAnyH_take (i := 8) (v := ?vo6l28) rfl (by kernel_rfl) (by kernel_rfl) (by kernel_rfl) (fun _ _ _ h => h) (Or.inl ⟨by rfl, ?ho6l28⟩) (by assumption) ?ro6l28
                  case ho6l28 => (intro w hSw; (try dsimp only at hSw); go_simp; (try with_reducible rfl))
                  try simp only [Act.put, List.getElem_toArray, List.getElem_cons_succ, List.getElem_cons_zero, List.setIfInBounds_toArray, List.set_cons_zero, List.set_cons_succ]
                  refine wpAnyH_done (by kernel_rfl) ?_ _
                  go_wp2
                  go_roundw
                  case rel => exact ⟨i + 1, by omega, by go_num, Lib.hid (fun k hk r hr => by
                    rcases Nat.lt_or_ge k i with h | h
                    · exact HI.out k h r hr
                    · obtain rfl : k = i := (by omega)
                      rw [hx.out] at hr
                      injection hr with hr
                      subst hr
                      rw [← HSV.out]; exact HG.out), by repeat (first | with_reducible exact B11 | with_reducible apply bdrew | with_reducible apply bdrewN | with_reducible apply balloc | ((with_reducible refine bset ?_ ?_ _); rotate_left; (first | omega | (simp <;> omega))))⟩
                  case measure => simp [intOf]; omega
            · obtain rfl : i = lr := by omega
              have HNR := Lib.hid (fun (_ : 0 < p.lp.n) (r : List Int × Int) (hr : r ∈ rs) => by obtain ⟨k, hk⟩ := List.getElem?_of_mem hr; exact HI.out k (by rw [← hlr.out]; exact (List.getElem?_eq_some_iff.1 hk).1) r hk)
              clear HI
              obtain ⟨g1, AV, cV, hA1, hx1, hx2, hXI⟩ := OwnCo.at2 HO1.out hx0.out
              subst hA1
              simp only [Nat.zero_mul, Nat.zero_add] at hx1 hx2
              have HX := Lib.hid (HCS.out.ok x0 (List.mem_of_getElem? hx0.out))
              rw [HX.out.1] at hx1
              have HXI := Lib.hid hXI
              obtain ⟨s, hs⟩ : ∃ s, Hid (dotL n p.obj x0.1 = s) := ⟨_, Lib.hid rfl⟩
              have HSV : Hid (s = LA.valP p.lp (LA.atI x0.1)) := Lib.hid (by rw [← hs.out, ← hol.out, objv_dot])
              have HSB : Hid (-707788800 ≤ s ∧ s ≤ 707788800) := Lib.hid (by rw [HSV.out]; exact val_le HOK.out HX.out.2.2.2.1)
              obtain ⟨d0, hd0⟩ : ∃ d, Hid (x0.2 = d) := ⟨_, Lib.hid rfl⟩
              rw [hd0.out] at hx2
              have HDB : Hid (0 < d0 ∧ d0 ≤ 1179648) := Lib.hid (by rw [← hd0.out]; exact ⟨HX.out.2.1, HX.out.2.2.1⟩)
              clear hXI
              have HP : Hid (∀ W : World, Below w1.heap.size w1 W → Calls Try.prog 28 #[.slice AO n co, .slice AV n cV] W fun e w' => e = .returned (.int .i64 s) ∧ Below W.heap.size W w') := Lib.hid (fun W hW => by
                have h := sprod_any W AO AV co cV p.obj x0.1 n hol (Lib.hid HX.out.1) hn6 (HM.out.obj.below (D1.trans (hW.mono D1.size))) (HXI.out.below hW) (fun a ha => by have := HOK.out.c a ha; omega) (fun a ha => by have := HX.out.2.2.2.1 a ha; omega)
                rw [hs.out] at h; exact h)
              go_wp2_with fail
              refine wp_region_held_drew (S := fun W => W.cell? ⟨w.heap.size, 2, none⟩ = some (.slice AO n co) ∧ W.cell? ⟨g1, 0, none⟩ = some (.slice AV n cV)) (by kernel_rfl) (by exact ⟨(by simp [go_sem, F10, y10w0, y10wp1, y10wp2]), ((by repeat (first | with_reducible exact E10 | with_reducible apply bdrew | with_reducible apply bdrewN | with_reducible apply balloc | ((with_reducible refine bset ?_ ?_ _); rotate_left; (first | omega | (simp <;> omega)))) : Below w1.heap.size w1 w10.drew).cell (blt hx1)).trans hx1⟩) (fun hHeld => ?_)
              refine wpAnyH_take (i := 0) (v := ?vo70) rfl (by kernel_rfl) (by kernel_rfl) (by kernel_rfl) (fun _ _ _ h => h) (Or.inl ⟨by rfl, ?ho70⟩) (by assumption) ?ro70
              case ho70 => (intro w hSw; (try dsimp only at hSw); go_simp; (try with_reducible rfl))
              try simp only [Act.put, List.getElem_toArray, List.getElem_cons_succ, List.getElem_cons_zero, List.setIfInBounds_toArray, List.set_cons_zero, List.set_cons_succ]
              refine wpAnyH_take (i := 1) (v := ?vo71) rfl (by kernel_rfl) (by kernel_rfl) (by kernel_rfl) (fun _ _ _ h => h) (Or.inl ⟨by rfl, ?ho71⟩) (by assumption) ?ro71
              case ho71 => (intro w hSw; (try dsimp only at hSw); go_simp; (try with_reducible rfl))
              try simp only [Act.put, List.getElem_toArray, List.getElem_cons_succ, List.getElem_cons_zero, List.setIfInBounds_toArray, List.set_cons_zero, List.set_cons_succ]
              refine wpAnyH_take (i := 2) (v := ?vo72) rfl (by kernel_rfl) (by kernel_rfl) (by kernel_rfl) (fun _ _ _ h => h) (Or.inl ⟨by rfl, ?ho72⟩) (by assumption) ?ro72
              case ho72 => (intro w hSw; (try dsimp only at hSw); go_simp; (try with_reducible rfl))
              try simp only [Act.put, List.getElem_toArray, List.getElem_cons_succ, List.getElem_cons_zero, List.setIfInBounds_toArray, List.set_cons_zero, List.set_cons_succ]
              refine wpAnyH_take (i := 3) (v := ?vo73) rfl (by kernel_rfl) (by kernel_rfl) (by kernel_rfl) (fun _ _ _ h => h) (Or.inl ⟨by rfl, ?ho73⟩) (by assumption) ?ro73
              case ho73 => (intro w hSw; (try dsimp only at hSw); go_simp; (try with_reducible rfl))
              try simp only [Act.put, List.getElem_toArray, List.getElem_cons_succ, List.getElem_cons_zero, List.setIfInBounds_toArray, List.set_cons_zero, List.set_cons_succ]
              refine wpAnyH_take (i := 4) (v := ?vo74) rfl (by kernel_rfl) (by kernel_rfl) (by kernel_rfl) (fun _ _ _ h => h) (Or.inl ⟨by rfl, ?ho74⟩) (by assumption) ?ro74
              case ho74 => (intro w hSw; (try dsimp only at hSw); go_simp; (try with_reducible rfl))
              try simp only [Act.put, List.getElem_toArray, List.getElem_cons_succ, List.getElem_cons_zero, List.setIfInBounds_toArray, List.set_cons_zero, List.set_cons_succ]
              refine wpAnyH_take (i := 5) (v := ?vo75) rfl (by kernel_rfl) (by kernel_rfl) (by kernel_rfl) (fun _ _ _ h => h) (Or.inl ⟨by rfl, ?ho75⟩) (by assumption) ?ro75
              case ho75 => (intro w hSw; (try dsimp only at hSw); go_simp; (try with_reducible rfl))
              try simp only [Act.put, List.getElem_toArray, List.getElem_cons_succ, List.getElem_cons_zero, List.setIfInBounds_toArray, List.set_cons_zero, List.set_cons_succ]
              refine wpAnyH_ready (rs := [6]) (by kernel_rfl) (by simp) ?_
              refine (AllReadyH.cons rfl (fun K hK => ?bo71x6) AllReadyH.nil)
              case bo71x6 =>
                go_simp
                go_at_call 28
                refine (HP.out _ (by repeat (first | with_reducible exact E10 | with_reducible apply bdrew | with_reducible apply bdrewN | with_reducible apply balloc | ((with_reducible refine bset ?_ ?_ _); rotate_left; (first | omega | (simp <;> omega)))))).mono ?_
                rintro e w11 ⟨rfl, hB11⟩
                have D11 := dstep w hB11 (by repeat (first | with_reducible exact D10 | with_reducible apply bdrew | with_reducible apply bdrewN | with_reducible apply balloc | ((with_reducible refine bset ?_ ?_ _); rotate_left; (first | omega | (simp <;> omega)))))
                have E11 := dstep w1 hB11 (by repeat (first | with_reducible exact E10 | with_reducible apply bdrew | with_reducible apply bdrewN | with_reducible apply balloc | ((with_reducible refine bset ?_ ?_ _); rotate_left; (first | omega | (simp <;> omega)))))
                have C11 := Cls.below (l := [(w.heap.size, 0, .slice AR m cr), (w.heap.size, 1, .slice AB m cb), (w.heap.size, 2, .slice AO n co)]) hB11 (by simp [Cls, go_sem, F10, y10w0, y10wp1, y10wp2])
                have F11 := C11
                simp only [Cls, and_true] at F11
                have y11w0 : w.heap.size < w11.heap.size := C11.blk (b := w.heap.size) (k := 0) (v := .slice AR m cr) (by simp)
                have y11wp1 : w.heap.size < w11.heap.size + 1 := (by omega)
                have y11wp2 : w.heap.size < w11.heap.size + 1 + 1 := (by omega)
                have hSS : w11.cell? ⟨w.heap.size, 2, none⟩ = some (.slice AO n co) ∧ w11.cell? ⟨g1, 0, none⟩ = some (.slice AV n cV) := ⟨(by simp [F11]), (E11.cell (blt hx1)).trans hx1⟩
                go_wp2_with fail
                refine hK.out _ _ hSS (fun hHeld => ?_)
                clear hK K
                try simp only [Act.put, List.getElem_toArray, List.getElem_cons_succ, List.getElem_cons_zero, List.setIfInBounds_toArray, List.set_cons_zero, List.set_cons_succ]
                refine wpAnyH_take (i := 7) (v := ?vo7l27) rfl (by kernel_rfl) (by kernel_rfl) (by kernel_rfl) (fun _ _ _ h => h) (Or.inl ⟨by rfl, ?ho7l27⟩) (by assumption) ?ro7l27
                case ho7l27 => (intro w hSw; (try dsimp only at hSw); go_simp; (try with_reducible rfl))
                try simp only [Act.put, List.getElem_toArray, List.getElem_cons_succ, List.getElem_cons_zero, List.setIfInBounds_toArray, List.set_cons_zero, List.set_cons_succ]
                refine wpAnyH_done (by kernel_rfl) ?_ _
                have hx2c := (E11.cell (blt hx2)).trans hx2
                go_wp2_with fail
                clear hx2c
                go_loopw [9, 10, 11] (fun a b x wr => ∃ (i : Nat) (num den : Int), 1 ≤ i ∧ i ≤ lc ∧ x = .int .i64 i ∧ .int .i64 num = a ∧ .int .i64 den = b ∧ Hid ((∃ c ∈ cs, num = LA.valP p.lp (LA.atI c.1) ∧ den = c.2) ∧ ∀ k : Nat, k < i → ∀ c, cs[k]? = some c → LA.valP p.lp (LA.atI c.1) * den ≤ num * c.2) ∧ Hid ((-707788800 ≤ num ∧ num ≤ 707788800) ∧ 0 < den ∧ den ≤ 1179648) ∧ Below w1.heap.size w1 wr) (fun _ _ x _ => lc - (intOf x).toNat)
                case atStart => exact ⟨1, s, d0, Nat.le_refl _, by omega, rfl, rfl, rfl, Lib.hid ⟨⟨x0, List.mem_of_getElem? hx0.out, HSV.out, hd0.out.symm⟩, fun k hk c hc => by obtain rfl : k = 0 := (by omega); rw [hx0.out] at hc; injection hc with hc; subst hc; rw [← HSV.out, ← hd0.out]; exact Int.le_refl _⟩, Lib.hid ⟨HSB.out, HDB.out⟩, by repeat (first | with_reducible exact E11 | with_reducible apply bdrew | with_reducible apply bdrewN | with_reducible apply balloc | ((with_reducible refine bset ?_ ?_ _); rotate_left; (first | omega | (simp <;> omega))))⟩
                case round =>
                  clear HP HX HXI hs HSV HSB hd0 HDB hx1 hx2
                  obtain ⟨i, num, den, hi1, hi, rfl, rfl, rfl, HI, HBD, hBr⟩ := hrel
                  obtain ⟨w20, rfl⟩ : ∃ wo : World, wo = wr := ⟨_, rfl⟩
                  have D20 := D1.trans (hBr.mono D1.size)
                  have C20 := Cls.below (l := [(w.heap.size, 0, .slice AR m cr), (w.heap.size, 1, .slice AB m cb), (w.heap.size, 2, .slice AO n co)]) hBr C1
                  have d20s := D20.size
                  have F20 := C20
                  simp only [Cls, and_true] at F20
                  have y20w0 : w.heap.size < w20.heap.size := C20.blk (b := w.heap.size) (k := 0) (v := .slice AR m cr) (by simp)
                  have y20wp1 : w.heap.size < w20.heap.size + 1 := (by omega)
                  have y20wp2 : w.heap.size < w20.heap.size + 1 + 1 := (by omega)
                  by_cases hlt : i < lc
                  · obtain ⟨x, hx⟩ : ∃ x, Hid (cs[i]? = some x) := ⟨_, Lib.hid (List.getElem?_eq_getElem (by rw [hlc.out]; exact hlt))⟩
                    obtain ⟨g2, AV, cV, hA2, hx1, hx2, hXI⟩ := OwnCo.at2 HO1.out hx.out
                    injection hA2 with hA2
                    injection hA2 with hA2
                    subst hA2
                    have HX := Lib.hid (HCS.out.ok x (List.mem_of_getElem? hx.out))
                    rw [HX.out.1] at hx1
                    have HXI := Lib.hid hXI
                    obtain ⟨s, hs⟩ : ∃ s, Hid (dotL n p.obj x.1 = s) := ⟨_, Lib.hid rfl⟩
                    have HSV : Hid (s = LA.valP p.lp (LA.atI x.1)) := Lib.hid (by rw [← hs.out, ← hol.out, objv_dot])
                    have hsb : -707788800 ≤ s ∧ s ≤ 707788800 := by rw [HSV.out]; exact val_le HOK.out HX.out.2.2.2.1
                    obtain ⟨d, hd⟩ : ∃ d, Hid (x.2 = d) := ⟨_, Lib.hid rfl⟩
                    rw [hd.out] at hx2
                    have hdb : 0 < d ∧ d ≤ 1179648 := by rw [← hd.out]; exact ⟨HX.out.2.1, HX.out.2.2.1⟩
                    have HSB := Lib.hid hsb
                    have HDB := Lib.hid hdb
                    obtain ⟨⟨hn1, hn2⟩, hd1, hd2⟩ := HBD.out
                    have hm1 := LA.abs_mul hsb (show -1179648 ≤ den ∧ den ≤ 1179648 by omega)
                    have hm2 := LA.abs_mul (show -707788800 ≤ num ∧ num ≤ 707788800 by omega) (show -1179648 ≤ d ∧ d ≤ 1179648 by omega)
                    obtain ⟨hm3, hm4⟩ := hm1
                    obtain ⟨hm5, hm6⟩ := hm2
                    obtain ⟨u1, hu1⟩ : ∃ u, Hid (s * den = u) := ⟨_, Lib.hid rfl⟩
                    obtain ⟨u2, hu2⟩ : ∃ u, Hid (num * d = u) := ⟨_, Lib.hid rfl⟩
                    have hwu1 : IntKind.i64.wrap (s * den) = u1 := by rw [hu1.out] at hm3 hm4 ⊢; exact Go.IntWalk.i64_in _ (by omega)
                    have hwu2 : IntKind.i64.wrap (num * d) = u2 := by rw [hu2.out] at hm5 hm6 ⊢; exact Go.IntWalk.i64_in _ (by omega)
                    have hiI : (i : Int) < (lc : Int) := by omega
                    clear hXI hsb hdb hm3 hm4 hm5 hm6
                    have HP : Hid (∀ W : World, Below w1.heap.size w1 W → Calls Try.prog 28 #[.slice AO n co, .slice AV n cV] W fun e w' => e = .returned (.int .i64 s) ∧ Below W.heap.size W w') := Lib.hid (fun W hW => by
                      have h := sprod_any W AO AV co cV p.obj x.1 n hol (Lib.hid HX.out.1) hn6 (HM.out.obj.below (D1.trans (hW.mono D1.size))) (HXI.out.below hW) (fun a ha => by have := HOK.out.c a ha; omega) (fun a ha => by have := HX.out.2.2.2.1 a ha; omega)
                      rw [hs.out] at h; exact h)
                    go_wp2_with fail
                    refine wp_region_held_drew (S := fun W => W.cell? ⟨w.heap.size, 2, none⟩ = some (.slice AO n co) ∧ W.cell? ⟨g1, i * 2, none⟩ = some (.slice AV n cV)) (by kernel_rfl) (by exact ⟨(by simp [F20]), (hBr.cell (blt hx1)).trans hx1⟩) (fun hHeld => ?_)
                    refine wpAnyH_take (i := 0) (v := ?vo80) rfl (by kernel_rfl) (by kernel_rfl) (by kernel_rfl) (fun _ _ _ h => h) (Or.inl ⟨by rfl, ?ho80⟩) (by assumption) ?ro80
                    case ho80 => (intro w hSw; (try dsimp only at hSw); go_simp; (try with_reducible rfl))
                    try simp only [Act.put, List.getElem_toArray, List.getElem_cons_succ, List.getElem_cons_zero, List.setIfInBounds_toArray, List.set_cons_zero, List.set_cons_succ]
                    refine wpAnyH_take (i := 1) (v := ?vo81) rfl (by kernel_rfl) (by kernel_rfl) (by kernel_rfl) (fun _ _ _ h => h) (Or.inl ⟨by rfl, ?ho81⟩) (by assumption) ?ro81
                    case ho81 => (intro w hSw; (try dsimp only at hSw); go_simp; (try with_reducible rfl))
                    try simp only [Act.put, List.getElem_toArray, List.getElem_cons_succ, List.getElem_cons_zero, List.setIfInBounds_toArray, List.set_cons_zero, List.set_cons_succ]
                    refine wpAnyH_take (i := 2) (v := ?vo82) rfl (by kernel_rfl) (by kernel_rfl) (by kernel_rfl) (fun _ _ _ h => h) (Or.inl ⟨by rfl, ?ho82⟩) (by assumption) ?ro82
                    case ho82 => (intro w hSw; (try dsimp only at hSw); go_simp; (try with_reducible rfl))
                    try simp only [Act.put, List.getElem_toArray, List.getElem_cons_succ, List.getElem_cons_zero, List.setIfInBounds_toArray, List.set_cons_zero, List.set_cons_succ]
                    refine wpAnyH_take (i := 3) (v := ?vo83) rfl (by kernel_rfl) (by kernel_rfl) (by kernel_rfl) (fun _ _ _ h => h) (Or.inl ⟨by rfl, ?ho83⟩) (by assumption) ?ro83
                    case ho83 => (intro w hSw; (try dsimp only at hSw); go_simp; (try with_reducible rfl))
                    try simp only [Act.put, List.getElem_toArray, List.getElem_cons_succ, List.getElem_cons_zero, List.setIfInBounds_toArray, List.set_cons_zero, List.set_cons_succ]
                    refine wpAnyH_take (i := 4) (v := ?vo84) rfl (by kernel_rfl) (by kernel_rfl) (by kernel_rfl) (fun _ _ _ h => h) (Or.inl ⟨by rfl, ?ho84⟩) (by assumption) ?ro84
                    case ho84 => (intro w hSw; (try dsimp only at hSw); go_simp; (try with_reducible rfl))
                    try simp only [Act.put, List.getElem_toArray, List.getElem_cons_succ, List.getElem_cons_zero, List.setIfInBounds_toArray, List.set_cons_zero, List.set_cons_succ]
                    refine wpAnyH_take (i := 5) (v := ?vo85) rfl (by kernel_rfl) (by kernel_rfl) (by kernel_rfl) (fun _ _ _ h => h) (Or.inl ⟨by rfl, ?ho85⟩) (by assumption) ?ro85
                    case ho85 => (intro w hSw; (try dsimp only at hSw); go_simp; (try with_reducible rfl))
                    try simp only [Act.put, List.getElem_toArray, List.getElem_cons_succ, List.getElem_cons_zero, List.setIfInBounds_toArray, List.set_cons_zero, List.set_cons_succ]
                    refine wpAnyH_take (i := 6) (v := ?vo86) rfl (by kernel_rfl) (by kernel_rfl) (by kernel_rfl) (fun _ _ _ h => h) (Or.inl ⟨by rfl, ?ho86⟩) (by assumption) ?ro86
                    case ho86 => (intro w hSw; (try dsimp only at hSw); go_simp; (try with_reducible rfl))
                    try simp only [Act.put, List.getElem_toArray, List.getElem_cons_succ, List.getElem_cons_zero, List.setIfInBounds_toArray, List.set_cons_zero, List.set_cons_succ]
                    refine wpAnyH_ready (rs := [7]) (by kernel_rfl) (by simp) ?_
                    refine (AllReadyH.cons rfl (fun K hK => ?bo81x7) AllReadyH.nil)
                    case bo81x7 =>
                      go_simp
                      go_at_call 28
                      refine (HP.out _ (by repeat (first | with_reducible exact hBr | with_reducible apply bdrew | with_reducible apply bdrewN | with_reducible apply balloc | ((with_reducible refine bset ?_ ?_ _); rotate_left; (first | omega | (simp <;> omega)))))).mono ?_
                      rintro e w21 ⟨rfl, hB21⟩
                      have D21 := dstep w hB21 (by repeat (first | with_reducible exact D20 | with_reducible apply bdrew | with_reducible apply bdrewN | with_reducible apply balloc | ((with_reducible refine bset ?_ ?_ _); rotate_left; (first | omega | (simp <;> omega)))))
                      have E21 := dstep w1 hB21 (by repeat (first | with_reducible exact hBr | with_reducible apply bdrew | with_reducible apply bdrewN | with_reducible apply balloc | ((with_reducible refine bset ?_ ?_ _); rotate_left; (first | omega | (simp <;> omega)))))
                      have C21 := Cls.below (l := [(w.heap.size, 0, .slice AR m cr), (w.heap.size, 1, .slice AB m cb), (w.heap.size, 2, .slice AO n co)]) hB21 (by simp [Cls, go_sem, F20, y20w0, y20wp1, y20wp2])
                      have F21 := C21
                      simp only [Cls, and_true] at F21
                      have y21w0 : w.heap.size < w21.heap.size := C21.blk (b := w.heap.size) (k := 0) (v := .slice AR m cr) (by simp)
                      have y21wp1 : w.heap.size < w21.heap.size + 1 := (by omega)
                      have y21wp2 : w.heap.size < w21.heap.size + 1 + 1 := (by omega)
                      have hSS : w21.cell? ⟨w.heap.size, 2, none⟩ = some (.slice AO n co) ∧ w21.cell? ⟨g1, i * 2, none⟩ = some (.slice AV n cV) := ⟨(by simp [F21]), (E21.cell (blt hx1)).trans hx1⟩
                      go_wp2_with fail
                      refine hK.out _ _ hSS (fun hHeld => ?_)
                      clear hK K
                      try simp only [Act.put, List.getElem_toArray, List.getElem_cons_succ, List.getElem_cons_zero, List.setIfInBounds_toArray, List.set_cons_zero, List.set_cons_succ]
                      refine wpAnyH_take (i := 8) (v := ?vo8l28) rfl (by kernel_rfl) (by kernel_rfl) (by kernel_rfl) (fun _ _ _ h => h) (Or.inl ⟨by rfl, ?ho8l28⟩) (by assumption) ?ro8l28
                      case ho8l28 => (intro w hSw; (try dsimp only at hSw); go_simp; (try with_reducible rfl))
                      try simp only [Act.put, List.getElem_toArray, List.getElem_cons_succ, List.getElem_cons_zero, List.setIfInBounds_toArray, List.set_cons_zero, List.set_cons_succ]
                      refine wpAnyH_done (by kernel_rfl) ?_ _
                      have hx2c := (E21.cell (blt hx2)).trans hx2
                      by_cases hgt : u1 > u2
                      · have hdg : decide (u1 > u2) = true := decide_eq_true hgt
                        have HG := Lib.hid hgt
                        go_wp2_with fail
                        refine wp_region_held_drew (S := fun W => W.cell? ⟨g1, i * 2 + 1, none⟩ = some (.int .i64 d)) (by kernel_rfl) (by simp [hx2c]) (fun hHeld => ?_)
                        refine wpAnyH_take (i := 0) (v := ?vo90) rfl (by kernel_rfl) (by kernel_rfl) (by kernel_rfl) (fun _ _ _ h => h) (Or.inl ⟨by rfl, ?ho90⟩) (by assumption) ?ro90
                        case ho90 => (intro w hSw; (try dsimp only at hSw); go_simp; (try with_reducible rfl))
                        try simp only [Act.put, List.getElem_toArray, List.getElem_cons_succ, List.getElem_cons_zero, List.setIfInBounds_toArray, List.set_cons_zero, List.set_cons_succ]
                        refine wpAnyH_take (i := 1) (v := ?vo91) rfl (by kernel_rfl) (by kernel_rfl) (by kernel_rfl) (fun _ _ _ h => h) (Or.inl ⟨by rfl, ?ho91⟩) (by assumption) ?ro91
                        case ho91 => (intro w hSw; (try dsimp only at hSw); go_simp; (try with_reducible rfl))
                        try simp only [Act.put, List.getElem_toArray, List.getElem_cons_succ, List.getElem_cons_zero, List.setIfInBounds_toArray, List.set_cons_zero, List.set_cons_succ]
                        refine wpAnyH_take (i := 2) (v := ?vo92) rfl (by kernel_rfl) (by kernel_rfl) (by kernel_rfl) (fun _ _ _ h => h) (Or.inl ⟨by rfl, ?ho92⟩) (by assumption) ?ro92
                        case ho92 => (intro w hSw; (try dsimp only at hSw); go_simp; (try with_reducible rfl))
                        try simp only [Act.put, List.getElem_toArray, List.getElem_cons_succ, List.getElem_cons_zero, List.setIfInBounds_toArray, List.set_cons_zero, List.set_cons_succ]
                        refine wpAnyH_take (i := 3) (v := ?vo93) rfl (by kernel_rfl) (by kernel_rfl) (by kernel_rfl) (fun _ _ _ h => h) (Or.inl ⟨by rfl, ?ho93⟩) (by assumption) ?ro93
                        case ho93 => (intro w hSw; (try dsimp only at hSw); go_simp; (try with_reducible rfl))
                        try simp only [Act.put, List.getElem_toArray, List.getElem_cons_succ, List.getElem_cons_zero, List.setIfInBounds_toArray, List.set_cons_zero, List.set_cons_succ]
                        refine wpAnyH_take (i := 4) (v := ?vo94) rfl (by kernel_rfl) (by kernel_rfl) (by kernel_rfl) (fun _ _ _ h => h) (Or.inl ⟨by rfl, ?ho94⟩) (by assumption) ?ro94
                        case ho94 => (intro w hSw; (try dsimp only at hSw); go_simp; (try with_reducible rfl))
                        try simp only [Act.put, List.getElem_toArray, List.getElem_cons_succ, List.getElem_cons_zero, List.setIfInBounds_toArray, List.set_cons_zero, List.set_cons_succ]
                        refine wpAnyH_take (i := 5) (v := ?vo95) rfl (by kernel_rfl) (by kernel_rfl) (by kernel_rfl) (fun _ _ _ h => h) (Or.inl ⟨by rfl, ?ho95⟩) (by assumption) ?ro95
                        case ho95 => (intro w hSw; (try dsimp only at hSw); go_simp; (try with_reducible rfl))
                        try simp only [Act.put, List.getElem_toArray, List.getElem_cons_succ, List.getElem_cons_zero, List.setIfInBounds_toArray, List.set_cons_zero, List.set_cons_succ]
                        refine wpAnyH_take (i := 6) (v := ?vo96) rfl (by kernel_rfl) (by kernel_rfl) (by kernel_rfl) (fun _ _ _ h => h) (Or.inl ⟨by rfl, ?ho96⟩) (by assumption) ?ro96
                        case ho96 => (intro w hSw; (try dsimp only at hSw); go_simp; (try with_reducible rfl))
                        try simp only [Act.put, List.getElem_toArray, List.getElem_cons_succ, List.getElem_cons_zero, List.setIfInBounds_toArray, List.set_cons_zero, List.set_cons_succ]
                        refine wpAnyH_take (i := 7) (v := ?vo97) rfl (by kernel_rfl) (by kernel_rfl) (by kernel_rfl) (fun _ _ _ h => h) (Or.inl ⟨by rfl, ?ho97⟩) (by assumption) ?ro97
                        case ho97 => (intro w hSw; (try dsimp only at hSw); go_simp; (try with_reducible rfl))
                        try simp only [Act.put, List.getElem_toArray, List.getElem_cons_succ, List.getElem_cons_zero, List.setIfInBounds_toArray, List.set_cons_zero, List.set_cons_succ]
                        refine wpAnyH_done (by kernel_rfl) ?_ _
                        go_wp2
                        go_roundw
                        case rel => exact ⟨i + 1, s, d, by omega, by omega, by go_num, rfl, rfl, Lib.hid ⟨⟨x, List.mem_of_getElem? hx.out, HSV.out, hd.out.symm⟩, fun k hk c hc => by
                          rcases Nat.lt_or_ge k i with h | h
                          · exact better (HI.out.2 k h c hc) (by rw [hu1.out, hu2.out]; exact HG.out) hd1 HDB.out.1 (HCS.out.ok c (List.mem_of_getElem? hc)).2.1
                          · obtain rfl : k = i := (by omega)
                            rw [hx.out] at hc
                            injection hc with hc
                            subst hc
                            rw [← HSV.out, ← hd.out]; exact Int.le_refl _⟩, Lib.hid ⟨HSB.out, HDB.out⟩, by repeat (first | with_reducible exact E21 | with_reducible apply bdrew | with_reducible apply bdrewN | with_reducible apply balloc | ((with_reducible refine bset ?_ ?_ _); rotate_left; (first | omega | (simp <;> omega))))⟩
                        case measure => simp [intOf]; omega
                      · have hdg : decide (u1 > u2) = false := decide_eq_false hgt
                        have HG := Lib.hid (show u1 ≤ u2 by omega)
                        go_wp2_with fail
                        go_roundw
                        case rel => exact ⟨i + 1, num, den, by omega, by omega, by go_num, rfl, rfl, Lib.hid ⟨HI.out.1, fun k hk c hc => by
                          rcases Nat.lt_or_ge k i with h | h
                          · exact HI.out.2 k h c hc
                          · obtain rfl : k = i := (by omega)
                            rw [hx.out] at hc
                            injection hc with hc
                            subst hc
                            rw [← HSV.out, hd.out, hu1.out, hu2.out]; exact HG.out⟩, HBD, by repeat (first | with_reducible exact E21 | with_reducible apply bdrew | with_reducible apply bdrewN | with_reducible apply balloc | ((with_reducible refine bset ?_ ?_ _); rotate_left; (first | omega | (simp <;> omega))))⟩
                        case measure => simp [intOf]; omega
                  · obtain rfl : i = lc := by omega
                    have HV : Hid (LA.LinVal p.lp cs rs 1 num den) := Lib.hid (.inr (.inr ⟨fun e => hz (by rw [← hlc.out, e]; rfl), HNR.out, rfl, HI.out.1, fun c hc => by obtain ⟨k, hk⟩ := List.getElem?_of_mem hc; exact HI.out.2 k (by rw [← hlc.out]; exact (List.getElem?_eq_some_iff.1 hk).1) c hk⟩))
                    obtain ⟨⟨hn1, hn2⟩, hd1, hd2⟩ := HBD.out
                    go_wp2
                    refine bodyPost_ret (v := .tuple #[.int .i64 1, .int .i64 num, .int .i64 den]) ?_ rfl ⟨1, num, den, rfl, HF.out.val HOK.out hol.out HV.out, ⟨hn1, hn2, hd1, hd2⟩, by repeat (first | with_reducible exact D20 | with_reducible apply bdrew | with_reducible apply bdrewN | with_reducible apply balloc | ((with_reducible refine bset ?_ ?_ _); rotate_left; (first | omega | (simp <;> omega))))⟩
                    simp [results, Try.results17]


end Go.Proofs.Ytkepfmglljkjhaa
