/-
  The references' words on vectors: Product, NotNegative, Column, IsPoint, IsDual, Meet, Refutes, Improves.
-/
import Derived.Test.YtkepfmglljkjhaaS7
namespace Go.Proofs.Ytkepfmglljkjhaa
open Go.RowKit
set_option linter.unusedVariables false
set_option linter.unusedSimpArgs false

/-- A call that tells whether I holds. -/
def Says (I : Prop) (w w' : World) (e : Ending) : Prop := ∃ ok : Bool, e = .returned (.bool ok) ∧ Hid (ok = true ↔ I) ∧ Below w.heap.size w w'
set_option maxRecDepth 100000 in
set_option maxHeartbeats 1000000 in
theorem sprod_any (w : World) (A B : Option Addr) (cA cB : Nat) (a b : List Int) (n : Nat) (hla : Hid (a.length = n)) (hlb : Hid (b.length = n)) (hn6 : n ≤ 6) (hIa : Ints w A a) (hIb : Ints w B b) (ha : ∀ x ∈ a, -100 ≤ x ∧ x ≤ 100) (hb : ∀ x ∈ b, -100000000 ≤ x ∧ x ≤ 100000000) :
    Calls Try.prog 28 #[.slice A n cA, .slice B n cB] w fun e w' => e = .returned (.int .i64 (dotL n a b)) ∧ Below w.heap.size w w' := by
  have HLE := Lib.hid (dotL_le ha hb)
  have HA := Lib.hid ha
  have HB := Lib.hid hb
  have HS := Lib.hid (dotL_succ (a := a) (b := b))
  clear ha hb
  go_enter Try.func28, Try.ntmps28
  go_wp2_with fail
  go_loopw [5, 6] (fun s x wr => ∃ j : Nat, j ≤ n ∧ x = .int .i64 j ∧ s = .int .i64 (dotL j a b) ∧ Below w.heap.size w wr) (fun _ x _ => n - (intOf x).toNat)
  case atStart => exact ⟨0, Nat.zero_le _, rfl, rfl, by repeat (first | with_reducible exact Below.refl _ _ | with_reducible apply bdrew | with_reducible apply bdrewN | with_reducible apply balloc | ((with_reducible refine bset ?_ ?_ _); rotate_left; (first | omega | (simp <;> omega))))⟩
  case round =>
    obtain ⟨j, hj, rfl, rfl, hBr⟩ := hrel
    obtain ⟨w1, rfl⟩ : ∃ wo : World, wo = wr := ⟨_, rfl⟩
    by_cases hlt : j < n
    · obtain ⟨ad, x, rfl, hx, hxc⟩ := (hIa.below hBr).at_ (k := j) (by rw [hla.out]; exact hlt)
      obtain ⟨ad2, y, rfl, hy, hyc⟩ := (hIb.below hBr).at_ (k := j) (by rw [hlb.out]; exact hlt)
      have hdl : decide ((j : Int) < (n : Int)) = true := decide_eq_true (by omega)
      have h1 := HLE.out j
      have hxb := HA.out x (List.mem_of_getElem? hx.out)
      have hyb := HB.out y (List.mem_of_getElem? hy.out)
      have hmul := mul_le hxb hyb
      have HN := Lib.hid (show dotL (j + 1) a b = dotL j a b + x * y by rw [HS.out, atL_some hx.out, atL_some hy.out])
      obtain ⟨s, hs⟩ : ∃ s, Hid (dotL j a b = s) := ⟨_, Lib.hid rfl⟩
      rw [hs.out] at h1 HN ⊢
      obtain ⟨h11, h12⟩ := h1
      obtain ⟨hmul1, hmul2⟩ := hmul
      go_wp2_with fail
      go_quiet (fail)
      go_wp2
      go_roundw
      case rel => exact ⟨j + 1, by omega, by go_num, by rw [HN.out], by repeat (first | with_reducible exact hBr | with_reducible apply bdrew | with_reducible apply bdrewN | with_reducible apply balloc | ((with_reducible refine bset ?_ ?_ _); rotate_left; (first | omega | (simp <;> omega))))⟩
      case measure => simp [intOf]; omega
    · obtain rfl : n = j := by omega
      go_wp2
      go_ret
      exact ⟨rfl, by repeat (first | with_reducible exact hBr | with_reducible apply bdrew | with_reducible apply bdrewN | with_reducible apply balloc | ((with_reducible refine bset ?_ ?_ _); rotate_left; (first | omega | (simp <;> omega))))⟩

set_option maxRecDepth 100000 in
set_option maxHeartbeats 1000000 in
theorem snn_any (w : World) (A : Option Addr) (cA : Nat) (l : List Int) (n : Nat) (hl : Hid (l.length = n)) (hn6 : n ≤ 100) (hI : Ints w A l) :
    Calls Try.prog 44 #[.slice A n cA] w fun e w' => Says (¬ ∃ a ∈ l, a < 0) w w' e := by
  go_enter Try.func44, Try.ntmps44
  go_wp2_with fail
  go_loopw [3] (fun x wr => ∃ j : Nat, j ≤ n ∧ x = .int .i64 j ∧ Hid (∀ a ∈ l.take j, 0 ≤ a) ∧ Below w.heap.size w wr) (fun x _ => n - (intOf x).toNat)
  case atStart => exact ⟨0, Nat.zero_le _, rfl, Lib.hid (by simp), by repeat (first | with_reducible exact Below.refl _ _ | with_reducible apply bdrew | with_reducible apply bdrewN | with_reducible apply balloc | ((with_reducible refine bset ?_ ?_ _); rotate_left; (first | omega | (simp <;> omega))))⟩
  case round =>
    obtain ⟨j, hj, rfl, HA, hBr⟩ := hrel
    obtain ⟨w1, rfl⟩ : ∃ wo : World, wo = wr := ⟨_, rfl⟩
    by_cases hlt : j < n
    · obtain ⟨ad, x, rfl, hx, hxc⟩ := (hI.below hBr).at_ (k := j) (by rw [hl.out]; exact hlt)
      by_cases hneg : x < 0
      · have hd : decide (x < 0) = true := decide_eq_true hneg
        have HN := Lib.hid hneg
        go_wp2
        refine bodyPost_ret (v := .bool false) ?_ rfl ⟨false, rfl, Lib.hid (iff_of_false (by simp) fun h => h ⟨x, List.mem_of_getElem? hx.out, HN.out⟩), by repeat (first | with_reducible exact hBr | with_reducible apply bdrew | with_reducible apply bdrewN | with_reducible apply balloc | ((with_reducible refine bset ?_ ?_ _); rotate_left; (first | omega | (simp <;> omega))))⟩
        simp [results, Try.results44, go_sem]
      · have hd : decide (x < 0) = false := decide_eq_false hneg
        have HN := Lib.hid (show 0 ≤ x by omega)
        go_wp2
        go_roundw
        case rel => exact ⟨j + 1, by omega, by go_num, Lib.hid (fun c hc => by
          rw [List.take_add_one, hx.out] at hc
          rcases List.mem_append.1 hc with h | h
          · exact HA.out c h
          · have : c = x := by simpa using h
            rw [this]; exact HN.out), by repeat (first | with_reducible exact hBr | with_reducible apply bdrew | with_reducible apply bdrewN | with_reducible apply balloc | ((with_reducible refine bset ?_ ?_ _); rotate_left; (first | omega | (simp <;> omega))))⟩
        case measure => simp [intOf]; omega
    · obtain rfl : n = j := by omega
      have HA2 := Lib.hid (show ¬ ∃ a ∈ l, a < 0 from fun ⟨a, h1, h2⟩ => by
        have h := HA.out a (by rw [List.take_of_length_le (by rw [hl.out]; exact Nat.le_refl _)]; exact h1)
        omega)
      go_wp2
      refine bodyPost_ret (v := .bool true) ?_ rfl ⟨true, rfl, Lib.hid (iff_of_true rfl HA2.out), by repeat (first | with_reducible exact hBr | with_reducible apply bdrew | with_reducible apply bdrewN | with_reducible apply balloc | ((with_reducible refine bset ?_ ?_ _); rotate_left; (first | omega | (simp <;> omega))))⟩
      simp [results, Try.results44, go_sem]

theorem tbRow_snoc (i : Nat) (f : Nat → Int) : tbRow (i + 1) f = tbRow i f ++ [f i] := by
  unfold tbRow
  rw [List.range_succ, List.map_append]; rfl
theorem A_at {p : LpV} {r : List Int} {i j : Nat} {a : Int} (hr : p.rows[i]? = some r) (ha : r[j]? = some a) : p.lp.A i j = a := by
  show (((p.rows[i]?).getD [])[j]?).getD 0 = a
  rw [hr, Option.getD_some, ha]; rfl
set_option maxRecDepth 100000 in
set_option maxHeartbeats 2000000 in
theorem scol_any (w : World) (AR AB AO : Option Addr) (cr cb co : Nat) (p : LpV) (hM : LpMem w AR AB AO p) (hok : LpOk p) (m n : Nat) (hrl : Hid (p.rows.length = m)) (hbl : Hid (p.bounds.length = m)) (hol : Hid (p.obj.length = n)) (hm6 : m ≤ 6) (hn6 : n ≤ 6) (j : Nat) (hj : j < n) :
    Calls Try.prog 43 #[.agg #[.slice AR m cr, .slice AB m cb, .slice AO n co], .int .i64 j] w fun e w' => ∃ A c, e = .returned (.slice A m c) ∧ Ints w' A (tbRow m fun k => p.lp.A k j) ∧ Below w.heap.size w w' := by
  have HRO := Lib.hid hM.rows.llr
  have HOK := Lib.hid hok
  clear hM hok
  go_enter Try.func43, Try.ntmps43
  go_wp2_with fail
  go_loopw [5, 6] (fun v x wr => ∃ i : Nat, i ≤ m ∧ x = .int .i64 i ∧ OwnI (w.heap.size + 1) wr v (tbRow i fun k => p.lp.A k j) ∧ Below w.heap.size w wr ∧ Cls wr [(w.heap.size, 0, .slice AR m cr), (w.heap.size, 1, .slice AB m cb), (w.heap.size, 2, .slice AO n co)]) (fun _ x _ => m - (intOf x).toNat)
  case atStart => exact ⟨0, Nat.zero_le _, rfl, OwnI.nil _ _, (by repeat (first | with_reducible exact Below.refl _ _ | with_reducible apply bdrew | with_reducible apply bdrewN | with_reducible apply balloc | ((with_reducible refine bset ?_ ?_ _); rotate_left; (first | omega | (simp <;> omega))))), (by simp [Cls, go_sem])⟩
  case round =>
    obtain ⟨i, hi, rfl, hO, hBr, hCr⟩ := hrel
    obtain ⟨w1, rfl⟩ : ∃ wo : World, wo = wr := ⟨_, rfl⟩
    have drs := hBr.size
    have Fr := hCr
    simp only [Cls, and_true] at Fr
    have yrw0 : w.heap.size < w1.heap.size := hCr.blk (b := w.heap.size) (k := 0) (v := .slice AR m cr) (by simp)
    have yrwp1 : w.heap.size < w1.heap.size + 1 := (by omega)
    have yrwp2 : w.heap.size < w1.heap.size + 1 + 1 := (by omega)
    by_cases hlt : i < m
    · obtain ⟨ad, r, R, cR, rfl, hr, hrc, hI⟩ := (HRO.out.below hBr).at_ (k := i) (by rw [hrl.out]; exact hlt)
      have hrn := (HOK.out.row hr.out).1
      rw [hol.out] at hrn
      have HRN := Lib.hid hrn
      rw [hrn] at hrc
      clear hrn
      obtain ⟨ad2, a, rfl, ha, hac⟩ := hI.at_ (k := j) (by rw [HRN.out]; exact hj)
      have hlen : (tbRow i fun k => p.lp.A k j).length < 1000000000000 := by rw [tbRow_len]; omega
      have HE := Lib.hid (show tbRow (i + 1) (fun k => p.lp.A k j) = tbRow i (fun k => p.lp.A k j) ++ [a] by rw [tbRow_snoc, A_at hr.out ha.out])
      have hji : (j : Int) < (n : Int) := by omega
      go_wp2_with (at_builtin; go_must (refine wpList_push rfl (.tmp 14) (.tmp 23) rfl w [(w.heap.size, 0, .slice (some ad) m cr), (w.heap.size, 1, .slice AB m cb), (w.heap.size, 2, .slice AO n co)] (w.heap.size + 1) _ _ (a) rfl (OwnI.below hO ?p1) ⟨w1.heap.size, 0, none⟩ 1 rfl ?p2 hlen ?p3 ?p4 ?p5 ?p6 ?p7 ?_; (case p1 => repeat (first | with_reducible exact Below.refl _ _ | with_reducible apply bdrew | with_reducible apply bdrewN | with_reducible apply balloc | ((with_reducible refine bset ?_ ?_ _); rotate_left; (first | omega | (simp <;> omega))))); (case p2 => simp [Cls, go_sem, Fr, yrw0, yrwp1, yrwp2]); (case p3 => (first | omega | (simp <;> omega))); (case p4 => (first | omega | (simp <;> omega))); (case p5 => repeat (first | with_reducible exact hBr | with_reducible apply bdrew | with_reducible apply bdrewN | with_reducible apply balloc | ((with_reducible refine bset ?_ ?_ _); rotate_left; (first | omega | (simp <;> omega))))); (case p6 => simp [Cls, go_sem, Fr, yrw0, yrwp1, yrwp2]); (case p7 => (simp <;> omega)); intro v1 w1 o1 D1 C1 sz1; have d1s := D1.size; have F1 := C1; simp only [Cls, and_true] at F1; have y1w0 : w.heap.size < w1.heap.size := C1.blk (b := w.heap.size) (k := 0) (v := .slice (some ad) m cr) (by simp); have y1wp1 : w.heap.size < w1.heap.size + 1 := (by omega); have y1wp2 : w.heap.size < w1.heap.size + 1 + 1 := (by omega)))
      go_wp2
      go_roundw
      case rel => exact ⟨i + 1, by omega, by go_num, by rw [HE.out]; exact OwnI.below o1 (by repeat (first | with_reducible exact Below.refl _ _ | with_reducible apply bdrew | with_reducible apply bdrewN | with_reducible apply balloc | ((with_reducible refine bset ?_ ?_ _); rotate_left; (first | omega | (simp <;> omega))))), (by repeat (first | with_reducible exact D1 | with_reducible apply bdrew | with_reducible apply bdrewN | with_reducible apply balloc | ((with_reducible refine bset ?_ ?_ _); rotate_left; (first | omega | (simp <;> omega))))), (by simp [Cls, go_sem, F1, y1w0, y1wp1, y1wp2])⟩
      case measure => simp [intOf]; omega
    · obtain rfl : m = i := by omega
      obtain ⟨A', c', rfl, -, hI⟩ := hO.form
      rw [tbRow_len]
      have HI := Lib.hid hI
      go_wp2
      refine bodyPost_ret (v := .slice A' m c') ?_ rfl ⟨A', c', rfl, HI.out.below (by repeat (first | with_reducible exact Below.refl _ _ | with_reducible apply bdrew | with_reducible apply bdrewN | with_reducible apply balloc | ((with_reducible refine bset ?_ ?_ _); rotate_left; (first | omega | (simp <;> omega))))), by repeat (first | with_reducible exact hBr | with_reducible apply bdrew | with_reducible apply bdrewN | with_reducible apply balloc | ((with_reducible refine bset ?_ ?_ _); rotate_left; (first | omega | (simp <;> omega))))⟩
      simp [results, Try.results43, go_sem, Fr, yrw0, yrwp1, yrwp2]

theorem col_dot {p : LpV} {j m : Nat} (y : List Int) : dotL m (tbRow m fun k => p.lp.A k j) y = LA.sumN m fun k => p.lp.A k j * atL y k := by
  unfold dotL
  exact LA.sumN_congr fun k hk => by rw [atL_row _ hk]
theorem col_100 {p : LpV} (hok : LpOk p) {j m : Nat} : ∀ a ∈ tbRow m (fun k => p.lp.A k j), -100 ≤ a ∧ a ≤ 100 := fun a ha => by
  obtain ⟨k, _, rfl⟩ := mem_row ha
  have := hok.A_le k j
  omega
set_option maxRecDepth 100000 in
set_option maxHeartbeats 2000000 in
theorem spoint_any (w : World) (AR AB AO : Option Addr) (cr cb co : Nat) (p : LpV) (hM : LpMem w AR AB AO p) (hok : LpOk p) (m n : Nat) (hrl : Hid (p.rows.length = m)) (hbl : Hid (p.bounds.length = m)) (hol : Hid (p.obj.length = n)) (hm6 : m ≤ 6) (hn6 : n ≤ 6) (X : Option Addr) (cX : Nat) (x : List Int) (d : Int) (hvx : VOk n x d) (hIx : Ints w X x) :
    Calls Try.prog 20 #[.agg #[.slice AR m cr, .slice AB m cb, .slice AO n co], .agg #[.slice X n cX, .int .i64 d]] w fun e w' => Says (LA.IsPt p.lp (atL x) d) w w' e := by
  have HRO := Lib.hid hM.rows.llr
  have HBO := Lib.hid hM.bounds
  have HOB := Lib.hid hM.obj
  have HOK := Lib.hid hok
  have HVX := Lib.hid hvx
  have HIX := Lib.hid hIx
  have HLM : Hid (p.lp.m = m) := Lib.hid hrl.out
  have HLN : Hid (p.lp.n = n) := Lib.hid hol.out
  have HXL : Hid (x.length = n) := Lib.hid hvx.len
  have hd0 := hvx.pos
  have hd1 := hvx.dle
  clear hM hok hvx
  go_enter Try.func20, Try.ntmps20
  go_wp2_with fail
  go_loopw [5] (fun v wr => ∃ i : Nat, i ≤ m ∧ v = .int .i64 i ∧ Hid (∀ k, k < i → LA.sumN n (fun j => p.lp.A k j * atL x j) ≤ p.lp.b k * d) ∧ Below w.heap.size w wr ∧ Cls wr [(w.heap.size, 0, .slice AR m cr), (w.heap.size, 1, .slice AB m cb), (w.heap.size, 2, .slice AO n co), (w.heap.size + 1, 0, .slice X n cX), (w.heap.size + 1, 1, .int .i64 d)]) (fun v _ => m - (intOf v).toNat)
  case atStart => exact ⟨0, Nat.zero_le _, rfl, Lib.hid (fun k hk => by omega), (by repeat (first | with_reducible exact Below.refl _ _ | with_reducible apply bdrew | with_reducible apply bdrewN | with_reducible apply balloc | ((with_reducible refine bset ?_ ?_ _); rotate_left; (first | omega | (simp <;> omega))))), (by simp [Cls, go_sem])⟩
  case round =>
    obtain ⟨i, hi, rfl, HA, hBr, hCr⟩ := hrel
    obtain ⟨w1, rfl⟩ : ∃ wo : World, wo = wr := ⟨_, rfl⟩
    have drs := hBr.size
    have Fr := hCr
    simp only [Cls, and_true] at Fr
    have yrw1 : w.heap.size + 1 < w1.heap.size := hCr.blk (b := w.heap.size + 1) (k := 0) (v := .slice X n cX) (by simp)
    have yrw0 : w.heap.size < w1.heap.size := (by omega)
    have yrwp1 : w.heap.size < w1.heap.size + 1 := (by omega)
    have yrwp2 : w.heap.size < w1.heap.size + 1 + 1 := (by omega)
    by_cases hlt : i < m
    · obtain ⟨ad, r, R, cR, rfl, hr, hrc0, hI⟩ := HRO.out.at_ (k := i) (by rw [hrl.out]; exact hlt)
      obtain ⟨ad2, y, rfl, hy, hyc⟩ := (HBO.out.below hBr).at_ (k := i) (by rw [hbl.out]; exact hlt)
      have HIR := Lib.hid hI
      have hrc := (hBr.cell (World.block_lt_of_cell? w _ hrc0)).trans hrc0
      have hrn := (HOK.out.row hr.out).1
      rw [hol.out] at hrn
      have HRN := Lib.hid hrn
      rw [hrn] at hrc
      have HRB := Lib.hid (row_100 (HOK.out.row hr.out).2)
      have hyb := HOK.out.bound hy.out
      have hmul := mul_le (X := 20) (Y := 100000000) hyb (show -100000000 ≤ d ∧ (d : Int) ≤ 100000000 by omega)
      obtain ⟨hmul1, hmul2⟩ := hmul
      obtain ⟨u, hu⟩ : ∃ u, Hid (y * d = u) := ⟨_, Lib.hid rfl⟩
      have hwu : IntKind.i64.wrap (y * d) = u := by rw [hu.out] at hmul1 hmul2 ⊢; exact Go.IntWalk.i64_in _ (by omega)
      obtain ⟨s, hs⟩ : ∃ s, Hid (dotL n r x = s) := ⟨_, Lib.hid rfl⟩
      have HP : Hid (∀ W : World, Below w.heap.size w W → Calls Try.prog 28 #[.slice R n cR, .slice X n cX] W fun e w' => e = .returned (.int .i64 s) ∧ Below W.heap.size W w') := Lib.hid (fun W hB => by
        have h := sprod_any W R X cR cX r x n HRN HXL hn6 (HIR.out.below hB) (HIX.out.below hB) HRB.out HVX.out.le
        rw [hs.out] at h; exact h)
      clear hrn hrc0 hI hyb
      by_cases hgt : s > u
      · have hd : decide (s > u) = true := decide_eq_true hgt
        have HG := Lib.hid hgt
        go_wp2_with fail
        refine wp_region_held_drew (S := fun W => W.cell? ⟨w.heap.size, 0, none⟩ = some (.slice (some ad) m cr) ∧ W.cell? ⟨w.heap.size + 1, 0, none⟩ = some (.slice X n cX) ∧ W.cell? ⟨w.heap.size, 1, none⟩ = some (.slice (some ad2) m cb) ∧ W.cell? ⟨w.heap.size + 1, 1, none⟩ = some (.int .i64 d) ∧ W.cell? (ad.add i) = some (.slice R n cR) ∧ W.cell? (ad2.add i) = some (.int .i64 y)) (by kernel_rfl) (by simp [go_sem, hrc, hyc, Fr, yrw1, yrw0, yrwp1, yrwp2]) (fun hHeld => ?_)
        refine wpAnyH_take (i := 0) (v := ?vo10) rfl (by kernel_rfl) (by kernel_rfl) (by kernel_rfl) (fun _ _ _ h => h) (Or.inl ⟨by rfl, ?ho10⟩) (by assumption) ?ro10
        case ho10 => (intro w hSw; (try dsimp only at hSw); go_simp; (try with_reducible rfl))
        try simp only [Act.put, List.getElem_toArray, List.getElem_cons_succ, List.getElem_cons_zero, List.setIfInBounds_toArray, List.set_cons_zero, List.set_cons_succ]
        refine wpAnyH_take (i := 1) (v := ?vo11) rfl (by kernel_rfl) (by kernel_rfl) (by kernel_rfl) (fun _ _ _ h => h) (Or.inl ⟨by rfl, ?ho11⟩) (by assumption) ?ro11
        case ho11 => (intro w hSw; (try dsimp only at hSw); go_simp; (try with_reducible rfl))
        try simp only [Act.put, List.getElem_toArray, List.getElem_cons_succ, List.getElem_cons_zero, List.setIfInBounds_toArray, List.set_cons_zero, List.set_cons_succ]
        refine wpAnyH_take (i := 2) (v := ?vo12) rfl (by kernel_rfl) (by kernel_rfl) (by kernel_rfl) (fun _ _ _ h => h) (Or.inl ⟨by rfl, ?ho12⟩) (by assumption) ?ro12
        case ho12 => (intro w hSw; (try dsimp only at hSw); go_simp; (try with_reducible rfl))
        try simp only [Act.put, List.getElem_toArray, List.getElem_cons_succ, List.getElem_cons_zero, List.setIfInBounds_toArray, List.set_cons_zero, List.set_cons_succ]
        refine wpAnyH_take (i := 3) (v := ?vo13) rfl (by kernel_rfl) (by kernel_rfl) (by kernel_rfl) (fun _ _ _ h => h) (Or.inl ⟨by rfl, ?ho13⟩) (by assumption) ?ro13
        case ho13 => (intro w hSw; (try dsimp only at hSw); go_simp; (try with_reducible rfl))
        try simp only [Act.put, List.getElem_toArray, List.getElem_cons_succ, List.getElem_cons_zero, List.setIfInBounds_toArray, List.set_cons_zero, List.set_cons_succ]
        refine wpAnyH_take (i := 4) (v := ?vo14) rfl (by kernel_rfl) (by kernel_rfl) (by kernel_rfl) (fun _ _ _ h => h) (Or.inl ⟨by rfl, ?ho14⟩) (by assumption) ?ro14
        case ho14 => (intro w hSw; (try dsimp only at hSw); go_simp; (try with_reducible rfl))
        try simp only [Act.put, List.getElem_toArray, List.getElem_cons_succ, List.getElem_cons_zero, List.setIfInBounds_toArray, List.set_cons_zero, List.set_cons_succ]
        refine wpAnyH_take (i := 5) (v := ?vo15) rfl (by kernel_rfl) (by kernel_rfl) (by kernel_rfl) (fun _ _ _ h => h) (Or.inl ⟨by rfl, ?ho15⟩) (by assumption) ?ro15
        case ho15 => (intro w hSw; (try dsimp only at hSw); go_simp; (try with_reducible rfl))
        try simp only [Act.put, List.getElem_toArray, List.getElem_cons_succ, List.getElem_cons_zero, List.setIfInBounds_toArray, List.set_cons_zero, List.set_cons_succ]
        refine wpAnyH_take (i := 6) (v := ?vo16) rfl (by kernel_rfl) (by kernel_rfl) (by kernel_rfl) (fun _ _ _ h => h) (Or.inl ⟨by rfl, ?ho16⟩) (by assumption) ?ro16
        case ho16 => (intro w hSw; (try dsimp only at hSw); go_simp; (try with_reducible rfl))
        try simp only [Act.put, List.getElem_toArray, List.getElem_cons_succ, List.getElem_cons_zero, List.setIfInBounds_toArray, List.set_cons_zero, List.set_cons_succ]
        refine wpAnyH_take (i := 8) (v := ?vo18) rfl (by kernel_rfl) (by kernel_rfl) (by kernel_rfl) (fun _ _ _ h => h) (Or.inl ⟨by rfl, ?ho18⟩) (by assumption) ?ro18
        case ho18 => (intro w hSw; (try dsimp only at hSw); go_simp; (try with_reducible rfl))
        try simp only [Act.put, List.getElem_toArray, List.getElem_cons_succ, List.getElem_cons_zero, List.setIfInBounds_toArray, List.set_cons_zero, List.set_cons_succ]
        refine wpAnyH_take (i := 9) (v := ?vo19) rfl (by kernel_rfl) (by kernel_rfl) (by kernel_rfl) (fun _ _ _ h => h) (Or.inl ⟨by rfl, ?ho19⟩) (by assumption) ?ro19
        case ho19 => (intro w hSw; (try dsimp only at hSw); go_simp; (try with_reducible rfl))
        try simp only [Act.put, List.getElem_toArray, List.getElem_cons_succ, List.getElem_cons_zero, List.setIfInBounds_toArray, List.set_cons_zero, List.set_cons_succ]
        refine wpAnyH_take (i := 10) (v := ?vo110) rfl (by kernel_rfl) (by kernel_rfl) (by kernel_rfl) (fun _ _ _ h => h) (Or.inl ⟨by rfl, ?ho110⟩) (by assumption) ?ro110
        case ho110 => (intro w hSw; (try dsimp only at hSw); go_simp; (try with_reducible rfl))
        try simp only [Act.put, List.getElem_toArray, List.getElem_cons_succ, List.getElem_cons_zero, List.setIfInBounds_toArray, List.set_cons_zero, List.set_cons_succ]
        refine wpAnyH_take (i := 11) (v := ?vo111) rfl (by kernel_rfl) (by kernel_rfl) (by kernel_rfl) (fun _ _ _ h => h) (Or.inl ⟨by rfl, ?ho111⟩) (by assumption) ?ro111
        case ho111 => (intro w hSw; (try dsimp only at hSw); go_simp; (try with_reducible rfl))
        try simp only [Act.put, List.getElem_toArray, List.getElem_cons_succ, List.getElem_cons_zero, List.setIfInBounds_toArray, List.set_cons_zero, List.set_cons_succ]
        refine wpAnyH_take (i := 12) (v := ?vo112) rfl (by kernel_rfl) (by kernel_rfl) (by kernel_rfl) (fun _ _ _ h => h) (Or.inl ⟨by rfl, ?ho112⟩) (by assumption) ?ro112
        case ho112 => (intro w hSw; (try dsimp only at hSw); go_simp; (try with_reducible rfl))
        try simp only [Act.put, List.getElem_toArray, List.getElem_cons_succ, List.getElem_cons_zero, List.setIfInBounds_toArray, List.set_cons_zero, List.set_cons_succ]
        refine wpAnyH_take (i := 13) (v := ?vo113) rfl (by kernel_rfl) (by kernel_rfl) (by kernel_rfl) (fun _ _ _ h => h) (Or.inl ⟨by rfl, ?ho113⟩) (by assumption) ?ro113
        case ho113 => (intro w hSw; (try dsimp only at hSw); go_simp; (try with_reducible rfl))
        try simp only [Act.put, List.getElem_toArray, List.getElem_cons_succ, List.getElem_cons_zero, List.setIfInBounds_toArray, List.set_cons_zero, List.set_cons_succ]
        refine wpAnyH_take (i := 14) (v := ?vo114) rfl (by kernel_rfl) (by kernel_rfl) (by kernel_rfl) (fun _ _ _ h => h) (Or.inl ⟨by rfl, ?ho114⟩) (by assumption) ?ro114
        case ho114 => (intro w hSw; (try dsimp only at hSw); go_simp; (try with_reducible rfl))
        try simp only [Act.put, List.getElem_toArray, List.getElem_cons_succ, List.getElem_cons_zero, List.setIfInBounds_toArray, List.set_cons_zero, List.set_cons_succ]
        refine wpAnyH_take (i := 15) (v := ?vo115) rfl (by kernel_rfl) (by kernel_rfl) (by kernel_rfl) (fun _ _ _ h => h) (Or.inl ⟨by rfl, ?ho115⟩) (by assumption) ?ro115
        case ho115 => (intro w hSw; (try dsimp only at hSw); go_simp; (try with_reducible rfl))
        try simp only [Act.put, List.getElem_toArray, List.getElem_cons_succ, List.getElem_cons_zero, List.setIfInBounds_toArray, List.set_cons_zero, List.set_cons_succ]
        refine wpAnyH_ready (rs := [7]) (by kernel_rfl) (by simp) ?_
        refine (AllReadyH.cons rfl (fun K hK => ?bo11x7) AllReadyH.nil)
        case bo11x7 =>
          go_simp
          go_at_call 28
          refine (HP.out _ (by repeat (first | with_reducible exact hBr | with_reducible apply bdrew | with_reducible apply bdrewN | with_reducible apply balloc | ((with_reducible refine bset ?_ ?_ _); rotate_left; (first | omega | (simp <;> omega)))))).mono ?_
          rintro e w1 ⟨rfl, hB1⟩
          have D1 := dstep w hB1 (by repeat (first | with_reducible exact hBr | with_reducible apply bdrew | with_reducible apply bdrewN | with_reducible apply balloc | ((with_reducible refine bset ?_ ?_ _); rotate_left; (first | omega | (simp <;> omega)))))
          have C1 := Cls.below (l := [(w.heap.size, 0, .slice (some ad) m cr), (w.heap.size, 1, .slice (some ad2) m cb), (w.heap.size, 2, .slice AO n co), (w.heap.size + 1, 0, .slice X n cX), (w.heap.size + 1, 1, .int .i64 d)]) hB1 (by simp [Cls, go_sem, Fr, yrw1, yrw0, yrwp1, yrwp2])
          have hrc := (hB1.cell (blt hrc)).trans hrc
          have hyc := (hB1.cell (blt hyc)).trans hyc
          have F1 := C1
          simp only [Cls, and_true] at F1
          have y1w1 : w.heap.size + 1 < w1.heap.size := C1.blk (b := w.heap.size + 1) (k := 0) (v := .slice X n cX) (by simp)
          have y1w0 : w.heap.size < w1.heap.size := (by omega)
          have y1wp1 : w.heap.size < w1.heap.size + 1 := (by omega)
          have y1wp2 : w.heap.size < w1.heap.size + 1 + 1 := (by omega)
          have hSS : w1.cell? ⟨w.heap.size, 0, none⟩ = some (.slice (some ad) m cr) ∧ w1.cell? ⟨w.heap.size + 1, 0, none⟩ = some (.slice X n cX) ∧ w1.cell? ⟨w.heap.size, 1, none⟩ = some (.slice (some ad2) m cb) ∧ w1.cell? ⟨w.heap.size + 1, 1, none⟩ = some (.int .i64 d) ∧ w1.cell? (ad.add i) = some (.slice R n cR) ∧ w1.cell? (ad2.add i) = some (.int .i64 y) := (by simp [F1, hrc, hyc])
          go_wp2_with fail
          refine hK.out _ _ hSS (fun hHeld => ?_)
          clear hK K
          try simp only [Act.put, List.getElem_toArray, List.getElem_cons_succ, List.getElem_cons_zero, List.setIfInBounds_toArray, List.set_cons_zero, List.set_cons_succ]
          refine wpAnyH_take (i := 16) (v := ?vo1l216) rfl (by kernel_rfl) (by kernel_rfl) (by kernel_rfl) (fun _ _ _ h => h) (Or.inl ⟨by rfl, ?ho1l216⟩) (by assumption) ?ro1l216
          case ho1l216 => (intro w hSw; (try dsimp only at hSw); go_simp; (try with_reducible rfl))
          try simp only [Act.put, List.getElem_toArray, List.getElem_cons_succ, List.getElem_cons_zero, List.setIfInBounds_toArray, List.set_cons_zero, List.set_cons_succ]
          refine wpAnyH_done (by kernel_rfl) ?_ _
          go_wp2
          refine bodyPost_ret (v := .bool false) ?_ rfl ⟨false, rfl, Lib.hid (iff_of_false (by simp) (fun h => by
            have h1 := (show LA.IsPt p.lp (atL x) d from h).1 i (by rw [HLM.out]; exact hlt)
            rw [HLN.out, row_dot hr.out, hs.out, bnd_at hy.out, hu.out] at h1
            have := HG.out
            omega)), by repeat (first | with_reducible exact D1 | with_reducible apply bdrew | with_reducible apply bdrewN | with_reducible apply balloc | ((with_reducible refine bset ?_ ?_ _); rotate_left; (first | omega | (simp <;> omega))))⟩
          simp [results, Try.results20, go_sem, F1, y1w1, y1w0, y1wp1, y1wp2]
      · have hd : decide (s > u) = false := decide_eq_false hgt
        have HG := Lib.hid (show s ≤ u by omega)
        go_wp2_with fail
        refine wp_region_held_drew (S := fun W => W.cell? ⟨w.heap.size, 0, none⟩ = some (.slice (some ad) m cr) ∧ W.cell? ⟨w.heap.size + 1, 0, none⟩ = some (.slice X n cX) ∧ W.cell? ⟨w.heap.size, 1, none⟩ = some (.slice (some ad2) m cb) ∧ W.cell? ⟨w.heap.size + 1, 1, none⟩ = some (.int .i64 d) ∧ W.cell? (ad.add i) = some (.slice R n cR) ∧ W.cell? (ad2.add i) = some (.int .i64 y)) (by kernel_rfl) (by simp [go_sem, hrc, hyc, Fr, yrw1, yrw0, yrwp1, yrwp2]) (fun hHeld => ?_)
        refine wpAnyH_take (i := 0) (v := ?vo20) rfl (by kernel_rfl) (by kernel_rfl) (by kernel_rfl) (fun _ _ _ h => h) (Or.inl ⟨by rfl, ?ho20⟩) (by assumption) ?ro20
        case ho20 => (intro w hSw; (try dsimp only at hSw); go_simp; (try with_reducible rfl))
        try simp only [Act.put, List.getElem_toArray, List.getElem_cons_succ, List.getElem_cons_zero, List.setIfInBounds_toArray, List.set_cons_zero, List.set_cons_succ]
        refine wpAnyH_take (i := 1) (v := ?vo21) rfl (by kernel_rfl) (by kernel_rfl) (by kernel_rfl) (fun _ _ _ h => h) (Or.inl ⟨by rfl, ?ho21⟩) (by assumption) ?ro21
        case ho21 => (intro w hSw; (try dsimp only at hSw); go_simp; (try with_reducible rfl))
        try simp only [Act.put, List.getElem_toArray, List.getElem_cons_succ, List.getElem_cons_zero, List.setIfInBounds_toArray, List.set_cons_zero, List.set_cons_succ]
        refine wpAnyH_take (i := 2) (v := ?vo22) rfl (by kernel_rfl) (by kernel_rfl) (by kernel_rfl) (fun _ _ _ h => h) (Or.inl ⟨by rfl, ?ho22⟩) (by assumption) ?ro22
        case ho22 => (intro w hSw; (try dsimp only at hSw); go_simp; (try with_reducible rfl))
        try simp only [Act.put, List.getElem_toArray, List.getElem_cons_succ, List.getElem_cons_zero, List.setIfInBounds_toArray, List.set_cons_zero, List.set_cons_succ]
        refine wpAnyH_take (i := 3) (v := ?vo23) rfl (by kernel_rfl) (by kernel_rfl) (by kernel_rfl) (fun _ _ _ h => h) (Or.inl ⟨by rfl, ?ho23⟩) (by assumption) ?ro23
        case ho23 => (intro w hSw; (try dsimp only at hSw); go_simp; (try with_reducible rfl))
        try simp only [Act.put, List.getElem_toArray, List.getElem_cons_succ, List.getElem_cons_zero, List.setIfInBounds_toArray, List.set_cons_zero, List.set_cons_succ]
        refine wpAnyH_take (i := 4) (v := ?vo24) rfl (by kernel_rfl) (by kernel_rfl) (by kernel_rfl) (fun _ _ _ h => h) (Or.inl ⟨by rfl, ?ho24⟩) (by assumption) ?ro24
        case ho24 => (intro w hSw; (try dsimp only at hSw); go_simp; (try with_reducible rfl))
        try simp only [Act.put, List.getElem_toArray, List.getElem_cons_succ, List.getElem_cons_zero, List.setIfInBounds_toArray, List.set_cons_zero, List.set_cons_succ]
        refine wpAnyH_take (i := 5) (v := ?vo25) rfl (by kernel_rfl) (by kernel_rfl) (by kernel_rfl) (fun _ _ _ h => h) (Or.inl ⟨by rfl, ?ho25⟩) (by assumption) ?ro25
        case ho25 => (intro w hSw; (try dsimp only at hSw); go_simp; (try with_reducible rfl))
        try simp only [Act.put, List.getElem_toArray, List.getElem_cons_succ, List.getElem_cons_zero, List.setIfInBounds_toArray, List.set_cons_zero, List.set_cons_succ]
        refine wpAnyH_take (i := 6) (v := ?vo26) rfl (by kernel_rfl) (by kernel_rfl) (by kernel_rfl) (fun _ _ _ h => h) (Or.inl ⟨by rfl, ?ho26⟩) (by assumption) ?ro26
        case ho26 => (intro w hSw; (try dsimp only at hSw); go_simp; (try with_reducible rfl))
        try simp only [Act.put, List.getElem_toArray, List.getElem_cons_succ, List.getElem_cons_zero, List.setIfInBounds_toArray, List.set_cons_zero, List.set_cons_succ]
        refine wpAnyH_take (i := 8) (v := ?vo28) rfl (by kernel_rfl) (by kernel_rfl) (by kernel_rfl) (fun _ _ _ h => h) (Or.inl ⟨by rfl, ?ho28⟩) (by assumption) ?ro28
        case ho28 => (intro w hSw; (try dsimp only at hSw); go_simp; (try with_reducible rfl))
        try simp only [Act.put, List.getElem_toArray, List.getElem_cons_succ, List.getElem_cons_zero, List.setIfInBounds_toArray, List.set_cons_zero, List.set_cons_succ]
        refine wpAnyH_take (i := 9) (v := ?vo29) rfl (by kernel_rfl) (by kernel_rfl) (by kernel_rfl) (fun _ _ _ h => h) (Or.inl ⟨by rfl, ?ho29⟩) (by assumption) ?ro29
        case ho29 => (intro w hSw; (try dsimp only at hSw); go_simp; (try with_reducible rfl))
        try simp only [Act.put, List.getElem_toArray, List.getElem_cons_succ, List.getElem_cons_zero, List.setIfInBounds_toArray, List.set_cons_zero, List.set_cons_succ]
        refine wpAnyH_take (i := 10) (v := ?vo210) rfl (by kernel_rfl) (by kernel_rfl) (by kernel_rfl) (fun _ _ _ h => h) (Or.inl ⟨by rfl, ?ho210⟩) (by assumption) ?ro210
        case ho210 => (intro w hSw; (try dsimp only at hSw); go_simp; (try with_reducible rfl))
        try simp only [Act.put, List.getElem_toArray, List.getElem_cons_succ, List.getElem_cons_zero, List.setIfInBounds_toArray, List.set_cons_zero, List.set_cons_succ]
        refine wpAnyH_take (i := 11) (v := ?vo211) rfl (by kernel_rfl) (by kernel_rfl) (by kernel_rfl) (fun _ _ _ h => h) (Or.inl ⟨by rfl, ?ho211⟩) (by assumption) ?ro211
        case ho211 => (intro w hSw; (try dsimp only at hSw); go_simp; (try with_reducible rfl))
        try simp only [Act.put, List.getElem_toArray, List.getElem_cons_succ, List.getElem_cons_zero, List.setIfInBounds_toArray, List.set_cons_zero, List.set_cons_succ]
        refine wpAnyH_take (i := 12) (v := ?vo212) rfl (by kernel_rfl) (by kernel_rfl) (by kernel_rfl) (fun _ _ _ h => h) (Or.inl ⟨by rfl, ?ho212⟩) (by assumption) ?ro212
        case ho212 => (intro w hSw; (try dsimp only at hSw); go_simp; (try with_reducible rfl))
        try simp only [Act.put, List.getElem_toArray, List.getElem_cons_succ, List.getElem_cons_zero, List.setIfInBounds_toArray, List.set_cons_zero, List.set_cons_succ]
        refine wpAnyH_take (i := 13) (v := ?vo213) rfl (by kernel_rfl) (by kernel_rfl) (by kernel_rfl) (fun _ _ _ h => h) (Or.inl ⟨by rfl, ?ho213⟩) (by assumption) ?ro213
        case ho213 => (intro w hSw; (try dsimp only at hSw); go_simp; (try with_reducible rfl))
        try simp only [Act.put, List.getElem_toArray, List.getElem_cons_succ, List.getElem_cons_zero, List.setIfInBounds_toArray, List.set_cons_zero, List.set_cons_succ]
        refine wpAnyH_take (i := 14) (v := ?vo214) rfl (by kernel_rfl) (by kernel_rfl) (by kernel_rfl) (fun _ _ _ h => h) (Or.inl ⟨by rfl, ?ho214⟩) (by assumption) ?ro214
        case ho214 => (intro w hSw; (try dsimp only at hSw); go_simp; (try with_reducible rfl))
        try simp only [Act.put, List.getElem_toArray, List.getElem_cons_succ, List.getElem_cons_zero, List.setIfInBounds_toArray, List.set_cons_zero, List.set_cons_succ]
        refine wpAnyH_take (i := 15) (v := ?vo215) rfl (by kernel_rfl) (by kernel_rfl) (by kernel_rfl) (fun _ _ _ h => h) (Or.inl ⟨by rfl, ?ho215⟩) (by assumption) ?ro215
        case ho215 => (intro w hSw; (try dsimp only at hSw); go_simp; (try with_reducible rfl))
        try simp only [Act.put, List.getElem_toArray, List.getElem_cons_succ, List.getElem_cons_zero, List.setIfInBounds_toArray, List.set_cons_zero, List.set_cons_succ]
        refine wpAnyH_ready (rs := [7]) (by kernel_rfl) (by simp) ?_
        refine (AllReadyH.cons rfl (fun K hK => ?bo21x7) AllReadyH.nil)
        case bo21x7 =>
          go_simp
          go_at_call 28
          refine (HP.out _ (by repeat (first | with_reducible exact hBr | with_reducible apply bdrew | with_reducible apply bdrewN | with_reducible apply balloc | ((with_reducible refine bset ?_ ?_ _); rotate_left; (first | omega | (simp <;> omega)))))).mono ?_
          rintro e w1 ⟨rfl, hB1⟩
          have D1 := dstep w hB1 (by repeat (first | with_reducible exact hBr | with_reducible apply bdrew | with_reducible apply bdrewN | with_reducible apply balloc | ((with_reducible refine bset ?_ ?_ _); rotate_left; (first | omega | (simp <;> omega)))))
          have C1 := Cls.below (l := [(w.heap.size, 0, .slice (some ad) m cr), (w.heap.size, 1, .slice (some ad2) m cb), (w.heap.size, 2, .slice AO n co), (w.heap.size + 1, 0, .slice X n cX), (w.heap.size + 1, 1, .int .i64 d)]) hB1 (by simp [Cls, go_sem, Fr, yrw1, yrw0, yrwp1, yrwp2])
          have hrc := (hB1.cell (blt hrc)).trans hrc
          have hyc := (hB1.cell (blt hyc)).trans hyc
          have F1 := C1
          simp only [Cls, and_true] at F1
          have y1w1 : w.heap.size + 1 < w1.heap.size := C1.blk (b := w.heap.size + 1) (k := 0) (v := .slice X n cX) (by simp)
          have y1w0 : w.heap.size < w1.heap.size := (by omega)
          have y1wp1 : w.heap.size < w1.heap.size + 1 := (by omega)
          have y1wp2 : w.heap.size < w1.heap.size + 1 + 1 := (by omega)
          have hSS : w1.cell? ⟨w.heap.size, 0, none⟩ = some (.slice (some ad) m cr) ∧ w1.cell? ⟨w.heap.size + 1, 0, none⟩ = some (.slice X n cX) ∧ w1.cell? ⟨w.heap.size, 1, none⟩ = some (.slice (some ad2) m cb) ∧ w1.cell? ⟨w.heap.size + 1, 1, none⟩ = some (.int .i64 d) ∧ w1.cell? (ad.add i) = some (.slice R n cR) ∧ w1.cell? (ad2.add i) = some (.int .i64 y) := (by simp [F1, hrc, hyc])
          go_wp2_with fail
          refine hK.out _ _ hSS (fun hHeld => ?_)
          clear hK K
          try simp only [Act.put, List.getElem_toArray, List.getElem_cons_succ, List.getElem_cons_zero, List.setIfInBounds_toArray, List.set_cons_zero, List.set_cons_succ]
          refine wpAnyH_take (i := 16) (v := ?vo2l216) rfl (by kernel_rfl) (by kernel_rfl) (by kernel_rfl) (fun _ _ _ h => h) (Or.inl ⟨by rfl, ?ho2l216⟩) (by assumption) ?ro2l216
          case ho2l216 => (intro w hSw; (try dsimp only at hSw); go_simp; (try with_reducible rfl))
          try simp only [Act.put, List.getElem_toArray, List.getElem_cons_succ, List.getElem_cons_zero, List.setIfInBounds_toArray, List.set_cons_zero, List.set_cons_succ]
          refine wpAnyH_done (by kernel_rfl) ?_ _
          go_wp2
          go_roundw
          case rel => exact ⟨i + 1, by omega, by go_num, Lib.hid (fun k hk => by
            by_cases e : k = i
            · subst e; rw [row_dot hr.out, hs.out, bnd_at hy.out, hu.out]; exact HG.out
            · exact HA.out k (by omega)), by repeat (first | with_reducible exact D1 | with_reducible apply bdrew | with_reducible apply bdrewN | with_reducible apply balloc | ((with_reducible refine bset ?_ ?_ _); rotate_left; (first | omega | (simp <;> omega)))), by simp [Cls, go_sem, F1, y1w1, y1w0, y1wp1, y1wp2]⟩
          case measure => simp [intOf]; omega
    · obtain rfl : m = i := by omega
      have HA2 := Lib.hid (fun (h : ∀ j, j < n → 0 ≤ atL x j) => (show LA.IsPt p.lp (atL x) d from ⟨fun k hk => by rw [HLN.out]; exact HA.out k (by rw [← HLM.out]; exact hk), fun j hj => h j (by rw [← HLN.out]; exact hj)⟩))
      have HA3 := Lib.hid (fun (h : LA.IsPt p.lp (atL x) d) (j : Nat) (hj : j < n) => h.2 j (by rw [HLN.out]; exact hj))
      go_wp2_with fail
      refine (snn_any _ X cX x n HXL (by omega) (HIX.out.below (by repeat (first | with_reducible exact hBr | with_reducible apply bdrew | with_reducible apply bdrewN | with_reducible apply balloc | ((with_reducible refine bset ?_ ?_ _); rotate_left; (first | omega | (simp <;> omega))))))).mono ?_
      rintro e w2 ⟨ok, rfl, HNG, hB2⟩
      have D2 := dstep w hB2 (by repeat (first | with_reducible exact hBr | with_reducible apply bdrew | with_reducible apply bdrewN | with_reducible apply balloc | ((with_reducible refine bset ?_ ?_ _); rotate_left; (first | omega | (simp <;> omega)))))
      have C2 := Cls.below (l := [(w.heap.size, 0, .slice AR m cr), (w.heap.size, 1, .slice AB m cb), (w.heap.size, 2, .slice AO n co), (w.heap.size + 1, 0, .slice X n cX), (w.heap.size + 1, 1, .int .i64 d)]) hB2 (by simp [Cls, go_sem, Fr, yrw1, yrw0, yrwp1, yrwp2])
      have F2 := C2
      simp only [Cls, and_true] at F2
      have y2w1 : w.heap.size + 1 < w2.heap.size := C2.blk (b := w.heap.size + 1) (k := 0) (v := .slice X n cX) (by simp)
      have y2w0 : w.heap.size < w2.heap.size := (by omega)
      have y2wp1 : w.heap.size < w2.heap.size + 1 := (by omega)
      have y2wp2 : w.heap.size < w2.heap.size + 1 + 1 := (by omega)
      go_wp2
      refine bodyPost_ret (v := .bool ok) ?_ rfl ⟨ok, rfl, Lib.hid (by
        rw [HNG.out, nn_iff HXL.out]
        exact ⟨HA2.out, HA3.out⟩), by repeat (first | with_reducible exact D2 | with_reducible apply bdrew | with_reducible apply bdrewN | with_reducible apply balloc | ((with_reducible refine bset ?_ ?_ _); rotate_left; (first | omega | (simp <;> omega))))⟩
      simp [results, Try.results20, go_sem, F2, y2w1, y2w0, y2wp1, y2wp2]

set_option maxRecDepth 100000 in
set_option maxHeartbeats 2000000 in
theorem simproves_any (w : World) (AR AB AO : Option Addr) (cr cb co : Nat) (p : LpV) (hM : LpMem w AR AB AO p) (hok : LpOk p) (m n : Nat) (hrl : Hid (p.rows.length = m)) (hbl : Hid (p.bounds.length = m)) (hol : Hid (p.obj.length = n)) (hm6 : m ≤ 6) (hn6 : n ≤ 6) (X : Option Addr) (cX : Nat) (x : List Int) (d : Int) (hvx : VOk n x d) (hIx : Ints w X x) :
    Calls Try.prog 21 #[.agg #[.slice AR m cr, .slice AB m cb, .slice AO n co], .agg #[.slice X n cX, .int .i64 d]] w fun e w' => Says (LA.IsRay p.lp (atL x)) w w' e := by
  have HRO := Lib.hid hM.rows.llr
  have HBO := Lib.hid hM.bounds
  have HOB := Lib.hid hM.obj
  have HOK := Lib.hid hok
  have HVX := Lib.hid hvx
  have HIX := Lib.hid hIx
  have HLM : Hid (p.lp.m = m) := Lib.hid hrl.out
  have HLN : Hid (p.lp.n = n) := Lib.hid hol.out
  have HXL : Hid (x.length = n) := Lib.hid hvx.len
  have hd0 := hvx.pos
  have hd1 := hvx.dle
  clear hM hok hvx
  go_enter Try.func21, Try.ntmps21
  go_wp2_with fail
  go_loopw [5] (fun v wr => ∃ i : Nat, i ≤ m ∧ v = .int .i64 i ∧ Hid (∀ k, k < i → LA.sumN n (fun j => p.lp.A k j * atL x j) ≤ p.lp.b k * 0) ∧ Below w.heap.size w wr ∧ Cls wr [(w.heap.size, 0, .slice AR m cr), (w.heap.size, 1, .slice AB m cb), (w.heap.size, 2, .slice AO n co), (w.heap.size + 1, 0, .slice X n cX), (w.heap.size + 1, 1, .int .i64 d)]) (fun v _ => m - (intOf v).toNat)
  case atStart => exact ⟨0, Nat.zero_le _, rfl, Lib.hid (fun k hk => by omega), (by repeat (first | with_reducible exact Below.refl _ _ | with_reducible apply bdrew | with_reducible apply bdrewN | with_reducible apply balloc | ((with_reducible refine bset ?_ ?_ _); rotate_left; (first | omega | (simp <;> omega))))), (by simp [Cls, go_sem])⟩
  case round =>
    obtain ⟨i, hi, rfl, HA, hBr, hCr⟩ := hrel
    obtain ⟨w1, rfl⟩ : ∃ wo : World, wo = wr := ⟨_, rfl⟩
    have drs := hBr.size
    have Fr := hCr
    simp only [Cls, and_true] at Fr
    have yrw1 : w.heap.size + 1 < w1.heap.size := hCr.blk (b := w.heap.size + 1) (k := 0) (v := .slice X n cX) (by simp)
    have yrw0 : w.heap.size < w1.heap.size := (by omega)
    have yrwp1 : w.heap.size < w1.heap.size + 1 := (by omega)
    have yrwp2 : w.heap.size < w1.heap.size + 1 + 1 := (by omega)
    by_cases hlt : i < m
    · obtain ⟨ad, r, R, cR, rfl, hr, hrc0, hI⟩ := HRO.out.at_ (k := i) (by rw [hrl.out]; exact hlt)
      obtain ⟨ad2, y, hABe, hy, hyc⟩ := (HBO.out.below hBr).at_ (k := i) (by rw [hbl.out]; exact hlt)
      have HIR := Lib.hid hI
      have hrc := (hBr.cell (World.block_lt_of_cell? w _ hrc0)).trans hrc0
      have hrn := (HOK.out.row hr.out).1
      rw [hol.out] at hrn
      have HRN := Lib.hid hrn
      rw [hrn] at hrc
      have HRB := Lib.hid (row_100 (HOK.out.row hr.out).2)
      have hyb := HOK.out.bound hy.out
      have hmul := mul_le (X := 20) (Y := 100000000) hyb (show -100000000 ≤ 0 ∧ (0 : Int) ≤ 100000000 by omega)
      obtain ⟨hmul1, hmul2⟩ := hmul
      obtain ⟨u, hu⟩ : ∃ u, Hid (y * 0 = u) := ⟨_, Lib.hid rfl⟩
      have hwu : IntKind.i64.wrap (y * 0) = u := by rw [hu.out] at hmul1 hmul2 ⊢; exact Go.IntWalk.i64_in _ (by omega)
      obtain ⟨s, hs⟩ : ∃ s, Hid (dotL n r x = s) := ⟨_, Lib.hid rfl⟩
      have HP : Hid (∀ W : World, Below w.heap.size w W → Calls Try.prog 28 #[.slice R n cR, .slice X n cX] W fun e w' => e = .returned (.int .i64 s) ∧ Below W.heap.size W w') := Lib.hid (fun W hB => by
        have h := sprod_any W R X cR cX r x n HRN HXL hn6 (HIR.out.below hB) (HIX.out.below hB) HRB.out HVX.out.le
        rw [hs.out] at h; exact h)
      clear hrn hrc0 hI hyb
      have hu0 : u = 0 := by rw [← hu.out, Int.mul_zero]
      subst hu0
      clear hwu hmul1 hmul2 hABe hyc
      by_cases hgt : s > 0
      · have hd : decide (s > 0) = true := decide_eq_true hgt
        have HG := Lib.hid hgt
        go_wp2_with fail
        refine wp_region_held_drew (S := fun W => W.cell? ⟨w.heap.size, 0, none⟩ = some (.slice (some ad) m cr) ∧ W.cell? ⟨w.heap.size + 1, 0, none⟩ = some (.slice X n cX) ∧ W.cell? (ad.add i) = some (.slice R n cR)) (by kernel_rfl) (by simp [go_sem, hrc, Fr, yrw1, yrw0, yrwp1, yrwp2]) (fun hHeld => ?_)
        refine wpAnyH_take (i := 0) (v := ?vo30) rfl (by kernel_rfl) (by kernel_rfl) (by kernel_rfl) (fun _ _ _ h => h) (Or.inl ⟨by rfl, ?ho30⟩) (by assumption) ?ro30
        case ho30 => (intro w hSw; (try dsimp only at hSw); go_simp; (try with_reducible rfl))
        try simp only [Act.put, List.getElem_toArray, List.getElem_cons_succ, List.getElem_cons_zero, List.setIfInBounds_toArray, List.set_cons_zero, List.set_cons_succ]
        refine wpAnyH_take (i := 1) (v := ?vo31) rfl (by kernel_rfl) (by kernel_rfl) (by kernel_rfl) (fun _ _ _ h => h) (Or.inl ⟨by rfl, ?ho31⟩) (by assumption) ?ro31
        case ho31 => (intro w hSw; (try dsimp only at hSw); go_simp; (try with_reducible rfl))
        try simp only [Act.put, List.getElem_toArray, List.getElem_cons_succ, List.getElem_cons_zero, List.setIfInBounds_toArray, List.set_cons_zero, List.set_cons_succ]
        refine wpAnyH_take (i := 2) (v := ?vo32) rfl (by kernel_rfl) (by kernel_rfl) (by kernel_rfl) (fun _ _ _ h => h) (Or.inl ⟨by rfl, ?ho32⟩) (by assumption) ?ro32
        case ho32 => (intro w hSw; (try dsimp only at hSw); go_simp; (try with_reducible rfl))
        try simp only [Act.put, List.getElem_toArray, List.getElem_cons_succ, List.getElem_cons_zero, List.setIfInBounds_toArray, List.set_cons_zero, List.set_cons_succ]
        refine wpAnyH_take (i := 3) (v := ?vo33) rfl (by kernel_rfl) (by kernel_rfl) (by kernel_rfl) (fun _ _ _ h => h) (Or.inl ⟨by rfl, ?ho33⟩) (by assumption) ?ro33
        case ho33 => (intro w hSw; (try dsimp only at hSw); go_simp; (try with_reducible rfl))
        try simp only [Act.put, List.getElem_toArray, List.getElem_cons_succ, List.getElem_cons_zero, List.setIfInBounds_toArray, List.set_cons_zero, List.set_cons_succ]
        refine wpAnyH_take (i := 4) (v := ?vo34) rfl (by kernel_rfl) (by kernel_rfl) (by kernel_rfl) (fun _ _ _ h => h) (Or.inl ⟨by rfl, ?ho34⟩) (by assumption) ?ro34
        case ho34 => (intro w hSw; (try dsimp only at hSw); go_simp; (try with_reducible rfl))
        try simp only [Act.put, List.getElem_toArray, List.getElem_cons_succ, List.getElem_cons_zero, List.setIfInBounds_toArray, List.set_cons_zero, List.set_cons_succ]
        refine wpAnyH_take (i := 5) (v := ?vo35) rfl (by kernel_rfl) (by kernel_rfl) (by kernel_rfl) (fun _ _ _ h => h) (Or.inl ⟨by rfl, ?ho35⟩) (by assumption) ?ro35
        case ho35 => (intro w hSw; (try dsimp only at hSw); go_simp; (try with_reducible rfl))
        try simp only [Act.put, List.getElem_toArray, List.getElem_cons_succ, List.getElem_cons_zero, List.setIfInBounds_toArray, List.set_cons_zero, List.set_cons_succ]
        refine wpAnyH_take (i := 6) (v := ?vo36) rfl (by kernel_rfl) (by kernel_rfl) (by kernel_rfl) (fun _ _ _ h => h) (Or.inl ⟨by rfl, ?ho36⟩) (by assumption) ?ro36
        case ho36 => (intro w hSw; (try dsimp only at hSw); go_simp; (try with_reducible rfl))
        try simp only [Act.put, List.getElem_toArray, List.getElem_cons_succ, List.getElem_cons_zero, List.setIfInBounds_toArray, List.set_cons_zero, List.set_cons_succ]
        refine wpAnyH_ready (rs := [7]) (by kernel_rfl) (by simp) ?_
        refine (AllReadyH.cons rfl (fun K hK => ?bo31x7) AllReadyH.nil)
        case bo31x7 =>
          go_simp
          go_at_call 28
          refine (HP.out _ (by repeat (first | with_reducible exact hBr | with_reducible apply bdrew | with_reducible apply bdrewN | with_reducible apply balloc | ((with_reducible refine bset ?_ ?_ _); rotate_left; (first | omega | (simp <;> omega)))))).mono ?_
          rintro e w1 ⟨rfl, hB1⟩
          have D1 := dstep w hB1 (by repeat (first | with_reducible exact hBr | with_reducible apply bdrew | with_reducible apply bdrewN | with_reducible apply balloc | ((with_reducible refine bset ?_ ?_ _); rotate_left; (first | omega | (simp <;> omega)))))
          have C1 := Cls.below (l := [(w.heap.size, 0, .slice (some ad) m cr), (w.heap.size, 1, .slice AB m cb), (w.heap.size, 2, .slice AO n co), (w.heap.size + 1, 0, .slice X n cX), (w.heap.size + 1, 1, .int .i64 d)]) hB1 (by simp [Cls, go_sem, Fr, yrw1, yrw0, yrwp1, yrwp2])
          have hrc := (hB1.cell (blt hrc)).trans hrc
          have F1 := C1
          simp only [Cls, and_true] at F1
          have y1w1 : w.heap.size + 1 < w1.heap.size := C1.blk (b := w.heap.size + 1) (k := 0) (v := .slice X n cX) (by simp)
          have y1w0 : w.heap.size < w1.heap.size := (by omega)
          have y1wp1 : w.heap.size < w1.heap.size + 1 := (by omega)
          have y1wp2 : w.heap.size < w1.heap.size + 1 + 1 := (by omega)
          have hSS : w1.cell? ⟨w.heap.size, 0, none⟩ = some (.slice (some ad) m cr) ∧ w1.cell? ⟨w.heap.size + 1, 0, none⟩ = some (.slice X n cX) ∧ w1.cell? (ad.add i) = some (.slice R n cR) := (by simp [F1, hrc])
          go_wp2_with fail
          refine hK.out _ _ hSS (fun hHeld => ?_)
          clear hK K
          try simp only [Act.put, List.getElem_toArray, List.getElem_cons_succ, List.getElem_cons_zero, List.setIfInBounds_toArray, List.set_cons_zero, List.set_cons_succ]
          refine wpAnyH_take (i := 8) (v := ?vo3l28) rfl (by kernel_rfl) (by kernel_rfl) (by kernel_rfl) (fun _ _ _ h => h) (Or.inl ⟨by rfl, ?ho3l28⟩) (by assumption) ?ro3l28
          case ho3l28 => (intro w hSw; (try dsimp only at hSw); go_simp; (try with_reducible rfl))
          try simp only [Act.put, List.getElem_toArray, List.getElem_cons_succ, List.getElem_cons_zero, List.setIfInBounds_toArray, List.set_cons_zero, List.set_cons_succ]
          refine wpAnyH_done (by kernel_rfl) ?_ _
          go_wp2
          refine bodyPost_ret (v := .bool false) ?_ rfl ⟨false, rfl, Lib.hid (iff_of_false (by simp) (fun h => by
            have h1 := (show LA.IsPt p.lp (atL x) 0 from ((ray_iff hol.out x).1 h).1).1 i (by rw [HLM.out]; exact hlt)
            rw [HLN.out, row_dot hr.out, hs.out, bnd_at hy.out, hu.out] at h1
            have := HG.out
            omega)), by repeat (first | with_reducible exact D1 | with_reducible apply bdrew | with_reducible apply bdrewN | with_reducible apply balloc | ((with_reducible refine bset ?_ ?_ _); rotate_left; (first | omega | (simp <;> omega))))⟩
          simp [results, Try.results21, go_sem, F1, y1w1, y1w0, y1wp1, y1wp2]
      · have hd : decide (s > 0) = false := decide_eq_false hgt
        have HG := Lib.hid (show s ≤ 0 by omega)
        go_wp2_with fail
        refine wp_region_held_drew (S := fun W => W.cell? ⟨w.heap.size, 0, none⟩ = some (.slice (some ad) m cr) ∧ W.cell? ⟨w.heap.size + 1, 0, none⟩ = some (.slice X n cX) ∧ W.cell? (ad.add i) = some (.slice R n cR)) (by kernel_rfl) (by simp [go_sem, hrc, Fr, yrw1, yrw0, yrwp1, yrwp2]) (fun hHeld => ?_)
        refine wpAnyH_take (i := 0) (v := ?vo40) rfl (by kernel_rfl) (by kernel_rfl) (by kernel_rfl) (fun _ _ _ h => h) (Or.inl ⟨by rfl, ?ho40⟩) (by assumption) ?ro40
        case ho40 => (intro w hSw; (try dsimp only at hSw); go_simp; (try with_reducible rfl))
        try simp only [Act.put, List.getElem_toArray, List.getElem_cons_succ, List.getElem_cons_zero, List.setIfInBounds_toArray, List.set_cons_zero, List.set_cons_succ]
        refine wpAnyH_take (i := 1) (v := ?vo41) rfl (by kernel_rfl) (by kernel_rfl) (by kernel_rfl) (fun _ _ _ h => h) (Or.inl ⟨by rfl, ?ho41⟩) (by assumption) ?ro41
        case ho41 => (intro w hSw; (try dsimp only at hSw); go_simp; (try with_reducible rfl))
        try simp only [Act.put, List.getElem_toArray, List.getElem_cons_succ, List.getElem_cons_zero, List.setIfInBounds_toArray, List.set_cons_zero, List.set_cons_succ]
        refine wpAnyH_take (i := 2) (v := ?vo42) rfl (by kernel_rfl) (by kernel_rfl) (by kernel_rfl) (fun _ _ _ h => h) (Or.inl ⟨by rfl, ?ho42⟩) (by assumption) ?ro42
        case ho42 => (intro w hSw; (try dsimp only at hSw); go_simp; (try with_reducible rfl))
        try simp only [Act.put, List.getElem_toArray, List.getElem_cons_succ, List.getElem_cons_zero, List.setIfInBounds_toArray, List.set_cons_zero, List.set_cons_succ]
        refine wpAnyH_take (i := 3) (v := ?vo43) rfl (by kernel_rfl) (by kernel_rfl) (by kernel_rfl) (fun _ _ _ h => h) (Or.inl ⟨by rfl, ?ho43⟩) (by assumption) ?ro43
        case ho43 => (intro w hSw; (try dsimp only at hSw); go_simp; (try with_reducible rfl))
        try simp only [Act.put, List.getElem_toArray, List.getElem_cons_succ, List.getElem_cons_zero, List.setIfInBounds_toArray, List.set_cons_zero, List.set_cons_succ]
        refine wpAnyH_take (i := 4) (v := ?vo44) rfl (by kernel_rfl) (by kernel_rfl) (by kernel_rfl) (fun _ _ _ h => h) (Or.inl ⟨by rfl, ?ho44⟩) (by assumption) ?ro44
        case ho44 => (intro w hSw; (try dsimp only at hSw); go_simp; (try with_reducible rfl))
        try simp only [Act.put, List.getElem_toArray, List.getElem_cons_succ, List.getElem_cons_zero, List.setIfInBounds_toArray, List.set_cons_zero, List.set_cons_succ]
        refine wpAnyH_take (i := 5) (v := ?vo45) rfl (by kernel_rfl) (by kernel_rfl) (by kernel_rfl) (fun _ _ _ h => h) (Or.inl ⟨by rfl, ?ho45⟩) (by assumption) ?ro45
        case ho45 => (intro w hSw; (try dsimp only at hSw); go_simp; (try with_reducible rfl))
        try simp only [Act.put, List.getElem_toArray, List.getElem_cons_succ, List.getElem_cons_zero, List.setIfInBounds_toArray, List.set_cons_zero, List.set_cons_succ]
        refine wpAnyH_take (i := 6) (v := ?vo46) rfl (by kernel_rfl) (by kernel_rfl) (by kernel_rfl) (fun _ _ _ h => h) (Or.inl ⟨by rfl, ?ho46⟩) (by assumption) ?ro46
        case ho46 => (intro w hSw; (try dsimp only at hSw); go_simp; (try with_reducible rfl))
        try simp only [Act.put, List.getElem_toArray, List.getElem_cons_succ, List.getElem_cons_zero, List.setIfInBounds_toArray, List.set_cons_zero, List.set_cons_succ]
        refine wpAnyH_ready (rs := [7]) (by kernel_rfl) (by simp) ?_
        refine (AllReadyH.cons rfl (fun K hK => ?bo41x7) AllReadyH.nil)
        case bo41x7 =>
          go_simp
          go_at_call 28
          refine (HP.out _ (by repeat (first | with_reducible exact hBr | with_reducible apply bdrew | with_reducible apply bdrewN | with_reducible apply balloc | ((with_reducible refine bset ?_ ?_ _); rotate_left; (first | omega | (simp <;> omega)))))).mono ?_
          rintro e w1 ⟨rfl, hB1⟩
          have D1 := dstep w hB1 (by repeat (first | with_reducible exact hBr | with_reducible apply bdrew | with_reducible apply bdrewN | with_reducible apply balloc | ((with_reducible refine bset ?_ ?_ _); rotate_left; (first | omega | (simp <;> omega)))))
          have C1 := Cls.below (l := [(w.heap.size, 0, .slice (some ad) m cr), (w.heap.size, 1, .slice AB m cb), (w.heap.size, 2, .slice AO n co), (w.heap.size + 1, 0, .slice X n cX), (w.heap.size + 1, 1, .int .i64 d)]) hB1 (by simp [Cls, go_sem, Fr, yrw1, yrw0, yrwp1, yrwp2])
          have hrc := (hB1.cell (blt hrc)).trans hrc
          have F1 := C1
          simp only [Cls, and_true] at F1
          have y1w1 : w.heap.size + 1 < w1.heap.size := C1.blk (b := w.heap.size + 1) (k := 0) (v := .slice X n cX) (by simp)
          have y1w0 : w.heap.size < w1.heap.size := (by omega)
          have y1wp1 : w.heap.size < w1.heap.size + 1 := (by omega)
          have y1wp2 : w.heap.size < w1.heap.size + 1 + 1 := (by omega)
          have hSS : w1.cell? ⟨w.heap.size, 0, none⟩ = some (.slice (some ad) m cr) ∧ w1.cell? ⟨w.heap.size + 1, 0, none⟩ = some (.slice X n cX) ∧ w1.cell? (ad.add i) = some (.slice R n cR) := (by simp [F1, hrc])
          go_wp2_with fail
          refine hK.out _ _ hSS (fun hHeld => ?_)
          clear hK K
          try simp only [Act.put, List.getElem_toArray, List.getElem_cons_succ, List.getElem_cons_zero, List.setIfInBounds_toArray, List.set_cons_zero, List.set_cons_succ]
          refine wpAnyH_take (i := 8) (v := ?vo4l28) rfl (by kernel_rfl) (by kernel_rfl) (by kernel_rfl) (fun _ _ _ h => h) (Or.inl ⟨by rfl, ?ho4l28⟩) (by assumption) ?ro4l28
          case ho4l28 => (intro w hSw; (try dsimp only at hSw); go_simp; (try with_reducible rfl))
          try simp only [Act.put, List.getElem_toArray, List.getElem_cons_succ, List.getElem_cons_zero, List.setIfInBounds_toArray, List.set_cons_zero, List.set_cons_succ]
          refine wpAnyH_done (by kernel_rfl) ?_ _
          go_wp2
          go_roundw
          case rel => exact ⟨i + 1, by omega, by go_num, Lib.hid (fun k hk => by
            by_cases e : k = i
            · subst e; rw [row_dot hr.out, hs.out, bnd_at hy.out, hu.out]; exact HG.out
            · exact HA.out k (by omega)), by repeat (first | with_reducible exact D1 | with_reducible apply bdrew | with_reducible apply bdrewN | with_reducible apply balloc | ((with_reducible refine bset ?_ ?_ _); rotate_left; (first | omega | (simp <;> omega)))), by simp [Cls, go_sem, F1, y1w1, y1w0, y1wp1, y1wp2]⟩
          case measure => simp [intOf]; omega
    · obtain rfl : m = i := by omega
      have HA2 := Lib.hid (fun (h : ∀ j, j < n → 0 ≤ atL x j) => (show LA.IsPt p.lp (atL x) 0 from ⟨fun k hk => by rw [HLN.out]; exact HA.out k (by rw [← HLM.out]; exact hk), fun j hj => h j (by rw [← HLN.out]; exact hj)⟩))
      have HA3 := Lib.hid (fun (h : LA.IsPt p.lp (atL x) 0) (j : Nat) (hj : j < n) => h.2 j (by rw [HLN.out]; exact hj))
      go_wp2_with fail
      refine (snn_any _ X cX x n HXL (by omega) (HIX.out.below (by repeat (first | with_reducible exact hBr | with_reducible apply bdrew | with_reducible apply bdrewN | with_reducible apply balloc | ((with_reducible refine bset ?_ ?_ _); rotate_left; (first | omega | (simp <;> omega))))))).mono ?_
      rintro e w2 ⟨ok, rfl, HNG, hB2⟩
      have D2 := dstep w hB2 (by repeat (first | with_reducible exact hBr | with_reducible apply bdrew | with_reducible apply bdrewN | with_reducible apply balloc | ((with_reducible refine bset ?_ ?_ _); rotate_left; (first | omega | (simp <;> omega)))))
      have C2 := Cls.below (l := [(w.heap.size, 0, .slice AR m cr), (w.heap.size, 1, .slice AB m cb), (w.heap.size, 2, .slice AO n co), (w.heap.size + 1, 0, .slice X n cX), (w.heap.size + 1, 1, .int .i64 d)]) hB2 (by simp [Cls, go_sem, Fr, yrw1, yrw0, yrwp1, yrwp2])
      have F2 := C2
      simp only [Cls, and_true] at F2
      have y2w1 : w.heap.size + 1 < w2.heap.size := C2.blk (b := w.heap.size + 1) (k := 0) (v := .slice X n cX) (by simp)
      have y2w0 : w.heap.size < w2.heap.size := (by omega)
      have y2wp1 : w.heap.size < w2.heap.size + 1 := (by omega)
      have y2wp2 : w.heap.size < w2.heap.size + 1 + 1 := (by omega)
      obtain ⟨s, hs⟩ : ∃ s, Hid (dotL n p.obj x = s) := ⟨_, Lib.hid rfl⟩
      have HP : Hid (∀ W : World, Below w.heap.size w W → Calls Try.prog 28 #[.slice AO n co, .slice X n cX] W fun e w' => e = .returned (.int .i64 s) ∧ Below W.heap.size W w') := Lib.hid (fun W hB => by
        have h := sprod_any W AO X co cX p.obj x n hol HXL hn6 (HOB.out.below hB) (HIX.out.below hB) HOK.out.c100 HVX.out.le
        rw [hs.out] at h; exact h)
      have HRI := Lib.hid (ray_iff hol.out x)
      cases ok with
      | false =>
        have HT := Lib.hid (fun h => Bool.false_ne_true (HNG.out.2 h))
        clear HNG
        go_wp2
        refine bodyPost_ret (v := .bool false) ?_ rfl ⟨false, rfl, Lib.hid (iff_of_false (by simp) fun h => HT.out ((nn_iff HXL.out).2 (HA3.out (HRI.out.1 h).1))), by repeat (first | with_reducible exact D2 | with_reducible apply bdrew | with_reducible apply bdrewN | with_reducible apply balloc | ((with_reducible refine bset ?_ ?_ _); rotate_left; (first | omega | (simp <;> omega))))⟩
        simp [results, Try.results21, go_sem, F2, y2w1, y2w0, y2wp1, y2wp2]
      | true =>
        have HT := Lib.hid (HNG.out.1 rfl)
        clear HNG
        go_wp2_with fail
        refine (HP.out _ (by repeat (first | with_reducible exact D2 | with_reducible apply bdrew | with_reducible apply bdrewN | with_reducible apply balloc | ((with_reducible refine bset ?_ ?_ _); rotate_left; (first | omega | (simp <;> omega)))))).mono ?_
        rintro e w3 ⟨rfl, hB3⟩
        have D3 := dstep w hB3 (by repeat (first | with_reducible exact D2 | with_reducible apply bdrew | with_reducible apply bdrewN | with_reducible apply balloc | ((with_reducible refine bset ?_ ?_ _); rotate_left; (first | omega | (simp <;> omega)))))
        have C3 := Cls.below (l := [(w.heap.size, 0, .slice AR m cr), (w.heap.size, 1, .slice AB m cb), (w.heap.size, 2, .slice AO n co), (w.heap.size + 1, 0, .slice X n cX), (w.heap.size + 1, 1, .int .i64 d)]) hB3 (by simp [Cls, go_sem, F2, y2w1, y2w0, y2wp1, y2wp2])
        have F3 := C3
        simp only [Cls, and_true] at F3
        have y3w1 : w.heap.size + 1 < w3.heap.size := C3.blk (b := w.heap.size + 1) (k := 0) (v := .slice X n cX) (by simp)
        have y3w0 : w.heap.size < w3.heap.size := (by omega)
        have y3wp1 : w.heap.size < w3.heap.size + 1 := (by omega)
        have y3wp2 : w.heap.size < w3.heap.size + 1 + 1 := (by omega)
        go_wp2
        refine bodyPost_ret (v := .bool (decide (s > 0))) ?_ rfl ⟨(decide (s > 0)), rfl, Lib.hid (by
          rw [HRI.out, hs.out]
          constructor
          · intro h; exact ⟨HA2.out ((nn_iff HXL.out).1 HT.out), of_decide_eq_true h⟩
          · intro h; exact decide_eq_true h.2), by repeat (first | with_reducible exact D3 | with_reducible apply bdrew | with_reducible apply bdrewN | with_reducible apply balloc | ((with_reducible refine bset ?_ ?_ _); rotate_left; (first | omega | (simp <;> omega))))⟩
        simp [results, Try.results21, go_sem, F3, y3w1, y3w0, y3wp1, y3wp2]

set_option maxRecDepth 100000 in
set_option maxHeartbeats 2000000 in
theorem sdual_any (w : World) (AR AB AO : Option Addr) (cr cb co : Nat) (p : LpV) (hM : LpMem w AR AB AO p) (hok : LpOk p) (m n : Nat) (hrl : Hid (p.rows.length = m)) (hbl : Hid (p.bounds.length = m)) (hol : Hid (p.obj.length = n)) (hm6 : m ≤ 6) (hn6 : n ≤ 6) (Y : Option Addr) (cY : Nat) (y : List Int) (e : Int) (hvy : VOk m y e) (hIy : Ints w Y y) :
    Calls Try.prog 23 #[.agg #[.slice AR m cr, .slice AB m cb, .slice AO n co], .agg #[.slice Y m cY, .int .i64 e]] w fun r w' => Says (LA.IsDu p.lp (atL y) e) w w' r := by
  have HM := Lib.hid hM
  have HOK := Lib.hid hok
  have HVY := Lib.hid hvy
  have HIY := Lib.hid hIy
  have HLM : Hid (p.lp.m = m) := Lib.hid hrl.out
  have HLN : Hid (p.lp.n = n) := Lib.hid hol.out
  have HYL : Hid (y.length = m) := Lib.hid hvy.len
  have hd0 := hvy.pos
  have hd1 := hvy.dle
  clear hM hok hvy
  go_enter Try.func23, Try.ntmps23
  go_wp2_with fail
  go_loopw [5] (fun v wr => ∃ j : Nat, j ≤ n ∧ v = .int .i64 j ∧ Hid (∀ k, k < j → p.lp.c k * e ≤ LA.sumN m fun i => p.lp.A i k * atL y i) ∧ Below w.heap.size w wr ∧ Cls wr [(w.heap.size, 0, .slice AR m cr), (w.heap.size, 1, .slice AB m cb), (w.heap.size, 2, .slice AO n co), (w.heap.size + 1, 0, .slice Y m cY), (w.heap.size + 1, 1, .int .i64 e)]) (fun v _ => n - (intOf v).toNat)
  case atStart => exact ⟨0, Nat.zero_le _, rfl, Lib.hid (fun k hk => by omega), (by repeat (first | with_reducible exact Below.refl _ _ | with_reducible apply bdrew | with_reducible apply bdrewN | with_reducible apply balloc | ((with_reducible refine bset ?_ ?_ _); rotate_left; (first | omega | (simp <;> omega))))), (by simp [Cls, go_sem])⟩
  case round =>
    obtain ⟨j, hj, rfl, HA, hBr, hCr⟩ := hrel
    obtain ⟨w1, rfl⟩ : ∃ wo : World, wo = wr := ⟨_, rfl⟩
    have drs := hBr.size
    have Fr := hCr
    simp only [Cls, and_true] at Fr
    have yrw1 : w.heap.size + 1 < w1.heap.size := hCr.blk (b := w.heap.size + 1) (k := 0) (v := .slice Y m cY) (by simp)
    have yrw0 : w.heap.size < w1.heap.size := (by omega)
    have yrwp1 : w.heap.size < w1.heap.size + 1 := (by omega)
    have yrwp2 : w.heap.size < w1.heap.size + 1 + 1 := (by omega)
    by_cases hlt : j < n
    · obtain ⟨ad, c, hAO, hc, hcc⟩ := (HM.out.obj.below hBr).at_ (k := j) (by rw [hol.out]; exact hlt)
      subst hAO
      have hcb := HOK.out.c c (List.mem_of_getElem? hc.out)
      have hmul := mul_le (X := 20) (Y := 100000000) hcb (show -100000000 ≤ e ∧ e ≤ 100000000 by omega)
      obtain ⟨hmul1, hmul2⟩ := hmul
      obtain ⟨u, hu⟩ : ∃ u, Hid (c * e = u) := ⟨_, Lib.hid rfl⟩
      have hwu : IntKind.i64.wrap (c * e) = u := by rw [hu.out] at hmul1 hmul2 ⊢; exact Go.IntWalk.i64_in _ (by omega)
      obtain ⟨s, hs⟩ : ∃ s, Hid ((LA.sumN m fun i => p.lp.A i j * atL y i) = s) := ⟨_, Lib.hid rfl⟩
      have HPC : Hid (∀ W : World, Below w.heap.size w W → Calls Try.prog 43 #[.agg #[.slice AR m cr, .slice AB m cb, .slice (some ad) n co], .int .i64 j] W fun e w' => ∃ A c, e = .returned (.slice A m c) ∧ Ints w' A (tbRow m fun k => p.lp.A k j) ∧ Below W.heap.size W w') := Lib.hid (fun W hB => scol_any W AR AB (some ad) cr cb co p (HM.out.below hB) HOK.out m n hrl hbl hol hm6 hn6 j hlt)
      have HP : Hid (∀ (W : World) (A : Option Addr) (c : Nat), Below w.heap.size w W → Ints W A (tbRow m fun k => p.lp.A k j) → Calls Try.prog 28 #[.slice A m c, .slice Y m cY] W fun e w' => e = .returned (.int .i64 s) ∧ Below W.heap.size W w') := Lib.hid (fun W A c hB hI => by
        have h := sprod_any W A Y c cY (tbRow m fun k => p.lp.A k j) y m (Lib.hid (tbRow_len _ _)) HYL hm6 hI (HIY.out.below hB) (col_100 HOK.out) HVY.out.le
        rw [col_dot, hs.out] at h; exact h)
      by_cases hgt : s < u
      · have hd : decide (s < u) = true := decide_eq_true hgt
        have HG := Lib.hid hgt
        go_wp2_with fail
        refine wp_region_held_drew (S := fun W => W.cell? ⟨w.heap.size, 0, none⟩ = some (.slice AR m cr) ∧ W.cell? ⟨w.heap.size, 1, none⟩ = some (.slice AB m cb) ∧ W.cell? ⟨w.heap.size, 2, none⟩ = some (.slice (some ad) n co) ∧ W.cell? ⟨w.heap.size + 1, 0, none⟩ = some (.slice Y m cY) ∧ W.cell? ⟨w.heap.size + 1, 1, none⟩ = some (.int .i64 e) ∧ W.cell? (ad.add j) = some (.int .i64 c)) (by kernel_rfl) (by simp [go_sem, hcc, Fr, yrw1, yrw0, yrwp1, yrwp2]) (fun hHeld => ?_)
        refine wpAnyH_take (i := 0) (v := ?vo50) rfl (by kernel_rfl) (by kernel_rfl) (by kernel_rfl) (fun _ _ _ h => h) (Or.inl ⟨by rfl, ?ho50⟩) (by assumption) ?ro50
        case ho50 => (intro w hSw; (try dsimp only at hSw); go_simp; (try with_reducible rfl))
        try simp only [Act.put, List.getElem_toArray, List.getElem_cons_succ, List.getElem_cons_zero, List.setIfInBounds_toArray, List.set_cons_zero, List.set_cons_succ]
        refine wpAnyH_take (i := 1) (v := ?vo51) rfl (by kernel_rfl) (by kernel_rfl) (by kernel_rfl) (fun _ _ _ h => h) (Or.inl ⟨by rfl, ?ho51⟩) (by assumption) ?ro51
        case ho51 => (intro w hSw; (try dsimp only at hSw); go_simp; (try with_reducible rfl))
        try simp only [Act.put, List.getElem_toArray, List.getElem_cons_succ, List.getElem_cons_zero, List.setIfInBounds_toArray, List.set_cons_zero, List.set_cons_succ]
        refine wpAnyH_take (i := 3) (v := ?vo53) rfl (by kernel_rfl) (by kernel_rfl) (by kernel_rfl) (fun _ _ _ h => h) (Or.inl ⟨by rfl, ?ho53⟩) (by assumption) ?ro53
        case ho53 => (intro w hSw; (try dsimp only at hSw); go_simp; (try with_reducible rfl))
        try simp only [Act.put, List.getElem_toArray, List.getElem_cons_succ, List.getElem_cons_zero, List.setIfInBounds_toArray, List.set_cons_zero, List.set_cons_succ]
        refine wpAnyH_take (i := 4) (v := ?vo54) rfl (by kernel_rfl) (by kernel_rfl) (by kernel_rfl) (fun _ _ _ h => h) (Or.inl ⟨by rfl, ?ho54⟩) (by assumption) ?ro54
        case ho54 => (intro w hSw; (try dsimp only at hSw); go_simp; (try with_reducible rfl))
        try simp only [Act.put, List.getElem_toArray, List.getElem_cons_succ, List.getElem_cons_zero, List.setIfInBounds_toArray, List.set_cons_zero, List.set_cons_succ]
        refine wpAnyH_take (i := 6) (v := ?vo56) rfl (by kernel_rfl) (by kernel_rfl) (by kernel_rfl) (fun _ _ _ h => h) (Or.inl ⟨by rfl, ?ho56⟩) (by assumption) ?ro56
        case ho56 => (intro w hSw; (try dsimp only at hSw); go_simp; (try with_reducible rfl))
        try simp only [Act.put, List.getElem_toArray, List.getElem_cons_succ, List.getElem_cons_zero, List.setIfInBounds_toArray, List.set_cons_zero, List.set_cons_succ]
        refine wpAnyH_take (i := 7) (v := ?vo57) rfl (by kernel_rfl) (by kernel_rfl) (by kernel_rfl) (fun _ _ _ h => h) (Or.inl ⟨by rfl, ?ho57⟩) (by assumption) ?ro57
        case ho57 => (intro w hSw; (try dsimp only at hSw); go_simp; (try with_reducible rfl))
        try simp only [Act.put, List.getElem_toArray, List.getElem_cons_succ, List.getElem_cons_zero, List.setIfInBounds_toArray, List.set_cons_zero, List.set_cons_succ]
        refine wpAnyH_take (i := 8) (v := ?vo58) rfl (by kernel_rfl) (by kernel_rfl) (by kernel_rfl) (fun _ _ _ h => h) (Or.inl ⟨by rfl, ?ho58⟩) (by assumption) ?ro58
        case ho58 => (intro w hSw; (try dsimp only at hSw); go_simp; (try with_reducible rfl))
        try simp only [Act.put, List.getElem_toArray, List.getElem_cons_succ, List.getElem_cons_zero, List.setIfInBounds_toArray, List.set_cons_zero, List.set_cons_succ]
        refine wpAnyH_take (i := 9) (v := ?vo59) rfl (by kernel_rfl) (by kernel_rfl) (by kernel_rfl) (fun _ _ _ h => h) (Or.inl ⟨by rfl, ?ho59⟩) (by assumption) ?ro59
        case ho59 => (intro w hSw; (try dsimp only at hSw); go_simp; (try with_reducible rfl))
        try simp only [Act.put, List.getElem_toArray, List.getElem_cons_succ, List.getElem_cons_zero, List.setIfInBounds_toArray, List.set_cons_zero, List.set_cons_succ]
        refine wpAnyH_take (i := 10) (v := ?vo510) rfl (by kernel_rfl) (by kernel_rfl) (by kernel_rfl) (fun _ _ _ h => h) (Or.inl ⟨by rfl, ?ho510⟩) (by assumption) ?ro510
        case ho510 => (intro w hSw; (try dsimp only at hSw); go_simp; (try with_reducible rfl))
        try simp only [Act.put, List.getElem_toArray, List.getElem_cons_succ, List.getElem_cons_zero, List.setIfInBounds_toArray, List.set_cons_zero, List.set_cons_succ]
        refine wpAnyH_take (i := 11) (v := ?vo511) rfl (by kernel_rfl) (by kernel_rfl) (by kernel_rfl) (fun _ _ _ h => h) (Or.inl ⟨by rfl, ?ho511⟩) (by assumption) ?ro511
        case ho511 => (intro w hSw; (try dsimp only at hSw); go_simp; (try with_reducible rfl))
        try simp only [Act.put, List.getElem_toArray, List.getElem_cons_succ, List.getElem_cons_zero, List.setIfInBounds_toArray, List.set_cons_zero, List.set_cons_succ]
        refine wpAnyH_take (i := 12) (v := ?vo512) rfl (by kernel_rfl) (by kernel_rfl) (by kernel_rfl) (fun _ _ _ h => h) (Or.inl ⟨by rfl, ?ho512⟩) (by assumption) ?ro512
        case ho512 => (intro w hSw; (try dsimp only at hSw); go_simp; (try with_reducible rfl))
        try simp only [Act.put, List.getElem_toArray, List.getElem_cons_succ, List.getElem_cons_zero, List.setIfInBounds_toArray, List.set_cons_zero, List.set_cons_succ]
        refine wpAnyH_take (i := 13) (v := ?vo513) rfl (by kernel_rfl) (by kernel_rfl) (by kernel_rfl) (fun _ _ _ h => h) (Or.inl ⟨by rfl, ?ho513⟩) (by assumption) ?ro513
        case ho513 => (intro w hSw; (try dsimp only at hSw); go_simp; (try with_reducible rfl))
        try simp only [Act.put, List.getElem_toArray, List.getElem_cons_succ, List.getElem_cons_zero, List.setIfInBounds_toArray, List.set_cons_zero, List.set_cons_succ]
        refine wpAnyH_ready (rs := [2]) (by kernel_rfl) (by simp) ?_
        refine (AllReadyH.cons rfl (fun K hK => ?bo51x2) AllReadyH.nil)
        case bo51x2 =>
          go_simp
          go_at_call 43
          refine (HPC.out _ (by repeat (first | with_reducible exact hBr | with_reducible apply bdrew | with_reducible apply bdrewN | with_reducible apply balloc | ((with_reducible refine bset ?_ ?_ _); rotate_left; (first | omega | (simp <;> omega)))))).mono ?_
          rintro e w1 ⟨Ac, cc, rfl, hIc, hB1⟩
          have D1 := dstep w hB1 (by repeat (first | with_reducible exact hBr | with_reducible apply bdrew | with_reducible apply bdrewN | with_reducible apply balloc | ((with_reducible refine bset ?_ ?_ _); rotate_left; (first | omega | (simp <;> omega)))))
          have C1 := Cls.below (l := [(w.heap.size, 0, .slice AR m cr), (w.heap.size, 1, .slice AB m cb), (w.heap.size, 2, .slice (some ad) n co), (w.heap.size + 1, 0, .slice Y m cY), (w.heap.size + 1, 1, .int .i64 e)]) hB1 (by simp [Cls, go_sem, Fr, yrw1, yrw0, yrwp1, yrwp2])
          have HIc := Lib.hid hIc
          have hcc := (hB1.cell (blt hcc)).trans hcc
          have F1 := C1
          simp only [Cls, and_true] at F1
          have y1w1 : w.heap.size + 1 < w1.heap.size := C1.blk (b := w.heap.size + 1) (k := 0) (v := .slice Y m cY) (by simp)
          have y1w0 : w.heap.size < w1.heap.size := (by omega)
          have y1wp1 : w.heap.size < w1.heap.size + 1 := (by omega)
          have y1wp2 : w.heap.size < w1.heap.size + 1 + 1 := (by omega)
          have hSS : w1.cell? ⟨w.heap.size, 0, none⟩ = some (.slice AR m cr) ∧ w1.cell? ⟨w.heap.size, 1, none⟩ = some (.slice AB m cb) ∧ w1.cell? ⟨w.heap.size, 2, none⟩ = some (.slice (some ad) n co) ∧ w1.cell? ⟨w.heap.size + 1, 0, none⟩ = some (.slice Y m cY) ∧ w1.cell? ⟨w.heap.size + 1, 1, none⟩ = some (.int .i64 e) ∧ w1.cell? (ad.add j) = some (.int .i64 c) := (by simp [F1, hcc])
          go_wp2_with fail
          refine hK.out _ _ hSS (fun hHeld => ?_)
          clear hK K
          try simp only [Act.put, List.getElem_toArray, List.getElem_cons_succ, List.getElem_cons_zero, List.setIfInBounds_toArray, List.set_cons_zero, List.set_cons_succ]
          refine wpAnyH_ready (rs := [5]) (by kernel_rfl) (by simp) ?_
          refine (AllReadyH.cons rfl (fun K hK => ?bo52x5) AllReadyH.nil)
          case bo52x5 =>
            go_simp
            go_at_call 28
            refine (HP.out _ _ _ (by repeat (first | with_reducible exact D1 | with_reducible apply bdrew | with_reducible apply bdrewN | with_reducible apply balloc | ((with_reducible refine bset ?_ ?_ _); rotate_left; (first | omega | (simp <;> omega))))) (HIc.out.below (by repeat (first | with_reducible exact Below.refl _ _ | with_reducible apply bdrew | with_reducible apply bdrewN | with_reducible apply balloc | ((with_reducible refine bset ?_ ?_ _); rotate_left; (first | omega | (simp <;> omega))))))).mono ?_
            rintro e w2 ⟨rfl, hB2⟩
            have D2 := dstep w hB2 (by repeat (first | with_reducible exact D1 | with_reducible apply bdrew | with_reducible apply bdrewN | with_reducible apply balloc | ((with_reducible refine bset ?_ ?_ _); rotate_left; (first | omega | (simp <;> omega)))))
            have C2 := Cls.below (l := [(w.heap.size, 0, .slice AR m cr), (w.heap.size, 1, .slice AB m cb), (w.heap.size, 2, .slice (some ad) n co), (w.heap.size + 1, 0, .slice Y m cY), (w.heap.size + 1, 1, .int .i64 e)]) hB2 (by simp [Cls, go_sem, F1, y1w1, y1w0, y1wp1, y1wp2])
            have hcc := (hB2.cell (blt hcc)).trans hcc
            have F2 := C2
            simp only [Cls, and_true] at F2
            have y2w1 : w.heap.size + 1 < w2.heap.size := C2.blk (b := w.heap.size + 1) (k := 0) (v := .slice Y m cY) (by simp)
            have y2w0 : w.heap.size < w2.heap.size := (by omega)
            have y2wp1 : w.heap.size < w2.heap.size + 1 := (by omega)
            have y2wp2 : w.heap.size < w2.heap.size + 1 + 1 := (by omega)
            have hSS : w2.cell? ⟨w.heap.size, 0, none⟩ = some (.slice AR m cr) ∧ w2.cell? ⟨w.heap.size, 1, none⟩ = some (.slice AB m cb) ∧ w2.cell? ⟨w.heap.size, 2, none⟩ = some (.slice (some ad) n co) ∧ w2.cell? ⟨w.heap.size + 1, 0, none⟩ = some (.slice Y m cY) ∧ w2.cell? ⟨w.heap.size + 1, 1, none⟩ = some (.int .i64 e) ∧ w2.cell? (ad.add j) = some (.int .i64 c) := (by simp [F2, hcc])
            go_wp2_with fail
            refine hK.out _ _ hSS (fun hHeld => ?_)
            clear hK K
            try simp only [Act.put, List.getElem_toArray, List.getElem_cons_succ, List.getElem_cons_zero, List.setIfInBounds_toArray, List.set_cons_zero, List.set_cons_succ]
            refine wpAnyH_take (i := 14) (v := ?vo5l314) rfl (by kernel_rfl) (by kernel_rfl) (by kernel_rfl) (fun _ _ _ h => h) (Or.inl ⟨by rfl, ?ho5l314⟩) (by assumption) ?ro5l314
            case ho5l314 => (intro w hSw; (try dsimp only at hSw); go_simp; (try with_reducible rfl))
            try simp only [Act.put, List.getElem_toArray, List.getElem_cons_succ, List.getElem_cons_zero, List.setIfInBounds_toArray, List.set_cons_zero, List.set_cons_succ]
            refine wpAnyH_done (by kernel_rfl) ?_ _
            go_wp2
            refine bodyPost_ret (v := .bool false) ?_ rfl ⟨false, rfl, Lib.hid (iff_of_false (by simp) (fun h => by
              have h1 := (show LA.IsDu p.lp (atL y) e from h).1 j (by rw [HLN.out]; exact hlt)
              rw [HLM.out, hs.out, obj_at hc.out, hu.out] at h1
              have := HG.out
              omega)), by repeat (first | with_reducible exact D2 | with_reducible apply bdrew | with_reducible apply bdrewN | with_reducible apply balloc | ((with_reducible refine bset ?_ ?_ _); rotate_left; (first | omega | (simp <;> omega))))⟩
            simp [results, Try.results23, go_sem, F2, y2w1, y2w0, y2wp1, y2wp2]
      · have hd : decide (s < u) = false := decide_eq_false hgt
        have HG := Lib.hid (show u ≤ s by omega)
        go_wp2_with fail
        refine wp_region_held_drew (S := fun W => W.cell? ⟨w.heap.size, 0, none⟩ = some (.slice AR m cr) ∧ W.cell? ⟨w.heap.size, 1, none⟩ = some (.slice AB m cb) ∧ W.cell? ⟨w.heap.size, 2, none⟩ = some (.slice (some ad) n co) ∧ W.cell? ⟨w.heap.size + 1, 0, none⟩ = some (.slice Y m cY) ∧ W.cell? ⟨w.heap.size + 1, 1, none⟩ = some (.int .i64 e) ∧ W.cell? (ad.add j) = some (.int .i64 c)) (by kernel_rfl) (by simp [go_sem, hcc, Fr, yrw1, yrw0, yrwp1, yrwp2]) (fun hHeld => ?_)
        refine wpAnyH_take (i := 0) (v := ?vo60) rfl (by kernel_rfl) (by kernel_rfl) (by kernel_rfl) (fun _ _ _ h => h) (Or.inl ⟨by rfl, ?ho60⟩) (by assumption) ?ro60
        case ho60 => (intro w hSw; (try dsimp only at hSw); go_simp; (try with_reducible rfl))
        try simp only [Act.put, List.getElem_toArray, List.getElem_cons_succ, List.getElem_cons_zero, List.setIfInBounds_toArray, List.set_cons_zero, List.set_cons_succ]
        refine wpAnyH_take (i := 1) (v := ?vo61) rfl (by kernel_rfl) (by kernel_rfl) (by kernel_rfl) (fun _ _ _ h => h) (Or.inl ⟨by rfl, ?ho61⟩) (by assumption) ?ro61
        case ho61 => (intro w hSw; (try dsimp only at hSw); go_simp; (try with_reducible rfl))
        try simp only [Act.put, List.getElem_toArray, List.getElem_cons_succ, List.getElem_cons_zero, List.setIfInBounds_toArray, List.set_cons_zero, List.set_cons_succ]
        refine wpAnyH_take (i := 3) (v := ?vo63) rfl (by kernel_rfl) (by kernel_rfl) (by kernel_rfl) (fun _ _ _ h => h) (Or.inl ⟨by rfl, ?ho63⟩) (by assumption) ?ro63
        case ho63 => (intro w hSw; (try dsimp only at hSw); go_simp; (try with_reducible rfl))
        try simp only [Act.put, List.getElem_toArray, List.getElem_cons_succ, List.getElem_cons_zero, List.setIfInBounds_toArray, List.set_cons_zero, List.set_cons_succ]
        refine wpAnyH_take (i := 4) (v := ?vo64) rfl (by kernel_rfl) (by kernel_rfl) (by kernel_rfl) (fun _ _ _ h => h) (Or.inl ⟨by rfl, ?ho64⟩) (by assumption) ?ro64
        case ho64 => (intro w hSw; (try dsimp only at hSw); go_simp; (try with_reducible rfl))
        try simp only [Act.put, List.getElem_toArray, List.getElem_cons_succ, List.getElem_cons_zero, List.setIfInBounds_toArray, List.set_cons_zero, List.set_cons_succ]
        refine wpAnyH_take (i := 6) (v := ?vo66) rfl (by kernel_rfl) (by kernel_rfl) (by kernel_rfl) (fun _ _ _ h => h) (Or.inl ⟨by rfl, ?ho66⟩) (by assumption) ?ro66
        case ho66 => (intro w hSw; (try dsimp only at hSw); go_simp; (try with_reducible rfl))
        try simp only [Act.put, List.getElem_toArray, List.getElem_cons_succ, List.getElem_cons_zero, List.setIfInBounds_toArray, List.set_cons_zero, List.set_cons_succ]
        refine wpAnyH_take (i := 7) (v := ?vo67) rfl (by kernel_rfl) (by kernel_rfl) (by kernel_rfl) (fun _ _ _ h => h) (Or.inl ⟨by rfl, ?ho67⟩) (by assumption) ?ro67
        case ho67 => (intro w hSw; (try dsimp only at hSw); go_simp; (try with_reducible rfl))
        try simp only [Act.put, List.getElem_toArray, List.getElem_cons_succ, List.getElem_cons_zero, List.setIfInBounds_toArray, List.set_cons_zero, List.set_cons_succ]
        refine wpAnyH_take (i := 8) (v := ?vo68) rfl (by kernel_rfl) (by kernel_rfl) (by kernel_rfl) (fun _ _ _ h => h) (Or.inl ⟨by rfl, ?ho68⟩) (by assumption) ?ro68
        case ho68 => (intro w hSw; (try dsimp only at hSw); go_simp; (try with_reducible rfl))
        try simp only [Act.put, List.getElem_toArray, List.getElem_cons_succ, List.getElem_cons_zero, List.setIfInBounds_toArray, List.set_cons_zero, List.set_cons_succ]
        refine wpAnyH_take (i := 9) (v := ?vo69) rfl (by kernel_rfl) (by kernel_rfl) (by kernel_rfl) (fun _ _ _ h => h) (Or.inl ⟨by rfl, ?ho69⟩) (by assumption) ?ro69
        case ho69 => (intro w hSw; (try dsimp only at hSw); go_simp; (try with_reducible rfl))
        try simp only [Act.put, List.getElem_toArray, List.getElem_cons_succ, List.getElem_cons_zero, List.setIfInBounds_toArray, List.set_cons_zero, List.set_cons_succ]
        refine wpAnyH_take (i := 10) (v := ?vo610) rfl (by kernel_rfl) (by kernel_rfl) (by kernel_rfl) (fun _ _ _ h => h) (Or.inl ⟨by rfl, ?ho610⟩) (by assumption) ?ro610
        case ho610 => (intro w hSw; (try dsimp only at hSw); go_simp; (try with_reducible rfl))
        try simp only [Act.put, List.getElem_toArray, List.getElem_cons_succ, List.getElem_cons_zero, List.setIfInBounds_toArray, List.set_cons_zero, List.set_cons_succ]
        refine wpAnyH_take (i := 11) (v := ?vo611) rfl (by kernel_rfl) (by kernel_rfl) (by kernel_rfl) (fun _ _ _ h => h) (Or.inl ⟨by rfl, ?ho611⟩) (by assumption) ?ro611
        case ho611 => (intro w hSw; (try dsimp only at hSw); go_simp; (try with_reducible rfl))
        try simp only [Act.put, List.getElem_toArray, List.getElem_cons_succ, List.getElem_cons_zero, List.setIfInBounds_toArray, List.set_cons_zero, List.set_cons_succ]
        refine wpAnyH_take (i := 12) (v := ?vo612) rfl (by kernel_rfl) (by kernel_rfl) (by kernel_rfl) (fun _ _ _ h => h) (Or.inl ⟨by rfl, ?ho612⟩) (by assumption) ?ro612
        case ho612 => (intro w hSw; (try dsimp only at hSw); go_simp; (try with_reducible rfl))
        try simp only [Act.put, List.getElem_toArray, List.getElem_cons_succ, List.getElem_cons_zero, List.setIfInBounds_toArray, List.set_cons_zero, List.set_cons_succ]
        refine wpAnyH_take (i := 13) (v := ?vo613) rfl (by kernel_rfl) (by kernel_rfl) (by kernel_rfl) (fun _ _ _ h => h) (Or.inl ⟨by rfl, ?ho613⟩) (by assumption) ?ro613
        case ho613 => (intro w hSw; (try dsimp only at hSw); go_simp; (try with_reducible rfl))
        try simp only [Act.put, List.getElem_toArray, List.getElem_cons_succ, List.getElem_cons_zero, List.setIfInBounds_toArray, List.set_cons_zero, List.set_cons_succ]
        refine wpAnyH_ready (rs := [2]) (by kernel_rfl) (by simp) ?_
        refine (AllReadyH.cons rfl (fun K hK => ?bo61x2) AllReadyH.nil)
        case bo61x2 =>
          go_simp
          go_at_call 43
          refine (HPC.out _ (by repeat (first | with_reducible exact hBr | with_reducible apply bdrew | with_reducible apply bdrewN | with_reducible apply balloc | ((with_reducible refine bset ?_ ?_ _); rotate_left; (first | omega | (simp <;> omega)))))).mono ?_
          rintro e w1 ⟨Ac, cc, rfl, hIc, hB1⟩
          have D1 := dstep w hB1 (by repeat (first | with_reducible exact hBr | with_reducible apply bdrew | with_reducible apply bdrewN | with_reducible apply balloc | ((with_reducible refine bset ?_ ?_ _); rotate_left; (first | omega | (simp <;> omega)))))
          have C1 := Cls.below (l := [(w.heap.size, 0, .slice AR m cr), (w.heap.size, 1, .slice AB m cb), (w.heap.size, 2, .slice (some ad) n co), (w.heap.size + 1, 0, .slice Y m cY), (w.heap.size + 1, 1, .int .i64 e)]) hB1 (by simp [Cls, go_sem, Fr, yrw1, yrw0, yrwp1, yrwp2])
          have HIc := Lib.hid hIc
          have hcc := (hB1.cell (blt hcc)).trans hcc
          have F1 := C1
          simp only [Cls, and_true] at F1
          have y1w1 : w.heap.size + 1 < w1.heap.size := C1.blk (b := w.heap.size + 1) (k := 0) (v := .slice Y m cY) (by simp)
          have y1w0 : w.heap.size < w1.heap.size := (by omega)
          have y1wp1 : w.heap.size < w1.heap.size + 1 := (by omega)
          have y1wp2 : w.heap.size < w1.heap.size + 1 + 1 := (by omega)
          have hSS : w1.cell? ⟨w.heap.size, 0, none⟩ = some (.slice AR m cr) ∧ w1.cell? ⟨w.heap.size, 1, none⟩ = some (.slice AB m cb) ∧ w1.cell? ⟨w.heap.size, 2, none⟩ = some (.slice (some ad) n co) ∧ w1.cell? ⟨w.heap.size + 1, 0, none⟩ = some (.slice Y m cY) ∧ w1.cell? ⟨w.heap.size + 1, 1, none⟩ = some (.int .i64 e) ∧ w1.cell? (ad.add j) = some (.int .i64 c) := (by simp [F1, hcc])
          go_wp2_with fail
          refine hK.out _ _ hSS (fun hHeld => ?_)
          clear hK K
          try simp only [Act.put, List.getElem_toArray, List.getElem_cons_succ, List.getElem_cons_zero, List.setIfInBounds_toArray, List.set_cons_zero, List.set_cons_succ]
          refine wpAnyH_ready (rs := [5]) (by kernel_rfl) (by simp) ?_
          refine (AllReadyH.cons rfl (fun K hK => ?bo62x5) AllReadyH.nil)
          case bo62x5 =>
            go_simp
            go_at_call 28
            refine (HP.out _ _ _ (by repeat (first | with_reducible exact D1 | with_reducible apply bdrew | with_reducible apply bdrewN | with_reducible apply balloc | ((with_reducible refine bset ?_ ?_ _); rotate_left; (first | omega | (simp <;> omega))))) (HIc.out.below (by repeat (first | with_reducible exact Below.refl _ _ | with_reducible apply bdrew | with_reducible apply bdrewN | with_reducible apply balloc | ((with_reducible refine bset ?_ ?_ _); rotate_left; (first | omega | (simp <;> omega))))))).mono ?_
            rintro e w2 ⟨rfl, hB2⟩
            have D2 := dstep w hB2 (by repeat (first | with_reducible exact D1 | with_reducible apply bdrew | with_reducible apply bdrewN | with_reducible apply balloc | ((with_reducible refine bset ?_ ?_ _); rotate_left; (first | omega | (simp <;> omega)))))
            have C2 := Cls.below (l := [(w.heap.size, 0, .slice AR m cr), (w.heap.size, 1, .slice AB m cb), (w.heap.size, 2, .slice (some ad) n co), (w.heap.size + 1, 0, .slice Y m cY), (w.heap.size + 1, 1, .int .i64 e)]) hB2 (by simp [Cls, go_sem, F1, y1w1, y1w0, y1wp1, y1wp2])
            have hcc := (hB2.cell (blt hcc)).trans hcc
            have F2 := C2
            simp only [Cls, and_true] at F2
            have y2w1 : w.heap.size + 1 < w2.heap.size := C2.blk (b := w.heap.size + 1) (k := 0) (v := .slice Y m cY) (by simp)
            have y2w0 : w.heap.size < w2.heap.size := (by omega)
            have y2wp1 : w.heap.size < w2.heap.size + 1 := (by omega)
            have y2wp2 : w.heap.size < w2.heap.size + 1 + 1 := (by omega)
            have hSS : w2.cell? ⟨w.heap.size, 0, none⟩ = some (.slice AR m cr) ∧ w2.cell? ⟨w.heap.size, 1, none⟩ = some (.slice AB m cb) ∧ w2.cell? ⟨w.heap.size, 2, none⟩ = some (.slice (some ad) n co) ∧ w2.cell? ⟨w.heap.size + 1, 0, none⟩ = some (.slice Y m cY) ∧ w2.cell? ⟨w.heap.size + 1, 1, none⟩ = some (.int .i64 e) ∧ w2.cell? (ad.add j) = some (.int .i64 c) := (by simp [F2, hcc])
            go_wp2_with fail
            refine hK.out _ _ hSS (fun hHeld => ?_)
            clear hK K
            try simp only [Act.put, List.getElem_toArray, List.getElem_cons_succ, List.getElem_cons_zero, List.setIfInBounds_toArray, List.set_cons_zero, List.set_cons_succ]
            refine wpAnyH_take (i := 14) (v := ?vo6l314) rfl (by kernel_rfl) (by kernel_rfl) (by kernel_rfl) (fun _ _ _ h => h) (Or.inl ⟨by rfl, ?ho6l314⟩) (by assumption) ?ro6l314
            case ho6l314 => (intro w hSw; (try dsimp only at hSw); go_simp; (try with_reducible rfl))
            try simp only [Act.put, List.getElem_toArray, List.getElem_cons_succ, List.getElem_cons_zero, List.setIfInBounds_toArray, List.set_cons_zero, List.set_cons_succ]
            refine wpAnyH_done (by kernel_rfl) ?_ _
            go_wp2
            go_roundw
            case rel => exact ⟨j + 1, by omega, by go_num, Lib.hid (fun k hk => by
              by_cases e1 : k = j
              · subst e1; rw [hs.out, obj_at hc.out, hu.out]; exact HG.out
              · exact HA.out k (by omega)), by repeat (first | with_reducible exact D2 | with_reducible apply bdrew | with_reducible apply bdrewN | with_reducible apply balloc | ((with_reducible refine bset ?_ ?_ _); rotate_left; (first | omega | (simp <;> omega)))), by simp [Cls, go_sem, F2, y2w1, y2w0, y2wp1, y2wp2]⟩
            case measure => simp [intOf]; omega
    · obtain rfl : n = j := by omega
      go_wp2_with fail
      refine (snn_any _ Y cY y m HYL (by omega) (HIY.out.below (by repeat (first | with_reducible exact hBr | with_reducible apply bdrew | with_reducible apply bdrewN | with_reducible apply balloc | ((with_reducible refine bset ?_ ?_ _); rotate_left; (first | omega | (simp <;> omega))))))).mono ?_
      rintro e w2 ⟨ok, rfl, HNG, hB2⟩
      have D2 := dstep w hB2 (by repeat (first | with_reducible exact hBr | with_reducible apply bdrew | with_reducible apply bdrewN | with_reducible apply balloc | ((with_reducible refine bset ?_ ?_ _); rotate_left; (first | omega | (simp <;> omega)))))
      have C2 := Cls.below (l := [(w.heap.size, 0, .slice AR m cr), (w.heap.size, 1, .slice AB m cb), (w.heap.size, 2, .slice AO n co), (w.heap.size + 1, 0, .slice Y m cY), (w.heap.size + 1, 1, .int .i64 e)]) hB2 (by simp [Cls, go_sem, Fr, yrw1, yrw0, yrwp1, yrwp2])
      have F2 := C2
      simp only [Cls, and_true] at F2
      have y2w1 : w.heap.size + 1 < w2.heap.size := C2.blk (b := w.heap.size + 1) (k := 0) (v := .slice Y m cY) (by simp)
      have y2w0 : w.heap.size < w2.heap.size := (by omega)
      have y2wp1 : w.heap.size < w2.heap.size + 1 := (by omega)
      have y2wp2 : w.heap.size < w2.heap.size + 1 + 1 := (by omega)
      go_wp2
      refine bodyPost_ret (v := .bool ok) ?_ rfl ⟨ok, rfl, Lib.hid (by
        rw [HNG.out, nn_iff HYL.out]
        exact ⟨fun h => ⟨fun k hk => by rw [HLM.out]; exact HA.out k (by rw [← HLN.out]; exact hk), fun k hk => h k (by rw [← HLM.out]; exact hk)⟩, fun h k hk => h.2 k (by rw [HLM.out]; exact hk)⟩), by repeat (first | with_reducible exact D2 | with_reducible apply bdrew | with_reducible apply bdrewN | with_reducible apply balloc | ((with_reducible refine bset ?_ ?_ _); rotate_left; (first | omega | (simp <;> omega))))⟩
      simp [results, Try.results23, go_sem, F2, y2w1, y2w0, y2wp1, y2wp2]

set_option maxRecDepth 100000 in
set_option maxHeartbeats 2000000 in
theorem srefutes_any (w : World) (AR AB AO : Option Addr) (cr cb co : Nat) (p : LpV) (hM : LpMem w AR AB AO p) (hok : LpOk p) (m n : Nat) (hrl : Hid (p.rows.length = m)) (hbl : Hid (p.bounds.length = m)) (hol : Hid (p.obj.length = n)) (hm6 : m ≤ 6) (hn6 : n ≤ 6) (Y : Option Addr) (cY : Nat) (y : List Int) (e : Int) (hvy : VOk m y e) (hIy : Ints w Y y) :
    Calls Try.prog 19 #[.agg #[.slice AR m cr, .slice AB m cb, .slice AO n co], .agg #[.slice Y m cY, .int .i64 e]] w fun r w' => Says (LA.IsRef p.lp (atL y)) w w' r := by
  have HM := Lib.hid hM
  have HOK := Lib.hid hok
  have HVY := Lib.hid hvy
  have HIY := Lib.hid hIy
  have HLM : Hid (p.lp.m = m) := Lib.hid hrl.out
  have HLN : Hid (p.lp.n = n) := Lib.hid hol.out
  have HYL : Hid (y.length = m) := Lib.hid hvy.len
  have hd0 := hvy.pos
  have hd1 := hvy.dle
  clear hM hok hvy
  go_enter Try.func19, Try.ntmps19
  go_wp2_with fail
  go_loopw [5] (fun v wr => ∃ j : Nat, j ≤ n ∧ v = .int .i64 j ∧ Hid (∀ k, k < j → 0 ≤ LA.sumN m fun i => p.lp.A i k * atL y i) ∧ Below w.heap.size w wr ∧ Cls wr [(w.heap.size, 0, .slice AR m cr), (w.heap.size, 1, .slice AB m cb), (w.heap.size, 2, .slice AO n co), (w.heap.size + 1, 0, .slice Y m cY), (w.heap.size + 1, 1, .int .i64 e)]) (fun v _ => n - (intOf v).toNat)
  case atStart => exact ⟨0, Nat.zero_le _, rfl, Lib.hid (fun k hk => by omega), (by repeat (first | with_reducible exact Below.refl _ _ | with_reducible apply bdrew | with_reducible apply bdrewN | with_reducible apply balloc | ((with_reducible refine bset ?_ ?_ _); rotate_left; (first | omega | (simp <;> omega))))), (by simp [Cls, go_sem])⟩
  case round =>
    obtain ⟨j, hj, rfl, HA, hBr, hCr⟩ := hrel
    obtain ⟨w1, rfl⟩ : ∃ wo : World, wo = wr := ⟨_, rfl⟩
    have drs := hBr.size
    have Fr := hCr
    simp only [Cls, and_true] at Fr
    have yrw1 : w.heap.size + 1 < w1.heap.size := hCr.blk (b := w.heap.size + 1) (k := 0) (v := .slice Y m cY) (by simp)
    have yrw0 : w.heap.size < w1.heap.size := (by omega)
    have yrwp1 : w.heap.size < w1.heap.size + 1 := (by omega)
    have yrwp2 : w.heap.size < w1.heap.size + 1 + 1 := (by omega)
    by_cases hlt : j < n
    · obtain ⟨s, hs⟩ : ∃ s, Hid ((LA.sumN m fun i => p.lp.A i j * atL y i) = s) := ⟨_, Lib.hid rfl⟩
      have HPC : Hid (∀ W : World, Below w.heap.size w W → Calls Try.prog 43 #[.agg #[.slice AR m cr, .slice AB m cb, .slice AO n co], .int .i64 j] W fun e w' => ∃ A c, e = .returned (.slice A m c) ∧ Ints w' A (tbRow m fun k => p.lp.A k j) ∧ Below W.heap.size W w') := Lib.hid (fun W hB => scol_any W AR AB AO cr cb co p (HM.out.below hB) HOK.out m n hrl hbl hol hm6 hn6 j hlt)
      have HP : Hid (∀ (W : World) (A : Option Addr) (c : Nat), Below w.heap.size w W → Ints W A (tbRow m fun k => p.lp.A k j) → Calls Try.prog 28 #[.slice A m c, .slice Y m cY] W fun e w' => e = .returned (.int .i64 s) ∧ Below W.heap.size W w') := Lib.hid (fun W A c hB hI => by
        have h := sprod_any W A Y c cY (tbRow m fun k => p.lp.A k j) y m (Lib.hid (tbRow_len _ _)) HYL hm6 hI (HIY.out.below hB) (col_100 HOK.out) HVY.out.le
        rw [col_dot, hs.out] at h; exact h)
      by_cases hgt : s < 0
      · have hd : decide (s < 0) = true := decide_eq_true hgt
        have HG := Lib.hid hgt
        go_wp2_with fail
        refine wp_region_held_drew (S := fun W => W.cell? ⟨w.heap.size, 0, none⟩ = some (.slice AR m cr) ∧ W.cell? ⟨w.heap.size, 1, none⟩ = some (.slice AB m cb) ∧ W.cell? ⟨w.heap.size, 2, none⟩ = some (.slice AO n co) ∧ W.cell? ⟨w.heap.size + 1, 0, none⟩ = some (.slice Y m cY)) (by kernel_rfl) (by simp [go_sem, Fr, yrw1, yrw0, yrwp1, yrwp2]) (fun hHeld => ?_)
        refine wpAnyH_take (i := 0) (v := ?vo70) rfl (by kernel_rfl) (by kernel_rfl) (by kernel_rfl) (fun _ _ _ h => h) (Or.inl ⟨by rfl, ?ho70⟩) (by assumption) ?ro70
        case ho70 => (intro w hSw; (try dsimp only at hSw); go_simp; (try with_reducible rfl))
        try simp only [Act.put, List.getElem_toArray, List.getElem_cons_succ, List.getElem_cons_zero, List.setIfInBounds_toArray, List.set_cons_zero, List.set_cons_succ]
        refine wpAnyH_take (i := 1) (v := ?vo71) rfl (by kernel_rfl) (by kernel_rfl) (by kernel_rfl) (fun _ _ _ h => h) (Or.inl ⟨by rfl, ?ho71⟩) (by assumption) ?ro71
        case ho71 => (intro w hSw; (try dsimp only at hSw); go_simp; (try with_reducible rfl))
        try simp only [Act.put, List.getElem_toArray, List.getElem_cons_succ, List.getElem_cons_zero, List.setIfInBounds_toArray, List.set_cons_zero, List.set_cons_succ]
        refine wpAnyH_take (i := 3) (v := ?vo73) rfl (by kernel_rfl) (by kernel_rfl) (by kernel_rfl) (fun _ _ _ h => h) (Or.inl ⟨by rfl, ?ho73⟩) (by assumption) ?ro73
        case ho73 => (intro w hSw; (try dsimp only at hSw); go_simp; (try with_reducible rfl))
        try simp only [Act.put, List.getElem_toArray, List.getElem_cons_succ, List.getElem_cons_zero, List.setIfInBounds_toArray, List.set_cons_zero, List.set_cons_succ]
        refine wpAnyH_take (i := 4) (v := ?vo74) rfl (by kernel_rfl) (by kernel_rfl) (by kernel_rfl) (fun _ _ _ h => h) (Or.inl ⟨by rfl, ?ho74⟩) (by assumption) ?ro74
        case ho74 => (intro w hSw; (try dsimp only at hSw); go_simp; (try with_reducible rfl))
        try simp only [Act.put, List.getElem_toArray, List.getElem_cons_succ, List.getElem_cons_zero, List.setIfInBounds_toArray, List.set_cons_zero, List.set_cons_succ]
        refine wpAnyH_ready (rs := [2]) (by kernel_rfl) (by simp) ?_
        refine (AllReadyH.cons rfl (fun K hK => ?bo71x2) AllReadyH.nil)
        case bo71x2 =>
          go_simp
          go_at_call 43
          refine (HPC.out _ (by repeat (first | with_reducible exact hBr | with_reducible apply bdrew | with_reducible apply bdrewN | with_reducible apply balloc | ((with_reducible refine bset ?_ ?_ _); rotate_left; (first | omega | (simp <;> omega)))))).mono ?_
          rintro e w1 ⟨Ac, cc, rfl, hIc, hB1⟩
          have D1 := dstep w hB1 (by repeat (first | with_reducible exact hBr | with_reducible apply bdrew | with_reducible apply bdrewN | with_reducible apply balloc | ((with_reducible refine bset ?_ ?_ _); rotate_left; (first | omega | (simp <;> omega)))))
          have C1 := Cls.below (l := [(w.heap.size, 0, .slice AR m cr), (w.heap.size, 1, .slice AB m cb), (w.heap.size, 2, .slice AO n co), (w.heap.size + 1, 0, .slice Y m cY), (w.heap.size + 1, 1, .int .i64 e)]) hB1 (by simp [Cls, go_sem, Fr, yrw1, yrw0, yrwp1, yrwp2])
          have HIc := Lib.hid hIc
          have F1 := C1
          simp only [Cls, and_true] at F1
          have y1w1 : w.heap.size + 1 < w1.heap.size := C1.blk (b := w.heap.size + 1) (k := 0) (v := .slice Y m cY) (by simp)
          have y1w0 : w.heap.size < w1.heap.size := (by omega)
          have y1wp1 : w.heap.size < w1.heap.size + 1 := (by omega)
          have y1wp2 : w.heap.size < w1.heap.size + 1 + 1 := (by omega)
          have hSS : w1.cell? ⟨w.heap.size, 0, none⟩ = some (.slice AR m cr) ∧ w1.cell? ⟨w.heap.size, 1, none⟩ = some (.slice AB m cb) ∧ w1.cell? ⟨w.heap.size, 2, none⟩ = some (.slice AO n co) ∧ w1.cell? ⟨w.heap.size + 1, 0, none⟩ = some (.slice Y m cY) := (by simp [F1])
          go_wp2_with fail
          refine hK.out _ _ hSS (fun hHeld => ?_)
          clear hK K
          try simp only [Act.put, List.getElem_toArray, List.getElem_cons_succ, List.getElem_cons_zero, List.setIfInBounds_toArray, List.set_cons_zero, List.set_cons_succ]
          refine wpAnyH_ready (rs := [5]) (by kernel_rfl) (by simp) ?_
          refine (AllReadyH.cons rfl (fun K hK => ?bo72x5) AllReadyH.nil)
          case bo72x5 =>
            go_simp
            go_at_call 28
            refine (HP.out _ _ _ (by repeat (first | with_reducible exact D1 | with_reducible apply bdrew | with_reducible apply bdrewN | with_reducible apply balloc | ((with_reducible refine bset ?_ ?_ _); rotate_left; (first | omega | (simp <;> omega))))) (HIc.out.below (by repeat (first | with_reducible exact Below.refl _ _ | with_reducible apply bdrew | with_reducible apply bdrewN | with_reducible apply balloc | ((with_reducible refine bset ?_ ?_ _); rotate_left; (first | omega | (simp <;> omega))))))).mono ?_
            rintro e w2 ⟨rfl, hB2⟩
            have D2 := dstep w hB2 (by repeat (first | with_reducible exact D1 | with_reducible apply bdrew | with_reducible apply bdrewN | with_reducible apply balloc | ((with_reducible refine bset ?_ ?_ _); rotate_left; (first | omega | (simp <;> omega)))))
            have C2 := Cls.below (l := [(w.heap.size, 0, .slice AR m cr), (w.heap.size, 1, .slice AB m cb), (w.heap.size, 2, .slice AO n co), (w.heap.size + 1, 0, .slice Y m cY), (w.heap.size + 1, 1, .int .i64 e)]) hB2 (by simp [Cls, go_sem, F1, y1w1, y1w0, y1wp1, y1wp2])
            have F2 := C2
            simp only [Cls, and_true] at F2
            have y2w1 : w.heap.size + 1 < w2.heap.size := C2.blk (b := w.heap.size + 1) (k := 0) (v := .slice Y m cY) (by simp)
            have y2w0 : w.heap.size < w2.heap.size := (by omega)
            have y2wp1 : w.heap.size < w2.heap.size + 1 := (by omega)
            have y2wp2 : w.heap.size < w2.heap.size + 1 + 1 := (by omega)
            have hSS : w2.cell? ⟨w.heap.size, 0, none⟩ = some (.slice AR m cr) ∧ w2.cell? ⟨w.heap.size, 1, none⟩ = some (.slice AB m cb) ∧ w2.cell? ⟨w.heap.size, 2, none⟩ = some (.slice AO n co) ∧ w2.cell? ⟨w.heap.size + 1, 0, none⟩ = some (.slice Y m cY) := (by simp [F2])
            go_wp2_with fail
            refine hK.out _ _ hSS (fun hHeld => ?_)
            clear hK K
            try simp only [Act.put, List.getElem_toArray, List.getElem_cons_succ, List.getElem_cons_zero, List.setIfInBounds_toArray, List.set_cons_zero, List.set_cons_succ]
            refine wpAnyH_take (i := 6) (v := ?vo7l36) rfl (by kernel_rfl) (by kernel_rfl) (by kernel_rfl) (fun _ _ _ h => h) (Or.inl ⟨by rfl, ?ho7l36⟩) (by assumption) ?ro7l36
            case ho7l36 => (intro w hSw; (try dsimp only at hSw); go_simp; (try with_reducible rfl))
            try simp only [Act.put, List.getElem_toArray, List.getElem_cons_succ, List.getElem_cons_zero, List.setIfInBounds_toArray, List.set_cons_zero, List.set_cons_succ]
            refine wpAnyH_done (by kernel_rfl) ?_ _
            go_wp2
            refine bodyPost_ret (v := .bool false) ?_ rfl ⟨false, rfl, Lib.hid (iff_of_false (by simp) (fun h => by
              have h1 := (show LA.IsRef p.lp (atL y) from h).1 j (by rw [HLN.out]; exact hlt)
              rw [HLM.out, hs.out] at h1
              have := HG.out
              omega)), by repeat (first | with_reducible exact D2 | with_reducible apply bdrew | with_reducible apply bdrewN | with_reducible apply balloc | ((with_reducible refine bset ?_ ?_ _); rotate_left; (first | omega | (simp <;> omega))))⟩
            simp [results, Try.results19, go_sem, F2, y2w1, y2w0, y2wp1, y2wp2]
      · have hd : decide (s < 0) = false := decide_eq_false hgt
        have HG := Lib.hid (show 0 ≤ s by omega)
        go_wp2_with fail
        refine wp_region_held_drew (S := fun W => W.cell? ⟨w.heap.size, 0, none⟩ = some (.slice AR m cr) ∧ W.cell? ⟨w.heap.size, 1, none⟩ = some (.slice AB m cb) ∧ W.cell? ⟨w.heap.size, 2, none⟩ = some (.slice AO n co) ∧ W.cell? ⟨w.heap.size + 1, 0, none⟩ = some (.slice Y m cY)) (by kernel_rfl) (by simp [go_sem, Fr, yrw1, yrw0, yrwp1, yrwp2]) (fun hHeld => ?_)
        refine wpAnyH_take (i := 0) (v := ?vo80) rfl (by kernel_rfl) (by kernel_rfl) (by kernel_rfl) (fun _ _ _ h => h) (Or.inl ⟨by rfl, ?ho80⟩) (by assumption) ?ro80
        case ho80 => (intro w hSw; (try dsimp only at hSw); go_simp; (try with_reducible rfl))
        try simp only [Act.put, List.getElem_toArray, List.getElem_cons_succ, List.getElem_cons_zero, List.setIfInBounds_toArray, List.set_cons_zero, List.set_cons_succ]
        refine wpAnyH_take (i := 1) (v := ?vo81) rfl (by kernel_rfl) (by kernel_rfl) (by kernel_rfl) (fun _ _ _ h => h) (Or.inl ⟨by rfl, ?ho81⟩) (by assumption) ?ro81
        case ho81 => (intro w hSw; (try dsimp only at hSw); go_simp; (try with_reducible rfl))
        try simp only [Act.put, List.getElem_toArray, List.getElem_cons_succ, List.getElem_cons_zero, List.setIfInBounds_toArray, List.set_cons_zero, List.set_cons_succ]
        refine wpAnyH_take (i := 3) (v := ?vo83) rfl (by kernel_rfl) (by kernel_rfl) (by kernel_rfl) (fun _ _ _ h => h) (Or.inl ⟨by rfl, ?ho83⟩) (by assumption) ?ro83
        case ho83 => (intro w hSw; (try dsimp only at hSw); go_simp; (try with_reducible rfl))
        try simp only [Act.put, List.getElem_toArray, List.getElem_cons_succ, List.getElem_cons_zero, List.setIfInBounds_toArray, List.set_cons_zero, List.set_cons_succ]
        refine wpAnyH_take (i := 4) (v := ?vo84) rfl (by kernel_rfl) (by kernel_rfl) (by kernel_rfl) (fun _ _ _ h => h) (Or.inl ⟨by rfl, ?ho84⟩) (by assumption) ?ro84
        case ho84 => (intro w hSw; (try dsimp only at hSw); go_simp; (try with_reducible rfl))
        try simp only [Act.put, List.getElem_toArray, List.getElem_cons_succ, List.getElem_cons_zero, List.setIfInBounds_toArray, List.set_cons_zero, List.set_cons_succ]
        refine wpAnyH_ready (rs := [2]) (by kernel_rfl) (by simp) ?_
        refine (AllReadyH.cons rfl (fun K hK => ?bo81x2) AllReadyH.nil)
        case bo81x2 =>
          go_simp
          go_at_call 43
          refine (HPC.out _ (by repeat (first | with_reducible exact hBr | with_reducible apply bdrew | with_reducible apply bdrewN | with_reducible apply balloc | ((with_reducible refine bset ?_ ?_ _); rotate_left; (first | omega | (simp <;> omega)))))).mono ?_
          rintro e w1 ⟨Ac, cc, rfl, hIc, hB1⟩
          have D1 := dstep w hB1 (by repeat (first | with_reducible exact hBr | with_reducible apply bdrew | with_reducible apply bdrewN | with_reducible apply balloc | ((with_reducible refine bset ?_ ?_ _); rotate_left; (first | omega | (simp <;> omega)))))
          have C1 := Cls.below (l := [(w.heap.size, 0, .slice AR m cr), (w.heap.size, 1, .slice AB m cb), (w.heap.size, 2, .slice AO n co), (w.heap.size + 1, 0, .slice Y m cY), (w.heap.size + 1, 1, .int .i64 e)]) hB1 (by simp [Cls, go_sem, Fr, yrw1, yrw0, yrwp1, yrwp2])
          have HIc := Lib.hid hIc
          have F1 := C1
          simp only [Cls, and_true] at F1
          have y1w1 : w.heap.size + 1 < w1.heap.size := C1.blk (b := w.heap.size + 1) (k := 0) (v := .slice Y m cY) (by simp)
          have y1w0 : w.heap.size < w1.heap.size := (by omega)
          have y1wp1 : w.heap.size < w1.heap.size + 1 := (by omega)
          have y1wp2 : w.heap.size < w1.heap.size + 1 + 1 := (by omega)
          have hSS : w1.cell? ⟨w.heap.size, 0, none⟩ = some (.slice AR m cr) ∧ w1.cell? ⟨w.heap.size, 1, none⟩ = some (.slice AB m cb) ∧ w1.cell? ⟨w.heap.size, 2, none⟩ = some (.slice AO n co) ∧ w1.cell? ⟨w.heap.size + 1, 0, none⟩ = some (.slice Y m cY) := (by simp [F1])
          go_wp2_with fail
          refine hK.out _ _ hSS (fun hHeld => ?_)
          clear hK K
          try simp only [Act.put, List.getElem_toArray, List.getElem_cons_succ, List.getElem_cons_zero, List.setIfInBounds_toArray, List.set_cons_zero, List.set_cons_succ]
          refine wpAnyH_ready (rs := [5]) (by kernel_rfl) (by simp) ?_
          refine (AllReadyH.cons rfl (fun K hK => ?bo82x5) AllReadyH.nil)
          case bo82x5 =>
            go_simp
            go_at_call 28
            refine (HP.out _ _ _ (by repeat (first | with_reducible exact D1 | with_reducible apply bdrew | with_reducible apply bdrewN | with_reducible apply balloc | ((with_reducible refine bset ?_ ?_ _); rotate_left; (first | omega | (simp <;> omega))))) (HIc.out.below (by repeat (first | with_reducible exact Below.refl _ _ | with_reducible apply bdrew | with_reducible apply bdrewN | with_reducible apply balloc | ((with_reducible refine bset ?_ ?_ _); rotate_left; (first | omega | (simp <;> omega))))))).mono ?_
            rintro e w2 ⟨rfl, hB2⟩
            have D2 := dstep w hB2 (by repeat (first | with_reducible exact D1 | with_reducible apply bdrew | with_reducible apply bdrewN | with_reducible apply balloc | ((with_reducible refine bset ?_ ?_ _); rotate_left; (first | omega | (simp <;> omega)))))
            have C2 := Cls.below (l := [(w.heap.size, 0, .slice AR m cr), (w.heap.size, 1, .slice AB m cb), (w.heap.size, 2, .slice AO n co), (w.heap.size + 1, 0, .slice Y m cY), (w.heap.size + 1, 1, .int .i64 e)]) hB2 (by simp [Cls, go_sem, F1, y1w1, y1w0, y1wp1, y1wp2])
            have F2 := C2
            simp only [Cls, and_true] at F2
            have y2w1 : w.heap.size + 1 < w2.heap.size := C2.blk (b := w.heap.size + 1) (k := 0) (v := .slice Y m cY) (by simp)
            have y2w0 : w.heap.size < w2.heap.size := (by omega)
            have y2wp1 : w.heap.size < w2.heap.size + 1 := (by omega)
            have y2wp2 : w.heap.size < w2.heap.size + 1 + 1 := (by omega)
            have hSS : w2.cell? ⟨w.heap.size, 0, none⟩ = some (.slice AR m cr) ∧ w2.cell? ⟨w.heap.size, 1, none⟩ = some (.slice AB m cb) ∧ w2.cell? ⟨w.heap.size, 2, none⟩ = some (.slice AO n co) ∧ w2.cell? ⟨w.heap.size + 1, 0, none⟩ = some (.slice Y m cY) := (by simp [F2])
            go_wp2_with fail
            refine hK.out _ _ hSS (fun hHeld => ?_)
            clear hK K
            try simp only [Act.put, List.getElem_toArray, List.getElem_cons_succ, List.getElem_cons_zero, List.setIfInBounds_toArray, List.set_cons_zero, List.set_cons_succ]
            refine wpAnyH_take (i := 6) (v := ?vo8l36) rfl (by kernel_rfl) (by kernel_rfl) (by kernel_rfl) (fun _ _ _ h => h) (Or.inl ⟨by rfl, ?ho8l36⟩) (by assumption) ?ro8l36
            case ho8l36 => (intro w hSw; (try dsimp only at hSw); go_simp; (try with_reducible rfl))
            try simp only [Act.put, List.getElem_toArray, List.getElem_cons_succ, List.getElem_cons_zero, List.setIfInBounds_toArray, List.set_cons_zero, List.set_cons_succ]
            refine wpAnyH_done (by kernel_rfl) ?_ _
            go_wp2
            go_roundw
            case rel => exact ⟨j + 1, by omega, by go_num, Lib.hid (fun k hk => by
              by_cases e1 : k = j
              · subst e1; rw [hs.out]; exact HG.out
              · exact HA.out k (by omega)), by repeat (first | with_reducible exact D2 | with_reducible apply bdrew | with_reducible apply bdrewN | with_reducible apply balloc | ((with_reducible refine bset ?_ ?_ _); rotate_left; (first | omega | (simp <;> omega)))), by simp [Cls, go_sem, F2, y2w1, y2w0, y2wp1, y2wp2]⟩
            case measure => simp [intOf]; omega
    · obtain rfl : n = j := by omega
      go_wp2_with fail
      refine (snn_any _ Y cY y m HYL (by omega) (HIY.out.below (by repeat (first | with_reducible exact hBr | with_reducible apply bdrew | with_reducible apply bdrewN | with_reducible apply balloc | ((with_reducible refine bset ?_ ?_ _); rotate_left; (first | omega | (simp <;> omega))))))).mono ?_
      rintro e w2 ⟨ok, rfl, HNG, hB2⟩
      have D2 := dstep w hB2 (by repeat (first | with_reducible exact hBr | with_reducible apply bdrew | with_reducible apply bdrewN | with_reducible apply balloc | ((with_reducible refine bset ?_ ?_ _); rotate_left; (first | omega | (simp <;> omega)))))
      have C2 := Cls.below (l := [(w.heap.size, 0, .slice AR m cr), (w.heap.size, 1, .slice AB m cb), (w.heap.size, 2, .slice AO n co), (w.heap.size + 1, 0, .slice Y m cY), (w.heap.size + 1, 1, .int .i64 e)]) hB2 (by simp [Cls, go_sem, Fr, yrw1, yrw0, yrwp1, yrwp2])
      have F2 := C2
      simp only [Cls, and_true] at F2
      have y2w1 : w.heap.size + 1 < w2.heap.size := C2.blk (b := w.heap.size + 1) (k := 0) (v := .slice Y m cY) (by simp)
      have y2w0 : w.heap.size < w2.heap.size := (by omega)
      have y2wp1 : w.heap.size < w2.heap.size + 1 := (by omega)
      have y2wp2 : w.heap.size < w2.heap.size + 1 + 1 := (by omega)
      obtain ⟨s, hs⟩ : ∃ s, Hid (dotL m p.bounds y = s) := ⟨_, Lib.hid rfl⟩
      have HP : Hid (∀ W : World, Below w.heap.size w W → Calls Try.prog 28 #[.slice AB m cb, .slice Y m cY] W fun e w' => e = .returned (.int .i64 s) ∧ Below W.heap.size W w') := Lib.hid (fun W hB => by
        have h := sprod_any W AB Y cb cY p.bounds y m hbl HYL hm6 (HM.out.bounds.below hB) (HIY.out.below hB) HOK.out.b100 HVY.out.le
        rw [hs.out] at h; exact h)
      have HRI : Hid (LA.IsRef p.lp (atL y) ↔ (¬ ∃ a ∈ y, a < 0) ∧ s < 0) := Lib.hid (by
        rw [← hs.out, ← bnd_dot hrl.out, nn_iff HYL.out]
        unfold LA.IsRef LA.valD
        rw [HLM.out, HLN.out]
        exact ⟨fun h => h.2, fun h => ⟨fun k hk => HA.out k hk, h.1, h.2⟩⟩)
      cases ok with
      | false =>
        have HT := Lib.hid (fun h => Bool.false_ne_true (HNG.out.2 h))
        clear HNG
        go_wp2
        refine bodyPost_ret (v := .bool false) ?_ rfl ⟨false, rfl, Lib.hid (iff_of_false (by simp) fun h => HT.out (HRI.out.1 h).1), by repeat (first | with_reducible exact D2 | with_reducible apply bdrew | with_reducible apply bdrewN | with_reducible apply balloc | ((with_reducible refine bset ?_ ?_ _); rotate_left; (first | omega | (simp <;> omega))))⟩
        simp [results, Try.results19, go_sem, F2, y2w1, y2w0, y2wp1, y2wp2]
      | true =>
        have HT := Lib.hid (HNG.out.1 rfl)
        clear HNG
        go_wp2_with fail
        refine (HP.out _ (by repeat (first | with_reducible exact D2 | with_reducible apply bdrew | with_reducible apply bdrewN | with_reducible apply balloc | ((with_reducible refine bset ?_ ?_ _); rotate_left; (first | omega | (simp <;> omega)))))).mono ?_
        rintro e w3 ⟨rfl, hB3⟩
        have D3 := dstep w hB3 (by repeat (first | with_reducible exact D2 | with_reducible apply bdrew | with_reducible apply bdrewN | with_reducible apply balloc | ((with_reducible refine bset ?_ ?_ _); rotate_left; (first | omega | (simp <;> omega)))))
        have C3 := Cls.below (l := [(w.heap.size, 0, .slice AR m cr), (w.heap.size, 1, .slice AB m cb), (w.heap.size, 2, .slice AO n co), (w.heap.size + 1, 0, .slice Y m cY), (w.heap.size + 1, 1, .int .i64 e)]) hB3 (by simp [Cls, go_sem, F2, y2w1, y2w0, y2wp1, y2wp2])
        have F3 := C3
        simp only [Cls, and_true] at F3
        have y3w1 : w.heap.size + 1 < w3.heap.size := C3.blk (b := w.heap.size + 1) (k := 0) (v := .slice Y m cY) (by simp)
        have y3w0 : w.heap.size < w3.heap.size := (by omega)
        have y3wp1 : w.heap.size < w3.heap.size + 1 := (by omega)
        have y3wp2 : w.heap.size < w3.heap.size + 1 + 1 := (by omega)
        go_wp2
        refine bodyPost_ret (v := .bool (decide (s < 0))) ?_ rfl ⟨(decide (s < 0)), rfl, Lib.hid (by
          rw [HRI.out]
          constructor
          · intro h; exact ⟨HT.out, of_decide_eq_true h⟩
          · intro h; exact decide_eq_true h.2), by repeat (first | with_reducible exact D3 | with_reducible apply bdrew | with_reducible apply bdrewN | with_reducible apply balloc | ((with_reducible refine bset ?_ ?_ _); rotate_left; (first | omega | (simp <;> omega))))⟩
        simp [results, Try.results19, go_sem, F3, y3w1, y3w0, y3wp1, y3wp2]

set_option maxRecDepth 100000 in
set_option maxHeartbeats 2000000 in
theorem smeet_any (w : World) (AR AB AO : Option Addr) (cr cb co : Nat) (p : LpV) (hM : LpMem w AR AB AO p) (hok : LpOk p) (m n : Nat) (hrl : Hid (p.rows.length = m)) (hbl : Hid (p.bounds.length = m)) (hol : Hid (p.obj.length = n)) (hm6 : m ≤ 6) (hn6 : n ≤ 6) (X : Option Addr) (cX : Nat) (x : List Int) (d : Int) (hvx : VOk n x d) (hIx : Ints w X x) (Y : Option Addr) (cY : Nat) (y : List Int) (e : Int) (hvy : VOk m y e) (hIy : Ints w Y y) :
    Calls Try.prog 24 #[.agg #[.slice AR m cr, .slice AB m cb, .slice AO n co], .agg #[.slice X n cX, .int .i64 d], .agg #[.slice Y m cY, .int .i64 e]] w fun r w' => Says (LA.valP p.lp (atL x) * e = LA.valD p.lp (atL y) * d) w w' r := by
  have HXL : Hid (x.length = n) := Lib.hid hvx.len
  have HYL : Hid (y.length = m) := Lib.hid hvy.len
  have hd0 := hvx.pos
  have hd1 := hvx.dle
  have he0 := hvy.pos
  have he1 := hvy.dle
  have HM := Lib.hid hM
  have HOK := Lib.hid hok
  have HVX := Lib.hid hvx
  have HVY := Lib.hid hvy
  have HIX := Lib.hid hIx
  have HIY := Lib.hid hIy
  obtain ⟨s1, hs1⟩ : ∃ s, Hid (dotL n p.obj x = s) := ⟨_, Lib.hid rfl⟩
  obtain ⟨s2, hs2⟩ : ∃ s, Hid (dotL m p.bounds y = s) := ⟨_, Lib.hid rfl⟩
  have HP1 : Hid (∀ W : World, Below w.heap.size w W → Calls Try.prog 28 #[.slice AO n co, .slice X n cX] W fun e w' => e = .returned (.int .i64 s1) ∧ Below W.heap.size W w') := Lib.hid (fun W hB => by
    have h := sprod_any W AO X co cX p.obj x n hol HXL hn6 (HM.out.obj.below hB) (HIX.out.below hB) HOK.out.c100 HVX.out.le
    rw [hs1.out] at h; exact h)
  have HP2 : Hid (∀ W : World, Below w.heap.size w W → Calls Try.prog 28 #[.slice AB m cb, .slice Y m cY] W fun e w' => e = .returned (.int .i64 s2) ∧ Below W.heap.size W w') := Lib.hid (fun W hB => by
    have h := sprod_any W AB Y cb cY p.bounds y m hbl HYL hm6 (HM.out.bounds.below hB) (HIY.out.below hB) HOK.out.b100 HVY.out.le
    rw [hs2.out] at h; exact h)
  have hl1 := dotL_le HOK.out.c100 HVX.out.le n
  have hl2 := dotL_le HOK.out.b100 HVY.out.le m
  rw [hs1.out] at hl1
  rw [hs2.out] at hl2
  have hm1 := mul_le (X := 60000000000) (Y := 100000000) (show -60000000000 ≤ s1 ∧ s1 ≤ 60000000000 by omega) (show -100000000 ≤ e ∧ e ≤ 100000000 by omega)
  have hm2 := mul_le (X := 60000000000) (Y := 100000000) (show -60000000000 ≤ s2 ∧ s2 ≤ 60000000000 by omega) (show -100000000 ≤ d ∧ d ≤ 100000000 by omega)
  obtain ⟨u1, hu1⟩ : ∃ u, Hid (s1 * e = u) := ⟨_, Lib.hid rfl⟩
  obtain ⟨u2, hu2⟩ : ∃ u, Hid (s2 * d = u) := ⟨_, Lib.hid rfl⟩
  have hwu1 : IntKind.i64.wrap (s1 * e) = u1 := by rw [hu1.out] at hm1 ⊢; exact Go.IntWalk.i64_in _ (by omega)
  have hwu2 : IntKind.i64.wrap (s2 * d) = u2 := by rw [hu2.out] at hm2 ⊢; exact Go.IntWalk.i64_in _ (by omega)
  have HC : Hid ((u1 == u2) = true ↔ LA.valP p.lp (atL x) * e = LA.valD p.lp (atL y) * d) := Lib.hid (by
    rw [obj_dot hol.out, bnd_dot hrl.out, hs1.out, hs2.out, hu1.out, hu2.out]
    exact beq_iff_eq)
  clear hl1 hl2 hm1 hm2 hM hok hvx hvy hIx hIy
  go_enter Try.func24, Try.ntmps24
  go_wp2_with fail
  refine wp_region_held_drew (S := fun W => W.cell? ⟨w.heap.size, 1, none⟩ = some (.slice AB m cb) ∧ W.cell? ⟨w.heap.size, 2, none⟩ = some (.slice AO n co) ∧ W.cell? ⟨w.heap.size + 1, 0, none⟩ = some (.slice X n cX) ∧ W.cell? ⟨w.heap.size + 1, 1, none⟩ = some (.int .i64 d) ∧ W.cell? ⟨w.heap.size + 1 + 1, 0, none⟩ = some (.slice Y m cY) ∧ W.cell? ⟨w.heap.size + 1 + 1, 1, none⟩ = some (.int .i64 e)) (by kernel_rfl) (by simp [go_sem]) (fun hHeld => ?_)
  refine wpAnyH_take (i := 0) (v := ?vo90) rfl (by kernel_rfl) (by kernel_rfl) (by kernel_rfl) (fun _ _ _ h => h) (Or.inl ⟨by rfl, ?ho90⟩) (by assumption) ?ro90
  case ho90 => (intro w hSw; (try dsimp only at hSw); go_simp; (try with_reducible rfl))
  try simp only [Act.put, List.getElem_toArray, List.getElem_cons_succ, List.getElem_cons_zero, List.setIfInBounds_toArray, List.set_cons_zero, List.set_cons_succ]
  refine wpAnyH_take (i := 1) (v := ?vo91) rfl (by kernel_rfl) (by kernel_rfl) (by kernel_rfl) (fun _ _ _ h => h) (Or.inl ⟨by rfl, ?ho91⟩) (by assumption) ?ro91
  case ho91 => (intro w hSw; (try dsimp only at hSw); go_simp; (try with_reducible rfl))
  try simp only [Act.put, List.getElem_toArray, List.getElem_cons_succ, List.getElem_cons_zero, List.setIfInBounds_toArray, List.set_cons_zero, List.set_cons_succ]
  refine wpAnyH_take (i := 2) (v := ?vo92) rfl (by kernel_rfl) (by kernel_rfl) (by kernel_rfl) (fun _ _ _ h => h) (Or.inl ⟨by rfl, ?ho92⟩) (by assumption) ?ro92
  case ho92 => (intro w hSw; (try dsimp only at hSw); go_simp; (try with_reducible rfl))
  try simp only [Act.put, List.getElem_toArray, List.getElem_cons_succ, List.getElem_cons_zero, List.setIfInBounds_toArray, List.set_cons_zero, List.set_cons_succ]
  refine wpAnyH_take (i := 3) (v := ?vo93) rfl (by kernel_rfl) (by kernel_rfl) (by kernel_rfl) (fun _ _ _ h => h) (Or.inl ⟨by rfl, ?ho93⟩) (by assumption) ?ro93
  case ho93 => (intro w hSw; (try dsimp only at hSw); go_simp; (try with_reducible rfl))
  try simp only [Act.put, List.getElem_toArray, List.getElem_cons_succ, List.getElem_cons_zero, List.setIfInBounds_toArray, List.set_cons_zero, List.set_cons_succ]
  refine wpAnyH_take (i := 5) (v := ?vo95) rfl (by kernel_rfl) (by kernel_rfl) (by kernel_rfl) (fun _ _ _ h => h) (Or.inl ⟨by rfl, ?ho95⟩) (by assumption) ?ro95
  case ho95 => (intro w hSw; (try dsimp only at hSw); go_simp; (try with_reducible rfl))
  try simp only [Act.put, List.getElem_toArray, List.getElem_cons_succ, List.getElem_cons_zero, List.setIfInBounds_toArray, List.set_cons_zero, List.set_cons_succ]
  refine wpAnyH_take (i := 6) (v := ?vo96) rfl (by kernel_rfl) (by kernel_rfl) (by kernel_rfl) (fun _ _ _ h => h) (Or.inl ⟨by rfl, ?ho96⟩) (by assumption) ?ro96
  case ho96 => (intro w hSw; (try dsimp only at hSw); go_simp; (try with_reducible rfl))
  try simp only [Act.put, List.getElem_toArray, List.getElem_cons_succ, List.getElem_cons_zero, List.setIfInBounds_toArray, List.set_cons_zero, List.set_cons_succ]
  refine wpAnyH_take (i := 8) (v := ?vo98) rfl (by kernel_rfl) (by kernel_rfl) (by kernel_rfl) (fun _ _ _ h => h) (Or.inl ⟨by rfl, ?ho98⟩) (by assumption) ?ro98
  case ho98 => (intro w hSw; (try dsimp only at hSw); go_simp; (try with_reducible rfl))
  try simp only [Act.put, List.getElem_toArray, List.getElem_cons_succ, List.getElem_cons_zero, List.setIfInBounds_toArray, List.set_cons_zero, List.set_cons_succ]
  refine wpAnyH_take (i := 9) (v := ?vo99) rfl (by kernel_rfl) (by kernel_rfl) (by kernel_rfl) (fun _ _ _ h => h) (Or.inl ⟨by rfl, ?ho99⟩) (by assumption) ?ro99
  case ho99 => (intro w hSw; (try dsimp only at hSw); go_simp; (try with_reducible rfl))
  try simp only [Act.put, List.getElem_toArray, List.getElem_cons_succ, List.getElem_cons_zero, List.setIfInBounds_toArray, List.set_cons_zero, List.set_cons_succ]
  refine wpAnyH_take (i := 10) (v := ?vo910) rfl (by kernel_rfl) (by kernel_rfl) (by kernel_rfl) (fun _ _ _ h => h) (Or.inl ⟨by rfl, ?ho910⟩) (by assumption) ?ro910
  case ho910 => (intro w hSw; (try dsimp only at hSw); go_simp; (try with_reducible rfl))
  try simp only [Act.put, List.getElem_toArray, List.getElem_cons_succ, List.getElem_cons_zero, List.setIfInBounds_toArray, List.set_cons_zero, List.set_cons_succ]
  refine wpAnyH_take (i := 11) (v := ?vo911) rfl (by kernel_rfl) (by kernel_rfl) (by kernel_rfl) (fun _ _ _ h => h) (Or.inl ⟨by rfl, ?ho911⟩) (by assumption) ?ro911
  case ho911 => (intro w hSw; (try dsimp only at hSw); go_simp; (try with_reducible rfl))
  try simp only [Act.put, List.getElem_toArray, List.getElem_cons_succ, List.getElem_cons_zero, List.setIfInBounds_toArray, List.set_cons_zero, List.set_cons_succ]
  refine wpAnyH_take (i := 13) (v := ?vo913) rfl (by kernel_rfl) (by kernel_rfl) (by kernel_rfl) (fun _ _ _ h => h) (Or.inl ⟨by rfl, ?ho913⟩) (by assumption) ?ro913
  case ho913 => (intro w hSw; (try dsimp only at hSw); go_simp; (try with_reducible rfl))
  try simp only [Act.put, List.getElem_toArray, List.getElem_cons_succ, List.getElem_cons_zero, List.setIfInBounds_toArray, List.set_cons_zero, List.set_cons_succ]
  refine wpAnyH_take (i := 14) (v := ?vo914) rfl (by kernel_rfl) (by kernel_rfl) (by kernel_rfl) (fun _ _ _ h => h) (Or.inl ⟨by rfl, ?ho914⟩) (by assumption) ?ro914
  case ho914 => (intro w hSw; (try dsimp only at hSw); go_simp; (try with_reducible rfl))
  try simp only [Act.put, List.getElem_toArray, List.getElem_cons_succ, List.getElem_cons_zero, List.setIfInBounds_toArray, List.set_cons_zero, List.set_cons_succ]
  refine wpAnyH_ready (rs := [4]) (by kernel_rfl) (by simp) ?_
  refine (AllReadyH.cons rfl (fun K hK => ?bo91x4) AllReadyH.nil)
  case bo91x4 =>
    go_simp
    go_at_call 28
    refine (HP1.out _ (by repeat (first | with_reducible exact Below.refl _ _ | with_reducible apply bdrew | with_reducible apply bdrewN | with_reducible apply balloc | ((with_reducible refine bset ?_ ?_ _); rotate_left; (first | omega | (simp <;> omega)))))).mono ?_
    rintro e w1 ⟨rfl, hB1⟩
    have D1 := dstep w hB1 (by repeat (first | with_reducible exact Below.refl _ _ | with_reducible apply bdrew | with_reducible apply bdrewN | with_reducible apply balloc | ((with_reducible refine bset ?_ ?_ _); rotate_left; (first | omega | (simp <;> omega)))))
    have C1 := Cls.below (l := [(w.heap.size, 0, .slice AR m cr), (w.heap.size, 1, .slice AB m cb), (w.heap.size, 2, .slice AO n co), (w.heap.size + 1, 0, .slice X n cX), (w.heap.size + 1, 1, .int .i64 d), (w.heap.size + 1 + 1, 0, .slice Y m cY), (w.heap.size + 1 + 1, 1, .int .i64 e)]) hB1 (by simp [Cls, go_sem])
    have F1 := C1
    simp only [Cls, and_true] at F1
    have y1w2 : w.heap.size + 1 + 1 < w1.heap.size := C1.blk (b := w.heap.size + 1 + 1) (k := 0) (v := .slice Y m cY) (by simp)
    have y1w1 : w.heap.size + 1 < w1.heap.size := (by omega)
    have y1w0 : w.heap.size < w1.heap.size := (by omega)
    have y1wp1 : w.heap.size < w1.heap.size + 1 := (by omega)
    have y1wp2 : w.heap.size < w1.heap.size + 1 + 1 := (by omega)
    have hSS : w1.cell? ⟨w.heap.size, 1, none⟩ = some (.slice AB m cb) ∧ w1.cell? ⟨w.heap.size, 2, none⟩ = some (.slice AO n co) ∧ w1.cell? ⟨w.heap.size + 1, 0, none⟩ = some (.slice X n cX) ∧ w1.cell? ⟨w.heap.size + 1, 1, none⟩ = some (.int .i64 d) ∧ w1.cell? ⟨w.heap.size + 1 + 1, 0, none⟩ = some (.slice Y m cY) ∧ w1.cell? ⟨w.heap.size + 1 + 1, 1, none⟩ = some (.int .i64 e) := (by simp [F1])
    go_wp2_with fail
    refine hK.out _ _ hSS (fun hHeld => ?_)
    clear hK K
    try simp only [Act.put, List.getElem_toArray, List.getElem_cons_succ, List.getElem_cons_zero, List.setIfInBounds_toArray, List.set_cons_zero, List.set_cons_succ]
    refine wpAnyH_take (i := 7) (v := ?vo9e27) rfl (by kernel_rfl) (by kernel_rfl) (by kernel_rfl) (fun _ _ _ h => h) (Or.inl ⟨by rfl, ?ho9e27⟩) (by assumption) ?ro9e27
    case ho9e27 => (intro w hSw; (try dsimp only at hSw); go_simp; (try with_reducible rfl))
    try simp only [Act.put, List.getElem_toArray, List.getElem_cons_succ, List.getElem_cons_zero, List.setIfInBounds_toArray, List.set_cons_zero, List.set_cons_succ]
    refine wpAnyH_ready (rs := [12]) (by kernel_rfl) (by simp) ?_
    refine (AllReadyH.cons rfl (fun K hK => ?bo93x12) AllReadyH.nil)
    case bo93x12 =>
      go_simp
      go_at_call 28
      refine (HP2.out _ (by repeat (first | with_reducible exact D1 | with_reducible apply bdrew | with_reducible apply bdrewN | with_reducible apply balloc | ((with_reducible refine bset ?_ ?_ _); rotate_left; (first | omega | (simp <;> omega)))))).mono ?_
      rintro e w2 ⟨rfl, hB2⟩
      have D2 := dstep w hB2 (by repeat (first | with_reducible exact D1 | with_reducible apply bdrew | with_reducible apply bdrewN | with_reducible apply balloc | ((with_reducible refine bset ?_ ?_ _); rotate_left; (first | omega | (simp <;> omega)))))
      have C2 := Cls.below (l := [(w.heap.size, 0, .slice AR m cr), (w.heap.size, 1, .slice AB m cb), (w.heap.size, 2, .slice AO n co), (w.heap.size + 1, 0, .slice X n cX), (w.heap.size + 1, 1, .int .i64 d), (w.heap.size + 1 + 1, 0, .slice Y m cY), (w.heap.size + 1 + 1, 1, .int .i64 e)]) hB2 (by simp [Cls, go_sem, F1, y1w2, y1w1, y1w0, y1wp1, y1wp2])
      have F2 := C2
      simp only [Cls, and_true] at F2
      have y2w2 : w.heap.size + 1 + 1 < w2.heap.size := C2.blk (b := w.heap.size + 1 + 1) (k := 0) (v := .slice Y m cY) (by simp)
      have y2w1 : w.heap.size + 1 < w2.heap.size := (by omega)
      have y2w0 : w.heap.size < w2.heap.size := (by omega)
      have y2wp1 : w.heap.size < w2.heap.size + 1 := (by omega)
      have y2wp2 : w.heap.size < w2.heap.size + 1 + 1 := (by omega)
      have hSS : w2.cell? ⟨w.heap.size, 1, none⟩ = some (.slice AB m cb) ∧ w2.cell? ⟨w.heap.size, 2, none⟩ = some (.slice AO n co) ∧ w2.cell? ⟨w.heap.size + 1, 0, none⟩ = some (.slice X n cX) ∧ w2.cell? ⟨w.heap.size + 1, 1, none⟩ = some (.int .i64 d) ∧ w2.cell? ⟨w.heap.size + 1 + 1, 0, none⟩ = some (.slice Y m cY) ∧ w2.cell? ⟨w.heap.size + 1 + 1, 1, none⟩ = some (.int .i64 e) := (by simp [F2])
      go_wp2_with fail
      refine hK.out _ _ hSS (fun hHeld => ?_)
      clear hK K
      try simp only [Act.put, List.getElem_toArray, List.getElem_cons_succ, List.getElem_cons_zero, List.setIfInBounds_toArray, List.set_cons_zero, List.set_cons_succ]
      refine wpAnyH_take (i := 15) (v := ?vo9e415) rfl (by kernel_rfl) (by kernel_rfl) (by kernel_rfl) (fun _ _ _ h => h) (Or.inl ⟨by rfl, ?ho9e415⟩) (by assumption) ?ro9e415
      case ho9e415 => (intro w hSw; (try dsimp only at hSw); go_simp; (try with_reducible rfl))
      try simp only [Act.put, List.getElem_toArray, List.getElem_cons_succ, List.getElem_cons_zero, List.setIfInBounds_toArray, List.set_cons_zero, List.set_cons_succ]
      refine wpAnyH_take (i := 16) (v := ?vo9l516) rfl (by kernel_rfl) (by kernel_rfl) (by kernel_rfl) (fun _ _ _ h => h) (Or.inl ⟨by rfl, ?ho9l516⟩) (by assumption) ?ro9l516
      case ho9l516 => (intro w hSw; (try dsimp only at hSw); go_simp; (try with_reducible rfl))
      try simp only [Act.put, List.getElem_toArray, List.getElem_cons_succ, List.getElem_cons_zero, List.setIfInBounds_toArray, List.set_cons_zero, List.set_cons_succ]
      refine wpAnyH_take (i := 17) (v := ?vo9l617) rfl (by kernel_rfl) (by kernel_rfl) (by kernel_rfl) (fun _ _ _ h => h) (Or.inl ⟨by rfl, ?ho9l617⟩) (by assumption) ?ro9l617
      case ho9l617 => (intro w hSw; (try dsimp only at hSw); go_simp; (try with_reducible rfl))
      try simp only [Act.put, List.getElem_toArray, List.getElem_cons_succ, List.getElem_cons_zero, List.setIfInBounds_toArray, List.set_cons_zero, List.set_cons_succ]
      refine wpAnyH_done (by kernel_rfl) ?_ _
      go_wp2
      refine bodyPost_ret (v := .bool (u1 == u2)) ?_ rfl ⟨(u1 == u2), rfl, Lib.hid (HC.out), by repeat (first | with_reducible exact D2 | with_reducible apply bdrew | with_reducible apply bdrewN | with_reducible apply balloc | ((with_reducible refine bset ?_ ?_ _); rotate_left; (first | omega | (simp <;> omega))))⟩
      simp [results, Try.results24, go_sem, F2, y2w2, y2w1, y2w0, y2wp1, y2wp2]


end Go.Proofs.Ytkepfmglljkjhaa
