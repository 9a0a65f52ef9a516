/-
  linear.Validate: the fault of a linear program.
-/
import Derived.Test.YtkepfmglljkjhaaNll
import Derived.Test.YtkepfmglljkjhaaLa9
namespace Go.Proofs.Ytkepfmglljkjhaa
open Go.RowKit
set_option linter.unusedVariables false
set_option linter.unusedSimpArgs false

/-- A linear program. -/
structure LpV where
  rows : List (List Int)
  bounds : List Int
  obj : List Int
def LpV.lp (p : LpV) : LA.LP := ⟨p.rows.length, p.obj.length, fun i j => (((p.rows[i]?).getD [])[j]?).getD 0, fun i => (p.bounds[i]?).getD 0, fun j => (p.obj[j]?).getD 0⟩
def rowF (row : List Int) (b : Int) (n : Nat) : Int := if row.length ≠ n then 9 else if ¬ (-20 ≤ b ∧ b ≤ 20) then 3 else if ∀ a ∈ row, -4 ≤ a ∧ a ≤ 4 then 0 else 3
def LpV.rowC (p : LpV) (i : Nat) : Int := rowF ((p.rows[i]?).getD []) ((p.bounds[i]?).getD 0) p.obj.length
def lpF (p : LpV) : Int × Int :=
  if 6 < p.rows.length ∨ 6 < p.obj.length then (2, -1)
  else if p.bounds.length ≠ p.rows.length then (9, -2)
  else if ¬ ∀ c ∈ p.obj, -20 ≤ c ∧ c ≤ 20 then (3, -3)
  else match (List.range p.rows.length).find? fun i => decide (p.rowC i ≠ 0) with
    | none => (0, 0)
    | some i => (p.rowC i, (i : Int))
structure LpOk (p : LpV) : Prop where
  m : p.rows.length ≤ 6
  n : p.obj.length ≤ 6
  b : p.bounds.length = p.rows.length
  c : ∀ c ∈ p.obj, -20 ≤ c ∧ c ≤ 20
  r : ∀ i, i < p.rows.length → p.rowC i = 0
theorem lpF_1 {p : LpV} (h : 6 < p.rows.length ∨ 6 < p.obj.length) : lpF p = (2, -1) := by unfold lpF; rw [if_pos h]
theorem lpF_2 {p : LpV} (h : ¬ (6 < p.rows.length ∨ 6 < p.obj.length)) (h2 : p.bounds.length ≠ p.rows.length) : lpF p = (9, -2) := by unfold lpF; rw [if_neg h, if_pos h2]
theorem lpF_3 {p : LpV} (h : ¬ (6 < p.rows.length ∨ 6 < p.obj.length)) (h2 : p.bounds.length = p.rows.length) (h3 : ¬ ∀ c ∈ p.obj, -20 ≤ c ∧ c ≤ 20) : lpF p = (3, -3) := by
  unfold lpF; rw [if_neg h, if_neg (fun e => e h2), if_pos h3]
theorem find_first {n i : Nat} {f : Nat → Bool} (hi : i < n) (h1 : f i = true) (h0 : ∀ k, k < i → f k = false) : (List.range n).find? f = some i := by
  rw [List.find?_range_eq_some]
  exact ⟨h1, List.mem_range.2 hi, fun k hk => by rw [h0 k hk]; rfl⟩
theorem lpF_4 {p : LpV} (h : ¬ (6 < p.rows.length ∨ 6 < p.obj.length)) (h2 : p.bounds.length = p.rows.length) (h3 : ∀ c ∈ p.obj, -20 ≤ c ∧ c ≤ 20) {i : Nat} {c : Int} (hi : i < p.rows.length) (hc : p.rowC i = c) (hc0 : ¬ c = 0) (h0 : ∀ k, k < i → p.rowC k = 0) : lpF p = (c, (i : Int)) := by
  unfold lpF; rw [if_neg h, if_neg (fun e => e h2), if_neg (fun e => e h3), find_first hi (by rw [hc]; exact decide_eq_true hc0) fun k hk => by rw [h0 k hk]; rfl]
  simp only [hc]
theorem lpF_ok {p : LpV} (h : LpOk p) : lpF p = (0, 0) := by
  unfold lpF; rw [if_neg (by have := h.m; have := h.n; omega), if_neg (fun e => e h.b), if_neg (fun e => e h.c)]
  have e : (List.range p.rows.length).find? (fun i => decide (p.rowC i ≠ 0)) = none := by
    rw [List.find?_eq_none]
    intro k hk
    rw [h.r k (List.mem_range.1 hk)]
    simp
  rw [e]
theorem lpF_zero {p : LpV} (h : (lpF p).1 = 0) : LpOk p := by
  unfold lpF at h
  by_cases h1 : 6 < p.rows.length ∨ 6 < p.obj.length
  · rw [if_pos h1] at h; simp at h
  rw [if_neg h1] at h
  by_cases h2 : p.bounds.length ≠ p.rows.length
  · rw [if_pos h2] at h; simp at h
  rw [if_neg h2] at h
  by_cases h3 : ¬ ∀ c ∈ p.obj, -20 ≤ c ∧ c ≤ 20
  · rw [if_pos h3] at h; simp at h
  rw [if_neg h3] at h
  refine ⟨by omega, by omega, Classical.byContradiction h2, Classical.byContradiction h3, fun i hi => ?_⟩
  cases e : (List.range p.rows.length).find? (fun i => decide (p.rowC i ≠ 0)) with
  | none =>
    rw [List.find?_eq_none] at e
    have := e i (List.mem_range.2 hi)
    simpa using this
  | some k =>
    rw [e] at h
    have h4 := List.find?_some e
    have h5 : p.rowC k ≠ 0 := of_decide_eq_true h4
    exact absurd h h5
theorem rowF_zero {row : List Int} {b : Int} {n : Nat} (h : rowF row b n = 0) : row.length = n ∧ (-20 ≤ b ∧ b ≤ 20) ∧ ∀ a ∈ row, -4 ≤ a ∧ a ≤ 4 := by
  unfold rowF at h
  by_cases h1 : row.length ≠ n
  · rw [if_pos h1] at h; omega
  rw [if_neg h1] at h
  by_cases h2 : ¬ (-20 ≤ b ∧ b ≤ 20)
  · rw [if_pos h2] at h; omega
  rw [if_neg h2] at h
  by_cases h3 : ∀ a ∈ row, -4 ≤ a ∧ a ≤ 4
  · exact ⟨by omega, by omega, h3⟩
  · rw [if_neg h3] at h; omega
theorem LpOk.row {p : LpV} (h : LpOk p) {i : Nat} {row : List Int} (hr : p.rows[i]? = some row) : row.length = p.obj.length ∧ ∀ a ∈ row, -4 ≤ a ∧ a ≤ 4 := by
  have h1 := h.r i (List.getElem?_eq_some_iff.1 hr).1
  unfold LpV.rowC at h1
  rw [hr] at h1
  have h2 := rowF_zero h1
  exact ⟨h2.1, h2.2.2⟩
theorem LpOk.bound {p : LpV} (h : LpOk p) {i : Nat} {b : Int} (hb : p.bounds[i]? = some b) : -20 ≤ b ∧ b ≤ 20 := by
  have hi := (List.getElem?_eq_some_iff.1 hb).1
  have h1 := h.r i (by rw [← h.b]; exact hi)
  unfold LpV.rowC at h1
  rw [hb] at h1
  exact (rowF_zero h1).2.1
theorem LpOk.lpin {p : LpV} (h : LpOk p) : LA.LPIn p.lp := by
  refine ⟨h.m, h.n, fun i hi j hj => ?_, fun i hi => ?_, fun j hj => ?_⟩
  · have hi' : i < p.rows.length := hi
    have hj' : j < p.obj.length := hj
    show -4 ≤ (((p.rows[i]?).getD [])[j]?).getD 0 ∧ (((p.rows[i]?).getD [])[j]?).getD 0 ≤ 4
    rw [List.getElem?_eq_getElem hi', Option.getD_some]
    have hr := h.row (List.getElem?_eq_getElem hi')
    rw [List.getElem?_eq_getElem (by rw [hr.1]; exact hj'), Option.getD_some]
    exact hr.2 _ (List.getElem_mem _)
  · have hi' : i < p.bounds.length := by rw [h.b]; exact hi
    show -20 ≤ (p.bounds[i]?).getD 0 ∧ (p.bounds[i]?).getD 0 ≤ 20
    rw [List.getElem?_eq_getElem hi', Option.getD_some]
    exact h.bound (List.getElem?_eq_getElem hi')
  · have hj' : j < p.obj.length := hj
    show -20 ≤ (p.obj[j]?).getD 0 ∧ (p.obj[j]?).getD 0 ≤ 20
    rw [List.getElem?_eq_getElem hj', Option.getD_some]
    exact h.c _ (List.getElem_mem _)
/-- The memory of a linear program. -/
structure LpMem (w : World) (AR AB AO : Option Addr) (p : LpV) : Prop where
  rows : RowsRead w AR p.rows
  bounds : Ints w AB p.bounds
  obj : Ints w AO p.obj
  nr : p.rows.length ≤ 9223372036854775807
  nb : p.bounds.length ≤ 9223372036854775807
  no : p.obj.length ≤ 9223372036854775807
theorem LpMem.below {w w' : World} {AR AB AO : Option Addr} {p : LpV} (h : LpMem w AR AB AO p) (hb : Below w.heap.size w w') : LpMem w' AR AB AO p := ⟨h.rows.below hb, h.bounds.below hb, h.obj.below hb, h.nr, h.nb, h.no⟩
set_option maxRecDepth 100000 in
theorem lfault_any (c d : Int) (w : World) :
    Calls Try.prog 39 #[.int .i64 c, .int .i64 d] w fun e w' => e = .returned (.agg #[.int .i64 c, .int .i64 d]) ∧ Below w.heap.size w w' := by
  go_enter Try.func39, Try.ntmps39
  go_wp2
  refine bodyPost_ret (v := .agg #[.int .i64 c, .int .i64 d]) ?_ rfl ⟨rfl, (Below.refl _ _).alloc (Nat.le_refl _) _⟩
  simp [results, Try.results39, go_sem]
theorem lwithin_yes (x k : Int) (w : World) (h0 : 0 ≤ k) (h1 : k ≤ 1000000000) (h : -k ≤ x ∧ x ≤ k) :
    Calls Try.prog 40 #[.int .i64 x, .int .i64 k] w fun e w' => e = .returned (.bool true) ∧ w = w' := by
  obtain ⟨h2, h3⟩ := h
  go_enter Try.func40, Try.ntmps40
  go_wp2
  go_ret
  exact ⟨by (first | (simp; done) | (simp; omega)), rfl⟩
theorem lwithin_no (x k : Int) (w : World) (h0 : 0 ≤ k) (h1 : k ≤ 1000000000) (h : ¬ (-k ≤ x ∧ x ≤ k)) :
    Calls Try.prog 40 #[.int .i64 x, .int .i64 k] w fun e w' => e = .returned (.bool false) ∧ w = w' := by
  by_cases h2 : -k ≤ x
  · have h3 : ¬ x ≤ k := fun e => h ⟨h2, e⟩
    go_enter Try.func40, Try.ntmps40
    go_wp2
    go_ret
    exact ⟨by (first | (simp; done) | (simp; omega)), rfl⟩
  · go_enter Try.func40, Try.ntmps40
    go_wp2
    go_ret
    exact ⟨by (first | (simp; done) | (simp; omega)), rfl⟩
set_option maxRecDepth 100000 in
set_option maxHeartbeats 4000000 in
theorem lvalidate_core (w : World) (AR AB AO : Option Addr) (cr cb co : Nat) (p : LpV) (hM : LpMem w AR AB AO p) (m n : Nat) (hrl : Hid (p.rows.length = m)) (hbl : Hid (p.bounds.length = m)) (hol : Hid (p.obj.length = n)) (hm6 : m ≤ 6) (hn6 : n ≤ 6) :
    Calls Try.prog 15 #[.agg #[.slice AR m cr, .slice AB m cb, .slice AO n co]] w fun e w' => e = .returned (.agg #[.int .i64 (lpF p).1, .int .i64 (lpF p).2]) ∧ Below w.heap.size w w' := by
  have HRL := hrl
  have HOB := Lib.hid hM.obj
  have HBO := Lib.hid hM.bounds
  have HRO := Lib.hid hM.rows.llr
  have HNB := Lib.hid (show ¬ (6 < p.rows.length ∨ 6 < p.obj.length) by have := hrl.out; have := hol.out; omega)
  have HBE := Lib.hid (show p.bounds.length = p.rows.length by rw [hrl.out, hbl.out])
  have hd1 : decide ((m : Int) > 6) = false := decide_eq_false (by omega)
  have hd2 : decide ((n : Int) > 6) = false := decide_eq_false (by omega)
  clear hM
  go_enter Try.func15, Try.ntmps15
  go_wp2_with fail
  go_loopw [33] (fun x wr => ∃ k : Nat, k ≤ n ∧ x = .int .i64 k ∧ Hid (∀ c ∈ p.obj.take k, -20 ≤ c ∧ c ≤ 20) ∧ Below w.heap.size w wr ∧ Cls wr [(w.heap.size, 0, .slice AR m cr), (w.heap.size, 1, .slice AB m cb), (w.heap.size, 2, .slice AO n co), (w.heap.size + 1, 0, .int .i64 0), (w.heap.size + 1, 1, .int .i64 0)]) (fun x _ => n - (intOf x).toNat)
  case atStart => exact ⟨0, Nat.zero_le _, rfl, Lib.hid (by simp), (by repeat (first | with_reducible exact Below.refl _ _ | with_reducible apply bdrew | with_reducible apply bdrewN | with_reducible apply balloc | ((with_reducible refine bset ?_ ?_ _); rotate_left; (first | omega | (simp <;> omega))))), (by simp [Cls, go_sem])⟩
  case round =>
    obtain ⟨k, hk, rfl, HC, hBr, hCr⟩ := hrel
    obtain ⟨w1, rfl⟩ : ∃ wo : World, wo = wr := ⟨_, rfl⟩
    have drs := hBr.size
    have Fr := hCr
    simp only [Cls, and_true] at Fr
    have yrw1 : w.heap.size + 1 < w1.heap.size := hCr.blk (b := w.heap.size + 1) (k := 0) (v := .int .i64 0) (by simp)
    have yrw0 : w.heap.size < w1.heap.size := (by omega)
    have yrwp1 : w.heap.size < w1.heap.size + 1 := (by omega)
    have yrwp2 : w.heap.size < w1.heap.size + 1 + 1 := (by omega)
    by_cases hlt : k < n
    · obtain ⟨ad, x, rfl, hx, hxc⟩ := (HOB.out.below hBr).at_ (k := k) (by rw [hol.out]; exact hlt)
      by_cases hin : -20 ≤ x ∧ x ≤ 20
      · have HIN := Lib.hid hin
        clear hin
        go_wp2_with fail
        refine (lwithin_yes _ _ _ (by omega) (by omega) HIN.out).mono ?_
        rintro e w' ⟨rfl, rfl⟩
        go_wp2
        go_roundw
        case rel => exact ⟨k + 1, by omega, by go_num, Lib.hid (fun c hc => by
          rw [List.take_add_one, hx.out] at hc
          rcases List.mem_append.1 hc with h | h
          · exact HC.out c h
          · have : c = x := by simpa using h
            rw [this]; exact HIN.out), (by repeat (first | with_reducible exact hBr | with_reducible apply bdrew | with_reducible apply bdrewN | with_reducible apply balloc | ((with_reducible refine bset ?_ ?_ _); rotate_left; (first | omega | (simp <;> omega))))), (Cls.below (w := w1) (by repeat (first | with_reducible exact Below.refl _ _ | with_reducible apply bdrew | with_reducible apply bdrewN | with_reducible apply balloc | ((with_reducible refine bset ?_ ?_ _); rotate_left; (first | omega | (simp <;> omega))))) hCr)⟩
        case measure => simp [intOf]; omega
      · have HF := Lib.hid (lpF_3 HNB.out HBE.out (fun h => hin (h x (List.mem_of_getElem? hx.out))))
        have HIN := Lib.hid hin
        clear hin
        go_wp2_with fail
        refine (lwithin_no _ _ _ (by omega) (by omega) HIN.out).mono ?_
        rintro e w' ⟨rfl, rfl⟩
        go_wp2_with fail
        refine (lfault_any _ _ _).mono ?_
        rintro e w1 ⟨rfl, hB1⟩
        have D1 := dstep w hB1 (by repeat (first | with_reducible exact hBr | with_reducible apply bdrew | with_reducible apply bdrewN | with_reducible apply balloc | ((with_reducible refine bset ?_ ?_ _); rotate_left; (first | omega | (simp <;> omega)))))
        have d1s := D1.size
        have C1 := Cls.below (l := [(w.heap.size, 0, .slice AR m cr), (w.heap.size, 1, .slice AB m cb), (w.heap.size, 2, .slice (some ad) n co), (w.heap.size + 1, 0, .int .i64 0), (w.heap.size + 1, 1, .int .i64 0)]) hB1 (by simp [Cls, go_sem, Fr, yrw1, yrw0, yrwp1, yrwp2])
        have F1 := C1
        simp only [Cls, and_true] at F1
        have y1w1 : w.heap.size + 1 < w1.heap.size := C1.blk (b := w.heap.size + 1) (k := 0) (v := .int .i64 0) (by simp)
        have y1w0 : w.heap.size < w1.heap.size := (by omega)
        have y1wp1 : w.heap.size < w1.heap.size + 1 := (by omega)
        have y1wp2 : w.heap.size < w1.heap.size + 1 + 1 := (by omega)
        go_wp2
        refine bodyPost_ret (v := .agg #[.int .i64 3, .int .i64 (-3)]) ?_ rfl ⟨by rw [HF.out], by repeat (first | with_reducible exact D1 | with_reducible apply bdrew | with_reducible apply bdrewN | with_reducible apply balloc | ((with_reducible refine bset ?_ ?_ _); rotate_left; (first | omega | (simp <;> omega))))⟩
        simp [results, Try.results15, go_sem, F1, y1w1, y1w0, y1wp1, y1wp2]
    · obtain rfl : n = k := by omega
      have HCO := Lib.hid (show ∀ c ∈ p.obj, -20 ≤ c ∧ c ≤ 20 from fun c hc => HC.out c (by rw [List.take_of_length_le (by rw [hol.out]; exact Nat.le_refl _)]; exact hc))
      go_wp2_with fail
      go_loopw [45] (fun x wr => ∃ i : Nat, i ≤ m ∧ x = .int .i64 i ∧ Hid (∀ k, k < i → p.rowC k = 0) ∧ Below w1.heap.size w1 wr ∧ Cls wr [(w.heap.size, 0, .slice AR m cr), (w.heap.size, 1, .slice AB m cb), (w.heap.size, 2, .slice AO n co), (w.heap.size + 1, 0, .int .i64 0), (w.heap.size + 1, 1, .int .i64 0)]) (fun x _ => m - (intOf x).toNat)
      case atStart => exact ⟨0, Nat.zero_le _, rfl, Lib.hid (fun k hk => by omega), (by repeat (first | with_reducible exact Below.refl _ _ | with_reducible apply bdrew | with_reducible apply bdrewN | with_reducible apply balloc | ((with_reducible refine bset ?_ ?_ _); rotate_left; (first | omega | (simp <;> omega))))), (by simp [Cls, go_sem, Fr, yrw1, yrw0, yrwp1, yrwp2])⟩
      case round =>
        obtain ⟨i, hi, rfl, HR, hBs, hCs⟩ := hrel
        obtain ⟨w2, rfl⟩ : ∃ wo : World, wo = wr := ⟨_, rfl⟩
        have dss := hBs.size
        have Fs := hCs
        simp only [Cls, and_true] at Fs
        have ysw1 : w.heap.size + 1 < w2.heap.size := hCs.blk (b := w.heap.size + 1) (k := 0) (v := .int .i64 0) (by simp)
        have ysw0 : w.heap.size < w2.heap.size := (by omega)
        have yswp1 : w.heap.size < w2.heap.size + 1 := (by omega)
        have yswp2 : w.heap.size < w2.heap.size + 1 + 1 := (by omega)
        have DS := hBr.trans (hBs.mono hBr.size)
        by_cases hlt : i < m
        · obtain ⟨ad, r, R, cR, rfl, hr, hrc, hI⟩ := (HRO.out.below DS).at_ (k := i) (by rw [hrl.out]; exact hlt)
          obtain ⟨ad2, y, rfl, hy, hyc⟩ := (HBO.out.below DS).at_ (k := i) (by rw [hbl.out]; exact hlt)
          have HRC := Lib.hid (show p.rowC i = rowF r y n by unfold LpV.rowC; rw [hr.out, hy.out, hol.out]; rfl)
          have HF4 := Lib.hid (fun c (h1 : p.rowC i = c) (h2 : ¬ c = 0) => lpF_4 HNB.out HBE.out HCO.out (i := i) (by rw [hrl.out]; exact hlt) h1 h2 HR.out)
          by_cases hrn : r.length = n
          · have HRN := Lib.hid hrn
            rw [hrn] at hrc
            clear hrn
            by_cases hyb : -20 ≤ y ∧ y ≤ 20
            · have HYB := Lib.hid hyb
              clear hyb
              go_wp2_with fail
              refine (lwithin_yes _ _ _ (by omega) (by omega) HYB.out).mono ?_
              rintro e w' ⟨rfl, rfl⟩
              go_wp2_with fail
              go_loopw [69] (fun x wr => ∃ j : Nat, j ≤ n ∧ x = .int .i64 j ∧ Hid (∀ a ∈ r.take j, -4 ≤ a ∧ a ≤ 4) ∧ Below w2.heap.size w2 wr ∧ Cls wr [(w.heap.size, 0, .slice (some ad) m cr), (w.heap.size, 1, .slice (some ad2) m cb), (w.heap.size, 2, .slice AO n co), (w.heap.size + 1, 0, .int .i64 0), (w.heap.size + 1, 1, .int .i64 0)]) (fun x _ => n - (intOf x).toNat)
              case atStart => exact ⟨0, Nat.zero_le _, rfl, Lib.hid (by simp), (by repeat (first | with_reducible exact Below.refl _ _ | with_reducible apply bdrew | with_reducible apply bdrewN | with_reducible apply balloc | ((with_reducible refine bset ?_ ?_ _); rotate_left; (first | omega | (simp <;> omega))))), (by simp [Cls, go_sem, Fs, ysw1, ysw0, yswp1, yswp2])⟩
              case round =>
                obtain ⟨j, hj, rfl, HA, hBv, hCv⟩ := hrel
                obtain ⟨w3, rfl⟩ : ∃ wo : World, wo = wr := ⟨_, rfl⟩
                have dvs := hBv.size
                have Fv := hCv
                simp only [Cls, and_true] at Fv
                have yvw1 : w.heap.size + 1 < w3.heap.size := hCv.blk (b := w.heap.size + 1) (k := 0) (v := .int .i64 0) (by simp)
                have yvw0 : w.heap.size < w3.heap.size := (by omega)
                have yvwp1 : w.heap.size < w3.heap.size + 1 := (by omega)
                have yvwp2 : w.heap.size < w3.heap.size + 1 + 1 := (by omega)
                have DV := DS.trans (hBv.mono DS.size)
                by_cases hlt3 : j < n
                · obtain ⟨ad3, x, rfl, hx, hxc⟩ := (hI.below hBv).at_ (k := j) (by rw [HRN.out]; exact hlt3)
                  by_cases hin : -4 ≤ x ∧ x ≤ 4
                  · have HIN := Lib.hid hin
                    clear hin
                    go_wp2_with fail
                    refine (lwithin_yes _ _ _ (by omega) (by omega) HIN.out).mono ?_
                    rintro e w' ⟨rfl, rfl⟩
                    go_wp2
                    go_roundw
                    case rel => exact ⟨j + 1, by omega, by go_num, Lib.hid (fun c hc => by
                      rw [List.take_add_one, hx.out] at hc
                      rcases List.mem_append.1 hc with h | h
                      · exact HA.out c h
                      · have : c = x := by simpa using h
                        rw [this]; exact HIN.out), (by repeat (first | with_reducible exact hBv | with_reducible apply bdrew | with_reducible apply bdrewN | with_reducible apply balloc | ((with_reducible refine bset ?_ ?_ _); rotate_left; (first | omega | (simp <;> omega))))), (Cls.below (w := w3) (by repeat (first | with_reducible exact Below.refl _ _ | with_reducible apply bdrew | with_reducible apply bdrewN | with_reducible apply balloc | ((with_reducible refine bset ?_ ?_ _); rotate_left; (first | omega | (simp <;> omega))))) hCv)⟩
                    case measure => simp [intOf]; omega
                  · have HF := Lib.hid (HF4.out 3 (by rw [HRC.out]; unfold rowF; rw [if_neg (fun e => e HRN.out), if_neg (fun e => e HYB.out), if_neg (fun h => hin (h x (List.mem_of_getElem? hx.out)))]) (by omega))
                    have HIN := Lib.hid hin
                    clear hin
                    go_wp2_with fail
                    refine (lwithin_no _ _ _ (by omega) (by omega) HIN.out).mono ?_
                    rintro e w' ⟨rfl, rfl⟩
                    go_wp2_with fail
                    refine (lfault_any _ _ _).mono ?_
                    rintro e w4 ⟨rfl, hB4⟩
                    have D4 := dstep w hB4 (by repeat (first | with_reducible exact DV | with_reducible apply bdrew | with_reducible apply bdrewN | with_reducible apply balloc | ((with_reducible refine bset ?_ ?_ _); rotate_left; (first | omega | (simp <;> omega)))))
                    have d4s := D4.size
                    have C4 := Cls.below (l := [(w.heap.size, 0, .slice (some ad) m cr), (w.heap.size, 1, .slice (some ad2) m cb), (w.heap.size, 2, .slice AO n co), (w.heap.size + 1, 0, .int .i64 0), (w.heap.size + 1, 1, .int .i64 0)]) hB4 (by simp [Cls, go_sem, Fv, yvw1, yvw0, yvwp1, yvwp2])
                    have F4 := C4
                    simp only [Cls, and_true] at F4
                    have y4w1 : w.heap.size + 1 < w4.heap.size := C4.blk (b := w.heap.size + 1) (k := 0) (v := .int .i64 0) (by simp)
                    have y4w0 : w.heap.size < w4.heap.size := (by omega)
                    have y4wp1 : w.heap.size < w4.heap.size + 1 := (by omega)
                    have y4wp2 : w.heap.size < w4.heap.size + 1 + 1 := (by omega)
                    go_wp2
                    refine bodyPost_ret (v := .agg #[.int .i64 3, .int .i64 i]) ?_ rfl ⟨by rw [HF.out], by repeat (first | with_reducible exact D4 | with_reducible apply bdrew | with_reducible apply bdrewN | with_reducible apply balloc | ((with_reducible refine bset ?_ ?_ _); rotate_left; (first | omega | (simp <;> omega))))⟩
                    simp [results, Try.results15, go_sem, F4, y4w1, y4w0, y4wp1, y4wp2]
                · obtain rfl : n = j := by omega
                  have HR0 := Lib.hid (show p.rowC i = 0 by
                    rw [HRC.out]; unfold rowF; rw [if_neg (fun e => e HRN.out), if_neg (fun e => e HYB.out), if_pos (fun a ha => HA.out a (by rw [List.take_of_length_le (by rw [HRN.out]; exact Nat.le_refl _)]; exact ha))])
                  go_wp2
                  go_roundw
                  case rel => exact ⟨i + 1, by omega, by go_num, Lib.hid (fun k hk => by
                    by_cases e : k = i
                    · rw [e]; exact HR0.out
                    · exact HR.out k (by omega)), (hBs.trans ((show Below w2.heap.size w2 w3 from hBv).mono hBs.size)), (Cls.below (w := w3) (by repeat (first | with_reducible exact Below.refl _ _ | with_reducible apply bdrew | with_reducible apply bdrewN | with_reducible apply balloc | ((with_reducible refine bset ?_ ?_ _); rotate_left; (first | omega | (simp <;> omega))))) hCv)⟩
                  case measure => simp [intOf]; omega
            · have HF := Lib.hid (HF4.out 3 (by rw [HRC.out]; unfold rowF; rw [if_neg (fun e => e HRN.out), if_pos hyb]) (by omega))
              have HYB := Lib.hid hyb
              clear hyb
              go_wp2_with fail
              refine (lwithin_no _ _ _ (by omega) (by omega) HYB.out).mono ?_
              rintro e w' ⟨rfl, rfl⟩
              go_wp2_with fail
              refine (lfault_any _ _ _).mono ?_
              rintro e w1 ⟨rfl, hB1⟩
              have D1 := dstep w hB1 (by repeat (first | with_reducible exact DS | with_reducible apply bdrew | with_reducible apply bdrewN | with_reducible apply balloc | ((with_reducible refine bset ?_ ?_ _); rotate_left; (first | omega | (simp <;> omega)))))
              have d1s := D1.size
              have C1 := Cls.below (l := [(w.heap.size, 0, .slice (some ad) m cr), (w.heap.size, 1, .slice (some ad2) m cb), (w.heap.size, 2, .slice AO n co), (w.heap.size + 1, 0, .int .i64 0), (w.heap.size + 1, 1, .int .i64 0)]) hB1 (by simp [Cls, go_sem, Fs, ysw1, ysw0, yswp1, yswp2])
              have F1 := C1
              simp only [Cls, and_true] at F1
              have y1w1 : w.heap.size + 1 < w1.heap.size := C1.blk (b := w.heap.size + 1) (k := 0) (v := .int .i64 0) (by simp)
              have y1w0 : w.heap.size < w1.heap.size := (by omega)
              have y1wp1 : w.heap.size < w1.heap.size + 1 := (by omega)
              have y1wp2 : w.heap.size < w1.heap.size + 1 + 1 := (by omega)
              go_wp2
              refine bodyPost_ret (v := .agg #[.int .i64 3, .int .i64 i]) ?_ rfl ⟨by rw [HF.out], by repeat (first | with_reducible exact D1 | with_reducible apply bdrew | with_reducible apply bdrewN | with_reducible apply balloc | ((with_reducible refine bset ?_ ?_ _); rotate_left; (first | omega | (simp <;> omega))))⟩
              simp [results, Try.results15, go_sem, F1, y1w1, y1w0, y1wp1, y1wp2]
          · have HF := Lib.hid (HF4.out 9 (by rw [HRC.out]; unfold rowF; rw [if_pos hrn]) (by omega))
            have hrn' : ¬ ((r.length : Int) = (n : Int)) := by omega
            go_wp2_with fail
            go_wp2_with fail
            refine (lfault_any _ _ _).mono ?_
            rintro e w1 ⟨rfl, hB1⟩
            have D1 := dstep w hB1 (by repeat (first | with_reducible exact DS | with_reducible apply bdrew | with_reducible apply bdrewN | with_reducible apply balloc | ((with_reducible refine bset ?_ ?_ _); rotate_left; (first | omega | (simp <;> omega)))))
            have d1s := D1.size
            have C1 := Cls.below (l := [(w.heap.size, 0, .slice (some ad) m cr), (w.heap.size, 1, .slice (some ad2) m cb), (w.heap.size, 2, .slice AO n co), (w.heap.size + 1, 0, .int .i64 0), (w.heap.size + 1, 1, .int .i64 0)]) hB1 (by simp [Cls, go_sem, Fs, ysw1, ysw0, yswp1, yswp2])
            have F1 := C1
            simp only [Cls, and_true] at F1
            have y1w1 : w.heap.size + 1 < w1.heap.size := C1.blk (b := w.heap.size + 1) (k := 0) (v := .int .i64 0) (by simp)
            have y1w0 : w.heap.size < w1.heap.size := (by omega)
            have y1wp1 : w.heap.size < w1.heap.size + 1 := (by omega)
            have y1wp2 : w.heap.size < w1.heap.size + 1 + 1 := (by omega)
            go_wp2
            refine bodyPost_ret (v := .agg #[.int .i64 9, .int .i64 i]) ?_ rfl ⟨by rw [HF.out], by repeat (first | with_reducible exact D1 | with_reducible apply bdrew | with_reducible apply bdrewN | with_reducible apply balloc | ((with_reducible refine bset ?_ ?_ _); rotate_left; (first | omega | (simp <;> omega))))⟩
            simp [results, Try.results15, go_sem, F1, y1w1, y1w0, y1wp1, y1wp2]
        · obtain rfl : m = i := by omega
          have HF := Lib.hid (lpF_ok ⟨by have := HNB.out; omega, by have := HNB.out; omega, HBE.out, HCO.out, fun k hk => HR.out k (by rw [← hrl.out]; exact hk)⟩)
          go_wp2_with fail
          refine bodyPost_ret (v := .agg #[.int .i64 0, .int .i64 0]) ?_ rfl ⟨by rw [HF.out], by repeat (first | with_reducible exact DS | with_reducible apply bdrew | with_reducible apply bdrewN | with_reducible apply balloc | ((with_reducible refine bset ?_ ?_ _); rotate_left; (first | omega | (simp <;> omega))))⟩
          simp [results, Try.results15, go_sem, Fs, ysw1, ysw0, yswp1, yswp2]

set_option maxRecDepth 100000 in
set_option maxHeartbeats 4000000 in
theorem lvalidate_any (w : World) (AR AB AO : Option Addr) (cr cb co : Nat) (p : LpV) (hM : LpMem w AR AB AO p) :
    Calls Try.prog 15 #[.agg #[.slice AR p.rows.length cr, .slice AB p.bounds.length cb, .slice AO p.obj.length co]] w fun e w' => e = .returned (.agg #[.int .i64 (lpF p).1, .int .i64 (lpF p).2]) ∧ Below w.heap.size w w' := by
  have hnr := hM.nr
  have hnb := hM.nb
  have hno := hM.no
  by_cases h1 : (p.rows.length : Int) > 6
  · have h1' : decide ((p.rows.length : Int) > 6) = true := decide_eq_true h1
    rw [lpF_1 (.inl (by omega))]
    go_enter Try.func15, Try.ntmps15
    go_wp2_with fail
    refine (lfault_any _ _ _).mono ?_
    rintro e w1 ⟨rfl, hB1⟩
    have D1 := dstep w hB1 (by repeat (first | with_reducible exact Below.refl _ _ | with_reducible apply bdrew | with_reducible apply bdrewN | with_reducible apply balloc | ((with_reducible refine bset ?_ ?_ _); rotate_left; (first | omega | (simp <;> omega)))))
    have d1s := D1.size
    have C1 := Cls.below (l := [(w.heap.size, 0, .slice AR p.rows.length cr), (w.heap.size, 1, .slice AB p.bounds.length cb), (w.heap.size, 2, .slice AO p.obj.length co), (w.heap.size + 1, 0, .int .i64 0), (w.heap.size + 1, 1, .int .i64 0)]) hB1 (by simp [Cls, go_sem])
    have F1 := C1
    simp only [Cls, and_true] at F1
    have y1w1 : w.heap.size + 1 < w1.heap.size := C1.blk (b := w.heap.size + 1) (k := 0) (v := .int .i64 0) (by simp)
    have y1w0 : w.heap.size < w1.heap.size := (by omega)
    have y1wp1 : w.heap.size < w1.heap.size + 1 := (by omega)
    have y1wp2 : w.heap.size < w1.heap.size + 1 + 1 := (by omega)
    go_wp2
    refine bodyPost_ret (v := .agg #[.int .i64 2, .int .i64 (-1)]) ?_ rfl ⟨rfl, by repeat (first | with_reducible exact D1 | with_reducible apply bdrew | with_reducible apply bdrewN | with_reducible apply balloc | ((with_reducible refine bset ?_ ?_ _); rotate_left; (first | omega | (simp <;> omega))))⟩
    simp [results, Try.results15, go_sem, F1, y1w1, y1w0, y1wp1, y1wp2]
  · have h1' : decide ((p.rows.length : Int) > 6) = false := decide_eq_false h1
    by_cases h2 : (p.obj.length : Int) > 6
    · have h2' : decide ((p.obj.length : Int) > 6) = true := decide_eq_true h2
      rw [lpF_1 (.inr (by omega))]
      go_enter Try.func15, Try.ntmps15
      go_wp2_with fail
      refine (lfault_any _ _ _).mono ?_
      rintro e w1 ⟨rfl, hB1⟩
      have D1 := dstep w hB1 (by repeat (first | with_reducible exact Below.refl _ _ | with_reducible apply bdrew | with_reducible apply bdrewN | with_reducible apply balloc | ((with_reducible refine bset ?_ ?_ _); rotate_left; (first | omega | (simp <;> omega)))))
      have d1s := D1.size
      have C1 := Cls.below (l := [(w.heap.size, 0, .slice AR p.rows.length cr), (w.heap.size, 1, .slice AB p.bounds.length cb), (w.heap.size, 2, .slice AO p.obj.length co), (w.heap.size + 1, 0, .int .i64 0), (w.heap.size + 1, 1, .int .i64 0)]) hB1 (by simp [Cls, go_sem])
      have F1 := C1
      simp only [Cls, and_true] at F1
      have y1w1 : w.heap.size + 1 < w1.heap.size := C1.blk (b := w.heap.size + 1) (k := 0) (v := .int .i64 0) (by simp)
      have y1w0 : w.heap.size < w1.heap.size := (by omega)
      have y1wp1 : w.heap.size < w1.heap.size + 1 := (by omega)
      have y1wp2 : w.heap.size < w1.heap.size + 1 + 1 := (by omega)
      go_wp2
      refine bodyPost_ret (v := .agg #[.int .i64 2, .int .i64 (-1)]) ?_ rfl ⟨rfl, by repeat (first | with_reducible exact D1 | with_reducible apply bdrew | with_reducible apply bdrewN | with_reducible apply balloc | ((with_reducible refine bset ?_ ?_ _); rotate_left; (first | omega | (simp <;> omega))))⟩
      simp [results, Try.results15, go_sem, F1, y1w1, y1w0, y1wp1, y1wp2]
    · have h2' : decide ((p.obj.length : Int) > 6) = false := decide_eq_false h2
      have HNB := Lib.hid (show ¬ (6 < p.rows.length ∨ 6 < p.obj.length) by omega)
      by_cases h3 : p.bounds.length = p.rows.length
      · have HBL := Lib.hid h3
        have h3' : ((p.bounds.length : Int) != (p.rows.length : Int)) = false := by simp [h3]
        have hr6 : p.rows.length ≤ 6 := by omega
        have ho6 : p.obj.length ≤ 6 := by omega
        have hcore := lvalidate_core w AR AB AO cr cb co p hM p.rows.length p.obj.length (Lib.hid rfl) (Lib.hid h3) (Lib.hid rfl) hr6 ho6
        rw [← h3] at hcore
        rw [h3] at hcore ⊢
        exact hcore
      · have h3' : ((p.bounds.length : Int) != (p.rows.length : Int)) = true := by simp; omega
        have h3'' : ¬ ((p.bounds.length : Int) = (p.rows.length : Int)) := by omega
        rw [lpF_2 HNB.out h3]
        go_enter Try.func15, Try.ntmps15
        go_wp2_with fail
        go_wp2_with fail
        refine (lfault_any _ _ _).mono ?_
        rintro e w1 ⟨rfl, hB1⟩
        have D1 := dstep w hB1 (by repeat (first | with_reducible exact Below.refl _ _ | with_reducible apply bdrew | with_reducible apply bdrewN | with_reducible apply balloc | ((with_reducible refine bset ?_ ?_ _); rotate_left; (first | omega | (simp <;> omega)))))
        have d1s := D1.size
        have C1 := Cls.below (l := [(w.heap.size, 0, .slice AR p.rows.length cr), (w.heap.size, 1, .slice AB p.bounds.length cb), (w.heap.size, 2, .slice AO p.obj.length co), (w.heap.size + 1, 0, .int .i64 0), (w.heap.size + 1, 1, .int .i64 0)]) hB1 (by simp [Cls, go_sem])
        have F1 := C1
        simp only [Cls, and_true] at F1
        have y1w1 : w.heap.size + 1 < w1.heap.size := C1.blk (b := w.heap.size + 1) (k := 0) (v := .int .i64 0) (by simp)
        have y1w0 : w.heap.size < w1.heap.size := (by omega)
        have y1wp1 : w.heap.size < w1.heap.size + 1 := (by omega)
        have y1wp2 : w.heap.size < w1.heap.size + 1 + 1 := (by omega)
        go_wp2
        refine bodyPost_ret (v := .agg #[.int .i64 9, .int .i64 (-2)]) ?_ rfl ⟨rfl, by repeat (first | with_reducible exact D1 | with_reducible apply bdrew | with_reducible apply bdrewN | with_reducible apply balloc | ((with_reducible refine bset ?_ ?_ _); rotate_left; (first | omega | (simp <;> omega))))⟩
        simp [results, Try.results15, go_sem, F1, y1w1, y1w0, y1wp1, y1wp2]


end Go.Proofs.Ytkepfmglljkjhaa
