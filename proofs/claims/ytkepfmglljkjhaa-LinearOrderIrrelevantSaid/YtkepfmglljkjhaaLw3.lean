/-
  linear.Feasible, Improving, Refuted, Certified.
-/
import Derived.Test.YtkepfmglljkjhaaLw2
import Derived.Test.YtkepfmglljkjhaaMD
namespace Go.Proofs.Ytkepfmglljkjhaa
open Go.RowKit
set_option linter.unusedVariables false
set_option linter.unusedSimpArgs false

/-- A call that tells whether I holds, unless there is a fault. -/
def Told (I : Prop) (a a2 : Int) (w w' : World) (e : Ending) : Prop := ∃ ok : Bool, e = .returned (.tuple #[.bool ok, .agg #[.int .i64 a, .int .i64 a2]]) ∧ Hid ((¬ a = 0 → ok = false) ∧ (a = 0 → (ok = true ↔ I))) ∧ Below w.heap.size w w'
theorem Told.bad {I : Prop} {a a2 : Int} {w w' : World} (h : ¬ a = 0) (hB : Below w.heap.size w w') : Told I a a2 w w' (.returned (.tuple #[.bool false, .agg #[.int .i64 a, .int .i64 a2]])) := ⟨false, rfl, Lib.hid ⟨fun _ => rfl, fun e => absurd e h⟩, hB⟩
theorem Told.ok {I : Prop} {w w' : World} {ok : Bool} (h : ok = true ↔ I) (hB : Below w.heap.size w w') : Told I 0 0 w w' (.returned (.tuple #[.bool ok, .agg #[.int .i64 0, .int .i64 0]])) := ⟨ok, rfl, Lib.hid ⟨fun e => absurd rfl e, fun _ => h⟩, hB⟩
/-- The fault of a program and a vector of its variables. -/
def fltP (p : LpV) (x : List Int) (d : Int) : Int × Int := if ¬ (lpF p).1 = 0 then lpF p else if ¬ vecC x d p.obj.length = 0 then (vecC x d p.obj.length, -4) else (0, 0)
/-- .. and a dual vector. -/
def fltD (p : LpV) (y : List Int) (e : Int) : Int × Int := if ¬ (lpF p).1 = 0 then lpF p else if ¬ vecC y e p.rows.length = 0 then (vecC y e p.rows.length, -4) else (0, 0)
def fltPD (p : LpV) (x : List Int) (d : Int) (y : List Int) (e : Int) : Int × Int := if ¬ (fltP p x d).1 = 0 then fltP p x d else if ¬ vecC y e p.rows.length = 0 then (vecC y e p.rows.length, -5) else (0, 0)
theorem lpF_of_zero {p : LpV} (h : (lpF p).1 = 0) : lpF p = (0, 0) := Prod.ext h (lpF_snd h)
theorem fltP_chk (p : LpV) (x : List Int) (d : Int) : chkN (lpF p) (-4) (vCodes [⟨x, d⟩] p.obj.length) 1 = fltP p x d := by
  have e : atL (vCodes [⟨x, d⟩] p.obj.length) 0 = vecC x d p.obj.length := vCodes_at (v := ⟨x, d⟩) rfl
  unfold fltP
  by_cases h : (lpF p).1 = 0
  · rw [if_neg (fun a => a h)]
    by_cases h2 : vecC x d p.obj.length = 0
    · rw [if_neg (fun a => a h2), chkN_same (by rw [e]; exact h2)]; exact lpF_of_zero h
    · rw [if_pos h2, chkN_new (f := lpF p) (k := 0) h e h2]; rfl
  · rw [if_pos h, chkN_old (f := lpF p) (k := 0) h]; rfl
theorem fltD_chk (p : LpV) (y : List Int) (d : Int) : chkN (lpF p) (-4) (vCodes [⟨y, d⟩] p.rows.length) 1 = fltD p y d := by
  have e : atL (vCodes [⟨y, d⟩] p.rows.length) 0 = vecC y d p.rows.length := vCodes_at (v := ⟨y, d⟩) rfl
  unfold fltD
  by_cases h : (lpF p).1 = 0
  · rw [if_neg (fun a => a h)]
    by_cases h2 : vecC y d p.rows.length = 0
    · rw [if_neg (fun a => a h2), chkN_same (by rw [e]; exact h2)]; exact lpF_of_zero h
    · rw [if_pos h2, chkN_new (f := lpF p) (k := 0) h e h2]; rfl
  · rw [if_pos h, chkN_old (f := lpF p) (k := 0) h]; rfl
theorem fltP_snd {p : LpV} {x : List Int} {d : Int} (h : (fltP p x d).1 = 0) : fltP p x d = (0, 0) := by
  unfold fltP at h ⊢
  by_cases h1 : (lpF p).1 = 0
  · rw [if_neg (fun a => a h1)] at h ⊢
    by_cases h2 : vecC x d p.obj.length = 0
    · rw [if_neg (fun a => a h2)]
    · rw [if_pos h2] at h; exact absurd h h2
  · rw [if_pos h1] at h; exact absurd h h1
theorem fltPD_chk (p : LpV) (x : List Int) (d : Int) (y : List Int) (e : Int) : chkN (fltP p x d) (-5) (vCodes [⟨y, e⟩] p.rows.length) 1 = fltPD p x d y e := by
  have e1 : atL (vCodes [⟨y, e⟩] p.rows.length) 0 = vecC y e p.rows.length := vCodes_at (v := ⟨y, e⟩) rfl
  unfold fltPD
  by_cases h : (fltP p x d).1 = 0
  · rw [if_neg (fun a => a h)]
    by_cases h2 : vecC y e p.rows.length = 0
    · rw [if_neg (fun a => a h2), chkN_same (by rw [e1]; exact h2)]; exact fltP_snd h
    · rw [if_pos h2, chkN_new (f := fltP p x d) (k := 0) h e1 h2]; rfl
  · rw [if_pos h, chkN_old (f := fltP p x d) (k := 0) h]; rfl
theorem fltP_zero {p : LpV} {x : List Int} {d : Int} (h : (fltP p x d).1 = 0) : LpOk p ∧ VOk p.obj.length x d := by
  unfold fltP at h
  by_cases h1 : (lpF p).1 = 0
  · rw [if_neg (fun a => a h1)] at h
    by_cases h2 : vecC x d p.obj.length = 0
    · exact ⟨lpF_zero h1, vecC_zero h2⟩
    · rw [if_pos h2] at h; exact absurd h h2
  · rw [if_pos h1] at h; exact absurd h h1
theorem fltD_zero {p : LpV} {y : List Int} {d : Int} (h : (fltD p y d).1 = 0) : LpOk p ∧ VOk p.rows.length y d := by
  unfold fltD at h
  by_cases h1 : (lpF p).1 = 0
  · rw [if_neg (fun a => a h1)] at h
    by_cases h2 : vecC y d p.rows.length = 0
    · exact ⟨lpF_zero h1, vecC_zero h2⟩
    · rw [if_pos h2] at h; exact absurd h h2
  · rw [if_pos h1] at h; exact absurd h h1
theorem fltPD_zero {p : LpV} {x y : List Int} {d e : Int} (h : (fltPD p x d y e).1 = 0) : LpOk p ∧ VOk p.obj.length x d ∧ VOk p.rows.length y e := by
  unfold fltPD at h
  by_cases h1 : (fltP p x d).1 = 0
  · rw [if_neg (fun a => a h1)] at h
    by_cases h2 : vecC y e p.rows.length = 0
    · exact ⟨(fltP_zero h1).1, (fltP_zero h1).2, vecC_zero h2⟩
    · rw [if_pos h2] at h; exact absurd h h2
  · rw [if_pos h1] at h; exact absurd h h1
theorem fltD_snd {p : LpV} {x : List Int} {d : Int} (h : (fltD p x d).1 = 0) : (fltD p x d).2 = 0 := by
  unfold fltD at h ⊢
  by_cases h1 : (lpF p).1 = 0
  · rw [if_neg (fun a => a h1)] at h ⊢
    by_cases h2 : vecC x d p.rows.length = 0
    · rw [if_neg (fun a => a h2)]
    · rw [if_pos h2] at h; exact absurd h h2
  · rw [if_pos h1] at h; exact absurd h h1
theorem fltPD_snd {p : LpV} {x y : List Int} {d e : Int} (h : (fltPD p x d y e).1 = 0) : (fltPD p x d y e).2 = 0 := by
  unfold fltPD at h ⊢
  by_cases h1 : (fltP p x d).1 = 0
  · rw [if_neg (fun a => a h1)] at h ⊢
    by_cases h2 : vecC y e p.rows.length = 0
    · rw [if_neg (fun a => a h2)]
    · rw [if_pos h2] at h; exact absurd h h2
  · rw [if_pos h1] at h; exact absurd h h1
theorem VecsRead.one_at {w : World} {g : Nat} {B : Option Addr} {c lx : Nat} {x : List Int} {d : Int} (hl : x.length = lx) (h1 : w.cell? ⟨g, 0, none⟩ = some (.slice B lx c)) (h2 : w.cell? ⟨g, 1, none⟩ = some (.int .i64 d)) (h3 : Ints w B x) (h4 : lx ≤ 9223372036854775807) : VecsRead w (some ⟨g, 0, none⟩) [⟨x, d⟩] := by
  subst hl; exact VecsRead.one h1 h2 h3 h4
theorem lcheck_p (w : World) (AR AB AO : Option Addr) (cr cb co : Nat) (p : LpV) (hM : LpMem w AR AB AO p) (m mb n : Nat) (hrl : Hid (p.rows.length = m)) (hbl : Hid (p.bounds.length = mb)) (hol : Hid (p.obj.length = n)) (X : Option Addr) (cX lx : Nat) (x : List Int) (d : Int) (hlx : Hid (x.length = lx)) (hIx : Ints w X x) (hx63 : lx ≤ 9223372036854775807) (g : Nat) (h1 : w.cell? ⟨g, 0, none⟩ = some (.slice X lx cX)) (h2 : w.cell? ⟨g, 1, none⟩ = some (.int .i64 d)) (a a2 : Int) (hf : Hid (fltP p x d = (a, a2))) :
    Calls Try.prog 46 #[.agg #[.slice AR m cr, .slice AB mb cb, .slice AO n co], .slice (some ⟨g, 0, none⟩) 1 1, .slice none 0 0] w fun e w' => e = .returned (.agg #[.int .i64 a, .int .i64 a2]) ∧ Below w.heap.size w w' := by
  have h := lcheck_any w AR AB AO cr cb co p hM m mb n hrl hbl hol (some ⟨g, 0, none⟩) none 1 0 1 0 [⟨x, d⟩] [] (Lib.hid rfl) (Lib.hid rfl) (by omega) (by omega) (VecsRead.one_at hlx.out h1 h2 hIx hx63) (VecsRead.nil _ _)
  have e : chkN (chkN (lpF p) (-4) (vCodes [⟨x, d⟩] n) 1) (-4 - ((1 : Nat) : Int)) (vCodes [] m) 0 = (a, a2) := by
    show chkN (lpF p) (-4) (vCodes [⟨x, d⟩] n) 1 = _
    rw [← hol.out, fltP_chk]; exact hf.out
  rw [e] at h
  exact h
theorem lcheck_d (w : World) (AR AB AO : Option Addr) (cr cb co : Nat) (p : LpV) (hM : LpMem w AR AB AO p) (m mb n : Nat) (hrl : Hid (p.rows.length = m)) (hbl : Hid (p.bounds.length = mb)) (hol : Hid (p.obj.length = n)) (Y : Option Addr) (cY ly : Nat) (y : List Int) (e : Int) (hly : Hid (y.length = ly)) (hIy : Ints w Y y) (hy63 : ly ≤ 9223372036854775807) (g : Nat) (h1 : w.cell? ⟨g, 0, none⟩ = some (.slice Y ly cY)) (h2 : w.cell? ⟨g, 1, none⟩ = some (.int .i64 e)) (a a2 : Int) (hf : Hid (fltD p y e = (a, a2))) :
    Calls Try.prog 46 #[.agg #[.slice AR m cr, .slice AB mb cb, .slice AO n co], .slice none 0 0, .slice (some ⟨g, 0, none⟩) 1 1] w fun e w' => e = .returned (.agg #[.int .i64 a, .int .i64 a2]) ∧ Below w.heap.size w w' := by
  have h := lcheck_any w AR AB AO cr cb co p hM m mb n hrl hbl hol none (some ⟨g, 0, none⟩) 0 1 0 1 [] [⟨y, e⟩] (Lib.hid rfl) (Lib.hid rfl) (by omega) (by omega) (VecsRead.nil _ _) (VecsRead.one_at hly.out h1 h2 hIy hy63)
  have e : chkN (chkN (lpF p) (-4) (vCodes [] n) 0) (-4 - ((0 : Nat) : Int)) (vCodes [⟨y, e⟩] m) 1 = (a, a2) := by
    show chkN (lpF p) (-4) (vCodes [⟨y, e⟩] m) 1 = _
    rw [← hrl.out, fltD_chk]; exact hf.out
  rw [e] at h
  exact h
theorem lcheck_pd (w : World) (AR AB AO : Option Addr) (cr cb co : Nat) (p : LpV) (hM : LpMem w AR AB AO p) (m mb n : Nat) (hrl : Hid (p.rows.length = m)) (hbl : Hid (p.bounds.length = mb)) (hol : Hid (p.obj.length = n)) (X : Option Addr) (cX lx : Nat) (x : List Int) (d : Int) (hlx : Hid (x.length = lx)) (hIx : Ints w X x) (hx63 : lx ≤ 9223372036854775807) (Y : Option Addr) (cY ly : Nat) (y : List Int) (e : Int) (hly : Hid (y.length = ly)) (hIy : Ints w Y y) (hy63 : ly ≤ 9223372036854775807) (g g2 : Nat) (h1 : w.cell? ⟨g, 0, none⟩ = some (.slice X lx cX)) (h2 : w.cell? ⟨g, 1, none⟩ = some (.int .i64 d)) (h3 : w.cell? ⟨g2, 0, none⟩ = some (.slice Y ly cY)) (h4 : w.cell? ⟨g2, 1, none⟩ = some (.int .i64 e)) (a a2 : Int) (hf : Hid (fltPD p x d y e = (a, a2))) :
    Calls Try.prog 46 #[.agg #[.slice AR m cr, .slice AB mb cb, .slice AO n co], .slice (some ⟨g, 0, none⟩) 1 1, .slice (some ⟨g2, 0, none⟩) 1 1] w fun e w' => e = .returned (.agg #[.int .i64 a, .int .i64 a2]) ∧ Below w.heap.size w w' := by
  have h := lcheck_any w AR AB AO cr cb co p hM m mb n hrl hbl hol (some ⟨g, 0, none⟩) (some ⟨g2, 0, none⟩) 1 1 1 1 [⟨x, d⟩] [⟨y, e⟩] (Lib.hid rfl) (Lib.hid rfl) (by omega) (by omega) (VecsRead.one_at hlx.out h1 h2 hIx hx63) (VecsRead.one_at hly.out h3 h4 hIy hy63)
  have e : chkN (chkN (lpF p) (-4) (vCodes [⟨x, d⟩] n) 1) (-4 - ((1 : Nat) : Int)) (vCodes [⟨y, e⟩] m) 1 = (a, a2) := by
    show chkN (chkN (lpF p) (-4) (vCodes [⟨x, d⟩] n) 1) (-5) (vCodes [⟨y, e⟩] m) 1 = _
    rw [← hol.out, ← hrl.out, fltP_chk, fltPD_chk]; exact hf.out
  rw [e] at h
  exact h
set_option maxRecDepth 100000 in
set_option maxHeartbeats 2000000 in
theorem feasible_any (w : World) (AR AB AO : Option Addr) (cr cb co : Nat) (p : LpV) (hM : LpMem w AR AB AO p) (m mb n : Nat) (hrl : Hid (p.rows.length = m)) (hbl : Hid (p.bounds.length = mb)) (hol : Hid (p.obj.length = n)) (X : Option Addr) (cX lx : Nat) (x : List Int) (d : Int) (hlx : Hid (x.length = lx)) (hIx : Ints w X x) (hx63 : lx ≤ 9223372036854775807) (a a2 : Int) (hf : Hid (fltP p x d = (a, a2))) :
    Calls Try.prog 27 #[.agg #[.slice AR m cr, .slice AB mb cb, .slice AO n co], .agg #[.slice X lx cX, .int .i64 d]] w fun e w' => Told (LA.IsPt p.lp (atL x) d) a a2 w w' e := by
  have HI := Lib.hid hIx
  have HM := Lib.hid hM
  clear hM
  go_enter Try.func27, Try.ntmps27
  go_wp2_with fail
  refine (lcheck_p _ AR AB AO cr cb co p (HM.out.below (by repeat (first | with_reducible exact Below.refl _ _ | with_reducible apply bdrew | with_reducible apply bdrewN | with_reducible apply balloc | ((with_reducible refine bset ?_ ?_ _); rotate_left; (first | omega | (simp <;> omega)))))) m mb n hrl hbl hol X cX lx x d hlx (HI.out.below (by repeat (first | with_reducible exact Below.refl _ _ | with_reducible apply bdrew | with_reducible apply bdrewN | with_reducible apply balloc | ((with_reducible refine bset ?_ ?_ _); rotate_left; (first | omega | (simp <;> omega)))))) hx63 (w.heap.size + 1 + 1 + 1) (by simp [go_sem]) (by simp [go_sem]) a a2 hf).mono ?_
  rintro e w1 ⟨rfl, hB1⟩
  have D1 := dstep w hB1 (by repeat (first | with_reducible exact Below.refl _ _ | with_reducible apply bdrew | with_reducible apply bdrewN | with_reducible apply balloc | ((with_reducible refine bset ?_ ?_ _); rotate_left; (first | omega | (simp <;> omega)))))
  have d1s := D1.size
  have C1 := Cls.below (l := [(w.heap.size, 0, .slice AR m cr), (w.heap.size, 1, .slice AB mb cb), (w.heap.size, 2, .slice AO n co), (w.heap.size + 1, 0, .slice X lx cX), (w.heap.size + 1, 1, .int .i64 d), (w.heap.size + 1 + 1, 0, .int .i64 0), (w.heap.size + 1 + 1, 1, .int .i64 0)]) hB1 (by simp [Cls, go_sem])
  have F1 := C1
  simp only [Cls, and_true] at F1
  have y1w2 : w.heap.size + 1 + 1 < w1.heap.size := C1.blk (b := w.heap.size + 1 + 1) (k := 0) (v := .int .i64 0) (by simp)
  have y1w1 : w.heap.size + 1 < w1.heap.size := (by omega)
  have y1w0 : w.heap.size < w1.heap.size := (by omega)
  have y1wp1 : w.heap.size < w1.heap.size + 1 := (by omega)
  have y1wp2 : w.heap.size < w1.heap.size + 1 + 1 := (by omega)
  by_cases ha : a = 0
  · have HZ := Lib.hid (fltP_zero (by rw [hf.out]; exact ha))
    have ha2 : a2 = 0 := by
      have h := fltP_snd (p := p) (x := x) (d := d) (by rw [hf.out]; exact ha)
      rw [hf.out] at h
      injection h with _ h
    subst ha
    subst ha2
    have HOK := Lib.hid HZ.out.1
    have HVO := Lib.hid HZ.out.2
    have hmb : mb = m := by rw [← hbl.out, ← hrl.out]; exact HOK.out.b
    subst hmb
    have hln : lx = n := by rw [← hlx.out, HVO.out.len]; exact hol.out
    subst hln
    have hm6 : mb ≤ 6 := by have := HOK.out.m; rw [hrl.out] at this; exact this
    have hn6 : lx ≤ 6 := by have := HOK.out.n; rw [hol.out] at this; exact this
    go_wp2_with fail
    refine (lfits_any _ AR AB AO cr cb co p (HM.out.below (by repeat (first | with_reducible exact D1 | with_reducible apply bdrew | with_reducible apply bdrewN | with_reducible apply balloc | ((with_reducible refine bset ?_ ?_ _); rotate_left; (first | omega | (simp <;> omega)))))) HOK.out mb lx hrl hbl hol hm6 hn6 d (by have := HVO.out.pos; omega) HVO.out.dle X cX x hlx (HI.out.below (by repeat (first | with_reducible exact D1 | with_reducible apply bdrew | with_reducible apply bdrewN | with_reducible apply balloc | ((with_reducible refine bset ?_ ?_ _); rotate_left; (first | omega | (simp <;> omega)))))) HVO.out.le).mono ?_
    rintro e w2 ⟨ok, rfl, HR, hB2⟩
    have D2 := dstep w hB2 (by repeat (first | with_reducible exact D1 | with_reducible apply bdrew | with_reducible apply bdrewN | with_reducible apply balloc | ((with_reducible refine bset ?_ ?_ _); rotate_left; (first | omega | (simp <;> omega)))))
    have C2 := Cls.below (l := [(w.heap.size, 0, .slice AR mb cr), (w.heap.size, 1, .slice AB mb cb), (w.heap.size, 2, .slice AO lx co), (w.heap.size + 1, 0, .slice X lx cX), (w.heap.size + 1, 1, .int .i64 d), (w.heap.size + 1 + 1, 0, .int .i64 0), (w.heap.size + 1 + 1, 1, .int .i64 0), (w1.heap.size, 0, .int .i64 0), (w1.heap.size, 1, .int .i64 0)]) hB2 (by simp [Cls, go_sem, F1, y1w2, y1w1, y1w0, y1wp1, y1wp2])
    have F2 := C2
    simp only [Cls, and_true] at F2
    have y2w2 : w.heap.size + 1 + 1 < w2.heap.size := C2.blk (b := w.heap.size + 1 + 1) (k := 0) (v := .int .i64 0) (by simp)
    have y2w1 : w.heap.size + 1 < w2.heap.size := (by omega)
    have y2w0 : w.heap.size < w2.heap.size := (by omega)
    have y2wp1 : w.heap.size < w2.heap.size + 1 := (by omega)
    have y2wp2 : w.heap.size < w2.heap.size + 1 + 1 := (by omega)
    have y2w10 : w1.heap.size < w2.heap.size := C2.blk (b := w1.heap.size) (k := 0) (v := .int .i64 0) (by simp)
    have y2w1p1 : w1.heap.size < w2.heap.size + 1 := (by omega)
    have y2w1p2 : w1.heap.size < w2.heap.size + 1 + 1 := (by omega)
    go_wp2
    refine bodyPost_ret (v := .tuple #[.bool ok, .agg #[.int .i64 0, .int .i64 0]]) ?_ rfl (Told.ok (HR.out) (by repeat (first | with_reducible exact D2 | with_reducible apply bdrew | with_reducible apply bdrewN | with_reducible apply balloc | ((with_reducible refine bset ?_ ?_ _); rotate_left; (first | omega | (simp <;> omega))))))
    simp [results, Try.results27, go_sem, F2, y2w2, y2w1, y2w0, y2wp1, y2wp2, y2w10, y2w1p1, y2w1p2]
  · have hb1 : (a == 0) = false := by simpa using ha
    have hb2 : (a != 0) = true := by simpa using ha
    have HA := Lib.hid ha
    go_wp2_with fail
    go_region
    all_goals
      go_wp2
      refine bodyPost_ret (v := .tuple #[.bool false, .agg #[.int .i64 a, .int .i64 a2]]) ?_ rfl (Told.bad HA.out (by repeat (first | with_reducible exact D1 | with_reducible apply bdrew | with_reducible apply bdrewN | with_reducible apply balloc | ((with_reducible refine bset ?_ ?_ _); rotate_left; (first | omega | (simp <;> omega))))))
      simp [results, Try.results27, go_sem, F1, y1w2, y1w1, y1w0, y1wp1, y1wp2]

theorem obj_dot {p : LpV} {n : Nat} (hn : p.obj.length = n) (x : List Int) : LA.valP p.lp (atL x) = dotL n p.obj x := by subst hn; rfl
theorem bnd_dot {p : LpV} {m : Nat} (hm : p.rows.length = m) (y : List Int) : LA.valD p.lp (atL y) = dotL m p.bounds y := by subst hm; rfl
theorem LpOk.c100 {p : LpV} (h : LpOk p) : ∀ c ∈ p.obj, -100 ≤ c ∧ c ≤ 100 := fun c hc => by have := h.c c hc; omega
theorem LpOk.b100 {p : LpV} (h : LpOk p) : ∀ c ∈ p.bounds, -100 ≤ c ∧ c ≤ 100 := fun c hc => by
  obtain ⟨i, hi⟩ := List.getElem?_of_mem hc
  have := h.bound hi; omega
theorem ray_iff {p : LpV} {n : Nat} (hn : p.obj.length = n) (x : List Int) : LA.IsRay p.lp (atL x) ↔ LA.IsPt p.lp (atL x) 0 ∧ 0 < dotL n p.obj x := by
  rw [← obj_dot hn]
  constructor
  · rintro ⟨h1, h2, h3⟩
    exact ⟨⟨fun k hk => by rw [Int.mul_zero]; exact h1 k hk, h2⟩, h3⟩
  · rintro ⟨⟨h1, h2⟩, h3⟩
    exact ⟨fun k hk => by have := h1 k hk; rw [Int.mul_zero] at this; exact this, h2, h3⟩
set_option maxRecDepth 100000 in
set_option maxHeartbeats 2000000 in
theorem improving_any (w : World) (AR AB AO : Option Addr) (cr cb co : Nat) (p : LpV) (hM : LpMem w AR AB AO p) (m mb n : Nat) (hrl : Hid (p.rows.length = m)) (hbl : Hid (p.bounds.length = mb)) (hol : Hid (p.obj.length = n)) (X : Option Addr) (cX lx : Nat) (x : List Int) (d : Int) (hlx : Hid (x.length = lx)) (hIx : Ints w X x) (hx63 : lx ≤ 9223372036854775807) (a a2 : Int) (hf : Hid (fltP p x d = (a, a2))) :
    Calls Try.prog 31 #[.agg #[.slice AR m cr, .slice AB mb cb, .slice AO n co], .agg #[.slice X lx cX, .int .i64 d]] w fun e w' => Told (LA.IsRay p.lp (atL x)) a a2 w w' e := by
  have HI := Lib.hid hIx
  have HM := Lib.hid hM
  clear hM
  go_enter Try.func31, Try.ntmps31
  go_wp2_with fail
  refine (lcheck_p _ AR AB AO cr cb co p (HM.out.below (by repeat (first | with_reducible exact Below.refl _ _ | with_reducible apply bdrew | with_reducible apply bdrewN | with_reducible apply balloc | ((with_reducible refine bset ?_ ?_ _); rotate_left; (first | omega | (simp <;> omega)))))) m mb n hrl hbl hol X cX lx x d hlx (HI.out.below (by repeat (first | with_reducible exact Below.refl _ _ | with_reducible apply bdrew | with_reducible apply bdrewN | with_reducible apply balloc | ((with_reducible refine bset ?_ ?_ _); rotate_left; (first | omega | (simp <;> omega)))))) hx63 (w.heap.size + 1 + 1 + 1) (by simp [go_sem]) (by simp [go_sem]) a a2 hf).mono ?_
  rintro e w1 ⟨rfl, hB1⟩
  have D1 := dstep w hB1 (by repeat (first | with_reducible exact Below.refl _ _ | with_reducible apply bdrew | with_reducible apply bdrewN | with_reducible apply balloc | ((with_reducible refine bset ?_ ?_ _); rotate_left; (first | omega | (simp <;> omega)))))
  have d1s := D1.size
  have C1 := Cls.below (l := [(w.heap.size, 0, .slice AR m cr), (w.heap.size, 1, .slice AB mb cb), (w.heap.size, 2, .slice AO n co), (w.heap.size + 1, 0, .slice X lx cX), (w.heap.size + 1, 1, .int .i64 d), (w.heap.size + 1 + 1, 0, .int .i64 0), (w.heap.size + 1 + 1, 1, .int .i64 0)]) hB1 (by simp [Cls, go_sem])
  have F1 := C1
  simp only [Cls, and_true] at F1
  have y1w2 : w.heap.size + 1 + 1 < w1.heap.size := C1.blk (b := w.heap.size + 1 + 1) (k := 0) (v := .int .i64 0) (by simp)
  have y1w1 : w.heap.size + 1 < w1.heap.size := (by omega)
  have y1w0 : w.heap.size < w1.heap.size := (by omega)
  have y1wp1 : w.heap.size < w1.heap.size + 1 := (by omega)
  have y1wp2 : w.heap.size < w1.heap.size + 1 + 1 := (by omega)
  by_cases ha : a = 0
  · have HZ := Lib.hid (fltP_zero (by rw [hf.out]; exact ha))
    have ha2 : a2 = 0 := by
      have h := fltP_snd (p := p) (x := x) (d := d) (by rw [hf.out]; exact ha)
      rw [hf.out] at h
      injection h with _ h
    subst ha
    subst ha2
    have HOK := Lib.hid HZ.out.1
    have HVO := Lib.hid HZ.out.2
    have hmb : mb = m := by rw [← hbl.out, ← hrl.out]; exact HOK.out.b
    subst hmb
    have hln : lx = n := by rw [← hlx.out, HVO.out.len]; exact hol.out
    subst hln
    have hm6 : mb ≤ 6 := by have := HOK.out.m; rw [hrl.out] at this; exact this
    have hn6 : lx ≤ 6 := by have := HOK.out.n; rw [hol.out] at this; exact this
    obtain ⟨s, hs⟩ : ∃ s, Hid (dotL lx p.obj x = s) := ⟨_, Lib.hid rfl⟩
    have HP : Hid (∀ W : World, Below w.heap.size w W → Calls Try.prog 50 #[.slice AO lx co, .slice X lx cX] W fun e w' => e = .returned (.int .i64 s) ∧ Below W.heap.size W w') := Lib.hid (fun W hB => by
      have h := lprod_any W AO X co cX p.obj x lx hol hlx hn6 (HM.out.obj.below hB) (HI.out.below hB) HOK.out.c100 HVO.out.le
      rw [hs.out] at h; exact h)
    have HRI := Lib.hid (ray_iff hol.out x)
    go_wp2_with fail
    refine (lfits_any _ AR AB AO cr cb co p (HM.out.below (by repeat (first | with_reducible exact D1 | with_reducible apply bdrew | with_reducible apply bdrewN | with_reducible apply balloc | ((with_reducible refine bset ?_ ?_ _); rotate_left; (first | omega | (simp <;> omega)))))) HOK.out mb lx hrl hbl hol hm6 hn6 0 (by omega) (by omega) X cX x hlx (HI.out.below (by repeat (first | with_reducible exact D1 | with_reducible apply bdrew | with_reducible apply bdrewN | with_reducible apply balloc | ((with_reducible refine bset ?_ ?_ _); rotate_left; (first | omega | (simp <;> omega)))))) HVO.out.le).mono ?_
    rintro e w2 ⟨ok, rfl, HR, hB2⟩
    have D2 := dstep w hB2 (by repeat (first | with_reducible exact D1 | with_reducible apply bdrew | with_reducible apply bdrewN | with_reducible apply balloc | ((with_reducible refine bset ?_ ?_ _); rotate_left; (first | omega | (simp <;> omega)))))
    have C2 := Cls.below (l := [(w.heap.size, 0, .slice AR mb cr), (w.heap.size, 1, .slice AB mb cb), (w.heap.size, 2, .slice AO lx co), (w.heap.size + 1, 0, .slice X lx cX), (w.heap.size + 1, 1, .int .i64 d), (w.heap.size + 1 + 1, 0, .int .i64 0), (w.heap.size + 1 + 1, 1, .int .i64 0), (w1.heap.size, 0, .int .i64 0), (w1.heap.size, 1, .int .i64 0)]) hB2 (by simp [Cls, go_sem, F1, y1w2, y1w1, y1w0, y1wp1, y1wp2])
    have F2 := C2
    simp only [Cls, and_true] at F2
    have y2w2 : w.heap.size + 1 + 1 < w2.heap.size := C2.blk (b := w.heap.size + 1 + 1) (k := 0) (v := .int .i64 0) (by simp)
    have y2w1 : w.heap.size + 1 < w2.heap.size := (by omega)
    have y2w0 : w.heap.size < w2.heap.size := (by omega)
    have y2wp1 : w.heap.size < w2.heap.size + 1 := (by omega)
    have y2wp2 : w.heap.size < w2.heap.size + 1 + 1 := (by omega)
    have y2w10 : w1.heap.size < w2.heap.size := C2.blk (b := w1.heap.size) (k := 0) (v := .int .i64 0) (by simp)
    have y2w1p1 : w1.heap.size < w2.heap.size + 1 := (by omega)
    have y2w1p2 : w1.heap.size < w2.heap.size + 1 + 1 := (by omega)
    cases ok with
    | false =>
      have HT := Lib.hid (fun h => Bool.false_ne_true (HR.out.2 h))
      clear HR
      go_wp2
      refine bodyPost_ret (v := .tuple #[.bool false, .agg #[.int .i64 0, .int .i64 0]]) ?_ rfl (Told.ok (iff_of_false (by simp) fun h => HT.out (HRI.out.1 h).1) (by repeat (first | with_reducible exact D2 | with_reducible apply bdrew | with_reducible apply bdrewN | with_reducible apply balloc | ((with_reducible refine bset ?_ ?_ _); rotate_left; (first | omega | (simp <;> omega))))))
      simp [results, Try.results31, go_sem, F2, y2w2, y2w1, y2w0, y2wp1, y2wp2, y2w10, y2w1p1, y2w1p2]
    | true =>
      have HT := Lib.hid (HR.out.1 rfl)
      clear HR
      go_wp2_with fail
      refine (HP.out _ (by repeat (first | with_reducible exact D2 | with_reducible apply bdrew | with_reducible apply bdrewN | with_reducible apply balloc | ((with_reducible refine bset ?_ ?_ _); rotate_left; (first | omega | (simp <;> omega)))))).mono ?_
      rintro e w3 ⟨rfl, hB3⟩
      have D3 := dstep w hB3 (by repeat (first | with_reducible exact D2 | with_reducible apply bdrew | with_reducible apply bdrewN | with_reducible apply balloc | ((with_reducible refine bset ?_ ?_ _); rotate_left; (first | omega | (simp <;> omega)))))
      have C3 := Cls.below (l := [(w.heap.size, 0, .slice AR mb cr), (w.heap.size, 1, .slice AB mb cb), (w.heap.size, 2, .slice AO lx co), (w.heap.size + 1, 0, .slice X lx cX), (w.heap.size + 1, 1, .int .i64 d), (w.heap.size + 1 + 1, 0, .int .i64 0), (w.heap.size + 1 + 1, 1, .int .i64 0), (w1.heap.size, 0, .int .i64 0), (w1.heap.size, 1, .int .i64 0)]) hB3 (by simp [Cls, go_sem, F2, y2w2, y2w1, y2w0, y2wp1, y2wp2, y2w10, y2w1p1, y2w1p2])
      have F3 := C3
      simp only [Cls, and_true] at F3
      have y3w2 : w.heap.size + 1 + 1 < w3.heap.size := C3.blk (b := w.heap.size + 1 + 1) (k := 0) (v := .int .i64 0) (by simp)
      have y3w1 : w.heap.size + 1 < w3.heap.size := (by omega)
      have y3w0 : w.heap.size < w3.heap.size := (by omega)
      have y3wp1 : w.heap.size < w3.heap.size + 1 := (by omega)
      have y3wp2 : w.heap.size < w3.heap.size + 1 + 1 := (by omega)
      have y3w10 : w1.heap.size < w3.heap.size := C3.blk (b := w1.heap.size) (k := 0) (v := .int .i64 0) (by simp)
      have y3w1p1 : w1.heap.size < w3.heap.size + 1 := (by omega)
      have y3w1p2 : w1.heap.size < w3.heap.size + 1 + 1 := (by omega)
      go_wp2
      refine bodyPost_ret (v := .tuple #[.bool (decide (s > 0)), .agg #[.int .i64 0, .int .i64 0]]) ?_ rfl (Told.ok (by
        rw [HRI.out, hs.out]
        have h1 := HT.out
        constructor
        · intro h; exact ⟨h1, of_decide_eq_true h⟩
        · intro h; exact decide_eq_true h.2) (by repeat (first | with_reducible exact D3 | with_reducible apply bdrew | with_reducible apply bdrewN | with_reducible apply balloc | ((with_reducible refine bset ?_ ?_ _); rotate_left; (first | omega | (simp <;> omega))))))
      simp [results, Try.results31, go_sem, F3, y3w2, y3w1, y3w0, y3wp1, y3wp2, y3w10, y3w1p1, y3w1p2]
  · have hb1 : (a == 0) = false := by simpa using ha
    have hb2 : (a != 0) = true := by simpa using ha
    have HA := Lib.hid ha
    go_wp2_with fail
    go_region
    all_goals
      go_wp2
      refine bodyPost_ret (v := .tuple #[.bool false, .agg #[.int .i64 a, .int .i64 a2]]) ?_ rfl (Told.bad HA.out (by repeat (first | with_reducible exact D1 | with_reducible apply bdrew | with_reducible apply bdrewN | with_reducible apply balloc | ((with_reducible refine bset ?_ ?_ _); rotate_left; (first | omega | (simp <;> omega))))))
      simp [results, Try.results31, go_sem, F1, y1w2, y1w1, y1w0, y1wp1, y1wp2]

theorem cols_nn {p : LpV} {y : List Int} {m n : Nat} (hn : p.obj.length = n) (hm : p.rows.length = m) : (¬ ∃ a ∈ tbRow n (fun j => colL p y m j), a < 0) ↔ ∀ j, j < p.lp.n → 0 ≤ LA.sumN p.lp.m fun k => p.lp.A k j * atL y k := by
  have e1 : p.lp.n = n := hn
  have e2 : p.lp.m = m := hm
  rw [e1, e2, nn_iff (tbRow_len n _)]
  constructor
  · intro h j hj
    have := h j hj
    rw [atL_row _ hj] at this
    exact this
  · intro h j hj
    rw [atL_row _ hj]
    exact h j hj
theorem ref_iff {p : LpV} {y : List Int} {m n : Nat} (hn : p.obj.length = n) (hm : p.rows.length = m) (hl : y.length = m) : LA.IsRef p.lp (atL y) ↔ (¬ ∃ a ∈ tbRow n (fun j => colL p y m j), a < 0) ∧ (¬ ∃ a ∈ y, a < 0) ∧ dotL m p.bounds y < 0 := by
  rw [cols_nn hn hm, nn_iff hl, ← bnd_dot hm]
  subst hm
  exact Iff.rfl
set_option maxRecDepth 100000 in
set_option maxHeartbeats 2000000 in
theorem refuted_any (w : World) (AR AB AO : Option Addr) (cr cb co : Nat) (p : LpV) (hM : LpMem w AR AB AO p) (m mb n : Nat) (hrl : Hid (p.rows.length = m)) (hbl : Hid (p.bounds.length = mb)) (hol : Hid (p.obj.length = n)) (Y : Option Addr) (cY ly : Nat) (y : List Int) (e : Int) (hly : Hid (y.length = ly)) (hIy : Ints w Y y) (hy63 : ly ≤ 9223372036854775807) (a a2 : Int) (hf : Hid (fltD p y e = (a, a2))) :
    Calls Try.prog 30 #[.agg #[.slice AR m cr, .slice AB mb cb, .slice AO n co], .agg #[.slice Y ly cY, .int .i64 e]] w fun e w' => Told (LA.IsRef p.lp (atL y)) a a2 w w' e := by
  have HI := Lib.hid hIy
  have HM := Lib.hid hM
  clear hM
  go_enter Try.func30, Try.ntmps30
  go_wp2_with fail
  refine (lcheck_d _ AR AB AO cr cb co p (HM.out.below (by repeat (first | with_reducible exact Below.refl _ _ | with_reducible apply bdrew | with_reducible apply bdrewN | with_reducible apply balloc | ((with_reducible refine bset ?_ ?_ _); rotate_left; (first | omega | (simp <;> omega)))))) m mb n hrl hbl hol Y cY ly y e hly (HI.out.below (by repeat (first | with_reducible exact Below.refl _ _ | with_reducible apply bdrew | with_reducible apply bdrewN | with_reducible apply balloc | ((with_reducible refine bset ?_ ?_ _); rotate_left; (first | omega | (simp <;> omega)))))) hy63 (w.heap.size + 1 + 1 + 1) (by simp [go_sem]) (by simp [go_sem]) a a2 hf).mono ?_
  rintro e w1 ⟨rfl, hB1⟩
  have D1 := dstep w hB1 (by repeat (first | with_reducible exact Below.refl _ _ | with_reducible apply bdrew | with_reducible apply bdrewN | with_reducible apply balloc | ((with_reducible refine bset ?_ ?_ _); rotate_left; (first | omega | (simp <;> omega)))))
  have d1s := D1.size
  have C1 := Cls.below (l := [(w.heap.size, 0, .slice AR m cr), (w.heap.size, 1, .slice AB mb cb), (w.heap.size, 2, .slice AO n co), (w.heap.size + 1, 0, .slice Y ly cY), (w.heap.size + 1, 1, .int .i64 e), (w.heap.size + 1 + 1, 0, .int .i64 0), (w.heap.size + 1 + 1, 1, .int .i64 0)]) hB1 (by simp [Cls, go_sem])
  have F1 := C1
  simp only [Cls, and_true] at F1
  have y1w2 : w.heap.size + 1 + 1 < w1.heap.size := C1.blk (b := w.heap.size + 1 + 1) (k := 0) (v := .int .i64 0) (by simp)
  have y1w1 : w.heap.size + 1 < w1.heap.size := (by omega)
  have y1w0 : w.heap.size < w1.heap.size := (by omega)
  have y1wp1 : w.heap.size < w1.heap.size + 1 := (by omega)
  have y1wp2 : w.heap.size < w1.heap.size + 1 + 1 := (by omega)
  by_cases ha : a = 0
  · have HZ := Lib.hid (fltD_zero (by rw [hf.out]; exact ha))
    have ha2 : a2 = 0 := by
      have h := fltD_snd (p := p) (x := y) (d := e) (by rw [hf.out]; exact ha)
      rw [hf.out] at h
      exact h
    subst ha
    subst ha2
    have HOK := Lib.hid HZ.out.1
    have HVO := Lib.hid HZ.out.2
    have hmb : mb = m := by rw [← hbl.out, ← hrl.out]; exact HOK.out.b
    subst hmb
    have hln : ly = mb := by rw [← hly.out, HVO.out.len]; exact hrl.out
    subst hln
    have hm6 : ly ≤ 6 := by have := HOK.out.m; rw [hrl.out] at this; exact this
    have hn6 : n ≤ 6 := by have := HOK.out.n; rw [hol.out] at this; exact this
    obtain ⟨s, hs⟩ : ∃ s, Hid (dotL ly p.bounds y = s) := ⟨_, Lib.hid rfl⟩
    have HP : Hid (∀ W : World, Below w.heap.size w W → Calls Try.prog 50 #[.slice AB ly cb, .slice Y ly cY] W fun e w' => e = .returned (.int .i64 s) ∧ Below W.heap.size W w') := Lib.hid (fun W hB => by
      have h := lprod_any W AB Y cb cY p.bounds y ly hbl hly hm6 (HM.out.bounds.below hB) (HI.out.below hB) HOK.out.b100 HVO.out.le
      rw [hs.out] at h; exact h)
    have HRI := Lib.hid (ref_iff hol.out hrl.out hly.out)
    go_wp2_with fail
    refine (lneg_any _ Y cY y ly hly (by omega) (HI.out.below (by repeat (first | with_reducible exact D1 | with_reducible apply bdrew | with_reducible apply bdrewN | with_reducible apply balloc | ((with_reducible refine bset ?_ ?_ _); rotate_left; (first | omega | (simp <;> omega))))))).mono ?_
    rintro e w2 ⟨neg, rfl, HR, hB2⟩
    have D2 := dstep w hB2 (by repeat (first | with_reducible exact D1 | with_reducible apply bdrew | with_reducible apply bdrewN | with_reducible apply balloc | ((with_reducible refine bset ?_ ?_ _); rotate_left; (first | omega | (simp <;> omega)))))
    have C2 := Cls.below (l := [(w.heap.size, 0, .slice AR ly cr), (w.heap.size, 1, .slice AB ly cb), (w.heap.size, 2, .slice AO n co), (w.heap.size + 1, 0, .slice Y ly cY), (w.heap.size + 1, 1, .int .i64 e), (w.heap.size + 1 + 1, 0, .int .i64 0), (w.heap.size + 1 + 1, 1, .int .i64 0), (w1.heap.size, 0, .int .i64 0), (w1.heap.size, 1, .int .i64 0)]) hB2 (by simp [Cls, go_sem, F1, y1w2, y1w1, y1w0, y1wp1, y1wp2])
    have F2 := C2
    simp only [Cls, and_true] at F2
    have y2w2 : w.heap.size + 1 + 1 < w2.heap.size := C2.blk (b := w.heap.size + 1 + 1) (k := 0) (v := .int .i64 0) (by simp)
    have y2w1 : w.heap.size + 1 < w2.heap.size := (by omega)
    have y2w0 : w.heap.size < w2.heap.size := (by omega)
    have y2wp1 : w.heap.size < w2.heap.size + 1 := (by omega)
    have y2wp2 : w.heap.size < w2.heap.size + 1 + 1 := (by omega)
    have y2w10 : w1.heap.size < w2.heap.size := C2.blk (b := w1.heap.size) (k := 0) (v := .int .i64 0) (by simp)
    have y2w1p1 : w1.heap.size < w2.heap.size + 1 := (by omega)
    have y2w1p2 : w1.heap.size < w2.heap.size + 1 + 1 := (by omega)
    cases neg with
    | true =>
      have HT := Lib.hid (HR.out.1 rfl)
      clear HR
      go_wp2
      refine bodyPost_ret (v := .tuple #[.bool false, .agg #[.int .i64 0, .int .i64 0]]) ?_ rfl (Told.ok (iff_of_false (by simp) fun h => (HRI.out.1 h).2.1 HT.out) (by repeat (first | with_reducible exact D2 | with_reducible apply bdrew | with_reducible apply bdrewN | with_reducible apply balloc | ((with_reducible refine bset ?_ ?_ _); rotate_left; (first | omega | (simp <;> omega))))))
      simp [results, Try.results30, go_sem, F2, y2w2, y2w1, y2w0, y2wp1, y2wp2, y2w10, y2w1p1, y2w1p2]
    | false =>
      have HT := Lib.hid (fun h => Bool.false_ne_true (HR.out.2 h))
      clear HR
      go_wp2_with fail
      refine (lcols_any _ AR AB AO cr cb co p (HM.out.below (by repeat (first | with_reducible exact D2 | with_reducible apply bdrew | with_reducible apply bdrewN | with_reducible apply balloc | ((with_reducible refine bset ?_ ?_ _); rotate_left; (first | omega | (simp <;> omega)))))) HOK.out ly n hrl hbl hol hm6 hn6 Y cY y hly (HI.out.below (by repeat (first | with_reducible exact D2 | with_reducible apply bdrew | with_reducible apply bdrewN | with_reducible apply balloc | ((with_reducible refine bset ?_ ?_ _); rotate_left; (first | omega | (simp <;> omega)))))) HVO.out.le).mono ?_
      rintro e w3 ⟨g, rfl, hg, hAg, hB3⟩
      have HAG := Lib.hid hAg
      have D3 := dstep w hB3 (by repeat (first | with_reducible exact D2 | with_reducible apply bdrew | with_reducible apply bdrewN | with_reducible apply balloc | ((with_reducible refine bset ?_ ?_ _); rotate_left; (first | omega | (simp <;> omega)))))
      have C3 := Cls.below (l := [(w.heap.size, 0, .slice AR ly cr), (w.heap.size, 1, .slice AB ly cb), (w.heap.size, 2, .slice AO n co), (w.heap.size + 1, 0, .slice Y ly cY), (w.heap.size + 1, 1, .int .i64 e), (w.heap.size + 1 + 1, 0, .int .i64 0), (w.heap.size + 1 + 1, 1, .int .i64 0), (w1.heap.size, 0, .int .i64 0), (w1.heap.size, 1, .int .i64 0)]) hB3 (by simp [Cls, go_sem, F2, y2w2, y2w1, y2w0, y2wp1, y2wp2, y2w10, y2w1p1, y2w1p2])
      have F3 := C3
      simp only [Cls, and_true] at F3
      have y3w2 : w.heap.size + 1 + 1 < w3.heap.size := C3.blk (b := w.heap.size + 1 + 1) (k := 0) (v := .int .i64 0) (by simp)
      have y3w1 : w.heap.size + 1 < w3.heap.size := (by omega)
      have y3w0 : w.heap.size < w3.heap.size := (by omega)
      have y3wp1 : w.heap.size < w3.heap.size + 1 := (by omega)
      have y3wp2 : w.heap.size < w3.heap.size + 1 + 1 := (by omega)
      have y3w10 : w1.heap.size < w3.heap.size := C3.blk (b := w1.heap.size) (k := 0) (v := .int .i64 0) (by simp)
      have y3w1p1 : w1.heap.size < w3.heap.size + 1 := (by omega)
      have y3w1p2 : w1.heap.size < w3.heap.size + 1 + 1 := (by omega)
      go_wp2_with fail
      refine (lneg_any _ (some ⟨g, 0, none⟩) n (tbRow n fun j => colL p y ly j) n (Lib.hid (tbRow_len _ _)) (by omega) (HAG.out.ints.below (by repeat (first | with_reducible exact Below.refl _ _ | with_reducible apply bdrew | with_reducible apply bdrewN | with_reducible apply balloc | ((with_reducible refine bset ?_ ?_ _); rotate_left; (first | omega | (simp <;> omega))))))).mono ?_
      rintro e w4 ⟨neg2, rfl, HR2, hB4⟩
      have D4 := dstep w hB4 (by repeat (first | with_reducible exact D3 | with_reducible apply bdrew | with_reducible apply bdrewN | with_reducible apply balloc | ((with_reducible refine bset ?_ ?_ _); rotate_left; (first | omega | (simp <;> omega)))))
      have C4 := Cls.below (l := [(w.heap.size, 0, .slice AR ly cr), (w.heap.size, 1, .slice AB ly cb), (w.heap.size, 2, .slice AO n co), (w.heap.size + 1, 0, .slice Y ly cY), (w.heap.size + 1, 1, .int .i64 e), (w.heap.size + 1 + 1, 0, .int .i64 0), (w.heap.size + 1 + 1, 1, .int .i64 0), (w1.heap.size, 0, .int .i64 0), (w1.heap.size, 1, .int .i64 0)]) hB4 (by simp [Cls, go_sem, F3, y3w2, y3w1, y3w0, y3wp1, y3wp2, y3w10, y3w1p1, y3w1p2])
      have F4 := C4
      simp only [Cls, and_true] at F4
      have y4w2 : w.heap.size + 1 + 1 < w4.heap.size := C4.blk (b := w.heap.size + 1 + 1) (k := 0) (v := .int .i64 0) (by simp)
      have y4w1 : w.heap.size + 1 < w4.heap.size := (by omega)
      have y4w0 : w.heap.size < w4.heap.size := (by omega)
      have y4wp1 : w.heap.size < w4.heap.size + 1 := (by omega)
      have y4wp2 : w.heap.size < w4.heap.size + 1 + 1 := (by omega)
      have y4w10 : w1.heap.size < w4.heap.size := C4.blk (b := w1.heap.size) (k := 0) (v := .int .i64 0) (by simp)
      have y4w1p1 : w1.heap.size < w4.heap.size + 1 := (by omega)
      have y4w1p2 : w1.heap.size < w4.heap.size + 1 + 1 := (by omega)
      cases neg2 with
      | true =>
        have HT2 := Lib.hid (HR2.out.1 rfl)
        clear HR2
        go_wp2
        refine bodyPost_ret (v := .tuple #[.bool false, .agg #[.int .i64 0, .int .i64 0]]) ?_ rfl (Told.ok (iff_of_false (by simp) fun h => (HRI.out.1 h).1 HT2.out) (by repeat (first | with_reducible exact D4 | with_reducible apply bdrew | with_reducible apply bdrewN | with_reducible apply balloc | ((with_reducible refine bset ?_ ?_ _); rotate_left; (first | omega | (simp <;> omega))))))
        simp [results, Try.results30, go_sem, F4, y4w2, y4w1, y4w0, y4wp1, y4wp2, y4w10, y4w1p1, y4w1p2]
      | false =>
        have HT2 := Lib.hid (fun h => Bool.false_ne_true (HR2.out.2 h))
        clear HR2
        go_wp2_with fail
        refine (HP.out _ (by repeat (first | with_reducible exact D4 | with_reducible apply bdrew | with_reducible apply bdrewN | with_reducible apply balloc | ((with_reducible refine bset ?_ ?_ _); rotate_left; (first | omega | (simp <;> omega)))))).mono ?_
        rintro e w5 ⟨rfl, hB5⟩
        have D5 := dstep w hB5 (by repeat (first | with_reducible exact D4 | with_reducible apply bdrew | with_reducible apply bdrewN | with_reducible apply balloc | ((with_reducible refine bset ?_ ?_ _); rotate_left; (first | omega | (simp <;> omega)))))
        have C5 := Cls.below (l := [(w.heap.size, 0, .slice AR ly cr), (w.heap.size, 1, .slice AB ly cb), (w.heap.size, 2, .slice AO n co), (w.heap.size + 1, 0, .slice Y ly cY), (w.heap.size + 1, 1, .int .i64 e), (w.heap.size + 1 + 1, 0, .int .i64 0), (w.heap.size + 1 + 1, 1, .int .i64 0), (w1.heap.size, 0, .int .i64 0), (w1.heap.size, 1, .int .i64 0)]) hB5 (by simp [Cls, go_sem, F4, y4w2, y4w1, y4w0, y4wp1, y4wp2, y4w10, y4w1p1, y4w1p2])
        have F5 := C5
        simp only [Cls, and_true] at F5
        have y5w2 : w.heap.size + 1 + 1 < w5.heap.size := C5.blk (b := w.heap.size + 1 + 1) (k := 0) (v := .int .i64 0) (by simp)
        have y5w1 : w.heap.size + 1 < w5.heap.size := (by omega)
        have y5w0 : w.heap.size < w5.heap.size := (by omega)
        have y5wp1 : w.heap.size < w5.heap.size + 1 := (by omega)
        have y5wp2 : w.heap.size < w5.heap.size + 1 + 1 := (by omega)
        have y5w10 : w1.heap.size < w5.heap.size := C5.blk (b := w1.heap.size) (k := 0) (v := .int .i64 0) (by simp)
        have y5w1p1 : w1.heap.size < w5.heap.size + 1 := (by omega)
        have y5w1p2 : w1.heap.size < w5.heap.size + 1 + 1 := (by omega)
        go_wp2
        refine bodyPost_ret (v := .tuple #[.bool (decide (s < 0)), .agg #[.int .i64 0, .int .i64 0]]) ?_ rfl (Told.ok (by
          rw [HRI.out, hs.out]
          constructor
          · intro h; exact ⟨HT2.out, HT.out, of_decide_eq_true h⟩
          · intro h; exact decide_eq_true h.2.2) (by repeat (first | with_reducible exact D5 | with_reducible apply bdrew | with_reducible apply bdrewN | with_reducible apply balloc | ((with_reducible refine bset ?_ ?_ _); rotate_left; (first | omega | (simp <;> omega))))))
        simp [results, Try.results30, go_sem, F5, y5w2, y5w1, y5w0, y5wp1, y5wp2, y5w10, y5w1p1, y5w1p2]
  · have hb1 : (a == 0) = false := by simpa using ha
    have hb2 : (a != 0) = true := by simpa using ha
    have HA := Lib.hid ha
    go_wp2_with fail
    go_region
    all_goals
      go_wp2
      refine bodyPost_ret (v := .tuple #[.bool false, .agg #[.int .i64 a, .int .i64 a2]]) ?_ rfl (Told.bad HA.out (by repeat (first | with_reducible exact D1 | with_reducible apply bdrew | with_reducible apply bdrewN | with_reducible apply balloc | ((with_reducible refine bset ?_ ?_ _); rotate_left; (first | omega | (simp <;> omega))))))
      simp [results, Try.results30, go_sem, F1, y1w2, y1w1, y1w0, y1wp1, y1wp2]


end Go.Proofs.Ytkepfmglljkjhaa
