/-
  What linear.Solve returns, in plain words.
  linear.vectorCode, product, negative, columns, fits.
  linear.fits, check.
  linear.Feasible, Improving, Refuted, Certified.
-/
import Derived.Test.YtkepfmglljkjhaaS4
import Derived.Test.YtkepfmglljkjhaaS3
import Derived.Test.YtkepfmglljkjhaaS2
namespace Go.Proofs.Ytkepfmglljkjhaa
open Go.RowKit
set_option linter.unusedVariables false
set_option linter.unusedSimpArgs false

/-- An entry of a list. -/
def atL (x : List Int) (j : Nat) : Int := (x[j]?).getD 0
theorem atL_row {n j : Nat} (f : Nat → Int) (h : j < n) : atL (tbRow n f) j = f j := by unfold atL; rw [tbRow_at f h]; rfl
/-- A vector of n numbers, with a denominator, in lowest terms. -/
structure VOk (n : Nat) (x : List Int) (d : Int) : Prop where
  len : x.length = n
  pos : 0 < d
  dle : d ≤ 100000000
  le : ∀ a ∈ x, -100000000 ≤ a ∧ a ≤ 100000000
  one : vgcd d x = 1
theorem tdiv_le {a g B : Int} (hg : 0 < g) (hd : g ∣ a) (h : -B ≤ a ∧ a ≤ B) : -B ≤ a.tdiv g ∧ a.tdiv g ≤ B := abs_of_mul hg (tdiv_mul_of_dvd hd) h
theorem vok_make {d : Int} {x : List Int} (hd0 : 0 < d) (hd1 : d ≤ 100000000) (hx : ∀ a ∈ x, -100000000 ≤ a ∧ a ≤ 100000000) : VOk x.length (vdiv d x) (d.tdiv (vgcd d x)) := by
  have hg := vgcd_pos (xs := x) hd0
  refine ⟨vdiv_len _ _, vden_pos hd0, (tdiv_le hg (vgcd_dvd x d).1 ⟨by omega, hd1⟩).2, fun a ha => ?_, vdiv_one hd0⟩
  unfold vdiv at ha
  obtain ⟨b, hb, rfl⟩ := List.mem_map.1 ha
  exact tdiv_le hg ((vgcd_dvd x d).2 b hb) (hx b hb)
theorem atL_div (d : Int) (x : List Int) (j : Nat) : vgcd d x * atL (vdiv d x) j = atL x j := by
  unfold atL
  rcases Nat.lt_or_ge j x.length with h | h
  · obtain ⟨y, h1, h2⟩ := vdiv_at (d := d) (List.getElem?_eq_getElem h)
    rw [h1, List.getElem?_eq_getElem h]; exact h2
  · rw [List.getElem?_eq_none h, List.getElem?_eq_none (by rw [vdiv_len]; exact h)]; simp
theorem vden_div (d : Int) (x : List Int) : vgcd d x * d.tdiv (vgcd d x) = d := tdiv_mul_of_dvd (vgcd_dvd x d).1
section
variable {P : LA.LP} {g : Int} {x x' : Nat → Int} {d d' : Int}
theorem le_of_scale {a b : Int} (hg : 0 < g) (h : g * a ≤ g * b) : a ≤ b := Int.le_of_mul_le_mul_left h hg
theorem lt_of_scale {a b : Int} (hg : 0 < g) (h : g * a < g * b) : a < b := Int.lt_of_mul_lt_mul_left h (Int.le_of_lt hg)
theorem sum_scale {n : Nat} (A : Nat → Int) (h : ∀ j, j < n → x j = g * x' j) : LA.sumN n (fun j => A j * x j) = g * LA.sumN n fun j => A j * x' j := by
  rw [← LA.sumN_mul]
  exact LA.sumN_congr fun j hj => by rw [h j hj]; grind
theorem nn_scale {a : Int} (hg : 0 < g) (h : 0 ≤ g * a) : 0 ≤ a := le_of_scale hg (by rw [Int.mul_zero]; exact h)
theorem pt_scale (hg : 0 < g) (hx : ∀ j, j < P.n → x j = g * x' j) (hd : d = g * d') (h : LA.IsPt P x d) : LA.IsPt P x' d' :=
  ⟨fun k hk => le_of_scale hg (by
    have h1 := h.1 k hk
    rw [sum_scale _ hx, hd] at h1
    have : g * (P.b k * d') = P.b k * (g * d') := by grind
    omega), fun j hj => nn_scale hg (by rw [← hx j hj]; exact h.2 j hj)⟩
theorem du_scale (hg : 0 < g) (hx : ∀ j, j < P.m → x j = g * x' j) (hd : d = g * d') (h : LA.IsDu P x d) : LA.IsDu P x' d' :=
  ⟨fun k hk => le_of_scale hg (by
    have h1 := h.1 k hk
    rw [sum_scale _ hx, hd] at h1
    have : g * (P.c k * d') = P.c k * (g * d') := by grind
    omega), fun j hj => nn_scale hg (by rw [← hx j hj]; exact h.2 j hj)⟩
theorem ref_scale (hg : 0 < g) (hx : ∀ j, j < P.m → x j = g * x' j) (h : LA.IsRef P x) : LA.IsRef P x' :=
  ⟨fun k hk => nn_scale hg (by rw [← sum_scale _ hx]; exact h.1 k hk), fun j hj => nn_scale hg (by rw [← hx j hj]; exact h.2.1 j hj), lt_of_scale hg (by rw [← sum_scale _ hx, Int.mul_zero]; exact h.2.2)⟩
theorem ray_scale (hg : 0 < g) (hx : ∀ j, j < P.n → x j = g * x' j) (h : LA.IsRay P x) : LA.IsRay P x' :=
  ⟨fun k hk => le_of_scale hg (by rw [← sum_scale _ hx, Int.mul_zero]; exact h.1 k hk), fun j hj => nn_scale hg (by rw [← hx j hj]; exact h.2.1 j hj), lt_of_scale hg (by rw [← sum_scale _ hx, Int.mul_zero]; exact h.2.2)⟩
end
/-- The best value, with a point and a dual solution that prove it. -/
structure SolOpt (P : LA.LP) (num den : Int) (x : List Int) (dx : Int) (y : List Int) (dy : Int) : Prop where
  dpos : 0 < den
  cop : Int.gcd num den = 1
  nle : -707788800 ≤ num ∧ num ≤ 707788800
  dle : den ≤ 1179648
  xok : VOk P.n x dx
  yok : VOk P.m y dy
  px : LA.IsPt P (atL x) dx
  py : LA.IsDu P (atL y) dy
  vx : LA.valP P (atL x) * den = num * dx
  vy : LA.valD P (atL y) * den = num * dy
def SolOut (P : LA.LP) (st num den : Int) (x : List Int) (dx : Int) (y : List Int) (dy : Int) (r : List Int) (dr : Int) : Prop :=
  (st = 1 ∧ SolOpt P num den x dx y dy ∧ r = [] ∧ dr = 0) ∨
  (st = 2 ∧ num = 0 ∧ den = 0 ∧ x = [] ∧ dx = 0 ∧ r = [] ∧ dr = 0 ∧ VOk P.m y dy ∧ LA.IsRef P (atL y)) ∨
  (st = 3 ∧ num = 0 ∧ den = 0 ∧ y = [] ∧ dy = 0 ∧ VOk P.n x dx ∧ VOk P.n r dr ∧ LA.IsPt P (atL x) dx ∧ LA.IsRay P (atL r))
theorem SolOut.out {P : LA.LP} {st num den dx dy dr : Int} {x y r : List Int} (h : SolOut P st num den x dx y dy r dr) : LA.Outcome P st num den := by
  rcases h with ⟨h1, h2, _⟩ | ⟨h1, h2, h3, _, _, _, _, h4, h5⟩ | ⟨h1, h2, h3, _, _, h4, h5, h6, h7⟩
  · exact .inl ⟨h1, h2.dpos, ⟨_, dx, h2.xok.pos, h2.px, h2.vx⟩, _, dy, h2.yok.pos, h2.py, h2.vy⟩
  · exact .inr (.inl ⟨h1, h2, h3, _, h5⟩)
  · exact .inr (.inr ⟨h1, h2, h3, ⟨_, dx, h4.pos, h6⟩, _, h7⟩)
section
variable {P : LA.LP} {s : LA.St}
theorem ptV_le (hP : LA.LPIn P) (h : LA.Ok P s) {col : Nat} {B : Int} (hB : 0 ≤ B) (hc : ∀ i, i < P.m → -B ≤ s.T i col ∧ s.T i col ≤ B) (j : Nat) : -B ≤ LA.ptV P s col j ∧ LA.ptV P s col j ≤ B := by
  by_cases e : ∃ i, i < P.m ∧ s.bs i = j
  · obtain ⟨i, hi, rfl⟩ := e
    rw [LA.pt_at h.toTabl col hi]; exact hc i hi
  · rw [LA.pt_out col fun i hi e2 => e ⟨i, hi, e2⟩]; omega
/-- The lists of numbers that Solve brings to lowest terms. -/
def solX (P : LA.LP) (s : LA.St) : List Int := tbRow P.n fun j => 1 * ptTo s.bs s.T (P.n + P.m + 1) P.m j
def solY (P : LA.LP) (s : LA.St) (o : Nat) : List Int := tbRow P.m fun k => s.T o (P.n + k)
def solR (P : LA.LP) (s : LA.St) (c : Nat) : List Int := tbRow P.n fun j => if j = c then s.den else -1 * ptTo s.bs s.T c P.m j
theorem solX_at {j : Nat} (hj : j < P.n) : atL (solX P s) j = LA.ptV P s P.last j := by
  unfold solX; rw [atL_row _ hj, Int.one_mul]; rfl
theorem solY_at {o k : Nat} (hk : k < P.m) : atL (solY P s o) k = s.T o (P.n + k) := by unfold solY; rw [atL_row _ hk]
theorem solR_at {c j : Nat} (hj : j < P.n) : atL (solR P s c) j = LA.rayV P s c j := by
  unfold solR; rw [atL_row _ hj]
  unfold LA.rayV
  split
  · rfl
  · rw [Int.neg_mul, Int.one_mul]; rfl
theorem mem_row {n : Nat} {f : Nat → Int} {a : Int} (h : a ∈ tbRow n f) : ∃ j, j < n ∧ a = f j := by
  unfold tbRow at h
  obtain ⟨j, hj, e⟩ := List.mem_map.1 h
  exact ⟨j, List.mem_range.1 hj, e.symm⟩
theorem solX_le (hP : LA.LPIn P) (h : LA.Ok P s) : ∀ a ∈ solX P s, -5898240 ≤ a ∧ a ≤ 5898240 := fun a ha => by
  obtain ⟨j, hj, rfl⟩ := mem_row ha
  rw [Int.one_mul]
  exact ptV_le hP h (B := 5898240) (by omega) (fun i hi => h.le_last hP hi) j
theorem solR_le (hP : LA.LPIn P) (h : LA.Ok P s) {c : Nat} (hc : c ≤ P.n + P.m) : ∀ a ∈ solR P s c, -1179648 ≤ a ∧ a ≤ 1179648 := fun a ha => by
  obtain ⟨j, hj, rfl⟩ := mem_row ha
  have h1 := ptV_le hP h (B := 1179648) (by omega) (fun i hi => h.le_col hP hi hc) j
  have h2 := h.le_den hP
  have h3 := h.pos
  split
  · omega
  · have e : ptTo s.bs s.T c P.m j = LA.ptV P s c j := rfl
    rw [e, Int.neg_mul, Int.one_mul]; omega
theorem solY_le (hP : LA.LPIn P) (h : LA.Ok P s) : ∀ a ∈ solY P s P.m, -5898240 ≤ a ∧ a ≤ 5898240 := fun a ha => by
  obtain ⟨j, hj, rfl⟩ := mem_row ha
  exact h.goal_slack hP hj
theorem solZ_le (hP : LA.LPIn P) (h : LA.Ok P s) : ∀ a ∈ solY P s (P.m + 1), -294912 ≤ a ∧ a ≤ 294912 := fun a ha => by
  obtain ⟨j, hj, rfl⟩ := mem_row ha
  exact h.art_slack hP hj
theorem vok_row {n : Nat} {d B : Int} {f : Nat → Int} (hd0 : 0 < d) (hd1 : d ≤ 100000000) (hB : B ≤ 100000000) (hx : ∀ a ∈ tbRow n f, -B ≤ a ∧ a ≤ B) : VOk n (vdiv d (tbRow n f)) (d.tdiv (vgcd d (tbRow n f))) := by
  have h := vok_make (x := tbRow n f) hd0 hd1 (fun a ha => by have := hx a ha; omega)
  rw [tbRow_len] at h; exact h
theorem sol_pt (hP : LA.LPIn P) (h : LA.Ok P s) (hno : LA.NoArt P s) : VOk P.n (vdiv s.den (solX P s)) (s.den.tdiv (vgcd s.den (solX P s))) ∧ LA.IsPt P (atL (vdiv s.den (solX P s))) (s.den.tdiv (vgcd s.den (solX P s))) ∧ vgcd s.den (solX P s) * LA.valP P (atL (vdiv s.den (solX P s))) = LA.valP P (LA.ptV P s P.last) := by
  have hd := h.le_den hP
  have hp := h.pos
  have hg := vgcd_pos (xs := solX P s) hp
  have hat : ∀ j, j < P.n → LA.ptV P s P.last j = vgcd s.den (solX P s) * atL (vdiv s.den (solX P s)) j := fun j hj => by rw [atL_div, solX_at hj]
  have h1 := LA.point_ok h hno
  refine ⟨vok_row hp (by omega) (B := 5898240) (by omega) (solX_le hP h), pt_scale hg hat (vden_div _ _).symm ⟨h1.2, fun j _ => h1.1 j⟩, ?_⟩
  unfold LA.valP
  rw [sum_scale _ hat]
theorem sol_inf (hP : LA.LPIn P) (h : LA.Ok P s) (hno : LA.NoArt P s) {c : Nat} (hc : c < P.n + P.m) (hneg : s.T P.m c < 0) (hle : ∀ i, i < P.m → s.T i c ≤ 0) :
    SolOut P 3 0 0 (vdiv s.den (solX P s)) (s.den.tdiv (vgcd s.den (solX P s))) [] 0 (vdiv s.den (solR P s c)) (s.den.tdiv (vgcd s.den (solR P s c))) := by
  have hd := h.le_den hP
  have hp := h.pos
  have hg := vgcd_pos (xs := solR P s c) hp
  have h1 := LA.ray_ok h hno hc hneg hle
  have h2 := sol_pt hP h hno
  have hat : ∀ j, j < P.n → LA.rayV P s c j = vgcd s.den (solR P s c) * atL (vdiv s.den (solR P s c)) j := fun j hj => by rw [atL_div, solR_at hj]
  exact .inr (.inr ⟨rfl, rfl, rfl, rfl, rfl, h2.1, vok_row hp (by omega) (B := 1179648) (by omega) (solR_le hP h (by omega)), h2.2.1, ray_scale hg hat ⟨h1.2.1, fun j _ => h1.1 j, h1.2.2⟩⟩)
theorem sol_none (hP : LA.LPIn P) (h : LA.Ok P s) (hopt : ∀ j, j < P.n + P.m + 1 → 0 ≤ s.T (P.m + 1) j) (hneg : s.T (P.m + 1) P.last < 0) :
    SolOut P 2 0 0 [] 0 (vdiv s.den (solY P s (P.m + 1))) (s.den.tdiv (vgcd s.den (solY P s (P.m + 1)))) [] 0 := by
  have hd := h.le_den hP
  have hp := h.pos
  have hg := vgcd_pos (xs := solY P s (P.m + 1)) hp
  have h1 := LA.refuted_ok h hopt hneg
  have hat : ∀ k, k < P.m → s.T (P.m + 1) (P.n + k) = vgcd s.den (solY P s (P.m + 1)) * atL (vdiv s.den (solY P s (P.m + 1))) k := fun k hk => by rw [atL_div, solY_at hk]
  refine .inr (.inl ⟨rfl, rfl, rfl, rfl, rfl, rfl, rfl, vok_row hp (by omega) (B := 294912) (by omega) (solZ_le hP h), ref_scale (x := fun k => s.T (P.m + 1) (P.n + k)) hg hat ⟨h1.2.1, h1.1, h1.2.2⟩⟩)
theorem qn_le {n d B : Int} (hd : 0 < d) (h : -B ≤ n ∧ n ≤ B) : -B ≤ qn n d ∧ qn n d ≤ B := by
  have e : qs n d = n := by unfold qs; rw [if_neg (by omega)]
  have h1 := qn_mul n d
  rw [e, Int.mul_comm] at h1
  exact abs_of_mul (by have := gcd_pos (n := n) (d := d) (by omega); omega) h1 h
theorem qd_le {n d B : Int} (hd : 0 < d) (h : d ≤ B) : qd n d ≤ B := by
  have e : qs d d = d := by unfold qs; rw [if_neg (by omega)]
  have h1 := qd_mul n d
  rw [e, Int.mul_comm] at h1
  exact (abs_of_mul (B := B) (by have := gcd_pos (n := n) (d := d) (by omega); omega) h1 ⟨by omega, h⟩).2
theorem qfit_in {n d : Int} (hd : 0 < d) (h1 : d ≤ 1000000000) (h : -1000000000 ≤ n ∧ n ≤ 1000000000) : qfit n d := ⟨(qn_le hd h).1, (qn_le hd h).2, qd_le hd h1⟩
theorem sol_opt (hP : LA.LPIn P) (h : LA.Ok P s) (hno : LA.NoArt P s) (hopt : ∀ j, j < P.n + P.m → 0 ≤ s.T P.m j) :
    rc (s.T P.m P.last) s.den = 0 ∧ ri (s.T P.m P.last) s.den = 0 ∧ SolOut P 1 (rn (s.T P.m P.last) s.den) (rd (s.T P.m P.last) s.den) (vdiv s.den (solX P s)) (s.den.tdiv (vgcd s.den (solX P s))) (vdiv s.den (solY P s P.m)) (s.den.tdiv (vgcd s.den (solY P s P.m))) [] 0 := by
  have hd := h.le_den hP
  have hp := h.pos
  have hg := vgcd_pos (xs := solX P s) hp
  have hg2 := vgcd_pos (xs := solY P s P.m) hp
  have hgl := h.goal_last hP
  obtain ⟨o1, o2, o3, o4⟩ := LA.optimal_ok h hno hopt
  obtain ⟨p1, p2, p3⟩ := sol_pt hP h hno
  have hfit := qfit_in (n := s.T P.m P.last) hp (by omega) (by omega)
  have hat : ∀ k, k < P.m → s.T P.m (P.n + k) = vgcd s.den (solY P s P.m) * atL (vdiv s.den (solY P s P.m)) k := fun k hk => by rw [atL_div, solY_at hk]
  have hq := q_mul (n := s.T P.m P.last) (d := s.den) (by omega)
  have hqd := qd_pos (n := s.T P.m P.last) (d := s.den) (by omega)
  have ev : LA.valP P (LA.ptV P s P.last) = s.T P.m P.last := o3
  have key : ∀ {g v d' : Int}, 0 < g → g * v = s.T P.m P.last → g * d' = s.den → v * qd (s.T P.m P.last) s.den = qn (s.T P.m P.last) s.den * d' := fun {g v d'} hg h1 h2 => by
    rw [← h1, ← h2] at hq ⊢
    refine Int.eq_of_mul_eq_mul_left (show g ≠ 0 by omega) ?_
    grind
  refine ⟨by unfold rc; rw [if_pos hfit], by unfold ri; rw [if_pos hfit], .inl ⟨rfl, ?_, rfl, rfl⟩⟩
  have er : rn (s.T P.m P.last) s.den = qn (s.T P.m P.last) s.den := by unfold rn; rw [if_pos hfit]
  have ed : rd (s.T P.m P.last) s.den = qd (s.T P.m P.last) s.den := by unfold rd; rw [if_pos hfit]
  rw [er, ed]
  refine ⟨by omega, q_gcd (by omega), qn_le hp hgl, qd_le hp hd, p1, vok_row hp (by omega) (B := 5898240) (by omega) (solY_le hP h), p2, du_scale (x := fun k => s.T P.m (P.n + k)) hg2 hat (vden_div _ _).symm ⟨o2, o1⟩, key hg (by rw [p3, ev]) (vden_div _ _), key hg2 ?_ (vden_div _ _)⟩
  rw [← o4]
  unfold LA.valD
  rw [sum_scale _ hat]
end
/-! ### Parts of a row in memory -/
theorem row_part (N n m : Nat) (f : Nat → Int) (h : n + m ≤ N) : ((tbRow N f).drop n).take m = tbRow m fun k => f (n + k) := by
  apply List.ext_getElem?
  intro i
  rw [List.getElem?_take]
  split
  · next hi => rw [List.getElem?_drop, tbRow_at f (by omega), tbRow_at _ hi]
  · next hi => rw [List.getElem?_eq_none (by rw [tbRow_len]; omega)]
theorem Ints.take {w : World} {A : Option Addr} {xs : List Int} (h : Ints w A xs) (k : Nat) : Ints w A (xs.take k) := fun j u hu => by
  rw [List.map_take, List.getElem?_take] at hu
  split at hu
  · exact h j u hu
  · cases hu
/-- s[n:n+m] of a row of N numbers. -/
theorem cut_part (g N n m : Nat) (hN : n + m < N) (hN2 : N ≤ 1000) : ∃ A' : Option Addr, (∀ (w : World) (f : Nat → Int), IArr w g (tbRow N f) → Ints w A' (tbRow m fun k => f (n + k))) ∧
    ∀ (i j : Int), i = (n : Int) → j = (n : Int) + (m : Int) → ∀ (w : World), (Instr.slice 23 (.slice (some ⟨g, 0, none⟩) N N) (some (.int .i64 i)) (some (.int .i64 j)) none).run Try.prog w = .ok (.slice A' m (N - n)) w := by
  refine ⟨(some (⟨g, 0, none⟩ : Addr)).map (·.add n), fun w f h => ?_, ?_⟩
  · rw [← row_part N n m f (by omega)]
    exact (Ints.drop h.ints n).take m
  · rintro i j rfl rfl w
    have h0 : (0 : Int) ≤ n := by omega
    have h1 : (n : Int) ≤ (n : Int) + m := by omega
    have h2 : (0 : Int) ≤ (n : Int) + m := by omega
    have h3 : (n : Int) + (m : Int) ≤ N := by omega
    have h4 : ¬ N = n := by omega
    have h5 : ((n : Int) + (m : Int)).toNat = n + m := by omega
    simp [go_sem, Try.underlying23, h0, h1, h2, h3, h4, h5]
    try omega

end Go.Proofs.Ytkepfmglljkjhaa

namespace Go.Proofs.Ytkepfmglljkjhaa
open Go.RowKit
set_option linter.unusedVariables false
set_option linter.unusedSimpArgs false

/-- The error code of a vector. -/
def vecC (x : List Int) (d k : Int) : Int :=
  if ¬ (x.length : Int) = k then 9 else if d < 1 ∨ 100000000 < d then 3 else if ¬ ∀ a ∈ x, -100000000 ≤ a ∧ a ≤ 100000000 then 3 else if vgcd d x ≠ 1 then 5 else 0
theorem vecC_1 {x : List Int} {d k : Int} (h : ¬ (x.length : Int) = k) : vecC x d k = 9 := by unfold vecC; rw [if_pos h]
theorem vecC_2 {x : List Int} {d k : Int} (h : (x.length : Int) = k) (h2 : d < 1 ∨ 100000000 < d) : vecC x d k = 3 := by unfold vecC; rw [if_neg (fun e => e h), if_pos h2]
theorem vecC_3 {x : List Int} {d k : Int} (h : (x.length : Int) = k) (h2 : ¬ (d < 1 ∨ 100000000 < d)) (h3 : ¬ ∀ a ∈ x, -100000000 ≤ a ∧ a ≤ 100000000) : vecC x d k = 3 := by unfold vecC; rw [if_neg (fun e => e h), if_neg h2, if_pos h3]
theorem vecC_4 {x : List Int} {d k : Int} (h : (x.length : Int) = k) (h2 : ¬ (d < 1 ∨ 100000000 < d)) (h3 : ∀ a ∈ x, -100000000 ≤ a ∧ a ≤ 100000000) (h4 : vgcd d x ≠ 1) : vecC x d k = 5 := by unfold vecC; rw [if_neg (fun e => e h), if_neg h2, if_neg (fun e => e h3), if_pos h4]
theorem vecC_5 {x : List Int} {d k : Int} (h : (x.length : Int) = k) (h2 : ¬ (d < 1 ∨ 100000000 < d)) (h3 : ∀ a ∈ x, -100000000 ≤ a ∧ a ≤ 100000000) (h4 : vgcd d x = 1) : vecC x d k = 0 := by unfold vecC; rw [if_neg (fun e => e h), if_neg h2, if_neg (fun e => e h3), if_neg (fun e => e h4)]
theorem vecC_zero {x : List Int} {d : Int} {n : Nat} (h : vecC x d n = 0) : VOk n x d := by
  by_cases h1 : (x.length : Int) = n
  · by_cases h2 : d < 1 ∨ 100000000 < d
    · rw [vecC_2 h1 h2] at h; omega
    · by_cases h3 : ∀ a ∈ x, -100000000 ≤ a ∧ a ≤ 100000000
      · by_cases h4 : vgcd d x = 1
        · exact ⟨by omega, by omega, by omega, h3, h4⟩
        · rw [vecC_4 h1 h2 h3 h4] at h; omega
      · rw [vecC_3 h1 h2 h3] at h; omega
  · rw [vecC_1 h1] at h; omega
theorem VOk.code {x : List Int} {d : Int} {n : Nat} (h : VOk n x d) : vecC x d n = 0 := vecC_5 (by rw [h.len]) (by have := h.pos; have := h.dle; omega) h.le h.one
set_option maxRecDepth 100000 in
set_option maxHeartbeats 2000000 in
theorem lvcode_any (w : World) (A : Option Addr) (cA : Nat) (x : List Int) (d k : Int) (hI : Ints w A x) (hn : x.length ≤ 9223372036854775807) :
    Calls Try.prog 56 #[.agg #[.slice A x.length cA, .int .i64 d], .int .i64 k] w fun e w' => e = .returned (.int .i64 (vecC x d k)) ∧ Below w.heap.size w w' := by
  by_cases h1 : (x.length : Int) = k
  · have h1' : ((x.length : Int) != k) = false := by simp [h1]
    by_cases h2 : d < 1 ∨ 100000000 < d
    · have HV := Lib.hid (vecC_2 h1 h2)
      rcases h2 with h2 | h2
      · have hd1 : decide (d < 1) = true := decide_eq_true h2
        have hd3 : decide (d > 100000000) = false := decide_eq_false (by omega)
        go_enter Try.func56, Try.ntmps56
        go_wp2
        refine bodyPost_ret (v := .int .i64 3) ?_ rfl ⟨by rw [HV.out], by repeat (first | with_reducible exact Below.refl _ _ | with_reducible apply bdrew | with_reducible apply bdrewN | with_reducible apply balloc | ((with_reducible refine bset ?_ ?_ _); rotate_left; (first | omega | (simp <;> omega))))⟩
        simp [results, Try.results56, go_sem]
      · have hd1 : decide (d < 1) = false := decide_eq_false (by omega)
        have hd2 : decide (d > 100000000) = true := decide_eq_true (by omega)
        go_enter Try.func56, Try.ntmps56
        go_wp2
        refine bodyPost_ret (v := .int .i64 3) ?_ rfl ⟨by rw [HV.out], by repeat (first | with_reducible exact Below.refl _ _ | with_reducible apply bdrew | with_reducible apply bdrewN | with_reducible apply balloc | ((with_reducible refine bset ?_ ?_ _); rotate_left; (first | omega | (simp <;> omega))))⟩
        simp [results, Try.results56, go_sem]
    · have hd1 : decide (d < 1) = false := decide_eq_false (by omega)
      have hd2 : decide (d > 100000000) = false := decide_eq_false (by omega)
      have hd3 : 1 ≤ d ∧ d ≤ 100000000 := by omega
      obtain ⟨hd4, hd5⟩ := hd3
      have H1 := Lib.hid h1
      have H2 := Lib.hid h2
      have HLE := Lib.hid (fun k => vgcd_le (xs := x.take k) (d := d) (by omega))
      have HPO := Lib.hid (fun k => vgcd_pos (xs := x.take k) (d := d) (by omega))
      obtain ⟨l, hl⟩ : ∃ l, Hid (x.length = l) := ⟨_, Lib.hid rfl⟩
      rw [hl.out] at h1 h1' hn ⊢
      subst h1
      have HLN := Lib.hid (show (l : Int) = (l : Int) from rfl)
      clear h2
      go_enter Try.func56, Try.ntmps56
      go_wp2_with fail
      go_loopw [5, 26] (fun g y wr => ∃ j : Nat, j ≤ l ∧ y = .int .i64 j ∧ g = .int .i64 (vgcd d (x.take j)) ∧ Hid (∀ a ∈ x.take j, -100000000 ≤ a ∧ a ≤ 100000000) ∧ Below w.heap.size w wr ∧ Cls wr [(w.heap.size, 0, .slice A l cA), (w.heap.size, 1, .int .i64 d)]) (fun _ y _ => l - (intOf y).toNat)
      case atStart => exact ⟨0, Nat.zero_le _, rfl, rfl, Lib.hid (by simp), (by repeat (first | with_reducible exact Below.refl _ _ | with_reducible apply bdrew | with_reducible apply bdrewN | with_reducible apply balloc | ((with_reducible refine bset ?_ ?_ _); rotate_left; (first | omega | (simp <;> omega))))), (by simp [Cls, go_sem])⟩
      case round =>
        obtain ⟨j, hj, rfl, rfl, HA, hBr, hCr⟩ := hrel
        obtain ⟨w1, rfl⟩ : ∃ wo : World, wo = wr := ⟨_, rfl⟩
        have drs := hBr.size
        have Fr := hCr
        simp only [Cls, and_true] at Fr
        have yrw0 : w.heap.size < w1.heap.size := hCr.blk (b := w.heap.size) (k := 0) (v := .slice A l cA) (by simp)
        have yrwp1 : w.heap.size < w1.heap.size + 1 := (by omega)
        have yrwp2 : w.heap.size < w1.heap.size + 1 + 1 := (by omega)
        have hg1 := HLE.out j
        have hg0 := HPO.out j
        by_cases hlt : j < l
        · obtain ⟨ad, y, rfl, hy, hyc⟩ := (hI.below hBr).at_ (k := j) (by rw [hl.out]; exact hlt)
          have HT := Lib.hid (vgcd_take (d := d) hy.out)
          obtain ⟨g, hg⟩ : ∃ g, Hid (vgcd d (x.take j) = g) := ⟨_, Lib.hid rfl⟩
          rw [hg.out] at HT hg0 hg1 ⊢
          by_cases hin : -100000000 ≤ y ∧ y ≤ 100000000
          · have HIN := Lib.hid hin
            obtain ⟨hin1, hin2⟩ := hin
            go_wp2_with fail
            refine (lwithin_yes _ _ _ (by omega) (by omega) HIN.out).mono ?_
            rintro e w' ⟨rfl, rfl⟩
            go_wp2_with fail
            refine (lgcd_any _ _ _ (by omega) (by omega)).mono ?_
            rintro e w2 ⟨rfl, hB2⟩
            have D2 := dstep w hB2 (by repeat (first | with_reducible exact hBr | with_reducible apply bdrew | with_reducible apply bdrewN | with_reducible apply balloc | ((with_reducible refine bset ?_ ?_ _); rotate_left; (first | omega | (simp <;> omega)))))
            have C2 := Cls.below (l := [(w.heap.size, 0, .slice (some ad) l cA), (w.heap.size, 1, .int .i64 d)]) hB2 (by simp [Cls, go_sem, Fr, yrw0, yrwp1, yrwp2])
            go_wp2
            go_roundw
            case rel => exact ⟨j + 1, by omega, by go_num, by rw [HT.out], Lib.hid (fun c hc => by
              rw [List.take_add_one, hy.out] at hc
              rcases List.mem_append.1 hc with h | h
              · exact HA.out c h
              · have : c = y := by simpa using h
                rw [this]; exact HIN.out), by repeat (first | with_reducible exact D2 | with_reducible apply bdrew | with_reducible apply bdrewN | with_reducible apply balloc | ((with_reducible refine bset ?_ ?_ _); rotate_left; (first | omega | (simp <;> omega)))), Cls.below (w := w2) (by repeat (first | with_reducible exact Below.refl _ _ | with_reducible apply bdrew | with_reducible apply bdrewN | with_reducible apply balloc | ((with_reducible refine bset ?_ ?_ _); rotate_left; (first | omega | (simp <;> omega))))) C2⟩
            case measure => simp [intOf]; omega
          · have HV := Lib.hid (vecC_3 H1.out H2.out (fun h => hin (h y (List.mem_of_getElem? hy.out))))
            have HIN := Lib.hid hin
            clear hin
            go_wp2_with fail
            refine (lwithin_no _ _ _ (by omega) (by omega) HIN.out).mono ?_
            rintro e w' ⟨rfl, rfl⟩
            go_wp2
            refine bodyPost_ret (v := .int .i64 3) ?_ rfl ⟨by rw [HV.out], by repeat (first | with_reducible exact hBr | with_reducible apply bdrew | with_reducible apply bdrewN | with_reducible apply balloc | ((with_reducible refine bset ?_ ?_ _); rotate_left; (first | omega | (simp <;> omega))))⟩
            simp [results, Try.results56, go_sem, Fr, yrw0, yrwp1, yrwp2]
        · obtain rfl : l = j := by omega
          have hT : x.take l = x := List.take_of_length_le (by rw [hl.out]; exact Nat.le_refl _)
          have HA2 := Lib.hid (show ∀ a ∈ x, -100000000 ≤ a ∧ a ≤ 100000000 by have h := HA.out; rw [hT] at h; exact h)
          rw [hT]
          by_cases hone : vgcd d x = 1
          · have HV := Lib.hid (vecC_5 H1.out H2.out HA2.out hone)
            rw [hone]
            go_wp2
            refine bodyPost_ret (v := .int .i64 0) ?_ rfl ⟨by rw [HV.out], by repeat (first | with_reducible exact hBr | with_reducible apply bdrew | with_reducible apply bdrewN | with_reducible apply balloc | ((with_reducible refine bset ?_ ?_ _); rotate_left; (first | omega | (simp <;> omega))))⟩
            simp [results, Try.results56, go_sem, Fr, yrw0, yrwp1, yrwp2]
          · have HV := Lib.hid (vecC_4 H1.out H2.out HA2.out hone)
            obtain ⟨g, hg⟩ : ∃ g, Hid (vgcd d x = g) := ⟨_, Lib.hid rfl⟩
            rw [hg.out] at hone ⊢
            have hone' : (g != 1) = true := by simpa using hone
            go_wp2
            refine bodyPost_ret (v := .int .i64 5) ?_ rfl ⟨by rw [HV.out], by repeat (first | with_reducible exact hBr | with_reducible apply bdrew | with_reducible apply bdrewN | with_reducible apply balloc | ((with_reducible refine bset ?_ ?_ _); rotate_left; (first | omega | (simp <;> omega))))⟩
            simp [results, Try.results56, go_sem, Fr, yrw0, yrwp1, yrwp2]
  · have HV := Lib.hid (vecC_1 (d := d) h1)
    have h1' : ((x.length : Int) != k) = true := by simpa using h1
    go_enter Try.func56, Try.ntmps56
    go_wp2
    refine bodyPost_ret (v := .int .i64 9) ?_ rfl ⟨by rw [HV.out], by repeat (first | with_reducible exact Below.refl _ _ | with_reducible apply bdrew | with_reducible apply bdrewN | with_reducible apply balloc | ((with_reducible refine bset ?_ ?_ _); rotate_left; (first | omega | (simp <;> omega))))⟩
    simp [results, Try.results56, go_sem]

/-- The product of two lists of n numbers. -/
def dotL (n : Nat) (a b : List Int) : Int := LA.sumN n fun j => atL a j * atL b j
theorem dotL_succ (k : Nat) (a b : List Int) : dotL (k + 1) a b = dotL k a b + atL a k * atL b k := rfl
theorem mul_le {x y X Y : Int} (hx : -X ≤ x ∧ x ≤ X) (hy : -Y ≤ y ∧ y ≤ Y) : -(X * Y) ≤ x * y ∧ x * y ≤ X * Y := LA.abs_mul hx hy
theorem atL_le {a : List Int} {X : Int} (hX : 0 ≤ X) (h : ∀ x ∈ a, -X ≤ x ∧ x ≤ X) (j : Nat) : -X ≤ atL a j ∧ atL a j ≤ X := by
  unfold atL
  cases e : a[j]? with
  | none => simp only [Option.getD_none]; omega
  | some y => exact h y (List.mem_of_getElem? e)
theorem dotL_le {a b : List Int} (ha : ∀ x ∈ a, -100 ≤ x ∧ x ≤ 100) (hb : ∀ x ∈ b, -100000000 ≤ x ∧ x ≤ 100000000) : ∀ k : Nat, -((k : Int) * 10000000000) ≤ dotL k a b ∧ dotL k a b ≤ (k : Int) * 10000000000
  | 0 => by unfold dotL; simp [LA.sumN]
  | k + 1 => by
    have h1 := dotL_le ha hb k
    have h2 := mul_le (atL_le (by omega) ha k) (atL_le (by omega) hb k)
    rw [dotL_succ]
    omega
theorem atL_some {a : List Int} {j : Nat} {x : Int} (h : a[j]? = some x) : atL a j = x := by unfold atL; rw [h]; rfl
set_option maxRecDepth 100000 in
set_option maxHeartbeats 1000000 in
theorem lprod_any (w : World) (A B : Option Addr) (cA cB : Nat) (a b : List Int) (n : Nat) (hla : Hid (a.length = n)) (hlb : Hid (b.length = n)) (hn6 : n ≤ 6) (hIa : Ints w A a) (hIb : Ints w B b) (ha : ∀ x ∈ a, -100 ≤ x ∧ x ≤ 100) (hb : ∀ x ∈ b, -100000000 ≤ x ∧ x ≤ 100000000) :
    Calls Try.prog 50 #[.slice A n cA, .slice B n cB] w fun e w' => e = .returned (.int .i64 (dotL n a b)) ∧ Below w.heap.size w w' := by
  have HLE := Lib.hid (dotL_le ha hb)
  have HA := Lib.hid ha
  have HB := Lib.hid hb
  have HS := Lib.hid (dotL_succ (a := a) (b := b))
  clear ha hb
  go_enter Try.func50, Try.ntmps50
  go_wp2_with fail
  go_loopw [5, 9] (fun s x wr => ∃ j : Nat, j ≤ n ∧ x = .int .i64 j ∧ s = .int .i64 (dotL j a b) ∧ Below w.heap.size w wr) (fun _ x _ => n - (intOf x).toNat)
  case atStart => exact ⟨0, Nat.zero_le _, rfl, rfl, by repeat (first | with_reducible exact Below.refl _ _ | with_reducible apply bdrew | with_reducible apply bdrewN | with_reducible apply balloc | ((with_reducible refine bset ?_ ?_ _); rotate_left; (first | omega | (simp <;> omega))))⟩
  case round =>
    obtain ⟨j, hj, rfl, rfl, hBr⟩ := hrel
    obtain ⟨w1, rfl⟩ : ∃ wo : World, wo = wr := ⟨_, rfl⟩
    by_cases hlt : j < n
    · obtain ⟨ad, x, rfl, hx, hxc⟩ := (hIa.below hBr).at_ (k := j) (by rw [hla.out]; exact hlt)
      obtain ⟨ad2, y, rfl, hy, hyc⟩ := (hIb.below hBr).at_ (k := j) (by rw [hlb.out]; exact hlt)
      have h1 := HLE.out j
      have hxb := HA.out x (List.mem_of_getElem? hx.out)
      have hyb := HB.out y (List.mem_of_getElem? hy.out)
      have hmul := mul_le hxb hyb
      have HN := Lib.hid (show dotL (j + 1) a b = dotL j a b + x * y by rw [HS.out, atL_some hx.out, atL_some hy.out])
      obtain ⟨s, hs⟩ : ∃ s, Hid (dotL j a b = s) := ⟨_, Lib.hid rfl⟩
      rw [hs.out] at h1 HN ⊢
      obtain ⟨h11, h12⟩ := h1
      obtain ⟨hmul1, hmul2⟩ := hmul
      go_wp2_with fail
      go_quiet (fail)
      go_wp2
      go_roundw
      case rel => exact ⟨j + 1, by omega, by go_num, by rw [HN.out], by repeat (first | with_reducible exact hBr | with_reducible apply bdrew | with_reducible apply bdrewN | with_reducible apply balloc | ((with_reducible refine bset ?_ ?_ _); rotate_left; (first | omega | (simp <;> omega))))⟩
      case measure => simp [intOf]; omega
    · obtain rfl : n = j := by omega
      go_wp2
      go_ret
      exact ⟨rfl, by repeat (first | with_reducible exact hBr | with_reducible apply bdrew | with_reducible apply bdrewN | with_reducible apply balloc | ((with_reducible refine bset ?_ ?_ _); rotate_left; (first | omega | (simp <;> omega))))⟩

set_option maxRecDepth 100000 in
set_option maxHeartbeats 1000000 in
theorem lneg_any (w : World) (A : Option Addr) (cA : Nat) (l : List Int) (n : Nat) (hl : Hid (l.length = n)) (hn6 : n ≤ 100) (hI : Ints w A l) :
    Calls Try.prog 48 #[.slice A n cA] w fun e w' => ∃ ok : Bool, e = .returned (.bool ok) ∧ Hid (ok = true ↔ ∃ a ∈ l, a < 0) ∧ Below w.heap.size w w' := by
  go_enter Try.func48, Try.ntmps48
  go_wp2_with fail
  go_loopw [7] (fun x wr => ∃ j : Nat, j ≤ n ∧ x = .int .i64 j ∧ Hid (∀ a ∈ l.take j, 0 ≤ a) ∧ Below w.heap.size w wr) (fun x _ => n - (intOf x).toNat)
  case atStart => exact ⟨0, Nat.zero_le _, rfl, Lib.hid (by simp), by repeat (first | with_reducible exact Below.refl _ _ | with_reducible apply bdrew | with_reducible apply bdrewN | with_reducible apply balloc | ((with_reducible refine bset ?_ ?_ _); rotate_left; (first | omega | (simp <;> omega))))⟩
  case round =>
    obtain ⟨j, hj, rfl, HA, hBr⟩ := hrel
    obtain ⟨w1, rfl⟩ : ∃ wo : World, wo = wr := ⟨_, rfl⟩
    by_cases hlt : j < n
    · obtain ⟨ad, x, rfl, hx, hxc⟩ := (hI.below hBr).at_ (k := j) (by rw [hl.out]; exact hlt)
      by_cases hneg : x < 0
      · have hd : decide (x < 0) = true := decide_eq_true hneg
        have HN := Lib.hid hneg
        go_wp2
        refine bodyPost_ret (v := .bool true) ?_ rfl ⟨true, rfl, Lib.hid (iff_of_true rfl ⟨x, List.mem_of_getElem? hx.out, HN.out⟩), by repeat (first | with_reducible exact hBr | with_reducible apply bdrew | with_reducible apply bdrewN | with_reducible apply balloc | ((with_reducible refine bset ?_ ?_ _); rotate_left; (first | omega | (simp <;> omega))))⟩
        simp [results, Try.results48, go_sem]
      · have hd : decide (x < 0) = false := decide_eq_false hneg
        have HN := Lib.hid (show 0 ≤ x by omega)
        go_wp2
        go_roundw
        case rel => exact ⟨j + 1, by omega, by go_num, Lib.hid (fun c hc => by
          rw [List.take_add_one, hx.out] at hc
          rcases List.mem_append.1 hc with h | h
          · exact HA.out c h
          · have : c = x := by simpa using h
            rw [this]; exact HN.out), by repeat (first | with_reducible exact hBr | with_reducible apply bdrew | with_reducible apply bdrewN | with_reducible apply balloc | ((with_reducible refine bset ?_ ?_ _); rotate_left; (first | omega | (simp <;> omega))))⟩
        case measure => simp [intOf]; omega
    · obtain rfl : n = j := by omega
      have HA2 := Lib.hid (show ¬ ∃ a ∈ l, a < 0 from fun ⟨a, h1, h2⟩ => by
        have h := HA.out a (by rw [List.take_of_length_le (by rw [hl.out]; exact Nat.le_refl _)]; exact h1)
        omega)
      go_wp2
      refine bodyPost_ret (v := .bool false) ?_ rfl ⟨false, rfl, Lib.hid (iff_of_false (by simp) HA2.out), by repeat (first | with_reducible exact hBr | with_reducible apply bdrew | with_reducible apply bdrewN | with_reducible apply balloc | ((with_reducible refine bset ?_ ?_ _); rotate_left; (first | omega | (simp <;> omega))))⟩
      simp [results, Try.results48, go_sem]

/-- The products of the columns with the first i numbers of y. -/
def colL (p : LpV) (y : List Int) (i j : Nat) : Int := LA.sumN i fun k => p.lp.A k j * atL y k
theorem colL_succ (p : LpV) (y : List Int) (i j : Nat) : colL p y (i + 1) j = colL p y i j + p.lp.A i j * atL y i := rfl
theorem LpOk.A_le {p : LpV} (h : LpOk p) (i j : Nat) : -4 ≤ p.lp.A i j ∧ p.lp.A i j ≤ 4 := by
  show -4 ≤ (((p.rows[i]?).getD [])[j]?).getD 0 ∧ (((p.rows[i]?).getD [])[j]?).getD 0 ≤ 4
  cases e : p.rows[i]? with
  | none => simp
  | some r =>
    have := (h.row e).2
    simp only [Option.getD_some]
    exact atL_le (by omega) this j
theorem colL_le {p : LpV} (hok : LpOk p) {y : List Int} (hy : ∀ x ∈ y, -100000000 ≤ x ∧ x ≤ 100000000) : ∀ i j : Nat, -((i : Int) * 400000000) ≤ colL p y i j ∧ colL p y i j ≤ (i : Int) * 400000000
  | 0, j => by unfold colL; simp [LA.sumN]
  | i + 1, j => by
    have h1 := colL_le hok hy i j
    have h2 := mul_le (hok.A_le i j) (atL_le (by omega) hy i)
    rw [colL_succ]
    omega
theorem colL_at {p : LpV} {y r : List Int} {i j : Nat} {a z : Int} (hr : p.rows[i]? = some r) (ha : r[j]? = some a) (hz : y[i]? = some z) : colL p y (i + 1) j = colL p y i j + z * a := by
  rw [colL_succ]
  have e : p.lp.A i j = a := by
    show (((p.rows[i]?).getD [])[j]?).getD 0 = a
    rw [hr, Option.getD_some, ha]; rfl
  rw [e, atL_some hz, Int.mul_comm]
set_option maxRecDepth 100000 in
set_option maxHeartbeats 2000000 in
theorem lcols_any (w : World) (AR AB AO : Option Addr) (cr cb co : Nat) (p : LpV) (hM : LpMem w AR AB AO p) (hok : LpOk p) (m n : Nat) (hrl : Hid (p.rows.length = m)) (hbl : Hid (p.bounds.length = m)) (hol : Hid (p.obj.length = n)) (hm6 : m ≤ 6) (hn6 : n ≤ 6) (Y : Option Addr) (cY : Nat) (y : List Int) (hly : Hid (y.length = m)) (hIy : Ints w Y y) (hyb : ∀ x ∈ y, -100000000 ≤ x ∧ x ≤ 100000000) :
    Calls Try.prog 49 #[.agg #[.slice AR m cr, .slice AB m cb, .slice AO n co], .slice Y m cY] w fun e w' => ∃ g : Nat, e = .returned (.slice (some ⟨g, 0, none⟩) n n) ∧ w.heap.size ≤ g ∧ IArr w' g (tbRow n fun j => colL p y m j) ∧ Below w.heap.size w w' := by
  have HRO := Lib.hid hM.rows.llr
  have HOK := Lib.hid hok
  have HLE := Lib.hid (colL_le hok hyb)
  have HYB := Lib.hid hyb
  have hmk := make_ints n (by omega)
  have HZ := Lib.hid (tbRow_zero n)
  clear hM hok hyb
  go_enter Try.func49, Try.ntmps49
  go_wp2_with fail
  go_loopw [17] (fun x wr => ∃ i : Nat, i ≤ m ∧ x = .int .i64 i ∧ IArr wr (w.heap.size + 1) (tbRow n fun j => colL p y i j) ∧ Below w.heap.size w wr ∧ Cls wr [(w.heap.size, 0, .slice AR m cr), (w.heap.size, 1, .slice AB m cb), (w.heap.size, 2, .slice AO n co)]) (fun x _ => m - (intOf x).toNat)
  case atStart => exact ⟨0, Nat.zero_le _, rfl, by (have h := IArr.made (w.alloc (.cells #[.slice AR m cr, .slice AB m cb, .slice AO n co] 25)) n (w.heap.size + 1) (by simp)); rw [HZ.out] at h; rw [tbRow_congr (show ∀ j, j < n → colL p y 0 j = (fun _ => (0 : Int)) j from fun _ _ => rfl)]; exact IArr.below h (by repeat (first | with_reducible exact Below.refl _ _ | with_reducible apply bdrew | with_reducible apply bdrewN | with_reducible apply balloc | ((with_reducible refine bset ?_ ?_ _); rotate_left; (first | omega | (simp <;> omega))))), (by repeat (first | with_reducible exact Below.refl _ _ | with_reducible apply bdrew | with_reducible apply bdrewN | with_reducible apply balloc | ((with_reducible refine bset ?_ ?_ _); rotate_left; (first | omega | (simp <;> omega))))), by simp [Cls, go_sem]⟩
  case round =>
    obtain ⟨i, hi, rfl, hA1, hBr, hCr⟩ := hrel
    obtain ⟨w1, rfl⟩ : ∃ wo : World, wo = wr := ⟨_, rfl⟩
    have drs := hBr.size
    have Fr := hCr
    simp only [Cls, and_true] at Fr
    have yrw0 : w.heap.size < w1.heap.size := hCr.blk (b := w.heap.size) (k := 0) (v := .slice AR m cr) (by simp)
    have yrwp1 : w.heap.size < w1.heap.size + 1 := (by omega)
    have yrwp2 : w.heap.size < w1.heap.size + 1 + 1 := (by omega)
    by_cases hlt : i < m
    · obtain ⟨ad, r, R, cR, rfl, hr, hrc0, hI⟩ := HRO.out.at_ (k := i) (by rw [hrl.out]; exact hlt)
      have HIR := Lib.hid hI
      have hrc := (hBr.cell (World.block_lt_of_cell? w _ hrc0)).trans hrc0
      have hrn := (HOK.out.row hr.out).1
      rw [hol.out] at hrn
      have HRN := Lib.hid hrn
      rw [hrn] at hrc
      clear hrn hrc0 hI
      have HRB := Lib.hid (HOK.out.row hr.out).2
      go_wp2_with fail
      go_loopw [24] (fun x wr => ∃ j : Nat, j ≤ n ∧ x = .int .i64 j ∧ IArr wr (w.heap.size + 1) (tbRow n fun k => if k < j then colL p y (i + 1) k else colL p y i k) ∧ Below w.heap.size w wr ∧ Cls wr [(w.heap.size, 0, .slice (some ad) m cr), (w.heap.size, 1, .slice AB m cb), (w.heap.size, 2, .slice AO n co)]) (fun x _ => n - (intOf x).toNat)
      case atStart => exact ⟨0, Nat.zero_le _, rfl, by rw [tbRow_congr (g := fun j => colL p y i j) fun j _ => if_neg (by omega)]; exact hA1.below (by repeat (first | with_reducible exact Below.refl _ _ | with_reducible apply bdrew | with_reducible apply bdrewN | with_reducible apply balloc | ((with_reducible refine bset ?_ ?_ _); rotate_left; (first | omega | (simp <;> omega))))), by repeat (first | with_reducible exact hBr | with_reducible apply bdrew | with_reducible apply bdrewN | with_reducible apply balloc | ((with_reducible refine bset ?_ ?_ _); rotate_left; (first | omega | (simp <;> omega)))), by simp [Cls, go_sem, Fr, yrw0, yrwp1, yrwp2]⟩
      case round =>
        obtain ⟨j, hj, rfl, hA2, hBs, hCs⟩ := hrel
        obtain ⟨w2, rfl⟩ : ∃ wo : World, wo = wr := ⟨_, rfl⟩
        have dss := hBs.size
        have Fs := hCs
        simp only [Cls, and_true] at Fs
        have ysw0 : w.heap.size < w2.heap.size := hCs.blk (b := w.heap.size) (k := 0) (v := .slice (some ad) m cr) (by simp)
        have yswp1 : w.heap.size < w2.heap.size + 1 := (by omega)
        have yswp2 : w.heap.size < w2.heap.size + 1 + 1 := (by omega)
        by_cases hlt2 : j < n
        · obtain ⟨ad3, a, rfl, ha, hac⟩ := ((show Ints w R r from HIR.out).below hBs).at_ (k := j) (by rw [HRN.out]; exact hlt2)
          obtain ⟨ad4, z, rfl, hz, hzc⟩ := (hIy.below hBs).at_ (k := i) (by rw [hly.out]; exact hlt)
          obtain ⟨s, hs, hsc, hsf⟩ := hA2.cell (i := j) (by rw [tbRow_len]; exact hlt2)
          have hse : s = colL p y i j := by have h := hs.out; rw [tbRow_at _ hlt2, if_neg (by omega)] at h; injection h with h; exact h.symm
          subst hse
          have h1 := HLE.out i j
          have hab := HRB.out a (List.mem_of_getElem? ha.out)
          have hzb := HYB.out z (List.mem_of_getElem? hz.out)
          have hmul := mul_le hzb hab
          have HN := Lib.hid (colL_at hr.out ha.out hz.out)
          obtain ⟨s, hs⟩ : ∃ s, Hid (colL p y i j = s) := ⟨_, Lib.hid rfl⟩
          rw [hs.out] at h1 HN hsc
          obtain ⟨h11, h12⟩ := h1
          obtain ⟨hmul1, hmul2⟩ := hmul
          clear hab hzb
          go_wp2_with fail
          refine region_still_tail 11 (by kernel_rfl) (by kernel_rfl) ?_
          simp only [List.take_succ_cons, List.take_zero, List.drop_succ_cons, List.drop_zero]
          repeat still_step
          refine wpStill_nil ?_
          go_wp2
          go_roundw
          case rel => exact ⟨j + 1, by omega, by go_num, (by
            have h := hA2.set_ j (s + z * a)
            rw [tbRow_set] at h
            rw [tbRow_congr (g := fun k => if k = j then s + z * a else if k < j then colL p y (i + 1) k else colL p y i k) fun k _ => by
              by_cases e : k = j
              · subst e; rw [if_pos (by omega), if_pos rfl, HN.out]
              · rw [if_neg e]
                by_cases e2 : k < j
                · rw [if_pos e2, if_pos (by omega)]
                · rw [if_neg e2, if_neg (by omega)]]
            exact h.below (by repeat (first | with_reducible exact Below.refl _ _ | with_reducible apply bdrew | with_reducible apply bdrewN | with_reducible apply balloc | ((with_reducible refine bset ?_ ?_ _); rotate_left; (first | omega | (simp <;> omega)))))), by repeat (first | with_reducible exact hBs | with_reducible apply bdrew | with_reducible apply bdrewN | with_reducible apply balloc | ((with_reducible refine bset ?_ ?_ _); rotate_left; (first | omega | (simp <;> omega)))), by simp [Cls, go_sem, Fs, ysw0, yswp1, yswp2]⟩
          case measure => simp [intOf]; omega
        · obtain rfl : n = j := by omega
          go_wp2
          go_roundw
          case rel => exact ⟨i + 1, by omega, by go_num, by rw [tbRow_congr (g := fun k => if k < n then colL p y (i + 1) k else colL p y i k) fun k hk => (if_pos hk).symm]; exact hA2.below (by repeat (first | with_reducible exact Below.refl _ _ | with_reducible apply bdrew | with_reducible apply bdrewN | with_reducible apply balloc | ((with_reducible refine bset ?_ ?_ _); rotate_left; (first | omega | (simp <;> omega))))), by repeat (first | with_reducible exact hBs | with_reducible apply bdrew | with_reducible apply bdrewN | with_reducible apply balloc | ((with_reducible refine bset ?_ ?_ _); rotate_left; (first | omega | (simp <;> omega)))), by simp [Cls, go_sem, Fs, ysw0, yswp1, yswp2]⟩
          case measure => simp [intOf]; omega
    · obtain rfl : m = i := by omega
      go_wp2
      go_ret
      exact ⟨w.heap.size + 1, rfl, Nat.le_succ _, hA1.below (by repeat (first | with_reducible exact Below.refl _ _ | with_reducible apply bdrew | with_reducible apply bdrewN | with_reducible apply balloc | ((with_reducible refine bset ?_ ?_ _); rotate_left; (first | omega | (simp <;> omega))))), by repeat (first | with_reducible exact hBr | with_reducible apply bdrew | with_reducible apply bdrewN | with_reducible apply balloc | ((with_reducible refine bset ?_ ?_ _); rotate_left; (first | omega | (simp <;> omega))))⟩


end Go.Proofs.Ytkepfmglljkjhaa

namespace Go.Proofs.Ytkepfmglljkjhaa
open Go.RowKit
set_option linter.unusedVariables false
set_option linter.unusedSimpArgs false

theorem row_dot {p : LpV} {r : List Int} {i n : Nat} (hr : p.rows[i]? = some r) (x : List Int) : LA.sumN n (fun j => p.lp.A i j * atL x j) = dotL n r x := by
  unfold dotL
  refine LA.sumN_congr fun j _ => ?_
  have e : p.lp.A i j = atL r j := by
    show (((p.rows[i]?).getD [])[j]?).getD 0 = _
    rw [hr]; rfl
  rw [e]
theorem bnd_at {p : LpV} {i : Nat} {y : Int} (h : p.bounds[i]? = some y) : p.lp.b i = y := by
  show (p.bounds[i]?).getD 0 = y
  rw [h]; rfl
theorem nn_iff {x : List Int} {n : Nat} (hl : x.length = n) : (¬ ∃ a ∈ x, a < 0) ↔ ∀ j, j < n → 0 ≤ atL x j := by
  constructor
  · intro h j hj
    have hj' : j < x.length := by omega
    have e : atL x j = x[j] := atL_some (List.getElem?_eq_getElem hj')
    rw [e]
    rcases Int.lt_or_le x[j] 0 with h1 | h1
    · exact absurd ⟨_, List.getElem_mem hj', h1⟩ h
    · exact h1
  · rintro h ⟨a, ha, hn⟩
    obtain ⟨j, hj⟩ := List.getElem?_of_mem ha
    have h1 := h j (by have := (List.getElem?_eq_some_iff.1 hj).1; omega)
    rw [atL_some hj] at h1
    omega
theorem row_100 {r : List Int} (h : ∀ a ∈ r, -4 ≤ a ∧ a ≤ 4) : ∀ a ∈ r, -100 ≤ a ∧ a ≤ 100 := fun a ha => by have := h a ha; omega
theorem blt {w : World} {a : Addr} {v : Value} (h : w.cell? a = some v) : a.block < w.heap.size := World.block_lt_of_cell? w a h
set_option maxRecDepth 100000 in
set_option maxHeartbeats 2000000 in
theorem lfits_any (w : World) (AR AB AO : Option Addr) (cr cb co : Nat) (p : LpV) (hM : LpMem w AR AB AO p) (hok : LpOk p) (m n : Nat) (hrl : Hid (p.rows.length = m)) (hbl : Hid (p.bounds.length = m)) (hol : Hid (p.obj.length = n)) (hm6 : m ≤ 6) (hn6 : n ≤ 6) (t : Int) (ht0 : 0 ≤ t) (ht1 : t ≤ 100000000) (X : Option Addr) (cX : Nat) (x : List Int) (hlx : Hid (x.length = n)) (hIx : Ints w X x) (hxb : ∀ a ∈ x, -100000000 ≤ a ∧ a ≤ 100000000) :
    Calls Try.prog 47 #[.agg #[.slice AR m cr, .slice AB m cb, .slice AO n co], .slice X n cX, .int .i64 t] w fun e w' => ∃ ok : Bool, e = .returned (.bool ok) ∧ Hid (ok = true ↔ LA.IsPt p.lp (atL x) t) ∧ Below w.heap.size w w' := by
  have HRO := Lib.hid hM.rows.llr
  have HBO := Lib.hid hM.bounds
  have HOK := Lib.hid hok
  have HXB := Lib.hid hxb
  have HIX := Lib.hid hIx
  have HLM : Hid (p.lp.m = m) := Lib.hid hrl.out
  have HLN : Hid (p.lp.n = n) := Lib.hid hol.out
  clear hM hok hxb
  go_enter Try.func47, Try.ntmps47
  go_wp2_with fail
  go_loopw [12] (fun v wr => ∃ i : Nat, i ≤ m ∧ v = .int .i64 i ∧ Hid (∀ k, k < i → LA.sumN n (fun j => p.lp.A k j * atL x j) ≤ p.lp.b k * t) ∧ Below w.heap.size w wr ∧ Cls wr [(w.heap.size, 0, .slice AR m cr), (w.heap.size, 1, .slice AB m cb), (w.heap.size, 2, .slice AO n co)]) (fun v _ => m - (intOf v).toNat)
  case atStart => exact ⟨0, Nat.zero_le _, rfl, Lib.hid (fun k hk => by omega), (by repeat (first | with_reducible exact Below.refl _ _ | with_reducible apply bdrew | with_reducible apply bdrewN | with_reducible apply balloc | ((with_reducible refine bset ?_ ?_ _); rotate_left; (first | omega | (simp <;> omega))))), (by simp [Cls, go_sem])⟩
  case round =>
    obtain ⟨i, hi, rfl, HA, hBr, hCr⟩ := hrel
    obtain ⟨w1, rfl⟩ : ∃ wo : World, wo = wr := ⟨_, rfl⟩
    have drs := hBr.size
    have Fr := hCr
    simp only [Cls, and_true] at Fr
    have yrw0 : w.heap.size < w1.heap.size := hCr.blk (b := w.heap.size) (k := 0) (v := .slice AR m cr) (by simp)
    have yrwp1 : w.heap.size < w1.heap.size + 1 := (by omega)
    have yrwp2 : w.heap.size < w1.heap.size + 1 + 1 := (by omega)
    by_cases hlt : i < m
    · obtain ⟨ad, r, R, cR, rfl, hr, hrc0, hI⟩ := HRO.out.at_ (k := i) (by rw [hrl.out]; exact hlt)
      obtain ⟨ad2, y, rfl, hy, hyc⟩ := (HBO.out.below hBr).at_ (k := i) (by rw [hbl.out]; exact hlt)
      have HIR := Lib.hid hI
      have hrc := (hBr.cell (World.block_lt_of_cell? w _ hrc0)).trans hrc0
      have hrn := (HOK.out.row hr.out).1
      rw [hol.out] at hrn
      have HRN := Lib.hid hrn
      rw [hrn] at hrc
      have HRB := Lib.hid (row_100 (HOK.out.row hr.out).2)
      have hyb := HOK.out.bound hy.out
      have hmul := mul_le (X := 20) (Y := 100000000) hyb (show -100000000 ≤ t ∧ t ≤ 100000000 by omega)
      obtain ⟨hmul1, hmul2⟩ := hmul
      obtain ⟨u, hu⟩ : ∃ u, Hid (y * t = u) := ⟨_, Lib.hid rfl⟩
      have hwu : IntKind.i64.wrap (y * t) = u := by rw [hu.out] at hmul1 hmul2 ⊢; exact Go.IntWalk.i64_in _ (by omega)
      obtain ⟨s, hs⟩ : ∃ s, Hid (dotL n r x = s) := ⟨_, Lib.hid rfl⟩
      have HP : ∀ W : World, Below w.heap.size w W → Calls Try.prog 50 #[.slice R n cR, .slice X n cX] W fun e w' => e = .returned (.int .i64 s) ∧ Below W.heap.size W w' := fun W hB => by
        have h := lprod_any W R X cR cX r x n HRN hlx hn6 (HIR.out.below hB) (HIX.out.below hB) HRB.out HXB.out
        rw [hs.out] at h; exact h
      have HP' := Lib.hid HP
      clear hrn hrc0 hI HP hyb
      by_cases hgt : s > u
      · have hd : decide (s > u) = true := decide_eq_true hgt
        have HG := Lib.hid hgt
        go_wp2_with fail
        refine wp_region_held_drew (S := fun W => W.cell? ⟨w.heap.size, 1, none⟩ = some (.slice (some ad2) m cb) ∧ W.cell? (ad2.add i) = some (.int .i64 y)) (by kernel_rfl) (by exact ⟨Fr.2.1.1, hyc⟩) (fun hHeld => ?_)
        refine wpAnyH_take (i := 0) (v := ?vo10) rfl (by kernel_rfl) (by kernel_rfl) (by kernel_rfl) (fun _ _ _ h => h) (Or.inl ⟨by rfl, ?ho10⟩) (by assumption) ?ro10
        case ho10 => (intro w hSw; (try dsimp only at hSw); go_simp; (try with_reducible rfl))
        try simp only [Act.put, List.getElem_toArray, List.getElem_cons_succ, List.getElem_cons_zero, List.setIfInBounds_toArray, List.set_cons_zero, List.set_cons_succ]
        refine wpAnyH_take (i := 1) (v := ?vo11) rfl (by kernel_rfl) (by kernel_rfl) (by kernel_rfl) (fun _ _ _ h => h) (Or.inl ⟨by rfl, ?ho11⟩) (by assumption) ?ro11
        case ho11 => (intro w hSw; (try dsimp only at hSw); go_simp; (try with_reducible rfl))
        try simp only [Act.put, List.getElem_toArray, List.getElem_cons_succ, List.getElem_cons_zero, List.setIfInBounds_toArray, List.set_cons_zero, List.set_cons_succ]
        refine wpAnyH_take (i := 3) (v := ?vo13) rfl (by kernel_rfl) (by kernel_rfl) (by kernel_rfl) (fun _ _ _ h => h) (Or.inl ⟨by rfl, ?ho13⟩) (by assumption) ?ro13
        case ho13 => (intro w hSw; (try dsimp only at hSw); go_simp; (try with_reducible rfl))
        try simp only [Act.put, List.getElem_toArray, List.getElem_cons_succ, List.getElem_cons_zero, List.setIfInBounds_toArray, List.set_cons_zero, List.set_cons_succ]
        refine wpAnyH_take (i := 4) (v := ?vo14) rfl (by kernel_rfl) (by kernel_rfl) (by kernel_rfl) (fun _ _ _ h => h) (Or.inl ⟨by rfl, ?ho14⟩) (by assumption) ?ro14
        case ho14 => (intro w hSw; (try dsimp only at hSw); go_simp; (try with_reducible rfl))
        try simp only [Act.put, List.getElem_toArray, List.getElem_cons_succ, List.getElem_cons_zero, List.setIfInBounds_toArray, List.set_cons_zero, List.set_cons_succ]
        refine wpAnyH_take (i := 5) (v := ?vo15) rfl (by kernel_rfl) (by kernel_rfl) (by kernel_rfl) (fun _ _ _ h => h) (Or.inl ⟨by rfl, ?ho15⟩) (by assumption) ?ro15
        case ho15 => (intro w hSw; (try dsimp only at hSw); go_simp; (try with_reducible rfl))
        try simp only [Act.put, List.getElem_toArray, List.getElem_cons_succ, List.getElem_cons_zero, List.setIfInBounds_toArray, List.set_cons_zero, List.set_cons_succ]
        refine wpAnyH_take (i := 6) (v := ?vo16) rfl (by kernel_rfl) (by kernel_rfl) (by kernel_rfl) (fun _ _ _ h => h) (Or.inl ⟨by rfl, ?ho16⟩) (by assumption) ?ro16
        case ho16 => (intro w hSw; (try dsimp only at hSw); go_simp; (try with_reducible rfl))
        try simp only [Act.put, List.getElem_toArray, List.getElem_cons_succ, List.getElem_cons_zero, List.setIfInBounds_toArray, List.set_cons_zero, List.set_cons_succ]
        refine wpAnyH_take (i := 7) (v := ?vo17) rfl (by kernel_rfl) (by kernel_rfl) (by kernel_rfl) (fun _ _ _ h => h) (Or.inl ⟨by rfl, ?ho17⟩) (by assumption) ?ro17
        case ho17 => (intro w hSw; (try dsimp only at hSw); go_simp; (try with_reducible rfl))
        try simp only [Act.put, List.getElem_toArray, List.getElem_cons_succ, List.getElem_cons_zero, List.setIfInBounds_toArray, List.set_cons_zero, List.set_cons_succ]
        refine wpAnyH_take (i := 8) (v := ?vo18) rfl (by kernel_rfl) (by kernel_rfl) (by kernel_rfl) (fun _ _ _ h => h) (Or.inl ⟨by rfl, ?ho18⟩) (by assumption) ?ro18
        case ho18 => (intro w hSw; (try dsimp only at hSw); go_simp; (try with_reducible rfl))
        try simp only [Act.put, List.getElem_toArray, List.getElem_cons_succ, List.getElem_cons_zero, List.setIfInBounds_toArray, List.set_cons_zero, List.set_cons_succ]
        refine wpAnyH_take (i := 9) (v := ?vo19) rfl (by kernel_rfl) (by kernel_rfl) (by kernel_rfl) (fun _ _ _ h => h) (Or.inl ⟨by rfl, ?ho19⟩) (by assumption) ?ro19
        case ho19 => (intro w hSw; (try dsimp only at hSw); go_simp; (try with_reducible rfl))
        try simp only [Act.put, List.getElem_toArray, List.getElem_cons_succ, List.getElem_cons_zero, List.setIfInBounds_toArray, List.set_cons_zero, List.set_cons_succ]
        refine wpAnyH_ready (rs := [2]) (by kernel_rfl) (by simp) ?_
        refine (AllReadyH.cons rfl (fun K hK => ?bo11x2) AllReadyH.nil)
        case bo11x2 =>
          go_simp
          go_at_call 50
          refine (HP'.out _ (by repeat (first | with_reducible exact hBr | with_reducible apply bdrew | with_reducible apply bdrewN | with_reducible apply balloc | ((with_reducible refine bset ?_ ?_ _); rotate_left; (first | omega | (simp <;> omega)))))).mono ?_
          rintro e w2 ⟨rfl, hB2⟩
          have D2 := dstep w hB2 (by repeat (first | with_reducible exact hBr | with_reducible apply bdrew | with_reducible apply bdrewN | with_reducible apply balloc | ((with_reducible refine bset ?_ ?_ _); rotate_left; (first | omega | (simp <;> omega)))))
          have C2 := Cls.below (l := [(w.heap.size, 0, .slice (some ad) m cr), (w.heap.size, 1, .slice (some ad2) m cb), (w.heap.size, 2, .slice AO n co)]) hB2 (by simp [Cls, go_sem, Fr, yrw0, yrwp1, yrwp2])
          have hSS : w2.cell? ⟨w.heap.size, 1, none⟩ = some (.slice (some ad2) m cb) ∧ w2.cell? (ad2.add i) = some (.int .i64 y) := ⟨(hB2.cell (blt Fr.2.1.1)).trans Fr.2.1.1, (hB2.cell (blt hyc)).trans hyc⟩
          go_wp2_with fail
          refine hK.out _ _ hSS (fun hHeld => ?_)
          clear hK K
          try simp only [Act.put, List.getElem_toArray, List.getElem_cons_succ, List.getElem_cons_zero, List.setIfInBounds_toArray, List.set_cons_zero, List.set_cons_succ]
          refine wpAnyH_take (i := 10) (v := ?vo1l210) rfl (by kernel_rfl) (by kernel_rfl) (by kernel_rfl) (fun _ _ _ h => h) (Or.inl ⟨by rfl, ?ho1l210⟩) (by assumption) ?ro1l210
          case ho1l210 => (intro w hSw; (try dsimp only at hSw); go_simp; (try with_reducible rfl))
          try simp only [Act.put, List.getElem_toArray, List.getElem_cons_succ, List.getElem_cons_zero, List.setIfInBounds_toArray, List.set_cons_zero, List.set_cons_succ]
          refine wpAnyH_done (by kernel_rfl) ?_ _
          go_wp2
          refine bodyPost_ret (v := .bool false) ?_ rfl ⟨false, rfl, Lib.hid (iff_of_false (by simp) (fun h => by
            have h1 := h.1 i (by rw [HLM.out]; exact hlt)
            rw [HLN.out, row_dot hr.out, hs.out, bnd_at hy.out, hu.out] at h1
            have := HG.out
            omega)), by repeat (first | with_reducible exact D2 | with_reducible apply bdrew | with_reducible apply bdrewN | with_reducible apply balloc | ((with_reducible refine bset ?_ ?_ _); rotate_left; (first | omega | (simp <;> omega))))⟩
          simp [results, Try.results47, go_sem]
      · have hd : decide (s > u) = false := decide_eq_false hgt
        have HG := Lib.hid (show s ≤ u by omega)
        go_wp2_with fail
        refine wp_region_held_drew (S := fun W => W.cell? ⟨w.heap.size, 1, none⟩ = some (.slice (some ad2) m cb) ∧ W.cell? (ad2.add i) = some (.int .i64 y)) (by kernel_rfl) (by exact ⟨Fr.2.1.1, hyc⟩) (fun hHeld => ?_)
        refine wpAnyH_take (i := 0) (v := ?vo20) rfl (by kernel_rfl) (by kernel_rfl) (by kernel_rfl) (fun _ _ _ h => h) (Or.inl ⟨by rfl, ?ho20⟩) (by assumption) ?ro20
        case ho20 => (intro w hSw; (try dsimp only at hSw); go_simp; (try with_reducible rfl))
        try simp only [Act.put, List.getElem_toArray, List.getElem_cons_succ, List.getElem_cons_zero, List.setIfInBounds_toArray, List.set_cons_zero, List.set_cons_succ]
        refine wpAnyH_take (i := 1) (v := ?vo21) rfl (by kernel_rfl) (by kernel_rfl) (by kernel_rfl) (fun _ _ _ h => h) (Or.inl ⟨by rfl, ?ho21⟩) (by assumption) ?ro21
        case ho21 => (intro w hSw; (try dsimp only at hSw); go_simp; (try with_reducible rfl))
        try simp only [Act.put, List.getElem_toArray, List.getElem_cons_succ, List.getElem_cons_zero, List.setIfInBounds_toArray, List.set_cons_zero, List.set_cons_succ]
        refine wpAnyH_take (i := 3) (v := ?vo23) rfl (by kernel_rfl) (by kernel_rfl) (by kernel_rfl) (fun _ _ _ h => h) (Or.inl ⟨by rfl, ?ho23⟩) (by assumption) ?ro23
        case ho23 => (intro w hSw; (try dsimp only at hSw); go_simp; (try with_reducible rfl))
        try simp only [Act.put, List.getElem_toArray, List.getElem_cons_succ, List.getElem_cons_zero, List.setIfInBounds_toArray, List.set_cons_zero, List.set_cons_succ]
        refine wpAnyH_take (i := 4) (v := ?vo24) rfl (by kernel_rfl) (by kernel_rfl) (by kernel_rfl) (fun _ _ _ h => h) (Or.inl ⟨by rfl, ?ho24⟩) (by assumption) ?ro24
        case ho24 => (intro w hSw; (try dsimp only at hSw); go_simp; (try with_reducible rfl))
        try simp only [Act.put, List.getElem_toArray, List.getElem_cons_succ, List.getElem_cons_zero, List.setIfInBounds_toArray, List.set_cons_zero, List.set_cons_succ]
        refine wpAnyH_take (i := 5) (v := ?vo25) rfl (by kernel_rfl) (by kernel_rfl) (by kernel_rfl) (fun _ _ _ h => h) (Or.inl ⟨by rfl, ?ho25⟩) (by assumption) ?ro25
        case ho25 => (intro w hSw; (try dsimp only at hSw); go_simp; (try with_reducible rfl))
        try simp only [Act.put, List.getElem_toArray, List.getElem_cons_succ, List.getElem_cons_zero, List.setIfInBounds_toArray, List.set_cons_zero, List.set_cons_succ]
        refine wpAnyH_take (i := 6) (v := ?vo26) rfl (by kernel_rfl) (by kernel_rfl) (by kernel_rfl) (fun _ _ _ h => h) (Or.inl ⟨by rfl, ?ho26⟩) (by assumption) ?ro26
        case ho26 => (intro w hSw; (try dsimp only at hSw); go_simp; (try with_reducible rfl))
        try simp only [Act.put, List.getElem_toArray, List.getElem_cons_succ, List.getElem_cons_zero, List.setIfInBounds_toArray, List.set_cons_zero, List.set_cons_succ]
        refine wpAnyH_take (i := 7) (v := ?vo27) rfl (by kernel_rfl) (by kernel_rfl) (by kernel_rfl) (fun _ _ _ h => h) (Or.inl ⟨by rfl, ?ho27⟩) (by assumption) ?ro27
        case ho27 => (intro w hSw; (try dsimp only at hSw); go_simp; (try with_reducible rfl))
        try simp only [Act.put, List.getElem_toArray, List.getElem_cons_succ, List.getElem_cons_zero, List.setIfInBounds_toArray, List.set_cons_zero, List.set_cons_succ]
        refine wpAnyH_take (i := 8) (v := ?vo28) rfl (by kernel_rfl) (by kernel_rfl) (by kernel_rfl) (fun _ _ _ h => h) (Or.inl ⟨by rfl, ?ho28⟩) (by assumption) ?ro28
        case ho28 => (intro w hSw; (try dsimp only at hSw); go_simp; (try with_reducible rfl))
        try simp only [Act.put, List.getElem_toArray, List.getElem_cons_succ, List.getElem_cons_zero, List.setIfInBounds_toArray, List.set_cons_zero, List.set_cons_succ]
        refine wpAnyH_take (i := 9) (v := ?vo29) rfl (by kernel_rfl) (by kernel_rfl) (by kernel_rfl) (fun _ _ _ h => h) (Or.inl ⟨by rfl, ?ho29⟩) (by assumption) ?ro29
        case ho29 => (intro w hSw; (try dsimp only at hSw); go_simp; (try with_reducible rfl))
        try simp only [Act.put, List.getElem_toArray, List.getElem_cons_succ, List.getElem_cons_zero, List.setIfInBounds_toArray, List.set_cons_zero, List.set_cons_succ]
        refine wpAnyH_ready (rs := [2]) (by kernel_rfl) (by simp) ?_
        refine (AllReadyH.cons rfl (fun K hK => ?bo21x2) AllReadyH.nil)
        case bo21x2 =>
          go_simp
          go_at_call 50
          refine (HP'.out _ (by repeat (first | with_reducible exact hBr | with_reducible apply bdrew | with_reducible apply bdrewN | with_reducible apply balloc | ((with_reducible refine bset ?_ ?_ _); rotate_left; (first | omega | (simp <;> omega)))))).mono ?_
          rintro e w2 ⟨rfl, hB2⟩
          have D2 := dstep w hB2 (by repeat (first | with_reducible exact hBr | with_reducible apply bdrew | with_reducible apply bdrewN | with_reducible apply balloc | ((with_reducible refine bset ?_ ?_ _); rotate_left; (first | omega | (simp <;> omega)))))
          have C2 := Cls.below (l := [(w.heap.size, 0, .slice (some ad) m cr), (w.heap.size, 1, .slice (some ad2) m cb), (w.heap.size, 2, .slice AO n co)]) hB2 (by simp [Cls, go_sem, Fr, yrw0, yrwp1, yrwp2])
          have hSS : w2.cell? ⟨w.heap.size, 1, none⟩ = some (.slice (some ad2) m cb) ∧ w2.cell? (ad2.add i) = some (.int .i64 y) := ⟨(hB2.cell (blt Fr.2.1.1)).trans Fr.2.1.1, (hB2.cell (blt hyc)).trans hyc⟩
          go_wp2_with fail
          refine hK.out _ _ hSS (fun hHeld => ?_)
          clear hK K
          try simp only [Act.put, List.getElem_toArray, List.getElem_cons_succ, List.getElem_cons_zero, List.setIfInBounds_toArray, List.set_cons_zero, List.set_cons_succ]
          refine wpAnyH_take (i := 10) (v := ?vo2l210) rfl (by kernel_rfl) (by kernel_rfl) (by kernel_rfl) (fun _ _ _ h => h) (Or.inl ⟨by rfl, ?ho2l210⟩) (by assumption) ?ro2l210
          case ho2l210 => (intro w hSw; (try dsimp only at hSw); go_simp; (try with_reducible rfl))
          try simp only [Act.put, List.getElem_toArray, List.getElem_cons_succ, List.getElem_cons_zero, List.setIfInBounds_toArray, List.set_cons_zero, List.set_cons_succ]
          refine wpAnyH_done (by kernel_rfl) ?_ _
          go_wp2
          go_roundw
          case rel => exact ⟨i + 1, by omega, by go_num, Lib.hid (fun k hk => by
            by_cases e : k = i
            · subst e; rw [row_dot hr.out, hs.out, bnd_at hy.out, hu.out]; exact HG.out
            · exact HA.out k (by omega)), by repeat (first | with_reducible exact D2 | with_reducible apply bdrew | with_reducible apply bdrewN | with_reducible apply balloc | ((with_reducible refine bset ?_ ?_ _); rotate_left; (first | omega | (simp <;> omega)))), Cls.below (w := w2) (by repeat (first | with_reducible exact Below.refl _ _ | with_reducible apply bdrew | with_reducible apply bdrewN | with_reducible apply balloc | ((with_reducible refine bset ?_ ?_ _); rotate_left; (first | omega | (simp <;> omega))))) C2⟩
          case measure => simp [intOf]; omega
    · obtain rfl : m = i := by omega
      have HA2 := Lib.hid (fun (h : ∀ j, j < n → 0 ≤ atL x j) => (show LA.IsPt p.lp (atL x) t from ⟨fun k hk => by rw [HLN.out]; exact HA.out k (by rw [← HLM.out]; exact hk), fun j hj => h j (by rw [← HLN.out]; exact hj)⟩))
      have HA3 := Lib.hid (fun (h : LA.IsPt p.lp (atL x) t) (j : Nat) (hj : j < n) => h.2 j (by rw [HLN.out]; exact hj))
      go_wp2_with fail
      refine (lneg_any _ X cX x n hlx (by omega) (HIX.out.below (by repeat (first | with_reducible exact hBr | with_reducible apply bdrew | with_reducible apply bdrewN | with_reducible apply balloc | ((with_reducible refine bset ?_ ?_ _); rotate_left; (first | omega | (simp <;> omega))))))).mono ?_
      rintro e w2 ⟨neg, rfl, HNG, hB2⟩
      have D2 := dstep w hB2 (by repeat (first | with_reducible exact hBr | with_reducible apply bdrew | with_reducible apply bdrewN | with_reducible apply balloc | ((with_reducible refine bset ?_ ?_ _); rotate_left; (first | omega | (simp <;> omega)))))
      go_wp2
      refine bodyPost_ret (v := .bool (!neg)) ?_ rfl ⟨!neg, rfl, Lib.hid (by
        have h1 := nn_iff hlx.out
        cases neg with
        | true => exact iff_of_false (by simp) fun h => (h1.2 (HA3.out h)) (HNG.out.1 rfl)
        | false => exact iff_of_true rfl (HA2.out (h1.1 fun h => by have := HNG.out.2 h; cases this))), by repeat (first | with_reducible exact D2 | with_reducible apply bdrew | with_reducible apply bdrewN | with_reducible apply balloc | ((with_reducible refine bset ?_ ?_ _); rotate_left; (first | omega | (simp <;> omega))))⟩
      simp [results, Try.results47, go_sem]

/-- A vector. -/
structure VecV where
  nums : List Int
  den : Int
/-- A list of vectors in memory. -/
def VecsRead (w : World) (A : Option Addr) (vs : List VecV) : Prop := ∀ k v, vs[k]? = some v → ∃ g B c, A = some ⟨g, 0, none⟩ ∧ w.cell? ⟨g, k * 2, none⟩ = some (.slice B v.nums.length c) ∧ w.cell? ⟨g, k * 2 + 1, none⟩ = some (.int .i64 v.den) ∧ Ints w B v.nums ∧ v.nums.length ≤ 9223372036854775807
theorem VecsRead.below {w w' : World} {A : Option Addr} {vs : List VecV} (h : VecsRead w A vs) (hb : Below w.heap.size w w') : VecsRead w' A vs := fun k v hv => by
  obtain ⟨g, B, c, h1, h2, h3, h4, h5⟩ := h k v hv
  exact ⟨g, B, c, h1, (hb.cell (blt h2)).trans h2, (hb.cell (blt h3)).trans h3, h4.below hb, h5⟩
theorem VecsRead.nil (w : World) (A : Option Addr) : VecsRead w A [] := fun k v h => by simp at h
theorem VecsRead.one {w : World} {g : Nat} {B : Option Addr} {c : Nat} {x : List Int} {d : Int} (h1 : w.cell? ⟨g, 0, none⟩ = some (.slice B x.length c)) (h2 : w.cell? ⟨g, 1, none⟩ = some (.int .i64 d)) (h3 : Ints w B x) (h4 : x.length ≤ 9223372036854775807) : VecsRead w (some ⟨g, 0, none⟩) [⟨x, d⟩] := fun k v hv => by
  cases k with
  | zero => simp at hv; subst hv; exact ⟨g, B, c, rfl, h1, h2, h3, h4⟩
  | succ k => simp at hv
/-- The fault after k vectors with the codes cs, where the first one has index i. -/
def chkN (f : Int × Int) (i : Int) (cs : List Int) : Nat → Int × Int
  | 0 => f
  | k + 1 => if (chkN f i cs k).1 = 0 ∧ atL cs k ≠ 0 then (atL cs k, i - k) else chkN f i cs k
theorem chkN_zero {f : Int × Int} {i : Int} {cs : List Int} (h : f.1 = 0 → f.2 = 0) : ∀ k, (chkN f i cs k).1 = 0 → (chkN f i cs k).2 = 0
  | 0 => h
  | k + 1 => by
    unfold chkN
    split
    · next e => intro h2; exact absurd h2 e.2
    · exact chkN_zero h k
theorem chkN_old {f : Int × Int} {i : Int} {cs : List Int} {k : Nat} (h : ¬ (chkN f i cs k).1 = 0) : chkN f i cs (k + 1) = chkN f i cs k := by
  show (if _ then _ else _) = _
  rw [if_neg fun e => h e.1]
theorem chkN_same {f : Int × Int} {i : Int} {cs : List Int} {k : Nat} (h : atL cs k = 0) : chkN f i cs (k + 1) = chkN f i cs k := by
  show (if _ then _ else _) = _
  rw [if_neg fun e => e.2 h]
theorem chkN_new {f : Int × Int} {i c : Int} {cs : List Int} {k : Nat} (h0 : (chkN f i cs k).1 = 0) (hc : atL cs k = c) (h : ¬ c = 0) : chkN f i cs (k + 1) = (c, i - k) := by
  show (if _ then _ else _) = _
  rw [hc, if_pos ⟨h0, h⟩]
/-- The codes of vectors that shall have n numbers. -/
def vCodes (vs : List VecV) (n : Nat) : List Int := vs.map fun v => vecC v.nums v.den n
theorem vCodes_at {vs : List VecV} {n k : Nat} {v : VecV} (h : vs[k]? = some v) : atL (vCodes vs n) k = vecC v.nums v.den n := atL_some (by unfold vCodes; rw [List.getElem?_map, h]; rfl)
theorem lpF_snd {p : LpV} (h : (lpF p).1 = 0) : (lpF p).2 = 0 := by rw [lpF_ok (lpF_zero h)]
set_option maxRecDepth 100000 in
set_option maxHeartbeats 4000000 in
theorem lcheck_any (w : World) (AR AB AO : Option Addr) (cr cb co : Nat) (p : LpV) (hM : LpMem w AR AB AO p) (m mb n : Nat) (hrl : Hid (p.rows.length = m)) (hbl : Hid (p.bounds.length = mb)) (hol : Hid (p.obj.length = n)) (V1 V2 : Option Addr) (c1 c2 k1 k2 : Nat) (vs us : List VecV) (hvl1 : Hid (vs.length = k1)) (hvl2 : Hid (us.length = k2)) (hk1 : k1 ≤ 5) (hk2 : k2 ≤ 5) (hV1 : VecsRead w V1 vs) (hV2 : VecsRead w V2 us) :
    Calls Try.prog 46 #[.agg #[.slice AR m cr, .slice AB mb cb, .slice AO n co], .slice V1 k1 c1, .slice V2 k2 c2] w fun e w' => e = .returned (.agg #[.int .i64 (chkN (chkN (lpF p) (-4) (vCodes vs n) k1) (-4 - (k1 : Int)) (vCodes us m) k2).1, .int .i64 (chkN (chkN (lpF p) (-4) (vCodes vs n) k1) (-4 - (k1 : Int)) (vCodes us m) k2).2]) ∧ Below w.heap.size w w' := by
  have HV1 := Lib.hid hV1
  have HV2 := Lib.hid hV2
  have HLV : ∀ W : World, Below w.heap.size w W → Calls Try.prog 15 #[.agg #[.slice AR m cr, .slice AB mb cb, .slice AO n co]] W fun e w' => e = .returned (.agg #[.int .i64 (lpF p).1, .int .i64 (lpF p).2]) ∧ Below W.heap.size W w' := fun W hB => by
    have h := lvalidate_any W AR AB AO cr cb co p (hM.below hB)
    rw [hrl.out, hbl.out, hol.out] at h
    exact h
  have HLV' := Lib.hid HLV
  have hm63 := hM.nr
  have hb63 := hM.nb
  have hn63 := hM.no
  rw [hrl.out] at hm63
  rw [hbl.out] at hb63
  rw [hol.out] at hn63
  obtain ⟨f1, hf1⟩ : ∃ f : Nat → Int × Int, Hid (f = chkN (lpF p) (-4) (vCodes vs n)) := ⟨_, Lib.hid rfl⟩
  obtain ⟨f2, hf2⟩ : ∃ f : Nat → Int × Int, Hid (f = chkN (f1 k1) (-4 - (k1 : Int)) (vCodes us m)) := ⟨_, Lib.hid rfl⟩
  have HZ1 : Hid (∀ k, (f1 k).1 = 0 → (f1 k).2 = 0) := Lib.hid (by rw [hf1.out]; exact chkN_zero lpF_snd)
  have HZ2 : Hid (∀ k, (f2 k).1 = 0 → (f2 k).2 = 0) := Lib.hid (by rw [hf2.out]; exact chkN_zero (HZ1.out k1))
  have H01 : Hid (f1 0 = lpF p) := Lib.hid (by rw [hf1.out]; rfl)
  have H02 : Hid (f2 0 = f1 k1) := Lib.hid (by rw [hf2.out]; rfl)
  have HR : Hid (chkN (chkN (lpF p) (-4) (vCodes vs n) k1) (-4 - (k1 : Int)) (vCodes us m) k2 = f2 k2) := Lib.hid (by rw [hf2.out, hf1.out])
  have HO1 : Hid (∀ k, ¬ (f1 k).1 = 0 → f1 (k + 1) = f1 k) := Lib.hid (fun k h => by rw [hf1.out] at h ⊢; exact chkN_old h)
  have HS1 : Hid (∀ k v, vs[k]? = some v → vecC v.nums v.den n = 0 → f1 (k + 1) = f1 k) := Lib.hid (fun k v hv h => by rw [hf1.out]; exact chkN_same (by rw [vCodes_at hv]; exact h))
  have HN1 : Hid (∀ k v c, (f1 k).1 = 0 → vs[k]? = some v → vecC v.nums v.den n = c → ¬ c = 0 → f1 (k + 1) = (c, -4 - (k : Int))) := Lib.hid (fun k v c h0 hv hc h => by rw [hf1.out] at h0 ⊢; exact chkN_new h0 (by rw [vCodes_at hv]; exact hc) h)
  have HO2 : Hid (∀ k, ¬ (f2 k).1 = 0 → f2 (k + 1) = f2 k) := Lib.hid (fun k h => by rw [hf2.out] at h ⊢; exact chkN_old h)
  have HS2 : Hid (∀ k v, us[k]? = some v → vecC v.nums v.den m = 0 → f2 (k + 1) = f2 k) := Lib.hid (fun k v hv h => by rw [hf2.out]; exact chkN_same (by rw [vCodes_at hv]; exact h))
  have HN2 : Hid (∀ k v c, (f2 k).1 = 0 → us[k]? = some v → vecC v.nums v.den m = c → ¬ c = 0 → f2 (k + 1) = (c, -4 - (k1 : Int) - (k : Int))) := Lib.hid (fun k v c h0 hv hc h => by rw [hf2.out] at h0 ⊢; exact chkN_new h0 (by rw [vCodes_at hv]; exact hc) h)
  rw [HR.out]
  rw [← H01.out] at HLV'
  clear hM hV1 hV2 HLV hf1 hf2
  go_enter Try.func46, Try.ntmps46
  go_wp2_with fail
  refine (HLV'.out _ (by repeat (first | with_reducible exact Below.refl _ _ | with_reducible apply bdrew | with_reducible apply bdrewN | with_reducible apply balloc | ((with_reducible refine bset ?_ ?_ _); rotate_left; (first | omega | (simp <;> omega)))))).mono ?_
  rintro e w1 ⟨rfl, hB1⟩
  have D1 := dstep w hB1 (by repeat (first | with_reducible exact Below.refl _ _ | with_reducible apply bdrew | with_reducible apply bdrewN | with_reducible apply balloc | ((with_reducible refine bset ?_ ?_ _); rotate_left; (first | omega | (simp <;> omega)))))
  have d1s := D1.size
  have C1 := Cls.below (l := [(w.heap.size, 0, .slice AR m cr), (w.heap.size, 1, .slice AB mb cb), (w.heap.size, 2, .slice AO n co), (w.heap.size + 1, 0, .int .i64 0), (w.heap.size + 1, 1, .int .i64 0)]) hB1 (by simp [Cls, go_sem])
  have F1 := C1
  simp only [Cls, and_true] at F1
  have y1w1 : w.heap.size + 1 < w1.heap.size := C1.blk (b := w.heap.size + 1) (k := 0) (v := .int .i64 0) (by simp)
  have y1w0 : w.heap.size < w1.heap.size := (by omega)
  have y1wp1 : w.heap.size < w1.heap.size + 1 := (by omega)
  have y1wp2 : w.heap.size < w1.heap.size + 1 + 1 := (by omega)
  have HL1 := hvl1
  have HL2 := hvl2
  go_wp2_with fail
  go_loopw [8, 19] (fun s x wr => ∃ j : Nat, j ≤ k1 ∧ x = .int .i64 j ∧ s = .int .i64 (-4 - (j : Int)) ∧ Below w.heap.size w wr ∧ Cls wr [(w.heap.size, 0, .slice AR m cr), (w.heap.size, 1, .slice AB mb cb), (w.heap.size, 2, .slice AO n co), (w.heap.size + 1, 0, .int .i64 0), (w.heap.size + 1, 1, .int .i64 0), (w1.heap.size, 0, .int .i64 (f1 j).1), (w1.heap.size, 1, .int .i64 (f1 j).2)]) (fun _ x _ => k1 - (intOf x).toNat)
  case atStart => exact ⟨0, Nat.zero_le _, rfl, by simp, (by repeat (first | with_reducible exact D1 | with_reducible apply bdrew | with_reducible apply bdrewN | with_reducible apply balloc | ((with_reducible refine bset ?_ ?_ _); rotate_left; (first | omega | (simp <;> omega))))), (by simp [Cls, go_sem, F1, y1w1, y1w0, y1wp1, y1wp2])⟩
  case round =>
    obtain ⟨j, hj, rfl, rfl, hBr1, hCr1⟩ := hrel
    obtain ⟨w2, rfl⟩ : ∃ wo : World, wo = wr := ⟨_, rfl⟩
    have dr1s := hBr1.size
    have Fr1 := hCr1
    simp only [Cls, and_true] at Fr1
    have yr1w1 : w.heap.size + 1 < w2.heap.size := hCr1.blk (b := w.heap.size + 1) (k := 0) (v := .int .i64 0) (by simp)
    have yr1w0 : w.heap.size < w2.heap.size := (by omega)
    have yr1wp1 : w.heap.size < w2.heap.size + 1 := (by omega)
    have yr1wp2 : w.heap.size < w2.heap.size + 1 + 1 := (by omega)
    have yr1w10 : w1.heap.size < w2.heap.size := hCr1.blk (b := w1.heap.size) (k := 0) (v := .int .i64 (f1 j).1) (by simp)
    have yr1w1p1 : w1.heap.size < w2.heap.size + 1 := (by omega)
    have yr1w1p2 : w1.heap.size < w2.heap.size + 1 + 1 := (by omega)
    by_cases hlt : j < k1
    · obtain ⟨v, hv⟩ : ∃ v, Hid (vs[j]? = some v) := ⟨vs[j]'(by rw [HL1.out]; exact hlt), Lib.hid (List.getElem?_eq_getElem _)⟩
      obtain ⟨gv, Bv, cv, hA, hvc1, hvc2, hvI, hvl⟩ := (HV1.out.below (w := w) (w' := w2) hBr1) j v hv.out
      obtain ⟨x, d⟩ := v
      dsimp only at hvc1 hvc2 hvI hvl
      subst hA
      obtain ⟨lx, hlx⟩ : ∃ lx, Hid (x.length = lx) := ⟨_, Lib.hid rfl⟩
      rw [hlx.out] at hvc1 hvl
      obtain ⟨c, hc⟩ : ∃ c, Hid (vecC x d (n : Int) = c) := ⟨_, Lib.hid rfl⟩
      have HVI := Lib.hid hvI
      have HVC : Hid (∀ W : World, Below w2.heap.size w2 W → Calls Try.prog 56 #[.agg #[.slice Bv lx cv, .int .i64 d], .int .i64 (n : Int)] W fun e w' => e = .returned (.int .i64 c) ∧ Below W.heap.size W w') := Lib.hid (fun W hB => by
        have h := lvcode_any W Bv cv x d (n : Int) (HVI.out.below hB) (by rw [hlx.out]; exact hvl)
        rw [hlx.out, hc.out] at h
        exact h)
      have HOj := Lib.hid (HO1.out j)
      have HSj := Lib.hid (HS1.out j _ hv.out)
      have HNj := Lib.hid (fun h0 => HN1.out j _ c h0 hv.out hc.out)
      have HZj := Lib.hid (HZ1.out j)
      obtain ⟨q, hq⟩ : ∃ q, Hid (f1 j = q) := ⟨_, Lib.hid rfl⟩
      rw [hq.out] at HOj HSj HNj HZj Fr1 hCr1
      obtain ⟨a, a2⟩ := q
      dsimp only at HOj HSj HNj HZj Fr1 hCr1
      go_wp2_with fail
      refine (HVC.out _ (by repeat (first | with_reducible exact Below.refl _ _ | with_reducible apply bdrew | with_reducible apply bdrewN | with_reducible apply balloc | ((with_reducible refine bset ?_ ?_ _); rotate_left; (first | omega | (simp <;> omega)))))).mono ?_
      rintro e w3 ⟨rfl, hB3⟩
      have D3 := dstep w hB3 (by repeat (first | with_reducible exact hBr1 | with_reducible apply bdrew | with_reducible apply bdrewN | with_reducible apply balloc | ((with_reducible refine bset ?_ ?_ _); rotate_left; (first | omega | (simp <;> omega)))))
      have C3 := Cls.below (l := [(w.heap.size, 0, .slice AR m cr), (w.heap.size, 1, .slice AB mb cb), (w.heap.size, 2, .slice AO n co), (w.heap.size + 1, 0, .int .i64 0), (w.heap.size + 1, 1, .int .i64 0), (w1.heap.size, 0, .int .i64 a), (w1.heap.size, 1, .int .i64 a2)]) hB3 (by simp [Cls, go_sem, Fr1, yr1w1, yr1w0, yr1wp1, yr1wp2, yr1w10, yr1w1p1, yr1w1p2])
      have F3 := C3
      simp only [Cls, and_true] at F3
      have y3w1 : w.heap.size + 1 < w3.heap.size := C3.blk (b := w.heap.size + 1) (k := 0) (v := .int .i64 0) (by simp)
      have y3w0 : w.heap.size < w3.heap.size := (by omega)
      have y3wp1 : w.heap.size < w3.heap.size + 1 := (by omega)
      have y3wp2 : w.heap.size < w3.heap.size + 1 + 1 := (by omega)
      have y3w10 : w1.heap.size < w3.heap.size := C3.blk (b := w1.heap.size) (k := 0) (v := .int .i64 a) (by simp)
      have y3w1p1 : w1.heap.size < w3.heap.size + 1 := (by omega)
      have y3w1p2 : w1.heap.size < w3.heap.size + 1 + 1 := (by omega)
      by_cases ha : a = 0
      · obtain rfl : a2 = 0 := HZj.out ha
        subst ha
        by_cases hc0 : c = 0
        · have HE := Lib.hid (HSj.out (by rw [hc.out]; exact hc0))
          subst hc0
          go_wp2
          go_roundw
          case rel => exact ⟨j + 1, by omega, by go_num, (by congr 1; omega), (by repeat (first | with_reducible exact D3 | with_reducible apply bdrew | with_reducible apply bdrewN | with_reducible apply balloc | ((with_reducible refine bset ?_ ?_ _); rotate_left; (first | omega | (simp <;> omega))))), (by rw [HE.out]; simp [Cls, go_sem, F3, y3w1, y3w0, y3wp1, y3wp2, y3w10, y3w1p1, y3w1p2])⟩
          case measure => simp [intOf]; omega
        · have HE := Lib.hid (HNj.out rfl hc0)
          have hc1 : (c != 0) = true := by simpa using hc0
          go_wp2_with fail
          refine (lfault_any _ _ _).mono ?_
          rintro e w4 ⟨rfl, hB4⟩
          have D4 := dstep w hB4 (by repeat (first | with_reducible exact D3 | with_reducible apply bdrew | with_reducible apply bdrewN | with_reducible apply balloc | ((with_reducible refine bset ?_ ?_ _); rotate_left; (first | omega | (simp <;> omega)))))
          have C4 := Cls.below (l := [(w.heap.size, 0, .slice AR m cr), (w.heap.size, 1, .slice AB mb cb), (w.heap.size, 2, .slice AO n co), (w.heap.size + 1, 0, .int .i64 0), (w.heap.size + 1, 1, .int .i64 0), (w1.heap.size, 0, .int .i64 0), (w1.heap.size, 1, .int .i64 0)]) hB4 (by simp [Cls, go_sem, F3, y3w1, y3w0, y3wp1, y3wp2, y3w10, y3w1p1, y3w1p2])
          have F4 := C4
          simp only [Cls, and_true] at F4
          have y4w1 : w.heap.size + 1 < w4.heap.size := C4.blk (b := w.heap.size + 1) (k := 0) (v := .int .i64 0) (by simp)
          have y4w0 : w.heap.size < w4.heap.size := (by omega)
          have y4wp1 : w.heap.size < w4.heap.size + 1 := (by omega)
          have y4wp2 : w.heap.size < w4.heap.size + 1 + 1 := (by omega)
          have y4w10 : w1.heap.size < w4.heap.size := C4.blk (b := w1.heap.size) (k := 0) (v := .int .i64 0) (by simp)
          have y4w1p1 : w1.heap.size < w4.heap.size + 1 := (by omega)
          have y4w1p2 : w1.heap.size < w4.heap.size + 1 + 1 := (by omega)
          go_wp2
          go_roundw
          case rel => exact ⟨j + 1, by omega, by go_num, (by congr 1; omega), (by repeat (first | with_reducible exact D4 | with_reducible apply bdrew | with_reducible apply bdrewN | with_reducible apply balloc | ((with_reducible refine bset ?_ ?_ _); rotate_left; (first | omega | (simp <;> omega))))), (by rw [HE.out]; simp [Cls, go_sem, F4, y4w1, y4w0, y4wp1, y4wp2, y4w10, y4w1p1, y4w1p2])⟩
          case measure => simp [intOf]; omega
      · have HE := Lib.hid (HOj.out ha)
        have ha1 : (a == 0) = false := by simpa using ha
        go_wp2
        go_roundw
        case rel => exact ⟨j + 1, by omega, by go_num, (by congr 1; omega), (by repeat (first | with_reducible exact D3 | with_reducible apply bdrew | with_reducible apply bdrewN | with_reducible apply balloc | ((with_reducible refine bset ?_ ?_ _); rotate_left; (first | omega | (simp <;> omega))))), (by rw [HE.out]; simp [Cls, go_sem, F3, y3w1, y3w0, y3wp1, y3wp2, y3w10, y3w1p1, y3w1p2])⟩
        case measure => simp [intOf]; omega
    · obtain rfl : k1 = j := by omega
      rw [← H02.out] at hCr1 Fr1
      go_wp2_with fail
      go_loopw [8, 43] (fun s x wr => ∃ j : Nat, j ≤ k2 ∧ x = .int .i64 j ∧ s = .int .i64 (-4 - (k1 : Int) - (j : Int)) ∧ Below w.heap.size w wr ∧ Cls wr [(w.heap.size, 0, .slice AR m cr), (w.heap.size, 1, .slice AB mb cb), (w.heap.size, 2, .slice AO n co), (w.heap.size + 1, 0, .int .i64 0), (w.heap.size + 1, 1, .int .i64 0), (w1.heap.size, 0, .int .i64 (f2 j).1), (w1.heap.size, 1, .int .i64 (f2 j).2)]) (fun _ x _ => k2 - (intOf x).toNat)
      case atStart => exact ⟨0, Nat.zero_le _, rfl, by simp, (by repeat (first | with_reducible exact hBr1 | with_reducible apply bdrew | with_reducible apply bdrewN | with_reducible apply balloc | ((with_reducible refine bset ?_ ?_ _); rotate_left; (first | omega | (simp <;> omega))))), (by simp [Cls, go_sem, Fr1, yr1w1, yr1w0, yr1wp1, yr1wp2, yr1w10, yr1w1p1, yr1w1p2])⟩
      case round =>
        obtain ⟨j, hj, rfl, rfl, hBr2, hCr2⟩ := hrel
        obtain ⟨w5, rfl⟩ : ∃ wo : World, wo = wr := ⟨_, rfl⟩
        have dr2s := hBr2.size
        have Fr2 := hCr2
        simp only [Cls, and_true] at Fr2
        have yr2w1 : w.heap.size + 1 < w5.heap.size := hCr2.blk (b := w.heap.size + 1) (k := 0) (v := .int .i64 0) (by simp)
        have yr2w0 : w.heap.size < w5.heap.size := (by omega)
        have yr2wp1 : w.heap.size < w5.heap.size + 1 := (by omega)
        have yr2wp2 : w.heap.size < w5.heap.size + 1 + 1 := (by omega)
        have yr2w10 : w1.heap.size < w5.heap.size := hCr2.blk (b := w1.heap.size) (k := 0) (v := .int .i64 (f2 j).1) (by simp)
        have yr2w1p1 : w1.heap.size < w5.heap.size + 1 := (by omega)
        have yr2w1p2 : w1.heap.size < w5.heap.size + 1 + 1 := (by omega)
        by_cases hlt : j < k2
        · obtain ⟨v, hv⟩ : ∃ v, Hid (us[j]? = some v) := ⟨us[j]'(by rw [HL2.out]; exact hlt), Lib.hid (List.getElem?_eq_getElem _)⟩
          obtain ⟨gv, Bv, cv, hA, hvc1, hvc2, hvI, hvl⟩ := (HV2.out.below (w := w) (w' := w5) hBr2) j v hv.out
          obtain ⟨x, d⟩ := v
          dsimp only at hvc1 hvc2 hvI hvl
          subst hA
          obtain ⟨lx, hlx⟩ : ∃ lx, Hid (x.length = lx) := ⟨_, Lib.hid rfl⟩
          rw [hlx.out] at hvc1 hvl
          obtain ⟨c, hc⟩ : ∃ c, Hid (vecC x d (m : Int) = c) := ⟨_, Lib.hid rfl⟩
          have HVI := Lib.hid hvI
          have HVC : Hid (∀ W : World, Below w5.heap.size w5 W → Calls Try.prog 56 #[.agg #[.slice Bv lx cv, .int .i64 d], .int .i64 (m : Int)] W fun e w' => e = .returned (.int .i64 c) ∧ Below W.heap.size W w') := Lib.hid (fun W hB => by
            have h := lvcode_any W Bv cv x d (m : Int) (HVI.out.below hB) (by rw [hlx.out]; exact hvl)
            rw [hlx.out, hc.out] at h
            exact h)
          have HOj := Lib.hid (HO2.out j)
          have HSj := Lib.hid (HS2.out j _ hv.out)
          have HNj := Lib.hid (fun h0 => HN2.out j _ c h0 hv.out hc.out)
          have HZj := Lib.hid (HZ2.out j)
          obtain ⟨q, hq⟩ : ∃ q, Hid (f2 j = q) := ⟨_, Lib.hid rfl⟩
          rw [hq.out] at HOj HSj HNj HZj Fr2 hCr2
          obtain ⟨a, a2⟩ := q
          dsimp only at HOj HSj HNj HZj Fr2 hCr2
          go_wp2_with fail
          refine (HVC.out _ (by repeat (first | with_reducible exact Below.refl _ _ | with_reducible apply bdrew | with_reducible apply bdrewN | with_reducible apply balloc | ((with_reducible refine bset ?_ ?_ _); rotate_left; (first | omega | (simp <;> omega)))))).mono ?_
          rintro e w6 ⟨rfl, hB6⟩
          have D6 := dstep w hB6 (by repeat (first | with_reducible exact hBr2 | with_reducible apply bdrew | with_reducible apply bdrewN | with_reducible apply balloc | ((with_reducible refine bset ?_ ?_ _); rotate_left; (first | omega | (simp <;> omega)))))
          have C6 := Cls.below (l := [(w.heap.size, 0, .slice AR m cr), (w.heap.size, 1, .slice AB mb cb), (w.heap.size, 2, .slice AO n co), (w.heap.size + 1, 0, .int .i64 0), (w.heap.size + 1, 1, .int .i64 0), (w1.heap.size, 0, .int .i64 a), (w1.heap.size, 1, .int .i64 a2)]) hB6 (by simp [Cls, go_sem, Fr2, yr2w1, yr2w0, yr2wp1, yr2wp2, yr2w10, yr2w1p1, yr2w1p2])
          have F6 := C6
          simp only [Cls, and_true] at F6
          have y6w1 : w.heap.size + 1 < w6.heap.size := C6.blk (b := w.heap.size + 1) (k := 0) (v := .int .i64 0) (by simp)
          have y6w0 : w.heap.size < w6.heap.size := (by omega)
          have y6wp1 : w.heap.size < w6.heap.size + 1 := (by omega)
          have y6wp2 : w.heap.size < w6.heap.size + 1 + 1 := (by omega)
          have y6w10 : w1.heap.size < w6.heap.size := C6.blk (b := w1.heap.size) (k := 0) (v := .int .i64 a) (by simp)
          have y6w1p1 : w1.heap.size < w6.heap.size + 1 := (by omega)
          have y6w1p2 : w1.heap.size < w6.heap.size + 1 + 1 := (by omega)
          by_cases ha : a = 0
          · obtain rfl : a2 = 0 := HZj.out ha
            subst ha
            by_cases hc0 : c = 0
            · have HE := Lib.hid (HSj.out (by rw [hc.out]; exact hc0))
              subst hc0
              go_wp2
              go_roundw
              case rel => exact ⟨j + 1, by omega, by go_num, (by congr 1; omega), (by repeat (first | with_reducible exact D6 | with_reducible apply bdrew | with_reducible apply bdrewN | with_reducible apply balloc | ((with_reducible refine bset ?_ ?_ _); rotate_left; (first | omega | (simp <;> omega))))), (by rw [HE.out]; simp [Cls, go_sem, F6, y6w1, y6w0, y6wp1, y6wp2, y6w10, y6w1p1, y6w1p2])⟩
              case measure => simp [intOf]; omega
            · have HE := Lib.hid (HNj.out rfl hc0)
              have hc1 : (c != 0) = true := by simpa using hc0
              go_wp2_with fail
              refine (lfault_any _ _ _).mono ?_
              rintro e w7 ⟨rfl, hB7⟩
              have D7 := dstep w hB7 (by repeat (first | with_reducible exact D6 | with_reducible apply bdrew | with_reducible apply bdrewN | with_reducible apply balloc | ((with_reducible refine bset ?_ ?_ _); rotate_left; (first | omega | (simp <;> omega)))))
              have C7 := Cls.below (l := [(w.heap.size, 0, .slice AR m cr), (w.heap.size, 1, .slice AB mb cb), (w.heap.size, 2, .slice AO n co), (w.heap.size + 1, 0, .int .i64 0), (w.heap.size + 1, 1, .int .i64 0), (w1.heap.size, 0, .int .i64 0), (w1.heap.size, 1, .int .i64 0)]) hB7 (by simp [Cls, go_sem, F6, y6w1, y6w0, y6wp1, y6wp2, y6w10, y6w1p1, y6w1p2])
              have F7 := C7
              simp only [Cls, and_true] at F7
              have y7w1 : w.heap.size + 1 < w7.heap.size := C7.blk (b := w.heap.size + 1) (k := 0) (v := .int .i64 0) (by simp)
              have y7w0 : w.heap.size < w7.heap.size := (by omega)
              have y7wp1 : w.heap.size < w7.heap.size + 1 := (by omega)
              have y7wp2 : w.heap.size < w7.heap.size + 1 + 1 := (by omega)
              have y7w10 : w1.heap.size < w7.heap.size := C7.blk (b := w1.heap.size) (k := 0) (v := .int .i64 0) (by simp)
              have y7w1p1 : w1.heap.size < w7.heap.size + 1 := (by omega)
              have y7w1p2 : w1.heap.size < w7.heap.size + 1 + 1 := (by omega)
              go_wp2
              go_roundw
              case rel => exact ⟨j + 1, by omega, by go_num, (by congr 1; omega), (by repeat (first | with_reducible exact D7 | with_reducible apply bdrew | with_reducible apply bdrewN | with_reducible apply balloc | ((with_reducible refine bset ?_ ?_ _); rotate_left; (first | omega | (simp <;> omega))))), (by rw [HE.out]; simp [Cls, go_sem, F7, y7w1, y7w0, y7wp1, y7wp2, y7w10, y7w1p1, y7w1p2])⟩
              case measure => simp [intOf]; omega
          · have HE := Lib.hid (HOj.out ha)
            have ha1 : (a == 0) = false := by simpa using ha
            go_wp2
            go_roundw
            case rel => exact ⟨j + 1, by omega, by go_num, (by congr 1; omega), (by repeat (first | with_reducible exact D6 | with_reducible apply bdrew | with_reducible apply bdrewN | with_reducible apply balloc | ((with_reducible refine bset ?_ ?_ _); rotate_left; (first | omega | (simp <;> omega))))), (by rw [HE.out]; simp [Cls, go_sem, F6, y6w1, y6w0, y6wp1, y6wp2, y6w10, y6w1p1, y6w1p2])⟩
            case measure => simp [intOf]; omega
        · obtain rfl : k2 = j := by omega
          go_wp2
          refine bodyPost_ret (v := .agg #[.int .i64 (f2 k2).1, .int .i64 (f2 k2).2]) ?_ rfl ⟨rfl, by repeat (first | with_reducible exact hBr2 | with_reducible apply bdrew | with_reducible apply bdrewN | with_reducible apply balloc | ((with_reducible refine bset ?_ ?_ _); rotate_left; (first | omega | (simp <;> omega))))⟩
          simp [results, Try.results46, go_sem, Fr2, yr2w1, yr2w0, yr2wp1, yr2wp2, yr2w10, yr2w1p1, yr2w1p2]


end Go.Proofs.Ytkepfmglljkjhaa

namespace Go.Proofs.Ytkepfmglljkjhaa
open Go.RowKit
set_option linter.unusedVariables false
set_option linter.unusedSimpArgs false

/-- A call that tells whether I holds, unless there is a fault. -/
def Told (I : Prop) (a a2 : Int) (w w' : World) (e : Ending) : Prop := ∃ ok : Bool, e = .returned (.tuple #[.bool ok, .agg #[.int .i64 a, .int .i64 a2]]) ∧ Hid ((¬ a = 0 → ok = false) ∧ (a = 0 → (ok = true ↔ I))) ∧ Below w.heap.size w w'
theorem Told.bad {I : Prop} {a a2 : Int} {w w' : World} (h : ¬ a = 0) (hB : Below w.heap.size w w') : Told I a a2 w w' (.returned (.tuple #[.bool false, .agg #[.int .i64 a, .int .i64 a2]])) := ⟨false, rfl, Lib.hid ⟨fun _ => rfl, fun e => absurd e h⟩, hB⟩
theorem Told.ok {I : Prop} {w w' : World} {ok : Bool} (h : ok = true ↔ I) (hB : Below w.heap.size w w') : Told I 0 0 w w' (.returned (.tuple #[.bool ok, .agg #[.int .i64 0, .int .i64 0]])) := ⟨ok, rfl, Lib.hid ⟨fun e => absurd rfl e, fun _ => h⟩, hB⟩
/-- The fault of a program and a vector of its variables. -/
def fltP (p : LpV) (x : List Int) (d : Int) : Int × Int := if ¬ (lpF p).1 = 0 then lpF p else if ¬ vecC x d p.obj.length = 0 then (vecC x d p.obj.length, -4) else (0, 0)
def fltPD (p : LpV) (x : List Int) (d : Int) (y : List Int) (e : Int) : Int × Int := if ¬ (fltP p x d).1 = 0 then fltP p x d else if ¬ vecC y e p.rows.length = 0 then (vecC y e p.rows.length, -5) else (0, 0)
theorem lpF_of_zero {p : LpV} (h : (lpF p).1 = 0) : lpF p = (0, 0) := Prod.ext h (lpF_snd h)
theorem fltP_chk (p : LpV) (x : List Int) (d : Int) : chkN (lpF p) (-4) (vCodes [⟨x, d⟩] p.obj.length) 1 = fltP p x d := by
  have e : atL (vCodes [⟨x, d⟩] p.obj.length) 0 = vecC x d p.obj.length := vCodes_at (v := ⟨x, d⟩) rfl
  unfold fltP
  by_cases h : (lpF p).1 = 0
  · rw [if_neg (fun a => a h)]
    by_cases h2 : vecC x d p.obj.length = 0
    · rw [if_neg (fun a => a h2), chkN_same (by rw [e]; exact h2)]; exact lpF_of_zero h
    · rw [if_pos h2, chkN_new (f := lpF p) (k := 0) h e h2]; rfl
  · rw [if_pos h, chkN_old (f := lpF p) (k := 0) h]; rfl
theorem fltP_snd {p : LpV} {x : List Int} {d : Int} (h : (fltP p x d).1 = 0) : fltP p x d = (0, 0) := by
  unfold fltP at h ⊢
  by_cases h1 : (lpF p).1 = 0
  · rw [if_neg (fun a => a h1)] at h ⊢
    by_cases h2 : vecC x d p.obj.length = 0
    · rw [if_neg (fun a => a h2)]
    · rw [if_pos h2] at h; exact absurd h h2
  · rw [if_pos h1] at h; exact absurd h h1
theorem fltPD_chk (p : LpV) (x : List Int) (d : Int) (y : List Int) (e : Int) : chkN (fltP p x d) (-5) (vCodes [⟨y, e⟩] p.rows.length) 1 = fltPD p x d y e := by
  have e1 : atL (vCodes [⟨y, e⟩] p.rows.length) 0 = vecC y e p.rows.length := vCodes_at (v := ⟨y, e⟩) rfl
  unfold fltPD
  by_cases h : (fltP p x d).1 = 0
  · rw [if_neg (fun a => a h)]
    by_cases h2 : vecC y e p.rows.length = 0
    · rw [if_neg (fun a => a h2), chkN_same (by rw [e1]; exact h2)]; exact fltP_snd h
    · rw [if_pos h2, chkN_new (f := fltP p x d) (k := 0) h e1 h2]; rfl
  · rw [if_pos h, chkN_old (f := fltP p x d) (k := 0) h]; rfl
theorem fltP_zero {p : LpV} {x : List Int} {d : Int} (h : (fltP p x d).1 = 0) : LpOk p ∧ VOk p.obj.length x d := by
  unfold fltP at h
  by_cases h1 : (lpF p).1 = 0
  · rw [if_neg (fun a => a h1)] at h
    by_cases h2 : vecC x d p.obj.length = 0
    · exact ⟨lpF_zero h1, vecC_zero h2⟩
    · rw [if_pos h2] at h; exact absurd h h2
  · rw [if_pos h1] at h; exact absurd h h1
theorem fltPD_zero {p : LpV} {x y : List Int} {d e : Int} (h : (fltPD p x d y e).1 = 0) : LpOk p ∧ VOk p.obj.length x d ∧ VOk p.rows.length y e := by
  unfold fltPD at h
  by_cases h1 : (fltP p x d).1 = 0
  · rw [if_neg (fun a => a h1)] at h
    by_cases h2 : vecC y e p.rows.length = 0
    · exact ⟨(fltP_zero h1).1, (fltP_zero h1).2, vecC_zero h2⟩
    · rw [if_pos h2] at h; exact absurd h h2
  · rw [if_pos h1] at h; exact absurd h h1
theorem fltPD_snd {p : LpV} {x y : List Int} {d e : Int} (h : (fltPD p x d y e).1 = 0) : (fltPD p x d y e).2 = 0 := by
  unfold fltPD at h ⊢
  by_cases h1 : (fltP p x d).1 = 0
  · rw [if_neg (fun a => a h1)] at h ⊢
    by_cases h2 : vecC y e p.rows.length = 0
    · rw [if_neg (fun a => a h2)]
    · rw [if_pos h2] at h; exact absurd h h2
  · rw [if_pos h1] at h; exact absurd h h1
theorem VecsRead.one_at {w : World} {g : Nat} {B : Option Addr} {c lx : Nat} {x : List Int} {d : Int} (hl : x.length = lx) (h1 : w.cell? ⟨g, 0, none⟩ = some (.slice B lx c)) (h2 : w.cell? ⟨g, 1, none⟩ = some (.int .i64 d)) (h3 : Ints w B x) (h4 : lx ≤ 9223372036854775807) : VecsRead w (some ⟨g, 0, none⟩) [⟨x, d⟩] := by
  subst hl; exact VecsRead.one h1 h2 h3 h4
theorem lcheck_pd (w : World) (AR AB AO : Option Addr) (cr cb co : Nat) (p : LpV) (hM : LpMem w AR AB AO p) (m mb n : Nat) (hrl : Hid (p.rows.length = m)) (hbl : Hid (p.bounds.length = mb)) (hol : Hid (p.obj.length = n)) (X : Option Addr) (cX lx : Nat) (x : List Int) (d : Int) (hlx : Hid (x.length = lx)) (hIx : Ints w X x) (hx63 : lx ≤ 9223372036854775807) (Y : Option Addr) (cY ly : Nat) (y : List Int) (e : Int) (hly : Hid (y.length = ly)) (hIy : Ints w Y y) (hy63 : ly ≤ 9223372036854775807) (g g2 : Nat) (h1 : w.cell? ⟨g, 0, none⟩ = some (.slice X lx cX)) (h2 : w.cell? ⟨g, 1, none⟩ = some (.int .i64 d)) (h3 : w.cell? ⟨g2, 0, none⟩ = some (.slice Y ly cY)) (h4 : w.cell? ⟨g2, 1, none⟩ = some (.int .i64 e)) (a a2 : Int) (hf : Hid (fltPD p x d y e = (a, a2))) :
    Calls Try.prog 46 #[.agg #[.slice AR m cr, .slice AB mb cb, .slice AO n co], .slice (some ⟨g, 0, none⟩) 1 1, .slice (some ⟨g2, 0, none⟩) 1 1] w fun e w' => e = .returned (.agg #[.int .i64 a, .int .i64 a2]) ∧ Below w.heap.size w w' := by
  have h := lcheck_any w AR AB AO cr cb co p hM m mb n hrl hbl hol (some ⟨g, 0, none⟩) (some ⟨g2, 0, none⟩) 1 1 1 1 [⟨x, d⟩] [⟨y, e⟩] (Lib.hid rfl) (Lib.hid rfl) (by omega) (by omega) (VecsRead.one_at hlx.out h1 h2 hIx hx63) (VecsRead.one_at hly.out h3 h4 hIy hy63)
  have e : chkN (chkN (lpF p) (-4) (vCodes [⟨x, d⟩] n) 1) (-4 - ((1 : Nat) : Int)) (vCodes [⟨y, e⟩] m) 1 = (a, a2) := by
    show chkN (chkN (lpF p) (-4) (vCodes [⟨x, d⟩] n) 1) (-5) (vCodes [⟨y, e⟩] m) 1 = _
    rw [← hol.out, ← hrl.out, fltP_chk, fltPD_chk]; exact hf.out
  rw [e] at h
  exact h
theorem obj_dot {p : LpV} {n : Nat} (hn : p.obj.length = n) (x : List Int) : LA.valP p.lp (atL x) = dotL n p.obj x := by subst hn; rfl
theorem bnd_dot {p : LpV} {m : Nat} (hm : p.rows.length = m) (y : List Int) : LA.valD p.lp (atL y) = dotL m p.bounds y := by subst hm; rfl
theorem LpOk.c100 {p : LpV} (h : LpOk p) : ∀ c ∈ p.obj, -100 ≤ c ∧ c ≤ 100 := fun c hc => by have := h.c c hc; omega
theorem LpOk.b100 {p : LpV} (h : LpOk p) : ∀ c ∈ p.bounds, -100 ≤ c ∧ c ≤ 100 := fun c hc => by
  obtain ⟨i, hi⟩ := List.getElem?_of_mem hc
  have := h.bound hi; omega
theorem ray_iff {p : LpV} {n : Nat} (hn : p.obj.length = n) (x : List Int) : LA.IsRay p.lp (atL x) ↔ LA.IsPt p.lp (atL x) 0 ∧ 0 < dotL n p.obj x := by
  rw [← obj_dot hn]
  constructor
  · rintro ⟨h1, h2, h3⟩
    exact ⟨⟨fun k hk => by rw [Int.mul_zero]; exact h1 k hk, h2⟩, h3⟩
  · rintro ⟨⟨h1, h2⟩, h3⟩
    exact ⟨fun k hk => by have := h1 k hk; rw [Int.mul_zero] at this; exact this, h2, h3⟩
end Go.Proofs.Ytkepfmglljkjhaa
