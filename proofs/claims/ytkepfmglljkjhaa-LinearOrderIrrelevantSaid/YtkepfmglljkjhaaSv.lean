/-
  What linear.Solve returns, in plain words.
-/
import Derived.Test.YtkepfmglljkjhaaTb6
import Derived.Test.YtkepfmglljkjhaaLq1
import Derived.Test.YtkepfmglljkjhaaFv
namespace Go.Proofs.Ytkepfmglljkjhaa
open Go.RowKit
set_option linter.unusedVariables false
set_option linter.unusedSimpArgs false

/-- An entry of a list. -/
def atL (x : List Int) (j : Nat) : Int := (x[j]?).getD 0
theorem atL_row {n j : Nat} (f : Nat → Int) (h : j < n) : atL (tbRow n f) j = f j := by unfold atL; rw [tbRow_at f h]; rfl
/-- A vector of n numbers, with a denominator, in lowest terms. -/
structure VOk (n : Nat) (x : List Int) (d : Int) : Prop where
  len : x.length = n
  pos : 0 < d
  dle : d ≤ 100000000
  le : ∀ a ∈ x, -100000000 ≤ a ∧ a ≤ 100000000
  one : vgcd d x = 1
theorem tdiv_le {a g B : Int} (hg : 0 < g) (hd : g ∣ a) (h : -B ≤ a ∧ a ≤ B) : -B ≤ a.tdiv g ∧ a.tdiv g ≤ B := abs_of_mul hg (tdiv_mul_of_dvd hd) h
theorem vok_make {d : Int} {x : List Int} (hd0 : 0 < d) (hd1 : d ≤ 100000000) (hx : ∀ a ∈ x, -100000000 ≤ a ∧ a ≤ 100000000) : VOk x.length (vdiv d x) (d.tdiv (vgcd d x)) := by
  have hg := vgcd_pos (xs := x) hd0
  refine ⟨vdiv_len _ _, vden_pos hd0, (tdiv_le hg (vgcd_dvd x d).1 ⟨by omega, hd1⟩).2, fun a ha => ?_, vdiv_one hd0⟩
  unfold vdiv at ha
  obtain ⟨b, hb, rfl⟩ := List.mem_map.1 ha
  exact tdiv_le hg ((vgcd_dvd x d).2 b hb) (hx b hb)
theorem atL_div (d : Int) (x : List Int) (j : Nat) : vgcd d x * atL (vdiv d x) j = atL x j := by
  unfold atL
  rcases Nat.lt_or_ge j x.length with h | h
  · obtain ⟨y, h1, h2⟩ := vdiv_at (d := d) (List.getElem?_eq_getElem h)
    rw [h1, List.getElem?_eq_getElem h]; exact h2
  · rw [List.getElem?_eq_none h, List.getElem?_eq_none (by rw [vdiv_len]; exact h)]; simp
theorem vden_div (d : Int) (x : List Int) : vgcd d x * d.tdiv (vgcd d x) = d := tdiv_mul_of_dvd (vgcd_dvd x d).1
section
variable {P : LA.LP} {g : Int} {x x' : Nat → Int} {d d' : Int}
theorem le_of_scale {a b : Int} (hg : 0 < g) (h : g * a ≤ g * b) : a ≤ b := Int.le_of_mul_le_mul_left h hg
theorem lt_of_scale {a b : Int} (hg : 0 < g) (h : g * a < g * b) : a < b := Int.lt_of_mul_lt_mul_left h (Int.le_of_lt hg)
theorem sum_scale {n : Nat} (A : Nat → Int) (h : ∀ j, j < n → x j = g * x' j) : LA.sumN n (fun j => A j * x j) = g * LA.sumN n fun j => A j * x' j := by
  rw [← LA.sumN_mul]
  exact LA.sumN_congr fun j hj => by rw [h j hj]; grind
theorem nn_scale {a : Int} (hg : 0 < g) (h : 0 ≤ g * a) : 0 ≤ a := le_of_scale hg (by rw [Int.mul_zero]; exact h)
theorem pt_scale (hg : 0 < g) (hx : ∀ j, j < P.n → x j = g * x' j) (hd : d = g * d') (h : LA.IsPt P x d) : LA.IsPt P x' d' :=
  ⟨fun k hk => le_of_scale hg (by
    have h1 := h.1 k hk
    rw [sum_scale _ hx, hd] at h1
    have : g * (P.b k * d') = P.b k * (g * d') := by grind
    omega), fun j hj => nn_scale hg (by rw [← hx j hj]; exact h.2 j hj)⟩
theorem du_scale (hg : 0 < g) (hx : ∀ j, j < P.m → x j = g * x' j) (hd : d = g * d') (h : LA.IsDu P x d) : LA.IsDu P x' d' :=
  ⟨fun k hk => le_of_scale hg (by
    have h1 := h.1 k hk
    rw [sum_scale _ hx, hd] at h1
    have : g * (P.c k * d') = P.c k * (g * d') := by grind
    omega), fun j hj => nn_scale hg (by rw [← hx j hj]; exact h.2 j hj)⟩
theorem ref_scale (hg : 0 < g) (hx : ∀ j, j < P.m → x j = g * x' j) (h : LA.IsRef P x) : LA.IsRef P x' :=
  ⟨fun k hk => nn_scale hg (by rw [← sum_scale _ hx]; exact h.1 k hk), fun j hj => nn_scale hg (by rw [← hx j hj]; exact h.2.1 j hj), lt_of_scale hg (by rw [← sum_scale _ hx, Int.mul_zero]; exact h.2.2)⟩
theorem ray_scale (hg : 0 < g) (hx : ∀ j, j < P.n → x j = g * x' j) (h : LA.IsRay P x) : LA.IsRay P x' :=
  ⟨fun k hk => le_of_scale hg (by rw [← sum_scale _ hx, Int.mul_zero]; exact h.1 k hk), fun j hj => nn_scale hg (by rw [← hx j hj]; exact h.2.1 j hj), lt_of_scale hg (by rw [← sum_scale _ hx, Int.mul_zero]; exact h.2.2)⟩
end
/-- The best value, with a point and a dual solution that prove it. -/
structure SolOpt (P : LA.LP) (num den : Int) (x : List Int) (dx : Int) (y : List Int) (dy : Int) : Prop where
  dpos : 0 < den
  cop : Int.gcd num den = 1
  nle : -707788800 ≤ num ∧ num ≤ 707788800
  dle : den ≤ 1179648
  xok : VOk P.n x dx
  yok : VOk P.m y dy
  px : LA.IsPt P (atL x) dx
  py : LA.IsDu P (atL y) dy
  vx : LA.valP P (atL x) * den = num * dx
  vy : LA.valD P (atL y) * den = num * dy
def SolOut (P : LA.LP) (st num den : Int) (x : List Int) (dx : Int) (y : List Int) (dy : Int) (r : List Int) (dr : Int) : Prop :=
  (st = 1 ∧ SolOpt P num den x dx y dy ∧ r = [] ∧ dr = 0) ∨
  (st = 2 ∧ num = 0 ∧ den = 0 ∧ x = [] ∧ dx = 0 ∧ r = [] ∧ dr = 0 ∧ VOk P.m y dy ∧ LA.IsRef P (atL y)) ∨
  (st = 3 ∧ num = 0 ∧ den = 0 ∧ y = [] ∧ dy = 0 ∧ VOk P.n x dx ∧ VOk P.n r dr ∧ LA.IsPt P (atL x) dx ∧ LA.IsRay P (atL r))
theorem SolOut.out {P : LA.LP} {st num den dx dy dr : Int} {x y r : List Int} (h : SolOut P st num den x dx y dy r dr) : LA.Outcome P st num den := by
  rcases h with ⟨h1, h2, _⟩ | ⟨h1, h2, h3, _, _, _, _, h4, h5⟩ | ⟨h1, h2, h3, _, _, h4, h5, h6, h7⟩
  · exact .inl ⟨h1, h2.dpos, ⟨_, dx, h2.xok.pos, h2.px, h2.vx⟩, _, dy, h2.yok.pos, h2.py, h2.vy⟩
  · exact .inr (.inl ⟨h1, h2, h3, _, h5⟩)
  · exact .inr (.inr ⟨h1, h2, h3, ⟨_, dx, h4.pos, h6⟩, _, h7⟩)
section
variable {P : LA.LP} {s : LA.St}
theorem ptV_le (hP : LA.LPIn P) (h : LA.Ok P s) {col : Nat} {B : Int} (hB : 0 ≤ B) (hc : ∀ i, i < P.m → -B ≤ s.T i col ∧ s.T i col ≤ B) (j : Nat) : -B ≤ LA.ptV P s col j ∧ LA.ptV P s col j ≤ B := by
  by_cases e : ∃ i, i < P.m ∧ s.bs i = j
  · obtain ⟨i, hi, rfl⟩ := e
    rw [LA.pt_at h.toTabl col hi]; exact hc i hi
  · rw [LA.pt_out col fun i hi e2 => e ⟨i, hi, e2⟩]; omega
/-- The lists of numbers that Solve brings to lowest terms. -/
def solX (P : LA.LP) (s : LA.St) : List Int := tbRow P.n fun j => 1 * ptTo s.bs s.T (P.n + P.m + 1) P.m j
def solY (P : LA.LP) (s : LA.St) (o : Nat) : List Int := tbRow P.m fun k => s.T o (P.n + k)
def solR (P : LA.LP) (s : LA.St) (c : Nat) : List Int := tbRow P.n fun j => if j = c then s.den else -1 * ptTo s.bs s.T c P.m j
theorem solX_at {j : Nat} (hj : j < P.n) : atL (solX P s) j = LA.ptV P s P.last j := by
  unfold solX; rw [atL_row _ hj, Int.one_mul]; rfl
theorem solY_at {o k : Nat} (hk : k < P.m) : atL (solY P s o) k = s.T o (P.n + k) := by unfold solY; rw [atL_row _ hk]
theorem solR_at {c j : Nat} (hj : j < P.n) : atL (solR P s c) j = LA.rayV P s c j := by
  unfold solR; rw [atL_row _ hj]
  unfold LA.rayV
  split
  · rfl
  · rw [Int.neg_mul, Int.one_mul]; rfl
theorem mem_row {n : Nat} {f : Nat → Int} {a : Int} (h : a ∈ tbRow n f) : ∃ j, j < n ∧ a = f j := by
  unfold tbRow at h
  obtain ⟨j, hj, e⟩ := List.mem_map.1 h
  exact ⟨j, List.mem_range.1 hj, e.symm⟩
theorem solX_le (hP : LA.LPIn P) (h : LA.Ok P s) : ∀ a ∈ solX P s, -5898240 ≤ a ∧ a ≤ 5898240 := fun a ha => by
  obtain ⟨j, hj, rfl⟩ := mem_row ha
  rw [Int.one_mul]
  exact ptV_le hP h (B := 5898240) (by omega) (fun i hi => h.le_last hP hi) j
theorem solR_le (hP : LA.LPIn P) (h : LA.Ok P s) {c : Nat} (hc : c ≤ P.n + P.m) : ∀ a ∈ solR P s c, -1179648 ≤ a ∧ a ≤ 1179648 := fun a ha => by
  obtain ⟨j, hj, rfl⟩ := mem_row ha
  have h1 := ptV_le hP h (B := 1179648) (by omega) (fun i hi => h.le_col hP hi hc) j
  have h2 := h.le_den hP
  have h3 := h.pos
  split
  · omega
  · have e : ptTo s.bs s.T c P.m j = LA.ptV P s c j := rfl
    rw [e, Int.neg_mul, Int.one_mul]; omega
theorem solY_le (hP : LA.LPIn P) (h : LA.Ok P s) : ∀ a ∈ solY P s P.m, -5898240 ≤ a ∧ a ≤ 5898240 := fun a ha => by
  obtain ⟨j, hj, rfl⟩ := mem_row ha
  exact h.goal_slack hP hj
theorem solZ_le (hP : LA.LPIn P) (h : LA.Ok P s) : ∀ a ∈ solY P s (P.m + 1), -294912 ≤ a ∧ a ≤ 294912 := fun a ha => by
  obtain ⟨j, hj, rfl⟩ := mem_row ha
  exact h.art_slack hP hj
theorem vok_row {n : Nat} {d B : Int} {f : Nat → Int} (hd0 : 0 < d) (hd1 : d ≤ 100000000) (hB : B ≤ 100000000) (hx : ∀ a ∈ tbRow n f, -B ≤ a ∧ a ≤ B) : VOk n (vdiv d (tbRow n f)) (d.tdiv (vgcd d (tbRow n f))) := by
  have h := vok_make (x := tbRow n f) hd0 hd1 (fun a ha => by have := hx a ha; omega)
  rw [tbRow_len] at h; exact h
theorem sol_pt (hP : LA.LPIn P) (h : LA.Ok P s) (hno : LA.NoArt P s) : VOk P.n (vdiv s.den (solX P s)) (s.den.tdiv (vgcd s.den (solX P s))) ∧ LA.IsPt P (atL (vdiv s.den (solX P s))) (s.den.tdiv (vgcd s.den (solX P s))) ∧ vgcd s.den (solX P s) * LA.valP P (atL (vdiv s.den (solX P s))) = LA.valP P (LA.ptV P s P.last) := by
  have hd := h.le_den hP
  have hp := h.pos
  have hg := vgcd_pos (xs := solX P s) hp
  have hat : ∀ j, j < P.n → LA.ptV P s P.last j = vgcd s.den (solX P s) * atL (vdiv s.den (solX P s)) j := fun j hj => by rw [atL_div, solX_at hj]
  have h1 := LA.point_ok h hno
  refine ⟨vok_row hp (by omega) (B := 5898240) (by omega) (solX_le hP h), pt_scale hg hat (vden_div _ _).symm ⟨h1.2, fun j _ => h1.1 j⟩, ?_⟩
  unfold LA.valP
  rw [sum_scale _ hat]
theorem sol_inf (hP : LA.LPIn P) (h : LA.Ok P s) (hno : LA.NoArt P s) {c : Nat} (hc : c < P.n + P.m) (hneg : s.T P.m c < 0) (hle : ∀ i, i < P.m → s.T i c ≤ 0) :
    SolOut P 3 0 0 (vdiv s.den (solX P s)) (s.den.tdiv (vgcd s.den (solX P s))) [] 0 (vdiv s.den (solR P s c)) (s.den.tdiv (vgcd s.den (solR P s c))) := by
  have hd := h.le_den hP
  have hp := h.pos
  have hg := vgcd_pos (xs := solR P s c) hp
  have h1 := LA.ray_ok h hno hc hneg hle
  have h2 := sol_pt hP h hno
  have hat : ∀ j, j < P.n → LA.rayV P s c j = vgcd s.den (solR P s c) * atL (vdiv s.den (solR P s c)) j := fun j hj => by rw [atL_div, solR_at hj]
  exact .inr (.inr ⟨rfl, rfl, rfl, rfl, rfl, h2.1, vok_row hp (by omega) (B := 1179648) (by omega) (solR_le hP h (by omega)), h2.2.1, ray_scale hg hat ⟨h1.2.1, fun j _ => h1.1 j, h1.2.2⟩⟩)
theorem sol_none (hP : LA.LPIn P) (h : LA.Ok P s) (hopt : ∀ j, j < P.n + P.m + 1 → 0 ≤ s.T (P.m + 1) j) (hneg : s.T (P.m + 1) P.last < 0) :
    SolOut P 2 0 0 [] 0 (vdiv s.den (solY P s (P.m + 1))) (s.den.tdiv (vgcd s.den (solY P s (P.m + 1)))) [] 0 := by
  have hd := h.le_den hP
  have hp := h.pos
  have hg := vgcd_pos (xs := solY P s (P.m + 1)) hp
  have h1 := LA.refuted_ok h hopt hneg
  have hat : ∀ k, k < P.m → s.T (P.m + 1) (P.n + k) = vgcd s.den (solY P s (P.m + 1)) * atL (vdiv s.den (solY P s (P.m + 1))) k := fun k hk => by rw [atL_div, solY_at hk]
  refine .inr (.inl ⟨rfl, rfl, rfl, rfl, rfl, rfl, rfl, vok_row hp (by omega) (B := 294912) (by omega) (solZ_le hP h), ref_scale (x := fun k => s.T (P.m + 1) (P.n + k)) hg hat ⟨h1.2.1, h1.1, h1.2.2⟩⟩)
theorem qn_le {n d B : Int} (hd : 0 < d) (h : -B ≤ n ∧ n ≤ B) : -B ≤ qn n d ∧ qn n d ≤ B := by
  have e : qs n d = n := by unfold qs; rw [if_neg (by omega)]
  have h1 := qn_mul n d
  rw [e, Int.mul_comm] at h1
  exact abs_of_mul (by have := gcd_pos (n := n) (d := d) (by omega); omega) h1 h
theorem qd_le {n d B : Int} (hd : 0 < d) (h : d ≤ B) : qd n d ≤ B := by
  have e : qs d d = d := by unfold qs; rw [if_neg (by omega)]
  have h1 := qd_mul n d
  rw [e, Int.mul_comm] at h1
  exact (abs_of_mul (B := B) (by have := gcd_pos (n := n) (d := d) (by omega); omega) h1 ⟨by omega, h⟩).2
theorem qfit_in {n d : Int} (hd : 0 < d) (h1 : d ≤ 1000000000) (h : -1000000000 ≤ n ∧ n ≤ 1000000000) : qfit n d := ⟨(qn_le hd h).1, (qn_le hd h).2, qd_le hd h1⟩
theorem sol_opt (hP : LA.LPIn P) (h : LA.Ok P s) (hno : LA.NoArt P s) (hopt : ∀ j, j < P.n + P.m → 0 ≤ s.T P.m j) :
    rc (s.T P.m P.last) s.den = 0 ∧ ri (s.T P.m P.last) s.den = 0 ∧ SolOut P 1 (rn (s.T P.m P.last) s.den) (rd (s.T P.m P.last) s.den) (vdiv s.den (solX P s)) (s.den.tdiv (vgcd s.den (solX P s))) (vdiv s.den (solY P s P.m)) (s.den.tdiv (vgcd s.den (solY P s P.m))) [] 0 := by
  have hd := h.le_den hP
  have hp := h.pos
  have hg := vgcd_pos (xs := solX P s) hp
  have hg2 := vgcd_pos (xs := solY P s P.m) hp
  have hgl := h.goal_last hP
  obtain ⟨o1, o2, o3, o4⟩ := LA.optimal_ok h hno hopt
  obtain ⟨p1, p2, p3⟩ := sol_pt hP h hno
  have hfit := qfit_in (n := s.T P.m P.last) hp (by omega) (by omega)
  have hat : ∀ k, k < P.m → s.T P.m (P.n + k) = vgcd s.den (solY P s P.m) * atL (vdiv s.den (solY P s P.m)) k := fun k hk => by rw [atL_div, solY_at hk]
  have hq := q_mul (n := s.T P.m P.last) (d := s.den) (by omega)
  have hqd := qd_pos (n := s.T P.m P.last) (d := s.den) (by omega)
  have ev : LA.valP P (LA.ptV P s P.last) = s.T P.m P.last := o3
  have key : ∀ {g v d' : Int}, 0 < g → g * v = s.T P.m P.last → g * d' = s.den → v * qd (s.T P.m P.last) s.den = qn (s.T P.m P.last) s.den * d' := fun {g v d'} hg h1 h2 => by
    rw [← h1, ← h2] at hq ⊢
    refine Int.eq_of_mul_eq_mul_left (show g ≠ 0 by omega) ?_
    grind
  refine ⟨by unfold rc; rw [if_pos hfit], by unfold ri; rw [if_pos hfit], .inl ⟨rfl, ?_, rfl, rfl⟩⟩
  have er : rn (s.T P.m P.last) s.den = qn (s.T P.m P.last) s.den := by unfold rn; rw [if_pos hfit]
  have ed : rd (s.T P.m P.last) s.den = qd (s.T P.m P.last) s.den := by unfold rd; rw [if_pos hfit]
  rw [er, ed]
  refine ⟨by omega, q_gcd (by omega), qn_le hp hgl, qd_le hp hd, p1, vok_row hp (by omega) (B := 5898240) (by omega) (solY_le hP h), p2, du_scale (x := fun k => s.T P.m (P.n + k)) hg2 hat (vden_div _ _).symm ⟨o2, o1⟩, key hg (by rw [p3, ev]) (vden_div _ _), key hg2 ?_ (vden_div _ _)⟩
  rw [← o4]
  unfold LA.valD
  rw [sum_scale _ hat]
end
/-! ### Parts of a row in memory -/
theorem row_part (N n m : Nat) (f : Nat → Int) (h : n + m ≤ N) : ((tbRow N f).drop n).take m = tbRow m fun k => f (n + k) := by
  apply List.ext_getElem?
  intro i
  rw [List.getElem?_take]
  split
  · next hi => rw [List.getElem?_drop, tbRow_at f (by omega), tbRow_at _ hi]
  · next hi => rw [List.getElem?_eq_none (by rw [tbRow_len]; omega)]
theorem Ints.take {w : World} {A : Option Addr} {xs : List Int} (h : Ints w A xs) (k : Nat) : Ints w A (xs.take k) := fun j u hu => by
  rw [List.map_take, List.getElem?_take] at hu
  split at hu
  · exact h j u hu
  · cases hu
/-- s[n:n+m] of a row of N numbers. -/
theorem cut_part (g N n m : Nat) (hN : n + m < N) (hN2 : N ≤ 1000) : ∃ A' : Option Addr, (∀ (w : World) (f : Nat → Int), IArr w g (tbRow N f) → Ints w A' (tbRow m fun k => f (n + k))) ∧
    ∀ (i j : Int), i = (n : Int) → j = (n : Int) + (m : Int) → ∀ (w : World), (Instr.slice 23 (.slice (some ⟨g, 0, none⟩) N N) (some (.int .i64 i)) (some (.int .i64 j)) none).run Try.prog w = .ok (.slice A' m (N - n)) w := by
  refine ⟨(some (⟨g, 0, none⟩ : Addr)).map (·.add n), fun w f h => ?_, ?_⟩
  · rw [← row_part N n m f (by omega)]
    exact (Ints.drop h.ints n).take m
  · rintro i j rfl rfl w
    have h0 : (0 : Int) ≤ n := by omega
    have h1 : (n : Int) ≤ (n : Int) + m := by omega
    have h2 : (0 : Int) ≤ (n : Int) + m := by omega
    have h3 : (n : Int) + (m : Int) ≤ N := by omega
    have h4 : ¬ N = n := by omega
    have h5 : ((n : Int) + (m : Int)).toNat = n + m := by omega
    simp [go_sem, Try.underlying23, h0, h1, h2, h3, h4, h5]
    try omega

end Go.Proofs.Ytkepfmglljkjhaa
