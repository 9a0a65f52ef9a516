/-
  The corners of a region: the list of all constraints, the words, the memory of corners.
-/
import Derived.Test.YtkepfmglljkjhaaS12
import Derived.Test.YtkepfmglljkjhaaS9
namespace Go.Proofs.Ytkepfmglljkjhaa
open Go.RowKit
set_option linter.unusedVariables false
set_option linter.unusedSimpArgs false

def rowsA (rows : List (List Int)) (bounds : List Int) (k : Nat) : List (List Int) := (List.range k).map fun q => (rows[q]?).getD [] ++ [(bounds[q]?).getD 0]
def unitR (n j : Nat) : List Int := tbRow (n + 1) fun k => if k = j then -1 else 0
def unitsA (n k : Nat) : List (List Int) := (List.range k).map (unitR n)
def allA (rows : List (List Int)) (bounds : List Int) (n : Nat) : List (List Int) := rowsA rows bounds rows.length ++ unitsA n n
def onesR (n : Nat) : List Int := tbRow (n + 1) fun _ => 1
theorem rowsA_succ {rows : List (List Int)} {bounds : List Int} {k : Nat} {r : List Int} {y : Int} (hr : rows[k]? = some r) (hy : bounds[k]? = some y) : rowsA rows bounds (k + 1) = rowsA rows bounds k ++ [r ++ [y]] := by
  unfold rowsA; rw [List.range_succ, List.map_append]; simp [hr, hy]
theorem unitsA_succ (n k : Nat) : unitsA n (k + 1) = unitsA n k ++ [unitR n k] := by unfold unitsA; rw [List.range_succ, List.map_append]; rfl
theorem rowsA_len (rows : List (List Int)) (bounds : List Int) (k : Nat) : (rowsA rows bounds k).length = k := by unfold rowsA; simp
theorem unitsA_len (n k : Nat) : (unitsA n k).length = k := by unfold unitsA; simp
/-- The size of a row of a system. -/
def RowB (n : Nat) (r : List Int) : Prop := r.length = n + 1 ∧ (∀ j, j < n → -4 ≤ LA.atI r j ∧ LA.atI r j ≤ 4) ∧ -20 ≤ LA.atI r n ∧ LA.atI r n ≤ 20
theorem RowB.in_ {n : Nat} {ms : List (List Int)} (h : ∀ r ∈ ms, RowB n r) (hl : ms.length = n) (hn : n ≤ 6) : LA.LPIn (LA.sysLP n (entM ms)) := by
  have hat : ∀ i, i < n → ∃ r, ms[i]? = some r ∧ RowB n r := fun i hi => ⟨ms[i], List.getElem?_eq_getElem (by omega), h _ (List.getElem_mem (by omega))⟩
  refine ⟨hn, hn, fun i hi j hj => ?_, fun i hi => ?_, fun j hj => ⟨by show -20 ≤ (0 : Int); omega, by show (0 : Int) ≤ 20; omega⟩⟩
  · obtain ⟨r, hr, hb⟩ := hat i hi
    show -4 ≤ entM ms i j ∧ entM ms i j ≤ 4
    rw [entM_at hr]
    exact hb.2.1 j hj
  · obtain ⟨r, hr, hb⟩ := hat i hi
    show -20 ≤ entM ms i n ∧ entM ms i n ≤ 20
    rw [entM_at hr]
    exact hb.2.2
theorem tb_atI {N j : Nat} (f : Nat → Int) (h : j < N) : LA.atI (tbRow N f) j = f j := by unfold LA.atI; rw [tbRow_at f h]; rfl
theorem unitR_b (n j : Nat) (h : j ≤ n) : RowB n (unitR n j) := by
  refine ⟨tbRow_len _ _, fun k hk => ?_, ?_⟩
  · unfold unitR; rw [tb_atI _ (by omega)]; split <;> omega
  · unfold unitR; rw [tb_atI _ (by omega)]; split <;> omega
theorem onesR_b (n : Nat) : RowB n (onesR n) := by
  refine ⟨tbRow_len _ _, fun k hk => ?_, ?_⟩
  · unfold onesR; rw [tb_atI _ (by omega)]; omega
  · unfold onesR; rw [tb_atI _ (by omega)]; omega
theorem atI_snoc {r : List Int} {n : Nat} (hl : r.length = n) (y : Int) : (∀ j, j < n → LA.atI (r ++ [y]) j = LA.atI r j) ∧ LA.atI (r ++ [y]) n = y := by
  subst hl
  refine ⟨fun j hj => ?_, ?_⟩
  · unfold LA.atI; rw [List.getElem?_append_left hj]
  · unfold LA.atI; rw [List.getElem?_append_right (Nat.le_refl _)]; simp
theorem snoc_b {n : Nat} {r : List Int} {y : Int} (hl : r.length = n) (hr : ∀ a ∈ r, -4 ≤ a ∧ a ≤ 4) (hy : -20 ≤ y ∧ y ≤ 20) : RowB n (r ++ [y]) := by
  have h := atI_snoc hl y
  refine ⟨by rw [List.length_append, hl]; rfl, fun j hj => ?_, by rw [h.2]; exact hy⟩
  rw [h.1 j hj]
  unfold LA.atI
  cases e : r[j]? with
  | none => simp
  | some a => exact hr a (List.mem_of_getElem? e)
theorem allA_b {rows : List (List Int)} {bounds : List Int} {n : Nat} (hrow : ∀ (i : Nat) (r : List Int), rows[i]? = some r → r.length = n ∧ ∀ a ∈ r, -4 ≤ a ∧ a ≤ 4) (hbl : bounds.length = rows.length) (hb : ∀ y ∈ bounds, -20 ≤ y ∧ y ≤ 20) : ∀ r ∈ allA rows bounds n, RowB n r := fun r hr => by
  unfold allA at hr
  rcases List.mem_append.1 hr with h | h
  · unfold rowsA at h
    obtain ⟨q, hq, rfl⟩ := List.mem_map.1 h
    rw [List.mem_range] at hq
    rw [List.getElem?_eq_getElem hq, List.getElem?_eq_getElem (show q < bounds.length by omega)]
    have h1 := hrow q _ (List.getElem?_eq_getElem hq)
    exact snoc_b h1.1 h1.2 (hb _ (List.getElem_mem _))
  · unfold unitsA at h
    obtain ⟨q, hq, rfl⟩ := List.mem_map.1 h
    rw [List.mem_range] at hq
    exact unitR_b n q (by omega)
theorem allA_len (rows : List (List Int)) (bounds : List Int) (n : Nat) : (allA rows bounds n).length = rows.length + n := by unfold allA; rw [List.length_append, rowsA_len, unitsA_len]
theorem allA_row {rows : List (List Int)} {bounds : List Int} {n q : Nat} {r : List Int} {y : Int} (hr : rows[q]? = some r) (hy : bounds[q]? = some y) : (allA rows bounds n)[q]? = some (r ++ [y]) := by
  have hq := (List.getElem?_eq_some_iff.1 hr).1
  unfold allA
  rw [List.getElem?_append_left (by rw [rowsA_len]; exact hq)]
  unfold rowsA
  rw [List.getElem?_map, List.getElem?_range hq]
  simp [hr, hy]
theorem allA_unit {rows : List (List Int)} {bounds : List Int} {n k : Nat} (hk : k < n) : (allA rows bounds n)[rows.length + k]? = some (unitR n k) := by
  unfold allA
  rw [List.getElem?_append_right (by rw [rowsA_len]; omega), rowsA_len, show rows.length + k - rows.length = k by omega]
  unfold unitsA
  rw [List.getElem?_map, List.getElem?_range hk]; rfl
/-! ### The words -/
structure CTo (all fixed : List (List Int)) (n : Nat) (cs : List (List Int × Int)) (k : Nat) : Prop where
  ok : ∀ c ∈ cs, c.1.length = n ∧ 0 < c.2 ∧ c.2 ≤ 1179648 ∧ (∀ x ∈ c.1, -5898240 ≤ x ∧ x ≤ 5898240) ∧ (∀ r ∈ all, LA.dotL n r (LA.atI c.1) ≤ LA.atI r n * c.2) ∧ LA.SolV fixed n (LA.atI c.1) c.2
  full : ∀ u, u < k → fixed.length + (LA.pickN u.testBit all all.length).length = n → LA.Kern (fixed ++ LA.pickN u.testBit all all.length) n →
    (∀ x d, 0 < d → LA.SolV (fixed ++ LA.pickN u.testBit all all.length) n x d → ∀ r ∈ all, LA.dotL n r x ≤ LA.atI r n * d) → ∃ c ∈ cs, LA.SolV (fixed ++ LA.pickN u.testBit all all.length) n (LA.atI c.1) c.2
section
variable {all fixed : List (List Int)} {n k : Nat} {cs : List (List Int × Int)}
theorem CTo.start : CTo all fixed n [] 0 := ⟨fun c h => (by cases h), fun u h => (by omega)⟩
theorem CTo.skip (h : CTo all fixed n cs k) (hno : fixed.length + (LA.pickN k.testBit all all.length).length = n → LA.Kern (fixed ++ LA.pickN k.testBit all all.length) n →
    (∀ x d, 0 < d → LA.SolV (fixed ++ LA.pickN k.testBit all all.length) n x d → ∀ r ∈ all, LA.dotL n r x ≤ LA.atI r n * d) → False) : CTo all fixed n cs (k + 1) :=
  ⟨h.ok, fun u hu h1 h2 h3 => by
    rcases Nat.lt_or_ge u k with h4 | h4
    · exact h.full u h4 h1 h2 h3
    · obtain rfl : u = k := by omega
      exact (hno h1 h2 h3).elim⟩
theorem CTo.add (h : CTo all fixed n cs k) {c : List Int × Int} (hc : c.1.length = n ∧ 0 < c.2 ∧ c.2 ≤ 1179648 ∧ (∀ x ∈ c.1, -5898240 ≤ x ∧ x ≤ 5898240) ∧ (∀ r ∈ all, LA.dotL n r (LA.atI c.1) ≤ LA.atI r n * c.2)) (hs : LA.SolV (fixed ++ LA.pickN k.testBit all all.length) n (LA.atI c.1) c.2) : CTo all fixed n (cs ++ [c]) (k + 1) :=
  ⟨fun d hd => by
    rcases List.mem_append.1 hd with h1 | h1
    · exact h.ok d h1
    · obtain rfl : d = c := by simpa using h1
      exact ⟨hc.1, hc.2.1, hc.2.2.1, hc.2.2.2.1, hc.2.2.2.2, fun r hr => hs r (List.mem_append_left _ hr)⟩, fun u hu h1 h2 h3 => by
    rcases Nat.lt_or_ge u k with h4 | h4
    · obtain ⟨d, hd, h5⟩ := h.full u h4 h1 h2 h3
      exact ⟨d, List.mem_append_left _ hd, h5⟩
    · obtain rfl : u = k := by omega
      exact ⟨c, by simp, hs⟩⟩
theorem word_of (P : Nat → Bool) : ∀ n : Nat, ∃ v : Nat, v < 2 ^ n ∧ ∀ e, e < n → v.testBit e = P e
  | 0 => ⟨0, by omega, fun e he => by omega⟩
  | n + 1 => by
    obtain ⟨v, h1, h2⟩ := word_of P n
    by_cases h : P n = true
    · refine ⟨2 ^ n + v, by rw [Nat.pow_succ]; omega, fun e he => ?_⟩
      rcases Nat.lt_or_ge e n with h3 | h3
      · rw [Nat.testBit_two_pow_add_gt h3]; exact h2 e h3
      · obtain rfl : e = n := by omega
        rw [Nat.testBit_two_pow_add_eq, Nat.testBit_lt_two_pow h1, h]; rfl
    · refine ⟨v, by rw [Nat.pow_succ]; omega, fun e he => ?_⟩
      rcases Nat.lt_or_ge e n with h3 | h3
      · exact h2 e h3
      · obtain rfl : e = n := by omega
        rw [Nat.testBit_lt_two_pow h1]
        cases hp : P e with
        | true => exact absurd hp h
        | false => rfl
theorem pickN_congr {α : Type} {B C : Nat → Bool} {l : List α} {k : Nat} (h : ∀ q, q < k → B q = C q) : LA.pickN B l k = LA.pickN C l k := by
  induction k with
  | zero => rfl
  | succ k ih =>
    rw [LA.pickN_succ, LA.pickN_succ, ih (fun q hq => h q (by omega)), h k (by omega)]
theorem pickN_mono {α : Type} (B : Nat → Bool) (l : List α) {i k : Nat} (h : i ≤ k) : (LA.pickN B l i).length ≤ (LA.pickN B l k).length := by
  induction k with
  | zero => obtain rfl : i = 0 := by omega
            exact Nat.le_refl _
  | succ k ih =>
    rcases Nat.lt_or_ge k i with h1 | h1
    · obtain rfl : i = k + 1 := by omega
      exact Nat.le_refl _
    · rw [LA.pickN_succ, List.length_append]
      have := ih h1
      omega
theorem CTo.done (h : CTo all fixed n cs k) (hk : 2 ^ all.length ≤ k) : LA.Corners all fixed n cs :=
  ⟨h.ok, fun B h1 h2 h3 => by
    obtain ⟨v, hv, hb⟩ := word_of B all.length
    have e : LA.pickN v.testBit all all.length = LA.pickN B all all.length := pickN_congr hb
    rw [← e] at h1 h2 h3 ⊢
    exact h.full v (by omega) h1 h2 h3⟩
end
theorem pick_yes {all : List (List Int)} {u i : Nat} {r : List Int} (hr : all[i]? = some r) (h : u.testBit i = true) : LA.pickN u.testBit all (i + 1) = LA.pickN u.testBit all i ++ [r] := by rw [LA.pickN_succ, if_pos h, hr]; rfl
theorem pick_no {all : List (List Int)} {u i : Nat} (h : ¬ u.testBit i = true) : LA.pickN u.testBit all (i + 1) = LA.pickN u.testBit all i := by rw [LA.pickN_succ, if_neg h, List.append_nil]
/-! ### The memory of corners -/
def PCor (w : World) (row : Option Nat) (cs : List Value) (c : List Int × Int) : Prop :=
  ∃ A cap, cs = [.slice A c.1.length cap, .int .i64 c.2] ∧ Ints w A c.1 ∧ NilOk A c.1 cap ∧ (c.1 ≠ [] → ∀ ad, A = some ad → some ad.block ≠ row)
theorem pcor_stable : Stable PCor := by
  constructor
  · rintro w w' row cs c ⟨A, cap, e, hI, hn, ha⟩ hb
    exact ⟨A, cap, e, hI.below hb, hn, ha⟩
  · rintro w w' row cs c ⟨A, cap, e, hI, hn, ha⟩ hg
    have hI' := hI.grown2 hg ha
    refine ⟨⟨A, cap, e, hI', hn, ha⟩, ⟨A, cap, e, hI', hn, fun hr ad h k => ?_⟩⟩
    subst h
    have := ints_lt hI hr
    injection k with k
    omega
def OwnCo (base : Nat) (w : World) (v : Value) (cs : List (List Int × Int)) : Prop := OwnEs PCor 71 2 base w v cs
theorem OwnCo.below {base : Nat} {w w' : World} {v : Value} {cs : List (List Int × Int)} (h : OwnCo base w v cs) (hb : Below w.heap.size w w') : OwnCo base w' v cs := OwnEs.below pcor_stable h hb
theorem info_corner : (Try.prog.info? 71).map (fun i => (i.zero, i.size, i.bytes)) = some (some (.agg #[.slice none 0 0, .int .i64 0]), 2, 32) := by kernel_rfl
/-- What the search for corners says. -/
def CornSays (w : World) (all fixed : List (List Int)) (n : Nat) (e : Ending) (w' : World) : Prop :=
  ∃ v cs, e = .returned v ∧ OwnCo w.heap.size w' v cs ∧ LA.Corners all fixed n cs ∧ Below w.heap.size w w'
/-- append(v, x) of one element, as a step. -/
theorem step_els1 {α : Type} {P : World → Option Nat → List Value → α → Prop} {e : TypeId} {size base : Nat} {w : World} {v : Value} {els : List α} (hP : Stable P) (T : TypeId) (bytes : Nat) (z : Value) (hT : Try.prog.underlying T = some (.slice e)) (hinf : (Try.prog.info? e).map (fun i => (i.zero, i.size, i.bytes)) = some (some z, size, bytes)) (hzs : z.cells.size = size) (hsz : 0 < size) (hby : bytes ≤ 64)
    {ops : Array Oper} {o : Oper} {a : Act} {K : Act → World → Prop} {Q : Exit → Act → World → Prop} {E : Prop} (hgd : o.guard = none) (s x : Operand)
    (ho : o.op = .call { callee := .builtin .append, args := #[s, x], argTypes := #[T, T] })
    (hs : a.eval s = v) (hown : OwnEs P e size base w v els) (ad : Addr) (m : Nat) (hx : a.eval x = .slice (some ad) 1 m) (news : List Value) (y : α) (hnl : news.length = size) (hnews : ∀ j u, news[j]? = some u → w.cell? (ad.add j) = some u) (h1 : ∀ u ∈ news, u.oneCell' = true) (hy : P w v.ownBlock news y)
    (hlen : els.length < 1000000000000) (hbase : base ≤ w.heap.size)
    (h : ∀ v' w', OwnEs P e size base w' v' (els ++ [y]) → w.grownBy w' v.ownBlock → (v'.ownBlock = v.ownBlock ∨ v'.ownBlock = some w.heap.size) → K (a.put o.dst v') w') :
    if Region.wanted o (yielded ops a.tmps) = true then Oper.wp Try.prog o a w K Q else E := by
  obtain ⟨i0, hi0, hz⟩ := Option.map_eq_some_iff.1 hinf
  simp only [Prod.mk.injEq] at hz
  obtain ⟨cells, hr, hcs⟩ := hown
  have hcl := hr.1
  refine step_append_own_at hgd s x T ho base e i0 z size bytes hT hi0 hz.1 hz.2.1 hz.2.2 hzs hsz v els.length cells hs hr ad 1 m news hx (by omega) hnews h1 ?_ ?_ hbase ?_
  · simp only [maxLen]; omega
  · have := Nat.mul_le_mul_left (els.length + 1) hby
    omega
  · intro v' w' h2 h3 _ h4
    refine h v' w' ⟨cells ++ news, by rw [List.length_append]; exact h2, fun i a ha => ?_⟩ h3 h4
    have key : ∀ {cs : List Value} {a : α}, P w v.ownBlock cs a → P w' v'.ownBlock cs a := fun hp => by
      rcases h4 with h4 | h4
      · rw [h4]; exact (hP.grown hp h3).1
      · rw [h4]; exact (hP.grown hp h3).2
    rcases Nat.lt_or_ge i els.length with hi | hi
    · rw [List.getElem?_append_left hi] at ha
      have hle : i * size + size ≤ els.length * size := by
        have := Nat.mul_le_mul_right size (show i + 1 ≤ els.length from hi)
        rw [Nat.succ_mul] at this; exact this
      have e1 : ((cells ++ news).drop (i * size)).take size = (cells.drop (i * size)).take size := by
        rw [List.drop_append_of_le_length (by omega), List.take_append_of_le_length (by rw [List.length_drop]; omega)]
      rw [e1]
      exact key (hcs i a ha)
    · have hie : i = els.length := by
        have := (List.getElem?_eq_some_iff.1 ha).1
        rw [List.length_append] at this
        simp at this; omega
      subst hie
      rw [List.getElem?_append_right (Nat.le_refl _)] at ha
      simp at ha
      subst ha
      have e1 : ((cells ++ news).drop (els.length * size)).take size = news := by
        rw [← hcl, List.drop_left, List.take_of_length_le (by omega)]
      rw [e1]
      exact key hy
/-- s[:k] -/
theorem cut_upto (A : Option Addr) (n c k : Nat) (hk : k ≤ n) (hc : n ≤ c) (hc2 : c ≤ 9223372036854775807) :
    ∀ (i : Int), i = (k : Int) → ∀ (w : World), (Instr.slice 23 (.slice A n c) none (some (.int .i64 i)) none).run Try.prog w = .ok (.slice A k c) w := by
  rintro i rfl w
  have h0 : (0 : Int) ≤ k := by omega
  have h1 : (k : Int) ≤ n := by omega
  have h2 : (k : Int) ≤ c := by omega
  simp [go_sem, Try.underlying23, h0, h1, h2, hk]
  try omega
theorem Ints.take_ {w : World} {A : Option Addr} {xs : List Int} (h : Ints w A xs) (k : Nat) : Ints w A (xs.take k) := fun j u hu => by
  rw [List.map_take] at hu
  refine h j u ?_
  rw [List.getElem?_take] at hu
  split at hu
  · exact hu
  · cases hu
theorem dot_take {n : Nat} {r x : List Int} : dotL n (r.take n) x = LA.dotL n r (LA.atI x) := LA.sumN_congr fun j hj => by
  unfold atL LA.atI
  rw [List.getElem?_take, if_pos hj]
end Go.Proofs.Ytkepfmglljkjhaa
