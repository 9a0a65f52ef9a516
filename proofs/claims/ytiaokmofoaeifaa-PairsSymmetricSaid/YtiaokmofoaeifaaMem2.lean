/-
  More words for memory: append of a whole slice, cuts of a slice, copies.
-/
import Derived.Test.YtiaokmofoaeifaaMem
import Derived.Deep.Slices
import Derived.OwnWalk
namespace Go.Proofs.Ytiaokmofoaeifaa
open Go.RowKit
set_option linter.unusedVariables false
set_option linter.unusedSimpArgs false

theorem OwnI.cap_le {base n c : Nat} {w : World} {A : Option Addr} {xs : List Int} (h : OwnI base w (.slice A n c) xs) : n ≤ c := by
  rcases h.2 with ⟨h1, h2⟩ | ⟨g, cap, cur, h1, _, _, h3, _⟩
  · injection h1 with _ h3 h4; omega
  · injection h1 with _ h4 h5; omega
theorem OwnI.cap_max {base n c : Nat} {w : World} {A : Option Addr} {xs : List Int} (h : OwnI base w (.slice A n c) xs) : c ≤ 9223372036854775807 := by
  rcases h.2 with ⟨h1, h2⟩ | ⟨g, cap, cur, h1, _, _, h3, h4, _⟩
  · injection h1 with _ h3 h4; omega
  · injection h1 with _ h5 h6; simp only [maxLen] at h4; omega
theorem OwnI.len {base n c : Nat} {w : World} {A : Option Addr} {xs : List Int} (h : OwnI base w (.slice A n c) xs) : n = xs.length := by
  rcases h.2 with ⟨h1, h2⟩ | ⟨g, cap, cur, h1, _, _, h3, h4, _⟩
  · injection h1 with _ h3 h4; omega
  · injection h1 with _ h5 h6
theorem Ints.drop {w : World} {A : Option Addr} {xs : List Int} (h : Ints w A xs) (k : Nat) : Ints w (A.map (·.add k)) (xs.drop k) := fun j u hu => by
  rw [List.map_drop, List.getElem?_drop] at hu
  obtain ⟨ad, rfl, hc⟩ := h (k + j) u hu
  exact ⟨ad.add k, rfl, by rw [Go.Deep.add_add]; exact hc⟩
/-- s[k:] -/
theorem cut_ints (A : Option Addr) (n c k : Nat) (hk : k ≤ n) (hc : n ≤ c) (hc2 : c ≤ 9223372036854775807) : ∃ A', (A' = none → A = none) ∧ (∀ (w : World) (xs : List Int), xs.length = n → Ints w A xs → Ints w A' (xs.drop k)) ∧
    ∀ (i : Int), i = (k : Int) → ∀ (w : World), (Instr.slice 22 (.slice A n c) (some (.int .i64 i)) none none).run Try.prog w = .ok (.slice A' (n - k) (c - k)) w := by
  by_cases e : c = k
  · refine ⟨A, id, fun w xs hl h => ?_, ?_⟩
    · rw [List.drop_eq_nil_of_le (by omega)]; exact Row.nil _ _
    · rintro i rfl w
      have h0 : (0 : Int) ≤ k := by omega
      have h1 : (k : Int) ≤ n := by omega
      simp [go_sem, Try.underlying22, e, h0, h1, hk]
      try omega
  · refine ⟨A.map (·.add k), fun h => by simpa using h, fun w xs hl h => h.drop k, ?_⟩
    rintro i rfl w
    have h0 : (0 : Int) ≤ k := by omega
    have h1 : (k : Int) ≤ n := by omega
    simp [go_sem, Try.underlying22, e, h0, h1, hk]
    try omega
/-- append(v, y...): the integers ys behind the own row's. -/
theorem wpList_cat_int {ops : Array Oper} {rest : List Oper} {o : Oper} {a : Act} {w : World} {Q : Exit → Act → World → Prop} (hgd : o.guard = none) (s x : Operand)
    (ho : o.op = .call { callee := .builtin .append, args := #[s, x], argTypes := #[22, 22] })
    (base : Nat) (v : Value) (xs : List Int) (hs : a.eval s = v) (hown : OwnI base w v xs) (A : Option Addr) (c m : Nat) (ys : List Int) (hx : a.eval x = .slice A m c) (hm : ys.length = m) (hnil : A = none → c = 0) (hI : Ints w A ys)
    (hlen : xs.length + m ≤ 1000000000000) (hbase : base ≤ w.heap.size)
    (h : ∀ v' w', OwnI base w' v' (xs ++ ys) → w.grownBy w' v.ownBlock → wpList Try.prog ops Q rest (a.put o.dst v') w') : wpList Try.prog ops Q (o :: rest) a w := by
  obtain ⟨i0, hi0, hz⟩ := Option.map_eq_some_iff.1 info_int
  simp only [Prod.mk.injEq] at hz
  subst hm
  cases A with
  | none =>
    have hys : ys = [] := by
      cases ys with
      | nil => rfl
      | cons y ys => obtain ⟨ad, e, _⟩ := hI 0 (.int .i64 y) (by simp); cases e
    subst hys
    obtain rfl := hnil rfl
    refine wpList_append_own_none hgd s x 22 ho base 3 i0 1 Try.underlying22 hi0 v xs.length (xs.map (Value.int .i64)) hs hown hx ?_
    refine h v w (by rw [List.append_nil]; exact hown) ?_
    exact World.grownBy.refl w _
  | some ad =>
    refine wpList_append_own w hgd s x 22 ho base 3 i0 (.int .i64 0) 1 8 Try.underlying22 hi0 hz.1 hz.2.1 hz.2.2 rfl (by decide) v xs.length (xs.map (Value.int .i64)) hs hown ad ys.length c (ys.map (Value.int .i64)) hx (by simp) ?_ ?_ ?_ ?_ hbase ?_
    · intro j u hu
      obtain ⟨ad', e, hc⟩ := hI j u hu
      rw [Option.some.inj e]
      exact hc
    · intro u hu
      obtain ⟨y, _, rfl⟩ := List.mem_map.1 hu
      rfl
    · simp only [maxLen]; omega
    · omega
    · intro v' w' h1 h2 _
      refine h v' w' ?_ h2
      unfold OwnI
      rw [List.length_append, List.map_append]
      exact h1
theorem wpList_cat {ops : Array Oper} {rest : List Oper} {o : Oper} {a : Act} {w : World} {Q : Exit → Act → World → Prop} (hgd : o.guard = none) (s x : Operand)
    (ho : o.op = .call { callee := .builtin .append, args := #[s, x], argTypes := #[22, 22] })
    (w0 : World) (l : List (Nat × Nat × Value)) (base : Nat) (v : Value) (xs : List Int) (hs : a.eval s = v) (hown : OwnI base w v xs) (A : Option Addr) (c m : Nat) (ys : List Int) (hx : a.eval x = .slice A m c) (hm : ys.length = m) (hnil : A = none → c = 0) (hI : Ints w A ys)
    (hlen : xs.length + m ≤ 1000000000000) (hbase : base ≤ w.heap.size) (h0 : w0.heap.size ≤ base) (hB : Below w0.heap.size w0 w) (hC : Cls w l) (hl : ∀ x ∈ l, x.1 < base)
    (h : ∀ v' w', OwnI base w' v' (xs ++ ys) → Below w0.heap.size w0 w' → Cls w' l → w.heap.size ≤ w'.heap.size → wpList Try.prog ops Q rest (a.put o.dst v') w') : wpList Try.prog ops Q (o :: rest) a w :=
  wpList_cat_int hgd s x ho base v xs hs hown A c m ys hx hm hnil hI hlen hbase fun v' w' h1 h2 =>
    h v' w' h1 (own_grown hB (OwnI.mono hown h0) h2 (Nat.le_trans h0 hbase)) (hC.grown hown h2 hl) h2.size

end Go.Proofs.Ytiaokmofoaeifaa
