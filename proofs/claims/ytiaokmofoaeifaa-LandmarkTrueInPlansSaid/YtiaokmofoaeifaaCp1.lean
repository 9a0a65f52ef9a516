/-
  slices.Clone: a fresh list.
-/
import Derived.Test.YtiaokmofoaeifaaNest
import Derived.Test.YtiaokmofoaeifaaOpen
namespace Go.Proofs.Ytiaokmofoaeifaa
open Go.RowKit
set_option linter.unusedVariables false
set_option linter.unusedSimpArgs false

/-- A list in memory of its own, from block B on. -/
def Fresh (B : Nat) (w : World) (A : Option Addr) (c : Nat) (xs : List Int) : Prop := PList B w none [.slice A xs.length c] xs
theorem Fresh.below {B : Nat} {w w' : World} {A : Option Addr} {c : Nat} {xs : List Int} (h : Fresh B w A c xs) (hb : Below w.heap.size w w') : Fresh B w' A c xs := (plist_stable B).below h hb
theorem Fresh.ints {B : Nat} {w : World} {A : Option Addr} {c : Nat} {xs : List Int} (h : Fresh B w A c xs) : Ints w A xs := by
  obtain ⟨A', c', e, hI, _⟩ := h
  injection e with e
  injection e with e1 e2 e3
  rw [e1]; exact hI
theorem Fresh.nil_ok {B : Nat} {w : World} {A : Option Addr} {c : Nat} {xs : List Int} (h : Fresh B w A c xs) : NilOk A xs c := by
  obtain ⟨A', c', e, hI, hn, h1, h2, _⟩ := h
  injection e with e
  injection e with e1 e2 e3
  subst e1; subst e3
  exact ⟨hn, h1, h2⟩
theorem Fresh.mono {B B' : Nat} {w : World} {A : Option Addr} {c : Nat} {xs : List Int} (h : Fresh B w A c xs) (hb : B' ≤ B) : Fresh B' w A c xs := by
  obtain ⟨A', c', e, hI, hn, h1, h2, h3⟩ := h
  exact ⟨A', c', e, hI, hn, h1, h2, fun ad he => ⟨(h3 ad he).1, (h3 ad he).2.1, by have := (h3 ad he).2.2; omega⟩⟩
theorem Fresh.plist {B B' : Nat} {w : World} {A : Option Addr} {c : Nat} {xs : List Int} {row : Option Nat} (h : Fresh B w A c xs) (hb : B' ≤ B) (hr : ∀ k, row = some k → k < B) : PList B' w row [.slice A xs.length c] xs := by
  obtain ⟨A', c', e, hI, hn, h1, h2, h3⟩ := h
  exact ⟨A', c', e, hI, hn, h1, h2, fun ad he => ⟨fun e => by have h4 := hr _ e.symm; have := (h3 ad he).2.2; omega, (h3 ad he).2.1, by have := (h3 ad he).2.2; omega⟩⟩
theorem fresh_of {B base : Nat} {w : World} {A : Option Addr} {c : Nat} {xs : List Int} (h : OwnI base w (.slice A xs.length c) xs) (hB : B ≤ base) : Fresh B w A c xs := plist_of h hB (fun k hk => by cases hk)
theorem ints_none {w : World} {xs : List Int} (h : Ints w none xs) : xs = [] := by
  cases xs with
  | nil => rfl
  | cons x xs => obtain ⟨ad, e, _⟩ := h 0 (.int .i64 x) rfl; cases e
theorem fresh_nil (B : Nat) (w : World) : Fresh B w none 0 [] := ⟨none, 0, rfl, Ints.nil _ _, fun _ => ⟨rfl, rfl⟩, Nat.le_refl _, by omega, fun ad e => by cases e⟩
set_option maxRecDepth 100000 in
set_option maxHeartbeats 400000 in
theorem clone_nil (w : World) (c : Nat) (xs : List Int) (hI : Ints w none xs) :
    Calls Try.prog 87 #[.slice none xs.length c] w fun e w' => ∃ A' c', e = .returned (.slice A' xs.length c') ∧ Fresh w.heap.size w' A' c' xs ∧ Below w.heap.size w w' := by
  obtain rfl := ints_none hI
  have hq := fun (w : World) (a : Option Addr) (n c n' c' : Nat) => Lib.run_eql_slice_nil (P := Try.prog) w 22 3 a n c n' c' Try.underlying22
  go_enter Try.func87, Try.ntmps87
  go_wp2
  go_ret
  exact ⟨none, 0, rfl, fresh_nil _ _, Below.refl _ _⟩

set_option maxRecDepth 100000 in
set_option maxHeartbeats 400000 in
theorem clone_some (w : World) (ad : Addr) (c : Nat) (xs : List Int) (hI : Ints w (some ad) xs) (hl : xs.length ≤ 1000000000000) :
    Calls Try.prog 87 #[.slice (some ad) xs.length c] w fun e w' => ∃ A' c', e = .returned (.slice A' xs.length c') ∧ Fresh w.heap.size w' A' c' xs ∧ Below w.heap.size w w' := by
  obtain ⟨i0, hi0, hz⟩ := Option.map_eq_some_iff.1 info_int
  simp only [Prod.mk.injEq] at hz
  have HI := Lib.hid hI
  have HL := Lib.hid hl
  have hq := fun (w : World) (a : Option Addr) (n c n' c' : Nat) => Lib.run_eql_slice_nil (P := Try.prog) w 22 3 a n c n' c' Try.underlying22
  go_enter Try.func87, Try.ntmps87
  have hII := Lib.hid (hI.below (w' := w.alloc (.cells #[] 3)) (by repeat (first | with_reducible exact Below.refl _ _ | with_reducible apply bdrew | with_reducible apply bdrewN | with_reducible apply balloc | ((with_reducible refine bset ?_ ?_ _); rotate_left; (first | omega | (simp <;> omega))))))
  go_wp2_with (at_builtin; go_must (refine wpList_append_own _ rfl (.tmp 5) (.tmp 6) 22 rfl w.heap.size 3 i0 (.int .i64 0) 1 8 Try.underlying22 hi0 hz.1 hz.2.1 hz.2.2 rfl (by decide) (.slice (some ⟨w.heap.size, 0, none⟩) 0 0) 0 [] rfl (World.ownsRow_made w #[] 0 (Nat.le_refl _) (by decide) rfl) ad xs.length c (xs.map (Value.int .i64)) rfl (by simp) ?p1 ?p2 ?p3 ?p4 ?p5 ?_; (case p1 => intro j u hu; obtain ⟨ad', e, hc⟩ := hII.out j u hu; injection e with e; subst e; exact hc); (case p2 => intro u hu; obtain ⟨y, _, rfl⟩ := List.mem_map.1 hu; rfl); (case p3 => (simp only [maxLen]; omega)); (case p4 => omega); (case p5 => (simp <;> omega)); intro v1 w1 h1 h2 h3))
  have h4 : OwnI w.heap.size w1 v1 xs := by
    unfold OwnI
    rw [Nat.zero_add, List.nil_append] at h1
    exact h1
  have hB1 : Below w.heap.size w w1 := own_grown (base := w.heap.size) (w := w.alloc (.cells #[] 3)) (by repeat (first | with_reducible exact Below.refl _ _ | with_reducible apply bdrew | with_reducible apply bdrewN | with_reducible apply balloc | ((with_reducible refine bset ?_ ?_ _); rotate_left; (first | omega | (simp <;> omega))))) (World.ownsRow_made w #[] 0 (Nat.le_refl _) (by decide) rfl : (w.alloc (.cells #[] 3)).ownsRow w.heap.size 3 1 (.slice (some ⟨w.heap.size, 0, none⟩) 0 0) 0 []) h2 (by simp)
  obtain ⟨A', c', rfl, -⟩ := h4.form
  go_wp2
  go_ret
  exact ⟨A', c', rfl, fresh_of h4 (Nat.le_refl _), hB1⟩

theorem clone_any (w : World) (A : Option Addr) (c : Nat) (xs : List Int) (hI : Ints w A xs) (hl : xs.length ≤ 1000000000000) :
    Calls Try.prog 87 #[.slice A xs.length c] w fun e w' => ∃ A' c', e = .returned (.slice A' xs.length c') ∧ Fresh w.heap.size w' A' c' xs ∧ Below w.heap.size w w' := by
  cases A with
  | none => exact clone_nil w c xs hI
  | some ad => exact clone_some w ad c xs hI hl

end Go.Proofs.Ytiaokmofoaeifaa
