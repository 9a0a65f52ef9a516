/-
  pairs: find: what it returns.
  pairs.Values, Goal, Exclusive: what they return.
-/
import Derived.Test.YtihkgdlanfemcaaZMP
import Derived.Test.YtihkgdlanfemcaaZME
namespace Go.Proofs.Ytihkgdlanfemcaa
open Go.RowKit
set_option linter.unusedVariables false
set_option linter.unusedSimpArgs false

/-- .. of which only the first k rows are made. -/
structure TblTo (w : World) (g : Nat) (bs : List Nat) (n k : Nat) (V : Int → Int → Int) : Prop where
  arr : Arr w g 22 ((bs.map fun b => Value.slice (some ⟨b, 0, none⟩) n n) ++ List.replicate (n - k) (Value.slice none 0 0))
  len : bs.length = k
  rows : ∀ (p b : Nat), bs[p]? = some b → IArr w b (rowV n (V (p : Int)))
  diff : ∀ b ∈ bs, b ≠ g
  nodup : bs.Nodup
section
variable {w w' : World} {g n k : Nat} {bs : List Nat} {V : Int → Int → Int}
theorem TblTo.lt (h : TblTo w g bs n k V) : g < w.heap.size ∧ ∀ b ∈ bs, b < w.heap.size := ⟨h.arr.lt, fun b hb => by
  obtain ⟨i, hi, rfl⟩ := List.getElem_of_mem hb
  exact Arr.lt (h.rows i _ (List.getElem?_eq_getElem hi))⟩
theorem TblTo.below (h : TblTo w g bs n k V) (hb : Below w.heap.size w w') : TblTo w' g bs n k V :=
  ⟨(hb.block g h.lt.1).trans h.arr, h.len, fun p b hp => (hb.block b (h.lt.2 b (List.mem_of_getElem? hp))).trans (h.rows p b hp), h.diff, h.nodup⟩
theorem TblTo.at_ (h : TblTo w g bs n k V) {p q : Nat} (hp : p < k) (hq : q < n) :
    ∃ b, Hid (bs[p]? = some b) ∧ b < w.heap.size ∧ w.cell? ⟨g, p, none⟩ = some (.slice (some ⟨b, 0, none⟩) n n) ∧ w.cell? ⟨b, q, none⟩ = some (.int .i64 (V p q)) ∧ w.frozen? ⟨b, q, none⟩ = false := by
  have hpl : p < bs.length := by rw [h.len]; omega
  refine ⟨bs[p], Lib.hid (List.getElem?_eq_getElem hpl), h.lt.2 _ (List.getElem_mem hpl), ?_, ?_, Arr.free (h.rows _ _ (List.getElem?_eq_getElem hpl)) _⟩
  · rw [h.arr.cell, List.getElem?_append_left (by simpa using hpl)]; simp [hpl]
  · have hr := h.rows _ _ (List.getElem?_eq_getElem hpl)
    rw [Arr.cell hr, List.getElem?_map, rowV_get hq]; rfl
theorem TblTo.next (h : TblTo w g bs n k V) (hk : k < n) : w.cell? ⟨g, k, none⟩ = some (.slice none 0 0) ∧ w.frozen? ⟨g, k, none⟩ = false := by
  refine ⟨?_, Arr.free h.arr _⟩
  rw [h.arr.cell, List.getElem?_append_right (by simp [h.len]), List.length_map, h.len, Nat.sub_self, List.getElem?_replicate, if_pos (by omega)]
theorem TblTo.store (h : TblTo w g bs n k V) {p q b : Nat} (hb : bs[p]? = some b) (x : Int) : TblTo (w.setCell ⟨b, q, none⟩ (.int .i64 x)) g bs n k (put1 V p q x) := by
  have hm := List.mem_of_getElem? hb
  refine ⟨h.arr.far (h.diff b hm) _, h.len, fun i c hc => ?_, h.diff, h.nodup⟩
  by_cases e : i = p
  · subst e
    rw [hb] at hc
    injection hc with hc
    subst hc
    have h1 := (h.rows _ _ hb).set_ q x
    rw [rowV_set] at h1
    exact h1
  · have hne : b ≠ c := fun hh => by
      subst hh
      obtain ⟨h1, h2⟩ := List.getElem?_eq_some_iff.1 hb
      obtain ⟨h3, h4⟩ := List.getElem?_eq_some_iff.1 hc
      exact e ((List.getElem_inj h.nodup).1 (h4.trans h2.symm))
    rw [rowV_far e]
    exact (h.rows i c hc).far (p := ⟨b, q, none⟩) hne (.int .i64 x)
theorem TblTo.congr {U : Int → Int → Int} (h : TblTo w g bs n k V) (he : ∀ p q : Nat, p < k → q < n → V p q = U p q) : TblTo w g bs n k U :=
  ⟨h.arr, h.len, fun p b hp => by
    have := (List.getElem?_eq_some_iff.1 hp).1
    have h1 := h.rows p b hp
    rw [rowV_ext (fun q hq => he p q (by rw [← h.len]; exact this) hq)] at h1
    exact h1, h.diff, h.nodup⟩
theorem TblTo.add (h : TblTo w g bs n k V) (hk : k < n) (hz : ∀ q : Nat, q < n → V k q = 0) : TblTo ((w.setCell ⟨g, k, none⟩ (.slice (some ⟨w.heap.size, 0, none⟩) n n)).alloc (.cells (Array.replicate n (.int .i64 0)) 3)) g (bs ++ [w.heap.size]) n (k + 1) V := by
  have hg := h.lt.1
  have hbl := h.lt.2
  refine ⟨?_, by simp [h.len], fun p b hp => ?_, fun b hb => ?_, ?_⟩
  · have h1 := (h.arr.set_ k (.slice (some ⟨w.heap.size, 0, none⟩) n n)).alloc (.cells (Array.replicate n (.int .i64 0)) 3)
    have e : ((bs.map fun b => Value.slice (some ⟨b, 0, none⟩) n n) ++ List.replicate (n - k) (Value.slice none 0 0)).set k (.slice (some ⟨w.heap.size, 0, none⟩) n n) = ((bs ++ [w.heap.size]).map fun b => Value.slice (some ⟨b, 0, none⟩) n n) ++ List.replicate (n - (k + 1)) (Value.slice none 0 0) := by
      have hl : (bs.map fun b => Value.slice (some ⟨b, 0, none⟩) n n).length = k := by simp [h.len]
      rw [List.set_append_right _ _ (by omega), hl, Nat.sub_self]
      have e2 : n - k = (n - (k + 1)) + 1 := by omega
      rw [e2, List.replicate_succ]
      simp
    rw [e] at h1
    exact h1
  · rcases Nat.lt_or_ge p bs.length with hl | hl
    · rw [List.getElem?_append_left hl] at hp
      have h1 := (h.rows p b hp).far (p := ⟨g, k, none⟩) (fun e => h.diff b (List.mem_of_getElem? hp) e.symm) (.slice (some ⟨w.heap.size, 0, none⟩) n n)
      exact h1.below ((Below.refl _ _).alloc (Nat.le_refl _) _)
    · rw [List.getElem?_append_right hl] at hp
      have hp0 : p = bs.length := by
        have := (List.getElem?_eq_some_iff.1 hp).1
        simp at this; omega
      subst hp0
      simp at hp
      subst hp
      have h1 := IArr.made (w.setCell ⟨g, k, none⟩ (.slice (some ⟨w.heap.size, 0, none⟩) n n)) n w.heap.size (by simp)
      have e : rowV n (V ((bs.length : Nat) : Int)) = List.replicate n 0 := by
        apply List.ext_getElem?
        intro i
        by_cases hi : i < n
        · rw [rowV_get hi, h.len, hz i hi]; simp [hi]
        · rw [List.getElem?_eq_none (by rw [rowV_len]; omega), List.getElem?_eq_none (by simp; omega)]
      rw [e]
      exact h1
  · rcases List.mem_append.1 hb with h1 | h1
    · exact h.diff b h1
    · rw [List.mem_singleton.1 h1]; omega
  · rw [List.nodup_append]
    refine ⟨h.nodup, by simp, fun a ha b hb => ?_⟩
    rw [List.mem_singleton.1 hb]
    have := hbl a ha
    omega
theorem TblTo.start (w : World) (n k : Nat) (V : Int → Int → Int) (hk : k = w.heap.size) : TblTo (w.alloc (.cells (Array.replicate n (Value.slice none 0 0)) 22)) k [] n 0 V := by
  subst hk
  refine ⟨?_, rfl, fun p b h => by simp at h, fun b h => (List.not_mem_nil h).elim, List.nodup_nil⟩
  have h := Arr.new w 22 (List.replicate n (Value.slice none 0 0))
  rw [List.toArray_replicate] at h
  simpa using h
end
end Go.Proofs.Ytihkgdlanfemcaa

namespace Go.Proofs.Ytihkgdlanfemcaa
open Go.RowKit
set_option linter.unusedVariables false
set_option linter.unusedSimpArgs false

/-- A table in blocks from B on. -/
def TabAt (B : Nat) (w : World) (g n : Nat) (V : Int → Int → Int) : Prop := ∃ bs, B ≤ g ∧ (∀ b ∈ bs, B ≤ b) ∧ Tbl w g bs n V
section
variable {B : Nat} {w w' : World} {g n : Nat} {V : Int → Int → Int}
theorem TabAt.below (h : TabAt B w g n V) (hb : Below w.heap.size w w') : TabAt B w' g n V := by
  obtain ⟨bs, h1, h2, h3⟩ := h
  exact ⟨bs, h1, h2, h3.below hb⟩
theorem TabAt.mono {B' : Nat} (h : TabAt B w g n V) (hb : B' ≤ B) : TabAt B' w g n V := by
  obtain ⟨bs, h1, h2, h3⟩ := h
  exact ⟨bs, by omega, fun b hm => by have := h2 b hm; omega, h3⟩
theorem TabAt.far (h : TabAt B w g n V) {p : Addr} (hp : p.block < B) (u : Value) : TabAt B (w.setCell p u) g n V := by
  obtain ⟨bs, h1, h2, h3⟩ := h
  exact ⟨bs, h1, h2, h3.same (Below.heap_setCell _ _ _ _ (by omega)) (fun b hm => Below.heap_setCell _ _ _ _ (by have := h2 b hm; omega))⟩
theorem TabAt.drew (h : TabAt B w g n V) : TabAt B w.drew g n V := by
  obtain ⟨bs, h1, h2, h3⟩ := h
  exact ⟨bs, h1, h2, h3.drew⟩
theorem TabAt.at_ (h : TabAt B w g n V) {p q : Int} (hp : 0 ≤ p ∧ p < (n : Int)) (hq : 0 ≤ q ∧ q < (n : Int)) :
    ∃ b, w.cell? ⟨g, p.toNat, none⟩ = some (.slice (some ⟨b, 0, none⟩) n n) ∧ w.cell? ⟨b, q.toNat, none⟩ = some (.int .i64 (V p q)) := by
  obtain ⟨bs, h1, h2, h3⟩ := h
  obtain ⟨b, _, h4, h5, _⟩ := h3.at_ hp hq
  exact ⟨b, h4, h5⟩
theorem TabAt.row (h : TabAt B w g n V) {p : Nat} (hp : p < n) :
    ∃ b, w.cell? ⟨g, p, none⟩ = some (.slice (some ⟨b, 0, none⟩) n n) ∧ Ints w (some ⟨b, 0, none⟩) (rowV n (V (p : Int))) := by
  obtain ⟨bs, h1, h2, h3⟩ := h
  have hl : p < bs.length := by rw [h3.len]; exact hp
  refine ⟨bs[p], ?_, (h3.rows p _ (List.getElem?_eq_getElem hl)).ints⟩
  rw [h3.arr.cell]; simp [hl]
end
end Go.Proofs.Ytihkgdlanfemcaa
