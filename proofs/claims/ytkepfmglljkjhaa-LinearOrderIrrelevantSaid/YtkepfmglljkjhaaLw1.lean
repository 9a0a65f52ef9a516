/-
  linear.vectorCode, product, negative, columns, fits.
-/
import Derived.Test.YtkepfmglljkjhaaSv
import Derived.Test.YtkepfmglljkjhaaLg
import Derived.Test.YtkepfmglljkjhaaMA
namespace Go.Proofs.Ytkepfmglljkjhaa
open Go.RowKit
set_option linter.unusedVariables false
set_option linter.unusedSimpArgs false

/-- The error code of a vector. -/
def vecC (x : List Int) (d k : Int) : Int :=
  if ¬ (x.length : Int) = k then 9 else if d < 1 ∨ 100000000 < d then 3 else if ¬ ∀ a ∈ x, -100000000 ≤ a ∧ a ≤ 100000000 then 3 else if vgcd d x ≠ 1 then 5 else 0
theorem vecC_1 {x : List Int} {d k : Int} (h : ¬ (x.length : Int) = k) : vecC x d k = 9 := by unfold vecC; rw [if_pos h]
theorem vecC_2 {x : List Int} {d k : Int} (h : (x.length : Int) = k) (h2 : d < 1 ∨ 100000000 < d) : vecC x d k = 3 := by unfold vecC; rw [if_neg (fun e => e h), if_pos h2]
theorem vecC_3 {x : List Int} {d k : Int} (h : (x.length : Int) = k) (h2 : ¬ (d < 1 ∨ 100000000 < d)) (h3 : ¬ ∀ a ∈ x, -100000000 ≤ a ∧ a ≤ 100000000) : vecC x d k = 3 := by unfold vecC; rw [if_neg (fun e => e h), if_neg h2, if_pos h3]
theorem vecC_4 {x : List Int} {d k : Int} (h : (x.length : Int) = k) (h2 : ¬ (d < 1 ∨ 100000000 < d)) (h3 : ∀ a ∈ x, -100000000 ≤ a ∧ a ≤ 100000000) (h4 : vgcd d x ≠ 1) : vecC x d k = 5 := by unfold vecC; rw [if_neg (fun e => e h), if_neg h2, if_neg (fun e => e h3), if_pos h4]
theorem vecC_5 {x : List Int} {d k : Int} (h : (x.length : Int) = k) (h2 : ¬ (d < 1 ∨ 100000000 < d)) (h3 : ∀ a ∈ x, -100000000 ≤ a ∧ a ≤ 100000000) (h4 : vgcd d x = 1) : vecC x d k = 0 := by unfold vecC; rw [if_neg (fun e => e h), if_neg h2, if_neg (fun e => e h3), if_neg (fun e => e h4)]
theorem vecC_zero {x : List Int} {d : Int} {n : Nat} (h : vecC x d n = 0) : VOk n x d := by
  by_cases h1 : (x.length : Int) = n
  · by_cases h2 : d < 1 ∨ 100000000 < d
    · rw [vecC_2 h1 h2] at h; omega
    · by_cases h3 : ∀ a ∈ x, -100000000 ≤ a ∧ a ≤ 100000000
      · by_cases h4 : vgcd d x = 1
        · exact ⟨by omega, by omega, by omega, h3, h4⟩
        · rw [vecC_4 h1 h2 h3 h4] at h; omega
      · rw [vecC_3 h1 h2 h3] at h; omega
  · rw [vecC_1 h1] at h; omega
theorem VOk.code {x : List Int} {d : Int} {n : Nat} (h : VOk n x d) : vecC x d n = 0 := vecC_5 (by rw [h.len]) (by have := h.pos; have := h.dle; omega) h.le h.one
set_option maxRecDepth 100000 in
set_option maxHeartbeats 2000000 in
theorem lvcode_any (w : World) (A : Option Addr) (cA : Nat) (x : List Int) (d k : Int) (hI : Ints w A x) (hn : x.length ≤ 9223372036854775807) :
    Calls Try.prog 56 #[.agg #[.slice A x.length cA, .int .i64 d], .int .i64 k] w fun e w' => e = .returned (.int .i64 (vecC x d k)) ∧ Below w.heap.size w w' := by
  by_cases h1 : (x.length : Int) = k
  · have h1' : ((x.length : Int) != k) = false := by simp [h1]
    by_cases h2 : d < 1 ∨ 100000000 < d
    · have HV := Lib.hid (vecC_2 h1 h2)
      rcases h2 with h2 | h2
      · have hd1 : decide (d < 1) = true := decide_eq_true h2
        have hd3 : decide (d > 100000000) = false := decide_eq_false (by omega)
        go_enter Try.func56, Try.ntmps56
        go_wp2
        refine bodyPost_ret (v := .int .i64 3) ?_ rfl ⟨by rw [HV.out], by repeat (first | with_reducible exact Below.refl _ _ | with_reducible apply bdrew | with_reducible apply bdrewN | with_reducible apply balloc | ((with_reducible refine bset ?_ ?_ _); rotate_left; (first | omega | (simp <;> omega))))⟩
        simp [results, Try.results56, go_sem]
      · have hd1 : decide (d < 1) = false := decide_eq_false (by omega)
        have hd2 : decide (d > 100000000) = true := decide_eq_true (by omega)
        go_enter Try.func56, Try.ntmps56
        go_wp2
        refine bodyPost_ret (v := .int .i64 3) ?_ rfl ⟨by rw [HV.out], by repeat (first | with_reducible exact Below.refl _ _ | with_reducible apply bdrew | with_reducible apply bdrewN | with_reducible apply balloc | ((with_reducible refine bset ?_ ?_ _); rotate_left; (first | omega | (simp <;> omega))))⟩
        simp [results, Try.results56, go_sem]
    · have hd1 : decide (d < 1) = false := decide_eq_false (by omega)
      have hd2 : decide (d > 100000000) = false := decide_eq_false (by omega)
      have hd3 : 1 ≤ d ∧ d ≤ 100000000 := by omega
      obtain ⟨hd4, hd5⟩ := hd3
      have H1 := Lib.hid h1
      have H2 := Lib.hid h2
      have HLE := Lib.hid (fun k => vgcd_le (xs := x.take k) (d := d) (by omega))
      have HPO := Lib.hid (fun k => vgcd_pos (xs := x.take k) (d := d) (by omega))
      obtain ⟨l, hl⟩ : ∃ l, Hid (x.length = l) := ⟨_, Lib.hid rfl⟩
      rw [hl.out] at h1 h1' hn ⊢
      subst h1
      have HLN := Lib.hid (show (l : Int) = (l : Int) from rfl)
      clear h2
      go_enter Try.func56, Try.ntmps56
      go_wp2_with fail
      go_loopw [5, 26] (fun g y wr => ∃ j : Nat, j ≤ l ∧ y = .int .i64 j ∧ g = .int .i64 (vgcd d (x.take j)) ∧ Hid (∀ a ∈ x.take j, -100000000 ≤ a ∧ a ≤ 100000000) ∧ Below w.heap.size w wr ∧ Cls wr [(w.heap.size, 0, .slice A l cA), (w.heap.size, 1, .int .i64 d)]) (fun _ y _ => l - (intOf y).toNat)
      case atStart => exact ⟨0, Nat.zero_le _, rfl, rfl, Lib.hid (by simp), (by repeat (first | with_reducible exact Below.refl _ _ | with_reducible apply bdrew | with_reducible apply bdrewN | with_reducible apply balloc | ((with_reducible refine bset ?_ ?_ _); rotate_left; (first | omega | (simp <;> omega))))), (by simp [Cls, go_sem])⟩
      case round =>
        obtain ⟨j, hj, rfl, rfl, HA, hBr, hCr⟩ := hrel
        obtain ⟨w1, rfl⟩ : ∃ wo : World, wo = wr := ⟨_, rfl⟩
        have drs := hBr.size
        have Fr := hCr
        simp only [Cls, and_true] at Fr
        have yrw0 : w.heap.size < w1.heap.size := hCr.blk (b := w.heap.size) (k := 0) (v := .slice A l cA) (by simp)
        have yrwp1 : w.heap.size < w1.heap.size + 1 := (by omega)
        have yrwp2 : w.heap.size < w1.heap.size + 1 + 1 := (by omega)
        have hg1 := HLE.out j
        have hg0 := HPO.out j
        by_cases hlt : j < l
        · obtain ⟨ad, y, rfl, hy, hyc⟩ := (hI.below hBr).at_ (k := j) (by rw [hl.out]; exact hlt)
          have HT := Lib.hid (vgcd_take (d := d) hy.out)
          obtain ⟨g, hg⟩ : ∃ g, Hid (vgcd d (x.take j) = g) := ⟨_, Lib.hid rfl⟩
          rw [hg.out] at HT hg0 hg1 ⊢
          by_cases hin : -100000000 ≤ y ∧ y ≤ 100000000
          · have HIN := Lib.hid hin
            obtain ⟨hin1, hin2⟩ := hin
            go_wp2_with fail
            refine (lwithin_yes _ _ _ (by omega) (by omega) HIN.out).mono ?_
            rintro e w' ⟨rfl, rfl⟩
            go_wp2_with fail
            refine (lgcd_any _ _ _ (by omega) (by omega)).mono ?_
            rintro e w2 ⟨rfl, hB2⟩
            have D2 := dstep w hB2 (by repeat (first | with_reducible exact hBr | with_reducible apply bdrew | with_reducible apply bdrewN | with_reducible apply balloc | ((with_reducible refine bset ?_ ?_ _); rotate_left; (first | omega | (simp <;> omega)))))
            have C2 := Cls.below (l := [(w.heap.size, 0, .slice (some ad) l cA), (w.heap.size, 1, .int .i64 d)]) hB2 (by simp [Cls, go_sem, Fr, yrw0, yrwp1, yrwp2])
            go_wp2
            go_roundw
            case rel => exact ⟨j + 1, by omega, by go_num, by rw [HT.out], Lib.hid (fun c hc => by
              rw [List.take_add_one, hy.out] at hc
              rcases List.mem_append.1 hc with h | h
              · exact HA.out c h
              · have : c = y := by simpa using h
                rw [this]; exact HIN.out), by repeat (first | with_reducible exact D2 | with_reducible apply bdrew | with_reducible apply bdrewN | with_reducible apply balloc | ((with_reducible refine bset ?_ ?_ _); rotate_left; (first | omega | (simp <;> omega)))), Cls.below (w := w2) (by repeat (first | with_reducible exact Below.refl _ _ | with_reducible apply bdrew | with_reducible apply bdrewN | with_reducible apply balloc | ((with_reducible refine bset ?_ ?_ _); rotate_left; (first | omega | (simp <;> omega))))) C2⟩
            case measure => simp [intOf]; omega
          · have HV := Lib.hid (vecC_3 H1.out H2.out (fun h => hin (h y (List.mem_of_getElem? hy.out))))
            have HIN := Lib.hid hin
            clear hin
            go_wp2_with fail
            refine (lwithin_no _ _ _ (by omega) (by omega) HIN.out).mono ?_
            rintro e w' ⟨rfl, rfl⟩
            go_wp2
            refine bodyPost_ret (v := .int .i64 3) ?_ rfl ⟨by rw [HV.out], by repeat (first | with_reducible exact hBr | with_reducible apply bdrew | with_reducible apply bdrewN | with_reducible apply balloc | ((with_reducible refine bset ?_ ?_ _); rotate_left; (first | omega | (simp <;> omega))))⟩
            simp [results, Try.results56, go_sem, Fr, yrw0, yrwp1, yrwp2]
        · obtain rfl : l = j := by omega
          have hT : x.take l = x := List.take_of_length_le (by rw [hl.out]; exact Nat.le_refl _)
          have HA2 := Lib.hid (show ∀ a ∈ x, -100000000 ≤ a ∧ a ≤ 100000000 by have h := HA.out; rw [hT] at h; exact h)
          rw [hT]
          by_cases hone : vgcd d x = 1
          · have HV := Lib.hid (vecC_5 H1.out H2.out HA2.out hone)
            rw [hone]
            go_wp2
            refine bodyPost_ret (v := .int .i64 0) ?_ rfl ⟨by rw [HV.out], by repeat (first | with_reducible exact hBr | with_reducible apply bdrew | with_reducible apply bdrewN | with_reducible apply balloc | ((with_reducible refine bset ?_ ?_ _); rotate_left; (first | omega | (simp <;> omega))))⟩
            simp [results, Try.results56, go_sem, Fr, yrw0, yrwp1, yrwp2]
          · have HV := Lib.hid (vecC_4 H1.out H2.out HA2.out hone)
            obtain ⟨g, hg⟩ : ∃ g, Hid (vgcd d x = g) := ⟨_, Lib.hid rfl⟩
            rw [hg.out] at hone ⊢
            have hone' : (g != 1) = true := by simpa using hone
            go_wp2
            refine bodyPost_ret (v := .int .i64 5) ?_ rfl ⟨by rw [HV.out], by repeat (first | with_reducible exact hBr | with_reducible apply bdrew | with_reducible apply bdrewN | with_reducible apply balloc | ((with_reducible refine bset ?_ ?_ _); rotate_left; (first | omega | (simp <;> omega))))⟩
            simp [results, Try.results56, go_sem, Fr, yrw0, yrwp1, yrwp2]
  · have HV := Lib.hid (vecC_1 (d := d) h1)
    have h1' : ((x.length : Int) != k) = true := by simpa using h1
    go_enter Try.func56, Try.ntmps56
    go_wp2
    refine bodyPost_ret (v := .int .i64 9) ?_ rfl ⟨by rw [HV.out], by repeat (first | with_reducible exact Below.refl _ _ | with_reducible apply bdrew | with_reducible apply bdrewN | with_reducible apply balloc | ((with_reducible refine bset ?_ ?_ _); rotate_left; (first | omega | (simp <;> omega))))⟩
    simp [results, Try.results56, go_sem]

/-- The product of two lists of n numbers. -/
def dotL (n : Nat) (a b : List Int) : Int := LA.sumN n fun j => atL a j * atL b j
theorem dotL_succ (k : Nat) (a b : List Int) : dotL (k + 1) a b = dotL k a b + atL a k * atL b k := rfl
theorem mul_le {x y X Y : Int} (hx : -X ≤ x ∧ x ≤ X) (hy : -Y ≤ y ∧ y ≤ Y) : -(X * Y) ≤ x * y ∧ x * y ≤ X * Y := LA.abs_mul hx hy
theorem atL_le {a : List Int} {X : Int} (hX : 0 ≤ X) (h : ∀ x ∈ a, -X ≤ x ∧ x ≤ X) (j : Nat) : -X ≤ atL a j ∧ atL a j ≤ X := by
  unfold atL
  cases e : a[j]? with
  | none => simp only [Option.getD_none]; omega
  | some y => exact h y (List.mem_of_getElem? e)
theorem dotL_le {a b : List Int} (ha : ∀ x ∈ a, -100 ≤ x ∧ x ≤ 100) (hb : ∀ x ∈ b, -100000000 ≤ x ∧ x ≤ 100000000) : ∀ k : Nat, -((k : Int) * 10000000000) ≤ dotL k a b ∧ dotL k a b ≤ (k : Int) * 10000000000
  | 0 => by unfold dotL; simp [LA.sumN]
  | k + 1 => by
    have h1 := dotL_le ha hb k
    have h2 := mul_le (atL_le (by omega) ha k) (atL_le (by omega) hb k)
    rw [dotL_succ]
    omega
theorem atL_some {a : List Int} {j : Nat} {x : Int} (h : a[j]? = some x) : atL a j = x := by unfold atL; rw [h]; rfl
set_option maxRecDepth 100000 in
set_option maxHeartbeats 1000000 in
theorem lprod_any (w : World) (A B : Option Addr) (cA cB : Nat) (a b : List Int) (n : Nat) (hla : Hid (a.length = n)) (hlb : Hid (b.length = n)) (hn6 : n ≤ 6) (hIa : Ints w A a) (hIb : Ints w B b) (ha : ∀ x ∈ a, -100 ≤ x ∧ x ≤ 100) (hb : ∀ x ∈ b, -100000000 ≤ x ∧ x ≤ 100000000) :
    Calls Try.prog 50 #[.slice A n cA, .slice B n cB] w fun e w' => e = .returned (.int .i64 (dotL n a b)) ∧ Below w.heap.size w w' := by
  have HLE := Lib.hid (dotL_le ha hb)
  have HA := Lib.hid ha
  have HB := Lib.hid hb
  have HS := Lib.hid (dotL_succ (a := a) (b := b))
  clear ha hb
  go_enter Try.func50, Try.ntmps50
  go_wp2_with fail
  go_loopw [5, 9] (fun s x wr => ∃ j : Nat, j ≤ n ∧ x = .int .i64 j ∧ s = .int .i64 (dotL j a b) ∧ Below w.heap.size w wr) (fun _ x _ => n - (intOf x).toNat)
  case atStart => exact ⟨0, Nat.zero_le _, rfl, rfl, by repeat (first | with_reducible exact Below.refl _ _ | with_reducible apply bdrew | with_reducible apply bdrewN | with_reducible apply balloc | ((with_reducible refine bset ?_ ?_ _); rotate_left; (first | omega | (simp <;> omega))))⟩
  case round =>
    obtain ⟨j, hj, rfl, rfl, hBr⟩ := hrel
    obtain ⟨w1, rfl⟩ : ∃ wo : World, wo = wr := ⟨_, rfl⟩
    by_cases hlt : j < n
    · obtain ⟨ad, x, rfl, hx, hxc⟩ := (hIa.below hBr).at_ (k := j) (by rw [hla.out]; exact hlt)
      obtain ⟨ad2, y, rfl, hy, hyc⟩ := (hIb.below hBr).at_ (k := j) (by rw [hlb.out]; exact hlt)
      have h1 := HLE.out j
      have hxb := HA.out x (List.mem_of_getElem? hx.out)
      have hyb := HB.out y (List.mem_of_getElem? hy.out)
      have hmul := mul_le hxb hyb
      have HN := Lib.hid (show dotL (j + 1) a b = dotL j a b + x * y by rw [HS.out, atL_some hx.out, atL_some hy.out])
      obtain ⟨s, hs⟩ : ∃ s, Hid (dotL j a b = s) := ⟨_, Lib.hid rfl⟩
      rw [hs.out] at h1 HN ⊢
      obtain ⟨h11, h12⟩ := h1
      obtain ⟨hmul1, hmul2⟩ := hmul
      go_wp2_with fail
      go_quiet (fail)
      go_wp2
      go_roundw
      case rel => exact ⟨j + 1, by omega, by go_num, by rw [HN.out], by repeat (first | with_reducible exact hBr | with_reducible apply bdrew | with_reducible apply bdrewN | with_reducible apply balloc | ((with_reducible refine bset ?_ ?_ _); rotate_left; (first | omega | (simp <;> omega))))⟩
      case measure => simp [intOf]; omega
    · obtain rfl : n = j := by omega
      go_wp2
      go_ret
      exact ⟨rfl, by repeat (first | with_reducible exact hBr | with_reducible apply bdrew | with_reducible apply bdrewN | with_reducible apply balloc | ((with_reducible refine bset ?_ ?_ _); rotate_left; (first | omega | (simp <;> omega))))⟩

set_option maxRecDepth 100000 in
set_option maxHeartbeats 1000000 in
theorem lneg_any (w : World) (A : Option Addr) (cA : Nat) (l : List Int) (n : Nat) (hl : Hid (l.length = n)) (hn6 : n ≤ 100) (hI : Ints w A l) :
    Calls Try.prog 48 #[.slice A n cA] w fun e w' => ∃ ok : Bool, e = .returned (.bool ok) ∧ Hid (ok = true ↔ ∃ a ∈ l, a < 0) ∧ Below w.heap.size w w' := by
  go_enter Try.func48, Try.ntmps48
  go_wp2_with fail
  go_loopw [7] (fun x wr => ∃ j : Nat, j ≤ n ∧ x = .int .i64 j ∧ Hid (∀ a ∈ l.take j, 0 ≤ a) ∧ Below w.heap.size w wr) (fun x _ => n - (intOf x).toNat)
  case atStart => exact ⟨0, Nat.zero_le _, rfl, Lib.hid (by simp), by repeat (first | with_reducible exact Below.refl _ _ | with_reducible apply bdrew | with_reducible apply bdrewN | with_reducible apply balloc | ((with_reducible refine bset ?_ ?_ _); rotate_left; (first | omega | (simp <;> omega))))⟩
  case round =>
    obtain ⟨j, hj, rfl, HA, hBr⟩ := hrel
    obtain ⟨w1, rfl⟩ : ∃ wo : World, wo = wr := ⟨_, rfl⟩
    by_cases hlt : j < n
    · obtain ⟨ad, x, rfl, hx, hxc⟩ := (hI.below hBr).at_ (k := j) (by rw [hl.out]; exact hlt)
      by_cases hneg : x < 0
      · have hd : decide (x < 0) = true := decide_eq_true hneg
        have HN := Lib.hid hneg
        go_wp2
        refine bodyPost_ret (v := .bool true) ?_ rfl ⟨true, rfl, Lib.hid (iff_of_true rfl ⟨x, List.mem_of_getElem? hx.out, HN.out⟩), by repeat (first | with_reducible exact hBr | with_reducible apply bdrew | with_reducible apply bdrewN | with_reducible apply balloc | ((with_reducible refine bset ?_ ?_ _); rotate_left; (first | omega | (simp <;> omega))))⟩
        simp [results, Try.results48, go_sem]
      · have hd : decide (x < 0) = false := decide_eq_false hneg
        have HN := Lib.hid (show 0 ≤ x by omega)
        go_wp2
        go_roundw
        case rel => exact ⟨j + 1, by omega, by go_num, Lib.hid (fun c hc => by
          rw [List.take_add_one, hx.out] at hc
          rcases List.mem_append.1 hc with h | h
          · exact HA.out c h
          · have : c = x := by simpa using h
            rw [this]; exact HN.out), by repeat (first | with_reducible exact hBr | with_reducible apply bdrew | with_reducible apply bdrewN | with_reducible apply balloc | ((with_reducible refine bset ?_ ?_ _); rotate_left; (first | omega | (simp <;> omega))))⟩
        case measure => simp [intOf]; omega
    · obtain rfl : n = j := by omega
      have HA2 := Lib.hid (show ¬ ∃ a ∈ l, a < 0 from fun ⟨a, h1, h2⟩ => by
        have h := HA.out a (by rw [List.take_of_length_le (by rw [hl.out]; exact Nat.le_refl _)]; exact h1)
        omega)
      go_wp2
      refine bodyPost_ret (v := .bool false) ?_ rfl ⟨false, rfl, Lib.hid (iff_of_false (by simp) HA2.out), by repeat (first | with_reducible exact hBr | with_reducible apply bdrew | with_reducible apply bdrewN | with_reducible apply balloc | ((with_reducible refine bset ?_ ?_ _); rotate_left; (first | omega | (simp <;> omega))))⟩
      simp [results, Try.results48, go_sem]

/-- The products of the columns with the first i numbers of y. -/
def colL (p : LpV) (y : List Int) (i j : Nat) : Int := LA.sumN i fun k => p.lp.A k j * atL y k
theorem colL_succ (p : LpV) (y : List Int) (i j : Nat) : colL p y (i + 1) j = colL p y i j + p.lp.A i j * atL y i := rfl
theorem LpOk.A_le {p : LpV} (h : LpOk p) (i j : Nat) : -4 ≤ p.lp.A i j ∧ p.lp.A i j ≤ 4 := by
  show -4 ≤ (((p.rows[i]?).getD [])[j]?).getD 0 ∧ (((p.rows[i]?).getD [])[j]?).getD 0 ≤ 4
  cases e : p.rows[i]? with
  | none => simp
  | some r =>
    have := (h.row e).2
    simp only [Option.getD_some]
    exact atL_le (by omega) this j
theorem colL_le {p : LpV} (hok : LpOk p) {y : List Int} (hy : ∀ x ∈ y, -100000000 ≤ x ∧ x ≤ 100000000) : ∀ i j : Nat, -((i : Int) * 400000000) ≤ colL p y i j ∧ colL p y i j ≤ (i : Int) * 400000000
  | 0, j => by unfold colL; simp [LA.sumN]
  | i + 1, j => by
    have h1 := colL_le hok hy i j
    have h2 := mul_le (hok.A_le i j) (atL_le (by omega) hy i)
    rw [colL_succ]
    omega
theorem colL_at {p : LpV} {y r : List Int} {i j : Nat} {a z : Int} (hr : p.rows[i]? = some r) (ha : r[j]? = some a) (hz : y[i]? = some z) : colL p y (i + 1) j = colL p y i j + z * a := by
  rw [colL_succ]
  have e : p.lp.A i j = a := by
    show (((p.rows[i]?).getD [])[j]?).getD 0 = a
    rw [hr, Option.getD_some, ha]; rfl
  rw [e, atL_some hz, Int.mul_comm]
set_option maxRecDepth 100000 in
set_option maxHeartbeats 2000000 in
theorem lcols_any (w : World) (AR AB AO : Option Addr) (cr cb co : Nat) (p : LpV) (hM : LpMem w AR AB AO p) (hok : LpOk p) (m n : Nat) (hrl : Hid (p.rows.length = m)) (hbl : Hid (p.bounds.length = m)) (hol : Hid (p.obj.length = n)) (hm6 : m ≤ 6) (hn6 : n ≤ 6) (Y : Option Addr) (cY : Nat) (y : List Int) (hly : Hid (y.length = m)) (hIy : Ints w Y y) (hyb : ∀ x ∈ y, -100000000 ≤ x ∧ x ≤ 100000000) :
    Calls Try.prog 49 #[.agg #[.slice AR m cr, .slice AB m cb, .slice AO n co], .slice Y m cY] w fun e w' => ∃ g : Nat, e = .returned (.slice (some ⟨g, 0, none⟩) n n) ∧ w.heap.size ≤ g ∧ IArr w' g (tbRow n fun j => colL p y m j) ∧ Below w.heap.size w w' := by
  have HRO := Lib.hid hM.rows.llr
  have HOK := Lib.hid hok
  have HLE := Lib.hid (colL_le hok hyb)
  have HYB := Lib.hid hyb
  have hmk := make_ints n (by omega)
  have HZ := Lib.hid (tbRow_zero n)
  clear hM hok hyb
  go_enter Try.func49, Try.ntmps49
  go_wp2_with fail
  go_loopw [17] (fun x wr => ∃ i : Nat, i ≤ m ∧ x = .int .i64 i ∧ IArr wr (w.heap.size + 1) (tbRow n fun j => colL p y i j) ∧ Below w.heap.size w wr ∧ Cls wr [(w.heap.size, 0, .slice AR m cr), (w.heap.size, 1, .slice AB m cb), (w.heap.size, 2, .slice AO n co)]) (fun x _ => m - (intOf x).toNat)
  case atStart => exact ⟨0, Nat.zero_le _, rfl, by (have h := IArr.made (w.alloc (.cells #[.slice AR m cr, .slice AB m cb, .slice AO n co] 25)) n (w.heap.size + 1) (by simp)); rw [HZ.out] at h; rw [tbRow_congr (show ∀ j, j < n → colL p y 0 j = (fun _ => (0 : Int)) j from fun _ _ => rfl)]; exact IArr.below h (by repeat (first | with_reducible exact Below.refl _ _ | with_reducible apply bdrew | with_reducible apply bdrewN | with_reducible apply balloc | ((with_reducible refine bset ?_ ?_ _); rotate_left; (first | omega | (simp <;> omega))))), (by repeat (first | with_reducible exact Below.refl _ _ | with_reducible apply bdrew | with_reducible apply bdrewN | with_reducible apply balloc | ((with_reducible refine bset ?_ ?_ _); rotate_left; (first | omega | (simp <;> omega))))), by simp [Cls, go_sem]⟩
  case round =>
    obtain ⟨i, hi, rfl, hA1, hBr, hCr⟩ := hrel
    obtain ⟨w1, rfl⟩ : ∃ wo : World, wo = wr := ⟨_, rfl⟩
    have drs := hBr.size
    have Fr := hCr
    simp only [Cls, and_true] at Fr
    have yrw0 : w.heap.size < w1.heap.size := hCr.blk (b := w.heap.size) (k := 0) (v := .slice AR m cr) (by simp)
    have yrwp1 : w.heap.size < w1.heap.size + 1 := (by omega)
    have yrwp2 : w.heap.size < w1.heap.size + 1 + 1 := (by omega)
    by_cases hlt : i < m
    · obtain ⟨ad, r, R, cR, rfl, hr, hrc0, hI⟩ := HRO.out.at_ (k := i) (by rw [hrl.out]; exact hlt)
      have HIR := Lib.hid hI
      have hrc := (hBr.cell (World.block_lt_of_cell? w _ hrc0)).trans hrc0
      have hrn := (HOK.out.row hr.out).1
      rw [hol.out] at hrn
      have HRN := Lib.hid hrn
      rw [hrn] at hrc
      clear hrn hrc0 hI
      have HRB := Lib.hid (HOK.out.row hr.out).2
      go_wp2_with fail
      go_loopw [24] (fun x wr => ∃ j : Nat, j ≤ n ∧ x = .int .i64 j ∧ IArr wr (w.heap.size + 1) (tbRow n fun k => if k < j then colL p y (i + 1) k else colL p y i k) ∧ Below w.heap.size w wr ∧ Cls wr [(w.heap.size, 0, .slice (some ad) m cr), (w.heap.size, 1, .slice AB m cb), (w.heap.size, 2, .slice AO n co)]) (fun x _ => n - (intOf x).toNat)
      case atStart => exact ⟨0, Nat.zero_le _, rfl, by rw [tbRow_congr (g := fun j => colL p y i j) fun j _ => if_neg (by omega)]; exact hA1.below (by repeat (first | with_reducible exact Below.refl _ _ | with_reducible apply bdrew | with_reducible apply bdrewN | with_reducible apply balloc | ((with_reducible refine bset ?_ ?_ _); rotate_left; (first | omega | (simp <;> omega))))), by repeat (first | with_reducible exact hBr | with_reducible apply bdrew | with_reducible apply bdrewN | with_reducible apply balloc | ((with_reducible refine bset ?_ ?_ _); rotate_left; (first | omega | (simp <;> omega)))), by simp [Cls, go_sem, Fr, yrw0, yrwp1, yrwp2]⟩
      case round =>
        obtain ⟨j, hj, rfl, hA2, hBs, hCs⟩ := hrel
        obtain ⟨w2, rfl⟩ : ∃ wo : World, wo = wr := ⟨_, rfl⟩
        have dss := hBs.size
        have Fs := hCs
        simp only [Cls, and_true] at Fs
        have ysw0 : w.heap.size < w2.heap.size := hCs.blk (b := w.heap.size) (k := 0) (v := .slice (some ad) m cr) (by simp)
        have yswp1 : w.heap.size < w2.heap.size + 1 := (by omega)
        have yswp2 : w.heap.size < w2.heap.size + 1 + 1 := (by omega)
        by_cases hlt2 : j < n
        · obtain ⟨ad3, a, rfl, ha, hac⟩ := ((show Ints w R r from HIR.out).below hBs).at_ (k := j) (by rw [HRN.out]; exact hlt2)
          obtain ⟨ad4, z, rfl, hz, hzc⟩ := (hIy.below hBs).at_ (k := i) (by rw [hly.out]; exact hlt)
          obtain ⟨s, hs, hsc, hsf⟩ := hA2.cell (i := j) (by rw [tbRow_len]; exact hlt2)
          have hse : s = colL p y i j := by have h := hs.out; rw [tbRow_at _ hlt2, if_neg (by omega)] at h; injection h with h; exact h.symm
          subst hse
          have h1 := HLE.out i j
          have hab := HRB.out a (List.mem_of_getElem? ha.out)
          have hzb := HYB.out z (List.mem_of_getElem? hz.out)
          have hmul := mul_le hzb hab
          have HN := Lib.hid (colL_at hr.out ha.out hz.out)
          obtain ⟨s, hs⟩ : ∃ s, Hid (colL p y i j = s) := ⟨_, Lib.hid rfl⟩
          rw [hs.out] at h1 HN hsc
          obtain ⟨h11, h12⟩ := h1
          obtain ⟨hmul1, hmul2⟩ := hmul
          clear hab hzb
          go_wp2_with fail
          refine region_still_tail 11 (by kernel_rfl) (by kernel_rfl) ?_
          simp only [List.take_succ_cons, List.take_zero, List.drop_succ_cons, List.drop_zero]
          repeat still_step
          refine wpStill_nil ?_
          go_wp2
          go_roundw
          case rel => exact ⟨j + 1, by omega, by go_num, (by
            have h := hA2.set_ j (s + z * a)
            rw [tbRow_set] at h
            rw [tbRow_congr (g := fun k => if k = j then s + z * a else if k < j then colL p y (i + 1) k else colL p y i k) fun k _ => by
              by_cases e : k = j
              · subst e; rw [if_pos (by omega), if_pos rfl, HN.out]
              · rw [if_neg e]
                by_cases e2 : k < j
                · rw [if_pos e2, if_pos (by omega)]
                · rw [if_neg e2, if_neg (by omega)]]
            exact h.below (by repeat (first | with_reducible exact Below.refl _ _ | with_reducible apply bdrew | with_reducible apply bdrewN | with_reducible apply balloc | ((with_reducible refine bset ?_ ?_ _); rotate_left; (first | omega | (simp <;> omega)))))), by repeat (first | with_reducible exact hBs | with_reducible apply bdrew | with_reducible apply bdrewN | with_reducible apply balloc | ((with_reducible refine bset ?_ ?_ _); rotate_left; (first | omega | (simp <;> omega)))), by simp [Cls, go_sem, Fs, ysw0, yswp1, yswp2]⟩
          case measure => simp [intOf]; omega
        · obtain rfl : n = j := by omega
          go_wp2
          go_roundw
          case rel => exact ⟨i + 1, by omega, by go_num, by rw [tbRow_congr (g := fun k => if k < n then colL p y (i + 1) k else colL p y i k) fun k hk => (if_pos hk).symm]; exact hA2.below (by repeat (first | with_reducible exact Below.refl _ _ | with_reducible apply bdrew | with_reducible apply bdrewN | with_reducible apply balloc | ((with_reducible refine bset ?_ ?_ _); rotate_left; (first | omega | (simp <;> omega))))), by repeat (first | with_reducible exact hBs | with_reducible apply bdrew | with_reducible apply bdrewN | with_reducible apply balloc | ((with_reducible refine bset ?_ ?_ _); rotate_left; (first | omega | (simp <;> omega)))), by simp [Cls, go_sem, Fs, ysw0, yswp1, yswp2]⟩
          case measure => simp [intOf]; omega
    · obtain rfl : m = i := by omega
      go_wp2
      go_ret
      exact ⟨w.heap.size + 1, rfl, Nat.le_succ _, hA1.below (by repeat (first | with_reducible exact Below.refl _ _ | with_reducible apply bdrew | with_reducible apply bdrewN | with_reducible apply balloc | ((with_reducible refine bset ?_ ?_ _); rotate_left; (first | omega | (simp <;> omega))))), by repeat (first | with_reducible exact hBr | with_reducible apply bdrew | with_reducible apply bdrewN | with_reducible apply balloc | ((with_reducible refine bset ?_ ?_ _); rotate_left; (first | omega | (simp <;> omega))))⟩


end Go.Proofs.Ytkepfmglljkjhaa
