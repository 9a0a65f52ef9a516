/-
  The references' words on faults: VectorCode, LinearFault.
  Arguments that are linear programs and vectors.
-/
import Derived.Test.YtkepfmglljkjhaaS6
import Derived.Test.YtkepfmglljkjhaaS3
import Derived.Test.YtkepfmglljkjhaaS4
import Derived.Test.YtkepfmglljkjhaaS2
namespace Go.Proofs.Ytkepfmglljkjhaa
open Go.RowKit
set_option linter.unusedVariables false
set_option linter.unusedSimpArgs false

set_option maxRecDepth 100000 in
set_option maxHeartbeats 2000000 in
theorem svcode_any (w : World) (A : Option Addr) (cA : Nat) (x : List Int) (d k : Int) (hI : Ints w A x) (hn : x.length ≤ 9223372036854775807) :
    Calls Try.prog 18 #[.agg #[.slice A x.length cA, .int .i64 d], .int .i64 k] w fun e w' => e = .returned (.int .i64 (vecC x d k)) ∧ Below w.heap.size w w' := by
  by_cases h1 : (x.length : Int) = k
  · have H1 := Lib.hid h1
    have h1' : ((x.length : Int) != k) = false := by simp [h1]
    obtain ⟨l, hl⟩ : ∃ l, Hid (x.length = l) := ⟨_, Lib.hid rfl⟩
    rw [hl.out] at h1 h1' hn ⊢
    subst h1
    obtain ⟨din, hdin⟩ : ∃ b : Bool, Hid (decide (1 ≤ d ∧ d ≤ 100000000) = b) := ⟨_, Lib.hid rfl⟩
    have HIN : Hid (din = true ↔ (1 ≤ d ∧ d ≤ 100000000)) := Lib.hid (by rw [← hdin.out]; exact decide_eq_true_iff)
    have HC : Hid (∀ W : World, Calls Try.prog 12 #[.int .i64 d, .int .i64 1, .int .i64 100000000] W fun e w' => e = .returned (.bool din) ∧ W = w') := Lib.hid (fun W => by
      have h := in_any d 1 100000000 W
      rw [hdin.out] at h; exact h)
    go_enter Try.func18, Try.ntmps18
    go_wp2_with fail
    refine (HC.out _).mono ?_
    rintro e w' ⟨rfl, rfl⟩
    go_wp2_with fail
    go_loopw [5, 7] (fun g y wr => ∃ (j : Nat) (gd : Bool), j ≤ l ∧ y = .int .i64 j ∧ g = .bool gd ∧ Hid (gd = true ↔ din = true ∧ ∀ a ∈ x.take j, -100000000 ≤ a ∧ a ≤ 100000000) ∧ Below w.heap.size w wr ∧ Cls wr [(w.heap.size, 0, .slice A l cA), (w.heap.size, 1, .int .i64 d)]) (fun _ y _ => l - (intOf y).toNat)
    case atStart => exact ⟨0, din, Nat.zero_le _, rfl, rfl, Lib.hid (by simp), (by repeat (first | with_reducible exact Below.refl _ _ | with_reducible apply bdrew | with_reducible apply bdrewN | with_reducible apply balloc | ((with_reducible refine bset ?_ ?_ _); rotate_left; (first | omega | (simp <;> omega))))), (by simp [Cls, go_sem])⟩
    case round =>
      obtain ⟨j, gd, hj, rfl, rfl, HG, hBr, hCr⟩ := hrel
      obtain ⟨w1, rfl⟩ : ∃ wo : World, wo = wr := ⟨_, rfl⟩
      have drs := hBr.size
      have Fr := hCr
      simp only [Cls, and_true] at Fr
      have yrw0 : w.heap.size < w1.heap.size := hCr.blk (b := w.heap.size) (k := 0) (v := .slice A l cA) (by simp)
      have yrwp1 : w.heap.size < w1.heap.size + 1 := (by omega)
      have yrwp2 : w.heap.size < w1.heap.size + 1 + 1 := (by omega)
      by_cases hlt : j < l
      · obtain ⟨ad, y, rfl, hy, hyc⟩ := (hI.below hBr).at_ (k := j) (by rw [hl.out]; exact hlt)
        have HTK : Hid (∀ c, c ∈ x.take (j + 1) ↔ c ∈ x.take j ∨ c = y) := Lib.hid (fun c => by rw [List.take_add_one, hy.out]; simp)
        cases gd with
        | false =>
          have HB : Hid (¬ (din = true ∧ ∀ a ∈ x.take j, -100000000 ≤ a ∧ a ≤ 100000000)) := Lib.hid (fun h => Bool.false_ne_true (HG.out.2 h))
          clear HG
          go_wp2
          go_roundw
          case rel => exact ⟨j + 1, false, by omega, by go_num, rfl, Lib.hid (iff_of_false (by simp) fun h => HB.out ⟨h.1, fun a ha => h.2 a ((HTK.out a).2 (.inl ha))⟩), by repeat (first | with_reducible exact hBr | with_reducible apply bdrew | with_reducible apply bdrewN | with_reducible apply balloc | ((with_reducible refine bset ?_ ?_ _); rotate_left; (first | omega | (simp <;> omega)))), by simp [Cls, go_sem, Fr, yrw0, yrwp1, yrwp2]⟩
          case measure => simp [intOf]; omega
        | true =>
          have HB := Lib.hid (HG.out.1 rfl)
          clear HG
          obtain ⟨yin, hyin⟩ : ∃ b : Bool, Hid (decide (-100000000 ≤ y ∧ y ≤ 100000000) = b) := ⟨_, Lib.hid rfl⟩
          have HY : Hid (yin = true ↔ (-100000000 ≤ y ∧ y ≤ 100000000)) := Lib.hid (by rw [← hyin.out]; exact decide_eq_true_iff)
          have HC2 : Hid (∀ W : World, Calls Try.prog 12 #[.int .i64 y, .int .i64 (-100000000), .int .i64 100000000] W fun e w' => e = .returned (.bool yin) ∧ W = w') := Lib.hid (fun W => by
            have h := in_any y (-100000000) 100000000 W
            rw [hyin.out] at h; exact h)
          go_wp2_with fail
          refine (HC2.out _).mono ?_
          rintro e w' ⟨rfl, rfl⟩
          go_wp2
          go_roundw
          case rel => exact ⟨j + 1, yin, by omega, by go_num, rfl, Lib.hid (by
            rw [HY.out]
            constructor
            · intro h; exact ⟨HB.out.1, fun a ha => by
                rcases (HTK.out a).1 ha with h2 | h2
                · exact HB.out.2 a h2
                · rw [h2]; exact h⟩
            · intro h; exact h.2 y ((HTK.out y).2 (.inr rfl))), by repeat (first | with_reducible exact hBr | with_reducible apply bdrew | with_reducible apply bdrewN | with_reducible apply balloc | ((with_reducible refine bset ?_ ?_ _); rotate_left; (first | omega | (simp <;> omega)))), by simp [Cls, go_sem, Fr, yrw0, yrwp1, yrwp2]⟩
          case measure => simp [intOf]; omega
      · obtain rfl : l = j := by omega
        have hT : x.take l = x := List.take_of_length_le (by rw [hl.out]; exact Nat.le_refl _)
        rw [hT] at HG
        cases gd with
        | false =>
          have HV : Hid (vecC x d (l : Int) = 3) := Lib.hid (by
            by_cases h2 : d < 1 ∨ 100000000 < d
            · exact vecC_2 H1.out h2
            · refine vecC_3 H1.out h2 fun h3 => ?_
              exact Bool.false_ne_true (HG.out.2 ⟨HIN.out.2 (by omega), h3⟩))
          clear HG
          go_wp2
          refine bodyPost_ret (v := .int .i64 3) ?_ rfl ⟨by rw [HV.out], by repeat (first | with_reducible exact hBr | with_reducible apply bdrew | with_reducible apply bdrewN | with_reducible apply balloc | ((with_reducible refine bset ?_ ?_ _); rotate_left; (first | omega | (simp <;> omega))))⟩
          simp [results, Try.results18, go_sem, Fr, yrw0, yrwp1, yrwp2]
        | true =>
          have HB := Lib.hid (HG.out.1 rfl)
          clear HG
          have hd3 := HIN.out.1 HB.out.1
          obtain ⟨hd4, hd5⟩ := hd3
          have HLE := Lib.hid (fun k => vgcd_le (xs := x.take k) (d := d) (by omega))
          have HPO := Lib.hid (fun k => vgcd_pos (xs := x.take k) (d := d) (by omega))
          go_wp2_with fail
          go_loopw [6, 8] (fun g y wr => ∃ j : Nat, j ≤ l ∧ y = .int .i64 j ∧ g = .int .i64 (vgcd d (x.take j)) ∧ Below w.heap.size w wr ∧ Cls wr [(w.heap.size, 0, .slice A l cA), (w.heap.size, 1, .int .i64 d)]) (fun _ y _ => l - (intOf y).toNat)
          case atStart => exact ⟨0, Nat.zero_le _, rfl, rfl, by repeat (first | with_reducible exact hBr | with_reducible apply bdrew | with_reducible apply bdrewN | with_reducible apply balloc | ((with_reducible refine bset ?_ ?_ _); rotate_left; (first | omega | (simp <;> omega)))), by simp [Cls, go_sem, Fr, yrw0, yrwp1, yrwp2]⟩
          case round =>
            obtain ⟨j, hj, rfl, rfl, hBs, hCs⟩ := hrel
            obtain ⟨w2, rfl⟩ : ∃ wo : World, wo = wr := ⟨_, rfl⟩
            have dss := hBs.size
            have Fs := hCs
            simp only [Cls, and_true] at Fs
            have ysw0 : w.heap.size < w2.heap.size := hCs.blk (b := w.heap.size) (k := 0) (v := .slice A l cA) (by simp)
            have yswp1 : w.heap.size < w2.heap.size + 1 := (by omega)
            have yswp2 : w.heap.size < w2.heap.size + 1 + 1 := (by omega)
            have hg1 := HLE.out j
            have hg0 := HPO.out j
            by_cases hlt : j < l
            · obtain ⟨ad, y, rfl, hy, hyc⟩ := (hI.below hBs).at_ (k := j) (by rw [hl.out]; exact hlt)
              have HT := Lib.hid (vgcd_take (d := d) hy.out)
              have hyb := HB.out.2 y (List.mem_of_getElem? hy.out)
              obtain ⟨hyb1, hyb2⟩ := hyb
              obtain ⟨g, hg⟩ : ∃ g, Hid (vgcd d (x.take j) = g) := ⟨_, Lib.hid rfl⟩
              rw [hg.out] at HT hg0 hg1 ⊢
              go_wp2_with fail
              refine (divisor_any _ _ _ (by omega) (by omega)).mono ?_
              rintro e w' ⟨rfl, rfl⟩
              go_wp2
              go_roundw
              case rel => exact ⟨j + 1, by omega, by go_num, by rw [HT.out], by repeat (first | with_reducible exact hBs | with_reducible apply bdrew | with_reducible apply bdrewN | with_reducible apply balloc | ((with_reducible refine bset ?_ ?_ _); rotate_left; (first | omega | (simp <;> omega)))), by simp [Cls, go_sem, Fs, ysw0, yswp1, yswp2]⟩
              case measure => simp [intOf]; omega
            · obtain rfl : l = j := by omega
              rw [hT]
              have H2 : Hid (¬ (d < 1 ∨ 100000000 < d)) := Lib.hid (by omega)
              by_cases hone : vgcd d x = 1
              · have HV := Lib.hid (vecC_5 H1.out H2.out HB.out.2 hone)
                rw [hone]
                go_wp2
                refine bodyPost_ret (v := .int .i64 0) ?_ rfl ⟨by rw [HV.out], by repeat (first | with_reducible exact hBs | with_reducible apply bdrew | with_reducible apply bdrewN | with_reducible apply balloc | ((with_reducible refine bset ?_ ?_ _); rotate_left; (first | omega | (simp <;> omega))))⟩
                simp [results, Try.results18, go_sem, Fs, ysw0, yswp1, yswp2]
              · have HV := Lib.hid (vecC_4 H1.out H2.out HB.out.2 hone)
                obtain ⟨g, hg⟩ : ∃ g, Hid (vgcd d x = g) := ⟨_, Lib.hid rfl⟩
                rw [hg.out] at hone ⊢
                have hone' : (g != 1) = true := by simpa using hone
                go_wp2
                refine bodyPost_ret (v := .int .i64 5) ?_ rfl ⟨by rw [HV.out], by repeat (first | with_reducible exact hBs | with_reducible apply bdrew | with_reducible apply bdrewN | with_reducible apply balloc | ((with_reducible refine bset ?_ ?_ _); rotate_left; (first | omega | (simp <;> omega))))⟩
                simp [results, Try.results18, go_sem, Fs, ysw0, yswp1, yswp2]
  · have HV := Lib.hid (vecC_1 (d := d) h1)
    have h1' : ((x.length : Int) != k) = true := by simpa using h1
    go_enter Try.func18, Try.ntmps18
    go_wp2
    refine bodyPost_ret (v := .int .i64 9) ?_ rfl ⟨by rw [HV.out], by repeat (first | with_reducible exact Below.refl _ _ | with_reducible apply bdrew | with_reducible apply bdrewN | with_reducible apply balloc | ((with_reducible refine bset ?_ ?_ _); rotate_left; (first | omega | (simp <;> omega))))⟩
    simp [results, Try.results18, go_sem]

set_option maxRecDepth 100000 in
set_option maxHeartbeats 4000000 in
theorem slfault_any (w : World) (AR AB AO : Option Addr) (cr cb co : Nat) (p : LpV) (hM : LpMem w AR AB AO p) :
    Calls Try.prog 14 #[.agg #[.slice AR p.rows.length cr, .slice AB p.bounds.length cb, .slice AO p.obj.length co]] w fun e w' => e = .returned (.agg #[.int .i64 (lpF p).1, .int .i64 (lpF p).2]) ∧ Below w.heap.size w w' := by
  have HRO := Lib.hid hM.rows.llr
  have HBO := Lib.hid hM.bounds
  have HOB := Lib.hid hM.obj
  have hnr := hM.nr
  have hnb := hM.nb
  have hno := hM.no
  obtain ⟨m, hrl⟩ : ∃ m, Hid (p.rows.length = m) := ⟨_, Lib.hid rfl⟩
  obtain ⟨mb, hbl⟩ : ∃ m, Hid (p.bounds.length = m) := ⟨_, Lib.hid rfl⟩
  obtain ⟨n, hol⟩ : ∃ m, Hid (p.obj.length = m) := ⟨_, Lib.hid rfl⟩
  have HF1 := Lib.hid (@lpF_1 p)
  have HF2 := Lib.hid (@lpF_2 p)
  have HF3 := Lib.hid (@lpF_3 p)
  have HF4 := Lib.hid (@lpF_4 p)
  rw [hrl.out] at hnr ⊢
  rw [hbl.out] at hnb ⊢
  rw [hol.out] at hno ⊢
  by_cases h1 : (m : Int) > 6
  · have h1' : decide ((m : Int) > 6) = true := decide_eq_true h1
    have HF := Lib.hid (HF1.out (.inl (by rw [hrl.out]; omega)))
    go_enter Try.func14, Try.ntmps14
    go_wp2_with fail
    refine (at_any _ _ _).mono ?_
    rintro e w9 ⟨rfl, hB9⟩
    have D9 := dstep w hB9 (by repeat (first | with_reducible exact Below.refl _ _ | with_reducible apply bdrew | with_reducible apply bdrewN | with_reducible apply balloc | ((with_reducible refine bset ?_ ?_ _); rotate_left; (first | omega | (simp <;> omega)))))
    have C9 := Cls.below (l := [(w.heap.size, 0, .slice AR m cr), (w.heap.size, 1, .slice AB mb cb), (w.heap.size, 2, .slice AO n co), (w.heap.size + 1, 0, .int .i64 0), (w.heap.size + 1, 1, .int .i64 0)]) hB9 (by simp [Cls, go_sem])
    have F9 := C9
    simp only [Cls, and_true] at F9
    have y9w1 : w.heap.size + 1 < w9.heap.size := C9.blk (b := w.heap.size + 1) (k := 0) (v := .int .i64 0) (by simp)
    have y9w0 : w.heap.size < w9.heap.size := (by omega)
    have y9wp1 : w.heap.size < w9.heap.size + 1 := (by omega)
    have y9wp2 : w.heap.size < w9.heap.size + 1 + 1 := (by omega)
    go_wp2
    refine bodyPost_ret (v := .agg #[.int .i64 2, .int .i64 (-1)]) ?_ rfl ⟨by rw [HF.out], by repeat (first | with_reducible exact D9 | with_reducible apply bdrew | with_reducible apply bdrewN | with_reducible apply balloc | ((with_reducible refine bset ?_ ?_ _); rotate_left; (first | omega | (simp <;> omega))))⟩
    simp [results, Try.results14, go_sem, F9, y9w1, y9w0, y9wp1, y9wp2]
  · have h1' : decide ((m : Int) > 6) = false := decide_eq_false h1
    by_cases h2 : (n : Int) > 6
    · have h2' : decide ((n : Int) > 6) = true := decide_eq_true h2
      have HF := Lib.hid (HF1.out (.inr (by rw [hol.out]; omega)))
      go_enter Try.func14, Try.ntmps14
      go_wp2_with fail
      refine (at_any _ _ _).mono ?_
      rintro e w9 ⟨rfl, hB9⟩
      have D9 := dstep w hB9 (by repeat (first | with_reducible exact Below.refl _ _ | with_reducible apply bdrew | with_reducible apply bdrewN | with_reducible apply balloc | ((with_reducible refine bset ?_ ?_ _); rotate_left; (first | omega | (simp <;> omega)))))
      have C9 := Cls.below (l := [(w.heap.size, 0, .slice AR m cr), (w.heap.size, 1, .slice AB mb cb), (w.heap.size, 2, .slice AO n co), (w.heap.size + 1, 0, .int .i64 0), (w.heap.size + 1, 1, .int .i64 0)]) hB9 (by simp [Cls, go_sem])
      have F9 := C9
      simp only [Cls, and_true] at F9
      have y9w1 : w.heap.size + 1 < w9.heap.size := C9.blk (b := w.heap.size + 1) (k := 0) (v := .int .i64 0) (by simp)
      have y9w0 : w.heap.size < w9.heap.size := (by omega)
      have y9wp1 : w.heap.size < w9.heap.size + 1 := (by omega)
      have y9wp2 : w.heap.size < w9.heap.size + 1 + 1 := (by omega)
      go_wp2
      refine bodyPost_ret (v := .agg #[.int .i64 2, .int .i64 (-1)]) ?_ rfl ⟨by rw [HF.out], by repeat (first | with_reducible exact D9 | with_reducible apply bdrew | with_reducible apply bdrewN | with_reducible apply balloc | ((with_reducible refine bset ?_ ?_ _); rotate_left; (first | omega | (simp <;> omega))))⟩
      simp [results, Try.results14, go_sem, F9, y9w1, y9w0, y9wp1, y9wp2]
    · have h2' : decide ((n : Int) > 6) = false := decide_eq_false h2
      have HNB : Hid (¬ (6 < p.rows.length ∨ 6 < p.obj.length)) := Lib.hid (by rw [hrl.out, hol.out]; omega)
      by_cases h3 : mb = m
      · subst h3
        have HBE : Hid (p.bounds.length = p.rows.length) := Lib.hid (by rw [hrl.out, hbl.out])
        go_enter Try.func14, Try.ntmps14
        go_wp2_with fail
        go_loopw [4] (fun y wr => ∃ j : Nat, j ≤ n ∧ y = .int .i64 j ∧ Hid (∀ c ∈ p.obj.take j, -20 ≤ c ∧ c ≤ 20) ∧ Below w.heap.size w wr ∧ Cls wr [(w.heap.size, 0, .slice AR mb cr), (w.heap.size, 1, .slice AB mb cb), (w.heap.size, 2, .slice AO n co), (w.heap.size + 1, 0, .int .i64 0), (w.heap.size + 1, 1, .int .i64 0)]) (fun y _ => n - (intOf y).toNat)
        case atStart => exact ⟨0, Nat.zero_le _, rfl, Lib.hid (by simp), (by repeat (first | with_reducible exact Below.refl _ _ | with_reducible apply bdrew | with_reducible apply bdrewN | with_reducible apply balloc | ((with_reducible refine bset ?_ ?_ _); rotate_left; (first | omega | (simp <;> omega))))), (by simp [Cls, go_sem])⟩
        case round =>
          obtain ⟨j, hj, rfl, HA, hBr, hCr⟩ := hrel
          obtain ⟨w1, rfl⟩ : ∃ wo : World, wo = wr := ⟨_, rfl⟩
          have drs := hBr.size
          have Fr := hCr
          simp only [Cls, and_true] at Fr
          have yrw1 : w.heap.size + 1 < w1.heap.size := hCr.blk (b := w.heap.size + 1) (k := 0) (v := .int .i64 0) (by simp)
          have yrw0 : w.heap.size < w1.heap.size := (by omega)
          have yrwp1 : w.heap.size < w1.heap.size + 1 := (by omega)
          have yrwp2 : w.heap.size < w1.heap.size + 1 + 1 := (by omega)
          by_cases hlt : j < n
          · obtain ⟨ad, c, rfl, hc, hcc⟩ := (HOB.out.below hBr).at_ (k := j) (by rw [hol.out]; exact hlt)
            by_cases hin : -20 ≤ c ∧ c ≤ 20
            · have HIN := Lib.hid hin
              obtain ⟨hin1, hin2⟩ := hin
              go_wp2_with fail
              refine (in_yes _ _ _ _ hin1 hin2).mono ?_
              rintro e w' ⟨rfl, rfl⟩
              go_wp2
              go_roundw
              case rel => exact ⟨j + 1, by omega, by go_num, Lib.hid (fun a ha => by
                rw [List.take_add_one, hc.out] at ha
                rcases List.mem_append.1 ha with h | h
                · exact HA.out a h
                · have : a = c := by simpa using h
                  rw [this]; exact HIN.out), by repeat (first | with_reducible exact hBr | with_reducible apply bdrew | with_reducible apply bdrewN | with_reducible apply balloc | ((with_reducible refine bset ?_ ?_ _); rotate_left; (first | omega | (simp <;> omega)))), by simp [Cls, go_sem, Fr, yrw1, yrw0, yrwp1, yrwp2]⟩
              case measure => simp [intOf]; omega
            · have HF := Lib.hid (HF3.out HNB.out HBE.out (fun h => hin (h c (List.mem_of_getElem? hc.out))))
              have hin' : c < -20 ∨ 20 < c := by omega
              clear hin
              go_wp2_with fail
              refine (in_no _ _ _ _ hin').mono ?_
              rintro e w' ⟨rfl, rfl⟩
              go_wp2_with fail
              refine (at_any _ _ _).mono ?_
              rintro e w9 ⟨rfl, hB9⟩
              have D9 := dstep w hB9 (by repeat (first | with_reducible exact hBr | with_reducible apply bdrew | with_reducible apply bdrewN | with_reducible apply balloc | ((with_reducible refine bset ?_ ?_ _); rotate_left; (first | omega | (simp <;> omega)))))
              have C9 := Cls.below (l := [(w.heap.size, 0, .slice AR mb cr), (w.heap.size, 1, .slice AB mb cb), (w.heap.size, 2, .slice (some ad) n co), (w.heap.size + 1, 0, .int .i64 0), (w.heap.size + 1, 1, .int .i64 0)]) hB9 (by simp [Cls, go_sem, Fr, yrw1, yrw0, yrwp1, yrwp2])
              have F9 := C9
              simp only [Cls, and_true] at F9
              have y9w1 : w.heap.size + 1 < w9.heap.size := C9.blk (b := w.heap.size + 1) (k := 0) (v := .int .i64 0) (by simp)
              have y9w0 : w.heap.size < w9.heap.size := (by omega)
              have y9wp1 : w.heap.size < w9.heap.size + 1 := (by omega)
              have y9wp2 : w.heap.size < w9.heap.size + 1 + 1 := (by omega)
              go_wp2
              refine bodyPost_ret (v := .agg #[.int .i64 3, .int .i64 (-3)]) ?_ rfl ⟨by rw [HF.out], by repeat (first | with_reducible exact D9 | with_reducible apply bdrew | with_reducible apply bdrewN | with_reducible apply balloc | ((with_reducible refine bset ?_ ?_ _); rotate_left; (first | omega | (simp <;> omega))))⟩
              simp [results, Try.results14, go_sem, F9, y9w1, y9w0, y9wp1, y9wp2]
          · obtain rfl : n = j := by omega
            have HCO : Hid (∀ c ∈ p.obj, -20 ≤ c ∧ c ≤ 20) := Lib.hid (fun c hc => HA.out c (by rw [List.take_of_length_le (by rw [hol.out]; exact Nat.le_refl _)]; exact hc))
            clear HA
            go_wp2_with fail
            go_loopw [5] (fun y wr => ∃ i : Nat, i ≤ mb ∧ y = .int .i64 i ∧ Hid (∀ k, k < i → p.rowC k = 0) ∧ Below w.heap.size w wr ∧ Cls wr [(w.heap.size, 0, .slice AR mb cr), (w.heap.size, 1, .slice AB mb cb), (w.heap.size, 2, .slice AO n co), (w.heap.size + 1, 0, .int .i64 0), (w.heap.size + 1, 1, .int .i64 0)]) (fun y _ => mb - (intOf y).toNat)
            case atStart => exact ⟨0, Nat.zero_le _, rfl, Lib.hid (fun k hk => by omega), by repeat (first | with_reducible exact hBr | with_reducible apply bdrew | with_reducible apply bdrewN | with_reducible apply balloc | ((with_reducible refine bset ?_ ?_ _); rotate_left; (first | omega | (simp <;> omega)))), by simp [Cls, go_sem, Fr, yrw1, yrw0, yrwp1, yrwp2]⟩
            case round =>
              obtain ⟨i, hi, rfl, HR, hBs, hCs⟩ := hrel
              obtain ⟨w2, rfl⟩ : ∃ wo : World, wo = wr := ⟨_, rfl⟩
              have dss := hBs.size
              have Fs := hCs
              simp only [Cls, and_true] at Fs
              have ysw1 : w.heap.size + 1 < w2.heap.size := hCs.blk (b := w.heap.size + 1) (k := 0) (v := .int .i64 0) (by simp)
              have ysw0 : w.heap.size < w2.heap.size := (by omega)
              have yswp1 : w.heap.size < w2.heap.size + 1 := (by omega)
              have yswp2 : w.heap.size < w2.heap.size + 1 + 1 := (by omega)
              by_cases hlt : i < mb
              · obtain ⟨ad, r, R, cR, rfl, hr, hrc, hI⟩ := (HRO.out.below hBs).at_ (k := i) (by rw [hrl.out]; exact hlt)
                obtain ⟨ad2, y, rfl, hy, hyc⟩ := (HBO.out.below hBs).at_ (k := i) (by rw [hbl.out]; exact hlt)
                have HRC := Lib.hid (show p.rowC i = rowF r y n by unfold LpV.rowC; rw [hr.out, hy.out, hol.out]; rfl)
                have HF4' := Lib.hid (fun c (h1 : p.rowC i = c) (h2 : ¬ c = 0) => HF4.out HNB.out HBE.out HCO.out (i := i) (by rw [hrl.out]; exact hlt) h1 h2 HR.out)
                have hrl63 := (hM.rows.lens r (List.mem_of_getElem? hr.out))
                obtain ⟨lr, hlr⟩ : ∃ l, Hid (r.length = l) := ⟨_, Lib.hid rfl⟩
                rw [hlr.out] at hrc hrl63
                by_cases hrn : lr = n
                · obtain rfl : n = lr := hrn.symm
                  have HRN := Lib.hid (show r.length = n from hlr.out)
                  obtain ⟨bin, hbin⟩ : ∃ b : Bool, Hid (decide (-20 ≤ y ∧ y ≤ 20) = b) := ⟨_, Lib.hid rfl⟩
                  have HBI : Hid (bin = true ↔ (-20 ≤ y ∧ y ≤ 20)) := Lib.hid (by rw [← hbin.out]; exact decide_eq_true_iff)
                  have HC : Hid (∀ W : World, Calls Try.prog 12 #[.int .i64 y, .int .i64 (-20), .int .i64 20] W fun e w' => e = .returned (.bool bin) ∧ W = w') := Lib.hid (fun W => by
                    have h := in_any y (-20) 20 W
                    rw [hbin.out] at h; exact h)
                  have HII := Lib.hid hI
                  have hrcw := hrc
                  go_wp2_with fail
                  refine (HC.out _).mono ?_
                  rintro e w' ⟨rfl, rfl⟩
                  go_wp2_with fail
                  go_loopw [6, 7] (fun g z wr => ∃ (j : Nat) (gd : Bool), j ≤ n ∧ z = .int .i64 j ∧ g = .bool gd ∧ Hid (gd = true ↔ bin = true ∧ ∀ a ∈ r.take j, -4 ≤ a ∧ a ≤ 4) ∧ Below w2.heap.size w2 wr) (fun _ z _ => n - (intOf z).toNat)
                  case atStart => exact ⟨0, bin, Nat.zero_le _, rfl, rfl, Lib.hid (by simp), by repeat (first | with_reducible exact Below.refl _ _ | with_reducible apply bdrew | with_reducible apply bdrewN | with_reducible apply balloc | ((with_reducible refine bset ?_ ?_ _); rotate_left; (first | omega | (simp <;> omega))))⟩
                  case round =>
                    obtain ⟨j, gd, hj, rfl, rfl, HG, hBv⟩ := hrel
                    obtain ⟨w3, rfl⟩ : ∃ wo : World, wo = wr := ⟨_, rfl⟩
                    have DV := hBs.trans (hBv.mono dss)
                    have CV := Cls.below (w := w2) (l := [(w.heap.size, 0, .slice (some ad) mb cr), (w.heap.size, 1, .slice (some ad2) mb cb), (w.heap.size, 2, .slice AO n co), (w.heap.size + 1, 0, .int .i64 0), (w.heap.size + 1, 1, .int .i64 0)]) hBv hCs
                    have hrc3 := (hBv.cell (World.block_lt_of_cell? w2 _ hrc)).trans hrc
                    have Fv := CV
                    simp only [Cls, and_true] at Fv
                    have yvw1 : w.heap.size + 1 < w3.heap.size := CV.blk (b := w.heap.size + 1) (k := 0) (v := .int .i64 0) (by simp)
                    have yvw0 : w.heap.size < w3.heap.size := (by omega)
                    have yvwp1 : w.heap.size < w3.heap.size + 1 := (by omega)
                    have yvwp2 : w.heap.size < w3.heap.size + 1 + 1 := (by omega)
                    by_cases hlt3 : j < n
                    · obtain ⟨ad3, z, rfl, hz, hzc⟩ := (HII.out.below hBv).at_ (k := j) (by rw [HRN.out]; exact hlt3)
                      have HTK : Hid (∀ c, c ∈ r.take (j + 1) ↔ c ∈ r.take j ∨ c = z) := Lib.hid (fun c => by rw [List.take_add_one, hz.out]; simp)
                      cases gd with
                      | false =>
                        have HB : Hid (¬ (bin = true ∧ ∀ a ∈ r.take j, -4 ≤ a ∧ a ≤ 4)) := Lib.hid (fun h => Bool.false_ne_true (HG.out.2 h))
                        clear HG
                        go_wp2
                        go_roundw
                        case rel => exact ⟨j + 1, false, by omega, by go_num, rfl, Lib.hid (iff_of_false (by simp) fun h => HB.out ⟨h.1, fun a ha => h.2 a ((HTK.out a).2 (.inl ha))⟩), by repeat (first | with_reducible exact hBv | with_reducible apply bdrew | with_reducible apply bdrewN | with_reducible apply balloc | ((with_reducible refine bset ?_ ?_ _); rotate_left; (first | omega | (simp <;> omega))))⟩
                        case measure => simp [intOf]; omega
                      | true =>
                        have HB := Lib.hid (HG.out.1 rfl)
                        clear HG
                        obtain ⟨yin, hyin⟩ : ∃ b : Bool, Hid (decide (-4 ≤ z ∧ z ≤ 4) = b) := ⟨_, Lib.hid rfl⟩
                        have HY : Hid (yin = true ↔ (-4 ≤ z ∧ z ≤ 4)) := Lib.hid (by rw [← hyin.out]; exact decide_eq_true_iff)
                        have HC2 : Hid (∀ W : World, Calls Try.prog 12 #[.int .i64 z, .int .i64 (-4), .int .i64 4] W fun e w' => e = .returned (.bool yin) ∧ W = w') := Lib.hid (fun W => by
                          have h := in_any z (-4) 4 W
                          rw [hyin.out] at h; exact h)
                        go_wp2_with fail
                        refine (HC2.out _).mono ?_
                        rintro e w' ⟨rfl, rfl⟩
                        go_wp2
                        go_roundw
                        case rel => exact ⟨j + 1, yin, by omega, by go_num, rfl, Lib.hid (by
                          rw [HY.out]
                          constructor
                          · intro h; exact ⟨HB.out.1, fun a ha => by
                              rcases (HTK.out a).1 ha with h2 | h2
                              · exact HB.out.2 a h2
                              · rw [h2]; exact h⟩
                          · intro h; exact h.2 z ((HTK.out z).2 (.inr rfl))), by repeat (first | with_reducible exact hBv | with_reducible apply bdrew | with_reducible apply bdrewN | with_reducible apply balloc | ((with_reducible refine bset ?_ ?_ _); rotate_left; (first | omega | (simp <;> omega))))⟩
                        case measure => simp [intOf]; omega
                    · obtain rfl : n = j := by omega
                      have hT : r.take n = r := List.take_of_length_le (by rw [HRN.out]; exact Nat.le_refl _)
                      rw [hT] at HG
                      cases gd with
                      | false =>
                        have HX : Hid (¬ (bin = true ∧ ∀ a ∈ r, -4 ≤ a ∧ a ≤ 4)) := Lib.hid (fun h => Bool.false_ne_true (HG.out.2 h))
                        have HF := Lib.hid (HF4'.out 3 (by
                          rw [HRC.out]; unfold rowF; rw [if_neg (fun e => e HRN.out)]
                          by_cases hb : -20 ≤ y ∧ y ≤ 20
                          · rw [if_neg (fun e => e hb), if_neg (fun h => HX.out ⟨HBI.out.2 hb, h⟩)]
                          · rw [if_pos hb]) (by omega))
                        clear HG
                        go_wp2_with fail
                        refine (at_any _ _ _).mono ?_
                        rintro e w9 ⟨rfl, hB9⟩
                        have D9 := dstep w hB9 (by repeat (first | with_reducible exact DV | with_reducible apply bdrew | with_reducible apply bdrewN | with_reducible apply balloc | ((with_reducible refine bset ?_ ?_ _); rotate_left; (first | omega | (simp <;> omega)))))
                        have C9 := Cls.below (l := [(w.heap.size, 0, .slice (some ad) mb cr), (w.heap.size, 1, .slice (some ad2) mb cb), (w.heap.size, 2, .slice AO n co), (w.heap.size + 1, 0, .int .i64 0), (w.heap.size + 1, 1, .int .i64 0)]) hB9 (by simp [Cls, go_sem, Fv, yvw1, yvw0, yvwp1, yvwp2])
                        have F9 := C9
                        simp only [Cls, and_true] at F9
                        have y9w1 : w.heap.size + 1 < w9.heap.size := C9.blk (b := w.heap.size + 1) (k := 0) (v := .int .i64 0) (by simp)
                        have y9w0 : w.heap.size < w9.heap.size := (by omega)
                        have y9wp1 : w.heap.size < w9.heap.size + 1 := (by omega)
                        have y9wp2 : w.heap.size < w9.heap.size + 1 + 1 := (by omega)
                        go_wp2
                        refine bodyPost_ret (v := .agg #[.int .i64 3, .int .i64 i]) ?_ rfl ⟨by rw [HF.out], by repeat (first | with_reducible exact D9 | with_reducible apply bdrew | with_reducible apply bdrewN | with_reducible apply balloc | ((with_reducible refine bset ?_ ?_ _); rotate_left; (first | omega | (simp <;> omega))))⟩
                        simp [results, Try.results14, go_sem, F9, y9w1, y9w0, y9wp1, y9wp2]
                      | true =>
                        have HB := Lib.hid (HG.out.1 rfl)
                        clear HG
                        have HR0 := Lib.hid (show p.rowC i = 0 by
                          rw [HRC.out]; unfold rowF; rw [if_neg (fun e => e HRN.out), if_neg (fun e => e (HBI.out.1 HB.out.1)), if_pos HB.out.2])
                        go_wp2
                        go_roundw
                        case rel => exact ⟨i + 1, by omega, by go_num, Lib.hid (fun k hk => by
                          by_cases e : k = i
                          · rw [e]; exact HR0.out
                          · exact HR.out k (by omega)), by repeat (first | with_reducible exact DV | with_reducible apply bdrew | with_reducible apply bdrewN | with_reducible apply balloc | ((with_reducible refine bset ?_ ?_ _); rotate_left; (first | omega | (simp <;> omega)))), by simp [Cls, go_sem, Fv, yvw1, yvw0, yvwp1, yvwp2]⟩
                        case measure => simp [intOf]; omega
                · have HF := Lib.hid (HF4'.out 9 (by rw [HRC.out]; unfold rowF; rw [if_pos (by rw [hlr.out]; exact hrn)]) (by omega))
                  have hrn' : ((lr : Int) != (n : Int)) = true := by simp; omega
                  have hrn'' : ¬ ((lr : Int) = (n : Int)) := by omega
                  go_wp2_with fail
                  go_wp2_with fail
                  refine (at_any _ _ _).mono ?_
                  rintro e w9 ⟨rfl, hB9⟩
                  have D9 := dstep w hB9 (by repeat (first | with_reducible exact hBs | with_reducible apply bdrew | with_reducible apply bdrewN | with_reducible apply balloc | ((with_reducible refine bset ?_ ?_ _); rotate_left; (first | omega | (simp <;> omega)))))
                  have C9 := Cls.below (l := [(w.heap.size, 0, .slice (some ad) mb cr), (w.heap.size, 1, .slice (some ad2) mb cb), (w.heap.size, 2, .slice AO n co), (w.heap.size + 1, 0, .int .i64 0), (w.heap.size + 1, 1, .int .i64 0)]) hB9 (by simp [Cls, go_sem, Fs, ysw1, ysw0, yswp1, yswp2])
                  have F9 := C9
                  simp only [Cls, and_true] at F9
                  have y9w1 : w.heap.size + 1 < w9.heap.size := C9.blk (b := w.heap.size + 1) (k := 0) (v := .int .i64 0) (by simp)
                  have y9w0 : w.heap.size < w9.heap.size := (by omega)
                  have y9wp1 : w.heap.size < w9.heap.size + 1 := (by omega)
                  have y9wp2 : w.heap.size < w9.heap.size + 1 + 1 := (by omega)
                  go_wp2
                  refine bodyPost_ret (v := .agg #[.int .i64 9, .int .i64 i]) ?_ rfl ⟨by rw [HF.out], by repeat (first | with_reducible exact D9 | with_reducible apply bdrew | with_reducible apply bdrewN | with_reducible apply balloc | ((with_reducible refine bset ?_ ?_ _); rotate_left; (first | omega | (simp <;> omega))))⟩
                  simp [results, Try.results14, go_sem, F9, y9w1, y9w0, y9wp1, y9wp2]
              · obtain rfl : mb = i := by omega
                have HF := Lib.hid (lpF_ok ⟨by have := HNB.out; omega, by have := HNB.out; omega, HBE.out, HCO.out, fun k hk => HR.out k (by rw [← hrl.out]; exact hk)⟩)
                go_wp2
                refine bodyPost_ret (v := .agg #[.int .i64 0, .int .i64 0]) ?_ rfl ⟨by rw [HF.out], by repeat (first | with_reducible exact hBs | with_reducible apply bdrew | with_reducible apply bdrewN | with_reducible apply balloc | ((with_reducible refine bset ?_ ?_ _); rotate_left; (first | omega | (simp <;> omega))))⟩
                simp [results, Try.results14, go_sem, Fs, ysw1, ysw0, yswp1, yswp2]
      · have h3' : ((m : Int) != (mb : Int)) = true := by simp; omega
        have h3'' : ¬ ((m : Int) = (mb : Int)) := by omega
        have HF := Lib.hid (HF2.out HNB.out (by rw [hrl.out, hbl.out]; exact h3))
        go_enter Try.func14, Try.ntmps14
        go_wp2_with fail
        refine (at_any _ _ _).mono ?_
        rintro e w9 ⟨rfl, hB9⟩
        have D9 := dstep w hB9 (by repeat (first | with_reducible exact Below.refl _ _ | with_reducible apply bdrew | with_reducible apply bdrewN | with_reducible apply balloc | ((with_reducible refine bset ?_ ?_ _); rotate_left; (first | omega | (simp <;> omega)))))
        have C9 := Cls.below (l := [(w.heap.size, 0, .slice AR m cr), (w.heap.size, 1, .slice AB mb cb), (w.heap.size, 2, .slice AO n co), (w.heap.size + 1, 0, .int .i64 0), (w.heap.size + 1, 1, .int .i64 0)]) hB9 (by simp [Cls, go_sem])
        have F9 := C9
        simp only [Cls, and_true] at F9
        have y9w1 : w.heap.size + 1 < w9.heap.size := C9.blk (b := w.heap.size + 1) (k := 0) (v := .int .i64 0) (by simp)
        have y9w0 : w.heap.size < w9.heap.size := (by omega)
        have y9wp1 : w.heap.size < w9.heap.size + 1 := (by omega)
        have y9wp2 : w.heap.size < w9.heap.size + 1 + 1 := (by omega)
        go_wp2
        refine bodyPost_ret (v := .agg #[.int .i64 9, .int .i64 (-2)]) ?_ rfl ⟨by rw [HF.out], by repeat (first | with_reducible exact D9 | with_reducible apply bdrew | with_reducible apply bdrewN | with_reducible apply balloc | ((with_reducible refine bset ?_ ?_ _); rotate_left; (first | omega | (simp <;> omega))))⟩
        simp [results, Try.results14, go_sem, F9, y9w1, y9w0, y9wp1, y9wp2]


end Go.Proofs.Ytkepfmglljkjhaa

namespace Go.Proofs.Ytkepfmglljkjhaa
open Go.RowKit
set_option linter.unusedVariables false
set_option linter.unusedSimpArgs false

section
open Go.Joins Go.ChangeShapes Go.WideShapes Go.RowKit Go.Deep
variable {H : Type} {enc : TypeId × Value → H} {w : World}
set_option maxRecDepth 100000 in
theorem open_lpW {r : Go.Reach} {b0 : Nat} {v : Value} {d : DataW H} {p : List MemPlace} (hv : Value.okWide Try.prog w r b0 25 v) (h : DataW.Trod enc Try.prog w 0 (fun _ => true) true 25 v d p) :
    ∃ (q : LpV) (AR AB AO : Option Addr) (cr cb co : Nat), v = .agg #[.slice AR q.rows.length cr, .slice AB q.bounds.length cb, .slice AO q.obj.length co] ∧ LpMem w AR AB AO q ∧ ((AR = none → q.rows = [] ∧ cr = 0) ∧ q.rows.length ≤ cr ∧ cr ≤ 9223372036854775807) ∧ NilOk AB q.bounds cb ∧ NilOk AO q.obj co := by
  obtain ⟨v0, v1, v2, y0, y1, y2, n, rfl, _, _, t0, t1, t2⟩ := open_agg3 Try.underlying25 (by kernel_rfl) (by kernel_rfl) hv h
  obtain ⟨A0, c0, x0, e0, q0, m0, n0, I0⟩ := read_rows t0
  obtain ⟨A1, c1, x1, e1, q1, m1, n1, I1, r1⟩ := read_ints t1
  obtain ⟨A2, c2, x2, e2, q2, m2, n2, I2, r2⟩ := read_ints t2
  injection e0 with e0
  injection e1 with e1
  injection e2 with e2
  subst e0; subst e1; subst e2
  exact ⟨⟨x0, x1, x2⟩, A0, A1, A2, c0, c1, c2, rfl, ⟨I0, I1, I2, Nat.le_trans q0 m0, Nat.le_trans q1 m1, Nat.le_trans q2 m2⟩, ⟨n0, q0, m0⟩, ⟨n1, q1, m1⟩, ⟨n2, q2, m2⟩⟩
end

end Go.Proofs.Ytkepfmglljkjhaa
