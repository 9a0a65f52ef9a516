/-
  linear.fits, check.
-/
import Derived.Test.YtkepfmglljkjhaaLw1
namespace Go.Proofs.Ytkepfmglljkjhaa
open Go.RowKit
set_option linter.unusedVariables false
set_option linter.unusedSimpArgs false

theorem row_dot {p : LpV} {r : List Int} {i n : Nat} (hr : p.rows[i]? = some r) (x : List Int) : LA.sumN n (fun j => p.lp.A i j * atL x j) = dotL n r x := by
  unfold dotL
  refine LA.sumN_congr fun j _ => ?_
  have e : p.lp.A i j = atL r j := by
    show (((p.rows[i]?).getD [])[j]?).getD 0 = _
    rw [hr]; rfl
  rw [e]
theorem bnd_at {p : LpV} {i : Nat} {y : Int} (h : p.bounds[i]? = some y) : p.lp.b i = y := by
  show (p.bounds[i]?).getD 0 = y
  rw [h]; rfl
theorem nn_iff {x : List Int} {n : Nat} (hl : x.length = n) : (¬ ∃ a ∈ x, a < 0) ↔ ∀ j, j < n → 0 ≤ atL x j := by
  constructor
  · intro h j hj
    have hj' : j < x.length := by omega
    have e : atL x j = x[j] := atL_some (List.getElem?_eq_getElem hj')
    rw [e]
    rcases Int.lt_or_le x[j] 0 with h1 | h1
    · exact absurd ⟨_, List.getElem_mem hj', h1⟩ h
    · exact h1
  · rintro h ⟨a, ha, hn⟩
    obtain ⟨j, hj⟩ := List.getElem?_of_mem ha
    have h1 := h j (by have := (List.getElem?_eq_some_iff.1 hj).1; omega)
    rw [atL_some hj] at h1
    omega
theorem row_100 {r : List Int} (h : ∀ a ∈ r, -4 ≤ a ∧ a ≤ 4) : ∀ a ∈ r, -100 ≤ a ∧ a ≤ 100 := fun a ha => by have := h a ha; omega
theorem blt {w : World} {a : Addr} {v : Value} (h : w.cell? a = some v) : a.block < w.heap.size := World.block_lt_of_cell? w a h
set_option maxRecDepth 100000 in
set_option maxHeartbeats 2000000 in
theorem lfits_any (w : World) (AR AB AO : Option Addr) (cr cb co : Nat) (p : LpV) (hM : LpMem w AR AB AO p) (hok : LpOk p) (m n : Nat) (hrl : Hid (p.rows.length = m)) (hbl : Hid (p.bounds.length = m)) (hol : Hid (p.obj.length = n)) (hm6 : m ≤ 6) (hn6 : n ≤ 6) (t : Int) (ht0 : 0 ≤ t) (ht1 : t ≤ 100000000) (X : Option Addr) (cX : Nat) (x : List Int) (hlx : Hid (x.length = n)) (hIx : Ints w X x) (hxb : ∀ a ∈ x, -100000000 ≤ a ∧ a ≤ 100000000) :
    Calls Try.prog 47 #[.agg #[.slice AR m cr, .slice AB m cb, .slice AO n co], .slice X n cX, .int .i64 t] w fun e w' => ∃ ok : Bool, e = .returned (.bool ok) ∧ Hid (ok = true ↔ LA.IsPt p.lp (atL x) t) ∧ Below w.heap.size w w' := by
  have HRO := Lib.hid hM.rows.llr
  have HBO := Lib.hid hM.bounds
  have HOK := Lib.hid hok
  have HXB := Lib.hid hxb
  have HIX := Lib.hid hIx
  have HLM : Hid (p.lp.m = m) := Lib.hid hrl.out
  have HLN : Hid (p.lp.n = n) := Lib.hid hol.out
  clear hM hok hxb
  go_enter Try.func47, Try.ntmps47
  go_wp2_with fail
  go_loopw [12] (fun v wr => ∃ i : Nat, i ≤ m ∧ v = .int .i64 i ∧ Hid (∀ k, k < i → LA.sumN n (fun j => p.lp.A k j * atL x j) ≤ p.lp.b k * t) ∧ Below w.heap.size w wr ∧ Cls wr [(w.heap.size, 0, .slice AR m cr), (w.heap.size, 1, .slice AB m cb), (w.heap.size, 2, .slice AO n co)]) (fun v _ => m - (intOf v).toNat)
  case atStart => exact ⟨0, Nat.zero_le _, rfl, Lib.hid (fun k hk => by omega), (by repeat (first | with_reducible exact Below.refl _ _ | with_reducible apply bdrew | with_reducible apply bdrewN | with_reducible apply balloc | ((with_reducible refine bset ?_ ?_ _); rotate_left; (first | omega | (simp <;> omega))))), (by simp [Cls, go_sem])⟩
  case round =>
    obtain ⟨i, hi, rfl, HA, hBr, hCr⟩ := hrel
    obtain ⟨w1, rfl⟩ : ∃ wo : World, wo = wr := ⟨_, rfl⟩
    have drs := hBr.size
    have Fr := hCr
    simp only [Cls, and_true] at Fr
    have yrw0 : w.heap.size < w1.heap.size := hCr.blk (b := w.heap.size) (k := 0) (v := .slice AR m cr) (by simp)
    have yrwp1 : w.heap.size < w1.heap.size + 1 := (by omega)
    have yrwp2 : w.heap.size < w1.heap.size + 1 + 1 := (by omega)
    by_cases hlt : i < m
    · obtain ⟨ad, r, R, cR, rfl, hr, hrc0, hI⟩ := HRO.out.at_ (k := i) (by rw [hrl.out]; exact hlt)
      obtain ⟨ad2, y, rfl, hy, hyc⟩ := (HBO.out.below hBr).at_ (k := i) (by rw [hbl.out]; exact hlt)
      have HIR := Lib.hid hI
      have hrc := (hBr.cell (World.block_lt_of_cell? w _ hrc0)).trans hrc0
      have hrn := (HOK.out.row hr.out).1
      rw [hol.out] at hrn
      have HRN := Lib.hid hrn
      rw [hrn] at hrc
      have HRB := Lib.hid (row_100 (HOK.out.row hr.out).2)
      have hyb := HOK.out.bound hy.out
      have hmul := mul_le (X := 20) (Y := 100000000) hyb (show -100000000 ≤ t ∧ t ≤ 100000000 by omega)
      obtain ⟨hmul1, hmul2⟩ := hmul
      obtain ⟨u, hu⟩ : ∃ u, Hid (y * t = u) := ⟨_, Lib.hid rfl⟩
      have hwu : IntKind.i64.wrap (y * t) = u := by rw [hu.out] at hmul1 hmul2 ⊢; exact Go.IntWalk.i64_in _ (by omega)
      obtain ⟨s, hs⟩ : ∃ s, Hid (dotL n r x = s) := ⟨_, Lib.hid rfl⟩
      have HP : ∀ W : World, Below w.heap.size w W → Calls Try.prog 50 #[.slice R n cR, .slice X n cX] W fun e w' => e = .returned (.int .i64 s) ∧ Below W.heap.size W w' := fun W hB => by
        have h := lprod_any W R X cR cX r x n HRN hlx hn6 (HIR.out.below hB) (HIX.out.below hB) HRB.out HXB.out
        rw [hs.out] at h; exact h
      have HP' := Lib.hid HP
      clear hrn hrc0 hI HP hyb
      by_cases hgt : s > u
      · have hd : decide (s > u) = true := decide_eq_true hgt
        have HG := Lib.hid hgt
        go_wp2_with fail
        refine wp_region_held_drew (S := fun W => W.cell? ⟨w.heap.size, 1, none⟩ = some (.slice (some ad2) m cb) ∧ W.cell? (ad2.add i) = some (.int .i64 y)) (by kernel_rfl) (by exact ⟨Fr.2.1.1, hyc⟩) (fun hHeld => ?_)
        refine wpAnyH_take (i := 0) (v := ?vo10) rfl (by kernel_rfl) (by kernel_rfl) (by kernel_rfl) (fun _ _ _ h => h) (Or.inl ⟨by rfl, ?ho10⟩) (by assumption) ?ro10
        case ho10 => (intro w hSw; (try dsimp only at hSw); go_simp; (try with_reducible rfl))
        try simp only [Act.put, List.getElem_toArray, List.getElem_cons_succ, List.getElem_cons_zero, List.setIfInBounds_toArray, List.set_cons_zero, List.set_cons_succ]
        refine wpAnyH_take (i := 1) (v := ?vo11) rfl (by kernel_rfl) (by kernel_rfl) (by kernel_rfl) (fun _ _ _ h => h) (Or.inl ⟨by rfl, ?ho11⟩) (by assumption) ?ro11
        case ho11 => (intro w hSw; (try dsimp only at hSw); go_simp; (try with_reducible rfl))
        try simp only [Act.put, List.getElem_toArray, List.getElem_cons_succ, List.getElem_cons_zero, List.setIfInBounds_toArray, List.set_cons_zero, List.set_cons_succ]
        refine wpAnyH_take (i := 3) (v := ?vo13) rfl (by kernel_rfl) (by kernel_rfl) (by kernel_rfl) (fun _ _ _ h => h) (Or.inl ⟨by rfl, ?ho13⟩) (by assumption) ?ro13
        case ho13 => (intro w hSw; (try dsimp only at hSw); go_simp; (try with_reducible rfl))
        try simp only [Act.put, List.getElem_toArray, List.getElem_cons_succ, List.getElem_cons_zero, List.setIfInBounds_toArray, List.set_cons_zero, List.set_cons_succ]
        refine wpAnyH_take (i := 4) (v := ?vo14) rfl (by kernel_rfl) (by kernel_rfl) (by kernel_rfl) (fun _ _ _ h => h) (Or.inl ⟨by rfl, ?ho14⟩) (by assumption) ?ro14
        case ho14 => (intro w hSw; (try dsimp only at hSw); go_simp; (try with_reducible rfl))
        try simp only [Act.put, List.getElem_toArray, List.getElem_cons_succ, List.getElem_cons_zero, List.setIfInBounds_toArray, List.set_cons_zero, List.set_cons_succ]
        refine wpAnyH_take (i := 5) (v := ?vo15) rfl (by kernel_rfl) (by kernel_rfl) (by kernel_rfl) (fun _ _ _ h => h) (Or.inl ⟨by rfl, ?ho15⟩) (by assumption) ?ro15
        case ho15 => (intro w hSw; (try dsimp only at hSw); go_simp; (try with_reducible rfl))
        try simp only [Act.put, List.getElem_toArray, List.getElem_cons_succ, List.getElem_cons_zero, List.setIfInBounds_toArray, List.set_cons_zero, List.set_cons_succ]
        refine wpAnyH_take (i := 6) (v := ?vo16) rfl (by kernel_rfl) (by kernel_rfl) (by kernel_rfl) (fun _ _ _ h => h) (Or.inl ⟨by rfl, ?ho16⟩) (by assumption) ?ro16
        case ho16 => (intro w hSw; (try dsimp only at hSw); go_simp; (try with_reducible rfl))
        try simp only [Act.put, List.getElem_toArray, List.getElem_cons_succ, List.getElem_cons_zero, List.setIfInBounds_toArray, List.set_cons_zero, List.set_cons_succ]
        refine wpAnyH_take (i := 7) (v := ?vo17) rfl (by kernel_rfl) (by kernel_rfl) (by kernel_rfl) (fun _ _ _ h => h) (Or.inl ⟨by rfl, ?ho17⟩) (by assumption) ?ro17
        case ho17 => (intro w hSw; (try dsimp only at hSw); go_simp; (try with_reducible rfl))
        try simp only [Act.put, List.getElem_toArray, List.getElem_cons_succ, List.getElem_cons_zero, List.setIfInBounds_toArray, List.set_cons_zero, List.set_cons_succ]
        refine wpAnyH_take (i := 8) (v := ?vo18) rfl (by kernel_rfl) (by kernel_rfl) (by kernel_rfl) (fun _ _ _ h => h) (Or.inl ⟨by rfl, ?ho18⟩) (by assumption) ?ro18
        case ho18 => (intro w hSw; (try dsimp only at hSw); go_simp; (try with_reducible rfl))
        try simp only [Act.put, List.getElem_toArray, List.getElem_cons_succ, List.getElem_cons_zero, List.setIfInBounds_toArray, List.set_cons_zero, List.set_cons_succ]
        refine wpAnyH_take (i := 9) (v := ?vo19) rfl (by kernel_rfl) (by kernel_rfl) (by kernel_rfl) (fun _ _ _ h => h) (Or.inl ⟨by rfl, ?ho19⟩) (by assumption) ?ro19
        case ho19 => (intro w hSw; (try dsimp only at hSw); go_simp; (try with_reducible rfl))
        try simp only [Act.put, List.getElem_toArray, List.getElem_cons_succ, List.getElem_cons_zero, List.setIfInBounds_toArray, List.set_cons_zero, List.set_cons_succ]
        refine wpAnyH_ready (rs := [2]) (by kernel_rfl) (by simp) ?_
        refine (AllReadyH.cons rfl (fun K hK => ?bo11x2) AllReadyH.nil)
        case bo11x2 =>
          go_simp
          go_at_call 50
          refine (HP'.out _ (by repeat (first | with_reducible exact hBr | with_reducible apply bdrew | with_reducible apply bdrewN | with_reducible apply balloc | ((with_reducible refine bset ?_ ?_ _); rotate_left; (first | omega | (simp <;> omega)))))).mono ?_
          rintro e w2 ⟨rfl, hB2⟩
          have D2 := dstep w hB2 (by repeat (first | with_reducible exact hBr | with_reducible apply bdrew | with_reducible apply bdrewN | with_reducible apply balloc | ((with_reducible refine bset ?_ ?_ _); rotate_left; (first | omega | (simp <;> omega)))))
          have C2 := Cls.below (l := [(w.heap.size, 0, .slice (some ad) m cr), (w.heap.size, 1, .slice (some ad2) m cb), (w.heap.size, 2, .slice AO n co)]) hB2 (by simp [Cls, go_sem, Fr, yrw0, yrwp1, yrwp2])
          have hSS : w2.cell? ⟨w.heap.size, 1, none⟩ = some (.slice (some ad2) m cb) ∧ w2.cell? (ad2.add i) = some (.int .i64 y) := ⟨(hB2.cell (blt Fr.2.1.1)).trans Fr.2.1.1, (hB2.cell (blt hyc)).trans hyc⟩
          go_wp2_with fail
          refine hK.out _ _ hSS (fun hHeld => ?_)
          clear hK K
          try simp only [Act.put, List.getElem_toArray, List.getElem_cons_succ, List.getElem_cons_zero, List.setIfInBounds_toArray, List.set_cons_zero, List.set_cons_succ]
          refine wpAnyH_take (i := 10) (v := ?vo1l210) rfl (by kernel_rfl) (by kernel_rfl) (by kernel_rfl) (fun _ _ _ h => h) (Or.inl ⟨by rfl, ?ho1l210⟩) (by assumption) ?ro1l210
          case ho1l210 => (intro w hSw; (try dsimp only at hSw); go_simp; (try with_reducible rfl))
          try simp only [Act.put, List.getElem_toArray, List.getElem_cons_succ, List.getElem_cons_zero, List.setIfInBounds_toArray, List.set_cons_zero, List.set_cons_succ]
          refine wpAnyH_done (by kernel_rfl) ?_ _
          go_wp2
          refine bodyPost_ret (v := .bool false) ?_ rfl ⟨false, rfl, Lib.hid (iff_of_false (by simp) (fun h => by
            have h1 := h.1 i (by rw [HLM.out]; exact hlt)
            rw [HLN.out, row_dot hr.out, hs.out, bnd_at hy.out, hu.out] at h1
            have := HG.out
            omega)), by repeat (first | with_reducible exact D2 | with_reducible apply bdrew | with_reducible apply bdrewN | with_reducible apply balloc | ((with_reducible refine bset ?_ ?_ _); rotate_left; (first | omega | (simp <;> omega))))⟩
          simp [results, Try.results47, go_sem]
      · have hd : decide (s > u) = false := decide_eq_false hgt
        have HG := Lib.hid (show s ≤ u by omega)
        go_wp2_with fail
        refine wp_region_held_drew (S := fun W => W.cell? ⟨w.heap.size, 1, none⟩ = some (.slice (some ad2) m cb) ∧ W.cell? (ad2.add i) = some (.int .i64 y)) (by kernel_rfl) (by exact ⟨Fr.2.1.1, hyc⟩) (fun hHeld => ?_)
        refine wpAnyH_take (i := 0) (v := ?vo20) rfl (by kernel_rfl) (by kernel_rfl) (by kernel_rfl) (fun _ _ _ h => h) (Or.inl ⟨by rfl, ?ho20⟩) (by assumption) ?ro20
        case ho20 => (intro w hSw; (try dsimp only at hSw); go_simp; (try with_reducible rfl))
        try simp only [Act.put, List.getElem_toArray, List.getElem_cons_succ, List.getElem_cons_zero, List.setIfInBounds_toArray, List.set_cons_zero, List.set_cons_succ]
        refine wpAnyH_take (i := 1) (v := ?vo21) rfl (by kernel_rfl) (by kernel_rfl) (by kernel_rfl) (fun _ _ _ h => h) (Or.inl ⟨by rfl, ?ho21⟩) (by assumption) ?ro21
        case ho21 => (intro w hSw; (try dsimp only at hSw); go_simp; (try with_reducible rfl))
        try simp only [Act.put, List.getElem_toArray, List.getElem_cons_succ, List.getElem_cons_zero, List.setIfInBounds_toArray, List.set_cons_zero, List.set_cons_succ]
        refine wpAnyH_take (i := 3) (v := ?vo23) rfl (by kernel_rfl) (by kernel_rfl) (by kernel_rfl) (fun _ _ _ h => h) (Or.inl ⟨by rfl, ?ho23⟩) (by assumption) ?ro23
        case ho23 => (intro w hSw; (try dsimp only at hSw); go_simp; (try with_reducible rfl))
        try simp only [Act.put, List.getElem_toArray, List.getElem_cons_succ, List.getElem_cons_zero, List.setIfInBounds_toArray, List.set_cons_zero, List.set_cons_succ]
        refine wpAnyH_take (i := 4) (v := ?vo24) rfl (by kernel_rfl) (by kernel_rfl) (by kernel_rfl) (fun _ _ _ h => h) (Or.inl ⟨by rfl, ?ho24⟩) (by assumption) ?ro24
        case ho24 => (intro w hSw; (try dsimp only at hSw); go_simp; (try with_reducible rfl))
        try simp only [Act.put, List.getElem_toArray, List.getElem_cons_succ, List.getElem_cons_zero, List.setIfInBounds_toArray, List.set_cons_zero, List.set_cons_succ]
        refine wpAnyH_take (i := 5) (v := ?vo25) rfl (by kernel_rfl) (by kernel_rfl) (by kernel_rfl) (fun _ _ _ h => h) (Or.inl ⟨by rfl, ?ho25⟩) (by assumption) ?ro25
        case ho25 => (intro w hSw; (try dsimp only at hSw); go_simp; (try with_reducible rfl))
        try simp only [Act.put, List.getElem_toArray, List.getElem_cons_succ, List.getElem_cons_zero, List.setIfInBounds_toArray, List.set_cons_zero, List.set_cons_succ]
        refine wpAnyH_take (i := 6) (v := ?vo26) rfl (by kernel_rfl) (by kernel_rfl) (by kernel_rfl) (fun _ _ _ h => h) (Or.inl ⟨by rfl, ?ho26⟩) (by assumption) ?ro26
        case ho26 => (intro w hSw; (try dsimp only at hSw); go_simp; (try with_reducible rfl))
        try simp only [Act.put, List.getElem_toArray, List.getElem_cons_succ, List.getElem_cons_zero, List.setIfInBounds_toArray, List.set_cons_zero, List.set_cons_succ]
        refine wpAnyH_take (i := 7) (v := ?vo27) rfl (by kernel_rfl) (by kernel_rfl) (by kernel_rfl) (fun _ _ _ h => h) (Or.inl ⟨by rfl, ?ho27⟩) (by assumption) ?ro27
        case ho27 => (intro w hSw; (try dsimp only at hSw); go_simp; (try with_reducible rfl))
        try simp only [Act.put, List.getElem_toArray, List.getElem_cons_succ, List.getElem_cons_zero, List.setIfInBounds_toArray, List.set_cons_zero, List.set_cons_succ]
        refine wpAnyH_take (i := 8) (v := ?vo28) rfl (by kernel_rfl) (by kernel_rfl) (by kernel_rfl) (fun _ _ _ h => h) (Or.inl ⟨by rfl, ?ho28⟩) (by assumption) ?ro28
        case ho28 => (intro w hSw; (try dsimp only at hSw); go_simp; (try with_reducible rfl))
        try simp only [Act.put, List.getElem_toArray, List.getElem_cons_succ, List.getElem_cons_zero, List.setIfInBounds_toArray, List.set_cons_zero, List.set_cons_succ]
        refine wpAnyH_take (i := 9) (v := ?vo29) rfl (by kernel_rfl) (by kernel_rfl) (by kernel_rfl) (fun _ _ _ h => h) (Or.inl ⟨by rfl, ?ho29⟩) (by assumption) ?ro29
        case ho29 => (intro w hSw; (try dsimp only at hSw); go_simp; (try with_reducible rfl))
        try simp only [Act.put, List.getElem_toArray, List.getElem_cons_succ, List.getElem_cons_zero, List.setIfInBounds_toArray, List.set_cons_zero, List.set_cons_succ]
        refine wpAnyH_ready (rs := [2]) (by kernel_rfl) (by simp) ?_
        refine (AllReadyH.cons rfl (fun K hK => ?bo21x2) AllReadyH.nil)
        case bo21x2 =>
          go_simp
          go_at_call 50
          refine (HP'.out _ (by repeat (first | with_reducible exact hBr | with_reducible apply bdrew | with_reducible apply bdrewN | with_reducible apply balloc | ((with_reducible refine bset ?_ ?_ _); rotate_left; (first | omega | (simp <;> omega)))))).mono ?_
          rintro e w2 ⟨rfl, hB2⟩
          have D2 := dstep w hB2 (by repeat (first | with_reducible exact hBr | with_reducible apply bdrew | with_reducible apply bdrewN | with_reducible apply balloc | ((with_reducible refine bset ?_ ?_ _); rotate_left; (first | omega | (simp <;> omega)))))
          have C2 := Cls.below (l := [(w.heap.size, 0, .slice (some ad) m cr), (w.heap.size, 1, .slice (some ad2) m cb), (w.heap.size, 2, .slice AO n co)]) hB2 (by simp [Cls, go_sem, Fr, yrw0, yrwp1, yrwp2])
          have hSS : w2.cell? ⟨w.heap.size, 1, none⟩ = some (.slice (some ad2) m cb) ∧ w2.cell? (ad2.add i) = some (.int .i64 y) := ⟨(hB2.cell (blt Fr.2.1.1)).trans Fr.2.1.1, (hB2.cell (blt hyc)).trans hyc⟩
          go_wp2_with fail
          refine hK.out _ _ hSS (fun hHeld => ?_)
          clear hK K
          try simp only [Act.put, List.getElem_toArray, List.getElem_cons_succ, List.getElem_cons_zero, List.setIfInBounds_toArray, List.set_cons_zero, List.set_cons_succ]
          refine wpAnyH_take (i := 10) (v := ?vo2l210) rfl (by kernel_rfl) (by kernel_rfl) (by kernel_rfl) (fun _ _ _ h => h) (Or.inl ⟨by rfl, ?ho2l210⟩) (by assumption) ?ro2l210
          case ho2l210 => (intro w hSw; (try dsimp only at hSw); go_simp; (try with_reducible rfl))
          try simp only [Act.put, List.getElem_toArray, List.getElem_cons_succ, List.getElem_cons_zero, List.setIfInBounds_toArray, List.set_cons_zero, List.set_cons_succ]
          refine wpAnyH_done (by kernel_rfl) ?_ _
          go_wp2
          go_roundw
          case rel => exact ⟨i + 1, by omega, by go_num, Lib.hid (fun k hk => by
            by_cases e : k = i
            · subst e; rw [row_dot hr.out, hs.out, bnd_at hy.out, hu.out]; exact HG.out
            · exact HA.out k (by omega)), by repeat (first | with_reducible exact D2 | with_reducible apply bdrew | with_reducible apply bdrewN | with_reducible apply balloc | ((with_reducible refine bset ?_ ?_ _); rotate_left; (first | omega | (simp <;> omega)))), Cls.below (w := w2) (by repeat (first | with_reducible exact Below.refl _ _ | with_reducible apply bdrew | with_reducible apply bdrewN | with_reducible apply balloc | ((with_reducible refine bset ?_ ?_ _); rotate_left; (first | omega | (simp <;> omega))))) C2⟩
          case measure => simp [intOf]; omega
    · obtain rfl : m = i := by omega
      have HA2 := Lib.hid (fun (h : ∀ j, j < n → 0 ≤ atL x j) => (show LA.IsPt p.lp (atL x) t from ⟨fun k hk => by rw [HLN.out]; exact HA.out k (by rw [← HLM.out]; exact hk), fun j hj => h j (by rw [← HLN.out]; exact hj)⟩))
      have HA3 := Lib.hid (fun (h : LA.IsPt p.lp (atL x) t) (j : Nat) (hj : j < n) => h.2 j (by rw [HLN.out]; exact hj))
      go_wp2_with fail
      refine (lneg_any _ X cX x n hlx (by omega) (HIX.out.below (by repeat (first | with_reducible exact hBr | with_reducible apply bdrew | with_reducible apply bdrewN | with_reducible apply balloc | ((with_reducible refine bset ?_ ?_ _); rotate_left; (first | omega | (simp <;> omega))))))).mono ?_
      rintro e w2 ⟨neg, rfl, HNG, hB2⟩
      have D2 := dstep w hB2 (by repeat (first | with_reducible exact hBr | with_reducible apply bdrew | with_reducible apply bdrewN | with_reducible apply balloc | ((with_reducible refine bset ?_ ?_ _); rotate_left; (first | omega | (simp <;> omega)))))
      go_wp2
      refine bodyPost_ret (v := .bool (!neg)) ?_ rfl ⟨!neg, rfl, Lib.hid (by
        have h1 := nn_iff hlx.out
        cases neg with
        | true => exact iff_of_false (by simp) fun h => (h1.2 (HA3.out h)) (HNG.out.1 rfl)
        | false => exact iff_of_true rfl (HA2.out (h1.1 fun h => by have := HNG.out.2 h; cases this))), by repeat (first | with_reducible exact D2 | with_reducible apply bdrew | with_reducible apply bdrewN | with_reducible apply balloc | ((with_reducible refine bset ?_ ?_ _); rotate_left; (first | omega | (simp <;> omega))))⟩
      simp [results, Try.results47, go_sem]

/-- A vector. -/
structure VecV where
  nums : List Int
  den : Int
/-- A list of vectors in memory. -/
def VecsRead (w : World) (A : Option Addr) (vs : List VecV) : Prop := ∀ k v, vs[k]? = some v → ∃ g B c, A = some ⟨g, 0, none⟩ ∧ w.cell? ⟨g, k * 2, none⟩ = some (.slice B v.nums.length c) ∧ w.cell? ⟨g, k * 2 + 1, none⟩ = some (.int .i64 v.den) ∧ Ints w B v.nums ∧ v.nums.length ≤ 9223372036854775807
theorem VecsRead.below {w w' : World} {A : Option Addr} {vs : List VecV} (h : VecsRead w A vs) (hb : Below w.heap.size w w') : VecsRead w' A vs := fun k v hv => by
  obtain ⟨g, B, c, h1, h2, h3, h4, h5⟩ := h k v hv
  exact ⟨g, B, c, h1, (hb.cell (blt h2)).trans h2, (hb.cell (blt h3)).trans h3, h4.below hb, h5⟩
theorem VecsRead.nil (w : World) (A : Option Addr) : VecsRead w A [] := fun k v h => by simp at h
theorem VecsRead.one {w : World} {g : Nat} {B : Option Addr} {c : Nat} {x : List Int} {d : Int} (h1 : w.cell? ⟨g, 0, none⟩ = some (.slice B x.length c)) (h2 : w.cell? ⟨g, 1, none⟩ = some (.int .i64 d)) (h3 : Ints w B x) (h4 : x.length ≤ 9223372036854775807) : VecsRead w (some ⟨g, 0, none⟩) [⟨x, d⟩] := fun k v hv => by
  cases k with
  | zero => simp at hv; subst hv; exact ⟨g, B, c, rfl, h1, h2, h3, h4⟩
  | succ k => simp at hv
/-- The fault after k vectors with the codes cs, where the first one has index i. -/
def chkN (f : Int × Int) (i : Int) (cs : List Int) : Nat → Int × Int
  | 0 => f
  | k + 1 => if (chkN f i cs k).1 = 0 ∧ atL cs k ≠ 0 then (atL cs k, i - k) else chkN f i cs k
theorem chkN_zero {f : Int × Int} {i : Int} {cs : List Int} (h : f.1 = 0 → f.2 = 0) : ∀ k, (chkN f i cs k).1 = 0 → (chkN f i cs k).2 = 0
  | 0 => h
  | k + 1 => by
    unfold chkN
    split
    · next e => intro h2; exact absurd h2 e.2
    · exact chkN_zero h k
theorem chkN_old {f : Int × Int} {i : Int} {cs : List Int} {k : Nat} (h : ¬ (chkN f i cs k).1 = 0) : chkN f i cs (k + 1) = chkN f i cs k := by
  show (if _ then _ else _) = _
  rw [if_neg fun e => h e.1]
theorem chkN_same {f : Int × Int} {i : Int} {cs : List Int} {k : Nat} (h : atL cs k = 0) : chkN f i cs (k + 1) = chkN f i cs k := by
  show (if _ then _ else _) = _
  rw [if_neg fun e => e.2 h]
theorem chkN_new {f : Int × Int} {i c : Int} {cs : List Int} {k : Nat} (h0 : (chkN f i cs k).1 = 0) (hc : atL cs k = c) (h : ¬ c = 0) : chkN f i cs (k + 1) = (c, i - k) := by
  show (if _ then _ else _) = _
  rw [hc, if_pos ⟨h0, h⟩]
/-- The codes of vectors that shall have n numbers. -/
def vCodes (vs : List VecV) (n : Nat) : List Int := vs.map fun v => vecC v.nums v.den n
theorem vCodes_at {vs : List VecV} {n k : Nat} {v : VecV} (h : vs[k]? = some v) : atL (vCodes vs n) k = vecC v.nums v.den n := atL_some (by unfold vCodes; rw [List.getElem?_map, h]; rfl)
theorem lpF_snd {p : LpV} (h : (lpF p).1 = 0) : (lpF p).2 = 0 := by rw [lpF_ok (lpF_zero h)]
set_option maxRecDepth 100000 in
set_option maxHeartbeats 4000000 in
theorem lcheck_any (w : World) (AR AB AO : Option Addr) (cr cb co : Nat) (p : LpV) (hM : LpMem w AR AB AO p) (m mb n : Nat) (hrl : Hid (p.rows.length = m)) (hbl : Hid (p.bounds.length = mb)) (hol : Hid (p.obj.length = n)) (V1 V2 : Option Addr) (c1 c2 k1 k2 : Nat) (vs us : List VecV) (hvl1 : Hid (vs.length = k1)) (hvl2 : Hid (us.length = k2)) (hk1 : k1 ≤ 5) (hk2 : k2 ≤ 5) (hV1 : VecsRead w V1 vs) (hV2 : VecsRead w V2 us) :
    Calls Try.prog 46 #[.agg #[.slice AR m cr, .slice AB mb cb, .slice AO n co], .slice V1 k1 c1, .slice V2 k2 c2] w fun e w' => e = .returned (.agg #[.int .i64 (chkN (chkN (lpF p) (-4) (vCodes vs n) k1) (-4 - (k1 : Int)) (vCodes us m) k2).1, .int .i64 (chkN (chkN (lpF p) (-4) (vCodes vs n) k1) (-4 - (k1 : Int)) (vCodes us m) k2).2]) ∧ Below w.heap.size w w' := by
  have HV1 := Lib.hid hV1
  have HV2 := Lib.hid hV2
  have HLV : ∀ W : World, Below w.heap.size w W → Calls Try.prog 15 #[.agg #[.slice AR m cr, .slice AB mb cb, .slice AO n co]] W fun e w' => e = .returned (.agg #[.int .i64 (lpF p).1, .int .i64 (lpF p).2]) ∧ Below W.heap.size W w' := fun W hB => by
    have h := lvalidate_any W AR AB AO cr cb co p (hM.below hB)
    rw [hrl.out, hbl.out, hol.out] at h
    exact h
  have HLV' := Lib.hid HLV
  have hm63 := hM.nr
  have hb63 := hM.nb
  have hn63 := hM.no
  rw [hrl.out] at hm63
  rw [hbl.out] at hb63
  rw [hol.out] at hn63
  obtain ⟨f1, hf1⟩ : ∃ f : Nat → Int × Int, Hid (f = chkN (lpF p) (-4) (vCodes vs n)) := ⟨_, Lib.hid rfl⟩
  obtain ⟨f2, hf2⟩ : ∃ f : Nat → Int × Int, Hid (f = chkN (f1 k1) (-4 - (k1 : Int)) (vCodes us m)) := ⟨_, Lib.hid rfl⟩
  have HZ1 : Hid (∀ k, (f1 k).1 = 0 → (f1 k).2 = 0) := Lib.hid (by rw [hf1.out]; exact chkN_zero lpF_snd)
  have HZ2 : Hid (∀ k, (f2 k).1 = 0 → (f2 k).2 = 0) := Lib.hid (by rw [hf2.out]; exact chkN_zero (HZ1.out k1))
  have H01 : Hid (f1 0 = lpF p) := Lib.hid (by rw [hf1.out]; rfl)
  have H02 : Hid (f2 0 = f1 k1) := Lib.hid (by rw [hf2.out]; rfl)
  have HR : Hid (chkN (chkN (lpF p) (-4) (vCodes vs n) k1) (-4 - (k1 : Int)) (vCodes us m) k2 = f2 k2) := Lib.hid (by rw [hf2.out, hf1.out])
  have HO1 : Hid (∀ k, ¬ (f1 k).1 = 0 → f1 (k + 1) = f1 k) := Lib.hid (fun k h => by rw [hf1.out] at h ⊢; exact chkN_old h)
  have HS1 : Hid (∀ k v, vs[k]? = some v → vecC v.nums v.den n = 0 → f1 (k + 1) = f1 k) := Lib.hid (fun k v hv h => by rw [hf1.out]; exact chkN_same (by rw [vCodes_at hv]; exact h))
  have HN1 : Hid (∀ k v c, (f1 k).1 = 0 → vs[k]? = some v → vecC v.nums v.den n = c → ¬ c = 0 → f1 (k + 1) = (c, -4 - (k : Int))) := Lib.hid (fun k v c h0 hv hc h => by rw [hf1.out] at h0 ⊢; exact chkN_new h0 (by rw [vCodes_at hv]; exact hc) h)
  have HO2 : Hid (∀ k, ¬ (f2 k).1 = 0 → f2 (k + 1) = f2 k) := Lib.hid (fun k h => by rw [hf2.out] at h ⊢; exact chkN_old h)
  have HS2 : Hid (∀ k v, us[k]? = some v → vecC v.nums v.den m = 0 → f2 (k + 1) = f2 k) := Lib.hid (fun k v hv h => by rw [hf2.out]; exact chkN_same (by rw [vCodes_at hv]; exact h))
  have HN2 : Hid (∀ k v c, (f2 k).1 = 0 → us[k]? = some v → vecC v.nums v.den m = c → ¬ c = 0 → f2 (k + 1) = (c, -4 - (k1 : Int) - (k : Int))) := Lib.hid (fun k v c h0 hv hc h => by rw [hf2.out] at h0 ⊢; exact chkN_new h0 (by rw [vCodes_at hv]; exact hc) h)
  rw [HR.out]
  rw [← H01.out] at HLV'
  clear hM hV1 hV2 HLV hf1 hf2
  go_enter Try.func46, Try.ntmps46
  go_wp2_with fail
  refine (HLV'.out _ (by repeat (first | with_reducible exact Below.refl _ _ | with_reducible apply bdrew | with_reducible apply bdrewN | with_reducible apply balloc | ((with_reducible refine bset ?_ ?_ _); rotate_left; (first | omega | (simp <;> omega)))))).mono ?_
  rintro e w1 ⟨rfl, hB1⟩
  have D1 := dstep w hB1 (by repeat (first | with_reducible exact Below.refl _ _ | with_reducible apply bdrew | with_reducible apply bdrewN | with_reducible apply balloc | ((with_reducible refine bset ?_ ?_ _); rotate_left; (first | omega | (simp <;> omega)))))
  have d1s := D1.size
  have C1 := Cls.below (l := [(w.heap.size, 0, .slice AR m cr), (w.heap.size, 1, .slice AB mb cb), (w.heap.size, 2, .slice AO n co), (w.heap.size + 1, 0, .int .i64 0), (w.heap.size + 1, 1, .int .i64 0)]) hB1 (by simp [Cls, go_sem])
  have F1 := C1
  simp only [Cls, and_true] at F1
  have y1w1 : w.heap.size + 1 < w1.heap.size := C1.blk (b := w.heap.size + 1) (k := 0) (v := .int .i64 0) (by simp)
  have y1w0 : w.heap.size < w1.heap.size := (by omega)
  have y1wp1 : w.heap.size < w1.heap.size + 1 := (by omega)
  have y1wp2 : w.heap.size < w1.heap.size + 1 + 1 := (by omega)
  have HL1 := hvl1
  have HL2 := hvl2
  go_wp2_with fail
  go_loopw [8, 19] (fun s x wr => ∃ j : Nat, j ≤ k1 ∧ x = .int .i64 j ∧ s = .int .i64 (-4 - (j : Int)) ∧ Below w.heap.size w wr ∧ Cls wr [(w.heap.size, 0, .slice AR m cr), (w.heap.size, 1, .slice AB mb cb), (w.heap.size, 2, .slice AO n co), (w.heap.size + 1, 0, .int .i64 0), (w.heap.size + 1, 1, .int .i64 0), (w1.heap.size, 0, .int .i64 (f1 j).1), (w1.heap.size, 1, .int .i64 (f1 j).2)]) (fun _ x _ => k1 - (intOf x).toNat)
  case atStart => exact ⟨0, Nat.zero_le _, rfl, by simp, (by repeat (first | with_reducible exact D1 | with_reducible apply bdrew | with_reducible apply bdrewN | with_reducible apply balloc | ((with_reducible refine bset ?_ ?_ _); rotate_left; (first | omega | (simp <;> omega))))), (by simp [Cls, go_sem, F1, y1w1, y1w0, y1wp1, y1wp2])⟩
  case round =>
    obtain ⟨j, hj, rfl, rfl, hBr1, hCr1⟩ := hrel
    obtain ⟨w2, rfl⟩ : ∃ wo : World, wo = wr := ⟨_, rfl⟩
    have dr1s := hBr1.size
    have Fr1 := hCr1
    simp only [Cls, and_true] at Fr1
    have yr1w1 : w.heap.size + 1 < w2.heap.size := hCr1.blk (b := w.heap.size + 1) (k := 0) (v := .int .i64 0) (by simp)
    have yr1w0 : w.heap.size < w2.heap.size := (by omega)
    have yr1wp1 : w.heap.size < w2.heap.size + 1 := (by omega)
    have yr1wp2 : w.heap.size < w2.heap.size + 1 + 1 := (by omega)
    have yr1w10 : w1.heap.size < w2.heap.size := hCr1.blk (b := w1.heap.size) (k := 0) (v := .int .i64 (f1 j).1) (by simp)
    have yr1w1p1 : w1.heap.size < w2.heap.size + 1 := (by omega)
    have yr1w1p2 : w1.heap.size < w2.heap.size + 1 + 1 := (by omega)
    by_cases hlt : j < k1
    · obtain ⟨v, hv⟩ : ∃ v, Hid (vs[j]? = some v) := ⟨vs[j]'(by rw [HL1.out]; exact hlt), Lib.hid (List.getElem?_eq_getElem _)⟩
      obtain ⟨gv, Bv, cv, hA, hvc1, hvc2, hvI, hvl⟩ := (HV1.out.below (w := w) (w' := w2) hBr1) j v hv.out
      obtain ⟨x, d⟩ := v
      dsimp only at hvc1 hvc2 hvI hvl
      subst hA
      obtain ⟨lx, hlx⟩ : ∃ lx, Hid (x.length = lx) := ⟨_, Lib.hid rfl⟩
      rw [hlx.out] at hvc1 hvl
      obtain ⟨c, hc⟩ : ∃ c, Hid (vecC x d (n : Int) = c) := ⟨_, Lib.hid rfl⟩
      have HVI := Lib.hid hvI
      have HVC : Hid (∀ W : World, Below w2.heap.size w2 W → Calls Try.prog 56 #[.agg #[.slice Bv lx cv, .int .i64 d], .int .i64 (n : Int)] W fun e w' => e = .returned (.int .i64 c) ∧ Below W.heap.size W w') := Lib.hid (fun W hB => by
        have h := lvcode_any W Bv cv x d (n : Int) (HVI.out.below hB) (by rw [hlx.out]; exact hvl)
        rw [hlx.out, hc.out] at h
        exact h)
      have HOj := Lib.hid (HO1.out j)
      have HSj := Lib.hid (HS1.out j _ hv.out)
      have HNj := Lib.hid (fun h0 => HN1.out j _ c h0 hv.out hc.out)
      have HZj := Lib.hid (HZ1.out j)
      obtain ⟨q, hq⟩ : ∃ q, Hid (f1 j = q) := ⟨_, Lib.hid rfl⟩
      rw [hq.out] at HOj HSj HNj HZj Fr1 hCr1
      obtain ⟨a, a2⟩ := q
      dsimp only at HOj HSj HNj HZj Fr1 hCr1
      go_wp2_with fail
      refine (HVC.out _ (by repeat (first | with_reducible exact Below.refl _ _ | with_reducible apply bdrew | with_reducible apply bdrewN | with_reducible apply balloc | ((with_reducible refine bset ?_ ?_ _); rotate_left; (first | omega | (simp <;> omega)))))).mono ?_
      rintro e w3 ⟨rfl, hB3⟩
      have D3 := dstep w hB3 (by repeat (first | with_reducible exact hBr1 | with_reducible apply bdrew | with_reducible apply bdrewN | with_reducible apply balloc | ((with_reducible refine bset ?_ ?_ _); rotate_left; (first | omega | (simp <;> omega)))))
      have C3 := Cls.below (l := [(w.heap.size, 0, .slice AR m cr), (w.heap.size, 1, .slice AB mb cb), (w.heap.size, 2, .slice AO n co), (w.heap.size + 1, 0, .int .i64 0), (w.heap.size + 1, 1, .int .i64 0), (w1.heap.size, 0, .int .i64 a), (w1.heap.size, 1, .int .i64 a2)]) hB3 (by simp [Cls, go_sem, Fr1, yr1w1, yr1w0, yr1wp1, yr1wp2, yr1w10, yr1w1p1, yr1w1p2])
      have F3 := C3
      simp only [Cls, and_true] at F3
      have y3w1 : w.heap.size + 1 < w3.heap.size := C3.blk (b := w.heap.size + 1) (k := 0) (v := .int .i64 0) (by simp)
      have y3w0 : w.heap.size < w3.heap.size := (by omega)
      have y3wp1 : w.heap.size < w3.heap.size + 1 := (by omega)
      have y3wp2 : w.heap.size < w3.heap.size + 1 + 1 := (by omega)
      have y3w10 : w1.heap.size < w3.heap.size := C3.blk (b := w1.heap.size) (k := 0) (v := .int .i64 a) (by simp)
      have y3w1p1 : w1.heap.size < w3.heap.size + 1 := (by omega)
      have y3w1p2 : w1.heap.size < w3.heap.size + 1 + 1 := (by omega)
      by_cases ha : a = 0
      · obtain rfl : a2 = 0 := HZj.out ha
        subst ha
        by_cases hc0 : c = 0
        · have HE := Lib.hid (HSj.out (by rw [hc.out]; exact hc0))
          subst hc0
          go_wp2
          go_roundw
          case rel => exact ⟨j + 1, by omega, by go_num, (by congr 1; omega), (by repeat (first | with_reducible exact D3 | with_reducible apply bdrew | with_reducible apply bdrewN | with_reducible apply balloc | ((with_reducible refine bset ?_ ?_ _); rotate_left; (first | omega | (simp <;> omega))))), (by rw [HE.out]; simp [Cls, go_sem, F3, y3w1, y3w0, y3wp1, y3wp2, y3w10, y3w1p1, y3w1p2])⟩
          case measure => simp [intOf]; omega
        · have HE := Lib.hid (HNj.out rfl hc0)
          have hc1 : (c != 0) = true := by simpa using hc0
          go_wp2_with fail
          refine (lfault_any _ _ _).mono ?_
          rintro e w4 ⟨rfl, hB4⟩
          have D4 := dstep w hB4 (by repeat (first | with_reducible exact D3 | with_reducible apply bdrew | with_reducible apply bdrewN | with_reducible apply balloc | ((with_reducible refine bset ?_ ?_ _); rotate_left; (first | omega | (simp <;> omega)))))
          have C4 := Cls.below (l := [(w.heap.size, 0, .slice AR m cr), (w.heap.size, 1, .slice AB mb cb), (w.heap.size, 2, .slice AO n co), (w.heap.size + 1, 0, .int .i64 0), (w.heap.size + 1, 1, .int .i64 0), (w1.heap.size, 0, .int .i64 0), (w1.heap.size, 1, .int .i64 0)]) hB4 (by simp [Cls, go_sem, F3, y3w1, y3w0, y3wp1, y3wp2, y3w10, y3w1p1, y3w1p2])
          have F4 := C4
          simp only [Cls, and_true] at F4
          have y4w1 : w.heap.size + 1 < w4.heap.size := C4.blk (b := w.heap.size + 1) (k := 0) (v := .int .i64 0) (by simp)
          have y4w0 : w.heap.size < w4.heap.size := (by omega)
          have y4wp1 : w.heap.size < w4.heap.size + 1 := (by omega)
          have y4wp2 : w.heap.size < w4.heap.size + 1 + 1 := (by omega)
          have y4w10 : w1.heap.size < w4.heap.size := C4.blk (b := w1.heap.size) (k := 0) (v := .int .i64 0) (by simp)
          have y4w1p1 : w1.heap.size < w4.heap.size + 1 := (by omega)
          have y4w1p2 : w1.heap.size < w4.heap.size + 1 + 1 := (by omega)
          go_wp2
          go_roundw
          case rel => exact ⟨j + 1, by omega, by go_num, (by congr 1; omega), (by repeat (first | with_reducible exact D4 | with_reducible apply bdrew | with_reducible apply bdrewN | with_reducible apply balloc | ((with_reducible refine bset ?_ ?_ _); rotate_left; (first | omega | (simp <;> omega))))), (by rw [HE.out]; simp [Cls, go_sem, F4, y4w1, y4w0, y4wp1, y4wp2, y4w10, y4w1p1, y4w1p2])⟩
          case measure => simp [intOf]; omega
      · have HE := Lib.hid (HOj.out ha)
        have ha1 : (a == 0) = false := by simpa using ha
        go_wp2
        go_roundw
        case rel => exact ⟨j + 1, by omega, by go_num, (by congr 1; omega), (by repeat (first | with_reducible exact D3 | with_reducible apply bdrew | with_reducible apply bdrewN | with_reducible apply balloc | ((with_reducible refine bset ?_ ?_ _); rotate_left; (first | omega | (simp <;> omega))))), (by rw [HE.out]; simp [Cls, go_sem, F3, y3w1, y3w0, y3wp1, y3wp2, y3w10, y3w1p1, y3w1p2])⟩
        case measure => simp [intOf]; omega
    · obtain rfl : k1 = j := by omega
      rw [← H02.out] at hCr1 Fr1
      go_wp2_with fail
      go_loopw [8, 43] (fun s x wr => ∃ j : Nat, j ≤ k2 ∧ x = .int .i64 j ∧ s = .int .i64 (-4 - (k1 : Int) - (j : Int)) ∧ Below w.heap.size w wr ∧ Cls wr [(w.heap.size, 0, .slice AR m cr), (w.heap.size, 1, .slice AB mb cb), (w.heap.size, 2, .slice AO n co), (w.heap.size + 1, 0, .int .i64 0), (w.heap.size + 1, 1, .int .i64 0), (w1.heap.size, 0, .int .i64 (f2 j).1), (w1.heap.size, 1, .int .i64 (f2 j).2)]) (fun _ x _ => k2 - (intOf x).toNat)
      case atStart => exact ⟨0, Nat.zero_le _, rfl, by simp, (by repeat (first | with_reducible exact hBr1 | with_reducible apply bdrew | with_reducible apply bdrewN | with_reducible apply balloc | ((with_reducible refine bset ?_ ?_ _); rotate_left; (first | omega | (simp <;> omega))))), (by simp [Cls, go_sem, Fr1, yr1w1, yr1w0, yr1wp1, yr1wp2, yr1w10, yr1w1p1, yr1w1p2])⟩
      case round =>
        obtain ⟨j, hj, rfl, rfl, hBr2, hCr2⟩ := hrel
        obtain ⟨w5, rfl⟩ : ∃ wo : World, wo = wr := ⟨_, rfl⟩
        have dr2s := hBr2.size
        have Fr2 := hCr2
        simp only [Cls, and_true] at Fr2
        have yr2w1 : w.heap.size + 1 < w5.heap.size := hCr2.blk (b := w.heap.size + 1) (k := 0) (v := .int .i64 0) (by simp)
        have yr2w0 : w.heap.size < w5.heap.size := (by omega)
        have yr2wp1 : w.heap.size < w5.heap.size + 1 := (by omega)
        have yr2wp2 : w.heap.size < w5.heap.size + 1 + 1 := (by omega)
        have yr2w10 : w1.heap.size < w5.heap.size := hCr2.blk (b := w1.heap.size) (k := 0) (v := .int .i64 (f2 j).1) (by simp)
        have yr2w1p1 : w1.heap.size < w5.heap.size + 1 := (by omega)
        have yr2w1p2 : w1.heap.size < w5.heap.size + 1 + 1 := (by omega)
        by_cases hlt : j < k2
        · obtain ⟨v, hv⟩ : ∃ v, Hid (us[j]? = some v) := ⟨us[j]'(by rw [HL2.out]; exact hlt), Lib.hid (List.getElem?_eq_getElem _)⟩
          obtain ⟨gv, Bv, cv, hA, hvc1, hvc2, hvI, hvl⟩ := (HV2.out.below (w := w) (w' := w5) hBr2) j v hv.out
          obtain ⟨x, d⟩ := v
          dsimp only at hvc1 hvc2 hvI hvl
          subst hA
          obtain ⟨lx, hlx⟩ : ∃ lx, Hid (x.length = lx) := ⟨_, Lib.hid rfl⟩
          rw [hlx.out] at hvc1 hvl
          obtain ⟨c, hc⟩ : ∃ c, Hid (vecC x d (m : Int) = c) := ⟨_, Lib.hid rfl⟩
          have HVI := Lib.hid hvI
          have HVC : Hid (∀ W : World, Below w5.heap.size w5 W → Calls Try.prog 56 #[.agg #[.slice Bv lx cv, .int .i64 d], .int .i64 (m : Int)] W fun e w' => e = .returned (.int .i64 c) ∧ Below W.heap.size W w') := Lib.hid (fun W hB => by
            have h := lvcode_any W Bv cv x d (m : Int) (HVI.out.below hB) (by rw [hlx.out]; exact hvl)
            rw [hlx.out, hc.out] at h
            exact h)
          have HOj := Lib.hid (HO2.out j)
          have HSj := Lib.hid (HS2.out j _ hv.out)
          have HNj := Lib.hid (fun h0 => HN2.out j _ c h0 hv.out hc.out)
          have HZj := Lib.hid (HZ2.out j)
          obtain ⟨q, hq⟩ : ∃ q, Hid (f2 j = q) := ⟨_, Lib.hid rfl⟩
          rw [hq.out] at HOj HSj HNj HZj Fr2 hCr2
          obtain ⟨a, a2⟩ := q
          dsimp only at HOj HSj HNj HZj Fr2 hCr2
          go_wp2_with fail
          refine (HVC.out _ (by repeat (first | with_reducible exact Below.refl _ _ | with_reducible apply bdrew | with_reducible apply bdrewN | with_reducible apply balloc | ((with_reducible refine bset ?_ ?_ _); rotate_left; (first | omega | (simp <;> omega)))))).mono ?_
          rintro e w6 ⟨rfl, hB6⟩
          have D6 := dstep w hB6 (by repeat (first | with_reducible exact hBr2 | with_reducible apply bdrew | with_reducible apply bdrewN | with_reducible apply balloc | ((with_reducible refine bset ?_ ?_ _); rotate_left; (first | omega | (simp <;> omega)))))
          have C6 := Cls.below (l := [(w.heap.size, 0, .slice AR m cr), (w.heap.size, 1, .slice AB mb cb), (w.heap.size, 2, .slice AO n co), (w.heap.size + 1, 0, .int .i64 0), (w.heap.size + 1, 1, .int .i64 0), (w1.heap.size, 0, .int .i64 a), (w1.heap.size, 1, .int .i64 a2)]) hB6 (by simp [Cls, go_sem, Fr2, yr2w1, yr2w0, yr2wp1, yr2wp2, yr2w10, yr2w1p1, yr2w1p2])
          have F6 := C6
          simp only [Cls, and_true] at F6
          have y6w1 : w.heap.size + 1 < w6.heap.size := C6.blk (b := w.heap.size + 1) (k := 0) (v := .int .i64 0) (by simp)
          have y6w0 : w.heap.size < w6.heap.size := (by omega)
          have y6wp1 : w.heap.size < w6.heap.size + 1 := (by omega)
          have y6wp2 : w.heap.size < w6.heap.size + 1 + 1 := (by omega)
          have y6w10 : w1.heap.size < w6.heap.size := C6.blk (b := w1.heap.size) (k := 0) (v := .int .i64 a) (by simp)
          have y6w1p1 : w1.heap.size < w6.heap.size + 1 := (by omega)
          have y6w1p2 : w1.heap.size < w6.heap.size + 1 + 1 := (by omega)
          by_cases ha : a = 0
          · obtain rfl : a2 = 0 := HZj.out ha
            subst ha
            by_cases hc0 : c = 0
            · have HE := Lib.hid (HSj.out (by rw [hc.out]; exact hc0))
              subst hc0
              go_wp2
              go_roundw
              case rel => exact ⟨j + 1, by omega, by go_num, (by congr 1; omega), (by repeat (first | with_reducible exact D6 | with_reducible apply bdrew | with_reducible apply bdrewN | with_reducible apply balloc | ((with_reducible refine bset ?_ ?_ _); rotate_left; (first | omega | (simp <;> omega))))), (by rw [HE.out]; simp [Cls, go_sem, F6, y6w1, y6w0, y6wp1, y6wp2, y6w10, y6w1p1, y6w1p2])⟩
              case measure => simp [intOf]; omega
            · have HE := Lib.hid (HNj.out rfl hc0)
              have hc1 : (c != 0) = true := by simpa using hc0
              go_wp2_with fail
              refine (lfault_any _ _ _).mono ?_
              rintro e w7 ⟨rfl, hB7⟩
              have D7 := dstep w hB7 (by repeat (first | with_reducible exact D6 | with_reducible apply bdrew | with_reducible apply bdrewN | with_reducible apply balloc | ((with_reducible refine bset ?_ ?_ _); rotate_left; (first | omega | (simp <;> omega)))))
              have C7 := Cls.below (l := [(w.heap.size, 0, .slice AR m cr), (w.heap.size, 1, .slice AB mb cb), (w.heap.size, 2, .slice AO n co), (w.heap.size + 1, 0, .int .i64 0), (w.heap.size + 1, 1, .int .i64 0), (w1.heap.size, 0, .int .i64 0), (w1.heap.size, 1, .int .i64 0)]) hB7 (by simp [Cls, go_sem, F6, y6w1, y6w0, y6wp1, y6wp2, y6w10, y6w1p1, y6w1p2])
              have F7 := C7
              simp only [Cls, and_true] at F7
              have y7w1 : w.heap.size + 1 < w7.heap.size := C7.blk (b := w.heap.size + 1) (k := 0) (v := .int .i64 0) (by simp)
              have y7w0 : w.heap.size < w7.heap.size := (by omega)
              have y7wp1 : w.heap.size < w7.heap.size + 1 := (by omega)
              have y7wp2 : w.heap.size < w7.heap.size + 1 + 1 := (by omega)
              have y7w10 : w1.heap.size < w7.heap.size := C7.blk (b := w1.heap.size) (k := 0) (v := .int .i64 0) (by simp)
              have y7w1p1 : w1.heap.size < w7.heap.size + 1 := (by omega)
              have y7w1p2 : w1.heap.size < w7.heap.size + 1 + 1 := (by omega)
              go_wp2
              go_roundw
              case rel => exact ⟨j + 1, by omega, by go_num, (by congr 1; omega), (by repeat (first | with_reducible exact D7 | with_reducible apply bdrew | with_reducible apply bdrewN | with_reducible apply balloc | ((with_reducible refine bset ?_ ?_ _); rotate_left; (first | omega | (simp <;> omega))))), (by rw [HE.out]; simp [Cls, go_sem, F7, y7w1, y7w0, y7wp1, y7wp2, y7w10, y7w1p1, y7w1p2])⟩
              case measure => simp [intOf]; omega
          · have HE := Lib.hid (HOj.out ha)
            have ha1 : (a == 0) = false := by simpa using ha
            go_wp2
            go_roundw
            case rel => exact ⟨j + 1, by omega, by go_num, (by congr 1; omega), (by repeat (first | with_reducible exact D6 | with_reducible apply bdrew | with_reducible apply bdrewN | with_reducible apply balloc | ((with_reducible refine bset ?_ ?_ _); rotate_left; (first | omega | (simp <;> omega))))), (by rw [HE.out]; simp [Cls, go_sem, F6, y6w1, y6w0, y6wp1, y6wp2, y6w10, y6w1p1, y6w1p2])⟩
            case measure => simp [intOf]; omega
        · obtain rfl : k2 = j := by omega
          go_wp2
          refine bodyPost_ret (v := .agg #[.int .i64 (f2 k2).1, .int .i64 (f2 k2).2]) ?_ rfl ⟨rfl, by repeat (first | with_reducible exact hBr2 | with_reducible apply bdrew | with_reducible apply bdrewN | with_reducible apply balloc | ((with_reducible refine bset ?_ ?_ _); rotate_left; (first | omega | (simp <;> omega))))⟩
          simp [results, Try.results46, go_sem, Fr2, yr2w1, yr2w0, yr2wp1, yr2wp2, yr2w10, yr2w1p1, yr2w1p2]


end Go.Proofs.Ytkepfmglljkjhaa
