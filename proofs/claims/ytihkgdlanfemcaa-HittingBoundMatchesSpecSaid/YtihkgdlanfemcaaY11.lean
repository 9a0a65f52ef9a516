/-
  hitting.best: the table, plain.
  hitting.best: the least choice that hits all sets.
  hitting.Best: the least hitting set and its cost.
-/
import Derived.Test.YtihkgdlanfemcaaY4
import Derived.Test.YtihkgdlanfemcaaY6
import Derived.Test.YtihkgdlanfemcaaY10
import Derived.Test.YtihkgdlanfemcaaY9
import Derived.Test.YtihkgdlanfemcaaY2
namespace Go.Proofs.Ytihkgdlanfemcaa
open Go.RowKit
set_option linter.unusedVariables false
set_option linter.unusedSimpArgs false

/-- The table holds the least choices. -/
structure TabC (cost : Nat → Int) (P : Nat → Nat → Prop) (N : Nat) (l : List (Int × Int)) : Prop where
  len : l.length = N
  at_ : ∀ z c u, l[z]? = some (c, u) → ∃ v : Nat, u = (v : Int) ∧ Cho cost (P z) c v
theorem TabC.congr {cost : Nat → Int} {P Q : Nat → Nat → Prop} {N : Nat} {l : List (Int × Int)} (h : TabC cost P N l) (hpq : ∀ z, z < N → ∀ v, P z v ↔ Q z v) : TabC cost Q N l :=
  ⟨h.len, fun z c u hz => by
    have hl := (List.getElem?_eq_some_iff.1 hz).1
    rw [h.len] at hl
    obtain ⟨v, e, hc⟩ := h.at_ z c u hz
    exact ⟨v, e, hc.congr (hpq z hl)⟩⟩
/-- Ahead of the first element. -/
theorem tab_start {sets : List (List Int)} {cs : List Int} {N : Nat} (hN : 0 < N) : TabC (costW cs) (TabP sets 0) N ((List.replicate N ((1000000000 : Int), (0 : Int))).set 0 (0, 0)) := by
  refine ⟨by simp, fun z c u hz => ?_⟩
  rw [List.getElem?_set] at hz
  by_cases h0 : 0 = z
  · subst h0
    rw [if_pos rfl, if_pos (by simpa using hN)] at hz
    injection hz with hz
    injection hz with e1 e2
    subst e1; subst e2
    refine ⟨0, rfl, .inl ⟨⟨by decide, HCov.zero⟩, (costW_zero cs).symm, fun v hv => .inr ⟨?_, Nat.zero_le _⟩⟩⟩
    have : v = 0 := by have := hv.1; simp at this; exact this
    rw [this]
  · rw [if_neg h0, List.getElem?_replicate] at hz
    split at hz
    · injection hz with hz
      injection hz with e1 e2
      subst e1; subst e2
      refine ⟨0, rfl, .inr ⟨rfl, rfl, fun v hv => ?_⟩⟩
      have h1 : v = 0 := by have := hv.1; simp at this; exact this
      rw [h1] at hv
      exact h0 (HCov.uniq HCov.zero hv.2)
    · cases hz
/-- A choice's numbers are small. -/
theorem cho_rng {cs : List Int} {P : Nat → Prop} {c : Int} {v e : Nat} (h : Cho (costW cs) P c v) (hP : ∀ v, P v → v < 2 ^ e) (hc : CostsIn cs) (h16 : cs.length ≤ 16) (he : e ≤ 16) : 0 ≤ c ∧ c ≤ 1000000000 ∧ (c ≠ 1000000000 → c ≤ 16000000) ∧ v < 65536 ∧ (c ≠ 1000000000 → v < 2 ^ e) ∧ (c = 1000000000 → v = 0) := by
  rcases h with h | ⟨rfl, rfl, _⟩
  · have h1 := costW_rng (M := 1000000) (by omega) hc v
    have h2 := h.eq
    have h3 : (cs.length : Int) * 1000000 ≤ 16 * 1000000 := by omega
    have h4 := hP v h.is
    have h5 : (2 : Nat) ^ e ≤ 2 ^ 16 := Nat.pow_le_pow_right (by decide) he
    have h6 : (2 : Nat) ^ 16 = 65536 := by decide
    exact ⟨by omega, by omega, fun _ => by omega, by omega, fun _ => h4, fun h => by omega⟩
  · exact ⟨by omega, by omega, fun h => absurd rfl h, by omega, fun h => absurd rfl h, fun _ => rfl⟩
section
variable {sets : List (List Int)} {cs : List Int} {e h i N : Nat} {c : Int}
theorem midP_lt {z v : Nat} (hM : MidP sets e h i z v) : v < 2 ^ (e + 1) := by
  rcases hM with h1 | ⟨v', x, h1, h2, h3, rfl⟩
  · exact Nat.lt_of_lt_of_le h1.1 (Nat.pow_le_pow_right (by decide) (by omega))
  · exact or_lt_succ h2.1
/-- A place without a choice changes nothing. -/
theorem tab_skip {l : List (Int × Int)} {w : Nat} (hM : TabC (costW cs) (MidP sets e h i) N l) (hc : cs[e]? = some c) (hT : Cho (costW cs) (TabP sets e i) 1000000000 w) (hw : w = 0) : TabC (costW cs) (MidP sets e h (i + 1)) N l :=
  ⟨hM.len, fun z cz u hz => by
    obtain ⟨v, e1, h1⟩ := hM.at_ z cz u hz
    exact ⟨v, e1, (cho_step hc hT h1 (fun h => absurd rfl h)).1 (.inr (by rintro (h | h); exact h rfl; exact h hw))⟩⟩
/-- A place with a choice: the next place is taken up or not. -/
theorem tab_keep {l : List (Int × Int)} {c0 cz : Int} {w wz : Nat} (hM : TabC (costW cs) (MidP sets e h i) N l) (hc : cs[e]? = some c) (hT : Cho (costW cs) (TabP sets e i) c0 w) (h0 : c0 ≠ 1000000000) (hlt : c0 + c < 1000000000) (hz : l[i ||| h]? = some (cz, (wz : Int))) (hno : ¬ (c0 + c < cz ∨ (c0 + c = cz ∧ w ||| 2 ^ e < wz))) : TabC (costW cs) (MidP sets e h (i + 1)) N l :=
  ⟨hM.len, fun z cz' u hz' => by
    obtain ⟨v, e1, h1⟩ := hM.at_ z cz' u hz'
    by_cases hzi : z = i ||| h
    · subst hzi
      rw [hz'] at hz
      injection hz with hz
      injection hz with e2 e3
      subst e2
      have e4 : v = wz := by omega
      subst e4
      have h2 := (cho_step hc hT h1 (fun _ => hlt)).2 rfl h0
      rw [if_neg hno, if_neg hno] at h2
      exact ⟨v, e1, h2⟩
    · exact ⟨v, e1, (cho_step hc hT h1 (fun _ => hlt)).1 (.inl hzi)⟩⟩
theorem tab_put {l : List (Int × Int)} {c0 cz : Int} {w wz : Nat} (hM : TabC (costW cs) (MidP sets e h i) N l) (hc : cs[e]? = some c) (hT : Cho (costW cs) (TabP sets e i) c0 w) (h0 : c0 ≠ 1000000000) (hlt : c0 + c < 1000000000) (hz : l[i ||| h]? = some (cz, (wz : Int))) (hyes : c0 + c < cz ∨ (c0 + c = cz ∧ w ||| 2 ^ e < wz)) : TabC (costW cs) (MidP sets e h (i + 1)) N (l.set (i ||| h) (c0 + c, ((w ||| 2 ^ e : Nat) : Int))) :=
  ⟨by rw [List.length_set]; exact hM.len, fun z cz' u hz' => by
    have hl := (List.getElem?_eq_some_iff.1 hz).1
    by_cases hzi : i ||| h = z
    · subst hzi
      rw [List.getElem?_set_self hl] at hz'
      injection hz' with hz'
      injection hz' with e2 e3
      subst e2; subst e3
      obtain ⟨v, e1, h1⟩ := hM.at_ _ _ _ hz
      have e4 : v = wz := by omega
      subst e4
      have h2 := (cho_step hc hT h1 (fun _ => hlt)).2 rfl h0
      rw [if_pos hyes, if_pos hyes] at h2
      exact ⟨_, rfl, h2⟩
    · rw [List.getElem?_set_ne hzi] at hz'
      obtain ⟨v, e1, h1⟩ := hM.at_ z cz' u hz'
      exact ⟨v, e1, (cho_step hc hT h1 (fun _ => hlt)).1 (.inl (fun h => hzi h.symm))⟩⟩
theorem tab_mid {l : List (Int × Int)} (hT : TabC (costW cs) (TabP sets e) N l) : TabC (costW cs) (MidP sets e h 0) N l := hT.congr (fun z _ v => (mid_zero v).symm)
theorem tab_next {l : List (Int × Int)} (hM : TabC (costW cs) (MidP sets e h N) N l) (hN : N = 2 ^ sets.length) (hh : HitsE sets e h) : TabC (costW cs) (TabP sets (e + 1)) N l := hM.congr (fun z _ v => by subst hN; exact mid_all hh v)
/-- The last place. -/
theorem tab_last {l : List (Int × Int)} {cz : Int} {u : Int} (hT : TabC (costW cs) (TabP sets cs.length) N l) (hN : N = 2 ^ sets.length) (hz : l[N - 1]? = some (cz, u)) : ∃ v : Nat, u = (v : Int) ∧ Cho (costW cs) (AllHit sets (2 ^ cs.length)) cz v := by
  obtain ⟨v, e1, h1⟩ := hT.at_ _ _ _ hz
  refine ⟨v, e1, h1.congr (fun x => ?_)⟩
  unfold TabP AllHit
  rw [hN, HCov.full]
end
/-- The first k sets with an element, as a word. -/
def HitsTo (sets : List (List Int)) (e k x : Nat) : Prop := ∀ i : Nat, x.testBit i = true ↔ i < k ∧ ∃ s, sets[i]? = some s ∧ (e : Int) ∈ s
theorem HitsTo.zero (sets : List (List Int)) (e : Nat) : HitsTo sets e 0 0 := fun i => by simp
theorem HitsTo.lt {sets : List (List Int)} {e k x : Nat} (h : HitsTo sets e k x) : x < 2 ^ k := by
  refine Nat.lt_pow_two_of_testBit x fun i hi => ?_
  cases hb : x.testBit i with
  | false => rfl
  | true => have := ((h i).1 hb).1; omega
theorem HitsTo.all {sets : List (List Int)} {e k x : Nat} (h : HitsTo sets e k x) (hk : sets.length ≤ k) : HitsE sets e x := fun i => by
  rw [h i]
  constructor
  · exact fun h => h.2
  · rintro ⟨s, h1, h2⟩
    have := (List.getElem?_eq_some_iff.1 h1).1
    exact ⟨by omega, s, h1, h2⟩
theorem HitsTo.yes {sets : List (List Int)} {e k x : Nat} {s : List Int} (h : HitsTo sets e k x) (hs : sets[k]? = some s) (he : (e : Int) ∈ s) : HitsTo sets e (k + 1) (x ||| 2 ^ k) := fun i => by
  rw [bit_or_pow, Bool.or_eq_true, h i, decide_eq_true_iff]
  constructor
  · rintro (⟨h1, h2⟩ | rfl)
    · exact ⟨by omega, h2⟩
    · exact ⟨by omega, s, hs, he⟩
  · rintro ⟨h1, h2⟩
    by_cases hk : k = i
    · exact .inr hk
    · exact .inl ⟨by omega, h2⟩
theorem HitsTo.no {sets : List (List Int)} {e k x : Nat} {s : List Int} (h : HitsTo sets e k x) (hs : sets[k]? = some s) (he : ¬ (e : Int) ∈ s) : HitsTo sets e (k + 1) x := fun i => by
  rw [h i]
  constructor
  · rintro ⟨h1, h2⟩
    exact ⟨by omega, h2⟩
  · rintro ⟨h1, s', h2, h3⟩
    have hk : i ≠ k := by
      rintro rfl
      rw [hs] at h2
      injection h2 with h2
      subst h2
      exact he h3
    exact ⟨by omega, s', h2, h3⟩

end Go.Proofs.Ytihkgdlanfemcaa

namespace Go.Proofs.Ytihkgdlanfemcaa
open Go.RowKit
set_option linter.unusedVariables false
set_option linter.unusedSimpArgs false

set_option maxRecDepth 100000 in
set_option maxHeartbeats 4000000 in
theorem hbest_any (w : World) (A : Option Addr) (ca : Nat) (sets : List (List Int)) (hL : LLR w A sets) (C : Option Addr) (cc : Nat) (cs : List Int) (hC : Ints w C cs) (hs16 : sets.length ≤ 16) (hc16 : cs.length ≤ 16) (hci : CostsIn cs) (hsl : ∀ s ∈ sets, s.length ≤ 9223372036854775807) :
    Calls Try.prog 92 #[.slice A sets.length ca, .slice C cs.length cc] w fun e w' => ∃ (c : Int) (v : Nat), e = .returned (.agg #[.int .i64 c, .int .i64 v]) ∧ Cho (costW cs) (AllHit sets (2 ^ cs.length)) c v ∧ Below w.heap.size w w' := by
  have HCI := Lib.hid hci
  have HSL := Lib.hid hsl
  have hpw : (2 : Nat) ^ sets.length ≤ 65536 := by
    have h1 : (2 : Nat) ^ sets.length ≤ 2 ^ 16 := Nat.pow_le_pow_right (by decide) hs16
    have h2 : (2 : Nat) ^ 16 = 65536 := by decide
    omega
  have hp1 : 1 ≤ (2 : Nat) ^ sets.length := Nat.one_le_two_pow
  have hpi : (2 : Int) ^ sets.length = ((2 ^ sets.length : Nat) : Int) := by simp
  obtain ⟨N, hN⟩ : ∃ N : Nat, (2 : Nat) ^ sets.length = N := ⟨_, rfl⟩
  rw [hN] at hpw hpi hp1
  have HN := Lib.hid hN
  have hwN : IntKind.i64.wrap (N : Int) = (N : Int) := by rw [IntKind.wrap_i64]; omega
  clear hN hci hsl
  go_enter Try.func92, Try.ntmps92
  go_wp2_with fail
  have hrep : ∀ (wx : World) (ad : Addr) (n : Nat) (hn : 1 ≤ n) (hn2 : n ≤ 65536) (hsrc : wx.cell? ad = some (.int .i64 1000000000) ∧ wx.cell? (ad.add 1) = some (.int .i64 0)), Calls Try.prog 113 #[.slice (some ad) 1 1, .int .i64 (n : Int)] wx fun e w' => ∃ g, e = .returned (.slice (some ⟨g, 0, none⟩) n n) ∧ wx.heap.size ≤ g ∧ CArr w' g (List.replicate n (1000000000, 0)) ∧ Below wx.heap.size wx w' :=
    fun wx ad n hn hn2 hsrc => repeat_any wx ad 1 n (1000000000, 0) (fun j v hv => by
      match j, hv with
      | 0, hv => simp [chs] at hv; subst hv; exact hsrc.1
      | 1, hv => simp [chs] at hv; subst hv; exact hsrc.2
      | j + 2, hv => simp [chs] at hv) hn hn2
  refine wp_region_held_drew (S := fun W => W.cell? ⟨w.heap.size + 1, 0, none⟩ = some (.int .i64 1000000000) ∧ W.cell? ⟨w.heap.size + 1, 1, none⟩ = some (.int .i64 0)) (by kernel_rfl) (by simp [go_sem]) (fun hHeld => ?_)
  refine wpAnyH_take (i := 0) (v := ?vq10) rfl (by kernel_rfl) (by kernel_rfl) (by kernel_rfl) (fun _ _ _ h => h) (Or.inl ⟨by rfl, ?hq10⟩) (by assumption) ?rq10
  case hq10 => (intro w hSw; (try dsimp only at hSw); go_simp; (try with_reducible rfl))
  try simp only [Act.put, List.getElem_toArray, List.getElem_cons_succ, List.getElem_cons_zero, List.setIfInBounds_toArray, List.set_cons_zero, List.set_cons_succ]
  refine wpAnyH_take (i := 2) (v := ?vq12) rfl (by kernel_rfl) (by kernel_rfl) (by kernel_rfl) (fun _ _ _ h => h) (Or.inl ⟨by rfl, ?hq12⟩) (by assumption) ?rq12
  case hq12 => (intro w hSw; (try dsimp only at hSw); go_simp; (try with_reducible rfl))
  try simp only [Act.put, List.getElem_toArray, List.getElem_cons_succ, List.getElem_cons_zero, List.setIfInBounds_toArray, List.set_cons_zero, List.set_cons_succ]
  refine wpAnyH_take (i := 3) (v := ?vq13) rfl (by kernel_rfl) (by kernel_rfl) (by kernel_rfl) (fun _ _ _ h => h) (Or.inl ⟨by rfl, ?hq13⟩) (by assumption) ?rq13
  case hq13 => (intro w hSw; (try dsimp only at hSw); go_simp; (try with_reducible rfl))
  try simp only [Act.put, List.getElem_toArray, List.getElem_cons_succ, List.getElem_cons_zero, List.setIfInBounds_toArray, List.set_cons_zero, List.set_cons_succ]
  refine wpAnyH_take (i := 4) (v := ?vq14) rfl (by kernel_rfl) (by kernel_rfl) (by kernel_rfl) (fun _ _ _ h => h) (Or.inl ⟨by rfl, ?hq14⟩) (by assumption) ?rq14
  case hq14 => (intro w hSw; (try dsimp only at hSw); go_simp; (try with_reducible rfl))
  try simp only [Act.put, List.getElem_toArray, List.getElem_cons_succ, List.getElem_cons_zero, List.setIfInBounds_toArray, List.set_cons_zero, List.set_cons_succ]
  refine wpAnyH_ready (rs := [1]) (by kernel_rfl) (by simp) ?_
  refine AllReadyH.cons rfl (fun K hK => ?_) AllReadyH.nil
  go_simp
  refine hK.out _ _ (by simp [go_sem]) (fun hHeld => ?_)
  clear hK K
  try simp only [Act.put, List.getElem_toArray, List.getElem_cons_succ, List.getElem_cons_zero, List.setIfInBounds_toArray, List.set_cons_zero, List.set_cons_succ]
  refine wpAnyH_ready (rs := [5]) (by kernel_rfl) (by simp) ?_
  refine AllReadyH.cons rfl (fun K hK => ?_) AllReadyH.nil
  go_simp
  refine (hrep _ _ N hp1 hpw (by simp [go_sem])).mono ?_
  rintro e w1 ⟨g, rfl, hg0, hT, hB1⟩
  have hg : w.heap.size + 1 + 1 + 1 ≤ g := by simpa using hg0
  go_wp2_with fail
  have D1 := dstep w hB1 (by repeat (first | with_reducible exact Below.refl _ _ | with_reducible apply bdrew | with_reducible apply bdrewN | with_reducible apply balloc | ((with_reducible refine bset ?_ ?_ _); rotate_left; (first | omega | (simp <;> omega)))))
  have d1s := D1.size
  have C1 := Cls.below (l := [(w.heap.size, 0, .int .i64 0), (w.heap.size, 1, .int .i64 0), (w.heap.size + 1, 0, .int .i64 1000000000), (w.heap.size + 1, 1, .int .i64 0)]) hB1 (by simp [Cls, go_sem])
  have F1 := C1
  simp only [Cls, and_true] at F1
  have y1w1 : w.heap.size + 1 < w1.heap.size := C1.blk (b := w.heap.size + 1) (k := 0) (v := .int .i64 1000000000) (by simp)
  have y1w0 : w.heap.size < w1.heap.size := (by omega)
  have y1wp1 : w.heap.size < w1.heap.size + 1 := (by omega)
  have y1wp2 : w.heap.size < w1.heap.size + 1 + 1 := (by omega)
  refine hK.out _ _ (by simp [F1]) (fun hHeld => ?_)
  clear hK K
  try simp only [Act.put, List.getElem_toArray, List.getElem_cons_succ, List.getElem_cons_zero, List.setIfInBounds_toArray, List.set_cons_zero, List.set_cons_succ]
  refine wpAnyH_take (i := 6) (v := ?vz66) rfl (by kernel_rfl) (by kernel_rfl) (by kernel_rfl) (fun _ _ _ h => h) (Or.inl ⟨by rfl, ?hz66⟩) (by assumption) ?rz66
  case hz66 => (intro w hSw; (try dsimp only at hSw); go_simp; (try with_reducible rfl))
  try simp only [Act.put, List.getElem_toArray, List.getElem_cons_succ, List.getElem_cons_zero, List.setIfInBounds_toArray, List.set_cons_zero, List.set_cons_succ]
  refine wpAnyH_done (by kernel_rfl) ?_ _
  have hTC := hT.crow
  obtain ⟨t0, t1, ht, ht0, ht1⟩ := hTC.cell (k := 0) (by simp; omega)
  have hf0 := hTC.free 0
  have hf1 := hTC.free 1
  simp only [Nat.zero_mul, Nat.zero_add] at ht0 ht1
  go_wp2_with fail
  go_loopw [6, 28] (fun tv x wr => ∃ (e g c' : Nat) (l : List (Int × Int)), e ≤ cs.length ∧ x = .int .i64 e ∧ tv = .slice (some ⟨g, 0, none⟩) N c' ∧ w.heap.size + 2 ≤ g ∧ CRow wr g l ∧ Hid (TabC (costW cs) (TabP sets e) N l) ∧ Below w.heap.size w wr ∧ Cls wr [(w.heap.size, 0, .int .i64 0), (w.heap.size, 1, .int .i64 0), (w.heap.size + 1, 0, .int .i64 1000000000), (w.heap.size + 1, 1, .int .i64 0)]) (fun _ x _ => cs.length - (intOf x).toNat)
  case atStart =>
    refine ⟨0, g, N, _, Nat.zero_le _, rfl, rfl, ?_, ?_, Lib.hid (tab_start (sets := sets) (cs := cs) hp1), (by repeat (first | with_reducible exact D1 | with_reducible apply bdrew | with_reducible apply bdrewN | with_reducible apply balloc | ((with_reducible refine bset ?_ ?_ _); rotate_left; (first | omega | (simp <;> omega))))), Cls.far (Cls.far C1 _ _ (by simp; omega)) _ _ (by simp; omega)⟩
    · omega
    · have h := CRow.set_ hTC 0 0 0
      simpa using h
  case round =>
    obtain ⟨e, g2, c2, l, he, rfl, rfl, hg2, hrow, htab, hBr, hCr⟩ := hrel
    obtain ⟨w2, rfl⟩ : ∃ wo : World, wo = wr := ⟨_, rfl⟩
    clear hTC ht ht0 ht1 hf0 hf1 hT
    have drs := hBr.size
    have Fr := hCr
    simp only [Cls, and_true] at Fr
    have yrw1 : w.heap.size + 1 < w2.heap.size := hCr.blk (b := w.heap.size + 1) (k := 0) (v := .int .i64 1000000000) (by simp)
    have yrw0 : w.heap.size < w2.heap.size := (by omega)
    have yrwp1 : w.heap.size < w2.heap.size + 1 := (by omega)
    have yrwp2 : w.heap.size < w2.heap.size + 1 + 1 := (by omega)
    have HLEN := Lib.hid htab.out.len
    by_cases hlt : e < cs.length
    · obtain ⟨ad, c, rfl, hc, hcc⟩ := (hC.below hBr).at_ hlt
      have hcr := HCI.out c (List.mem_of_getElem? hc.out)
      have he16 : e < 16 := by omega
      go_wp2_with fail
      go_loopw [9, 35] (fun hv x wr => ∃ k hb : Nat, k ≤ sets.length ∧ x = .int .i64 k ∧ hv = .int .i64 hb ∧ Hid (HitsTo sets e k hb) ∧ w2 = wr) (fun _ x _ => sets.length - (intOf x).toNat)
      case atStart => exact ⟨0, 0, Nat.zero_le _, rfl, rfl, Lib.hid (HitsTo.zero sets e), rfl⟩
      case round =>
        obtain ⟨k, hb, hk, rfl, rfl, hhits, rfl⟩ := hrel
        have hbl := hhits.out.lt
        have hk16 : (2 : Nat) ^ k ≤ 2 ^ 16 := Nat.pow_le_pow_right (by decide) (by omega)
        have e16 : (2 : Nat) ^ 16 = 65536 := by decide
        by_cases hlt2 : k < sets.length
        · obtain ⟨ad2, s, B2, c3, rfl, hs, hsc, hI⟩ := (hL.below hBr).at_ hlt2
          have hsl := HSL.out s (List.mem_of_getElem? hs.out)
          obtain ⟨P, hP⟩ : ∃ P : Nat, (2 : Nat) ^ k = P := ⟨_, rfl⟩
          have hpk : (2 : Int) ^ k = (P : Int) := by rw [← hP]; simp
          rw [hP] at hk16 hbl
          have hwP : IntKind.i64.wrap (P : Int) = (P : Int) := by rw [IntKind.wrap_i64]; omega
          have hor := or64 hb P (by omega) (by omega)
          by_cases hm : (e : Int) ∈ s
          · have HNX := Lib.hid (show HitsTo sets e (k + 1) (hb ||| P) by rw [← hP]; exact hhits.out.yes hs.out hm)
            clear hP e16
            go_wp2_with fail
            refine (contains_v _ _ _ _ _ true hI hsl (decide_eq_true hm)).mono ?_
            rintro e' w' ⟨rfl, rfl⟩
            go_wp2_with fail
            go_roundw
            case rel => exact ⟨k + 1, hb ||| P, by omega, by go_num, rfl, HNX, (by first | trivial | rfl)⟩
            case measure => simp [intOf]; omega
          · have HNX := Lib.hid (show HitsTo sets e (k + 1) hb from hhits.out.no hs.out hm)
            clear hP e16
            go_wp2_with fail
            refine (contains_v _ _ _ _ _ false hI hsl (decide_eq_false hm)).mono ?_
            rintro e' w' ⟨rfl, rfl⟩
            go_wp2_with fail
            go_roundw
            case rel => exact ⟨k + 1, hb, by omega, by go_num, rfl, HNX, (by first | trivial | rfl)⟩
            case measure => simp [intOf]; omega
        · have HH := Lib.hid (hhits.out.all (by omega))
          have hbN : hb < N := by
            have h1 : (2 : Nat) ^ k = N := by rw [show k = sets.length by omega]; exact HN.out
            omega
          go_wp2_with fail
          refine (clonech_any _ g2 N c2 l hrow HLEN.out hp1 hpw).mono ?_
          rintro e' w3 ⟨g3, c3, rfl, hg3, hrow3, hB3⟩
          have D3 := dstep w hB3 (by repeat (first | with_reducible exact hBr | with_reducible apply bdrew | with_reducible apply bdrewN | with_reducible apply balloc | ((with_reducible refine bset ?_ ?_ _); rotate_left; (first | omega | (simp <;> omega)))))
          have d3s := D3.size
          have C3 := Cls.below (l := [(w.heap.size, 0, .int .i64 0), (w.heap.size, 1, .int .i64 0), (w.heap.size + 1, 0, .int .i64 1000000000), (w.heap.size + 1, 1, .int .i64 0)]) hB3 (by simp [Cls, go_sem, Fr, yrw1, yrw0, yrwp1, yrwp2])
          have F3 := C3
          simp only [Cls, and_true] at F3
          have y3w1 : w.heap.size + 1 < w3.heap.size := C3.blk (b := w.heap.size + 1) (k := 0) (v := .int .i64 1000000000) (by simp)
          have y3w0 : w.heap.size < w3.heap.size := (by omega)
          have y3wp1 : w.heap.size < w3.heap.size + 1 := (by omega)
          have y3wp2 : w.heap.size < w3.heap.size + 1 + 1 := (by omega)
          have hrow2 := hrow.below hB3
          have hg23 : g2 ≠ g3 := by have := hrow.lt; omega
          go_wp2_with fail
          go_loopw [52] (fun x wr => ∃ (i : Nat) (l2 : List (Int × Int)), i ≤ N ∧ x = .int .i64 i ∧ CRow wr g2 l ∧ CRow wr g3 l2 ∧ Hid (TabC (costW cs) (MidP sets e hb i) N l2) ∧ Below w.heap.size w wr ∧ Cls wr [(w.heap.size, 0, .int .i64 0), (w.heap.size, 1, .int .i64 0), (w.heap.size + 1, 0, .int .i64 1000000000), (w.heap.size + 1, 1, .int .i64 0)]) (fun x _ => N - (intOf x).toNat)
          case atStart => exact ⟨0, l, Nat.zero_le _, rfl, hrow2, hrow3, Lib.hid (tab_mid htab.out), D3, C3⟩
          case round =>
            obtain ⟨i, l2, hi, rfl, hr2, hr3, hmid, hBq, hCq⟩ := hrel
            obtain ⟨w4, rfl⟩ : ∃ wo : World, wo = wr := ⟨_, rfl⟩
            have dqs := hBq.size
            have Fq := hCq
            simp only [Cls, and_true] at Fq
            have yqw1 : w.heap.size + 1 < w4.heap.size := hCq.blk (b := w.heap.size + 1) (k := 0) (v := .int .i64 1000000000) (by simp)
            have yqw0 : w.heap.size < w4.heap.size := (by omega)
            have yqwp1 : w.heap.size < w4.heap.size + 1 := (by omega)
            have yqwp2 : w.heap.size < w4.heap.size + 1 + 1 := (by omega)
            have hg3b : w.heap.size + 1 < g3 := by omega
            by_cases hlt3 : i < N
            · obtain ⟨c0, v0, hl0, hc0, hc1⟩ := hr2.cell (k := i) (by rw [HLEN.out]; exact hlt3)
              obtain ⟨v, rfl, hcho⟩ := htab.out.at_ i c0 v0 hl0.out
              have HCHO := Lib.hid hcho
              obtain ⟨r1, r2, r3, r4, r5, r6⟩ := cho_rng hcho (e := e) (fun v hv => hv.1) HCI.out hc16 (by omega)
              clear hcho
              have hpe : (2 : Nat) ^ e ≤ 2 ^ 15 := Nat.pow_le_pow_right (by decide) (by omega)
              have e15 : (2 : Nat) ^ 15 = 32768 := by decide
              obtain ⟨P, hP⟩ : ∃ P : Nat, (2 : Nat) ^ e = P := ⟨_, rfl⟩
              have hpk : (2 : Int) ^ e = (P : Int) := by rw [← hP]; simp
              rw [hP] at hpe
              have HP := Lib.hid hP
              have hwP : IntKind.i64.wrap (P : Int) = (P : Int) := by rw [IntKind.wrap_i64]; omega
              have hwc : IntKind.i64.wrap (c0 + c) = c0 + c := by rw [IntKind.wrap_i64]; omega
              have hor := or64 v P (by omega) (by omega)
              clear hP e15
              go_wp2_with fail
              refine wp_region_held_drew (S := fun W => W.cell? ⟨w4.heap.size, 0, none⟩ = some (.int .i64 c0) ∧ W.cell? ⟨w4.heap.size, 1, none⟩ = some (.int .i64 v)) (by kernel_rfl) (by simp [go_sem]) (fun hHeld => ?_)
              refine wpAnyH_take (i := 0) (v := ?vq20) rfl (by kernel_rfl) (by kernel_rfl) (by kernel_rfl) (fun _ _ _ h => h) (Or.inl ⟨by rfl, ?hq20⟩) (by assumption) ?rq20
              case hq20 => (intro w hSw; (try dsimp only at hSw); go_simp; (try with_reducible rfl))
              try simp only [Act.put, List.getElem_toArray, List.getElem_cons_succ, List.getElem_cons_zero, List.setIfInBounds_toArray, List.set_cons_zero, List.set_cons_succ]
              refine wpAnyH_take (i := 1) (v := ?vq21) rfl (by kernel_rfl) (by kernel_rfl) (by kernel_rfl) (fun _ _ _ h => h) (Or.inl ⟨by rfl, ?hq21⟩) (by assumption) ?rq21
              case hq21 => (intro w hSw; (try dsimp only at hSw); go_simp; (try with_reducible rfl))
              try simp only [Act.put, List.getElem_toArray, List.getElem_cons_succ, List.getElem_cons_zero, List.setIfInBounds_toArray, List.set_cons_zero, List.set_cons_succ]
              refine wpAnyH_take (i := 2) (v := ?vq22) rfl (by kernel_rfl) (by kernel_rfl) (by kernel_rfl) (fun _ _ _ h => h) (Or.inl ⟨by rfl, ?hq22⟩) (by assumption) ?rq22
              case hq22 => (intro w hSw; (try dsimp only at hSw); go_simp; (try with_reducible rfl))
              try simp only [Act.put, List.getElem_toArray, List.getElem_cons_succ, List.getElem_cons_zero, List.setIfInBounds_toArray, List.set_cons_zero, List.set_cons_succ]
              refine wpAnyH_take (i := 3) (v := ?vq23) rfl (by kernel_rfl) (by kernel_rfl) (by kernel_rfl) (fun _ _ _ h => h) (Or.inl ⟨by rfl, ?hq23⟩) (by assumption) ?rq23
              case hq23 => (intro w hSw; (try dsimp only at hSw); go_simp; (try with_reducible rfl))
              try simp only [Act.put, List.getElem_toArray, List.getElem_cons_succ, List.getElem_cons_zero, List.setIfInBounds_toArray, List.set_cons_zero, List.set_cons_succ]
              refine wpAnyH_take (i := 4) (v := ?vq24) rfl (by kernel_rfl) (by kernel_rfl) (by kernel_rfl) (fun _ _ _ h => h) (Or.inl ⟨by rfl, ?hq24⟩) (by assumption) ?rq24
              case hq24 => (intro w hSw; (try dsimp only at hSw); go_simp; (try with_reducible rfl))
              try simp only [Act.put, List.getElem_toArray, List.getElem_cons_succ, List.getElem_cons_zero, List.setIfInBounds_toArray, List.set_cons_zero, List.set_cons_succ]
              refine wpAnyH_take (i := 5) (v := ?vq25) rfl (by kernel_rfl) (by kernel_rfl) (by kernel_rfl) (fun _ _ _ h => h) (Or.inl ⟨by rfl, ?hq25⟩) (by assumption) ?rq25
              case hq25 => (intro w hSw; (try dsimp only at hSw); go_simp; (try with_reducible rfl))
              try simp only [Act.put, List.getElem_toArray, List.getElem_cons_succ, List.getElem_cons_zero, List.setIfInBounds_toArray, List.set_cons_zero, List.set_cons_succ]
              refine wpAnyH_take (i := 6) (v := ?vq26) rfl (by kernel_rfl) (by kernel_rfl) (by kernel_rfl) (fun _ _ _ h => h) (Or.inl ⟨by rfl, ?hq26⟩) (by assumption) ?rq26
              case hq26 => (intro w hSw; (try dsimp only at hSw); go_simp; (try with_reducible rfl))
              try simp only [Act.put, List.getElem_toArray, List.getElem_cons_succ, List.getElem_cons_zero, List.setIfInBounds_toArray, List.set_cons_zero, List.set_cons_succ]
              refine wpAnyH_take (i := 7) (v := ?vq27) rfl (by kernel_rfl) (by kernel_rfl) (by kernel_rfl) (fun _ _ _ h => h) (Or.inl ⟨by rfl, ?hq27⟩) (by assumption) ?rq27
              case hq27 => (intro w hSw; (try dsimp only at hSw); go_simp; (try with_reducible rfl))
              try simp only [Act.put, List.getElem_toArray, List.getElem_cons_succ, List.getElem_cons_zero, List.setIfInBounds_toArray, List.set_cons_zero, List.set_cons_succ]
              refine wpAnyH_take (i := 8) (v := ?vq28) rfl (by kernel_rfl) (by kernel_rfl) (by kernel_rfl) (fun _ _ _ h => h) (Or.inl ⟨by rfl, ?hq28⟩) (by assumption) ?rq28
              case hq28 => (intro w hSw; (try dsimp only at hSw); go_simp; (try with_reducible rfl))
              try simp only [Act.put, List.getElem_toArray, List.getElem_cons_succ, List.getElem_cons_zero, List.setIfInBounds_toArray, List.set_cons_zero, List.set_cons_succ]
              refine wpAnyH_take (i := 9) (v := ?vq29) rfl (by kernel_rfl) (by kernel_rfl) (by kernel_rfl) (fun _ _ _ h => h) (Or.inl ⟨by rfl, ?hq29⟩) (by assumption) ?rq29
              case hq29 => (intro w hSw; (try dsimp only at hSw); go_simp; (try with_reducible rfl))
              try simp only [Act.put, List.getElem_toArray, List.getElem_cons_succ, List.getElem_cons_zero, List.setIfInBounds_toArray, List.set_cons_zero, List.set_cons_succ]
              refine wpAnyH_ready (rs := [10]) (by kernel_rfl) (by simp) ?_
              refine AllReadyH.cons rfl (fun K hK => ?_) AllReadyH.nil
              go_simp
              refine hK.out _ _ (by simp [go_sem]) (fun hHeld => ?_)
              clear hK K
              try simp only [Act.put, List.getElem_toArray, List.getElem_cons_succ, List.getElem_cons_zero, List.setIfInBounds_toArray, List.set_cons_zero, List.set_cons_succ]
              refine wpAnyH_ready (rs := [11]) (by kernel_rfl) (by simp) ?_
              refine AllReadyH.cons rfl (fun K hK => ?_) AllReadyH.nil
              go_simp
              refine hK.out _ _ (by simp [go_sem]) (fun hHeld => ?_)
              clear hK K
              try simp only [Act.put, List.getElem_toArray, List.getElem_cons_succ, List.getElem_cons_zero, List.setIfInBounds_toArray, List.set_cons_zero, List.set_cons_succ]
              refine wpAnyH_done (by kernel_rfl) ?_ _
              have hz : i ||| hb < N := by rw [← HN.out]; exact Nat.or_lt_two_pow (by rw [HN.out]; exact hlt3) (by rw [HN.out]; exact hbN)
              have hoz := or64 i hb (by omega) (by omega)
              obtain ⟨cz, wz0, hlz, hz0, hz1⟩ := hr3.cell (k := i ||| hb) (by rw [hmid.out.len]; exact hz)
              obtain ⟨wz, rfl, hchz⟩ := hmid.out.at_ _ cz wz0 hlz.out
              have hcz := cho_rng hchz (e := e + 1) (fun v hv => midP_lt hv) HCI.out hc16 (by omega)
              obtain ⟨z, hze⟩ : ∃ z, i ||| hb = z := ⟨_, rfl⟩
              rw [hze] at hz hoz hz0 hz1
              have HZE := Lib.hid hze
              have hfz0 := hr3.free (z * 2)
              have hfz1 := hr3.free (z * 2 + 1)
              have hgl3 := hr3.lt
              have hgl2 := hr2.lt
              have hgl3a : g3 < w4.heap.size + 1 := by omega
              have HCHZ := Lib.hid hchz
              clear hze hchz
              by_cases h0 : c0 = 1000000000
              · subst h0
                have hv0 : v = 0 := r6 rfl
                subst hv0
                have HNX := Lib.hid (tab_skip hmid.out hc.out HCHO.out rfl)
                go_wp2_with fail
                refine wp_region_held_drew (S := fun W => W.cell? ⟨w4.heap.size, 0, none⟩ = some (.int .i64 1000000000) ∧ W.cell? ⟨w4.heap.size, 1, none⟩ = some (.int .i64 0) ∧ W.cell? ⟨w.heap.size + 1, 0, none⟩ = some (.int .i64 1000000000) ∧ W.cell? ⟨w.heap.size + 1, 1, none⟩ = some (.int .i64 0)) (by kernel_rfl) (by simp [go_sem, Fq, yqw1, yqw0, yqwp1, yqwp2]) (fun hHeld => ?_)
                refine wpAnyH_take (i := 0) (v := ?vq30) rfl (by kernel_rfl) (by kernel_rfl) (by kernel_rfl) (fun _ _ _ h => h) (Or.inl ⟨by rfl, ?hq30⟩) (by assumption) ?rq30
                case hq30 => (intro w hSw; (try dsimp only at hSw); go_simp; (try with_reducible rfl))
                try simp only [Act.put, List.getElem_toArray, List.getElem_cons_succ, List.getElem_cons_zero, List.setIfInBounds_toArray, List.set_cons_zero, List.set_cons_succ]
                refine wpAnyH_take (i := 1) (v := ?vq31) rfl (by kernel_rfl) (by kernel_rfl) (by kernel_rfl) (fun _ _ _ h => h) (Or.inl ⟨by rfl, ?hq31⟩) (by assumption) ?rq31
                case hq31 => (intro w hSw; (try dsimp only at hSw); go_simp; (try with_reducible rfl))
                try simp only [Act.put, List.getElem_toArray, List.getElem_cons_succ, List.getElem_cons_zero, List.setIfInBounds_toArray, List.set_cons_zero, List.set_cons_succ]
                refine wpAnyH_take (i := 2) (v := ?vq32) rfl (by kernel_rfl) (by kernel_rfl) (by kernel_rfl) (fun _ _ _ h => h) (Or.inl ⟨by rfl, ?hq32⟩) (by assumption) ?rq32
                case hq32 => (intro w hSw; (try dsimp only at hSw); go_simp; (try with_reducible rfl))
                try simp only [Act.put, List.getElem_toArray, List.getElem_cons_succ, List.getElem_cons_zero, List.setIfInBounds_toArray, List.set_cons_zero, List.set_cons_succ]
                refine wpAnyH_take (i := 3) (v := ?vq33) rfl (by kernel_rfl) (by kernel_rfl) (by kernel_rfl) (fun _ _ _ h => h) (Or.inl ⟨by rfl, ?hq33⟩) (by assumption) ?rq33
                case hq33 => (intro w hSw; (try dsimp only at hSw); go_simp; (try with_reducible rfl))
                try simp only [Act.put, List.getElem_toArray, List.getElem_cons_succ, List.getElem_cons_zero, List.setIfInBounds_toArray, List.set_cons_zero, List.set_cons_succ]
                refine wpAnyH_take (i := 4) (v := undef) rfl (by kernel_rfl) (by kernel_rfl) (by kernel_rfl) (fun _ _ _ h => h) (Or.inr ⟨?wq34, rfl⟩) (by assumption) ?rq34
                case wq34 => simp [Region.wanted, yielded]
                try simp only [Act.put, List.getElem_toArray, List.getElem_cons_succ, List.getElem_cons_zero, List.setIfInBounds_toArray, List.set_cons_zero, List.set_cons_succ]
                refine wpAnyH_take (i := 5) (v := undef) rfl (by kernel_rfl) (by kernel_rfl) (by kernel_rfl) (fun _ _ _ h => h) (Or.inr ⟨?wq35, rfl⟩) (by assumption) ?rq35
                case wq35 => simp [Region.wanted, yielded]
                try simp only [Act.put, List.getElem_toArray, List.getElem_cons_succ, List.getElem_cons_zero, List.setIfInBounds_toArray, List.set_cons_zero, List.set_cons_succ]
                refine wpAnyH_take (i := 6) (v := undef) rfl (by kernel_rfl) (by kernel_rfl) (by kernel_rfl) (fun _ _ _ h => h) (Or.inr ⟨?wq36, rfl⟩) (by assumption) ?rq36
                case wq36 => simp [Region.wanted, yielded]
                try simp only [Act.put, List.getElem_toArray, List.getElem_cons_succ, List.getElem_cons_zero, List.setIfInBounds_toArray, List.set_cons_zero, List.set_cons_succ]
                refine wpAnyH_take (i := 7) (v := undef) rfl (by kernel_rfl) (by kernel_rfl) (by kernel_rfl) (fun _ _ _ h => h) (Or.inr ⟨?wq37, rfl⟩) (by assumption) ?rq37
                case wq37 => simp [Region.wanted, yielded]
                try simp only [Act.put, List.getElem_toArray, List.getElem_cons_succ, List.getElem_cons_zero, List.setIfInBounds_toArray, List.set_cons_zero, List.set_cons_succ]
                refine wpAnyH_take (i := 8) (v := undef) rfl (by kernel_rfl) (by kernel_rfl) (by kernel_rfl) (fun _ _ _ h => h) (Or.inr ⟨?wq38, rfl⟩) (by assumption) ?rq38
                case wq38 => simp [Region.wanted, yielded]
                try simp only [Act.put, List.getElem_toArray, List.getElem_cons_succ, List.getElem_cons_zero, List.setIfInBounds_toArray, List.set_cons_zero, List.set_cons_succ]
                refine wpAnyH_take (i := 9) (v := undef) rfl (by kernel_rfl) (by kernel_rfl) (by kernel_rfl) (fun _ _ _ h => h) (Or.inr ⟨?wq39, rfl⟩) (by assumption) ?rq39
                case wq39 => simp [Region.wanted, yielded]
                try simp only [Act.put, List.getElem_toArray, List.getElem_cons_succ, List.getElem_cons_zero, List.setIfInBounds_toArray, List.set_cons_zero, List.set_cons_succ]
                refine wpAnyH_take (i := 10) (v := undef) rfl (by kernel_rfl) (by kernel_rfl) (by kernel_rfl) (fun _ _ _ h => h) (Or.inr ⟨?wq310, rfl⟩) (by assumption) ?rq310
                case wq310 => simp [Region.wanted, yielded]
                try simp only [Act.put, List.getElem_toArray, List.getElem_cons_succ, List.getElem_cons_zero, List.setIfInBounds_toArray, List.set_cons_zero, List.set_cons_succ]
                refine wpAnyH_take (i := 11) (v := undef) rfl (by kernel_rfl) (by kernel_rfl) (by kernel_rfl) (fun _ _ _ h => h) (Or.inr ⟨?wq311, rfl⟩) (by assumption) ?rq311
                case wq311 => simp [Region.wanted, yielded]
                try simp only [Act.put, List.getElem_toArray, List.getElem_cons_succ, List.getElem_cons_zero, List.setIfInBounds_toArray, List.set_cons_zero, List.set_cons_succ]
                refine wpAnyH_take (i := 12) (v := ?vq312) rfl (by kernel_rfl) (by kernel_rfl) (by kernel_rfl) (fun _ _ _ h => h) (Or.inl ⟨by rfl, ?hq312⟩) (by assumption) ?rq312
                case hq312 => (intro w hSw; (try dsimp only at hSw); go_simp; (try with_reducible rfl))
                try simp only [Act.put, List.getElem_toArray, List.getElem_cons_succ, List.getElem_cons_zero, List.setIfInBounds_toArray, List.set_cons_zero, List.set_cons_succ]
                refine wpAnyH_done (by kernel_rfl) ?_ _
                go_wp2_with fail
                go_roundw
                case rel => exact ⟨i + 1, l2, by omega, by go_num, hr2.below (by repeat (first | with_reducible exact Below.refl _ _ | with_reducible apply bdrew | with_reducible apply bdrewN | with_reducible apply balloc | ((with_reducible refine bset ?_ ?_ _); rotate_left; (first | omega | (simp <;> omega))))), hr3.below (by repeat (first | with_reducible exact Below.refl _ _ | with_reducible apply bdrew | with_reducible apply bdrewN | with_reducible apply balloc | ((with_reducible refine bset ?_ ?_ _); rotate_left; (first | omega | (simp <;> omega))))), HNX, (by repeat (first | with_reducible exact hBq | with_reducible apply bdrew | with_reducible apply bdrewN | with_reducible apply balloc | ((with_reducible refine bset ?_ ?_ _); rotate_left; (first | omega | (simp <;> omega))))), (by simp [Cls, go_sem, Fq, yqw1, yqw0, yqwp1, yqwp2])⟩
                case measure => simp [intOf]; omega
              · have h0' : (c0 == 1000000000) = false := by simpa using h0
                have hlt4 : c0 + c < 1000000000 := by have := r3 h0; omega
                by_cases hle : c0 + c < cz ∨ (c0 + c = cz ∧ ((v ||| P : Nat) : Int) < (wz : Int))
                · have hless : ∀ wx : World, Calls Try.prog 116 #[.agg #[.int .i64 (c0 + c), .int .i64 ((v ||| P : Nat) : Int)], .agg #[.int .i64 cz, .int .i64 wz]] wx fun e w' => e = .returned (.bool true) ∧ Below wx.heap.size wx w' := fun wx => by
                    have h := hless_any wx (c0 + c) ((v ||| P : Nat) : Int) cz wz
                    rw [decide_eq_true hle] at h
                    exact h
                  have HNX := Lib.hid (show TabC (costW cs) (MidP sets e hb (i + 1)) N (l2.set z (c0 + c, ((v ||| P : Nat) : Int))) by
                    rw [← HZE.out, ← HP.out]
                    exact tab_put hmid.out hc.out HCHO.out h0 hlt4 hlz.out (by rw [HP.out]; omega))
                  clear hle
                  go_wp2_with fail
                  refine wp_region_held_drew (S := fun W => W.cell? ⟨w4.heap.size, 0, none⟩ = some (.int .i64 c0) ∧ W.cell? ⟨w4.heap.size, 1, none⟩ = some (.int .i64 v) ∧ W.cell? ⟨w.heap.size + 1, 0, none⟩ = some (.int .i64 1000000000) ∧ W.cell? ⟨w.heap.size + 1, 1, none⟩ = some (.int .i64 0) ∧ W.cell? ⟨w4.heap.size + 1, 0, none⟩ = some (.int .i64 (c0 + c)) ∧ W.cell? ⟨w4.heap.size + 1, 1, none⟩ = some (.int .i64 ((v ||| P : Nat) : Int)) ∧ W.cell? ⟨g3, z * 2, none⟩ = some (.int .i64 cz) ∧ W.cell? ⟨g3, z * 2 + 1, none⟩ = some (.int .i64 wz)) (by kernel_rfl) (by simp [go_sem, Fq, yqw1, yqw0, yqwp1, yqwp2, hz0, hz1, hgl3, hgl3a]) (fun hHeld => ?_)
                  refine wpAnyH_take (i := 0) (v := ?vq50) rfl (by kernel_rfl) (by kernel_rfl) (by kernel_rfl) (fun _ _ _ h => h) (Or.inl ⟨by rfl, ?hq50⟩) (by assumption) ?rq50
                  case hq50 => (intro w hSw; (try dsimp only at hSw); go_simp; (try with_reducible rfl))
                  try simp only [Act.put, List.getElem_toArray, List.getElem_cons_succ, List.getElem_cons_zero, List.setIfInBounds_toArray, List.set_cons_zero, List.set_cons_succ]
                  refine wpAnyH_take (i := 1) (v := ?vq51) rfl (by kernel_rfl) (by kernel_rfl) (by kernel_rfl) (fun _ _ _ h => h) (Or.inl ⟨by rfl, ?hq51⟩) (by assumption) ?rq51
                  case hq51 => (intro w hSw; (try dsimp only at hSw); go_simp; (try with_reducible rfl))
                  try simp only [Act.put, List.getElem_toArray, List.getElem_cons_succ, List.getElem_cons_zero, List.setIfInBounds_toArray, List.set_cons_zero, List.set_cons_succ]
                  refine wpAnyH_take (i := 2) (v := ?vq52) rfl (by kernel_rfl) (by kernel_rfl) (by kernel_rfl) (fun _ _ _ h => h) (Or.inl ⟨by rfl, ?hq52⟩) (by assumption) ?rq52
                  case hq52 => (intro w hSw; (try dsimp only at hSw); go_simp; (try with_reducible rfl))
                  try simp only [Act.put, List.getElem_toArray, List.getElem_cons_succ, List.getElem_cons_zero, List.setIfInBounds_toArray, List.set_cons_zero, List.set_cons_succ]
                  refine wpAnyH_take (i := 3) (v := ?vq53) rfl (by kernel_rfl) (by kernel_rfl) (by kernel_rfl) (fun _ _ _ h => h) (Or.inl ⟨by rfl, ?hq53⟩) (by assumption) ?rq53
                  case hq53 => (intro w hSw; (try dsimp only at hSw); go_simp; (try with_reducible rfl))
                  try simp only [Act.put, List.getElem_toArray, List.getElem_cons_succ, List.getElem_cons_zero, List.setIfInBounds_toArray, List.set_cons_zero, List.set_cons_succ]
                  refine wpAnyH_take (i := 4) (v := ?vq54) rfl (by kernel_rfl) (by kernel_rfl) (by kernel_rfl) (fun _ _ _ h => h) (Or.inl ⟨?wq54, ?hq54⟩) (by assumption) ?rq54
                  case wq54 => simp [Region.wanted, yielded]
                  case hq54 => (intro w hSw; (try dsimp only at hSw); go_simp; (try with_reducible rfl))
                  try simp only [Act.put, List.getElem_toArray, List.getElem_cons_succ, List.getElem_cons_zero, List.setIfInBounds_toArray, List.set_cons_zero, List.set_cons_succ]
                  refine wpAnyH_take (i := 5) (v := ?vq55) rfl (by kernel_rfl) (by kernel_rfl) (by kernel_rfl) (fun _ _ _ h => h) (Or.inl ⟨?wq55, ?hq55⟩) (by assumption) ?rq55
                  case wq55 => simp [Region.wanted, yielded]
                  case hq55 => (intro w hSw; (try dsimp only at hSw); go_simp; (try with_reducible rfl))
                  try simp only [Act.put, List.getElem_toArray, List.getElem_cons_succ, List.getElem_cons_zero, List.setIfInBounds_toArray, List.set_cons_zero, List.set_cons_succ]
                  refine wpAnyH_take (i := 6) (v := ?vq56) rfl (by kernel_rfl) (by kernel_rfl) (by kernel_rfl) (fun _ _ _ h => h) (Or.inl ⟨?wq56, ?hq56⟩) (by assumption) ?rq56
                  case wq56 => simp [Region.wanted, yielded]
                  case hq56 => (intro w hSw; (try dsimp only at hSw); go_simp; (try with_reducible rfl))
                  try simp only [Act.put, List.getElem_toArray, List.getElem_cons_succ, List.getElem_cons_zero, List.setIfInBounds_toArray, List.set_cons_zero, List.set_cons_succ]
                  refine wpAnyH_take (i := 7) (v := ?vq57) rfl (by kernel_rfl) (by kernel_rfl) (by kernel_rfl) (fun _ _ _ h => h) (Or.inl ⟨?wq57, ?hq57⟩) (by assumption) ?rq57
                  case wq57 => simp [Region.wanted, yielded]
                  case hq57 => (intro w hSw; (try dsimp only at hSw); go_simp; (try with_reducible rfl))
                  try simp only [Act.put, List.getElem_toArray, List.getElem_cons_succ, List.getElem_cons_zero, List.setIfInBounds_toArray, List.set_cons_zero, List.set_cons_succ]
                  refine wpAnyH_take (i := 8) (v := ?vq58) rfl (by kernel_rfl) (by kernel_rfl) (by kernel_rfl) (fun _ _ _ h => h) (Or.inl ⟨?wq58, ?hq58⟩) (by assumption) ?rq58
                  case wq58 => simp [Region.wanted, yielded]
                  case hq58 => (intro w hSw; (try dsimp only at hSw); go_simp; (try with_reducible rfl))
                  try simp only [Act.put, List.getElem_toArray, List.getElem_cons_succ, List.getElem_cons_zero, List.setIfInBounds_toArray, List.set_cons_zero, List.set_cons_succ]
                  refine wpAnyH_take (i := 9) (v := ?vq59) rfl (by kernel_rfl) (by kernel_rfl) (by kernel_rfl) (fun _ _ _ h => h) (Or.inl ⟨?wq59, ?hq59⟩) (by assumption) ?rq59
                  case wq59 => simp [Region.wanted, yielded]
                  case hq59 => (intro w hSw; (try dsimp only at hSw); go_simp; (try with_reducible rfl))
                  try simp only [Act.put, List.getElem_toArray, List.getElem_cons_succ, List.getElem_cons_zero, List.setIfInBounds_toArray, List.set_cons_zero, List.set_cons_succ]
                  refine wpAnyH_take (i := 10) (v := ?vq510) rfl (by kernel_rfl) (by kernel_rfl) (by kernel_rfl) (fun _ _ _ h => h) (Or.inl ⟨?wq510, ?hq510⟩) (by assumption) ?rq510
                  case wq510 => simp [Region.wanted, yielded]
                  case hq510 => (intro w hSw; (try dsimp only at hSw); go_simp; (try with_reducible rfl))
                  try simp only [Act.put, List.getElem_toArray, List.getElem_cons_succ, List.getElem_cons_zero, List.setIfInBounds_toArray, List.set_cons_zero, List.set_cons_succ]
                  refine wpAnyH_ready (rs := [11]) (by kernel_rfl) (by simp) ?_
                  refine AllReadyH.cons rfl (fun K hK => ?_) AllReadyH.nil
                  go_simp
                  refine (hless _).mono ?_
                  rintro e' w5 ⟨rfl, hB5⟩
                  have E5 := dstep w4 hB5 (by repeat (first | with_reducible exact Below.refl _ _ | with_reducible apply bdrew | with_reducible apply bdrewN | with_reducible apply balloc | ((with_reducible refine bset ?_ ?_ _); rotate_left; (first | omega | (simp <;> omega)))))
                  have D5 := dstep w hB5 (by repeat (first | with_reducible exact hBq | with_reducible apply bdrew | with_reducible apply bdrewN | with_reducible apply balloc | ((with_reducible refine bset ?_ ?_ _); rotate_left; (first | omega | (simp <;> omega)))))
                  have d5s := D5.size
                  have C5 := Cls.below (l := [(w.heap.size, 0, .int .i64 0), (w.heap.size, 1, .int .i64 0), (w.heap.size + 1, 0, .int .i64 1000000000), (w.heap.size + 1, 1, .int .i64 0), (w4.heap.size, 0, .int .i64 c0), (w4.heap.size, 1, .int .i64 v), (w4.heap.size + 1, 0, .int .i64 (c0 + c)), (w4.heap.size + 1, 1, .int .i64 (((v ||| P : Nat) : Int)))]) hB5 (by simp [Cls, go_sem, Fq, yqw1, yqw0, yqwp1, yqwp2])
                  have F5 := C5
                  simp only [Cls, and_true] at F5
                  have y5w1 : w.heap.size + 1 < w5.heap.size := C5.blk (b := w.heap.size + 1) (k := 0) (v := .int .i64 1000000000) (by simp)
                  have y5w0 : w.heap.size < w5.heap.size := (by omega)
                  have y5wp1 : w.heap.size < w5.heap.size + 1 := (by omega)
                  have y5wp2 : w.heap.size < w5.heap.size + 1 + 1 := (by omega)
                  have y5w41 : w4.heap.size + 1 < w5.heap.size := C5.blk (b := w4.heap.size + 1) (k := 0) (v := .int .i64 (c0 + c)) (by simp)
                  have y5w40 : w4.heap.size < w5.heap.size := (by omega)
                  have y5w4p1 : w4.heap.size < w5.heap.size + 1 := (by omega)
                  have y5w4p2 : w4.heap.size < w5.heap.size + 1 + 1 := (by omega)
                  have hr25 := hr2.below E5
                  have hr35 := hr3.below E5
                  have hz05 := (E5.cell (World.block_lt_of_cell? _ _ hz0)).trans hz0
                  have hz15 := (E5.cell (World.block_lt_of_cell? _ _ hz1)).trans hz1
                  have hfz05 := hr35.free (z * 2)
                  have hfz15 := hr35.free (z * 2 + 1)
                  have hgl35 := hr35.lt
                  go_wp2_with fail
                  refine hK.out _ _ (by simp [F5, hz05, hz15]) (fun hHeld => ?_)
                  clear hK K
                  try simp only [Act.put, List.getElem_toArray, List.getElem_cons_succ, List.getElem_cons_zero, List.setIfInBounds_toArray, List.set_cons_zero, List.set_cons_succ]
                  refine wpAnyH_take (i := 12) (v := ?vy12) rfl (by kernel_rfl) (by kernel_rfl) (by kernel_rfl) (fun _ _ _ h => h) (Or.inl ⟨by rfl, ?hy12⟩) (by assumption) ?ry12
                  case hy12 => (intro w hSw; (try dsimp only at hSw); go_simp; (try with_reducible rfl))
                  try simp only [Act.put, List.getElem_toArray, List.getElem_cons_succ, List.getElem_cons_zero, List.setIfInBounds_toArray, List.set_cons_zero, List.set_cons_succ]
                  refine wpAnyH_done (by kernel_rfl) ?_ _
                  go_wp2_with fail
                  go_roundw
                  case rel => exact ⟨i + 1, l2.set z (c0 + c, ((v ||| P : Nat) : Int)), by omega, by go_num, CRow.far (CRow.far hr25 (fun h => hg23 h.symm) _) (fun h => hg23 h.symm) _, CRow.set_ hr35 z _ _, HNX, (by repeat (first | with_reducible exact D5 | with_reducible apply bdrew | with_reducible apply bdrewN | with_reducible apply balloc | ((with_reducible refine bset ?_ ?_ _); rotate_left; (first | omega | (simp <;> omega))))), Cls.far (Cls.far (l := [(w.heap.size, 0, .int .i64 0), (w.heap.size, 1, .int .i64 0), (w.heap.size + 1, 0, .int .i64 1000000000), (w.heap.size + 1, 1, .int .i64 0)]) (by simp [Cls, F5]) _ _ (by simp; omega)) _ _ (by simp; omega)⟩
                  case measure => simp [intOf]; omega
                · have hless : ∀ wx : World, Calls Try.prog 116 #[.agg #[.int .i64 (c0 + c), .int .i64 ((v ||| P : Nat) : Int)], .agg #[.int .i64 cz, .int .i64 wz]] wx fun e w' => e = .returned (.bool false) ∧ Below wx.heap.size wx w' := fun wx => by
                    have h := hless_any wx (c0 + c) ((v ||| P : Nat) : Int) cz wz
                    rw [decide_eq_false hle] at h
                    exact h
                  have HNX := Lib.hid (tab_keep hmid.out hc.out HCHO.out h0 hlt4 hlz.out (by rw [HP.out]; omega))
                  clear hle
                  go_wp2_with fail
                  refine wp_region_held_drew (S := fun W => W.cell? ⟨w4.heap.size, 0, none⟩ = some (.int .i64 c0) ∧ W.cell? ⟨w4.heap.size, 1, none⟩ = some (.int .i64 v) ∧ W.cell? ⟨w.heap.size + 1, 0, none⟩ = some (.int .i64 1000000000) ∧ W.cell? ⟨w.heap.size + 1, 1, none⟩ = some (.int .i64 0) ∧ W.cell? ⟨w4.heap.size + 1, 0, none⟩ = some (.int .i64 (c0 + c)) ∧ W.cell? ⟨w4.heap.size + 1, 1, none⟩ = some (.int .i64 ((v ||| P : Nat) : Int)) ∧ W.cell? ⟨g3, z * 2, none⟩ = some (.int .i64 cz) ∧ W.cell? ⟨g3, z * 2 + 1, none⟩ = some (.int .i64 wz)) (by kernel_rfl) (by simp [go_sem, Fq, yqw1, yqw0, yqwp1, yqwp2, hz0, hz1, hgl3, hgl3a]) (fun hHeld => ?_)
                  refine wpAnyH_take (i := 0) (v := ?vq60) rfl (by kernel_rfl) (by kernel_rfl) (by kernel_rfl) (fun _ _ _ h => h) (Or.inl ⟨by rfl, ?hq60⟩) (by assumption) ?rq60
                  case hq60 => (intro w hSw; (try dsimp only at hSw); go_simp; (try with_reducible rfl))
                  try simp only [Act.put, List.getElem_toArray, List.getElem_cons_succ, List.getElem_cons_zero, List.setIfInBounds_toArray, List.set_cons_zero, List.set_cons_succ]
                  refine wpAnyH_take (i := 1) (v := ?vq61) rfl (by kernel_rfl) (by kernel_rfl) (by kernel_rfl) (fun _ _ _ h => h) (Or.inl ⟨by rfl, ?hq61⟩) (by assumption) ?rq61
                  case hq61 => (intro w hSw; (try dsimp only at hSw); go_simp; (try with_reducible rfl))
                  try simp only [Act.put, List.getElem_toArray, List.getElem_cons_succ, List.getElem_cons_zero, List.setIfInBounds_toArray, List.set_cons_zero, List.set_cons_succ]
                  refine wpAnyH_take (i := 2) (v := ?vq62) rfl (by kernel_rfl) (by kernel_rfl) (by kernel_rfl) (fun _ _ _ h => h) (Or.inl ⟨by rfl, ?hq62⟩) (by assumption) ?rq62
                  case hq62 => (intro w hSw; (try dsimp only at hSw); go_simp; (try with_reducible rfl))
                  try simp only [Act.put, List.getElem_toArray, List.getElem_cons_succ, List.getElem_cons_zero, List.setIfInBounds_toArray, List.set_cons_zero, List.set_cons_succ]
                  refine wpAnyH_take (i := 3) (v := ?vq63) rfl (by kernel_rfl) (by kernel_rfl) (by kernel_rfl) (fun _ _ _ h => h) (Or.inl ⟨by rfl, ?hq63⟩) (by assumption) ?rq63
                  case hq63 => (intro w hSw; (try dsimp only at hSw); go_simp; (try with_reducible rfl))
                  try simp only [Act.put, List.getElem_toArray, List.getElem_cons_succ, List.getElem_cons_zero, List.setIfInBounds_toArray, List.set_cons_zero, List.set_cons_succ]
                  refine wpAnyH_take (i := 4) (v := ?vq64) rfl (by kernel_rfl) (by kernel_rfl) (by kernel_rfl) (fun _ _ _ h => h) (Or.inl ⟨?wq64, ?hq64⟩) (by assumption) ?rq64
                  case wq64 => simp [Region.wanted, yielded]
                  case hq64 => (intro w hSw; (try dsimp only at hSw); go_simp; (try with_reducible rfl))
                  try simp only [Act.put, List.getElem_toArray, List.getElem_cons_succ, List.getElem_cons_zero, List.setIfInBounds_toArray, List.set_cons_zero, List.set_cons_succ]
                  refine wpAnyH_take (i := 5) (v := ?vq65) rfl (by kernel_rfl) (by kernel_rfl) (by kernel_rfl) (fun _ _ _ h => h) (Or.inl ⟨?wq65, ?hq65⟩) (by assumption) ?rq65
                  case wq65 => simp [Region.wanted, yielded]
                  case hq65 => (intro w hSw; (try dsimp only at hSw); go_simp; (try with_reducible rfl))
                  try simp only [Act.put, List.getElem_toArray, List.getElem_cons_succ, List.getElem_cons_zero, List.setIfInBounds_toArray, List.set_cons_zero, List.set_cons_succ]
                  refine wpAnyH_take (i := 6) (v := ?vq66) rfl (by kernel_rfl) (by kernel_rfl) (by kernel_rfl) (fun _ _ _ h => h) (Or.inl ⟨?wq66, ?hq66⟩) (by assumption) ?rq66
                  case wq66 => simp [Region.wanted, yielded]
                  case hq66 => (intro w hSw; (try dsimp only at hSw); go_simp; (try with_reducible rfl))
                  try simp only [Act.put, List.getElem_toArray, List.getElem_cons_succ, List.getElem_cons_zero, List.setIfInBounds_toArray, List.set_cons_zero, List.set_cons_succ]
                  refine wpAnyH_take (i := 7) (v := ?vq67) rfl (by kernel_rfl) (by kernel_rfl) (by kernel_rfl) (fun _ _ _ h => h) (Or.inl ⟨?wq67, ?hq67⟩) (by assumption) ?rq67
                  case wq67 => simp [Region.wanted, yielded]
                  case hq67 => (intro w hSw; (try dsimp only at hSw); go_simp; (try with_reducible rfl))
                  try simp only [Act.put, List.getElem_toArray, List.getElem_cons_succ, List.getElem_cons_zero, List.setIfInBounds_toArray, List.set_cons_zero, List.set_cons_succ]
                  refine wpAnyH_take (i := 8) (v := ?vq68) rfl (by kernel_rfl) (by kernel_rfl) (by kernel_rfl) (fun _ _ _ h => h) (Or.inl ⟨?wq68, ?hq68⟩) (by assumption) ?rq68
                  case wq68 => simp [Region.wanted, yielded]
                  case hq68 => (intro w hSw; (try dsimp only at hSw); go_simp; (try with_reducible rfl))
                  try simp only [Act.put, List.getElem_toArray, List.getElem_cons_succ, List.getElem_cons_zero, List.setIfInBounds_toArray, List.set_cons_zero, List.set_cons_succ]
                  refine wpAnyH_take (i := 9) (v := ?vq69) rfl (by kernel_rfl) (by kernel_rfl) (by kernel_rfl) (fun _ _ _ h => h) (Or.inl ⟨?wq69, ?hq69⟩) (by assumption) ?rq69
                  case wq69 => simp [Region.wanted, yielded]
                  case hq69 => (intro w hSw; (try dsimp only at hSw); go_simp; (try with_reducible rfl))
                  try simp only [Act.put, List.getElem_toArray, List.getElem_cons_succ, List.getElem_cons_zero, List.setIfInBounds_toArray, List.set_cons_zero, List.set_cons_succ]
                  refine wpAnyH_take (i := 10) (v := ?vq610) rfl (by kernel_rfl) (by kernel_rfl) (by kernel_rfl) (fun _ _ _ h => h) (Or.inl ⟨?wq610, ?hq610⟩) (by assumption) ?rq610
                  case wq610 => simp [Region.wanted, yielded]
                  case hq610 => (intro w hSw; (try dsimp only at hSw); go_simp; (try with_reducible rfl))
                  try simp only [Act.put, List.getElem_toArray, List.getElem_cons_succ, List.getElem_cons_zero, List.setIfInBounds_toArray, List.set_cons_zero, List.set_cons_succ]
                  refine wpAnyH_ready (rs := [11]) (by kernel_rfl) (by simp) ?_
                  refine AllReadyH.cons rfl (fun K hK => ?_) AllReadyH.nil
                  go_simp
                  refine (hless _).mono ?_
                  rintro e' w5 ⟨rfl, hB5⟩
                  have E5 := dstep w4 hB5 (by repeat (first | with_reducible exact Below.refl _ _ | with_reducible apply bdrew | with_reducible apply bdrewN | with_reducible apply balloc | ((with_reducible refine bset ?_ ?_ _); rotate_left; (first | omega | (simp <;> omega)))))
                  have D5 := dstep w hB5 (by repeat (first | with_reducible exact hBq | with_reducible apply bdrew | with_reducible apply bdrewN | with_reducible apply balloc | ((with_reducible refine bset ?_ ?_ _); rotate_left; (first | omega | (simp <;> omega)))))
                  have d5s := D5.size
                  have C5 := Cls.below (l := [(w.heap.size, 0, .int .i64 0), (w.heap.size, 1, .int .i64 0), (w.heap.size + 1, 0, .int .i64 1000000000), (w.heap.size + 1, 1, .int .i64 0), (w4.heap.size, 0, .int .i64 c0), (w4.heap.size, 1, .int .i64 v), (w4.heap.size + 1, 0, .int .i64 (c0 + c)), (w4.heap.size + 1, 1, .int .i64 (((v ||| P : Nat) : Int)))]) hB5 (by simp [Cls, go_sem, Fq, yqw1, yqw0, yqwp1, yqwp2])
                  have F5 := C5
                  simp only [Cls, and_true] at F5
                  have y5w1 : w.heap.size + 1 < w5.heap.size := C5.blk (b := w.heap.size + 1) (k := 0) (v := .int .i64 1000000000) (by simp)
                  have y5w0 : w.heap.size < w5.heap.size := (by omega)
                  have y5wp1 : w.heap.size < w5.heap.size + 1 := (by omega)
                  have y5wp2 : w.heap.size < w5.heap.size + 1 + 1 := (by omega)
                  have y5w41 : w4.heap.size + 1 < w5.heap.size := C5.blk (b := w4.heap.size + 1) (k := 0) (v := .int .i64 (c0 + c)) (by simp)
                  have y5w40 : w4.heap.size < w5.heap.size := (by omega)
                  have y5w4p1 : w4.heap.size < w5.heap.size + 1 := (by omega)
                  have y5w4p2 : w4.heap.size < w5.heap.size + 1 + 1 := (by omega)
                  have hr25 := hr2.below E5
                  have hr35 := hr3.below E5
                  have hz05 := (E5.cell (World.block_lt_of_cell? _ _ hz0)).trans hz0
                  have hz15 := (E5.cell (World.block_lt_of_cell? _ _ hz1)).trans hz1
                  have hfz05 := hr35.free (z * 2)
                  have hfz15 := hr35.free (z * 2 + 1)
                  have hgl35 := hr35.lt
                  go_wp2_with fail
                  refine hK.out _ _ (by simp [F5, hz05, hz15]) (fun hHeld => ?_)
                  clear hK K
                  try simp only [Act.put, List.getElem_toArray, List.getElem_cons_succ, List.getElem_cons_zero, List.setIfInBounds_toArray, List.set_cons_zero, List.set_cons_succ]
                  refine wpAnyH_take (i := 12) (v := ?vn12) rfl (by kernel_rfl) (by kernel_rfl) (by kernel_rfl) (fun _ _ _ h => h) (Or.inl ⟨by rfl, ?hn12⟩) (by assumption) ?rn12
                  case hn12 => (intro w hSw; (try dsimp only at hSw); go_simp; (try with_reducible rfl))
                  try simp only [Act.put, List.getElem_toArray, List.getElem_cons_succ, List.getElem_cons_zero, List.setIfInBounds_toArray, List.set_cons_zero, List.set_cons_succ]
                  refine wpAnyH_done (by kernel_rfl) ?_ _
                  go_wp2_with fail
                  go_roundw
                  case rel => exact ⟨i + 1, l2, by omega, by go_num, hr25, hr35, HNX, D5, (by simp [Cls, F5])⟩
                  case measure => simp [intOf]; omega
            · have hiN : i = N := by omega
              subst hiN
              have HNX := Lib.hid (tab_next hmid.out HN.out.symm HH.out)
              go_wp2_with fail
              go_roundw
              case rel => exact ⟨e + 1, g3, c3, l2, by omega, by go_num, rfl, by omega, hr3, HNX, (by repeat (first | with_reducible exact hBq | with_reducible apply bdrew | with_reducible apply bdrewN | with_reducible apply balloc | ((with_reducible refine bset ?_ ?_ _); rotate_left; (first | omega | (simp <;> omega))))), (by simp [Cls, go_sem, Fq, yqw1, yqw0, yqwp1, yqwp2])⟩
              case measure => simp [intOf]; omega
    · have hec : e = cs.length := by omega
      subst hec
      obtain ⟨cz, u, hlz, hz0, hz1⟩ := hrow.cell (k := N - 1) (by rw [HLEN.out]; omega)
      obtain ⟨v, rfl, hcho⟩ := tab_last htab.out HN.out.symm hlz.out
      have HCHO := Lib.hid hcho
      have hn1 : ((N : Int) - 1).toNat = N - 1 := by omega
      have hn2 : 0 ≤ (N : Int) - 1 := by omega
      have hn3 : (N : Int) - 1 < (N : Int) := by omega
      have hn4 : IntKind.i64.wrap ((N : Int) - 1) = (N : Int) - 1 := by rw [IntKind.wrap_i64]; omega
      clear hcho
      go_wp2_with fail
      refine bodyPost_ret (v := .agg #[.int .i64 cz, .int .i64 v]) ?_ rfl ⟨cz, v, rfl, HCHO.out, by repeat (first | with_reducible exact hBr | with_reducible apply bdrew | with_reducible apply bdrewN | with_reducible apply balloc | ((with_reducible refine bset ?_ ?_ _); rotate_left; (first | omega | (simp <;> omega))))⟩
      simp [results, Try.results92, go_sem, Fr, yrw1, yrw0, yrwp1, yrwp2]


end Go.Proofs.Ytihkgdlanfemcaa

namespace Go.Proofs.Ytihkgdlanfemcaa
open Go.RowKit
set_option linter.unusedVariables false
set_option linter.unusedSimpArgs false

theorem OwnI.drew_ {base : Nat} {w : World} {v : Value} {xs : List Int} (h : OwnI base w v xs) : OwnI base w.drew v xs := h.below (bdrew (Below.refl _ _))
theorem hfault_ok {sets : List (List Int)} {cs : List Int} (h : HOk sets cs) : hfault sets cs = (0, 0) := by
  rw [hfault_3 (by have := h.nsets; have := h.ncosts; omega) h.costs]
  exact setsFault_good _ _ (fun s hs => hitc_zero.2 (h.sets s hs))
/-- The elements of a word, below n. -/
def bitsL (n w : Nat) : List Int := ((List.range n).filter fun e => w.testBit e).map fun e : Nat => (e : Int)
theorem bitsL_zero (w : Nat) : bitsL 0 w = [] := rfl
theorem bitsL_yes {n w : Nat} (h : w.testBit n = true) : bitsL (n + 1) w = bitsL n w ++ [(n : Int)] := by
  unfold bitsL; rw [List.range_succ, List.filter_append, List.map_append]; simp [h]
theorem bitsL_no {n w : Nat} (h : ¬ w.testBit n = true) : bitsL (n + 1) w = bitsL n w := by
  unfold bitsL; rw [List.range_succ, List.filter_append, List.map_append]; simp [h]
theorem bitsL_len (n w : Nat) : (bitsL n w).length ≤ n := by
  unfold bitsL; rw [List.length_map]
  exact Nat.le_trans (List.length_filter_le _ _) (by rw [List.length_range]; omega)
/-- There is a hitting set. -/
theorem cho_least {sets : List (List Int)} {cs : List Int} (hok : HOk sets cs) {c : Int} {v : Nat} (h : Cho (costW cs) (AllHit sets (2 ^ cs.length)) c v) : Least (costW cs) (AllHit sets (2 ^ cs.length)) c v := by
  rcases h with h | ⟨_, _, h⟩
  · exact h
  · exfalso
    refine h (2 ^ cs.length - 1) ⟨by have := Nat.one_le_two_pow (n := cs.length); omega, fun s hs => ?_⟩
    obtain ⟨h1, h2⟩ := hok.sets s hs
    cases s with
    | nil => exact absurd rfl h1
    | cons x r =>
      have hx := h2.1 x (List.mem_cons_self ..)
      refine ⟨x.toNat, by rw [Int.toNat_of_nonneg hx.1]; exact List.mem_cons_self .., ?_⟩
      rw [Nat.testBit_two_pow_sub_one]
      simp
      omega
set_option maxRecDepth 100000 in
set_option maxHeartbeats 2000000 in
theorem hBest_2 (w : World) (A : Option Addr) (ca : Nat) (sets : List (List Int)) (hL : LLR w A sets) (hsl : ∀ s ∈ sets, s.length ≤ 9223372036854775807) (hl : sets.length ≤ 9223372036854775807) (C : Option Addr) (cc : Nat) (cs : List Int) (hC : Ints w C cs) (hcl : cs.length ≤ 9223372036854775807) (hok : HOk sets cs) :
    Calls Try.prog 49 #[.slice A sets.length ca, .slice C cs.length cc] w fun e w' => ∃ (A' : Option Addr) (c' : Nat) (c : Int) (v : Nat), e = .returned (.tuple #[.slice A' (bitsL cs.length v).length c', .int .i64 c, .agg #[.int .i64 0, .int .i64 0]]) ∧ Least (costW cs) (AllHit sets (2 ^ cs.length)) c v ∧ OwnI w.heap.size w' (.slice A' (bitsL cs.length v).length c') (bitsL cs.length v) ∧ Below w.heap.size w w' := by
  have HSL := Lib.hid hsl
  have HF := Lib.hid (hfault_ok hok)
  have hc16 := hok.ncosts
  have hs16 := hok.nsets
  have HCI := Lib.hid hok.costs
  have HOK := Lib.hid hok
  clear hsl hok
  go_enter Try.func49, Try.ntmps49
  go_wp2_with fail
  refine (hvalidate_any _ A ca sets (hL.below (by repeat (first | with_reducible exact Below.refl _ _ | with_reducible apply bdrew | with_reducible apply bdrewN | with_reducible apply balloc | ((with_reducible refine bset ?_ ?_ _); rotate_left; (first | omega | (simp <;> omega)))))) HSL.out hl C cc cs (hC.below (by repeat (first | with_reducible exact Below.refl _ _ | with_reducible apply bdrew | with_reducible apply bdrewN | with_reducible apply balloc | ((with_reducible refine bset ?_ ?_ _); rotate_left; (first | omega | (simp <;> omega)))))) hcl).mono ?_
  rintro e w1 ⟨he, hB1⟩
  rw [HF.out] at he
  subst he
  have D1 := dstep w hB1 (by repeat (first | with_reducible exact Below.refl _ _ | with_reducible apply bdrew | with_reducible apply bdrewN | with_reducible apply balloc | ((with_reducible refine bset ?_ ?_ _); rotate_left; (first | omega | (simp <;> omega)))))
  have d1s := D1.size
  have C1 := Cls.below (l := [(w.heap.size, 0, .int .i64 0), (w.heap.size, 1, .int .i64 0)]) hB1 (by simp [Cls, go_sem])
  have F1 := C1
  simp only [Cls, and_true] at F1
  have y1w0 : w.heap.size < w1.heap.size := C1.blk (b := w.heap.size) (k := 0) (v := .int .i64 0) (by simp)
  have y1wp1 : w.heap.size < w1.heap.size + 1 := (by omega)
  have y1wp2 : w.heap.size < w1.heap.size + 1 + 1 := (by omega)
  go_wp2_with fail
  refine (hbest_any _ A ca sets (hL.below (by repeat (first | with_reducible exact D1 | with_reducible apply bdrew | with_reducible apply bdrewN | with_reducible apply balloc | ((with_reducible refine bset ?_ ?_ _); rotate_left; (first | omega | (simp <;> omega)))))) C cc cs (hC.below (by repeat (first | with_reducible exact D1 | with_reducible apply bdrew | with_reducible apply bdrewN | with_reducible apply balloc | ((with_reducible refine bset ?_ ?_ _); rotate_left; (first | omega | (simp <;> omega)))))) hs16 hc16 HCI.out HSL.out).mono ?_
  rintro e w2 ⟨c, v, rfl, hch, hB2⟩
  have D2 := dstep w hB2 (by repeat (first | with_reducible exact D1 | with_reducible apply bdrew | with_reducible apply bdrewN | with_reducible apply balloc | ((with_reducible refine bset ?_ ?_ _); rotate_left; (first | omega | (simp <;> omega)))))
  have d2s := D2.size
  have C2 := Cls.below (l := [(w.heap.size, 0, .int .i64 0), (w.heap.size, 1, .int .i64 0), (w1.heap.size, 0, .int .i64 0), (w1.heap.size, 1, .int .i64 0)]) hB2 (by simp [Cls, go_sem, F1, y1w0, y1wp1, y1wp2])
  have F2 := C2
  simp only [Cls, and_true] at F2
  have y2w0 : w.heap.size < w2.heap.size := C2.blk (b := w.heap.size) (k := 0) (v := .int .i64 0) (by simp)
  have y2wp1 : w.heap.size < w2.heap.size + 1 := (by omega)
  have y2wp2 : w.heap.size < w2.heap.size + 1 + 1 := (by omega)
  have y2w10 : w1.heap.size < w2.heap.size := C2.blk (b := w1.heap.size) (k := 0) (v := .int .i64 0) (by simp)
  have y2w1p1 : w1.heap.size < w2.heap.size + 1 := (by omega)
  have y2w1p2 : w1.heap.size < w2.heap.size + 1 + 1 := (by omega)
  have HCH := Lib.hid (cho_least HOK.out hch)
  obtain ⟨r1, r2, r3, r4, r5, r6⟩ := cho_rng hch (e := cs.length) (fun v hv => hv.1) HCI.out hc16 hc16
  clear hch
  go_wp2_with fail
  go_loopw [9, 23] (fun sv x wr => ∃ (k : Nat) (vj : Value), k ≤ cs.length ∧ x = .int .i64 k ∧ vj = sv ∧ OwnI (w2.heap.size + 1) wr vj (bitsL k v) ∧ Below w.heap.size w wr ∧ Cls wr [(w.heap.size, 0, .int .i64 0), (w.heap.size, 1, .int .i64 0), (w1.heap.size, 0, .int .i64 0), (w1.heap.size, 1, .int .i64 0), (w2.heap.size, 0, .int .i64 c), (w2.heap.size, 1, .int .i64 v)]) (fun _ x _ => cs.length - (intOf x).toNat)
  case atStart => exact ⟨0, _, Nat.zero_le _, rfl, rfl, (by first | exact OwnI.nil _ _ | (rw [bitsL_zero]; exact OwnI.nil _ _)), (by repeat (first | with_reducible exact D2 | with_reducible apply bdrew | with_reducible apply bdrewN | with_reducible apply balloc | ((with_reducible refine bset ?_ ?_ _); rotate_left; (first | omega | (simp <;> omega))))), (by simp [Cls, go_sem, F2, y2w0, y2wp1, y2wp2, y2w10, y2w1p1, y2w1p2])⟩
  case round =>
    obtain ⟨k, vj, hk, rfl, rfl, hown, hBr, hCr⟩ := hrel
    obtain ⟨w3, rfl⟩ : ∃ wo : World, wo = wr := ⟨_, rfl⟩
    have drs := hBr.size
    have Fr := hCr
    simp only [Cls, and_true] at Fr
    have yrw0 : w.heap.size < w3.heap.size := hCr.blk (b := w.heap.size) (k := 0) (v := .int .i64 0) (by simp)
    have yrwp1 : w.heap.size < w3.heap.size + 1 := (by omega)
    have yrwp2 : w.heap.size < w3.heap.size + 1 + 1 := (by omega)
    have yrw10 : w1.heap.size < w3.heap.size := hCr.blk (b := w1.heap.size) (k := 0) (v := .int .i64 0) (by simp)
    have yrw1p1 : w1.heap.size < w3.heap.size + 1 := (by omega)
    have yrw1p2 : w1.heap.size < w3.heap.size + 1 + 1 := (by omega)
    have yrw20 : w2.heap.size < w3.heap.size := hCr.blk (b := w2.heap.size) (k := 0) (v := .int .i64 c) (by simp)
    have yrw2p1 : w2.heap.size < w3.heap.size + 1 := (by omega)
    have yrw2p2 : w2.heap.size < w3.heap.size + 1 + 1 := (by omega)
    by_cases hlt : k < cs.length
    · have hlen := Nat.lt_of_le_of_lt (bitsL_len k v) (show k < 1000000000000 by omega)
      have hqq : (v : Int) / 2 ^ k = ((v / 2 ^ k : Nat) : Int) := by simp
      have hand := Go.Proofs.and_one (v / 2 ^ k) (Nat.lt_of_le_of_lt (Nat.div_le_self _ _) (by omega))
      rw [← hqq] at hand
      by_cases hbit : v.testBit k = true
      · have HL := Lib.hid (bitsL_yes hbit)
        rw [Nat.testBit_eq_decide_div_mod_eq, decide_eq_true_iff] at hbit
        have hb2 : bits .and .i64 ((v : Int) / 2 ^ k) 1 = 1 := by rw [hand, hbit]; rfl
        clear hand hqq hbit
        go_wp2_with (at_builtin; go_must (refine wpList_push rfl (.tmp 32) (.tmp 34) rfl w [(w.heap.size, 0, .int .i64 0), (w.heap.size, 1, .int .i64 0), (w1.heap.size, 0, .int .i64 0), (w1.heap.size, 1, .int .i64 0), (w2.heap.size, 0, .int .i64 c), (w2.heap.size, 1, .int .i64 v)] (w2.heap.size + 1) vj _ ((k : Int)) rfl (OwnI.below hown ?p1) ⟨w3.heap.size, 0, none⟩ 1 rfl ?p2 hlen ?p3 ?p4 ?p5 ?p6 ?p7 ?_; (case p1 => repeat (first | with_reducible exact Below.refl _ _ | with_reducible apply bdrew | with_reducible apply bdrewN | with_reducible apply balloc | ((with_reducible refine bset ?_ ?_ _); rotate_left; (first | omega | (simp <;> omega))))); (case p2 => (first | simp [Cls, go_sem, Fr, yrw0, yrwp1, yrwp2, yrw10, yrw1p1, yrw1p2, yrw20, yrw2p1, yrw2p2] | exact cell_new_at _ _ _ _ rfl)); (case p3 => (first | omega | (simp <;> omega))); (case p4 => (first | omega | (simp <;> omega))); (case p5 => repeat (first | with_reducible exact hBr | with_reducible apply bdrew | with_reducible apply bdrewN | with_reducible apply balloc | ((with_reducible refine bset ?_ ?_ _); rotate_left; (first | omega | (simp <;> omega))))); (case p6 => exact Cls.below (w := w3) (by repeat (first | with_reducible exact Below.refl _ _ | with_reducible apply bdrew | with_reducible apply bdrewN | with_reducible apply balloc | ((with_reducible refine bset ?_ ?_ _); rotate_left; (first | omega | (simp <;> omega))))) hCr); (case p7 => (simp <;> omega)); intro v3 w3 o3 D3 C3 sz3; have d3s := D3.size; have F3 := C3; simp only [Cls, and_true] at F3; have y3w0 : w.heap.size < w3.heap.size := C3.blk (b := w.heap.size) (k := 0) (v := .int .i64 0) (by simp); have y3wp1 : w.heap.size < w3.heap.size + 1 := (by omega); have y3wp2 : w.heap.size < w3.heap.size + 1 + 1 := (by omega); have y3w10 : w1.heap.size < w3.heap.size := C3.blk (b := w1.heap.size) (k := 0) (v := .int .i64 0) (by simp); have y3w1p1 : w1.heap.size < w3.heap.size + 1 := (by omega); have y3w1p2 : w1.heap.size < w3.heap.size + 1 + 1 := (by omega); have y3w20 : w2.heap.size < w3.heap.size := C3.blk (b := w2.heap.size) (k := 0) (v := .int .i64 c) (by simp); have y3w2p1 : w2.heap.size < w3.heap.size + 1 := (by omega); have y3w2p2 : w2.heap.size < w3.heap.size + 1 + 1 := (by omega)))
        go_roundw
        case rel => exact ⟨k + 1, v3, by omega, by go_num, rfl, by rw [HL.out]; exact o3, (by repeat (first | with_reducible exact D3 | with_reducible apply bdrew | with_reducible apply bdrewN | with_reducible apply balloc | ((with_reducible refine bset ?_ ?_ _); rotate_left; (first | omega | (simp <;> omega))))), (by simp [Cls, go_sem, F3, y3w0, y3wp1, y3wp2, y3w10, y3w1p1, y3w1p2, y3w20, y3w2p1, y3w2p2])⟩
        case measure => simp [intOf]; omega
      · have HL := Lib.hid (bitsL_no hbit)
        have hbf : v / 2 ^ k % 2 = 0 := by
          rw [Nat.testBit_eq_decide_div_mod_eq, decide_eq_true_iff] at hbit
          omega
        have hb2 : bits .and .i64 ((v : Int) / 2 ^ k) 1 = 0 := by rw [hand, hbf]; rfl
        clear hand hqq hbit hbf
        go_wp2_with fail
        go_roundw
        case rel => exact ⟨k + 1, vj, by omega, by go_num, rfl, by rw [HL.out]; exact hown, (by repeat (first | with_reducible exact hBr | with_reducible apply bdrew | with_reducible apply bdrewN | with_reducible apply balloc | ((with_reducible refine bset ?_ ?_ _); rotate_left; (first | omega | (simp <;> omega))))), (by simp [Cls, go_sem, Fr, yrw0, yrwp1, yrwp2, yrw10, yrw1p1, yrw1p2, yrw20, yrw2p1, yrw2p2])⟩
        case measure => simp [intOf]; omega
    · obtain rfl : k = cs.length := by omega
      obtain ⟨A', c', rfl, -, -⟩ := hown.form
      go_wp2_with fail
      refine region_still_tail 6 (by kernel_rfl) (by kernel_rfl) ?_
      simp only [List.take_succ_cons, List.take_zero, List.drop_succ_cons, List.drop_zero]
      repeat still_step
      refine wpStill_nil ?_
      go_wp2
      refine bodyPost_ret (v := .tuple #[.slice A' (bitsL cs.length v).length c', .int .i64 c, .agg #[.int .i64 0, .int .i64 0]]) ?_ rfl ⟨A', c', c, v, rfl, HCH.out, ?_, by repeat (first | with_reducible exact hBr | with_reducible apply bdrew | with_reducible apply bdrewN | with_reducible apply balloc | ((with_reducible refine bset ?_ ?_ _); rotate_left; (first | omega | (simp <;> omega))))⟩
      · simp [results, Try.results49, go_sem, Fr, yrw0, yrwp1, yrwp2, yrw10, yrw1p1, yrw1p2, yrw20, yrw2p1, yrw2p2]
      · refine OwnI.mono (base := w2.heap.size + 1) ?_ (by omega)
        repeat (first | with_reducible exact hown | with_reducible refine OwnI.drew_ ?_ | (with_reducible refine OwnI.far ?_ ?_ _; rotate_left; (first | omega | (simp <;> omega))))


end Go.Proofs.Ytihkgdlanfemcaa
