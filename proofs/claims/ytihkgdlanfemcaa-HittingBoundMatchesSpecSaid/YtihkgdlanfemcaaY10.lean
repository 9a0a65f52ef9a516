/-
  helmsmanref3.LeastHitting: the least hitting set.
-/
import Derived.Test.YtihkgdlanfemcaaY6
import Derived.Test.YtihkgdlanfemcaaY2
import Derived.Test.YtihkgdlanfemcaaY9
import Derived.Lib.RabinKarpLaws
namespace Go.Proofs.Ytihkgdlanfemcaa
open Go.RowKit
set_option linter.unusedVariables false
set_option linter.unusedSimpArgs false

/-- What is looked for: words that hit all sets. -/
def AllHit (sets : List (List Int)) (n : Nat) (w : Nat) : Prop := w < n ∧ ∀ s ∈ sets, HitW s w
theorem allhit_no {sets : List (List Int)} {k : Nat} (h : ¬ ∀ s ∈ sets, HitW s k) (v : Nat) : AllHit sets (k + 1) v ↔ AllHit sets k v := by
  unfold AllHit
  constructor
  · rintro ⟨h1, h2⟩
    refine ⟨?_, h2⟩
    rcases Nat.lt_or_ge v k with h3 | h3
    · exact h3
    · have : v = k := by omega
      subst this
      exact absurd h2 h
  · exact fun ⟨h1, h2⟩ => ⟨by omega, h2⟩
theorem allhit_yes {sets : List (List Int)} {k : Nat} (h : ∀ s ∈ sets, HitW s k) (v : Nat) : AllHit sets (k + 1) v ↔ AllHit sets k v ∨ v = k := by
  unfold AllHit
  constructor
  · rintro ⟨h1, h2⟩
    by_cases e : v = k
    · exact .inr e
    · exact .inl ⟨by omega, h2⟩
  · rintro (⟨h1, h2⟩ | rfl)
    · exact ⟨by omega, h2⟩
    · exact ⟨by omega, h⟩
/-- One more word. -/
theorem cho_word {cs : List Int} {sets : List (List Int)} {k b : Nat} {l : Int} (h : Cho (costW cs) (AllHit sets k) l b) (hc : costW cs k < 1000000000) :
    ((¬ ∀ s ∈ sets, HitW s k) → Cho (costW cs) (AllHit sets (k + 1)) l b) ∧ ((∀ s ∈ sets, HitW s k) → ¬ costW cs k < l → Cho (costW cs) (AllHit sets (k + 1)) l b) ∧ ((∀ s ∈ sets, HitW s k) → costW cs k < l → Cho (costW cs) (AllHit sets (k + 1)) (costW cs k) k) := by
  refine ⟨fun hn => h.congr (fun v => (allhit_no hn v).symm), fun hy hl => ?_, fun hy hl => ?_⟩
  · rcases h with h | ⟨e, _, _⟩
    · left
      have hb := h.is.1
      refine ⟨(allhit_yes hy b).2 (.inl h.is), h.eq, fun v hv => ?_⟩
      rcases (allhit_yes hy v).1 hv with h1 | rfl
      · exact h.least v h1
      · have := h.eq; omega
    · omega
  · left
    refine ⟨(allhit_yes hy k).2 (.inr rfl), rfl, fun v hv => ?_⟩
    rcases (allhit_yes hy v).1 hv with h1 | rfl
    · rcases h with h | ⟨_, _, h⟩
      · have := h.least v h1
        have := h.eq
        omega
      · exact absurd h1 (h v)
    · exact .inr ⟨rfl, Nat.le_refl _⟩
/-- The cost of the first elements of a word. -/
def costTo (cs : List Int) (w k : Nat) : Int := ((List.range k).map fun e => if w.testBit e = true then (cs[e]?).getD 0 else 0).sum
theorem costTo_all (cs : List Int) (w : Nat) : costTo cs w cs.length = costW cs w := rfl
theorem costTo_succ {cs : List Int} {w k : Nat} {c : Int} (hc : cs[k]? = some c) : costTo cs w (k + 1) = costTo cs w k + (if w.testBit k = true then c else 0) := by
  unfold costTo
  rw [List.range_succ, List.map_append, List.sum_append]
  simp [hc]
theorem costTo_rng {cs : List Int} (hc : CostsIn cs) (w : Nat) : ∀ k, k ≤ cs.length → 0 ≤ costTo cs w k ∧ costTo cs w k ≤ (k : Int) * 1000000
  | 0, _ => by simp [costTo]
  | k + 1, hk => by
    have h1 := costTo_rng hc w k (by omega)
    have hx := List.getElem?_eq_getElem (show k < cs.length by omega)
    have h2 := hc _ (List.mem_of_getElem? hx)
    rw [costTo_succ hx]
    split <;> omega
set_option maxRecDepth 100000 in
set_option maxHeartbeats 4000000 in
theorem leasthit_any (w : World) (A : Option Addr) (ca : Nat) (sets : List (List Int)) (hL : LLR w A sets) (C : Option Addr) (cc : Nat) (cs : List Int) (hC : Ints w C cs) (hok : HOk sets cs) :
    Calls Try.prog 51 #[.slice A sets.length ca, .slice C cs.length cc] w fun e w' => ∃ (b : Nat) (l : Int), e = .returned (.tuple #[.int .i64 b, .int .i64 l]) ∧ Cho (costW cs) (AllHit sets (2 ^ cs.length)) l b ∧ Below w.heap.size w w' := by
  have HOK := Lib.hid hok
  have hs16 := hok.nsets
  have hc16 := hok.ncosts
  have HCI := Lib.hid hok.costs
  have HST := Lib.hid (show ∀ s ∈ sets, SetP s ((cs.length : Nat) : Int) from fun s hs => (hok.sets s hs).2)
  clear hok
  go_enter Try.func51, Try.ntmps51
  go_wp2_with fail
  go_loopw [8, 9] (fun sv x wr => ∃ (k : Nat) (vj : Value), k ≤ sets.length ∧ x = .int .i64 k ∧ vj = sv ∧ OwnI w.heap.size wr vj ((sets.take k).map wordV) ∧ Below w.heap.size w wr) (fun _ x _ => sets.length - (intOf x).toNat)
  case atStart => exact ⟨0, _, Nat.zero_le _, rfl, rfl, OwnI.nil _ _, Below.refl _ _⟩
  case round =>
    obtain ⟨k, vj, hk, rfl, rfl, hown, hBr⟩ := hrel
    obtain ⟨w1, rfl⟩ : ∃ wo : World, wo = wr := ⟨_, rfl⟩
    have hsz := hBr.size
    by_cases hlt : k < sets.length
    · obtain ⟨ad, s, B1, c1, rfl, hs, hsc, hI⟩ := (hL.below hBr).at_ hlt
      have HSS := Lib.hid (HST.out s (List.mem_of_getElem? hs.out))
      have HTK := Lib.hid (show (sets.take k).map wordV ++ [wordV s] = (sets.take (k + 1)).map wordV by rw [List.take_add_one, hs.out]; simp)
      have hlen : ((sets.take k).map wordV).length < 1000000000000 := by rw [List.length_map, List.length_take]; omega
      go_wp2_with fail
      refine (word_any _ _ _ _ hI cs.length HSS.out (by omega)).mono ?_
      rintro e w' ⟨rfl, rfl⟩
      go_wp2_with (at_builtin; go_must (refine wpList_push_at rfl (.tmp 21) (.tmp 27) rfl w [] w.heap.size vj _ (wordV s) rfl (OwnI.below hown ?p1) ⟨w1.heap.size, 0, none⟩ 1 rfl ?p2 hlen ?p3 (Nat.le_refl _) ?p5 ?p6 ?p7 ?_; (case p1 => repeat (first | with_reducible exact Below.refl _ _ | with_reducible apply bdrew | with_reducible apply bdrewN | with_reducible apply balloc | ((with_reducible refine bset ?_ ?_ _); rotate_left; (first | omega | (simp <;> omega))))); (case p2 => simp [go_sem]); (case p3 => (simp <;> omega)); (case p5 => repeat (first | with_reducible exact hBr | with_reducible apply bdrew | with_reducible apply bdrewN | with_reducible apply balloc | ((with_reducible refine bset ?_ ?_ _); rotate_left; (first | omega | (simp <;> omega))))); (case p6 => trivial); (case p7 => simp); intro v4 w4 o4 D4 C4 sz4 G4 at4))
      go_roundw
      case rel => exact ⟨k + 1, v4, by omega, by go_num, rfl, by rw [← HTK.out]; exact o4, D4⟩
      case measure => simp [intOf]; omega
    · have hke := Lib.hid (show (sets.take k).map wordV = sets.map wordV by rw [List.take_of_length_le (by omega)])
      rw [hke.out] at hown
      obtain ⟨ws, hws⟩ : ∃ l, Hid (sets.map wordV = l) := ⟨_, Lib.hid rfl⟩
      rw [hws.out] at hown
      have HML := Lib.hid (show ws.length = sets.length by rw [← hws.out, List.length_map])
      have hws16 : ws.length ≤ 16 := by have := HML.out; omega
      clear hke
      obtain ⟨A2, c2, rfl, _, hI2⟩ := hown.form
      have hpw : (2 : Nat) ^ cs.length ≤ 65536 := by
        have h1 : (2 : Nat) ^ cs.length ≤ 2 ^ 16 := Nat.pow_le_pow_right (by decide) hc16
        have h2 : (2 : Nat) ^ 16 = 65536 := by decide
        omega
      have hpi : (2 : Int) ^ cs.length = ((2 ^ cs.length : Nat) : Int) := by simp
      obtain ⟨N, hN⟩ : ∃ N : Nat, (2 : Nat) ^ cs.length = N := ⟨_, rfl⟩
      rw [hN] at hpw hpi
      have HN := Lib.hid hN
      clear hN hown
      go_wp2_with fail
      go_loopw [6, 7, 10] (fun b l x wr => ∃ (k b' : Nat) (l' : Int), k ≤ N ∧ x = .int .i64 k ∧ b = .int .i64 b' ∧ l = .int .i64 l' ∧ Hid (Cho (costW cs) (AllHit sets k) l' b') ∧ w1 = wr) (fun _ _ x _ => N - (intOf x).toNat)
      case atStart => exact ⟨0, 0, 1000000000, Nat.zero_le _, rfl, rfl, rfl, Lib.hid (.inr ⟨rfl, rfl, fun v hv => by have := hv.1; omega⟩), rfl⟩
      case round =>
        obtain ⟨k, b', l', hk, rfl, rfl, rfl, hch, rfl⟩ := hrel
        by_cases hlt2 : k < N
        · have hk16 : k < 65536 := by omega
          have hcw := costTo_rng HCI.out k cs.length (Nat.le_refl _)
          rw [costTo_all] at hcw
          have hcl16 : (cs.length : Int) * 1000000 ≤ 16 * 1000000 := by omega
          have HCH := Lib.hid (cho_word hch.out (by omega))
          go_wp2_with fail
          go_loopw [11, 12] (fun h x wr => ∃ (j : Nat) (hb : Bool), j ≤ ws.length ∧ x = .int .i64 j ∧ h = .bool hb ∧ Hid (hb = true ↔ ∀ s ∈ sets.take j, HitW s k) ∧ w1 = wr) (fun _ x _ => ws.length - (intOf x).toNat)
          case atStart => exact ⟨0, true, Nat.zero_le _, rfl, rfl, Lib.hid (by simp), rfl⟩
          case round =>
            obtain ⟨j, hb, hj, rfl, rfl, hhb, rfl⟩ := hrel
            cases hb with
            | false =>
              have HNO := Lib.hid (show ¬ ∀ s ∈ sets, HitW s k from fun h => by have := hhb.out.2 (fun s hs => h s (List.mem_of_mem_take hs)); cases this)
              by_cases hlj : j < ws.length
              · skip
                go_wp2_with fail
                go_roundw
                case rel => exact ⟨k + 1, b', l', by omega, by go_num, rfl, rfl, Lib.hid (HCH.out.1 HNO.out), (by first | trivial | rfl)⟩
                case measure => simp [intOf]; omega
              · skip
                go_wp2_with fail
                go_roundw
                case rel => exact ⟨k + 1, b', l', by omega, by go_num, rfl, rfl, Lib.hid (HCH.out.1 HNO.out), (by first | trivial | rfl)⟩
                case measure => simp [intOf]; omega
            | true =>
              by_cases hlj : j < ws.length
              · obtain ⟨ad, x, rfl, hx, hxc⟩ := hI2.at_ (k := j) (by omega)
                have hlj' : j < sets.length := by have := HML.out; omega
                have hsj := List.getElem?_eq_getElem hlj'
                have hxe : x = wordV sets[j] := by
                  have h := hx.out
                  rw [← hws.out, List.getElem?_map, hsj] at h
                  injection h with h
                  exact h.symm
                subst hxe
                have HSJ := Lib.hid (HST.out _ (List.getElem_mem hlj'))
                have HTJ := Lib.hid (show sets.take (j + 1) = sets.take j ++ [sets[j]] by rw [List.take_add_one, hsj]; rfl)
                have HWM := Lib.hid (word_meet (w := k) HSJ.out (by omega) (by omega))
                obtain ⟨z, hz⟩ : ∃ z, bits .and .i64 (wordV sets[j]) (k : Int) = z := ⟨_, rfl⟩
                rw [hz] at HWM
                by_cases hm : HitW sets[j] k
                · have hz0 : ¬ z = 0 := fun e => HWM.out.1 e hm
                  have hz1 : (z == 0) = false := by simpa using hz0
                  have HNX := Lib.hid (show ∀ s ∈ sets.take (j + 1), HitW s k from fun s hs => by
                    rw [HTJ.out] at hs
                    rcases List.mem_append.1 hs with h | h
                    · exact hhb.out.1 rfl s h
                    · have : s = sets[j] := by simpa using h
                      rw [this]; exact hm)
                  go_wp2_with fail
                  go_roundw
                  case rel => exact ⟨j + 1, true, by omega, by go_num, (by rw [show (z != 0) = true by simpa using hz0]), Lib.hid ⟨fun _ => HNX.out, fun _ => rfl⟩, (by first | trivial | rfl)⟩
                  case measure => simp [intOf]; omega
                · have hz0 : z = 0 := HWM.out.2 hm
                  subst hz0
                  have HNX := Lib.hid (show ¬ ∀ s ∈ sets.take (j + 1), HitW s k from fun h => hm (h _ (by rw [HTJ.out]; exact List.mem_append_right _ (List.mem_singleton.2 rfl))))
                  go_wp2_with fail
                  go_roundw
                  case rel => exact ⟨j + 1, false, by omega, by go_num, rfl, Lib.hid ⟨fun h => (by cases h), fun h => absurd h HNX.out⟩, (by first | trivial | rfl)⟩
                  case measure => simp [intOf]; omega
              · have HYES := Lib.hid (show ∀ s ∈ sets, HitW s k from fun s hs => hhb.out.1 rfl s (by rw [List.take_of_length_le (by have := HML.out; omega)]; exact hs))
                go_wp2_with fail
                go_loopw [13, 14] (fun sv x wr => ∃ e : Nat, e ≤ cs.length ∧ x = .int .i64 e ∧ sv = .int .i64 (costTo cs k e) ∧ w1 = wr) (fun _ x _ => cs.length - (intOf x).toNat)
                case atStart => exact ⟨0, Nat.zero_le _, rfl, rfl, rfl⟩
                case round =>
                  obtain ⟨e, he, rfl, rfl, rfl⟩ := hrel
                  have hce := costTo_rng HCI.out k e he
                  by_cases hle : e < cs.length
                  · obtain ⟨ad, c, rfl, hc, hcc⟩ := (hC.below hBr).at_ hle
                    have hcr := HCI.out c (List.mem_of_getElem? hc.out)
                    have HSU := Lib.hid (costTo_succ (w := k) hc.out)
                    obtain ⟨ce, hcee⟩ : ∃ a, Hid (costTo cs k e = a) := ⟨_, Lib.hid rfl⟩
                    rw [hcee.out] at hce HSU ⊢
                    have hqq : (k : Int) / 2 ^ e = ((k / 2 ^ e : Nat) : Int) := by simp
                    have hand := Go.Proofs.and_one (k / 2 ^ e) (Nat.lt_of_le_of_lt (Nat.div_le_self _ _) (by omega))
                    rw [← hqq] at hand
                    by_cases hbit : k.testBit e = true
                    · rw [Nat.testBit_eq_decide_div_mod_eq, decide_eq_true_iff] at hbit
                      have hb2 : bits .and .i64 ((k : Int) / 2 ^ e) 1 = 1 := by rw [hand, hbit]; rfl
                      rw [Nat.testBit_eq_decide_div_mod_eq, decide_eq_true hbit, if_pos rfl] at HSU
                      clear hand hqq
                      go_wp2_with fail
                      go_roundw
                      case rel => exact ⟨e + 1, by omega, by go_num, by rw [HSU.out], (by first | trivial | rfl)⟩
                      case measure => simp [intOf]; omega
                    · have hbf : k / 2 ^ e % 2 = 0 := by
                        rw [Nat.testBit_eq_decide_div_mod_eq, decide_eq_true_iff] at hbit
                        omega
                      have hb2 : bits .and .i64 ((k : Int) / 2 ^ e) 1 = 0 := by rw [hand, hbf]; rfl
                      rw [if_neg hbit, Int.add_zero] at HSU
                      clear hand hqq
                      go_wp2_with fail
                      go_roundw
                      case rel => exact ⟨e + 1, by omega, by go_num, by rw [HSU.out], (by first | trivial | rfl)⟩
                      case measure => simp [intOf]; omega
                  · have hall := Lib.hid (show costTo cs k e = costW cs k by rw [show e = cs.length by omega, costTo_all])
                    rw [hall.out]
                    obtain ⟨cw, hcwe⟩ : ∃ a, Hid (costW cs k = a) := ⟨_, Lib.hid rfl⟩
                    rw [hcwe.out] at HCH hcw ⊢
                    by_cases hl : cw < l'
                    · have hl' : decide (cw < l') = true := decide_eq_true hl
                      go_wp2_with fail
                      go_roundw
                      case rel => exact ⟨k + 1, k, cw, by omega, by go_num, rfl, rfl, Lib.hid (HCH.out.2.2 HYES.out hl), (by first | trivial | rfl)⟩
                      case measure => simp [intOf]; omega
                    · have hl' : decide (cw < l') = false := decide_eq_false hl
                      go_wp2_with fail
                      go_roundw
                      case rel => exact ⟨k + 1, b', l', by omega, by go_num, rfl, rfl, Lib.hid (HCH.out.2.1 HYES.out (by omega)), (by first | trivial | rfl)⟩
                      case measure => simp [intOf]; omega
        · have hkN : k = N := by omega
          subst hkN
          go_wp2_with fail
          refine bodyPost_ret (v := .tuple #[.int .i64 b', .int .i64 l']) ?_ rfl ⟨b', l', rfl, by rw [HN.out]; exact hch.out, by repeat (first | with_reducible exact hBr | with_reducible apply bdrew | with_reducible apply bdrewN | with_reducible apply balloc | ((with_reducible refine bset ?_ ?_ _); rotate_left; (first | omega | (simp <;> omega))))⟩
          simp [results, Try.results51, go_sem]


end Go.Proofs.Ytihkgdlanfemcaa
