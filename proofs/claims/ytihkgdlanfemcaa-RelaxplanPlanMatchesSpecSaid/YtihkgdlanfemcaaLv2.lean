/-
  S.LevelsOf: what it returns.
-/
import Derived.Test.YtihkgdlanfemcaaLv1
import Derived.Test.YtihkgdlanfemcaaMF
namespace Go.Proofs.Ytihkgdlanfemcaa
open Go.RowKit
set_option linter.unusedVariables false
set_option linter.unusedSimpArgs false

/-- The layer as a list. -/
structure LayS (n : Nat) (st : List Int) (ops : List OpV) (L : Nat) (l : List Int) : Prop where
  set : SetP l (n : Int)
  mem : ∀ x, x ∈ l ↔ layP st ops L x
/-- The next layer, as far as it is made. -/
structure NxtS (n : Nat) (st : List Int) (ops : List OpV) (L i j : Nat) (l : List Int) : Prop where
  set : SetP l (n : Int)
  mem : ∀ x, x ∈ l ↔ layP st ops L x ∨ Added st ops L i j x
section
variable {n : Nat} {st : List Int} {ops : List OpV} {L i j : Nat} {l : List Int}
theorem LayS.start (h : SetP st (n : Int)) : LayS n st ops 0 st := ⟨h, fun x => Iff.rfl⟩
theorem LayS.nxt (h : LayS n st ops L l) : NxtS n st ops L 0 0 l := ⟨h.set, fun x => by rw [h.mem]; exact ⟨.inl, fun h => h.elim id (fun h => absurd h (added_zero _))⟩⟩
theorem NxtS.of_added (h : NxtS n st ops L i j l) {i' j' : Nat} (he : ∀ p, Added st ops L i' j' p ↔ Added st ops L i j p) : NxtS n st ops L i' j' l := ⟨h.set, fun x => by rw [h.mem, he]⟩
theorem NxtS.next (h : NxtS n st ops L ops.length 0 l) : LayS n st ops (L + 1) l := ⟨h.set, fun x => by rw [h.mem, lay_added]⟩
theorem NxtS.had (h : NxtS n st ops L i j l) {o : OpV} (ho : ops[i]? = some o) (hc : ∀ q ∈ o.pre, layP st ops L q) {x : Int} (hx : o.add[j]? = some x) (hin : layP st ops L x ∨ Added st ops L i j x) : NxtS n st ops L i (j + 1) l :=
  ⟨h.set, fun y => by
    rw [h.mem, added_next ho hc hx]
    exact ⟨fun h => h.elim .inl (fun h => .inr (.inl h)), fun h => h.elim .inl (fun h => h.elim .inr (fun e => e ▸ hin))⟩⟩
theorem NxtS.give (h : NxtS n st ops L i j l) {o : OpV} (ho : ops[i]? = some o) (hc : ∀ q ∈ o.pre, layP st ops L q) {x : Int} (hx : o.add[j]? = some x) (x0 : 0 ≤ x) (x1 : x < (n : Int)) : NxtS n st ops L i (j + 1) (withV l x) :=
  ⟨withV_set h.set x0 x1, fun y => by
    rw [withV_mem, h.mem, added_next ho hc hx]
    exact ⟨fun h => h.elim (fun e => .inr (.inr e)) (fun h => h.elim .inl (fun h => .inr (.inl h))), fun h => h.elim (fun h => .inr (.inl h)) (fun h => h.elim (fun h => .inr (.inr h)) .inl)⟩⟩
theorem LevSt.known {V : List Int} (h : LevSt n st ops L i j V) {x : Nat} (hx : x < n) (hv : ¬ valAt V (x : Int) < 0) : layP st ops L (x : Int) ∨ Added st ops L i j (x : Int) := by
  by_cases hl : layP st ops L (x : Int)
  · exact .inl hl
  · rcases h.new x hx hl with ⟨h1, _⟩ | ⟨_, h1⟩
    · exact .inr h1
    · omega
end
def fillZ (st : List Int) (k n : Nat) : List Int := ((List.range k).map fun (p : Nat) => if (p : Int) ∈ st then (0 : Int) else -1) ++ List.replicate (n - k) 0
theorem fillZ_len {st : List Int} {k n : Nat} (h : k ≤ n) : (fillZ st k n).length = n := by simp [fillZ]; omega
theorem fillZ_succ {st : List Int} {k n : Nat} (h : k < n) : (fillZ st k n).set k (if (k : Int) ∈ st then 0 else -1) = fillZ st (k + 1) n := by
  unfold fillZ
  rw [List.set_append_right _ _ (by simp), List.length_map, List.length_range, Nat.sub_self, show n - k = (n - (k + 1)) + 1 by omega, List.replicate_succ, List.set_cons_zero, List.range_succ, List.map_append, List.append_assoc]
  rfl
theorem fillZ_all {st : List Int} (n : Nat) : fillZ st n n = zeroS n st := by simp [fillZ, zeroS]
set_option maxRecDepth 100000 in
set_option maxHeartbeats 2000000 in
theorem levelsof_any (w : World) (t : TaskV) (Ai Ag Ao : Option Addr) (ci cg co : Nat) (hT : TaskMem w Ai Ag Ao t) (S : Option Addr) (cs : Nat) (st : List Int) (hS : Ints w S st) (hnil : S = none → st = [] ∧ cs = 0) (n : Nat) (hn : t.facts = n) (hv : Valid t) (h2 : SetP st t.facts) :
    Calls Try.prog 30 #[.agg #[.int .i64 t.facts, .slice Ai t.init.length ci, .slice Ag t.goal.length cg, .slice Ao t.ops.length co], .slice S st.length cs] w fun e w' => ∃ g, e = .returned (.slice (some ⟨g, 0, none⟩) n n) ∧ w.heap.size ≤ g ∧ IArr w' g (levV n st t.ops) ∧ Below w.heap.size w w' := by
  have HN := Lib.hid hn
  have hn24 : n ≤ 24 := by have := hv.f1; omega
  have HST := Lib.hid (show SetP st (n : Int) by rw [← hn]; exact h2)
  have HOPS := Lib.hid (ops_in hv hn)
  have h40 : t.ops.length ≤ 40 := hv.nops
  have hsl : st.length ≤ 24 := by have := HST.out.length (by omega); omega
  have HNIL := Lib.hid hnil
  rw [hn]
  have hmk := make_ints n (by omega)
  have hlS : st.length ≤ 9223372036854775807 := by omega
  clear hv h2 hn hnil
  go_enter Try.func30, Try.ntmps30
  go_wp2_with fail
  refine (copy_any _ _ _ _ st (hS.below (by repeat (first | with_reducible exact Below.refl _ _ | with_reducible apply bdrew | with_reducible apply bdrewN | with_reducible apply balloc | ((with_reducible refine bset ?_ ?_ _); rotate_left; (first | omega | (simp <;> omega)))))) rfl HNIL.out (by omega)).mono ?_
  rintro e w1 ⟨A1, c1, rfl, o1, hnil1, hB1⟩
  have D1 := dstep w hB1 (by repeat (first | with_reducible exact Below.refl _ _ | with_reducible apply bdrew | with_reducible apply bdrewN | with_reducible apply balloc | ((with_reducible refine bset ?_ ?_ _); rotate_left; (first | omega | (simp <;> omega)))))
  have d1s := D1.size
  have C1 := Cls.below (l := [(w.heap.size, 0, .int .i64 (n : Int)), (w.heap.size, 1, .slice Ai t.init.length ci), (w.heap.size, 2, .slice Ag t.goal.length cg), (w.heap.size, 3, .slice Ao t.ops.length co)]) hB1 (by simp [Cls, go_sem])
  have F1 := C1
  simp only [Cls, and_true] at F1
  have y1w0 : w.heap.size < w1.heap.size := C1.blk (b := w.heap.size) (k := 0) (v := .int .i64 (n : Int)) (by simp)
  have y1wp1 : w.heap.size < w1.heap.size + 1 := (by omega)
  have y1wp2 : w.heap.size < w1.heap.size + 1 + 1 := (by omega)
  have hA1 : IArr w1 (w.heap.size + 1) (fillZ st 0 n) := by
    have h := IArr.made (w.alloc (.cells #[.int .i64 (n : Int), .slice Ai t.init.length ci, .slice Ag t.goal.length cg, .slice Ao t.ops.length co] 25)) n (w.heap.size + 1) (by simp)
    have h2 : IArr _ (w.heap.size + 1) (fillZ st 0 n) := (by simpa [fillZ] using h)
    exact h2.below hB1
  have o1' : OwnI (w.heap.size + 1 + 1) w1 (.slice A1 st.length c1) st := OwnI.mono o1 (by simp)
  have z1 := hB1.size
  simp at z1
  clear hnil1 o1
  go_wp2_with fail
  go_loopw [7] (fun i wr => ∃ k : Nat, k ≤ n ∧ i = .int .i64 k ∧ IArr wr (w.heap.size + 1) (fillZ st k n) ∧ OwnI (w.heap.size + 1 + 1) wr (.slice A1 st.length c1) st ∧ (w.heap.size + 1 + 1) ≤ wr.heap.size ∧ Below w.heap.size w wr ∧ Cls wr [(w.heap.size, 0, .int .i64 (n : Int)), (w.heap.size, 1, .slice Ai t.init.length ci), (w.heap.size, 2, .slice Ag t.goal.length cg), (w.heap.size, 3, .slice Ao t.ops.length co)]) (fun i _ => n - (intOf i).toNat)
  case atStart => exact ⟨0, Nat.zero_le _, rfl, hA1, o1', by omega, (by repeat (first | with_reducible exact D1 | with_reducible apply bdrew | with_reducible apply bdrewN | with_reducible apply balloc | ((with_reducible refine bset ?_ ?_ _); rotate_left; (first | omega | (simp <;> omega))))), (by simp [Cls, go_sem, F1, y1w0, y1wp1, y1wp2])⟩
  case round =>
    clear hA1 o1' z1
    obtain ⟨k, hk, rfl, hA, hO, hz, hBr, hCr⟩ := hrel
    obtain ⟨w2, rfl⟩ : ∃ wo : World, wo = wr := ⟨_, rfl⟩
    have drs := hBr.size
    have Fr := hCr
    simp only [Cls, and_true] at Fr
    have yrw0 : w.heap.size < w2.heap.size := hCr.blk (b := w.heap.size) (k := 0) (v := .int .i64 (n : Int)) (by simp)
    have yrwp1 : w.heap.size < w2.heap.size + 1 := (by omega)
    have yrwp2 : w.heap.size < w2.heap.size + 1 + 1 := (by omega)
    by_cases hlt : k < n
    · obtain ⟨x, hx, hc, hf⟩ := hA.cell (i := k) (by rw [fillZ_len hk]; exact hlt)
      by_cases hin : (k : Int) ∈ st
      · have HF := Lib.hid (fillZ_succ (st := st) hlt)
        rw [if_pos hin] at HF
        have HIN := Lib.hid hin
        clear hin
        go_wp2_with fail
        refine (has_yes _ _ _ _ _ (hS.below (by repeat (first | with_reducible exact hBr | with_reducible apply bdrew | with_reducible apply bdrewN | with_reducible apply balloc | ((with_reducible refine bset ?_ ?_ _); rotate_left; (first | omega | (simp <;> omega)))))) hlS HIN.out).mono ?_
        rintro e w9 ⟨rfl, hW9⟩
        rw [← hW9]
        clear hW9 w9
        go_wp2
        go_roundw
        case rel => exact ⟨k + 1, by omega, by go_num, by rw [← HF.out]; have h := (hA.set_ k (-1)).set_ k 0; rwa [List.set_set] at h, (hO.far (by simp; try omega) _).far (by simp; try omega) _, by simp; omega, (by repeat (first | with_reducible exact hBr | with_reducible apply bdrew | with_reducible apply bdrewN | with_reducible apply balloc | ((with_reducible refine bset ?_ ?_ _); rotate_left; (first | omega | (simp <;> omega))))), (by simp [Cls, go_sem, Fr, yrw0, yrwp1, yrwp2])⟩
        case measure => simp [intOf]; omega
      · have HF := Lib.hid (fillZ_succ (st := st) hlt)
        rw [if_neg hin] at HF
        have HIN := Lib.hid hin
        clear hin
        go_wp2_with fail
        refine (has_no _ _ _ _ _ (hS.below (by repeat (first | with_reducible exact hBr | with_reducible apply bdrew | with_reducible apply bdrewN | with_reducible apply balloc | ((with_reducible refine bset ?_ ?_ _); rotate_left; (first | omega | (simp <;> omega)))))) hlS HIN.out).mono ?_
        rintro e w9 ⟨rfl, hW9⟩
        rw [← hW9]
        clear hW9 w9
        go_wp2
        go_roundw
        case rel => exact ⟨k + 1, by omega, by go_num, by rw [← HF.out]; exact hA.set_ k (-1), hO.far (by simp; try omega) _, by simp; omega, (by repeat (first | with_reducible exact hBr | with_reducible apply bdrew | with_reducible apply bdrewN | with_reducible apply balloc | ((with_reducible refine bset ?_ ?_ _); rotate_left; (first | omega | (simp <;> omega))))), (by simp [Cls, go_sem, Fr, yrw0, yrwp1, yrwp2])⟩
        case measure => simp [intOf]; omega
    · have hke : k = n := by omega
      rw [hke, fillZ_all] at hA
      have HL0 := Lib.hid (LevSt.start (st := st) (ops := t.ops) (zeroS_len n st) (fun p hp => zeroS_at hp))
      have HY0 := Lib.hid (LayS.start (ops := t.ops) HST.out)
      clear hke
      go_wp2_with fail
      clear hk hlt
      go_loopw [6, 8] (fun v i wr => ∃ (L : Nat) (V l : List Int), L ≤ n ∧ i = .int .i64 ((L : Int) + 1) ∧ IArr wr (w.heap.size + 1) V ∧ OwnI (w.heap.size + 1 + 1) wr v l ∧ Hid (LevSt n st t.ops L 0 0 V) ∧ Hid (LayS n st t.ops L l) ∧ (w.heap.size + 1 + 1) ≤ wr.heap.size ∧ Below w.heap.size w wr ∧ Cls wr [(w.heap.size, 0, .int .i64 (n : Int)), (w.heap.size, 1, .slice Ai t.init.length ci), (w.heap.size, 2, .slice Ag t.goal.length cg), (w.heap.size, 3, .slice Ao t.ops.length co)]) (fun _ i _ => n + 1 - (intOf i).toNat)
      case atStart => exact ⟨0, _, st, Nat.zero_le _, rfl, hA, hO, HL0, HY0, hz, (by repeat (first | with_reducible exact hBr | with_reducible apply bdrew | with_reducible apply bdrewN | with_reducible apply balloc | ((with_reducible refine bset ?_ ?_ _); rotate_left; (first | omega | (simp <;> omega))))), (by simp [Cls, go_sem, Fr, yrw0, yrwp1, yrwp2])⟩
      case round =>
        clear hA hO HL0 HY0 hz
        obtain ⟨L, V, l, hLn, rfl, hA, hO, hL, hY, hz, hBq, hCq⟩ := hrel
        obtain ⟨w3, rfl⟩ : ∃ wo : World, wo = wr := ⟨_, rfl⟩
        have dqs := hBq.size
        have Fq := hCq
        simp only [Cls, and_true] at Fq
        have yqw0 : w.heap.size < w3.heap.size := hCq.blk (b := w.heap.size) (k := 0) (v := .int .i64 (n : Int)) (by simp)
        have yqwp1 : w.heap.size < w3.heap.size + 1 := (by omega)
        have yqwp2 : w.heap.size < w3.heap.size + 1 + 1 := (by omega)
        by_cases hlt : L < n
        · have hle : ((L : Int) + 1 ≤ (n : Int)) := by omega
          have hll : l.length ≤ 24 := by have := hY.out.set.length (by omega); omega
          obtain ⟨A2, c2, rfl, hnil2, hI2⟩ := hO.form
          have HNL := Lib.hid hnil2
          clear hnil2
          go_wp2_with fail
          refine (copy_any _ _ _ _ l hI2 rfl HNL.out (by omega)).mono ?_
          rintro e w4 ⟨A4, c4, rfl, o4, hnil4, hB4⟩
          have D4 := dstep w hB4 (by repeat (first | with_reducible exact hBq | with_reducible apply bdrew | with_reducible apply bdrewN | with_reducible apply balloc | ((with_reducible refine bset ?_ ?_ _); rotate_left; (first | omega | (simp <;> omega)))))
          have d4s := D4.size
          have C4 := Cls.below (l := [(w.heap.size, 0, .int .i64 (n : Int)), (w.heap.size, 1, .slice Ai t.init.length ci), (w.heap.size, 2, .slice Ag t.goal.length cg), (w.heap.size, 3, .slice Ao t.ops.length co)]) hB4 (by simp [Cls, go_sem, Fq, yqw0, yqwp1, yqwp2])
          have F4 := C4
          simp only [Cls, and_true] at F4
          have y4w0 : w.heap.size < w4.heap.size := C4.blk (b := w.heap.size) (k := 0) (v := .int .i64 (n : Int)) (by simp)
          have y4wp1 : w.heap.size < w4.heap.size + 1 := (by omega)
          have y4wp2 : w.heap.size < w4.heap.size + 1 + 1 := (by omega)
          have hA4 := IArr.below hA hB4
          have hO4 := hO.below hB4
          have z4 := hB4.size
          have o4' : OwnI (w.heap.size + 1 + 1) w4 (.slice A4 l.length c4) l := OwnI.mono o4 (by omega)
          have HX4 := Lib.hid hY.out.nxt
          clear hnil4 o4 hI2 hA hO
          go_wp2_with fail
          go_loopw [9, 10] (fun v i wr => ∃ (k : Nat) (V l2 : List Int), k ≤ t.ops.length ∧ i = .int .i64 k ∧ IArr wr (w.heap.size + 1) V ∧ OwnI (w.heap.size + 1 + 1) wr (.slice A2 l.length c2) l ∧ OwnI (w.heap.size + 1 + 1) wr v l2 ∧ Hid (LevSt n st t.ops L k 0 V) ∧ Hid (NxtS n st t.ops L k 0 l2) ∧ (w.heap.size + 1 + 1) ≤ wr.heap.size ∧ Below w.heap.size w wr ∧ Cls wr [(w.heap.size, 0, .int .i64 (n : Int)), (w.heap.size, 1, .slice Ai t.init.length ci), (w.heap.size, 2, .slice Ag t.goal.length cg), (w.heap.size, 3, .slice Ao t.ops.length co)]) (fun _ i _ => t.ops.length - (intOf i).toNat)
          case atStart => exact ⟨0, V, l, Nat.zero_le _, rfl, hA4, hO4, o4', hL, HX4, by omega, (by repeat (first | with_reducible exact D4 | with_reducible apply bdrew | with_reducible apply bdrewN | with_reducible apply balloc | ((with_reducible refine bset ?_ ?_ _); rotate_left; (first | omega | (simp <;> omega))))), (by simp [Cls, go_sem, F4, y4w0, y4wp1, y4wp2])⟩
          case round =>
            clear hA4 hO4 o4' hL HX4 V hz
            obtain ⟨k, V, l2, hk, rfl, hA, hO, hW, hL, hX, hz, hBs, hCs⟩ := hrel
            obtain ⟨w5, rfl⟩ : ∃ wo : World, wo = wr := ⟨_, rfl⟩
            have dss := hBs.size
            have Fs := hCs
            simp only [Cls, and_true] at Fs
            have ysw0 : w.heap.size < w5.heap.size := hCs.blk (b := w.heap.size) (k := 0) (v := .int .i64 (n : Int)) (by simp)
            have yswp1 : w.heap.size < w5.heap.size + 1 := (by omega)
            have yswp2 : w.heap.size < w5.heap.size + 1 + 1 := (by omega)
            by_cases hlp : k < t.ops.length
            · obtain ⟨ad, o, A0, c0, A3, c3, A5, c5, rfl, ho, hc0, hc1, hc2, hc3, hm⟩ := hT.ops.at_ hlp
              have hs0 := (hBs.cell (World.block_lt_of_cell? w _ hc0)).trans hc0
              have hs1 := (hBs.cell (World.block_lt_of_cell? w _ hc1)).trans hc1
              have hoo := Lib.hid (HOPS.out o (List.mem_of_getElem? ho.out))
              have hlp' := hm.lpre.le
              have hla := hm.ladd.le
              have hI5 := hO.form
              obtain ⟨A6, c6, he6, _, hI5⟩ := hI5
              injection he6 with e1 e2 e3
              subst e1; subst e3
              clear e2
              by_cases hall : ∀ q ∈ o.pre, layP st t.ops L q
              · have HSU := Lib.hid (decide_eq_true (show ∀ x ∈ o.pre, x ∈ l from fun x hx => (hY.out.mem x).2 (hall x hx)))
                have HAL := Lib.hid hall
                clear hall
                go_wp2_with fail
                refine (subset_any _ _ _ _ _ _ _ (hm.pre.below (by repeat (first | with_reducible exact hBs | with_reducible apply bdrew | with_reducible apply bdrewN | with_reducible apply balloc | ((with_reducible refine bset ?_ ?_ _); rotate_left; (first | omega | (simp <;> omega)))))) (hI5.below (by repeat (first | with_reducible exact Below.refl _ _ | with_reducible apply bdrew | with_reducible apply bdrewN | with_reducible apply balloc | ((with_reducible refine bset ?_ ?_ _); rotate_left; (first | omega | (simp <;> omega)))))) hlp' (by omega)).mono ?_
                rintro e w9 ⟨he, hW9⟩
                rw [HSU.out] at he
                subst he
                rw [← hW9]
                clear hW9 w9 hI5
                go_wp2_with fail
                go_loopw [9, 11] (fun v i wr => ∃ (j : Nat) (V l2 : List Int), j ≤ o.add.length ∧ i = .int .i64 j ∧ IArr wr (w.heap.size + 1) V ∧ OwnI (w.heap.size + 1 + 1) wr (.slice A2 l.length c2) l ∧ OwnI (w.heap.size + 1 + 1) wr v l2 ∧ Hid (LevSt n st t.ops L k j V) ∧ Hid (NxtS n st t.ops L k j l2) ∧ (w.heap.size + 1 + 1) ≤ wr.heap.size ∧ Below w.heap.size w wr ∧ Cls wr [(w.heap.size, 0, .int .i64 (n : Int)), (w.heap.size, 1, .slice Ai t.init.length ci), (w.heap.size, 2, .slice Ag t.goal.length cg), (w.heap.size, 3, .slice (some ad) t.ops.length co)]) (fun _ i _ => o.add.length - (intOf i).toNat)
                case atStart => exact ⟨0, V, l2, Nat.zero_le _, rfl, hA, hO, hW, hL, hX, hz, (by repeat (first | with_reducible exact hBs | with_reducible apply bdrew | with_reducible apply bdrewN | with_reducible apply balloc | ((with_reducible refine bset ?_ ?_ _); rotate_left; (first | omega | (simp <;> omega))))), (by simp [Cls, go_sem, Fs, ysw0, yswp1, yswp2])⟩
                case round =>
                  clear hA hO hW hL hX hz V l2
                  obtain ⟨j, V, l2, hj, rfl, hA, hO, hW, hL, hX, hz, hBu, hCu⟩ := hrel
                  obtain ⟨w6, rfl⟩ : ∃ wo : World, wo = wr := ⟨_, rfl⟩
                  have dus := hBu.size
                  have Fu := hCu
                  simp only [Cls, and_true] at Fu
                  have yuw0 : w.heap.size < w6.heap.size := hCu.blk (b := w.heap.size) (k := 0) (v := .int .i64 (n : Int)) (by simp)
                  have yuwp1 : w.heap.size < w6.heap.size + 1 := (by omega)
                  have yuwp2 : w.heap.size < w6.heap.size + 1 + 1 := (by omega)
                  have hu1 := (hBu.cell (World.block_lt_of_cell? w _ hc1)).trans hc1
                  by_cases hlj : j < o.add.length
                  · obtain ⟨pd, x, rfl, hx, hpc⟩ := (hm.add.below hBu).at_ hlj
                    obtain ⟨x0, x1⟩ := hoo.out.2 x (List.mem_of_getElem? hx.out)
                    obtain ⟨x, rfl⟩ := Int.eq_ofNat_of_zero_le x0
                    have hVl := hL.out.len
                    obtain ⟨y, hy, hyc, hyf⟩ := hA.cell (i := x) (by rw [hVl]; omega)
                    have hva := Lib.hid (show valAt V (x : Int) = y from valAt_of (by simpa using hy.out))
                    by_cases hy0 : y < 0
                    · have HL2 := Lib.hid (hL.out.give ho.out HAL.out hx.out (by omega) (by rw [hva.out]; exact hy0))
                      have HX2 := Lib.hid (hX.out.give ho.out HAL.out hx.out x0 x1)
                      have hW' := hW.far (p := ⟨w.heap.size + 1, x, none⟩) (by simp; try omega) (.int .i64 ((L : Int) + 1))
                      have hO' := hO.far (p := ⟨w.heap.size + 1, x, none⟩) (by simp; try omega) (.int .i64 ((L : Int) + 1))
                      have hA' := hA.set_ x ((L : Int) + 1)
                      obtain ⟨A7, c7, rfl, hnil7, hI7⟩ := hW'.form
                      have HN7 := Lib.hid hnil7
                      have hcap := hW.cap_le
                      have hcm := hW.cap_max
                      have hl2 : l2.length ≤ 24 := by have := hX.out.set.length (by omega); omega
                      clear hnil7
                      go_wp2_with fail
                      refine (with_any _ A7 c7 _ l2 (x : Int) hI7 rfl hcap hcm (fun e => (HN7.out e).2) (by omega) hX.out.set.pairwise).mono ?_
                      rintro e w8 ⟨v8, rfl, o8, hB8⟩
                      have D8 := dstep w hB8 (by repeat (first | with_reducible exact hBu | with_reducible apply bdrew | with_reducible apply bdrewN | with_reducible apply balloc | ((with_reducible refine bset ?_ ?_ _); rotate_left; (first | omega | (simp <;> omega)))))
                      have C8 := Cls.below (l := [(w.heap.size, 0, .int .i64 (n : Int)), (w.heap.size, 1, .slice Ai t.init.length ci), (w.heap.size, 2, .slice Ag t.goal.length cg), (w.heap.size, 3, .slice (some ad) t.ops.length co)]) hB8 (by simp [Cls, go_sem, Fu, yuw0, yuwp1, yuwp2])
                      have z8 := hB8.size
                      simp at z8
                      have o8' : OwnI (w.heap.size + 1 + 1) w8 v8 (withV l2 (x : Int)) := OwnI.mono o8 (by simp; omega)
                      go_wp2
                      go_roundw
                      case rel => exact ⟨j + 1, _, _, by omega, by go_num, hA'.below hB8, hO'.below hB8, o8', HL2, HX2, by omega, D8, C8⟩
                      case measure => simp [intOf]; omega
                    · have HL2 := Lib.hid (hL.out.had ho.out HAL.out hx.out (by omega) (by rw [hva.out]; exact hy0))
                      have HX2 := Lib.hid (hX.out.had ho.out HAL.out hx.out (hL.out.known (by omega) (by rw [hva.out]; exact hy0)))
                      go_wp2
                      go_roundw
                      case rel => exact ⟨j + 1, V, l2, by omega, by go_num, hA, hO, hW, HL2, HX2, hz, hBu, hCu⟩
                      case measure => simp [intOf]; omega
                  · have HL2 := Lib.hid (hL.out.row ho.out (by omega))
                    have HX2 := Lib.hid (hX.out.of_added (added_row ho.out (by omega)))
                    go_wp2
                    go_roundw
                    case rel => exact ⟨k + 1, V, l2, by omega, by go_num, hA, hO, hW, HL2, HX2, hz, hBu, hCu⟩
                    case measure => simp [intOf]; omega
              · have HSU := Lib.hid (decide_eq_false (show ¬ ∀ x ∈ o.pre, x ∈ l from fun h => hall fun x hx => (hY.out.mem x).1 (h x hx)))
                have HL2 := Lib.hid (hL.out.skip ho.out hall)
                have HX2 := Lib.hid (hX.out.of_added (added_skip ho.out hall))
                clear hall
                go_wp2_with fail
                refine (subset_any _ _ _ _ _ _ _ (hm.pre.below (by repeat (first | with_reducible exact hBs | with_reducible apply bdrew | with_reducible apply bdrewN | with_reducible apply balloc | ((with_reducible refine bset ?_ ?_ _); rotate_left; (first | omega | (simp <;> omega)))))) (hI5.below (by repeat (first | with_reducible exact Below.refl _ _ | with_reducible apply bdrew | with_reducible apply bdrewN | with_reducible apply balloc | ((with_reducible refine bset ?_ ?_ _); rotate_left; (first | omega | (simp <;> omega)))))) hlp' (by omega)).mono ?_
                rintro e w9 ⟨he, hW9⟩
                rw [HSU.out] at he
                subst he
                rw [← hW9]
                clear hW9 w9 hI5
                go_wp2
                go_roundw
                case rel => exact ⟨k + 1, V, l2, by omega, by go_num, hA, hO, hW, HL2, HX2, hz, hBs, hCs⟩
                case measure => simp [intOf]; omega
            · have hke : k = t.ops.length := by omega
              have HL2 := Lib.hid (show LevSt n st t.ops (L + 1) 0 0 V from by have h := hL.out; rw [hke] at h; exact h.next)
              have HX2 := Lib.hid (show LayS n st t.ops (L + 1) l2 from by have h := hX.out; rw [hke] at h; exact h.next)
              clear hke
              go_wp2
              go_roundw
              case rel => exact ⟨L + 1, V, l2, by omega, by go_num, hA, hW, HL2, HX2, hz, hBs, hCs⟩
              case measure => simp [intOf]; omega
        · have hle : ¬ ((L : Int) + 1 ≤ (n : Int)) := by omega
          have hLe : L = n := by omega
          have HE := Lib.hid (show V = levV n st t.ops from by have h := hL.out; rw [hLe] at h; exact (h.levs rfl).eq)
          rw [HE.out] at hA
          clear hLe
          go_wp2
          refine bodyPost_ret (v := .slice (some ⟨w.heap.size + 1, 0, none⟩) n n) ?_ rfl ⟨_, rfl, by omega, hA, hBq⟩
          simp [results, Try.results30, go_sem, Fq, yqw0, yqwp1, yqwp2]


end Go.Proofs.Ytihkgdlanfemcaa
