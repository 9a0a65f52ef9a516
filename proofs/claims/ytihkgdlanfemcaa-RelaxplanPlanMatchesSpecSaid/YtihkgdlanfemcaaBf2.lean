/-
  R.Applies, After: what they return.
-/
import Derived.Test.YtihkgdlanfemcaaBf1
import Derived.Test.YtihkgdlanfemcaaSt3
import Derived.Test.YtihkgdlanfemcaaMF
import Derived.Test.YtihkgdlanfemcaaMG
namespace Go.Proofs.Ytihkgdlanfemcaa
open Go.RowKit
set_option linter.unusedVariables false
set_option linter.unusedSimpArgs false

theorem subset_w' (A B : Option Addr) (c d : Nat) (xs ys : List Int) (w : World) (v : Bool) (hI : Ints w A xs) (hJ : Ints w B ys) (hl : xs.length ≤ 9223372036854775807) (hm : ys.length ≤ 9223372036854775807) (hv : (∀ x ∈ xs, x ∈ ys) ↔ v = true) :
    Calls Try.prog 73 #[.slice A xs.length c, .slice B ys.length d] w fun e w' => e = .returned (.bool v) ∧ w = w' :=
  (subset_any A B c d xs ys w hI hJ hl hm).mono fun e w' h => ⟨by
    rw [h.1]
    cases v with
    | true => rw [decide_eq_true (hv.2 rfl)]
    | false => rw [decide_eq_false (fun h => by have := hv.1 h; cases this)], h.2⟩
set_option maxRecDepth 100000 in
set_option maxHeartbeats 1000000 in
theorem applies_any (w : World) (t : TaskV) (Ai Ag Ao : Option Addr) (ci cg co : Nat) (hT : TaskMem w Ai Ag Ao t) (S : Option Addr) (cs : Nat) (st : List Int) (hS : Ints w S st) (hlS : st.length ≤ 9223372036854775807) (h40 : t.ops.length ≤ 1000000) (k : Nat) (hlt : k < t.ops.length) (v : Bool) (hval : CanV t.ops st (k : Int) ↔ v = true) :
    Calls Try.prog 80 #[.agg #[.int .i64 t.facts, .slice Ai t.init.length ci, .slice Ag t.goal.length cg, .slice Ao t.ops.length co], .slice S st.length cs, .int .i64 (k : Int)] w fun e w' => e = .returned (.bool v) ∧ Below w.heap.size w w' := by
  obtain ⟨ad, o, A0, c0, A1, c1, A2, c2, rfl, ho, hc0, hc1, hc2, hc3, hm⟩ := hT.ops.at2 (w' := (w.alloc (.cells #[.int .i64 t.facts, .slice Ai t.init.length ci, .slice Ag t.goal.length cg, .slice Ao t.ops.length co] 25))) (by repeat (first | with_reducible exact Below.refl _ _ | with_reducible apply bdrew | with_reducible apply bdrewN | with_reducible apply balloc | ((with_reducible refine bset ?_ ?_ _); rotate_left; (first | omega | (simp <;> omega))))) hlt
  have hlp := hm.lpre.le
  have hk0 : (0 : Int) ≤ (k : Int) := by omega
  have hk1 : (k : Int) < (t.ops.length : Int) := by omega
  have HC : Hid ((∀ q ∈ o.pre, q ∈ st) ↔ v = true) := Lib.hid (by
    rw [← hval]
    constructor
    · exact fun h => ⟨o, by simpa using ho.out, h⟩
    · rintro ⟨o', h1, h2⟩
      have h3 := ho.out
      simp only [Int.toNat_natCast] at h1
      rw [h1] at h3
      injection h3 with h3
      rw [← h3]; exact h2)
  clear hval
  go_enter Try.func80, Try.ntmps80
  go_wp2_with fail
  refine (subset_w' _ _ _ _ _ _ _ v (hm.pre.below (by repeat (first | with_reducible exact Below.refl _ _ | with_reducible apply bdrew | with_reducible apply bdrewN | with_reducible apply balloc | ((with_reducible refine bset ?_ ?_ _); rotate_left; (first | omega | (simp <;> omega)))))) (hS.below (by repeat (first | with_reducible exact Below.refl _ _ | with_reducible apply bdrew | with_reducible apply bdrewN | with_reducible apply balloc | ((with_reducible refine bset ?_ ?_ _); rotate_left; (first | omega | (simp <;> omega)))))) hlp hlS HC.out).mono ?_
  rintro e w9 ⟨rfl, rfl⟩
  go_wp2
  refine bodyPost_ret (v := .bool v) ?_ rfl ⟨rfl, by repeat (first | with_reducible exact Below.refl _ _ | with_reducible apply bdrew | with_reducible apply bdrewN | with_reducible apply balloc | ((with_reducible refine bset ?_ ?_ _); rotate_left; (first | omega | (simp <;> omega))))⟩
  simp [results, Try.results80, go_sem]

/-- The state after an operator, up to a fact. -/
def nextTo (s : List Int) (o : OpV) (k : Nat) : List Int := ((List.range k).map fun (p : Nat) => (p : Int)).filter fun p => decide (p ∈ o.add ∨ (p ∈ s ∧ p ∉ o.del))
theorem nextTo_len (s : List Int) (o : OpV) (k : Nat) : (nextTo s o k).length ≤ k := by
  unfold nextTo
  exact Nat.le_trans (List.length_filter_le _ _) (by simp)
theorem nextTo_yes {s : List Int} {o : OpV} {k : Nat} (h : (k : Int) ∈ o.add ∨ ((k : Int) ∈ s ∧ (k : Int) ∉ o.del)) : nextTo s o k ++ [(k : Int)] = nextTo s o (k + 1) := by
  unfold nextTo
  rw [List.range_succ, List.map_append, List.filter_append]
  congr 1
  simp only [List.map_cons, List.map_nil, List.filter_cons, List.filter_nil]
  rw [if_pos (decide_eq_true h)]
theorem nextTo_no {s : List Int} {o : OpV} {k : Nat} (h : ¬ ((k : Int) ∈ o.add ∨ ((k : Int) ∈ s ∧ (k : Int) ∉ o.del))) : nextTo s o (k + 1) = nextTo s o k := by
  unfold nextTo
  rw [List.range_succ, List.map_append, List.filter_append]
  simp only [List.map_cons, List.map_nil, List.filter_cons, List.filter_nil]
  rw [if_neg (by simpa using h), List.append_nil]
set_option maxRecDepth 100000 in
set_option maxHeartbeats 1000000 in
theorem after_any (w : World) (t : TaskV) (Ai Ag Ao : Option Addr) (ci cg co : Nat) (hT : TaskMem w Ai Ag Ao t) (S : Option Addr) (cs : Nat) (st : List Int) (hS : Ints w S st) (hlS : st.length ≤ 9223372036854775807) (h40 : t.ops.length ≤ 1000000) (n : Nat) (hn : t.facts = n) (hn24 : n ≤ 1000) (k : Nat) (hlt : k < t.ops.length) :
    Calls Try.prog 81 #[.agg #[.int .i64 t.facts, .slice Ai t.init.length ci, .slice Ag t.goal.length cg, .slice Ao t.ops.length co], .slice S st.length cs, .int .i64 (k : Int)] w fun e w' => ∃ v, e = .returned v ∧ OwnI w.heap.size w' v (nextV n st (opAt t.ops (k : Int))) ∧ Below w.heap.size w w' := by
  obtain ⟨ad, o, A0, c0, A1, c1, A2, c2, rfl, ho, hc0, hc1, hc2, hc3, hm⟩ := hT.ops.at2 (Below.refl w.heap.size w) hlt
  have hla := hm.ladd.le
  have hld := hm.ldel.le
  have hk0 : (0 : Int) ≤ (k : Int) := by omega
  have hk1 : (k : Int) < (t.ops.length : Int) := by omega
  have HE := Lib.hid (show nextTo st o n = nextV n st (opAt t.ops (k : Int)) by rw [opAt_of (o := o) (by simpa using ho.out)]; rfl)
  have hl1 := World.block_lt_of_cell? w _ hc1
  rw [hn]
  clear hn
  go_enter Try.func81, Try.ntmps81
  go_wp2_with fail
  go_loopw [7, 8] (fun v i wr => ∃ p : Nat, p ≤ n ∧ i = .int .i64 p ∧ OwnI (w.heap.size + 1) wr v (nextTo st o p) ∧ Below w.heap.size w wr ∧ Cls wr [(w.heap.size, 0, .int .i64 (n : Int)), (w.heap.size, 1, .slice Ai t.init.length ci), (w.heap.size, 2, .slice Ag t.goal.length cg), (w.heap.size, 3, .slice (some ad) t.ops.length co)]) (fun _ i _ => n - (intOf i).toNat)
  case atStart => exact ⟨0, Nat.zero_le _, rfl, OwnI.nil _ _, (by repeat (first | with_reducible exact Below.refl _ _ | with_reducible apply bdrew | with_reducible apply bdrewN | with_reducible apply balloc | ((with_reducible refine bset ?_ ?_ _); rotate_left; (first | omega | (simp <;> omega))))), (by simp [Cls, go_sem])⟩
  case round =>
    obtain ⟨p, hp, rfl, hown, hBr, hCr⟩ := hrel
    obtain ⟨w1, rfl⟩ : ∃ wo : World, wo = wr := ⟨_, rfl⟩
    have drs := hBr.size
    have Fr := hCr
    simp only [Cls, and_true] at Fr
    have yrw0 : w.heap.size < w1.heap.size := hCr.blk (b := w.heap.size) (k := 0) (v := .int .i64 (n : Int)) (by simp)
    have yrwp1 : w.heap.size < w1.heap.size + 1 := (by omega)
    have yrwp2 : w.heap.size < w1.heap.size + 1 + 1 := (by omega)
    have hx1 := (hBr.cell (World.block_lt_of_cell? w _ hc1)).trans hc1
    have hx2 := (hBr.cell (World.block_lt_of_cell? w _ hc2)).trans hc2
    have hlen : (nextTo st o p).length < 1000000000000 := by have := nextTo_len st o p; omega
    by_cases hlt2 : p < n
    · by_cases ha : (p : Int) ∈ o.add
      · have HA := Lib.hid ha
        have HY := Lib.hid (nextTo_yes (s := st) (o := o) (k := p) (.inl ha))
        clear ha
        go_wp2_with fail
        refine (has_yes _ _ _ _ _ (hm.add.below (by repeat (first | with_reducible exact hBr | with_reducible apply bdrew | with_reducible apply bdrewN | with_reducible apply balloc | ((with_reducible refine bset ?_ ?_ _); rotate_left; (first | omega | (simp <;> omega)))))) hla HA.out).mono ?_
        rintro e w9 ⟨rfl, hW⟩
        rw [← hW]
        clear hW w9
        go_wp2_with (at_builtin; go_must (refine wpList_push rfl (.tmp 39) (.tmp 41) rfl w [(w.heap.size, 0, .int .i64 (n : Int)), (w.heap.size, 1, .slice Ai t.init.length ci), (w.heap.size, 2, .slice Ag t.goal.length cg), (w.heap.size, 3, .slice (some ad) t.ops.length co)] ((w.heap.size + 1)) u7 _ ((p : Int)) rfl (OwnI.below hown ?p1) ⟨w1.heap.size, 0, none⟩ 1 rfl ?p2 hlen ?p3 ?p4 ?p5 ?p6 ?p7 ?_; (case p1 => repeat (first | with_reducible exact Below.refl _ _ | with_reducible apply bdrew | with_reducible apply bdrewN | with_reducible apply balloc | ((with_reducible refine bset ?_ ?_ _); rotate_left; (first | omega | (simp <;> omega))))); (case p2 => simp [Cls, go_sem, Fr, yrw0, yrwp1, yrwp2]); (case p3 => (first | omega | (simp <;> omega))); (case p4 => (first | omega | (simp <;> omega))); (case p5 => repeat (first | with_reducible exact hBr | with_reducible apply bdrew | with_reducible apply bdrewN | with_reducible apply balloc | ((with_reducible refine bset ?_ ?_ _); rotate_left; (first | omega | (simp <;> omega))))); (case p6 => simp [Cls, go_sem, Fr, yrw0, yrwp1, yrwp2]); (case p7 => (simp <;> omega)); intro v2 w2 o2 D2 C2 sz2; have d2s := D2.size; have F2 := C2; simp only [Cls, and_true] at F2; have y2w0 : w.heap.size < w2.heap.size := C2.blk (b := w.heap.size) (k := 0) (v := .int .i64 (n : Int)) (by simp); have y2wp1 : w.heap.size < w2.heap.size + 1 := (by omega); have y2wp2 : w.heap.size < w2.heap.size + 1 + 1 := (by omega)))
        go_roundw
        case rel => exact ⟨p + 1, by omega, by go_num, by rw [← HY.out]; exact o2, D2, C2⟩
        case measure => simp [intOf]; omega
      · have HA := Lib.hid ha
        by_cases hs : (p : Int) ∈ st
        · have HS := Lib.hid hs
          by_cases hd : (p : Int) ∈ o.del
          · have HD := Lib.hid hd
            have HY := Lib.hid (nextTo_no (s := st) (o := o) (k := p) (fun h => by rcases h with h | h; exact ha h; exact h.2 hd))
            clear ha hs hd
            go_wp2_with fail
            refine (has_no _ _ _ _ _ (hm.add.below (by repeat (first | with_reducible exact hBr | with_reducible apply bdrew | with_reducible apply bdrewN | with_reducible apply balloc | ((with_reducible refine bset ?_ ?_ _); rotate_left; (first | omega | (simp <;> omega)))))) hla HA.out).mono ?_
            rintro e w9 ⟨rfl, hW⟩
            rw [← hW]
            clear hW w9
            go_wp2_with fail
            refine (has_yes _ _ _ _ _ (hS.below (by repeat (first | with_reducible exact hBr | with_reducible apply bdrew | with_reducible apply bdrewN | with_reducible apply balloc | ((with_reducible refine bset ?_ ?_ _); rotate_left; (first | omega | (simp <;> omega)))))) hlS HS.out).mono ?_
            rintro e w9 ⟨rfl, hW⟩
            rw [← hW]
            clear hW w9
            go_wp2_with fail
            refine (has_yes _ _ _ _ _ (hm.del.below (by repeat (first | with_reducible exact hBr | with_reducible apply bdrew | with_reducible apply bdrewN | with_reducible apply balloc | ((with_reducible refine bset ?_ ?_ _); rotate_left; (first | omega | (simp <;> omega)))))) hld HD.out).mono ?_
            rintro e w9 ⟨rfl, hW⟩
            rw [← hW]
            clear hW w9
            go_wp2
            go_roundw
            case rel => exact ⟨p + 1, by omega, by go_num, by rw [HY.out]; exact hown, (by repeat (first | with_reducible exact hBr | with_reducible apply bdrew | with_reducible apply bdrewN | with_reducible apply balloc | ((with_reducible refine bset ?_ ?_ _); rotate_left; (first | omega | (simp <;> omega))))), (by simp [Cls, go_sem, Fr, yrw0, yrwp1, yrwp2])⟩
            case measure => simp [intOf]; omega
          · have HD := Lib.hid hd
            have HY := Lib.hid (nextTo_yes (s := st) (o := o) (k := p) (.inr ⟨hs, hd⟩))
            clear ha hs hd
            go_wp2_with fail
            refine (has_no _ _ _ _ _ (hm.add.below (by repeat (first | with_reducible exact hBr | with_reducible apply bdrew | with_reducible apply bdrewN | with_reducible apply balloc | ((with_reducible refine bset ?_ ?_ _); rotate_left; (first | omega | (simp <;> omega)))))) hla HA.out).mono ?_
            rintro e w9 ⟨rfl, hW⟩
            rw [← hW]
            clear hW w9
            go_wp2_with fail
            refine (has_yes _ _ _ _ _ (hS.below (by repeat (first | with_reducible exact hBr | with_reducible apply bdrew | with_reducible apply bdrewN | with_reducible apply balloc | ((with_reducible refine bset ?_ ?_ _); rotate_left; (first | omega | (simp <;> omega)))))) hlS HS.out).mono ?_
            rintro e w9 ⟨rfl, hW⟩
            rw [← hW]
            clear hW w9
            go_wp2_with fail
            refine (has_no _ _ _ _ _ (hm.del.below (by repeat (first | with_reducible exact hBr | with_reducible apply bdrew | with_reducible apply bdrewN | with_reducible apply balloc | ((with_reducible refine bset ?_ ?_ _); rotate_left; (first | omega | (simp <;> omega)))))) hld HD.out).mono ?_
            rintro e w9 ⟨rfl, hW⟩
            rw [← hW]
            clear hW w9
            go_wp2_with (at_builtin; go_must (refine wpList_push rfl (.tmp 39) (.tmp 41) rfl w [(w.heap.size, 0, .int .i64 (n : Int)), (w.heap.size, 1, .slice Ai t.init.length ci), (w.heap.size, 2, .slice Ag t.goal.length cg), (w.heap.size, 3, .slice (some ad) t.ops.length co)] ((w.heap.size + 1)) u7 _ ((p : Int)) rfl (OwnI.below hown ?p1) ⟨w1.heap.size, 0, none⟩ 1 rfl ?p2 hlen ?p3 ?p4 ?p5 ?p6 ?p7 ?_; (case p1 => repeat (first | with_reducible exact Below.refl _ _ | with_reducible apply bdrew | with_reducible apply bdrewN | with_reducible apply balloc | ((with_reducible refine bset ?_ ?_ _); rotate_left; (first | omega | (simp <;> omega))))); (case p2 => simp [Cls, go_sem, Fr, yrw0, yrwp1, yrwp2]); (case p3 => (first | omega | (simp <;> omega))); (case p4 => (first | omega | (simp <;> omega))); (case p5 => repeat (first | with_reducible exact hBr | with_reducible apply bdrew | with_reducible apply bdrewN | with_reducible apply balloc | ((with_reducible refine bset ?_ ?_ _); rotate_left; (first | omega | (simp <;> omega))))); (case p6 => simp [Cls, go_sem, Fr, yrw0, yrwp1, yrwp2]); (case p7 => (simp <;> omega)); intro v2 w2 o2 D2 C2 sz2; have d2s := D2.size; have F2 := C2; simp only [Cls, and_true] at F2; have y2w0 : w.heap.size < w2.heap.size := C2.blk (b := w.heap.size) (k := 0) (v := .int .i64 (n : Int)) (by simp); have y2wp1 : w.heap.size < w2.heap.size + 1 := (by omega); have y2wp2 : w.heap.size < w2.heap.size + 1 + 1 := (by omega)))
            go_roundw
            case rel => exact ⟨p + 1, by omega, by go_num, by rw [← HY.out]; exact o2, D2, C2⟩
            case measure => simp [intOf]; omega
        · have HS := Lib.hid hs
          have HY := Lib.hid (nextTo_no (s := st) (o := o) (k := p) (fun h => by rcases h with h | h; exact ha h; exact hs h.1))
          clear ha hs
          go_wp2_with fail
          refine (has_no _ _ _ _ _ (hm.add.below (by repeat (first | with_reducible exact hBr | with_reducible apply bdrew | with_reducible apply bdrewN | with_reducible apply balloc | ((with_reducible refine bset ?_ ?_ _); rotate_left; (first | omega | (simp <;> omega)))))) hla HA.out).mono ?_
          rintro e w9 ⟨rfl, hW⟩
          rw [← hW]
          clear hW w9
          go_wp2_with fail
          refine (has_no _ _ _ _ _ (hS.below (by repeat (first | with_reducible exact hBr | with_reducible apply bdrew | with_reducible apply bdrewN | with_reducible apply balloc | ((with_reducible refine bset ?_ ?_ _); rotate_left; (first | omega | (simp <;> omega)))))) hlS HS.out).mono ?_
          rintro e w9 ⟨rfl, hW⟩
          rw [← hW]
          clear hW w9
          go_wp2
          go_roundw
          case rel => exact ⟨p + 1, by omega, by go_num, by rw [HY.out]; exact hown, (by repeat (first | with_reducible exact hBr | with_reducible apply bdrew | with_reducible apply bdrewN | with_reducible apply balloc | ((with_reducible refine bset ?_ ?_ _); rotate_left; (first | omega | (simp <;> omega))))), (by simp [Cls, go_sem, Fr, yrw0, yrwp1, yrwp2])⟩
          case measure => simp [intOf]; omega
    · obtain rfl : p = n := by omega
      rw [HE.out] at hown
      go_wp2
      refine bodyPost_ret (v := u7) ?_ rfl ⟨_, rfl, OwnI.mono hown (by omega), by repeat (first | with_reducible exact hBr | with_reducible apply bdrew | with_reducible apply bdrewN | with_reducible apply balloc | ((with_reducible refine bset ?_ ?_ _); rotate_left; (first | omega | (simp <;> omega))))⟩
      simp [results, Try.results81, go_sem]


end Go.Proofs.Ytihkgdlanfemcaa
