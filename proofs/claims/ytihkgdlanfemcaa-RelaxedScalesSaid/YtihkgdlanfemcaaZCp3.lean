/-
  compile.Clone: a fresh task.
-/
import Derived.Test.YtihkgdlanfemcaaZCp2
namespace Go.Proofs.Ytihkgdlanfemcaa
open Go.RowKit
set_option linter.unusedVariables false
set_option linter.unusedSimpArgs false
theorem Fresh.grown {B : Nat} {w w' : World} {A : Option Addr} {c : Nat} {xs : List Int} {row : Option Nat} (h : Fresh B w A c xs) (hg : w.grownBy w' row) (hne : ∀ ad, A = some ad → some ad.block ≠ row) : Fresh B w' A c xs := by
  obtain ⟨A', c', e, hI, hn, h1, h2, h3⟩ := h
  injection e with e
  injection e with e1 e2 e3
  subst e1; subst e3
  exact ⟨A, c, rfl, hI.grown hg hne, hn, h1, h2, fun ad he => ⟨(h3 ad he).1, Nat.lt_of_lt_of_le (h3 ad he).2.1 hg.size, (h3 ad he).2.2⟩⟩
set_option maxRecDepth 100000 in
set_option maxHeartbeats 4000000 in
theorem tclone_any (w : World) (t : TaskV) (Ai Ag Ao : Option Addr) (ci cg co : Nat) (hT : TaskMem w Ai Ag Ao t) (hl1 : t.init.length ≤ 1000000000000) (hl2 : t.goal.length ≤ 1000000000000) (hol : ∀ o ∈ t.ops, o.pre.length ≤ 1000000000000 ∧ o.add.length ≤ 1000000000000 ∧ o.del.length ≤ 1000000000000) (h40 : t.ops.length ≤ 1000000) :
    Calls Try.prog 90 #[.agg #[.int .i64 t.facts, .slice Ai t.init.length ci, .slice Ag t.goal.length cg, .slice Ao t.ops.length co]] w fun e w' => ∃ Ai' ci' Ag' cg' Ao' co', e = .returned (.agg #[.int .i64 t.facts, .slice Ai' t.init.length ci', .slice Ag' t.goal.length cg', .slice Ao' t.ops.length co']) ∧ Fresh w.heap.size w' Ai' ci' t.init ∧ Fresh w.heap.size w' Ag' cg' t.goal ∧ OwnOps w.heap.size w' (.slice Ao' t.ops.length co') t.ops ∧ (∀ g, (Value.slice Ao' t.ops.length co').ownBlock = some g → (∀ ad, Ai' = some ad → ad.block ≠ g) ∧ (∀ ad, Ag' = some ad → ad.block ≠ g)) ∧ Below w.heap.size w w' := by
  have hli : t.init.length ≤ 1000000000000 := hl1
  have hlg : t.goal.length ≤ 1000000000000 := hl2
  have hlo := hT.lops.le
  have HOL := Lib.hid hol
  clear hol
  go_enter Try.func90, Try.ntmps90
  go_wp2_with fail
  have D1 : Below w.heap.size w ((w.alloc (.cells #[.int .i64 t.facts, .slice Ai t.init.length ci, .slice Ag t.goal.length cg, .slice Ao t.ops.length co] 25)).alloc (.cells #[.int .i64 0, .slice none 0 0, .slice none 0 0, .slice none 0 0] 25)) := by repeat (first | with_reducible exact Below.refl _ _ | with_reducible apply bdrew | with_reducible apply bdrewN | with_reducible apply balloc | ((with_reducible refine bset ?_ ?_ _); rotate_left; (first | omega | (simp <;> omega))))
  have C1 : Cls ((w.alloc (.cells #[.int .i64 t.facts, .slice Ai t.init.length ci, .slice Ag t.goal.length cg, .slice Ao t.ops.length co] 25)).alloc (.cells #[.int .i64 0, .slice none 0 0, .slice none 0 0, .slice none 0 0] 25)) [(w.heap.size, 0, .int .i64 t.facts), (w.heap.size, 1, .slice Ai t.init.length ci), (w.heap.size, 2, .slice Ag t.goal.length cg), (w.heap.size, 3, .slice Ao t.ops.length co), (w.heap.size + 1, 0, .int .i64 0), (w.heap.size + 1, 1, .slice none 0 0), (w.heap.size + 1, 2, .slice none 0 0), (w.heap.size + 1, 3, .slice none 0 0)] := by simp [Cls, go_sem]
  have sz1 : ((w.alloc (.cells #[.int .i64 t.facts, .slice Ai t.init.length ci, .slice Ag t.goal.length cg, .slice Ao t.ops.length co] 25)).alloc (.cells #[.int .i64 0, .slice none 0 0, .slice none 0 0, .slice none 0 0] 25)).heap.size = w.heap.size + 1 + 1 := by simp
  generalize (w.alloc (.cells #[.int .i64 t.facts, .slice Ai t.init.length ci, .slice Ag t.goal.length cg, .slice Ao t.ops.length co] 25)).alloc (.cells #[.int .i64 0, .slice none 0 0, .slice none 0 0, .slice none 0 0] 25) = w1 at D1 C1 sz1 ⊢
  go_cut [3] (fun s3 wx => ∃ ob A1 c1 A2 c2, s3 = .pointer (some ⟨ob, 0, none⟩) ∧ w.heap.size + 1 + 1 ≤ ob ∧ ob < wx.heap.size ∧ Fresh (w.heap.size + 1 + 1) wx A1 c1 t.init ∧ Fresh (w.heap.size + 1 + 1) wx A2 c2 t.goal ∧ (∀ ad, A1 = some ad → ad.block ≠ ob) ∧ (∀ ad, A2 = some ad → ad.block ≠ ob) ∧ Below w.heap.size w wx ∧ Cls wx [(w.heap.size, 0, .int .i64 t.facts), (w.heap.size, 1, .slice Ai t.init.length ci), (w.heap.size, 2, .slice Ag t.goal.length cg), (w.heap.size, 3, .slice Ao t.ops.length co), (w.heap.size + 1, 0, .int .i64 0), (w.heap.size + 1, 1, .slice none 0 0), (w.heap.size + 1, 2, .slice none 0 0), (w.heap.size + 1, 3, .slice none 0 0)] ∧ Cls wx [(ob, 0, .int .i64 t.facts), (ob, 1, .slice A1 t.init.length c1), (ob, 2, .slice A2 t.goal.length c2), (ob, 3, .slice none 0 0)])
  case first =>
    have hz1 := Nat.le_of_eq sz1
    have hz2 := Nat.le_of_eq sz1.symm
    clear sz1
    have F1 := C1
    simp only [Cls, and_true] at F1
    have y1w1 : w.heap.size + 1 < w1.heap.size := C1.blk (b := w.heap.size + 1) (k := 0) (v := .int .i64 0) (by simp)
    have y1w0 : w.heap.size < w1.heap.size := (by omega)
    have y1wp1 : w.heap.size < w1.heap.size + 1 := (by omega)
    have y1wp2 : w.heap.size < w1.heap.size + 1 + 1 := (by omega)
    refine wp_region_held_drew (S := fun W => W.cell? ⟨w.heap.size, 0, none⟩ = some (.int .i64 t.facts) ∧ W.cell? ⟨w.heap.size, 1, none⟩ = some (.slice Ai t.init.length ci) ∧ W.cell? ⟨w.heap.size, 2, none⟩ = some (.slice Ag t.goal.length cg)) (by kernel_rfl) (by simp [go_sem, F1, y1w1, y1w0, y1wp1, y1wp2]) (fun hHeld => ?_)
    refine wpAnyH_take (i := 0) (v := ?vo10) rfl (by kernel_rfl) (by kernel_rfl) (by kernel_rfl) (fun _ _ _ h => h) (Or.inl ⟨by rfl, ?ho10⟩) (by assumption) ?ro10
    case ho10 => (intro w hSw; (try dsimp only at hSw); go_simp; (try with_reducible rfl))
    try simp only [Act.put, List.getElem_toArray, List.getElem_cons_succ, List.getElem_cons_zero, List.setIfInBounds_toArray, List.set_cons_zero, List.set_cons_succ]
    refine wpAnyH_take (i := 1) (v := ?vo11) rfl (by kernel_rfl) (by kernel_rfl) (by kernel_rfl) (fun _ _ _ h => h) (Or.inl ⟨by rfl, ?ho11⟩) (by assumption) ?ro11
    case ho11 => (intro w hSw; (try dsimp only at hSw); go_simp; (try with_reducible rfl))
    try simp only [Act.put, List.getElem_toArray, List.getElem_cons_succ, List.getElem_cons_zero, List.setIfInBounds_toArray, List.set_cons_zero, List.set_cons_succ]
    refine wpAnyH_take (i := 2) (v := ?vo12) rfl (by kernel_rfl) (by kernel_rfl) (by kernel_rfl) (fun _ _ _ h => h) (Or.inl ⟨by rfl, ?ho12⟩) (by assumption) ?ro12
    case ho12 => (intro w hSw; (try dsimp only at hSw); go_simp; (try with_reducible rfl))
    try simp only [Act.put, List.getElem_toArray, List.getElem_cons_succ, List.getElem_cons_zero, List.setIfInBounds_toArray, List.set_cons_zero, List.set_cons_succ]
    refine wpAnyH_take (i := 3) (v := ?vo13) rfl (by kernel_rfl) (by kernel_rfl) (by kernel_rfl) (fun _ _ _ h => h) (Or.inl ⟨by rfl, ?ho13⟩) (by assumption) ?ro13
    case ho13 => (intro w hSw; (try dsimp only at hSw); go_simp; (try with_reducible rfl))
    try simp only [Act.put, List.getElem_toArray, List.getElem_cons_succ, List.getElem_cons_zero, List.setIfInBounds_toArray, List.set_cons_zero, List.set_cons_succ]
    refine wpAnyH_take (i := 5) (v := ?vo15) rfl (by kernel_rfl) (by kernel_rfl) (by kernel_rfl) (fun _ _ _ h => h) (Or.inl ⟨by rfl, ?ho15⟩) (by assumption) ?ro15
    case ho15 => (intro w hSw; (try dsimp only at hSw); go_simp; (try with_reducible rfl))
    try simp only [Act.put, List.getElem_toArray, List.getElem_cons_succ, List.getElem_cons_zero, List.setIfInBounds_toArray, List.set_cons_zero, List.set_cons_succ]
    refine wpAnyH_take (i := 6) (v := ?vo16) rfl (by kernel_rfl) (by kernel_rfl) (by kernel_rfl) (fun _ _ _ h => h) (Or.inl ⟨by rfl, ?ho16⟩) (by assumption) ?ro16
    case ho16 => (intro w hSw; (try dsimp only at hSw); go_simp; (try with_reducible rfl))
    try simp only [Act.put, List.getElem_toArray, List.getElem_cons_succ, List.getElem_cons_zero, List.setIfInBounds_toArray, List.set_cons_zero, List.set_cons_succ]
    refine wpAnyH_ready (rs := [4, 9]) (by kernel_rfl) (by simp) ?_
    refine (AllReadyH.cons rfl (fun K hK => ?bo11x4) (AllReadyH.cons rfl (fun K hK => ?bo11x9) AllReadyH.nil))
    case bo11x4 =>
      go_simp
      go_at_call 112
      refine (clone_any _ _ _ _ (hT.init.below (by repeat (first | with_reducible exact D1 | with_reducible apply bdrew | with_reducible apply bdrewN | with_reducible apply balloc | ((with_reducible refine bset ?_ ?_ _); rotate_left; (first | omega | (simp <;> omega)))))) hli).mono ?_
      rintro e w2 ⟨Ai', ci', rfl, hFi, hB2⟩
      have D2 := dstep w hB2 (by repeat (first | with_reducible exact D1 | with_reducible apply bdrew | with_reducible apply bdrewN | with_reducible apply balloc | ((with_reducible refine bset ?_ ?_ _); rotate_left; (first | omega | (simp <;> omega)))))
      have d2s := D2.size
      have C2 := Cls.below (l := [(w.heap.size, 0, .int .i64 t.facts), (w.heap.size, 1, .slice Ai t.init.length ci), (w.heap.size, 2, .slice Ag t.goal.length cg), (w.heap.size, 3, .slice Ao t.ops.length co), (w.heap.size + 1, 0, .int .i64 0), (w.heap.size + 1, 1, .slice none 0 0), (w.heap.size + 1, 2, .slice none 0 0), (w.heap.size + 1, 3, .slice none 0 0)]) hB2 (by simp [Cls, go_sem, F1, y1w1, y1w0, y1wp1, y1wp2])
      have F2 := C2
      simp only [Cls, and_true] at F2
      have y2w1 : w.heap.size + 1 < w2.heap.size := C2.blk (b := w.heap.size + 1) (k := 0) (v := .int .i64 0) (by simp)
      have y2w0 : w.heap.size < w2.heap.size := (by omega)
      have y2wp1 : w.heap.size < w2.heap.size + 1 := (by omega)
      have y2wp2 : w.heap.size < w2.heap.size + 1 + 1 := (by omega)
      have hbi := hFi.blk
      have hbsi := hB2.size
      (first | simp at hbi | skip)
      (first | simp at hbsi | skip)
      have hSS : w2.cell? ⟨w.heap.size, 0, none⟩ = some (.int .i64 t.facts) ∧ w2.cell? ⟨w.heap.size, 1, none⟩ = some (.slice Ai t.init.length ci) ∧ w2.cell? ⟨w.heap.size, 2, none⟩ = some (.slice Ag t.goal.length cg) := (by have q := C2; simp only [Cls, and_true] at q; simp [q])
      go_wp2_with fail
      refine hK.out _ _ hSS (fun hHeld => ?_)
      clear hK K
      try simp only [Act.put, List.getElem_toArray, List.getElem_cons_succ, List.getElem_cons_zero, List.setIfInBounds_toArray, List.set_cons_zero, List.set_cons_succ]
      refine wpAnyH_ready (rs := [7, 9]) (by kernel_rfl) (by simp) ?_
      refine (AllReadyH.cons rfl (fun K hK => ?bo12x7) (AllReadyH.cons rfl (fun K hK => ?bo12x9) AllReadyH.nil))
      case bo12x7 =>
        go_simp
        go_at_call 112
        refine (clone_any _ _ _ _ (hT.goal.below (by repeat (first | with_reducible exact D2 | with_reducible apply bdrew | with_reducible apply bdrewN | with_reducible apply balloc | ((with_reducible refine bset ?_ ?_ _); rotate_left; (first | omega | (simp <;> omega)))))) hlg).mono ?_
        rintro e w3 ⟨Ag', cg', rfl, hFg, hB3⟩
        have D3 := dstep w hB3 (by repeat (first | with_reducible exact D2 | with_reducible apply bdrew | with_reducible apply bdrewN | with_reducible apply balloc | ((with_reducible refine bset ?_ ?_ _); rotate_left; (first | omega | (simp <;> omega)))))
        have d3s := D3.size
        have Ew2_3 := dstep w2 hB3 (by repeat (first | with_reducible exact Below.refl _ _ | with_reducible apply bdrew | with_reducible apply bdrewN | with_reducible apply balloc | ((with_reducible refine bset ?_ ?_ _); rotate_left; (first | omega | (simp <;> omega)))))
        have C3 := Cls.below (l := [(w.heap.size, 0, .int .i64 t.facts), (w.heap.size, 1, .slice Ai t.init.length ci), (w.heap.size, 2, .slice Ag t.goal.length cg), (w.heap.size, 3, .slice Ao t.ops.length co), (w.heap.size + 1, 0, .int .i64 0), (w.heap.size + 1, 1, .slice none 0 0), (w.heap.size + 1, 2, .slice none 0 0), (w.heap.size + 1, 3, .slice none 0 0)]) hB3 (by simp [Cls, go_sem, F2, y2w1, y2w0, y2wp1, y2wp2])
        have F3 := C3
        simp only [Cls, and_true] at F3
        have y3w1 : w.heap.size + 1 < w3.heap.size := C3.blk (b := w.heap.size + 1) (k := 0) (v := .int .i64 0) (by simp)
        have y3w0 : w.heap.size < w3.heap.size := (by omega)
        have y3wp1 : w.heap.size < w3.heap.size + 1 := (by omega)
        have y3wp2 : w.heap.size < w3.heap.size + 1 + 1 := (by omega)
        have hbg := hFg.blk
        have hbsg := hB3.size
        (first | simp at hbg | skip)
        (first | simp at hbsg | skip)
        have hSS : w3.cell? ⟨w.heap.size, 0, none⟩ = some (.int .i64 t.facts) ∧ w3.cell? ⟨w.heap.size, 1, none⟩ = some (.slice Ai t.init.length ci) ∧ w3.cell? ⟨w.heap.size, 2, none⟩ = some (.slice Ag t.goal.length cg) := (by have q := C3; simp only [Cls, and_true] at q; simp [q])
        go_wp2_with fail
        refine hK.out _ _ hSS (fun hHeld => ?_)
        clear hK K
        try simp only [Act.put, List.getElem_toArray, List.getElem_cons_succ, List.getElem_cons_zero, List.setIfInBounds_toArray, List.set_cons_zero, List.set_cons_succ]
        refine wpAnyH_take (i := 8) (v := ?vo1e38) rfl (by kernel_rfl) (by kernel_rfl) (by kernel_rfl) (fun _ _ _ h => h) (Or.inl ⟨by rfl, ?ho1e38⟩) (by assumption) ?ro1e38
        case ho1e38 => (intro w hSw; (try dsimp only at hSw); go_simp; (try with_reducible rfl))
        try simp only [Act.put, List.getElem_toArray, List.getElem_cons_succ, List.getElem_cons_zero, List.setIfInBounds_toArray, List.set_cons_zero, List.set_cons_succ]
        refine wpAnyH_ready (rs := [9]) (by kernel_rfl) (by simp) ?_
        refine (AllReadyH.cons rfl (fun K hK => ?bo14x9) AllReadyH.nil)
        case bo14x9 =>
          go_simp
          have hSS : (w3.alloc (.cells #[.int .i64 0, .slice none 0 0, .slice none 0 0, .slice none 0 0] 25)).cell? ⟨w.heap.size, 0, none⟩ = some (.int .i64 t.facts) ∧ (w3.alloc (.cells #[.int .i64 0, .slice none 0 0, .slice none 0 0, .slice none 0 0] 25)).cell? ⟨w.heap.size, 1, none⟩ = some (.slice Ai t.init.length ci) ∧ (w3.alloc (.cells #[.int .i64 0, .slice none 0 0, .slice none 0 0, .slice none 0 0] 25)).cell? ⟨w.heap.size, 2, none⟩ = some (.slice Ag t.goal.length cg) := (by simp [go_sem, F3, y3w1, y3w0, y3wp1, y3wp2])
          go_wp2_with fail
          refine hK.out _ _ hSS (fun hHeld => ?_)
          clear hK K
          try simp only [Act.put, List.getElem_toArray, List.getElem_cons_succ, List.getElem_cons_zero, List.setIfInBounds_toArray, List.set_cons_zero, List.set_cons_succ]
          refine wpAnyH_ready (rs := [10]) (by kernel_rfl) (by simp) ?_
          refine AllReadyH.cons rfl (fun K hK => ?_) AllReadyH.nil
          go_simp
          have hn1 : ¬ w3.heap.size = w.heap.size := (by omega)
          have hn2 : ¬ w3.heap.size = w.heap.size + 1 := (by omega)
          have hn3 : ¬ w.heap.size = w3.heap.size := (by omega)
          have hn4 : ¬ w.heap.size + 1 = w3.heap.size := (by omega)
          have hSS : (w3.alloc (.cells #[.int .i64 t.facts, .slice Ai' t.init.length ci', .slice Ag' t.goal.length cg', .slice none 0 0] 25)).cell? ⟨w.heap.size, 0, none⟩ = some (.int .i64 t.facts) ∧ (w3.alloc (.cells #[.int .i64 t.facts, .slice Ai' t.init.length ci', .slice Ag' t.goal.length cg', .slice none 0 0] 25)).cell? ⟨w.heap.size, 1, none⟩ = some (.slice Ai t.init.length ci) ∧ (w3.alloc (.cells #[.int .i64 t.facts, .slice Ai' t.init.length ci', .slice Ag' t.goal.length cg', .slice none 0 0] 25)).cell? ⟨w.heap.size, 2, none⟩ = some (.slice Ag t.goal.length cg) := (by simp [go_sem, F3, y3w1, y3w0, y3wp1, y3wp2, hn1, hn2, hn3, hn4])
          go_wp2_with fail
          refine hK.out _ _ hSS (fun hHeld => ?_)
          clear hK K
          try simp only [Act.put, List.getElem_toArray, List.getElem_cons_succ, List.getElem_cons_zero, List.setIfInBounds_toArray, List.set_cons_zero, List.set_cons_succ]
          refine wpAnyH_done (by kernel_rfl) ?_ _
          go_wp2_with fail
          go_meet
          have hnei : ∀ ad, Ai' = some ad → ad.block ≠ w3.heap.size := fun ad he => (by have := hbi ad he; omega)
          have hneg : ∀ ad, Ag' = some ad → ad.block ≠ w3.heap.size := fun ad he => (by have := hbg ad he; omega)
          exact ⟨w3.heap.size, Ai', ci', Ag', cg', rfl, (by omega), (by (first | omega | (simp <;> omega))), ((hFi.below (w' := (w3.alloc (.cells #[.int .i64 t.facts, .slice Ai' t.init.length ci', .slice Ag' t.goal.length cg', .slice none 0 0] 25))) (by repeat (first | with_reducible exact Ew2_3 | with_reducible apply bdrew | with_reducible apply bdrewN | with_reducible apply balloc | ((with_reducible refine bset ?_ ?_ _); rotate_left; (first | omega | (simp <;> omega)))))).mono (by (first | omega | (simp <;> omega)))), ((hFg.below (w' := (w3.alloc (.cells #[.int .i64 t.facts, .slice Ai' t.init.length ci', .slice Ag' t.goal.length cg', .slice none 0 0] 25))) (by repeat (first | with_reducible exact Below.refl _ _ | with_reducible apply bdrew | with_reducible apply bdrewN | with_reducible apply balloc | ((with_reducible refine bset ?_ ?_ _); rotate_left; (first | omega | (simp <;> omega)))))).mono (by (first | omega | (simp <;> omega)))), hnei, hneg, (by repeat (first | with_reducible exact D3 | with_reducible apply bdrew | with_reducible apply bdrewN | with_reducible apply balloc | ((with_reducible refine bset ?_ ?_ _); rotate_left; (first | omega | (simp <;> omega))))), (by simp [Cls, go_sem, F3, y3w1, y3w0, y3wp1, y3wp2, hn1, hn2, hn3, hn4]), (by simp [Cls, go_sem, F3, y3w1, y3w0, y3wp1, y3wp2, hn1, hn2, hn3, hn4])⟩
      case bo12x9 =>
        go_simp
        have hSS : (w2.alloc (.cells #[.int .i64 0, .slice none 0 0, .slice none 0 0, .slice none 0 0] 25)).cell? ⟨w.heap.size, 0, none⟩ = some (.int .i64 t.facts) ∧ (w2.alloc (.cells #[.int .i64 0, .slice none 0 0, .slice none 0 0, .slice none 0 0] 25)).cell? ⟨w.heap.size, 1, none⟩ = some (.slice Ai t.init.length ci) ∧ (w2.alloc (.cells #[.int .i64 0, .slice none 0 0, .slice none 0 0, .slice none 0 0] 25)).cell? ⟨w.heap.size, 2, none⟩ = some (.slice Ag t.goal.length cg) := (by simp [go_sem, F2, y2w1, y2w0, y2wp1, y2wp2])
        go_wp2_with fail
        refine hK.out _ _ hSS (fun hHeld => ?_)
        clear hK K
        try simp only [Act.put, List.getElem_toArray, List.getElem_cons_succ, List.getElem_cons_zero, List.setIfInBounds_toArray, List.set_cons_zero, List.set_cons_succ]
        refine wpAnyH_ready (rs := [7]) (by kernel_rfl) (by simp) ?_
        refine (AllReadyH.cons rfl (fun K hK => ?bo16x7) AllReadyH.nil)
        case bo16x7 =>
          go_simp
          go_at_call 112
          refine (clone_any _ _ _ _ (hT.goal.below (by repeat (first | with_reducible exact D2 | with_reducible apply bdrew | with_reducible apply bdrewN | with_reducible apply balloc | ((with_reducible refine bset ?_ ?_ _); rotate_left; (first | omega | (simp <;> omega)))))) hlg).mono ?_
          rintro e w3 ⟨Ag', cg', rfl, hFg, hB3⟩
          have D3 := dstep w hB3 (by repeat (first | with_reducible exact D2 | with_reducible apply bdrew | with_reducible apply bdrewN | with_reducible apply balloc | ((with_reducible refine bset ?_ ?_ _); rotate_left; (first | omega | (simp <;> omega)))))
          have d3s := D3.size
          have Ew2_3 := dstep w2 hB3 (by repeat (first | with_reducible exact Below.refl _ _ | with_reducible apply bdrew | with_reducible apply bdrewN | with_reducible apply balloc | ((with_reducible refine bset ?_ ?_ _); rotate_left; (first | omega | (simp <;> omega)))))
          have C3 := Cls.below (l := [(w.heap.size, 0, .int .i64 t.facts), (w.heap.size, 1, .slice Ai t.init.length ci), (w.heap.size, 2, .slice Ag t.goal.length cg), (w.heap.size, 3, .slice Ao t.ops.length co), (w.heap.size + 1, 0, .int .i64 0), (w.heap.size + 1, 1, .slice none 0 0), (w.heap.size + 1, 2, .slice none 0 0), (w.heap.size + 1, 3, .slice none 0 0), (w2.heap.size, 0, .int .i64 0), (w2.heap.size, 1, .slice none 0 0), (w2.heap.size, 2, .slice none 0 0), (w2.heap.size, 3, .slice none 0 0)]) hB3 (by simp [Cls, go_sem, F2, y2w1, y2w0, y2wp1, y2wp2])
          have F3 := C3
          simp only [Cls, and_true] at F3
          have y3w1 : w.heap.size + 1 < w3.heap.size := C3.blk (b := w.heap.size + 1) (k := 0) (v := .int .i64 0) (by simp)
          have y3w0 : w.heap.size < w3.heap.size := (by omega)
          have y3wp1 : w.heap.size < w3.heap.size + 1 := (by omega)
          have y3wp2 : w.heap.size < w3.heap.size + 1 + 1 := (by omega)
          have y3w20 : w2.heap.size < w3.heap.size := C3.blk (b := w2.heap.size) (k := 0) (v := .int .i64 0) (by simp)
          have y3w2p1 : w2.heap.size < w3.heap.size + 1 := (by omega)
          have y3w2p2 : w2.heap.size < w3.heap.size + 1 + 1 := (by omega)
          have hbg := hFg.blk
          have hbsg := hB3.size
          (first | simp at hbg | skip)
          (first | simp at hbsg | skip)
          have hSS : w3.cell? ⟨w.heap.size, 0, none⟩ = some (.int .i64 t.facts) ∧ w3.cell? ⟨w.heap.size, 1, none⟩ = some (.slice Ai t.init.length ci) ∧ w3.cell? ⟨w.heap.size, 2, none⟩ = some (.slice Ag t.goal.length cg) := (by have q := C3; simp only [Cls, and_true] at q; simp [q])
          go_wp2_with fail
          refine hK.out _ _ hSS (fun hHeld => ?_)
          clear hK K
          try simp only [Act.put, List.getElem_toArray, List.getElem_cons_succ, List.getElem_cons_zero, List.setIfInBounds_toArray, List.set_cons_zero, List.set_cons_succ]
          refine wpAnyH_take (i := 8) (v := ?vo1e78) rfl (by kernel_rfl) (by kernel_rfl) (by kernel_rfl) (fun _ _ _ h => h) (Or.inl ⟨by rfl, ?ho1e78⟩) (by assumption) ?ro1e78
          case ho1e78 => (intro w hSw; (try dsimp only at hSw); go_simp; (try with_reducible rfl))
          try simp only [Act.put, List.getElem_toArray, List.getElem_cons_succ, List.getElem_cons_zero, List.setIfInBounds_toArray, List.set_cons_zero, List.set_cons_succ]
          refine wpAnyH_ready (rs := [10]) (by kernel_rfl) (by simp) ?_
          refine AllReadyH.cons rfl (fun K hK => ?_) AllReadyH.nil
          go_simp
          have hn1 : ¬ w2.heap.size = w.heap.size := (by omega)
          have hn2 : ¬ w2.heap.size = w.heap.size + 1 := (by omega)
          have hn3 : ¬ w.heap.size = w2.heap.size := (by omega)
          have hn4 : ¬ w.heap.size + 1 = w2.heap.size := (by omega)
          have hSS : ((((w3.setCell ⟨w2.heap.size, 0, none⟩ (.int .i64 t.facts)).setCell ⟨w2.heap.size, 1, none⟩ (.slice Ai' t.init.length ci')).setCell ⟨w2.heap.size, 2, none⟩ (.slice Ag' t.goal.length cg')).setCell ⟨w2.heap.size, 3, none⟩ (.slice none 0 0)).cell? ⟨w.heap.size, 0, none⟩ = some (.int .i64 t.facts) ∧ ((((w3.setCell ⟨w2.heap.size, 0, none⟩ (.int .i64 t.facts)).setCell ⟨w2.heap.size, 1, none⟩ (.slice Ai' t.init.length ci')).setCell ⟨w2.heap.size, 2, none⟩ (.slice Ag' t.goal.length cg')).setCell ⟨w2.heap.size, 3, none⟩ (.slice none 0 0)).cell? ⟨w.heap.size, 1, none⟩ = some (.slice Ai t.init.length ci) ∧ ((((w3.setCell ⟨w2.heap.size, 0, none⟩ (.int .i64 t.facts)).setCell ⟨w2.heap.size, 1, none⟩ (.slice Ai' t.init.length ci')).setCell ⟨w2.heap.size, 2, none⟩ (.slice Ag' t.goal.length cg')).setCell ⟨w2.heap.size, 3, none⟩ (.slice none 0 0)).cell? ⟨w.heap.size, 2, none⟩ = some (.slice Ag t.goal.length cg) := (by simp [go_sem, F3, y3w1, y3w0, y3wp1, y3wp2, y3w20, y3w2p1, y3w2p2, hn1, hn2, hn3, hn4])
          go_wp2_with fail
          refine hK.out _ _ hSS (fun hHeld => ?_)
          clear hK K
          try simp only [Act.put, List.getElem_toArray, List.getElem_cons_succ, List.getElem_cons_zero, List.setIfInBounds_toArray, List.set_cons_zero, List.set_cons_succ]
          refine wpAnyH_done (by kernel_rfl) ?_ _
          go_wp2_with fail
          go_meet
          have hnei : ∀ ad, Ai' = some ad → ad.block ≠ w2.heap.size := fun ad he => (by have := hbi ad he; omega)
          have hneg : ∀ ad, Ag' = some ad → ad.block ≠ w2.heap.size := fun ad he => (by have := hbg ad he; omega)
          exact ⟨w2.heap.size, Ai', ci', Ag', cg', rfl, (by omega), (by (first | omega | (simp <;> omega))), ((((((hFi.below (w' := w3) (by repeat (first | with_reducible exact Ew2_3 | with_reducible apply bdrew | with_reducible apply bdrewN | with_reducible apply balloc | ((with_reducible refine bset ?_ ?_ _); rotate_left; (first | omega | (simp <;> omega)))))).away hnei _).away hnei _).away hnei _).away hnei _).mono (by (first | omega | (simp <;> omega)))), ((((((hFg.below (w' := w3) (by repeat (first | with_reducible exact Below.refl _ _ | with_reducible apply bdrew | with_reducible apply bdrewN | with_reducible apply balloc | ((with_reducible refine bset ?_ ?_ _); rotate_left; (first | omega | (simp <;> omega)))))).away hneg _).away hneg _).away hneg _).away hneg _).mono (by (first | omega | (simp <;> omega)))), hnei, hneg, (by repeat (first | with_reducible exact D3 | with_reducible apply bdrew | with_reducible apply bdrewN | with_reducible apply balloc | ((with_reducible refine bset ?_ ?_ _); rotate_left; (first | omega | (simp <;> omega))))), (by simp [Cls, go_sem, F3, y3w1, y3w0, y3wp1, y3wp2, y3w20, y3w2p1, y3w2p2, hn1, hn2, hn3, hn4]), (by simp [Cls, go_sem, F3, y3w1, y3w0, y3wp1, y3wp2, y3w20, y3w2p1, y3w2p2, hn1, hn2, hn3, hn4])⟩
    case bo11x9 =>
      go_simp
      have hSS : (w1.alloc (.cells #[.int .i64 0, .slice none 0 0, .slice none 0 0, .slice none 0 0] 25)).cell? ⟨w.heap.size, 0, none⟩ = some (.int .i64 t.facts) ∧ (w1.alloc (.cells #[.int .i64 0, .slice none 0 0, .slice none 0 0, .slice none 0 0] 25)).cell? ⟨w.heap.size, 1, none⟩ = some (.slice Ai t.init.length ci) ∧ (w1.alloc (.cells #[.int .i64 0, .slice none 0 0, .slice none 0 0, .slice none 0 0] 25)).cell? ⟨w.heap.size, 2, none⟩ = some (.slice Ag t.goal.length cg) := (by simp [go_sem, F1, y1w1, y1w0, y1wp1, y1wp2])
      go_wp2_with fail
      refine hK.out _ _ hSS (fun hHeld => ?_)
      clear hK K
      try simp only [Act.put, List.getElem_toArray, List.getElem_cons_succ, List.getElem_cons_zero, List.setIfInBounds_toArray, List.set_cons_zero, List.set_cons_succ]
      refine wpAnyH_ready (rs := [4]) (by kernel_rfl) (by simp) ?_
      refine (AllReadyH.cons rfl (fun K hK => ?bo19x4) AllReadyH.nil)
      case bo19x4 =>
        go_simp
        go_at_call 112
        refine (clone_any _ _ _ _ (hT.init.below (by repeat (first | with_reducible exact D1 | with_reducible apply bdrew | with_reducible apply bdrewN | with_reducible apply balloc | ((with_reducible refine bset ?_ ?_ _); rotate_left; (first | omega | (simp <;> omega)))))) hli).mono ?_
        rintro e w2 ⟨Ai', ci', rfl, hFi, hB2⟩
        have D2 := dstep w hB2 (by repeat (first | with_reducible exact D1 | with_reducible apply bdrew | with_reducible apply bdrewN | with_reducible apply balloc | ((with_reducible refine bset ?_ ?_ _); rotate_left; (first | omega | (simp <;> omega)))))
        have d2s := D2.size
        have C2 := Cls.below (l := [(w.heap.size, 0, .int .i64 t.facts), (w.heap.size, 1, .slice Ai t.init.length ci), (w.heap.size, 2, .slice Ag t.goal.length cg), (w.heap.size, 3, .slice Ao t.ops.length co), (w.heap.size + 1, 0, .int .i64 0), (w.heap.size + 1, 1, .slice none 0 0), (w.heap.size + 1, 2, .slice none 0 0), (w.heap.size + 1, 3, .slice none 0 0), (w1.heap.size, 0, .int .i64 0), (w1.heap.size, 1, .slice none 0 0), (w1.heap.size, 2, .slice none 0 0), (w1.heap.size, 3, .slice none 0 0)]) hB2 (by simp [Cls, go_sem, F1, y1w1, y1w0, y1wp1, y1wp2])
        have F2 := C2
        simp only [Cls, and_true] at F2
        have y2w1 : w.heap.size + 1 < w2.heap.size := C2.blk (b := w.heap.size + 1) (k := 0) (v := .int .i64 0) (by simp)
        have y2w0 : w.heap.size < w2.heap.size := (by omega)
        have y2wp1 : w.heap.size < w2.heap.size + 1 := (by omega)
        have y2wp2 : w.heap.size < w2.heap.size + 1 + 1 := (by omega)
        have y2w10 : w1.heap.size < w2.heap.size := C2.blk (b := w1.heap.size) (k := 0) (v := .int .i64 0) (by simp)
        have y2w1p1 : w1.heap.size < w2.heap.size + 1 := (by omega)
        have y2w1p2 : w1.heap.size < w2.heap.size + 1 + 1 := (by omega)
        have hbi := hFi.blk
        have hbsi := hB2.size
        (first | simp at hbi | skip)
        (first | simp at hbsi | skip)
        have hSS : w2.cell? ⟨w.heap.size, 0, none⟩ = some (.int .i64 t.facts) ∧ w2.cell? ⟨w.heap.size, 1, none⟩ = some (.slice Ai t.init.length ci) ∧ w2.cell? ⟨w.heap.size, 2, none⟩ = some (.slice Ag t.goal.length cg) := (by have q := C2; simp only [Cls, and_true] at q; simp [q])
        go_wp2_with fail
        refine hK.out _ _ hSS (fun hHeld => ?_)
        clear hK K
        try simp only [Act.put, List.getElem_toArray, List.getElem_cons_succ, List.getElem_cons_zero, List.setIfInBounds_toArray, List.set_cons_zero, List.set_cons_succ]
        refine wpAnyH_ready (rs := [7]) (by kernel_rfl) (by simp) ?_
        refine (AllReadyH.cons rfl (fun K hK => ?bo110x7) AllReadyH.nil)
        case bo110x7 =>
          go_simp
          go_at_call 112
          refine (clone_any _ _ _ _ (hT.goal.below (by repeat (first | with_reducible exact D2 | with_reducible apply bdrew | with_reducible apply bdrewN | with_reducible apply balloc | ((with_reducible refine bset ?_ ?_ _); rotate_left; (first | omega | (simp <;> omega)))))) hlg).mono ?_
          rintro e w3 ⟨Ag', cg', rfl, hFg, hB3⟩
          have D3 := dstep w hB3 (by repeat (first | with_reducible exact D2 | with_reducible apply bdrew | with_reducible apply bdrewN | with_reducible apply balloc | ((with_reducible refine bset ?_ ?_ _); rotate_left; (first | omega | (simp <;> omega)))))
          have d3s := D3.size
          have Ew2_3 := dstep w2 hB3 (by repeat (first | with_reducible exact Below.refl _ _ | with_reducible apply bdrew | with_reducible apply bdrewN | with_reducible apply balloc | ((with_reducible refine bset ?_ ?_ _); rotate_left; (first | omega | (simp <;> omega)))))
          have C3 := Cls.below (l := [(w.heap.size, 0, .int .i64 t.facts), (w.heap.size, 1, .slice Ai t.init.length ci), (w.heap.size, 2, .slice Ag t.goal.length cg), (w.heap.size, 3, .slice Ao t.ops.length co), (w.heap.size + 1, 0, .int .i64 0), (w.heap.size + 1, 1, .slice none 0 0), (w.heap.size + 1, 2, .slice none 0 0), (w.heap.size + 1, 3, .slice none 0 0), (w1.heap.size, 0, .int .i64 0), (w1.heap.size, 1, .slice none 0 0), (w1.heap.size, 2, .slice none 0 0), (w1.heap.size, 3, .slice none 0 0)]) hB3 (by simp [Cls, go_sem, F2, y2w1, y2w0, y2wp1, y2wp2, y2w10, y2w1p1, y2w1p2])
          have F3 := C3
          simp only [Cls, and_true] at F3
          have y3w1 : w.heap.size + 1 < w3.heap.size := C3.blk (b := w.heap.size + 1) (k := 0) (v := .int .i64 0) (by simp)
          have y3w0 : w.heap.size < w3.heap.size := (by omega)
          have y3wp1 : w.heap.size < w3.heap.size + 1 := (by omega)
          have y3wp2 : w.heap.size < w3.heap.size + 1 + 1 := (by omega)
          have y3w10 : w1.heap.size < w3.heap.size := C3.blk (b := w1.heap.size) (k := 0) (v := .int .i64 0) (by simp)
          have y3w1p1 : w1.heap.size < w3.heap.size + 1 := (by omega)
          have y3w1p2 : w1.heap.size < w3.heap.size + 1 + 1 := (by omega)
          have hbg := hFg.blk
          have hbsg := hB3.size
          (first | simp at hbg | skip)
          (first | simp at hbsg | skip)
          have hSS : w3.cell? ⟨w.heap.size, 0, none⟩ = some (.int .i64 t.facts) ∧ w3.cell? ⟨w.heap.size, 1, none⟩ = some (.slice Ai t.init.length ci) ∧ w3.cell? ⟨w.heap.size, 2, none⟩ = some (.slice Ag t.goal.length cg) := (by have q := C3; simp only [Cls, and_true] at q; simp [q])
          go_wp2_with fail
          refine hK.out _ _ hSS (fun hHeld => ?_)
          clear hK K
          try simp only [Act.put, List.getElem_toArray, List.getElem_cons_succ, List.getElem_cons_zero, List.setIfInBounds_toArray, List.set_cons_zero, List.set_cons_succ]
          refine wpAnyH_take (i := 8) (v := ?vo1e118) rfl (by kernel_rfl) (by kernel_rfl) (by kernel_rfl) (fun _ _ _ h => h) (Or.inl ⟨by rfl, ?ho1e118⟩) (by assumption) ?ro1e118
          case ho1e118 => (intro w hSw; (try dsimp only at hSw); go_simp; (try with_reducible rfl))
          try simp only [Act.put, List.getElem_toArray, List.getElem_cons_succ, List.getElem_cons_zero, List.setIfInBounds_toArray, List.set_cons_zero, List.set_cons_succ]
          refine wpAnyH_ready (rs := [10]) (by kernel_rfl) (by simp) ?_
          refine AllReadyH.cons rfl (fun K hK => ?_) AllReadyH.nil
          go_simp
          have hn1 : ¬ w1.heap.size = w.heap.size := (by omega)
          have hn2 : ¬ w1.heap.size = w.heap.size + 1 := (by omega)
          have hn3 : ¬ w.heap.size = w1.heap.size := (by omega)
          have hn4 : ¬ w.heap.size + 1 = w1.heap.size := (by omega)
          have hSS : ((((w3.setCell ⟨w1.heap.size, 0, none⟩ (.int .i64 t.facts)).setCell ⟨w1.heap.size, 1, none⟩ (.slice Ai' t.init.length ci')).setCell ⟨w1.heap.size, 2, none⟩ (.slice Ag' t.goal.length cg')).setCell ⟨w1.heap.size, 3, none⟩ (.slice none 0 0)).cell? ⟨w.heap.size, 0, none⟩ = some (.int .i64 t.facts) ∧ ((((w3.setCell ⟨w1.heap.size, 0, none⟩ (.int .i64 t.facts)).setCell ⟨w1.heap.size, 1, none⟩ (.slice Ai' t.init.length ci')).setCell ⟨w1.heap.size, 2, none⟩ (.slice Ag' t.goal.length cg')).setCell ⟨w1.heap.size, 3, none⟩ (.slice none 0 0)).cell? ⟨w.heap.size, 1, none⟩ = some (.slice Ai t.init.length ci) ∧ ((((w3.setCell ⟨w1.heap.size, 0, none⟩ (.int .i64 t.facts)).setCell ⟨w1.heap.size, 1, none⟩ (.slice Ai' t.init.length ci')).setCell ⟨w1.heap.size, 2, none⟩ (.slice Ag' t.goal.length cg')).setCell ⟨w1.heap.size, 3, none⟩ (.slice none 0 0)).cell? ⟨w.heap.size, 2, none⟩ = some (.slice Ag t.goal.length cg) := (by simp [go_sem, F3, y3w1, y3w0, y3wp1, y3wp2, y3w10, y3w1p1, y3w1p2, hn1, hn2, hn3, hn4])
          go_wp2_with fail
          refine hK.out _ _ hSS (fun hHeld => ?_)
          clear hK K
          try simp only [Act.put, List.getElem_toArray, List.getElem_cons_succ, List.getElem_cons_zero, List.setIfInBounds_toArray, List.set_cons_zero, List.set_cons_succ]
          refine wpAnyH_done (by kernel_rfl) ?_ _
          go_wp2_with fail
          go_meet
          have hnei : ∀ ad, Ai' = some ad → ad.block ≠ w1.heap.size := fun ad he => (by have := hbi ad he; omega)
          have hneg : ∀ ad, Ag' = some ad → ad.block ≠ w1.heap.size := fun ad he => (by have := hbg ad he; omega)
          exact ⟨w1.heap.size, Ai', ci', Ag', cg', rfl, (by omega), (by (first | omega | (simp <;> omega))), ((((((hFi.below (w' := w3) (by repeat (first | with_reducible exact Ew2_3 | with_reducible apply bdrew | with_reducible apply bdrewN | with_reducible apply balloc | ((with_reducible refine bset ?_ ?_ _); rotate_left; (first | omega | (simp <;> omega)))))).away hnei _).away hnei _).away hnei _).away hnei _).mono (by (first | omega | (simp <;> omega)))), ((((((hFg.below (w' := w3) (by repeat (first | with_reducible exact Below.refl _ _ | with_reducible apply bdrew | with_reducible apply bdrewN | with_reducible apply balloc | ((with_reducible refine bset ?_ ?_ _); rotate_left; (first | omega | (simp <;> omega)))))).away hneg _).away hneg _).away hneg _).away hneg _).mono (by (first | omega | (simp <;> omega)))), hnei, hneg, (by repeat (first | with_reducible exact D3 | with_reducible apply bdrew | with_reducible apply bdrewN | with_reducible apply balloc | ((with_reducible refine bset ?_ ?_ _); rotate_left; (first | omega | (simp <;> omega))))), (by simp [Cls, go_sem, F3, y3w1, y3w0, y3wp1, y3wp2, y3w10, y3w1p1, y3w1p2, hn1, hn2, hn3, hn4]), (by simp [Cls, go_sem, F3, y3w1, y3w0, y3wp1, y3wp2, y3w10, y3w1p1, y3w1p2, hn1, hn2, hn3, hn4])⟩
  case rest =>
    obtain ⟨ob, A1, c1, A2, c2, rfl, hob1, hob2, hF1, hF2, hne1, hne2, hBc, hCa, hCb⟩ := hcut
    have hbl1 := fun ad he => (hF1.blk ad he).2
    have hbl2 := fun ad he => (hF2.blk ad he).2
    have hCc : Cls wc [(w.heap.size, 0, .int .i64 t.facts), (w.heap.size, 1, .slice Ai t.init.length ci), (w.heap.size, 2, .slice Ag t.goal.length cg), (w.heap.size, 3, .slice Ao t.ops.length co), (w.heap.size + 1, 0, .int .i64 0), (w.heap.size + 1, 1, .slice none 0 0), (w.heap.size + 1, 2, .slice none 0 0), (w.heap.size + 1, 3, .slice none 0 0), (ob, 0, .int .i64 t.facts), (ob, 1, .slice A1 t.init.length c1), (ob, 2, .slice A2 t.goal.length c2), (ob, 3, .slice none 0 0)] := (by simp only [Cls, and_true] at hCa hCb ⊢; simp [hCa, hCb])
    clear hCa hCb
    have dcs := hBc.size
    have Fc := hCc
    simp only [Cls, and_true] at Fc
    have ycob0 : ob < wc.heap.size := hCc.blk (b := ob) (k := 0) (v := .int .i64 t.facts) (by simp)
    have ycobp1 : ob < wc.heap.size + 1 := (by omega)
    have ycobp2 : ob < wc.heap.size + 1 + 1 := (by omega)
    have ycw1 : w.heap.size + 1 < wc.heap.size := hCc.blk (b := w.heap.size + 1) (k := 0) (v := .int .i64 0) (by simp)
    have ycw0 : w.heap.size < wc.heap.size := (by omega)
    have ycwp1 : w.heap.size < wc.heap.size + 1 := (by omega)
    have ycwp2 : w.heap.size < wc.heap.size + 1 + 1 := (by omega)
    go_wp2_with fail
    go_loopw [18] (fun i wr => ∃ (k : Nat) (vo : Value), k ≤ t.ops.length ∧ i = .int .i64 k ∧ OwnOps wc.heap.size wr vo (t.ops.take k) ∧ Fresh (w.heap.size + 1 + 1) wr A1 c1 t.init ∧ Fresh (w.heap.size + 1 + 1) wr A2 c2 t.goal ∧ Below w.heap.size w wr ∧ wc.heap.size ≤ wr.heap.size ∧ Cls wr [(w.heap.size, 0, .int .i64 t.facts), (w.heap.size, 1, .slice Ai t.init.length ci), (w.heap.size, 2, .slice Ag t.goal.length cg), (w.heap.size, 3, .slice Ao t.ops.length co), (w.heap.size + 1, 0, .int .i64 0), (w.heap.size + 1, 1, .slice none 0 0), (w.heap.size + 1, 2, .slice none 0 0), (w.heap.size + 1, 3, .slice none 0 0), (ob, 0, .int .i64 t.facts), (ob, 1, .slice A1 t.init.length c1), (ob, 2, .slice A2 t.goal.length c2), (ob, 3, vo)]) (fun i _ => t.ops.length - (intOf i).toNat)
    case atStart => exact ⟨0, .slice none 0 0, Nat.zero_le _, rfl, OwnEs.nil _ _, hF1, hF2, hBc, Nat.le_refl _, hCc⟩
    case round =>
      clear hCc hF1 hF2
      obtain ⟨k, vo, hk, rfl, hown, hF1, hF2, hBr, hsr, hCr⟩ := hrel
      obtain ⟨w2, rfl⟩ : ∃ wo : World, wo = wr := ⟨_, rfl⟩
      have d2s := hBr.size
      have Fr := hCr
      simp only [Cls, and_true] at Fr
      have yrob0 : ob < w2.heap.size := hCr.blk (b := ob) (k := 0) (v := .int .i64 t.facts) (by simp)
      have yrobp1 : ob < w2.heap.size + 1 := (by omega)
      have yrobp2 : ob < w2.heap.size + 1 + 1 := (by omega)
      have yrw1 : w.heap.size + 1 < w2.heap.size := hCr.blk (b := w.heap.size + 1) (k := 0) (v := .int .i64 0) (by simp)
      have yrw0 : w.heap.size < w2.heap.size := (by omega)
      have yrwp1 : w.heap.size < w2.heap.size + 1 := (by omega)
      have yrwp2 : w.heap.size < w2.heap.size + 1 + 1 := (by omega)
      have hoblt : ob < wc.heap.size := hob2
      have hvo := fun kk hh => OwnEs.lt hown kk hh
      by_cases hlt : k < t.ops.length
      · obtain ⟨ad, o, A5, c5, A6, c6, A7, c7, rfl, ho, hc0, hc1, hc2, hc3, hm⟩ := hT.ops.at2 hBr hlt
        have hoo := Lib.hid (HOL.out o (List.mem_of_getElem? ho.out))
        have hlen : (t.ops.take k).length < 1000000000000 := by rw [List.length_take]; omega
        go_wp2_with fail
        have HTL := Lib.hid (show (t.ops.take k).length = k by rw [List.length_take]; omega)
        have HTK := Lib.hid (show t.ops.take k ++ [o] = t.ops.take (k + 1) by rw [List.take_add_one, ho.out]; simp)
        refine wp_region_held_drew (S := fun W => W.cell? ⟨w2.heap.size, 0, none⟩ = some (.slice A5 o.pre.length c5) ∧ W.cell? ⟨w2.heap.size, 1, none⟩ = some (.slice A6 o.add.length c6) ∧ W.cell? ⟨w2.heap.size, 2, none⟩ = some (.slice A7 o.del.length c7) ∧ W.cell? ⟨w2.heap.size, 3, none⟩ = some (.int .i64 o.cost)) (by kernel_rfl) (by simp [go_sem, Fr, yrob0, yrobp1, yrobp2, yrw1, yrw0, yrwp1, yrwp2]) (fun hHeld => ?_)
        refine wpAnyH_take (i := 0) (v := ?vo20) rfl (by kernel_rfl) (by kernel_rfl) (by kernel_rfl) (fun _ _ _ h => h) (Or.inl ⟨by rfl, ?ho20⟩) (by assumption) ?ro20
        case ho20 => (intro w hSw; (try dsimp only at hSw); go_simp; (try with_reducible rfl))
        try simp only [Act.put, List.getElem_toArray, List.getElem_cons_succ, List.getElem_cons_zero, List.setIfInBounds_toArray, List.set_cons_zero, List.set_cons_succ]
        refine wpAnyH_take (i := 2) (v := ?vo22) rfl (by kernel_rfl) (by kernel_rfl) (by kernel_rfl) (fun _ _ _ h => h) (Or.inl ⟨by rfl, ?ho22⟩) (by assumption) ?ro22
        case ho22 => (intro w hSw; (try dsimp only at hSw); go_simp; (try with_reducible rfl))
        try simp only [Act.put, List.getElem_toArray, List.getElem_cons_succ, List.getElem_cons_zero, List.setIfInBounds_toArray, List.set_cons_zero, List.set_cons_succ]
        refine wpAnyH_take (i := 3) (v := ?vo23) rfl (by kernel_rfl) (by kernel_rfl) (by kernel_rfl) (fun _ _ _ h => h) (Or.inl ⟨by rfl, ?ho23⟩) (by assumption) ?ro23
        case ho23 => (intro w hSw; (try dsimp only at hSw); go_simp; (try with_reducible rfl))
        try simp only [Act.put, List.getElem_toArray, List.getElem_cons_succ, List.getElem_cons_zero, List.setIfInBounds_toArray, List.set_cons_zero, List.set_cons_succ]
        refine wpAnyH_take (i := 5) (v := ?vo25) rfl (by kernel_rfl) (by kernel_rfl) (by kernel_rfl) (fun _ _ _ h => h) (Or.inl ⟨by rfl, ?ho25⟩) (by assumption) ?ro25
        case ho25 => (intro w hSw; (try dsimp only at hSw); go_simp; (try with_reducible rfl))
        try simp only [Act.put, List.getElem_toArray, List.getElem_cons_succ, List.getElem_cons_zero, List.setIfInBounds_toArray, List.set_cons_zero, List.set_cons_succ]
        refine wpAnyH_take (i := 6) (v := ?vo26) rfl (by kernel_rfl) (by kernel_rfl) (by kernel_rfl) (fun _ _ _ h => h) (Or.inl ⟨by rfl, ?ho26⟩) (by assumption) ?ro26
        case ho26 => (intro w hSw; (try dsimp only at hSw); go_simp; (try with_reducible rfl))
        try simp only [Act.put, List.getElem_toArray, List.getElem_cons_succ, List.getElem_cons_zero, List.setIfInBounds_toArray, List.set_cons_zero, List.set_cons_succ]
        refine wpAnyH_take (i := 8) (v := ?vo28) rfl (by kernel_rfl) (by kernel_rfl) (by kernel_rfl) (fun _ _ _ h => h) (Or.inl ⟨by rfl, ?ho28⟩) (by assumption) ?ro28
        case ho28 => (intro w hSw; (try dsimp only at hSw); go_simp; (try with_reducible rfl))
        try simp only [Act.put, List.getElem_toArray, List.getElem_cons_succ, List.getElem_cons_zero, List.setIfInBounds_toArray, List.set_cons_zero, List.set_cons_succ]
        refine wpAnyH_take (i := 9) (v := ?vo29) rfl (by kernel_rfl) (by kernel_rfl) (by kernel_rfl) (fun _ _ _ h => h) (Or.inl ⟨by rfl, ?ho29⟩) (by assumption) ?ro29
        case ho29 => (intro w hSw; (try dsimp only at hSw); go_simp; (try with_reducible rfl))
        try simp only [Act.put, List.getElem_toArray, List.getElem_cons_succ, List.getElem_cons_zero, List.setIfInBounds_toArray, List.set_cons_zero, List.set_cons_succ]
        refine wpAnyH_take (i := 11) (v := ?vo211) rfl (by kernel_rfl) (by kernel_rfl) (by kernel_rfl) (fun _ _ _ h => h) (Or.inl ⟨by rfl, ?ho211⟩) (by assumption) ?ro211
        case ho211 => (intro w hSw; (try dsimp only at hSw); go_simp; (try with_reducible rfl))
        try simp only [Act.put, List.getElem_toArray, List.getElem_cons_succ, List.getElem_cons_zero, List.setIfInBounds_toArray, List.set_cons_zero, List.set_cons_succ]
        refine wpAnyH_take (i := 12) (v := ?vo212) rfl (by kernel_rfl) (by kernel_rfl) (by kernel_rfl) (fun _ _ _ h => h) (Or.inl ⟨by rfl, ?ho212⟩) (by assumption) ?ro212
        case ho212 => (intro w hSw; (try dsimp only at hSw); go_simp; (try with_reducible rfl))
        try simp only [Act.put, List.getElem_toArray, List.getElem_cons_succ, List.getElem_cons_zero, List.setIfInBounds_toArray, List.set_cons_zero, List.set_cons_succ]
        refine wpAnyH_ready (rs := [1, 4]) (by kernel_rfl) (by simp) ?_
        refine (AllReadyH.cons rfl (fun K hK => ?bo21x1) (AllReadyH.cons rfl (fun K hK => ?bo21x4) AllReadyH.nil))
        case bo21x1 =>
          go_simp
          have hSS := hHeld
          go_wp2_with fail
          refine hK.out _ _ hSS (fun hHeld => ?_)
          clear hK K
          try simp only [Act.put, List.getElem_toArray, List.getElem_cons_succ, List.getElem_cons_zero, List.setIfInBounds_toArray, List.set_cons_zero, List.set_cons_succ]
          refine wpAnyH_ready (rs := [4]) (by kernel_rfl) (by simp) ?_
          refine (AllReadyH.cons rfl (fun K hK => ?bo22x4) AllReadyH.nil)
          case bo22x4 =>
            go_simp
            go_at_call 112
            refine (clone_any _ _ _ _ (hm.pre.below (by repeat (first | with_reducible exact hBr | with_reducible apply bdrew | with_reducible apply bdrewN | with_reducible apply balloc | ((with_reducible refine bset ?_ ?_ _); rotate_left; (first | omega | (simp <;> omega)))))) hoo.out.1).mono ?_
            rintro e w3 ⟨A0', c0', rfl, hG0, hB3⟩
            have D3 := dstep w hB3 (by repeat (first | with_reducible exact hBr | with_reducible apply bdrew | with_reducible apply bdrewN | with_reducible apply balloc | ((with_reducible refine bset ?_ ?_ _); rotate_left; (first | omega | (simp <;> omega)))))
            have d3s := D3.size
            have Ew2_3 := dstep w2 hB3 (by repeat (first | with_reducible exact Below.refl _ _ | with_reducible apply bdrew | with_reducible apply bdrewN | with_reducible apply balloc | ((with_reducible refine bset ?_ ?_ _); rotate_left; (first | omega | (simp <;> omega)))))
            have C3 := Cls.below (l := [(w.heap.size, 0, .int .i64 t.facts), (w.heap.size, 1, .slice Ai t.init.length ci), (w.heap.size, 2, .slice Ag t.goal.length cg), (w.heap.size, 3, .slice (some ad) t.ops.length co), (w.heap.size + 1, 0, .int .i64 0), (w.heap.size + 1, 1, .slice none 0 0), (w.heap.size + 1, 2, .slice none 0 0), (w.heap.size + 1, 3, .slice none 0 0), (ob, 0, .int .i64 t.facts), (ob, 1, .slice A1 t.init.length c1), (ob, 2, .slice A2 t.goal.length c2), (ob, 3, vo), (w2.heap.size, 0, .slice A5 o.pre.length c5), (w2.heap.size, 1, .slice A6 o.add.length c6), (w2.heap.size, 2, .slice A7 o.del.length c7), (w2.heap.size, 3, .int .i64 o.cost)]) hB3 (by simp [Cls, go_sem, Fr, yrob0, yrobp1, yrobp2, yrw1, yrw0, yrwp1, yrwp2])
            have F3 := C3
            simp only [Cls, and_true] at F3
            have y3ob0 : ob < w3.heap.size := C3.blk (b := ob) (k := 0) (v := .int .i64 t.facts) (by simp)
            have y3obp1 : ob < w3.heap.size + 1 := (by omega)
            have y3obp2 : ob < w3.heap.size + 1 + 1 := (by omega)
            have y3w1 : w.heap.size + 1 < w3.heap.size := C3.blk (b := w.heap.size + 1) (k := 0) (v := .int .i64 0) (by simp)
            have y3w0 : w.heap.size < w3.heap.size := (by omega)
            have y3wp1 : w.heap.size < w3.heap.size + 1 := (by omega)
            have y3wp2 : w.heap.size < w3.heap.size + 1 + 1 := (by omega)
            have y3w20 : w2.heap.size < w3.heap.size := C3.blk (b := w2.heap.size) (k := 0) (v := .slice A5 o.pre.length c5) (by simp)
            have y3w2p1 : w2.heap.size < w3.heap.size + 1 := (by omega)
            have y3w2p2 : w2.heap.size < w3.heap.size + 1 + 1 := (by omega)
            have hq0 : w2.heap.size ≤ w2.heap.size := by omega
            have hlw0 : w2.heap.size < w3.heap.size := by (have := hB3.size; (try simp at this); omega)
            have hpl0 : PList wc.heap.size w3 vo.ownBlock [.slice A0' o.pre.length c0'] o.pre := hG0.plist (by (first | omega | (simp <;> omega))) (fun kk hh => by (have := (hvo kk hh).2; (first | omega | (simp <;> omega))))
            clear hG0
            have hSS : w3.cell? ⟨w2.heap.size, 0, none⟩ = some (.slice A5 o.pre.length c5) ∧ w3.cell? ⟨w2.heap.size, 1, none⟩ = some (.slice A6 o.add.length c6) ∧ w3.cell? ⟨w2.heap.size, 2, none⟩ = some (.slice A7 o.del.length c7) ∧ w3.cell? ⟨w2.heap.size, 3, none⟩ = some (.int .i64 o.cost) := (by simp [go_sem, F3, y3ob0, y3obp1, y3obp2, y3w1, y3w0, y3wp1, y3wp2, y3w20, y3w2p1, y3w2p2])
            go_wp2_with fail
            refine hK.out _ _ hSS (fun hHeld => ?_)
            clear hK K
            try simp only [Act.put, List.getElem_toArray, List.getElem_cons_succ, List.getElem_cons_zero, List.setIfInBounds_toArray, List.set_cons_zero, List.set_cons_succ]
            refine wpAnyH_ready (rs := [7]) (by kernel_rfl) (by simp) ?_
            refine (AllReadyH.cons rfl (fun K hK => ?bo23x7) AllReadyH.nil)
            case bo23x7 =>
              go_simp
              go_at_call 112
              refine (clone_any _ _ _ _ (hm.add.below (by repeat (first | with_reducible exact D3 | with_reducible apply bdrew | with_reducible apply bdrewN | with_reducible apply balloc | ((with_reducible refine bset ?_ ?_ _); rotate_left; (first | omega | (simp <;> omega)))))) hoo.out.2.1).mono ?_
              rintro e w4 ⟨A1', c1', rfl, hG1, hB4⟩
              have D4 := dstep w hB4 (by repeat (first | with_reducible exact D3 | with_reducible apply bdrew | with_reducible apply bdrewN | with_reducible apply balloc | ((with_reducible refine bset ?_ ?_ _); rotate_left; (first | omega | (simp <;> omega)))))
              have d4s := D4.size
              have Ew2_4 := dstep w2 hB4 (by repeat (first | with_reducible exact Ew2_3 | with_reducible apply bdrew | with_reducible apply bdrewN | with_reducible apply balloc | ((with_reducible refine bset ?_ ?_ _); rotate_left; (first | omega | (simp <;> omega)))))
              have Ew3_4 := dstep w3 hB4 (by repeat (first | with_reducible exact Below.refl _ _ | with_reducible apply bdrew | with_reducible apply bdrewN | with_reducible apply balloc | ((with_reducible refine bset ?_ ?_ _); rotate_left; (first | omega | (simp <;> omega)))))
              have C4 := Cls.below (l := [(w.heap.size, 0, .int .i64 t.facts), (w.heap.size, 1, .slice Ai t.init.length ci), (w.heap.size, 2, .slice Ag t.goal.length cg), (w.heap.size, 3, .slice (some ad) t.ops.length co), (w.heap.size + 1, 0, .int .i64 0), (w.heap.size + 1, 1, .slice none 0 0), (w.heap.size + 1, 2, .slice none 0 0), (w.heap.size + 1, 3, .slice none 0 0), (ob, 0, .int .i64 t.facts), (ob, 1, .slice A1 t.init.length c1), (ob, 2, .slice A2 t.goal.length c2), (ob, 3, vo), (w2.heap.size, 0, .slice A5 o.pre.length c5), (w2.heap.size, 1, .slice A6 o.add.length c6), (w2.heap.size, 2, .slice A7 o.del.length c7), (w2.heap.size, 3, .int .i64 o.cost)]) hB4 (by simp [Cls, go_sem, F3, y3ob0, y3obp1, y3obp2, y3w1, y3w0, y3wp1, y3wp2, y3w20, y3w2p1, y3w2p2])
              have F4 := C4
              simp only [Cls, and_true] at F4
              have y4ob0 : ob < w4.heap.size := C4.blk (b := ob) (k := 0) (v := .int .i64 t.facts) (by simp)
              have y4obp1 : ob < w4.heap.size + 1 := (by omega)
              have y4obp2 : ob < w4.heap.size + 1 + 1 := (by omega)
              have y4w1 : w.heap.size + 1 < w4.heap.size := C4.blk (b := w.heap.size + 1) (k := 0) (v := .int .i64 0) (by simp)
              have y4w0 : w.heap.size < w4.heap.size := (by omega)
              have y4wp1 : w.heap.size < w4.heap.size + 1 := (by omega)
              have y4wp2 : w.heap.size < w4.heap.size + 1 + 1 := (by omega)
              have y4w20 : w2.heap.size < w4.heap.size := C4.blk (b := w2.heap.size) (k := 0) (v := .slice A5 o.pre.length c5) (by simp)
              have y4w2p1 : w2.heap.size < w4.heap.size + 1 := (by omega)
              have y4w2p2 : w2.heap.size < w4.heap.size + 1 + 1 := (by omega)
              have hq1 : w2.heap.size ≤ w3.heap.size := by omega
              have hlw1 : w2.heap.size < w4.heap.size := by (have := hB4.size; (try simp at this); omega)
              have hpl1 : PList wc.heap.size w4 vo.ownBlock [.slice A1' o.add.length c1'] o.add := hG1.plist (by (first | omega | (simp <;> omega))) (fun kk hh => by (have := (hvo kk hh).2; (first | omega | (simp <;> omega))))
              clear hG1
              have hSS : w4.cell? ⟨w2.heap.size, 0, none⟩ = some (.slice A5 o.pre.length c5) ∧ w4.cell? ⟨w2.heap.size, 1, none⟩ = some (.slice A6 o.add.length c6) ∧ w4.cell? ⟨w2.heap.size, 2, none⟩ = some (.slice A7 o.del.length c7) ∧ w4.cell? ⟨w2.heap.size, 3, none⟩ = some (.int .i64 o.cost) := (by simp [go_sem, F4, y4ob0, y4obp1, y4obp2, y4w1, y4w0, y4wp1, y4wp2, y4w20, y4w2p1, y4w2p2])
              go_wp2_with fail
              refine hK.out _ _ hSS (fun hHeld => ?_)
              clear hK K
              try simp only [Act.put, List.getElem_toArray, List.getElem_cons_succ, List.getElem_cons_zero, List.setIfInBounds_toArray, List.set_cons_zero, List.set_cons_succ]
              refine wpAnyH_ready (rs := [10]) (by kernel_rfl) (by simp) ?_
              refine (AllReadyH.cons rfl (fun K hK => ?bo24x10) AllReadyH.nil)
              case bo24x10 =>
                go_simp
                go_at_call 112
                refine (clone_any _ _ _ _ (hm.del.below (by repeat (first | with_reducible exact D4 | with_reducible apply bdrew | with_reducible apply bdrewN | with_reducible apply balloc | ((with_reducible refine bset ?_ ?_ _); rotate_left; (first | omega | (simp <;> omega)))))) hoo.out.2.2).mono ?_
                rintro e w5 ⟨A2', c2', rfl, hG2, hB5⟩
                have D5 := dstep w hB5 (by repeat (first | with_reducible exact D4 | with_reducible apply bdrew | with_reducible apply bdrewN | with_reducible apply balloc | ((with_reducible refine bset ?_ ?_ _); rotate_left; (first | omega | (simp <;> omega)))))
                have d5s := D5.size
                have Ew2_5 := dstep w2 hB5 (by repeat (first | with_reducible exact Ew2_4 | with_reducible apply bdrew | with_reducible apply bdrewN | with_reducible apply balloc | ((with_reducible refine bset ?_ ?_ _); rotate_left; (first | omega | (simp <;> omega)))))
                have Ew3_5 := dstep w3 hB5 (by repeat (first | with_reducible exact Ew3_4 | with_reducible apply bdrew | with_reducible apply bdrewN | with_reducible apply balloc | ((with_reducible refine bset ?_ ?_ _); rotate_left; (first | omega | (simp <;> omega)))))
                have Ew4_5 := dstep w4 hB5 (by repeat (first | with_reducible exact Below.refl _ _ | with_reducible apply bdrew | with_reducible apply bdrewN | with_reducible apply balloc | ((with_reducible refine bset ?_ ?_ _); rotate_left; (first | omega | (simp <;> omega)))))
                have C5 := Cls.below (l := [(w.heap.size, 0, .int .i64 t.facts), (w.heap.size, 1, .slice Ai t.init.length ci), (w.heap.size, 2, .slice Ag t.goal.length cg), (w.heap.size, 3, .slice (some ad) t.ops.length co), (w.heap.size + 1, 0, .int .i64 0), (w.heap.size + 1, 1, .slice none 0 0), (w.heap.size + 1, 2, .slice none 0 0), (w.heap.size + 1, 3, .slice none 0 0), (ob, 0, .int .i64 t.facts), (ob, 1, .slice A1 t.init.length c1), (ob, 2, .slice A2 t.goal.length c2), (ob, 3, vo), (w2.heap.size, 0, .slice A5 o.pre.length c5), (w2.heap.size, 1, .slice A6 o.add.length c6), (w2.heap.size, 2, .slice A7 o.del.length c7), (w2.heap.size, 3, .int .i64 o.cost)]) hB5 (by simp [Cls, go_sem, F4, y4ob0, y4obp1, y4obp2, y4w1, y4w0, y4wp1, y4wp2, y4w20, y4w2p1, y4w2p2])
                have F5 := C5
                simp only [Cls, and_true] at F5
                have y5ob0 : ob < w5.heap.size := C5.blk (b := ob) (k := 0) (v := .int .i64 t.facts) (by simp)
                have y5obp1 : ob < w5.heap.size + 1 := (by omega)
                have y5obp2 : ob < w5.heap.size + 1 + 1 := (by omega)
                have y5w1 : w.heap.size + 1 < w5.heap.size := C5.blk (b := w.heap.size + 1) (k := 0) (v := .int .i64 0) (by simp)
                have y5w0 : w.heap.size < w5.heap.size := (by omega)
                have y5wp1 : w.heap.size < w5.heap.size + 1 := (by omega)
                have y5wp2 : w.heap.size < w5.heap.size + 1 + 1 := (by omega)
                have y5w20 : w2.heap.size < w5.heap.size := C5.blk (b := w2.heap.size) (k := 0) (v := .slice A5 o.pre.length c5) (by simp)
                have y5w2p1 : w2.heap.size < w5.heap.size + 1 := (by omega)
                have y5w2p2 : w2.heap.size < w5.heap.size + 1 + 1 := (by omega)
                have hq2 : w2.heap.size ≤ w4.heap.size := by omega
                have hlw2 : w2.heap.size < w5.heap.size := by (have := hB5.size; (try simp at this); omega)
                have hpl2 : PList wc.heap.size w5 vo.ownBlock [.slice A2' o.del.length c2'] o.del := hG2.plist (by (first | omega | (simp <;> omega))) (fun kk hh => by (have := (hvo kk hh).2; (first | omega | (simp <;> omega))))
                clear hG2
                have hSS : w5.cell? ⟨w2.heap.size, 0, none⟩ = some (.slice A5 o.pre.length c5) ∧ w5.cell? ⟨w2.heap.size, 1, none⟩ = some (.slice A6 o.add.length c6) ∧ w5.cell? ⟨w2.heap.size, 2, none⟩ = some (.slice A7 o.del.length c7) ∧ w5.cell? ⟨w2.heap.size, 3, none⟩ = some (.int .i64 o.cost) := (by simp [go_sem, F5, y5ob0, y5obp1, y5obp2, y5w1, y5w0, y5wp1, y5wp2, y5w20, y5w2p1, y5w2p2])
                go_wp2_with fail
                refine hK.out _ _ hSS (fun hHeld => ?_)
                clear hK K
                try simp only [Act.put, List.getElem_toArray, List.getElem_cons_succ, List.getElem_cons_zero, List.setIfInBounds_toArray, List.set_cons_zero, List.set_cons_succ]
                refine wpAnyH_take (i := 13) (v := ?vo2e513) rfl (by kernel_rfl) (by kernel_rfl) (by kernel_rfl) (fun _ _ _ h => h) (Or.inl ⟨by rfl, ?ho2e513⟩) (by assumption) ?ro2e513
                case ho2e513 => (intro w hSw; (try dsimp only at hSw); go_simp; (try with_reducible rfl))
                try simp only [Act.put, List.getElem_toArray, List.getElem_cons_succ, List.getElem_cons_zero, List.setIfInBounds_toArray, List.set_cons_zero, List.set_cons_succ]
                refine wpAnyH_ready (rs := [14]) (by kernel_rfl) (by simp) ?_
                refine (AllReadyH.cons rfl (fun K hK => ?bo26x14) AllReadyH.nil)
                case bo26x14 =>
                  go_simp
                  have hSS : (w5.alloc (.cells #[.slice A0' o.pre.length c0', .slice A1' o.add.length c1', .slice A2' o.del.length c2', .int .i64 o.cost] 61)).cell? ⟨w2.heap.size, 0, none⟩ = some (.slice A5 o.pre.length c5) ∧ (w5.alloc (.cells #[.slice A0' o.pre.length c0', .slice A1' o.add.length c1', .slice A2' o.del.length c2', .int .i64 o.cost] 61)).cell? ⟨w2.heap.size, 1, none⟩ = some (.slice A6 o.add.length c6) ∧ (w5.alloc (.cells #[.slice A0' o.pre.length c0', .slice A1' o.add.length c1', .slice A2' o.del.length c2', .int .i64 o.cost] 61)).cell? ⟨w2.heap.size, 2, none⟩ = some (.slice A7 o.del.length c7) ∧ (w5.alloc (.cells #[.slice A0' o.pre.length c0', .slice A1' o.add.length c1', .slice A2' o.del.length c2', .int .i64 o.cost] 61)).cell? ⟨w2.heap.size, 3, none⟩ = some (.int .i64 o.cost) := (by simp [go_sem, F5, y5ob0, y5obp1, y5obp2, y5w1, y5w0, y5wp1, y5wp2, y5w20, y5w2p1, y5w2p2])
                  go_wp2_with fail
                  refine hK.out _ _ hSS (fun hHeld => ?_)
                  clear hK K
                  try simp only [Act.put, List.getElem_toArray, List.getElem_cons_succ, List.getElem_cons_zero, List.setIfInBounds_toArray, List.set_cons_zero, List.set_cons_succ]
                  refine wpAnyH_ready (rs := [15]) (by kernel_rfl) (by simp) ?_
                  refine AllReadyH.cons rfl (fun K hK => ?_) AllReadyH.nil
                  have hownA : OwnOps wc.heap.size (w5.alloc (.cells #[.slice A0' o.pre.length c0', .slice A1' o.add.length c1', .slice A2' o.del.length c2', .int .i64 o.cost] 61)) vo (t.ops.take k) := hown.below (by repeat (first | with_reducible exact Ew2_5 | with_reducible apply bdrew | with_reducible apply bdrewN | with_reducible apply balloc | ((with_reducible refine bset ?_ ?_ _); rotate_left; (first | omega | (simp <;> omega)))))
                  have hlwA : w2.heap.size < w5.heap.size := hlw2
                  refine step_el (pop_stable wc.heap.size) 23 80 (.agg #[.slice none 0 0, .slice none 0 0, .slice none 0 0, .int .i64 0]) Try.underlying23 info_op rfl (by decide) (by decide) rfl (.tmp 23) (.tmp 36) rfl w [(w.heap.size, 0, .int .i64 t.facts), (w.heap.size, 1, .slice Ai t.init.length ci), (w.heap.size, 2, .slice Ag t.goal.length cg), (w.heap.size, 3, .slice (some ad) t.ops.length co), (w.heap.size + 1, 0, .int .i64 0), (w.heap.size + 1, 1, .slice none 0 0), (w.heap.size + 1, 2, .slice none 0 0), (w.heap.size + 1, 3, .slice none 0 0), (ob, 0, .int .i64 t.facts), (ob, 1, .slice A1 t.init.length c1), (ob, 2, .slice A2 t.goal.length c2), (ob, 3, vo)] rfl hownA ⟨w5.heap.size, 0, none⟩ 1 rfl [.slice A0' o.pre.length c0', .slice A1' o.add.length c1', .slice A2' o.del.length c2', .int .i64 o.cost] o rfl ?n1_1 ?n2_1 ?n3_1 hlen ?n4_1 ?n5_1 ?n6_1 ?n7_1 ?n8_1 ?nn_1
                  case n1_1 => (intro j u hu; rcases j with _ | _ | _ | _ | j <;> simp at hu <;> subst hu <;> simp [go_sem])
                  case n2_1 => (intro u hu; simp at hu; rcases hu with rfl | rfl | rfl | rfl <;> rfl)
                  case n3_1 =>
                    unfold POp
                    exact ⟨A0', c0', A1', c1', A2', c2', rfl, (plist_stable _).below hpl0 (by repeat (first | with_reducible exact Ew3_5 | with_reducible apply bdrew | with_reducible apply bdrewN | with_reducible apply balloc | ((with_reducible refine bset ?_ ?_ _); rotate_left; (first | omega | (simp <;> omega))))), (plist_stable _).below hpl1 (by repeat (first | with_reducible exact Ew4_5 | with_reducible apply bdrew | with_reducible apply bdrewN | with_reducible apply balloc | ((with_reducible refine bset ?_ ?_ _); rotate_left; (first | omega | (simp <;> omega))))), (plist_stable _).below hpl2 (by repeat (first | with_reducible exact Below.refl _ _ | with_reducible apply bdrew | with_reducible apply bdrewN | with_reducible apply balloc | ((with_reducible refine bset ?_ ?_ _); rotate_left; (first | omega | (simp <;> omega)))))⟩
                  case n4_1 => (first | omega | (simp <;> omega))
                  case n5_1 => omega
                  case n6_1 => repeat (first | with_reducible exact D5 | with_reducible apply bdrew | with_reducible apply bdrewN | with_reducible apply balloc | ((with_reducible refine bset ?_ ?_ _); rotate_left; (first | omega | (simp <;> omega))))
                  case n7_1 => simp [Cls, go_sem, F5, y5ob0, y5obp1, y5obp2, y5w1, y5w0, y5wp1, y5wp2, y5w20, y5w2p1, y5w2p2]
                  case n8_1 => (simp <;> omega)
                  all_goals first | done | skip
                  intro g cap w6 o6 D6 C6 sz6 G6
                  have hE6 : ∀ (k : Nat) (v : Value), (w5.alloc (.cells #[.slice A0' o.pre.length c0', .slice A1' o.add.length c1', .slice A2' o.del.length c2', .int .i64 o.cost] 61)).cell? ⟨w2.heap.size, k, none⟩ = some v → w6.cell? ⟨w2.heap.size, k, none⟩ = some v := fun k v hh => (G6.cell_far ⟨w2.heap.size, k, none⟩ (by (simp <;> omega)) (fun e => by (have := (hvo _ e.symm).2; simp at this))).trans hh
                  have hSS : w6.cell? ⟨w2.heap.size, 0, none⟩ = some (.slice A5 o.pre.length c5) ∧ w6.cell? ⟨w2.heap.size, 1, none⟩ = some (.slice A6 o.add.length c6) ∧ w6.cell? ⟨w2.heap.size, 2, none⟩ = some (.slice A7 o.del.length c7) ∧ w6.cell? ⟨w2.heap.size, 3, none⟩ = some (.int .i64 o.cost) := (by obtain ⟨q0, q1, q2, q3⟩ := hHeld; exact ⟨hE6 _ _ q0, hE6 _ _ q1, hE6 _ _ q2, hE6 _ _ q3⟩)
                  have hF1n : Fresh (w.heap.size + 1 + 1) w6 A1 c1 t.init := (hF1.below (w' := (w5.alloc (.cells #[.slice A0' o.pre.length c0', .slice A1' o.add.length c1', .slice A2' o.del.length c2', .int .i64 o.cost] 61))) (by repeat (first | with_reducible exact Ew2_5 | with_reducible apply bdrew | with_reducible apply bdrewN | with_reducible apply balloc | ((with_reducible refine bset ?_ ?_ _); rotate_left; (first | omega | (simp <;> omega)))))).grown G6 (fun ad he e => by (have := (hvo _ e.symm).1; have := hbl1 ad he; omega))
                  have hF2n : Fresh (w.heap.size + 1 + 1) w6 A2 c2 t.goal := (hF2.below (w' := (w5.alloc (.cells #[.slice A0' o.pre.length c0', .slice A1' o.add.length c1', .slice A2' o.del.length c2', .int .i64 o.cost] 61))) (by repeat (first | with_reducible exact Ew2_5 | with_reducible apply bdrew | with_reducible apply bdrewN | with_reducible apply balloc | ((with_reducible refine bset ?_ ?_ _); rotate_left; (first | omega | (simp <;> omega)))))).grown G6 (fun ad he e => by (have := (hvo _ e.symm).1; have := hbl2 ad he; omega))
                  rw [HTL.out] at o6
                  have hsw : w2.heap.size < w6.heap.size := by (simp at sz6; omega)
                  clear hpl0 hpl1 hpl2 hF1 hF2 hE6 G6 hownA
                  have d6s := D6.size
                  have F6 := C6
                  simp only [Cls, and_true] at F6
                  have y6ob0 : ob < w6.heap.size := C6.blk (b := ob) (k := 0) (v := .int .i64 t.facts) (by simp)
                  have y6obp1 : ob < w6.heap.size + 1 := (by omega)
                  have y6obp2 : ob < w6.heap.size + 1 + 1 := (by omega)
                  have y6w1 : w.heap.size + 1 < w6.heap.size := C6.blk (b := w.heap.size + 1) (k := 0) (v := .int .i64 0) (by simp)
                  have y6w0 : w.heap.size < w6.heap.size := (by omega)
                  have y6wp1 : w.heap.size < w6.heap.size + 1 := (by omega)
                  have y6wp2 : w.heap.size < w6.heap.size + 1 + 1 := (by omega)
                  refine hK.out _ _ hSS (fun hHeld => ?_)
                  clear hK K
                  try simp only [Act.put, List.getElem_toArray, List.getElem_cons_succ, List.getElem_cons_zero, List.setIfInBounds_toArray, List.set_cons_zero, List.set_cons_succ]
                  refine wpAnyH_take (i := 16) (v := ?vo2l816) rfl (by kernel_rfl) (by kernel_rfl) (by kernel_rfl) (fun _ _ _ h => h) (Or.inl ⟨by rfl, ?ho2l816⟩) (by assumption) ?ro2l816
                  case ho2l816 => (intro w hSw; (try dsimp only at hSw); go_simp; (try with_reducible rfl))
                  try simp only [Act.put, List.getElem_toArray, List.getElem_cons_succ, List.getElem_cons_zero, List.setIfInBounds_toArray, List.set_cons_zero, List.set_cons_succ]
                  refine wpAnyH_ready (rs := [17]) (by kernel_rfl) (by simp) ?_
                  refine AllReadyH.cons rfl (fun K hK => ?_) AllReadyH.nil
                  go_simp
                  have hn5 : ¬ ob = w2.heap.size := (by omega)
                  have hn6 : ¬ w2.heap.size = ob := (by omega)
                  have hn7 : ¬ ob = w.heap.size := (by omega)
                  have hn8 : ¬ w.heap.size = ob := (by omega)
                  have hn9 : ¬ ob = w.heap.size + 1 := (by omega)
                  have hn10 : ¬ w.heap.size + 1 = ob := (by omega)
                  have hSS : (w6.setCell ⟨ob, 3, none⟩ (.slice (some ⟨g, 0, none⟩) (k + 1) cap)).cell? ⟨w2.heap.size, 0, none⟩ = some (.slice A5 o.pre.length c5) ∧ (w6.setCell ⟨ob, 3, none⟩ (.slice (some ⟨g, 0, none⟩) (k + 1) cap)).cell? ⟨w2.heap.size, 1, none⟩ = some (.slice A6 o.add.length c6) ∧ (w6.setCell ⟨ob, 3, none⟩ (.slice (some ⟨g, 0, none⟩) (k + 1) cap)).cell? ⟨w2.heap.size, 2, none⟩ = some (.slice A7 o.del.length c7) ∧ (w6.setCell ⟨ob, 3, none⟩ (.slice (some ⟨g, 0, none⟩) (k + 1) cap)).cell? ⟨w2.heap.size, 3, none⟩ = some (.int .i64 o.cost) := (by simp [go_sem, hHeld, hn5, hn6, F6, y6ob0, y6obp1, y6obp2, y6w1, y6w0, y6wp1, y6wp2])
                  go_wp2_with fail
                  refine hK.out _ _ hSS (fun hHeld => ?_)
                  clear hK K
                  try simp only [Act.put, List.getElem_toArray, List.getElem_cons_succ, List.getElem_cons_zero, List.setIfInBounds_toArray, List.set_cons_zero, List.set_cons_succ]
                  refine wpAnyH_done (by kernel_rfl) ?_ _
                  go_wp2_with fail
                  go_roundw
                  case rel => exact ⟨k + 1, .slice (some ⟨g, 0, none⟩) (k + 1) cap, by omega, by go_num, by rw [← HTK.out]; exact OwnOps.far o6 (p := ⟨ob, 3, none⟩) hoblt _, hF1n.away (p := ⟨ob, 3, none⟩) hne1 _, hF2n.away (p := ⟨ob, 3, none⟩) hne2 _, (by repeat (first | with_reducible exact D6 | with_reducible apply bdrew | with_reducible apply bdrewN | with_reducible apply balloc | ((with_reducible refine bset ?_ ?_ _); rotate_left; (first | omega | (simp <;> omega))))), (by (first | omega | (simp <;> omega))), (by simp [Cls, go_sem, F6, y6ob0, y6obp1, y6obp2, y6w1, y6w0, y6wp1, y6wp2, hn7, hn8, hn9, hn10])⟩
                  case measure => simp [intOf]; omega
        case bo21x4 =>
          go_simp
          go_at_call 112
          refine (clone_any _ _ _ _ (hm.pre.below (by repeat (first | with_reducible exact hBr | with_reducible apply bdrew | with_reducible apply bdrewN | with_reducible apply balloc | ((with_reducible refine bset ?_ ?_ _); rotate_left; (first | omega | (simp <;> omega)))))) hoo.out.1).mono ?_
          rintro e w3 ⟨A0', c0', rfl, hG0, hB3⟩
          have D3 := dstep w hB3 (by repeat (first | with_reducible exact hBr | with_reducible apply bdrew | with_reducible apply bdrewN | with_reducible apply balloc | ((with_reducible refine bset ?_ ?_ _); rotate_left; (first | omega | (simp <;> omega)))))
          have d3s := D3.size
          have Ew2_3 := dstep w2 hB3 (by repeat (first | with_reducible exact Below.refl _ _ | with_reducible apply bdrew | with_reducible apply bdrewN | with_reducible apply balloc | ((with_reducible refine bset ?_ ?_ _); rotate_left; (first | omega | (simp <;> omega)))))
          have C3 := Cls.below (l := [(w.heap.size, 0, .int .i64 t.facts), (w.heap.size, 1, .slice Ai t.init.length ci), (w.heap.size, 2, .slice Ag t.goal.length cg), (w.heap.size, 3, .slice (some ad) t.ops.length co), (w.heap.size + 1, 0, .int .i64 0), (w.heap.size + 1, 1, .slice none 0 0), (w.heap.size + 1, 2, .slice none 0 0), (w.heap.size + 1, 3, .slice none 0 0), (ob, 0, .int .i64 t.facts), (ob, 1, .slice A1 t.init.length c1), (ob, 2, .slice A2 t.goal.length c2), (ob, 3, vo), (w2.heap.size, 0, .slice A5 o.pre.length c5), (w2.heap.size, 1, .slice A6 o.add.length c6), (w2.heap.size, 2, .slice A7 o.del.length c7), (w2.heap.size, 3, .int .i64 o.cost)]) hB3 (by simp [Cls, go_sem, Fr, yrob0, yrobp1, yrobp2, yrw1, yrw0, yrwp1, yrwp2])
          have F3 := C3
          simp only [Cls, and_true] at F3
          have y3ob0 : ob < w3.heap.size := C3.blk (b := ob) (k := 0) (v := .int .i64 t.facts) (by simp)
          have y3obp1 : ob < w3.heap.size + 1 := (by omega)
          have y3obp2 : ob < w3.heap.size + 1 + 1 := (by omega)
          have y3w1 : w.heap.size + 1 < w3.heap.size := C3.blk (b := w.heap.size + 1) (k := 0) (v := .int .i64 0) (by simp)
          have y3w0 : w.heap.size < w3.heap.size := (by omega)
          have y3wp1 : w.heap.size < w3.heap.size + 1 := (by omega)
          have y3wp2 : w.heap.size < w3.heap.size + 1 + 1 := (by omega)
          have y3w20 : w2.heap.size < w3.heap.size := C3.blk (b := w2.heap.size) (k := 0) (v := .slice A5 o.pre.length c5) (by simp)
          have y3w2p1 : w2.heap.size < w3.heap.size + 1 := (by omega)
          have y3w2p2 : w2.heap.size < w3.heap.size + 1 + 1 := (by omega)
          have hq0 : w2.heap.size ≤ w2.heap.size := by omega
          have hlw0 : w2.heap.size < w3.heap.size := by (have := hB3.size; (try simp at this); omega)
          have hpl0 : PList wc.heap.size w3 vo.ownBlock [.slice A0' o.pre.length c0'] o.pre := hG0.plist (by (first | omega | (simp <;> omega))) (fun kk hh => by (have := (hvo kk hh).2; (first | omega | (simp <;> omega))))
          clear hG0
          have hSS : w3.cell? ⟨w2.heap.size, 0, none⟩ = some (.slice A5 o.pre.length c5) ∧ w3.cell? ⟨w2.heap.size, 1, none⟩ = some (.slice A6 o.add.length c6) ∧ w3.cell? ⟨w2.heap.size, 2, none⟩ = some (.slice A7 o.del.length c7) ∧ w3.cell? ⟨w2.heap.size, 3, none⟩ = some (.int .i64 o.cost) := (by simp [go_sem, F3, y3ob0, y3obp1, y3obp2, y3w1, y3w0, y3wp1, y3wp2, y3w20, y3w2p1, y3w2p2])
          go_wp2_with fail
          refine hK.out _ _ hSS (fun hHeld => ?_)
          clear hK K
          try simp only [Act.put, List.getElem_toArray, List.getElem_cons_succ, List.getElem_cons_zero, List.setIfInBounds_toArray, List.set_cons_zero, List.set_cons_succ]
          refine wpAnyH_ready (rs := [1, 7]) (by kernel_rfl) (by simp) ?_
          refine (AllReadyH.cons rfl (fun K hK => ?bo210x1) (AllReadyH.cons rfl (fun K hK => ?bo210x7) AllReadyH.nil))
          case bo210x1 =>
            go_simp
            have hSS := hHeld
            go_wp2_with fail
            refine hK.out _ _ hSS (fun hHeld => ?_)
            clear hK K
            try simp only [Act.put, List.getElem_toArray, List.getElem_cons_succ, List.getElem_cons_zero, List.setIfInBounds_toArray, List.set_cons_zero, List.set_cons_succ]
            refine wpAnyH_ready (rs := [7]) (by kernel_rfl) (by simp) ?_
            refine (AllReadyH.cons rfl (fun K hK => ?bo211x7) AllReadyH.nil)
            case bo211x7 =>
              go_simp
              go_at_call 112
              refine (clone_any _ _ _ _ (hm.add.below (by repeat (first | with_reducible exact D3 | with_reducible apply bdrew | with_reducible apply bdrewN | with_reducible apply balloc | ((with_reducible refine bset ?_ ?_ _); rotate_left; (first | omega | (simp <;> omega)))))) hoo.out.2.1).mono ?_
              rintro e w4 ⟨A1', c1', rfl, hG1, hB4⟩
              have D4 := dstep w hB4 (by repeat (first | with_reducible exact D3 | with_reducible apply bdrew | with_reducible apply bdrewN | with_reducible apply balloc | ((with_reducible refine bset ?_ ?_ _); rotate_left; (first | omega | (simp <;> omega)))))
              have d4s := D4.size
              have Ew2_4 := dstep w2 hB4 (by repeat (first | with_reducible exact Ew2_3 | with_reducible apply bdrew | with_reducible apply bdrewN | with_reducible apply balloc | ((with_reducible refine bset ?_ ?_ _); rotate_left; (first | omega | (simp <;> omega)))))
              have Ew3_4 := dstep w3 hB4 (by repeat (first | with_reducible exact Below.refl _ _ | with_reducible apply bdrew | with_reducible apply bdrewN | with_reducible apply balloc | ((with_reducible refine bset ?_ ?_ _); rotate_left; (first | omega | (simp <;> omega)))))
              have C4 := Cls.below (l := [(w.heap.size, 0, .int .i64 t.facts), (w.heap.size, 1, .slice Ai t.init.length ci), (w.heap.size, 2, .slice Ag t.goal.length cg), (w.heap.size, 3, .slice (some ad) t.ops.length co), (w.heap.size + 1, 0, .int .i64 0), (w.heap.size + 1, 1, .slice none 0 0), (w.heap.size + 1, 2, .slice none 0 0), (w.heap.size + 1, 3, .slice none 0 0), (ob, 0, .int .i64 t.facts), (ob, 1, .slice A1 t.init.length c1), (ob, 2, .slice A2 t.goal.length c2), (ob, 3, vo), (w2.heap.size, 0, .slice A5 o.pre.length c5), (w2.heap.size, 1, .slice A6 o.add.length c6), (w2.heap.size, 2, .slice A7 o.del.length c7), (w2.heap.size, 3, .int .i64 o.cost)]) hB4 (by simp [Cls, go_sem, F3, y3ob0, y3obp1, y3obp2, y3w1, y3w0, y3wp1, y3wp2, y3w20, y3w2p1, y3w2p2])
              have F4 := C4
              simp only [Cls, and_true] at F4
              have y4ob0 : ob < w4.heap.size := C4.blk (b := ob) (k := 0) (v := .int .i64 t.facts) (by simp)
              have y4obp1 : ob < w4.heap.size + 1 := (by omega)
              have y4obp2 : ob < w4.heap.size + 1 + 1 := (by omega)
              have y4w1 : w.heap.size + 1 < w4.heap.size := C4.blk (b := w.heap.size + 1) (k := 0) (v := .int .i64 0) (by simp)
              have y4w0 : w.heap.size < w4.heap.size := (by omega)
              have y4wp1 : w.heap.size < w4.heap.size + 1 := (by omega)
              have y4wp2 : w.heap.size < w4.heap.size + 1 + 1 := (by omega)
              have y4w20 : w2.heap.size < w4.heap.size := C4.blk (b := w2.heap.size) (k := 0) (v := .slice A5 o.pre.length c5) (by simp)
              have y4w2p1 : w2.heap.size < w4.heap.size + 1 := (by omega)
              have y4w2p2 : w2.heap.size < w4.heap.size + 1 + 1 := (by omega)
              have hq1 : w2.heap.size ≤ w3.heap.size := by omega
              have hlw1 : w2.heap.size < w4.heap.size := by (have := hB4.size; (try simp at this); omega)
              have hpl1 : PList wc.heap.size w4 vo.ownBlock [.slice A1' o.add.length c1'] o.add := hG1.plist (by (first | omega | (simp <;> omega))) (fun kk hh => by (have := (hvo kk hh).2; (first | omega | (simp <;> omega))))
              clear hG1
              have hSS : w4.cell? ⟨w2.heap.size, 0, none⟩ = some (.slice A5 o.pre.length c5) ∧ w4.cell? ⟨w2.heap.size, 1, none⟩ = some (.slice A6 o.add.length c6) ∧ w4.cell? ⟨w2.heap.size, 2, none⟩ = some (.slice A7 o.del.length c7) ∧ w4.cell? ⟨w2.heap.size, 3, none⟩ = some (.int .i64 o.cost) := (by simp [go_sem, F4, y4ob0, y4obp1, y4obp2, y4w1, y4w0, y4wp1, y4wp2, y4w20, y4w2p1, y4w2p2])
              go_wp2_with fail
              refine hK.out _ _ hSS (fun hHeld => ?_)
              clear hK K
              try simp only [Act.put, List.getElem_toArray, List.getElem_cons_succ, List.getElem_cons_zero, List.setIfInBounds_toArray, List.set_cons_zero, List.set_cons_succ]
              refine wpAnyH_ready (rs := [10]) (by kernel_rfl) (by simp) ?_
              refine (AllReadyH.cons rfl (fun K hK => ?bo212x10) AllReadyH.nil)
              case bo212x10 =>
                go_simp
                go_at_call 112
                refine (clone_any _ _ _ _ (hm.del.below (by repeat (first | with_reducible exact D4 | with_reducible apply bdrew | with_reducible apply bdrewN | with_reducible apply balloc | ((with_reducible refine bset ?_ ?_ _); rotate_left; (first | omega | (simp <;> omega)))))) hoo.out.2.2).mono ?_
                rintro e w5 ⟨A2', c2', rfl, hG2, hB5⟩
                have D5 := dstep w hB5 (by repeat (first | with_reducible exact D4 | with_reducible apply bdrew | with_reducible apply bdrewN | with_reducible apply balloc | ((with_reducible refine bset ?_ ?_ _); rotate_left; (first | omega | (simp <;> omega)))))
                have d5s := D5.size
                have Ew2_5 := dstep w2 hB5 (by repeat (first | with_reducible exact Ew2_4 | with_reducible apply bdrew | with_reducible apply bdrewN | with_reducible apply balloc | ((with_reducible refine bset ?_ ?_ _); rotate_left; (first | omega | (simp <;> omega)))))
                have Ew3_5 := dstep w3 hB5 (by repeat (first | with_reducible exact Ew3_4 | with_reducible apply bdrew | with_reducible apply bdrewN | with_reducible apply balloc | ((with_reducible refine bset ?_ ?_ _); rotate_left; (first | omega | (simp <;> omega)))))
                have Ew4_5 := dstep w4 hB5 (by repeat (first | with_reducible exact Below.refl _ _ | with_reducible apply bdrew | with_reducible apply bdrewN | with_reducible apply balloc | ((with_reducible refine bset ?_ ?_ _); rotate_left; (first | omega | (simp <;> omega)))))
                have C5 := Cls.below (l := [(w.heap.size, 0, .int .i64 t.facts), (w.heap.size, 1, .slice Ai t.init.length ci), (w.heap.size, 2, .slice Ag t.goal.length cg), (w.heap.size, 3, .slice (some ad) t.ops.length co), (w.heap.size + 1, 0, .int .i64 0), (w.heap.size + 1, 1, .slice none 0 0), (w.heap.size + 1, 2, .slice none 0 0), (w.heap.size + 1, 3, .slice none 0 0), (ob, 0, .int .i64 t.facts), (ob, 1, .slice A1 t.init.length c1), (ob, 2, .slice A2 t.goal.length c2), (ob, 3, vo), (w2.heap.size, 0, .slice A5 o.pre.length c5), (w2.heap.size, 1, .slice A6 o.add.length c6), (w2.heap.size, 2, .slice A7 o.del.length c7), (w2.heap.size, 3, .int .i64 o.cost)]) hB5 (by simp [Cls, go_sem, F4, y4ob0, y4obp1, y4obp2, y4w1, y4w0, y4wp1, y4wp2, y4w20, y4w2p1, y4w2p2])
                have F5 := C5
                simp only [Cls, and_true] at F5
                have y5ob0 : ob < w5.heap.size := C5.blk (b := ob) (k := 0) (v := .int .i64 t.facts) (by simp)
                have y5obp1 : ob < w5.heap.size + 1 := (by omega)
                have y5obp2 : ob < w5.heap.size + 1 + 1 := (by omega)
                have y5w1 : w.heap.size + 1 < w5.heap.size := C5.blk (b := w.heap.size + 1) (k := 0) (v := .int .i64 0) (by simp)
                have y5w0 : w.heap.size < w5.heap.size := (by omega)
                have y5wp1 : w.heap.size < w5.heap.size + 1 := (by omega)
                have y5wp2 : w.heap.size < w5.heap.size + 1 + 1 := (by omega)
                have y5w20 : w2.heap.size < w5.heap.size := C5.blk (b := w2.heap.size) (k := 0) (v := .slice A5 o.pre.length c5) (by simp)
                have y5w2p1 : w2.heap.size < w5.heap.size + 1 := (by omega)
                have y5w2p2 : w2.heap.size < w5.heap.size + 1 + 1 := (by omega)
                have hq2 : w2.heap.size ≤ w4.heap.size := by omega
                have hlw2 : w2.heap.size < w5.heap.size := by (have := hB5.size; (try simp at this); omega)
                have hpl2 : PList wc.heap.size w5 vo.ownBlock [.slice A2' o.del.length c2'] o.del := hG2.plist (by (first | omega | (simp <;> omega))) (fun kk hh => by (have := (hvo kk hh).2; (first | omega | (simp <;> omega))))
                clear hG2
                have hSS : w5.cell? ⟨w2.heap.size, 0, none⟩ = some (.slice A5 o.pre.length c5) ∧ w5.cell? ⟨w2.heap.size, 1, none⟩ = some (.slice A6 o.add.length c6) ∧ w5.cell? ⟨w2.heap.size, 2, none⟩ = some (.slice A7 o.del.length c7) ∧ w5.cell? ⟨w2.heap.size, 3, none⟩ = some (.int .i64 o.cost) := (by simp [go_sem, F5, y5ob0, y5obp1, y5obp2, y5w1, y5w0, y5wp1, y5wp2, y5w20, y5w2p1, y5w2p2])
                go_wp2_with fail
                refine hK.out _ _ hSS (fun hHeld => ?_)
                clear hK K
                try simp only [Act.put, List.getElem_toArray, List.getElem_cons_succ, List.getElem_cons_zero, List.setIfInBounds_toArray, List.set_cons_zero, List.set_cons_succ]
                refine wpAnyH_take (i := 13) (v := ?vo2e1313) rfl (by kernel_rfl) (by kernel_rfl) (by kernel_rfl) (fun _ _ _ h => h) (Or.inl ⟨by rfl, ?ho2e1313⟩) (by assumption) ?ro2e1313
                case ho2e1313 => (intro w hSw; (try dsimp only at hSw); go_simp; (try with_reducible rfl))
                try simp only [Act.put, List.getElem_toArray, List.getElem_cons_succ, List.getElem_cons_zero, List.setIfInBounds_toArray, List.set_cons_zero, List.set_cons_succ]
                refine wpAnyH_ready (rs := [14]) (by kernel_rfl) (by simp) ?_
                refine (AllReadyH.cons rfl (fun K hK => ?bo214x14) AllReadyH.nil)
                case bo214x14 =>
                  go_simp
                  have hSS : (w5.alloc (.cells #[.slice A0' o.pre.length c0', .slice A1' o.add.length c1', .slice A2' o.del.length c2', .int .i64 o.cost] 61)).cell? ⟨w2.heap.size, 0, none⟩ = some (.slice A5 o.pre.length c5) ∧ (w5.alloc (.cells #[.slice A0' o.pre.length c0', .slice A1' o.add.length c1', .slice A2' o.del.length c2', .int .i64 o.cost] 61)).cell? ⟨w2.heap.size, 1, none⟩ = some (.slice A6 o.add.length c6) ∧ (w5.alloc (.cells #[.slice A0' o.pre.length c0', .slice A1' o.add.length c1', .slice A2' o.del.length c2', .int .i64 o.cost] 61)).cell? ⟨w2.heap.size, 2, none⟩ = some (.slice A7 o.del.length c7) ∧ (w5.alloc (.cells #[.slice A0' o.pre.length c0', .slice A1' o.add.length c1', .slice A2' o.del.length c2', .int .i64 o.cost] 61)).cell? ⟨w2.heap.size, 3, none⟩ = some (.int .i64 o.cost) := (by simp [go_sem, F5, y5ob0, y5obp1, y5obp2, y5w1, y5w0, y5wp1, y5wp2, y5w20, y5w2p1, y5w2p2])
                  go_wp2_with fail
                  refine hK.out _ _ hSS (fun hHeld => ?_)
                  clear hK K
                  try simp only [Act.put, List.getElem_toArray, List.getElem_cons_succ, List.getElem_cons_zero, List.setIfInBounds_toArray, List.set_cons_zero, List.set_cons_succ]
                  refine wpAnyH_ready (rs := [15]) (by kernel_rfl) (by simp) ?_
                  refine AllReadyH.cons rfl (fun K hK => ?_) AllReadyH.nil
                  have hownA : OwnOps wc.heap.size (w5.alloc (.cells #[.slice A0' o.pre.length c0', .slice A1' o.add.length c1', .slice A2' o.del.length c2', .int .i64 o.cost] 61)) vo (t.ops.take k) := hown.below (by repeat (first | with_reducible exact Ew2_5 | with_reducible apply bdrew | with_reducible apply bdrewN | with_reducible apply balloc | ((with_reducible refine bset ?_ ?_ _); rotate_left; (first | omega | (simp <;> omega)))))
                  have hlwA : w2.heap.size < w5.heap.size := hlw2
                  refine step_el (pop_stable wc.heap.size) 23 80 (.agg #[.slice none 0 0, .slice none 0 0, .slice none 0 0, .int .i64 0]) Try.underlying23 info_op rfl (by decide) (by decide) rfl (.tmp 23) (.tmp 36) rfl w [(w.heap.size, 0, .int .i64 t.facts), (w.heap.size, 1, .slice Ai t.init.length ci), (w.heap.size, 2, .slice Ag t.goal.length cg), (w.heap.size, 3, .slice (some ad) t.ops.length co), (w.heap.size + 1, 0, .int .i64 0), (w.heap.size + 1, 1, .slice none 0 0), (w.heap.size + 1, 2, .slice none 0 0), (w.heap.size + 1, 3, .slice none 0 0), (ob, 0, .int .i64 t.facts), (ob, 1, .slice A1 t.init.length c1), (ob, 2, .slice A2 t.goal.length c2), (ob, 3, vo)] rfl hownA ⟨w5.heap.size, 0, none⟩ 1 rfl [.slice A0' o.pre.length c0', .slice A1' o.add.length c1', .slice A2' o.del.length c2', .int .i64 o.cost] o rfl ?n1_2 ?n2_2 ?n3_2 hlen ?n4_2 ?n5_2 ?n6_2 ?n7_2 ?n8_2 ?nn_2
                  case n1_2 => (intro j u hu; rcases j with _ | _ | _ | _ | j <;> simp at hu <;> subst hu <;> simp [go_sem])
                  case n2_2 => (intro u hu; simp at hu; rcases hu with rfl | rfl | rfl | rfl <;> rfl)
                  case n3_2 =>
                    unfold POp
                    exact ⟨A0', c0', A1', c1', A2', c2', rfl, (plist_stable _).below hpl0 (by repeat (first | with_reducible exact Ew3_5 | with_reducible apply bdrew | with_reducible apply bdrewN | with_reducible apply balloc | ((with_reducible refine bset ?_ ?_ _); rotate_left; (first | omega | (simp <;> omega))))), (plist_stable _).below hpl1 (by repeat (first | with_reducible exact Ew4_5 | with_reducible apply bdrew | with_reducible apply bdrewN | with_reducible apply balloc | ((with_reducible refine bset ?_ ?_ _); rotate_left; (first | omega | (simp <;> omega))))), (plist_stable _).below hpl2 (by repeat (first | with_reducible exact Below.refl _ _ | with_reducible apply bdrew | with_reducible apply bdrewN | with_reducible apply balloc | ((with_reducible refine bset ?_ ?_ _); rotate_left; (first | omega | (simp <;> omega)))))⟩
                  case n4_2 => (first | omega | (simp <;> omega))
                  case n5_2 => omega
                  case n6_2 => repeat (first | with_reducible exact D5 | with_reducible apply bdrew | with_reducible apply bdrewN | with_reducible apply balloc | ((with_reducible refine bset ?_ ?_ _); rotate_left; (first | omega | (simp <;> omega))))
                  case n7_2 => simp [Cls, go_sem, F5, y5ob0, y5obp1, y5obp2, y5w1, y5w0, y5wp1, y5wp2, y5w20, y5w2p1, y5w2p2]
                  case n8_2 => (simp <;> omega)
                  all_goals first | done | skip
                  intro g cap w6 o6 D6 C6 sz6 G6
                  have hE6 : ∀ (k : Nat) (v : Value), (w5.alloc (.cells #[.slice A0' o.pre.length c0', .slice A1' o.add.length c1', .slice A2' o.del.length c2', .int .i64 o.cost] 61)).cell? ⟨w2.heap.size, k, none⟩ = some v → w6.cell? ⟨w2.heap.size, k, none⟩ = some v := fun k v hh => (G6.cell_far ⟨w2.heap.size, k, none⟩ (by (simp <;> omega)) (fun e => by (have := (hvo _ e.symm).2; simp at this))).trans hh
                  have hSS : w6.cell? ⟨w2.heap.size, 0, none⟩ = some (.slice A5 o.pre.length c5) ∧ w6.cell? ⟨w2.heap.size, 1, none⟩ = some (.slice A6 o.add.length c6) ∧ w6.cell? ⟨w2.heap.size, 2, none⟩ = some (.slice A7 o.del.length c7) ∧ w6.cell? ⟨w2.heap.size, 3, none⟩ = some (.int .i64 o.cost) := (by obtain ⟨q0, q1, q2, q3⟩ := hHeld; exact ⟨hE6 _ _ q0, hE6 _ _ q1, hE6 _ _ q2, hE6 _ _ q3⟩)
                  have hF1n : Fresh (w.heap.size + 1 + 1) w6 A1 c1 t.init := (hF1.below (w' := (w5.alloc (.cells #[.slice A0' o.pre.length c0', .slice A1' o.add.length c1', .slice A2' o.del.length c2', .int .i64 o.cost] 61))) (by repeat (first | with_reducible exact Ew2_5 | with_reducible apply bdrew | with_reducible apply bdrewN | with_reducible apply balloc | ((with_reducible refine bset ?_ ?_ _); rotate_left; (first | omega | (simp <;> omega)))))).grown G6 (fun ad he e => by (have := (hvo _ e.symm).1; have := hbl1 ad he; omega))
                  have hF2n : Fresh (w.heap.size + 1 + 1) w6 A2 c2 t.goal := (hF2.below (w' := (w5.alloc (.cells #[.slice A0' o.pre.length c0', .slice A1' o.add.length c1', .slice A2' o.del.length c2', .int .i64 o.cost] 61))) (by repeat (first | with_reducible exact Ew2_5 | with_reducible apply bdrew | with_reducible apply bdrewN | with_reducible apply balloc | ((with_reducible refine bset ?_ ?_ _); rotate_left; (first | omega | (simp <;> omega)))))).grown G6 (fun ad he e => by (have := (hvo _ e.symm).1; have := hbl2 ad he; omega))
                  rw [HTL.out] at o6
                  have hsw : w2.heap.size < w6.heap.size := by (simp at sz6; omega)
                  clear hpl0 hpl1 hpl2 hF1 hF2 hE6 G6 hownA
                  have d6s := D6.size
                  have F6 := C6
                  simp only [Cls, and_true] at F6
                  have y6ob0 : ob < w6.heap.size := C6.blk (b := ob) (k := 0) (v := .int .i64 t.facts) (by simp)
                  have y6obp1 : ob < w6.heap.size + 1 := (by omega)
                  have y6obp2 : ob < w6.heap.size + 1 + 1 := (by omega)
                  have y6w1 : w.heap.size + 1 < w6.heap.size := C6.blk (b := w.heap.size + 1) (k := 0) (v := .int .i64 0) (by simp)
                  have y6w0 : w.heap.size < w6.heap.size := (by omega)
                  have y6wp1 : w.heap.size < w6.heap.size + 1 := (by omega)
                  have y6wp2 : w.heap.size < w6.heap.size + 1 + 1 := (by omega)
                  refine hK.out _ _ hSS (fun hHeld => ?_)
                  clear hK K
                  try simp only [Act.put, List.getElem_toArray, List.getElem_cons_succ, List.getElem_cons_zero, List.setIfInBounds_toArray, List.set_cons_zero, List.set_cons_succ]
                  refine wpAnyH_take (i := 16) (v := ?vo2l1616) rfl (by kernel_rfl) (by kernel_rfl) (by kernel_rfl) (fun _ _ _ h => h) (Or.inl ⟨by rfl, ?ho2l1616⟩) (by assumption) ?ro2l1616
                  case ho2l1616 => (intro w hSw; (try dsimp only at hSw); go_simp; (try with_reducible rfl))
                  try simp only [Act.put, List.getElem_toArray, List.getElem_cons_succ, List.getElem_cons_zero, List.setIfInBounds_toArray, List.set_cons_zero, List.set_cons_succ]
                  refine wpAnyH_ready (rs := [17]) (by kernel_rfl) (by simp) ?_
                  refine AllReadyH.cons rfl (fun K hK => ?_) AllReadyH.nil
                  go_simp
                  have hn5 : ¬ ob = w2.heap.size := (by omega)
                  have hn6 : ¬ w2.heap.size = ob := (by omega)
                  have hn7 : ¬ ob = w.heap.size := (by omega)
                  have hn8 : ¬ w.heap.size = ob := (by omega)
                  have hn9 : ¬ ob = w.heap.size + 1 := (by omega)
                  have hn10 : ¬ w.heap.size + 1 = ob := (by omega)
                  have hSS : (w6.setCell ⟨ob, 3, none⟩ (.slice (some ⟨g, 0, none⟩) (k + 1) cap)).cell? ⟨w2.heap.size, 0, none⟩ = some (.slice A5 o.pre.length c5) ∧ (w6.setCell ⟨ob, 3, none⟩ (.slice (some ⟨g, 0, none⟩) (k + 1) cap)).cell? ⟨w2.heap.size, 1, none⟩ = some (.slice A6 o.add.length c6) ∧ (w6.setCell ⟨ob, 3, none⟩ (.slice (some ⟨g, 0, none⟩) (k + 1) cap)).cell? ⟨w2.heap.size, 2, none⟩ = some (.slice A7 o.del.length c7) ∧ (w6.setCell ⟨ob, 3, none⟩ (.slice (some ⟨g, 0, none⟩) (k + 1) cap)).cell? ⟨w2.heap.size, 3, none⟩ = some (.int .i64 o.cost) := (by simp [go_sem, hHeld, hn5, hn6, F6, y6ob0, y6obp1, y6obp2, y6w1, y6w0, y6wp1, y6wp2])
                  go_wp2_with fail
                  refine hK.out _ _ hSS (fun hHeld => ?_)
                  clear hK K
                  try simp only [Act.put, List.getElem_toArray, List.getElem_cons_succ, List.getElem_cons_zero, List.setIfInBounds_toArray, List.set_cons_zero, List.set_cons_succ]
                  refine wpAnyH_done (by kernel_rfl) ?_ _
                  go_wp2_with fail
                  go_roundw
                  case rel => exact ⟨k + 1, .slice (some ⟨g, 0, none⟩) (k + 1) cap, by omega, by go_num, by rw [← HTK.out]; exact OwnOps.far o6 (p := ⟨ob, 3, none⟩) hoblt _, hF1n.away (p := ⟨ob, 3, none⟩) hne1 _, hF2n.away (p := ⟨ob, 3, none⟩) hne2 _, (by repeat (first | with_reducible exact D6 | with_reducible apply bdrew | with_reducible apply bdrewN | with_reducible apply balloc | ((with_reducible refine bset ?_ ?_ _); rotate_left; (first | omega | (simp <;> omega))))), (by (first | omega | (simp <;> omega))), (by simp [Cls, go_sem, F6, y6ob0, y6obp1, y6obp2, y6w1, y6w0, y6wp1, y6wp2, hn7, hn8, hn9, hn10])⟩
                  case measure => simp [intOf]; omega
          case bo210x7 =>
            go_simp
            go_at_call 112
            refine (clone_any _ _ _ _ (hm.add.below (by repeat (first | with_reducible exact D3 | with_reducible apply bdrew | with_reducible apply bdrewN | with_reducible apply balloc | ((with_reducible refine bset ?_ ?_ _); rotate_left; (first | omega | (simp <;> omega)))))) hoo.out.2.1).mono ?_
            rintro e w4 ⟨A1', c1', rfl, hG1, hB4⟩
            have D4 := dstep w hB4 (by repeat (first | with_reducible exact D3 | with_reducible apply bdrew | with_reducible apply bdrewN | with_reducible apply balloc | ((with_reducible refine bset ?_ ?_ _); rotate_left; (first | omega | (simp <;> omega)))))
            have d4s := D4.size
            have Ew2_4 := dstep w2 hB4 (by repeat (first | with_reducible exact Ew2_3 | with_reducible apply bdrew | with_reducible apply bdrewN | with_reducible apply balloc | ((with_reducible refine bset ?_ ?_ _); rotate_left; (first | omega | (simp <;> omega)))))
            have Ew3_4 := dstep w3 hB4 (by repeat (first | with_reducible exact Below.refl _ _ | with_reducible apply bdrew | with_reducible apply bdrewN | with_reducible apply balloc | ((with_reducible refine bset ?_ ?_ _); rotate_left; (first | omega | (simp <;> omega)))))
            have C4 := Cls.below (l := [(w.heap.size, 0, .int .i64 t.facts), (w.heap.size, 1, .slice Ai t.init.length ci), (w.heap.size, 2, .slice Ag t.goal.length cg), (w.heap.size, 3, .slice (some ad) t.ops.length co), (w.heap.size + 1, 0, .int .i64 0), (w.heap.size + 1, 1, .slice none 0 0), (w.heap.size + 1, 2, .slice none 0 0), (w.heap.size + 1, 3, .slice none 0 0), (ob, 0, .int .i64 t.facts), (ob, 1, .slice A1 t.init.length c1), (ob, 2, .slice A2 t.goal.length c2), (ob, 3, vo), (w2.heap.size, 0, .slice A5 o.pre.length c5), (w2.heap.size, 1, .slice A6 o.add.length c6), (w2.heap.size, 2, .slice A7 o.del.length c7), (w2.heap.size, 3, .int .i64 o.cost)]) hB4 (by simp [Cls, go_sem, F3, y3ob0, y3obp1, y3obp2, y3w1, y3w0, y3wp1, y3wp2, y3w20, y3w2p1, y3w2p2])
            have F4 := C4
            simp only [Cls, and_true] at F4
            have y4ob0 : ob < w4.heap.size := C4.blk (b := ob) (k := 0) (v := .int .i64 t.facts) (by simp)
            have y4obp1 : ob < w4.heap.size + 1 := (by omega)
            have y4obp2 : ob < w4.heap.size + 1 + 1 := (by omega)
            have y4w1 : w.heap.size + 1 < w4.heap.size := C4.blk (b := w.heap.size + 1) (k := 0) (v := .int .i64 0) (by simp)
            have y4w0 : w.heap.size < w4.heap.size := (by omega)
            have y4wp1 : w.heap.size < w4.heap.size + 1 := (by omega)
            have y4wp2 : w.heap.size < w4.heap.size + 1 + 1 := (by omega)
            have y4w20 : w2.heap.size < w4.heap.size := C4.blk (b := w2.heap.size) (k := 0) (v := .slice A5 o.pre.length c5) (by simp)
            have y4w2p1 : w2.heap.size < w4.heap.size + 1 := (by omega)
            have y4w2p2 : w2.heap.size < w4.heap.size + 1 + 1 := (by omega)
            have hq1 : w2.heap.size ≤ w3.heap.size := by omega
            have hlw1 : w2.heap.size < w4.heap.size := by (have := hB4.size; (try simp at this); omega)
            have hpl1 : PList wc.heap.size w4 vo.ownBlock [.slice A1' o.add.length c1'] o.add := hG1.plist (by (first | omega | (simp <;> omega))) (fun kk hh => by (have := (hvo kk hh).2; (first | omega | (simp <;> omega))))
            clear hG1
            have hSS : w4.cell? ⟨w2.heap.size, 0, none⟩ = some (.slice A5 o.pre.length c5) ∧ w4.cell? ⟨w2.heap.size, 1, none⟩ = some (.slice A6 o.add.length c6) ∧ w4.cell? ⟨w2.heap.size, 2, none⟩ = some (.slice A7 o.del.length c7) ∧ w4.cell? ⟨w2.heap.size, 3, none⟩ = some (.int .i64 o.cost) := (by simp [go_sem, F4, y4ob0, y4obp1, y4obp2, y4w1, y4w0, y4wp1, y4wp2, y4w20, y4w2p1, y4w2p2])
            go_wp2_with fail
            refine hK.out _ _ hSS (fun hHeld => ?_)
            clear hK K
            try simp only [Act.put, List.getElem_toArray, List.getElem_cons_succ, List.getElem_cons_zero, List.setIfInBounds_toArray, List.set_cons_zero, List.set_cons_succ]
            refine wpAnyH_ready (rs := [1, 10]) (by kernel_rfl) (by simp) ?_
            refine (AllReadyH.cons rfl (fun K hK => ?bo218x1) (AllReadyH.cons rfl (fun K hK => ?bo218x10) AllReadyH.nil))
            case bo218x1 =>
              go_simp
              have hSS := hHeld
              go_wp2_with fail
              refine hK.out _ _ hSS (fun hHeld => ?_)
              clear hK K
              try simp only [Act.put, List.getElem_toArray, List.getElem_cons_succ, List.getElem_cons_zero, List.setIfInBounds_toArray, List.set_cons_zero, List.set_cons_succ]
              refine wpAnyH_ready (rs := [10]) (by kernel_rfl) (by simp) ?_
              refine (AllReadyH.cons rfl (fun K hK => ?bo219x10) AllReadyH.nil)
              case bo219x10 =>
                go_simp
                go_at_call 112
                refine (clone_any _ _ _ _ (hm.del.below (by repeat (first | with_reducible exact D4 | with_reducible apply bdrew | with_reducible apply bdrewN | with_reducible apply balloc | ((with_reducible refine bset ?_ ?_ _); rotate_left; (first | omega | (simp <;> omega)))))) hoo.out.2.2).mono ?_
                rintro e w5 ⟨A2', c2', rfl, hG2, hB5⟩
                have D5 := dstep w hB5 (by repeat (first | with_reducible exact D4 | with_reducible apply bdrew | with_reducible apply bdrewN | with_reducible apply balloc | ((with_reducible refine bset ?_ ?_ _); rotate_left; (first | omega | (simp <;> omega)))))
                have d5s := D5.size
                have Ew2_5 := dstep w2 hB5 (by repeat (first | with_reducible exact Ew2_4 | with_reducible apply bdrew | with_reducible apply bdrewN | with_reducible apply balloc | ((with_reducible refine bset ?_ ?_ _); rotate_left; (first | omega | (simp <;> omega)))))
                have Ew3_5 := dstep w3 hB5 (by repeat (first | with_reducible exact Ew3_4 | with_reducible apply bdrew | with_reducible apply bdrewN | with_reducible apply balloc | ((with_reducible refine bset ?_ ?_ _); rotate_left; (first | omega | (simp <;> omega)))))
                have Ew4_5 := dstep w4 hB5 (by repeat (first | with_reducible exact Below.refl _ _ | with_reducible apply bdrew | with_reducible apply bdrewN | with_reducible apply balloc | ((with_reducible refine bset ?_ ?_ _); rotate_left; (first | omega | (simp <;> omega)))))
                have C5 := Cls.below (l := [(w.heap.size, 0, .int .i64 t.facts), (w.heap.size, 1, .slice Ai t.init.length ci), (w.heap.size, 2, .slice Ag t.goal.length cg), (w.heap.size, 3, .slice (some ad) t.ops.length co), (w.heap.size + 1, 0, .int .i64 0), (w.heap.size + 1, 1, .slice none 0 0), (w.heap.size + 1, 2, .slice none 0 0), (w.heap.size + 1, 3, .slice none 0 0), (ob, 0, .int .i64 t.facts), (ob, 1, .slice A1 t.init.length c1), (ob, 2, .slice A2 t.goal.length c2), (ob, 3, vo), (w2.heap.size, 0, .slice A5 o.pre.length c5), (w2.heap.size, 1, .slice A6 o.add.length c6), (w2.heap.size, 2, .slice A7 o.del.length c7), (w2.heap.size, 3, .int .i64 o.cost)]) hB5 (by simp [Cls, go_sem, F4, y4ob0, y4obp1, y4obp2, y4w1, y4w0, y4wp1, y4wp2, y4w20, y4w2p1, y4w2p2])
                have F5 := C5
                simp only [Cls, and_true] at F5
                have y5ob0 : ob < w5.heap.size := C5.blk (b := ob) (k := 0) (v := .int .i64 t.facts) (by simp)
                have y5obp1 : ob < w5.heap.size + 1 := (by omega)
                have y5obp2 : ob < w5.heap.size + 1 + 1 := (by omega)
                have y5w1 : w.heap.size + 1 < w5.heap.size := C5.blk (b := w.heap.size + 1) (k := 0) (v := .int .i64 0) (by simp)
                have y5w0 : w.heap.size < w5.heap.size := (by omega)
                have y5wp1 : w.heap.size < w5.heap.size + 1 := (by omega)
                have y5wp2 : w.heap.size < w5.heap.size + 1 + 1 := (by omega)
                have y5w20 : w2.heap.size < w5.heap.size := C5.blk (b := w2.heap.size) (k := 0) (v := .slice A5 o.pre.length c5) (by simp)
                have y5w2p1 : w2.heap.size < w5.heap.size + 1 := (by omega)
                have y5w2p2 : w2.heap.size < w5.heap.size + 1 + 1 := (by omega)
                have hq2 : w2.heap.size ≤ w4.heap.size := by omega
                have hlw2 : w2.heap.size < w5.heap.size := by (have := hB5.size; (try simp at this); omega)
                have hpl2 : PList wc.heap.size w5 vo.ownBlock [.slice A2' o.del.length c2'] o.del := hG2.plist (by (first | omega | (simp <;> omega))) (fun kk hh => by (have := (hvo kk hh).2; (first | omega | (simp <;> omega))))
                clear hG2
                have hSS : w5.cell? ⟨w2.heap.size, 0, none⟩ = some (.slice A5 o.pre.length c5) ∧ w5.cell? ⟨w2.heap.size, 1, none⟩ = some (.slice A6 o.add.length c6) ∧ w5.cell? ⟨w2.heap.size, 2, none⟩ = some (.slice A7 o.del.length c7) ∧ w5.cell? ⟨w2.heap.size, 3, none⟩ = some (.int .i64 o.cost) := (by simp [go_sem, F5, y5ob0, y5obp1, y5obp2, y5w1, y5w0, y5wp1, y5wp2, y5w20, y5w2p1, y5w2p2])
                go_wp2_with fail
                refine hK.out _ _ hSS (fun hHeld => ?_)
                clear hK K
                try simp only [Act.put, List.getElem_toArray, List.getElem_cons_succ, List.getElem_cons_zero, List.setIfInBounds_toArray, List.set_cons_zero, List.set_cons_succ]
                refine wpAnyH_take (i := 13) (v := ?vo2e2013) rfl (by kernel_rfl) (by kernel_rfl) (by kernel_rfl) (fun _ _ _ h => h) (Or.inl ⟨by rfl, ?ho2e2013⟩) (by assumption) ?ro2e2013
                case ho2e2013 => (intro w hSw; (try dsimp only at hSw); go_simp; (try with_reducible rfl))
                try simp only [Act.put, List.getElem_toArray, List.getElem_cons_succ, List.getElem_cons_zero, List.setIfInBounds_toArray, List.set_cons_zero, List.set_cons_succ]
                refine wpAnyH_ready (rs := [14]) (by kernel_rfl) (by simp) ?_
                refine (AllReadyH.cons rfl (fun K hK => ?bo221x14) AllReadyH.nil)
                case bo221x14 =>
                  go_simp
                  have hSS : (w5.alloc (.cells #[.slice A0' o.pre.length c0', .slice A1' o.add.length c1', .slice A2' o.del.length c2', .int .i64 o.cost] 61)).cell? ⟨w2.heap.size, 0, none⟩ = some (.slice A5 o.pre.length c5) ∧ (w5.alloc (.cells #[.slice A0' o.pre.length c0', .slice A1' o.add.length c1', .slice A2' o.del.length c2', .int .i64 o.cost] 61)).cell? ⟨w2.heap.size, 1, none⟩ = some (.slice A6 o.add.length c6) ∧ (w5.alloc (.cells #[.slice A0' o.pre.length c0', .slice A1' o.add.length c1', .slice A2' o.del.length c2', .int .i64 o.cost] 61)).cell? ⟨w2.heap.size, 2, none⟩ = some (.slice A7 o.del.length c7) ∧ (w5.alloc (.cells #[.slice A0' o.pre.length c0', .slice A1' o.add.length c1', .slice A2' o.del.length c2', .int .i64 o.cost] 61)).cell? ⟨w2.heap.size, 3, none⟩ = some (.int .i64 o.cost) := (by simp [go_sem, F5, y5ob0, y5obp1, y5obp2, y5w1, y5w0, y5wp1, y5wp2, y5w20, y5w2p1, y5w2p2])
                  go_wp2_with fail
                  refine hK.out _ _ hSS (fun hHeld => ?_)
                  clear hK K
                  try simp only [Act.put, List.getElem_toArray, List.getElem_cons_succ, List.getElem_cons_zero, List.setIfInBounds_toArray, List.set_cons_zero, List.set_cons_succ]
                  refine wpAnyH_ready (rs := [15]) (by kernel_rfl) (by simp) ?_
                  refine AllReadyH.cons rfl (fun K hK => ?_) AllReadyH.nil
                  have hownA : OwnOps wc.heap.size (w5.alloc (.cells #[.slice A0' o.pre.length c0', .slice A1' o.add.length c1', .slice A2' o.del.length c2', .int .i64 o.cost] 61)) vo (t.ops.take k) := hown.below (by repeat (first | with_reducible exact Ew2_5 | with_reducible apply bdrew | with_reducible apply bdrewN | with_reducible apply balloc | ((with_reducible refine bset ?_ ?_ _); rotate_left; (first | omega | (simp <;> omega)))))
                  have hlwA : w2.heap.size < w5.heap.size := hlw2
                  refine step_el (pop_stable wc.heap.size) 23 80 (.agg #[.slice none 0 0, .slice none 0 0, .slice none 0 0, .int .i64 0]) Try.underlying23 info_op rfl (by decide) (by decide) rfl (.tmp 23) (.tmp 36) rfl w [(w.heap.size, 0, .int .i64 t.facts), (w.heap.size, 1, .slice Ai t.init.length ci), (w.heap.size, 2, .slice Ag t.goal.length cg), (w.heap.size, 3, .slice (some ad) t.ops.length co), (w.heap.size + 1, 0, .int .i64 0), (w.heap.size + 1, 1, .slice none 0 0), (w.heap.size + 1, 2, .slice none 0 0), (w.heap.size + 1, 3, .slice none 0 0), (ob, 0, .int .i64 t.facts), (ob, 1, .slice A1 t.init.length c1), (ob, 2, .slice A2 t.goal.length c2), (ob, 3, vo)] rfl hownA ⟨w5.heap.size, 0, none⟩ 1 rfl [.slice A0' o.pre.length c0', .slice A1' o.add.length c1', .slice A2' o.del.length c2', .int .i64 o.cost] o rfl ?n1_3 ?n2_3 ?n3_3 hlen ?n4_3 ?n5_3 ?n6_3 ?n7_3 ?n8_3 ?nn_3
                  case n1_3 => (intro j u hu; rcases j with _ | _ | _ | _ | j <;> simp at hu <;> subst hu <;> simp [go_sem])
                  case n2_3 => (intro u hu; simp at hu; rcases hu with rfl | rfl | rfl | rfl <;> rfl)
                  case n3_3 =>
                    unfold POp
                    exact ⟨A0', c0', A1', c1', A2', c2', rfl, (plist_stable _).below hpl0 (by repeat (first | with_reducible exact Ew3_5 | with_reducible apply bdrew | with_reducible apply bdrewN | with_reducible apply balloc | ((with_reducible refine bset ?_ ?_ _); rotate_left; (first | omega | (simp <;> omega))))), (plist_stable _).below hpl1 (by repeat (first | with_reducible exact Ew4_5 | with_reducible apply bdrew | with_reducible apply bdrewN | with_reducible apply balloc | ((with_reducible refine bset ?_ ?_ _); rotate_left; (first | omega | (simp <;> omega))))), (plist_stable _).below hpl2 (by repeat (first | with_reducible exact Below.refl _ _ | with_reducible apply bdrew | with_reducible apply bdrewN | with_reducible apply balloc | ((with_reducible refine bset ?_ ?_ _); rotate_left; (first | omega | (simp <;> omega)))))⟩
                  case n4_3 => (first | omega | (simp <;> omega))
                  case n5_3 => omega
                  case n6_3 => repeat (first | with_reducible exact D5 | with_reducible apply bdrew | with_reducible apply bdrewN | with_reducible apply balloc | ((with_reducible refine bset ?_ ?_ _); rotate_left; (first | omega | (simp <;> omega))))
                  case n7_3 => simp [Cls, go_sem, F5, y5ob0, y5obp1, y5obp2, y5w1, y5w0, y5wp1, y5wp2, y5w20, y5w2p1, y5w2p2]
                  case n8_3 => (simp <;> omega)
                  all_goals first | done | skip
                  intro g cap w6 o6 D6 C6 sz6 G6
                  have hE6 : ∀ (k : Nat) (v : Value), (w5.alloc (.cells #[.slice A0' o.pre.length c0', .slice A1' o.add.length c1', .slice A2' o.del.length c2', .int .i64 o.cost] 61)).cell? ⟨w2.heap.size, k, none⟩ = some v → w6.cell? ⟨w2.heap.size, k, none⟩ = some v := fun k v hh => (G6.cell_far ⟨w2.heap.size, k, none⟩ (by (simp <;> omega)) (fun e => by (have := (hvo _ e.symm).2; simp at this))).trans hh
                  have hSS : w6.cell? ⟨w2.heap.size, 0, none⟩ = some (.slice A5 o.pre.length c5) ∧ w6.cell? ⟨w2.heap.size, 1, none⟩ = some (.slice A6 o.add.length c6) ∧ w6.cell? ⟨w2.heap.size, 2, none⟩ = some (.slice A7 o.del.length c7) ∧ w6.cell? ⟨w2.heap.size, 3, none⟩ = some (.int .i64 o.cost) := (by obtain ⟨q0, q1, q2, q3⟩ := hHeld; exact ⟨hE6 _ _ q0, hE6 _ _ q1, hE6 _ _ q2, hE6 _ _ q3⟩)
                  have hF1n : Fresh (w.heap.size + 1 + 1) w6 A1 c1 t.init := (hF1.below (w' := (w5.alloc (.cells #[.slice A0' o.pre.length c0', .slice A1' o.add.length c1', .slice A2' o.del.length c2', .int .i64 o.cost] 61))) (by repeat (first | with_reducible exact Ew2_5 | with_reducible apply bdrew | with_reducible apply bdrewN | with_reducible apply balloc | ((with_reducible refine bset ?_ ?_ _); rotate_left; (first | omega | (simp <;> omega)))))).grown G6 (fun ad he e => by (have := (hvo _ e.symm).1; have := hbl1 ad he; omega))
                  have hF2n : Fresh (w.heap.size + 1 + 1) w6 A2 c2 t.goal := (hF2.below (w' := (w5.alloc (.cells #[.slice A0' o.pre.length c0', .slice A1' o.add.length c1', .slice A2' o.del.length c2', .int .i64 o.cost] 61))) (by repeat (first | with_reducible exact Ew2_5 | with_reducible apply bdrew | with_reducible apply bdrewN | with_reducible apply balloc | ((with_reducible refine bset ?_ ?_ _); rotate_left; (first | omega | (simp <;> omega)))))).grown G6 (fun ad he e => by (have := (hvo _ e.symm).1; have := hbl2 ad he; omega))
                  rw [HTL.out] at o6
                  have hsw : w2.heap.size < w6.heap.size := by (simp at sz6; omega)
                  clear hpl0 hpl1 hpl2 hF1 hF2 hE6 G6 hownA
                  have d6s := D6.size
                  have F6 := C6
                  simp only [Cls, and_true] at F6
                  have y6ob0 : ob < w6.heap.size := C6.blk (b := ob) (k := 0) (v := .int .i64 t.facts) (by simp)
                  have y6obp1 : ob < w6.heap.size + 1 := (by omega)
                  have y6obp2 : ob < w6.heap.size + 1 + 1 := (by omega)
                  have y6w1 : w.heap.size + 1 < w6.heap.size := C6.blk (b := w.heap.size + 1) (k := 0) (v := .int .i64 0) (by simp)
                  have y6w0 : w.heap.size < w6.heap.size := (by omega)
                  have y6wp1 : w.heap.size < w6.heap.size + 1 := (by omega)
                  have y6wp2 : w.heap.size < w6.heap.size + 1 + 1 := (by omega)
                  refine hK.out _ _ hSS (fun hHeld => ?_)
                  clear hK K
                  try simp only [Act.put, List.getElem_toArray, List.getElem_cons_succ, List.getElem_cons_zero, List.setIfInBounds_toArray, List.set_cons_zero, List.set_cons_succ]
                  refine wpAnyH_take (i := 16) (v := ?vo2l2316) rfl (by kernel_rfl) (by kernel_rfl) (by kernel_rfl) (fun _ _ _ h => h) (Or.inl ⟨by rfl, ?ho2l2316⟩) (by assumption) ?ro2l2316
                  case ho2l2316 => (intro w hSw; (try dsimp only at hSw); go_simp; (try with_reducible rfl))
                  try simp only [Act.put, List.getElem_toArray, List.getElem_cons_succ, List.getElem_cons_zero, List.setIfInBounds_toArray, List.set_cons_zero, List.set_cons_succ]
                  refine wpAnyH_ready (rs := [17]) (by kernel_rfl) (by simp) ?_
                  refine AllReadyH.cons rfl (fun K hK => ?_) AllReadyH.nil
                  go_simp
                  have hn5 : ¬ ob = w2.heap.size := (by omega)
                  have hn6 : ¬ w2.heap.size = ob := (by omega)
                  have hn7 : ¬ ob = w.heap.size := (by omega)
                  have hn8 : ¬ w.heap.size = ob := (by omega)
                  have hn9 : ¬ ob = w.heap.size + 1 := (by omega)
                  have hn10 : ¬ w.heap.size + 1 = ob := (by omega)
                  have hSS : (w6.setCell ⟨ob, 3, none⟩ (.slice (some ⟨g, 0, none⟩) (k + 1) cap)).cell? ⟨w2.heap.size, 0, none⟩ = some (.slice A5 o.pre.length c5) ∧ (w6.setCell ⟨ob, 3, none⟩ (.slice (some ⟨g, 0, none⟩) (k + 1) cap)).cell? ⟨w2.heap.size, 1, none⟩ = some (.slice A6 o.add.length c6) ∧ (w6.setCell ⟨ob, 3, none⟩ (.slice (some ⟨g, 0, none⟩) (k + 1) cap)).cell? ⟨w2.heap.size, 2, none⟩ = some (.slice A7 o.del.length c7) ∧ (w6.setCell ⟨ob, 3, none⟩ (.slice (some ⟨g, 0, none⟩) (k + 1) cap)).cell? ⟨w2.heap.size, 3, none⟩ = some (.int .i64 o.cost) := (by simp [go_sem, hHeld, hn5, hn6, F6, y6ob0, y6obp1, y6obp2, y6w1, y6w0, y6wp1, y6wp2])
                  go_wp2_with fail
                  refine hK.out _ _ hSS (fun hHeld => ?_)
                  clear hK K
                  try simp only [Act.put, List.getElem_toArray, List.getElem_cons_succ, List.getElem_cons_zero, List.setIfInBounds_toArray, List.set_cons_zero, List.set_cons_succ]
                  refine wpAnyH_done (by kernel_rfl) ?_ _
                  go_wp2_with fail
                  go_roundw
                  case rel => exact ⟨k + 1, .slice (some ⟨g, 0, none⟩) (k + 1) cap, by omega, by go_num, by rw [← HTK.out]; exact OwnOps.far o6 (p := ⟨ob, 3, none⟩) hoblt _, hF1n.away (p := ⟨ob, 3, none⟩) hne1 _, hF2n.away (p := ⟨ob, 3, none⟩) hne2 _, (by repeat (first | with_reducible exact D6 | with_reducible apply bdrew | with_reducible apply bdrewN | with_reducible apply balloc | ((with_reducible refine bset ?_ ?_ _); rotate_left; (first | omega | (simp <;> omega))))), (by (first | omega | (simp <;> omega))), (by simp [Cls, go_sem, F6, y6ob0, y6obp1, y6obp2, y6w1, y6w0, y6wp1, y6wp2, hn7, hn8, hn9, hn10])⟩
                  case measure => simp [intOf]; omega
            case bo218x10 =>
              go_simp
              go_at_call 112
              refine (clone_any _ _ _ _ (hm.del.below (by repeat (first | with_reducible exact D4 | with_reducible apply bdrew | with_reducible apply bdrewN | with_reducible apply balloc | ((with_reducible refine bset ?_ ?_ _); rotate_left; (first | omega | (simp <;> omega)))))) hoo.out.2.2).mono ?_
              rintro e w5 ⟨A2', c2', rfl, hG2, hB5⟩
              have D5 := dstep w hB5 (by repeat (first | with_reducible exact D4 | with_reducible apply bdrew | with_reducible apply bdrewN | with_reducible apply balloc | ((with_reducible refine bset ?_ ?_ _); rotate_left; (first | omega | (simp <;> omega)))))
              have d5s := D5.size
              have Ew2_5 := dstep w2 hB5 (by repeat (first | with_reducible exact Ew2_4 | with_reducible apply bdrew | with_reducible apply bdrewN | with_reducible apply balloc | ((with_reducible refine bset ?_ ?_ _); rotate_left; (first | omega | (simp <;> omega)))))
              have Ew3_5 := dstep w3 hB5 (by repeat (first | with_reducible exact Ew3_4 | with_reducible apply bdrew | with_reducible apply bdrewN | with_reducible apply balloc | ((with_reducible refine bset ?_ ?_ _); rotate_left; (first | omega | (simp <;> omega)))))
              have Ew4_5 := dstep w4 hB5 (by repeat (first | with_reducible exact Below.refl _ _ | with_reducible apply bdrew | with_reducible apply bdrewN | with_reducible apply balloc | ((with_reducible refine bset ?_ ?_ _); rotate_left; (first | omega | (simp <;> omega)))))
              have C5 := Cls.below (l := [(w.heap.size, 0, .int .i64 t.facts), (w.heap.size, 1, .slice Ai t.init.length ci), (w.heap.size, 2, .slice Ag t.goal.length cg), (w.heap.size, 3, .slice (some ad) t.ops.length co), (w.heap.size + 1, 0, .int .i64 0), (w.heap.size + 1, 1, .slice none 0 0), (w.heap.size + 1, 2, .slice none 0 0), (w.heap.size + 1, 3, .slice none 0 0), (ob, 0, .int .i64 t.facts), (ob, 1, .slice A1 t.init.length c1), (ob, 2, .slice A2 t.goal.length c2), (ob, 3, vo), (w2.heap.size, 0, .slice A5 o.pre.length c5), (w2.heap.size, 1, .slice A6 o.add.length c6), (w2.heap.size, 2, .slice A7 o.del.length c7), (w2.heap.size, 3, .int .i64 o.cost)]) hB5 (by simp [Cls, go_sem, F4, y4ob0, y4obp1, y4obp2, y4w1, y4w0, y4wp1, y4wp2, y4w20, y4w2p1, y4w2p2])
              have F5 := C5
              simp only [Cls, and_true] at F5
              have y5ob0 : ob < w5.heap.size := C5.blk (b := ob) (k := 0) (v := .int .i64 t.facts) (by simp)
              have y5obp1 : ob < w5.heap.size + 1 := (by omega)
              have y5obp2 : ob < w5.heap.size + 1 + 1 := (by omega)
              have y5w1 : w.heap.size + 1 < w5.heap.size := C5.blk (b := w.heap.size + 1) (k := 0) (v := .int .i64 0) (by simp)
              have y5w0 : w.heap.size < w5.heap.size := (by omega)
              have y5wp1 : w.heap.size < w5.heap.size + 1 := (by omega)
              have y5wp2 : w.heap.size < w5.heap.size + 1 + 1 := (by omega)
              have y5w20 : w2.heap.size < w5.heap.size := C5.blk (b := w2.heap.size) (k := 0) (v := .slice A5 o.pre.length c5) (by simp)
              have y5w2p1 : w2.heap.size < w5.heap.size + 1 := (by omega)
              have y5w2p2 : w2.heap.size < w5.heap.size + 1 + 1 := (by omega)
              have hq2 : w2.heap.size ≤ w4.heap.size := by omega
              have hlw2 : w2.heap.size < w5.heap.size := by (have := hB5.size; (try simp at this); omega)
              have hpl2 : PList wc.heap.size w5 vo.ownBlock [.slice A2' o.del.length c2'] o.del := hG2.plist (by (first | omega | (simp <;> omega))) (fun kk hh => by (have := (hvo kk hh).2; (first | omega | (simp <;> omega))))
              clear hG2
              have hSS : w5.cell? ⟨w2.heap.size, 0, none⟩ = some (.slice A5 o.pre.length c5) ∧ w5.cell? ⟨w2.heap.size, 1, none⟩ = some (.slice A6 o.add.length c6) ∧ w5.cell? ⟨w2.heap.size, 2, none⟩ = some (.slice A7 o.del.length c7) ∧ w5.cell? ⟨w2.heap.size, 3, none⟩ = some (.int .i64 o.cost) := (by simp [go_sem, F5, y5ob0, y5obp1, y5obp2, y5w1, y5w0, y5wp1, y5wp2, y5w20, y5w2p1, y5w2p2])
              go_wp2_with fail
              refine hK.out _ _ hSS (fun hHeld => ?_)
              clear hK K
              try simp only [Act.put, List.getElem_toArray, List.getElem_cons_succ, List.getElem_cons_zero, List.setIfInBounds_toArray, List.set_cons_zero, List.set_cons_succ]
              refine wpAnyH_take (i := 13) (v := ?vo2e2513) rfl (by kernel_rfl) (by kernel_rfl) (by kernel_rfl) (fun _ _ _ h => h) (Or.inl ⟨by rfl, ?ho2e2513⟩) (by assumption) ?ro2e2513
              case ho2e2513 => (intro w hSw; (try dsimp only at hSw); go_simp; (try with_reducible rfl))
              try simp only [Act.put, List.getElem_toArray, List.getElem_cons_succ, List.getElem_cons_zero, List.setIfInBounds_toArray, List.set_cons_zero, List.set_cons_succ]
              refine wpAnyH_ready (rs := [1, 14]) (by kernel_rfl) (by simp) ?_
              refine (AllReadyH.cons rfl (fun K hK => ?bo226x1) (AllReadyH.cons rfl (fun K hK => ?bo226x14) AllReadyH.nil))
              case bo226x1 =>
                go_simp
                have hSS := hHeld
                go_wp2_with fail
                refine hK.out _ _ hSS (fun hHeld => ?_)
                clear hK K
                try simp only [Act.put, List.getElem_toArray, List.getElem_cons_succ, List.getElem_cons_zero, List.setIfInBounds_toArray, List.set_cons_zero, List.set_cons_succ]
                refine wpAnyH_ready (rs := [14]) (by kernel_rfl) (by simp) ?_
                refine (AllReadyH.cons rfl (fun K hK => ?bo227x14) AllReadyH.nil)
                case bo227x14 =>
                  go_simp
                  have hSS : (w5.alloc (.cells #[.slice A0' o.pre.length c0', .slice A1' o.add.length c1', .slice A2' o.del.length c2', .int .i64 o.cost] 61)).cell? ⟨w2.heap.size, 0, none⟩ = some (.slice A5 o.pre.length c5) ∧ (w5.alloc (.cells #[.slice A0' o.pre.length c0', .slice A1' o.add.length c1', .slice A2' o.del.length c2', .int .i64 o.cost] 61)).cell? ⟨w2.heap.size, 1, none⟩ = some (.slice A6 o.add.length c6) ∧ (w5.alloc (.cells #[.slice A0' o.pre.length c0', .slice A1' o.add.length c1', .slice A2' o.del.length c2', .int .i64 o.cost] 61)).cell? ⟨w2.heap.size, 2, none⟩ = some (.slice A7 o.del.length c7) ∧ (w5.alloc (.cells #[.slice A0' o.pre.length c0', .slice A1' o.add.length c1', .slice A2' o.del.length c2', .int .i64 o.cost] 61)).cell? ⟨w2.heap.size, 3, none⟩ = some (.int .i64 o.cost) := (by simp [go_sem, F5, y5ob0, y5obp1, y5obp2, y5w1, y5w0, y5wp1, y5wp2, y5w20, y5w2p1, y5w2p2])
                  go_wp2_with fail
                  refine hK.out _ _ hSS (fun hHeld => ?_)
                  clear hK K
                  try simp only [Act.put, List.getElem_toArray, List.getElem_cons_succ, List.getElem_cons_zero, List.setIfInBounds_toArray, List.set_cons_zero, List.set_cons_succ]
                  refine wpAnyH_ready (rs := [15]) (by kernel_rfl) (by simp) ?_
                  refine AllReadyH.cons rfl (fun K hK => ?_) AllReadyH.nil
                  have hownA : OwnOps wc.heap.size (w5.alloc (.cells #[.slice A0' o.pre.length c0', .slice A1' o.add.length c1', .slice A2' o.del.length c2', .int .i64 o.cost] 61)) vo (t.ops.take k) := hown.below (by repeat (first | with_reducible exact Ew2_5 | with_reducible apply bdrew | with_reducible apply bdrewN | with_reducible apply balloc | ((with_reducible refine bset ?_ ?_ _); rotate_left; (first | omega | (simp <;> omega)))))
                  have hlwA : w2.heap.size < w5.heap.size := hlw2
                  refine step_el (pop_stable wc.heap.size) 23 80 (.agg #[.slice none 0 0, .slice none 0 0, .slice none 0 0, .int .i64 0]) Try.underlying23 info_op rfl (by decide) (by decide) rfl (.tmp 23) (.tmp 36) rfl w [(w.heap.size, 0, .int .i64 t.facts), (w.heap.size, 1, .slice Ai t.init.length ci), (w.heap.size, 2, .slice Ag t.goal.length cg), (w.heap.size, 3, .slice (some ad) t.ops.length co), (w.heap.size + 1, 0, .int .i64 0), (w.heap.size + 1, 1, .slice none 0 0), (w.heap.size + 1, 2, .slice none 0 0), (w.heap.size + 1, 3, .slice none 0 0), (ob, 0, .int .i64 t.facts), (ob, 1, .slice A1 t.init.length c1), (ob, 2, .slice A2 t.goal.length c2), (ob, 3, vo)] rfl hownA ⟨w5.heap.size, 0, none⟩ 1 rfl [.slice A0' o.pre.length c0', .slice A1' o.add.length c1', .slice A2' o.del.length c2', .int .i64 o.cost] o rfl ?n1_4 ?n2_4 ?n3_4 hlen ?n4_4 ?n5_4 ?n6_4 ?n7_4 ?n8_4 ?nn_4
                  case n1_4 => (intro j u hu; rcases j with _ | _ | _ | _ | j <;> simp at hu <;> subst hu <;> simp [go_sem])
                  case n2_4 => (intro u hu; simp at hu; rcases hu with rfl | rfl | rfl | rfl <;> rfl)
                  case n3_4 =>
                    unfold POp
                    exact ⟨A0', c0', A1', c1', A2', c2', rfl, (plist_stable _).below hpl0 (by repeat (first | with_reducible exact Ew3_5 | with_reducible apply bdrew | with_reducible apply bdrewN | with_reducible apply balloc | ((with_reducible refine bset ?_ ?_ _); rotate_left; (first | omega | (simp <;> omega))))), (plist_stable _).below hpl1 (by repeat (first | with_reducible exact Ew4_5 | with_reducible apply bdrew | with_reducible apply bdrewN | with_reducible apply balloc | ((with_reducible refine bset ?_ ?_ _); rotate_left; (first | omega | (simp <;> omega))))), (plist_stable _).below hpl2 (by repeat (first | with_reducible exact Below.refl _ _ | with_reducible apply bdrew | with_reducible apply bdrewN | with_reducible apply balloc | ((with_reducible refine bset ?_ ?_ _); rotate_left; (first | omega | (simp <;> omega)))))⟩
                  case n4_4 => (first | omega | (simp <;> omega))
                  case n5_4 => omega
                  case n6_4 => repeat (first | with_reducible exact D5 | with_reducible apply bdrew | with_reducible apply bdrewN | with_reducible apply balloc | ((with_reducible refine bset ?_ ?_ _); rotate_left; (first | omega | (simp <;> omega))))
                  case n7_4 => simp [Cls, go_sem, F5, y5ob0, y5obp1, y5obp2, y5w1, y5w0, y5wp1, y5wp2, y5w20, y5w2p1, y5w2p2]
                  case n8_4 => (simp <;> omega)
                  all_goals first | done | skip
                  intro g cap w6 o6 D6 C6 sz6 G6
                  have hE6 : ∀ (k : Nat) (v : Value), (w5.alloc (.cells #[.slice A0' o.pre.length c0', .slice A1' o.add.length c1', .slice A2' o.del.length c2', .int .i64 o.cost] 61)).cell? ⟨w2.heap.size, k, none⟩ = some v → w6.cell? ⟨w2.heap.size, k, none⟩ = some v := fun k v hh => (G6.cell_far ⟨w2.heap.size, k, none⟩ (by (simp <;> omega)) (fun e => by (have := (hvo _ e.symm).2; simp at this))).trans hh
                  have hSS : w6.cell? ⟨w2.heap.size, 0, none⟩ = some (.slice A5 o.pre.length c5) ∧ w6.cell? ⟨w2.heap.size, 1, none⟩ = some (.slice A6 o.add.length c6) ∧ w6.cell? ⟨w2.heap.size, 2, none⟩ = some (.slice A7 o.del.length c7) ∧ w6.cell? ⟨w2.heap.size, 3, none⟩ = some (.int .i64 o.cost) := (by obtain ⟨q0, q1, q2, q3⟩ := hHeld; exact ⟨hE6 _ _ q0, hE6 _ _ q1, hE6 _ _ q2, hE6 _ _ q3⟩)
                  have hF1n : Fresh (w.heap.size + 1 + 1) w6 A1 c1 t.init := (hF1.below (w' := (w5.alloc (.cells #[.slice A0' o.pre.length c0', .slice A1' o.add.length c1', .slice A2' o.del.length c2', .int .i64 o.cost] 61))) (by repeat (first | with_reducible exact Ew2_5 | with_reducible apply bdrew | with_reducible apply bdrewN | with_reducible apply balloc | ((with_reducible refine bset ?_ ?_ _); rotate_left; (first | omega | (simp <;> omega)))))).grown G6 (fun ad he e => by (have := (hvo _ e.symm).1; have := hbl1 ad he; omega))
                  have hF2n : Fresh (w.heap.size + 1 + 1) w6 A2 c2 t.goal := (hF2.below (w' := (w5.alloc (.cells #[.slice A0' o.pre.length c0', .slice A1' o.add.length c1', .slice A2' o.del.length c2', .int .i64 o.cost] 61))) (by repeat (first | with_reducible exact Ew2_5 | with_reducible apply bdrew | with_reducible apply bdrewN | with_reducible apply balloc | ((with_reducible refine bset ?_ ?_ _); rotate_left; (first | omega | (simp <;> omega)))))).grown G6 (fun ad he e => by (have := (hvo _ e.symm).1; have := hbl2 ad he; omega))
                  rw [HTL.out] at o6
                  have hsw : w2.heap.size < w6.heap.size := by (simp at sz6; omega)
                  clear hpl0 hpl1 hpl2 hF1 hF2 hE6 G6 hownA
                  have d6s := D6.size
                  have F6 := C6
                  simp only [Cls, and_true] at F6
                  have y6ob0 : ob < w6.heap.size := C6.blk (b := ob) (k := 0) (v := .int .i64 t.facts) (by simp)
                  have y6obp1 : ob < w6.heap.size + 1 := (by omega)
                  have y6obp2 : ob < w6.heap.size + 1 + 1 := (by omega)
                  have y6w1 : w.heap.size + 1 < w6.heap.size := C6.blk (b := w.heap.size + 1) (k := 0) (v := .int .i64 0) (by simp)
                  have y6w0 : w.heap.size < w6.heap.size := (by omega)
                  have y6wp1 : w.heap.size < w6.heap.size + 1 := (by omega)
                  have y6wp2 : w.heap.size < w6.heap.size + 1 + 1 := (by omega)
                  refine hK.out _ _ hSS (fun hHeld => ?_)
                  clear hK K
                  try simp only [Act.put, List.getElem_toArray, List.getElem_cons_succ, List.getElem_cons_zero, List.setIfInBounds_toArray, List.set_cons_zero, List.set_cons_succ]
                  refine wpAnyH_take (i := 16) (v := ?vo2l2916) rfl (by kernel_rfl) (by kernel_rfl) (by kernel_rfl) (fun _ _ _ h => h) (Or.inl ⟨by rfl, ?ho2l2916⟩) (by assumption) ?ro2l2916
                  case ho2l2916 => (intro w hSw; (try dsimp only at hSw); go_simp; (try with_reducible rfl))
                  try simp only [Act.put, List.getElem_toArray, List.getElem_cons_succ, List.getElem_cons_zero, List.setIfInBounds_toArray, List.set_cons_zero, List.set_cons_succ]
                  refine wpAnyH_ready (rs := [17]) (by kernel_rfl) (by simp) ?_
                  refine AllReadyH.cons rfl (fun K hK => ?_) AllReadyH.nil
                  go_simp
                  have hn5 : ¬ ob = w2.heap.size := (by omega)
                  have hn6 : ¬ w2.heap.size = ob := (by omega)
                  have hn7 : ¬ ob = w.heap.size := (by omega)
                  have hn8 : ¬ w.heap.size = ob := (by omega)
                  have hn9 : ¬ ob = w.heap.size + 1 := (by omega)
                  have hn10 : ¬ w.heap.size + 1 = ob := (by omega)
                  have hSS : (w6.setCell ⟨ob, 3, none⟩ (.slice (some ⟨g, 0, none⟩) (k + 1) cap)).cell? ⟨w2.heap.size, 0, none⟩ = some (.slice A5 o.pre.length c5) ∧ (w6.setCell ⟨ob, 3, none⟩ (.slice (some ⟨g, 0, none⟩) (k + 1) cap)).cell? ⟨w2.heap.size, 1, none⟩ = some (.slice A6 o.add.length c6) ∧ (w6.setCell ⟨ob, 3, none⟩ (.slice (some ⟨g, 0, none⟩) (k + 1) cap)).cell? ⟨w2.heap.size, 2, none⟩ = some (.slice A7 o.del.length c7) ∧ (w6.setCell ⟨ob, 3, none⟩ (.slice (some ⟨g, 0, none⟩) (k + 1) cap)).cell? ⟨w2.heap.size, 3, none⟩ = some (.int .i64 o.cost) := (by simp [go_sem, hHeld, hn5, hn6, F6, y6ob0, y6obp1, y6obp2, y6w1, y6w0, y6wp1, y6wp2])
                  go_wp2_with fail
                  refine hK.out _ _ hSS (fun hHeld => ?_)
                  clear hK K
                  try simp only [Act.put, List.getElem_toArray, List.getElem_cons_succ, List.getElem_cons_zero, List.setIfInBounds_toArray, List.set_cons_zero, List.set_cons_succ]
                  refine wpAnyH_done (by kernel_rfl) ?_ _
                  go_wp2_with fail
                  go_roundw
                  case rel => exact ⟨k + 1, .slice (some ⟨g, 0, none⟩) (k + 1) cap, by omega, by go_num, by rw [← HTK.out]; exact OwnOps.far o6 (p := ⟨ob, 3, none⟩) hoblt _, hF1n.away (p := ⟨ob, 3, none⟩) hne1 _, hF2n.away (p := ⟨ob, 3, none⟩) hne2 _, (by repeat (first | with_reducible exact D6 | with_reducible apply bdrew | with_reducible apply bdrewN | with_reducible apply balloc | ((with_reducible refine bset ?_ ?_ _); rotate_left; (first | omega | (simp <;> omega))))), (by (first | omega | (simp <;> omega))), (by simp [Cls, go_sem, F6, y6ob0, y6obp1, y6obp2, y6w1, y6w0, y6wp1, y6wp2, hn7, hn8, hn9, hn10])⟩
                  case measure => simp [intOf]; omega
              case bo226x14 =>
                go_simp
                have hSS : (w5.alloc (.cells #[.slice A0' o.pre.length c0', .slice A1' o.add.length c1', .slice A2' o.del.length c2', .int .i64 o.cost] 61)).cell? ⟨w2.heap.size, 0, none⟩ = some (.slice A5 o.pre.length c5) ∧ (w5.alloc (.cells #[.slice A0' o.pre.length c0', .slice A1' o.add.length c1', .slice A2' o.del.length c2', .int .i64 o.cost] 61)).cell? ⟨w2.heap.size, 1, none⟩ = some (.slice A6 o.add.length c6) ∧ (w5.alloc (.cells #[.slice A0' o.pre.length c0', .slice A1' o.add.length c1', .slice A2' o.del.length c2', .int .i64 o.cost] 61)).cell? ⟨w2.heap.size, 2, none⟩ = some (.slice A7 o.del.length c7) ∧ (w5.alloc (.cells #[.slice A0' o.pre.length c0', .slice A1' o.add.length c1', .slice A2' o.del.length c2', .int .i64 o.cost] 61)).cell? ⟨w2.heap.size, 3, none⟩ = some (.int .i64 o.cost) := (by simp [go_sem, F5, y5ob0, y5obp1, y5obp2, y5w1, y5w0, y5wp1, y5wp2, y5w20, y5w2p1, y5w2p2])
                go_wp2_with fail
                refine hK.out _ _ hSS (fun hHeld => ?_)
                clear hK K
                try simp only [Act.put, List.getElem_toArray, List.getElem_cons_succ, List.getElem_cons_zero, List.setIfInBounds_toArray, List.set_cons_zero, List.set_cons_succ]
                refine wpAnyH_ready (rs := [1]) (by kernel_rfl) (by simp) ?_
                refine (AllReadyH.cons rfl (fun K hK => ?bo231x1) AllReadyH.nil)
                case bo231x1 =>
                  go_simp
                  have hSS := hHeld
                  go_wp2_with fail
                  refine hK.out _ _ hSS (fun hHeld => ?_)
                  clear hK K
                  try simp only [Act.put, List.getElem_toArray, List.getElem_cons_succ, List.getElem_cons_zero, List.setIfInBounds_toArray, List.set_cons_zero, List.set_cons_succ]
                  refine wpAnyH_ready (rs := [15]) (by kernel_rfl) (by simp) ?_
                  refine AllReadyH.cons rfl (fun K hK => ?_) AllReadyH.nil
                  have hownA : OwnOps wc.heap.size (w5.alloc (.cells #[.slice A0' o.pre.length c0', .slice A1' o.add.length c1', .slice A2' o.del.length c2', .int .i64 o.cost] 61)) vo (t.ops.take k) := hown.below (by repeat (first | with_reducible exact Ew2_5 | with_reducible apply bdrew | with_reducible apply bdrewN | with_reducible apply balloc | ((with_reducible refine bset ?_ ?_ _); rotate_left; (first | omega | (simp <;> omega)))))
                  have hlwA : w2.heap.size < w5.heap.size := hlw2
                  refine step_el (pop_stable wc.heap.size) 23 80 (.agg #[.slice none 0 0, .slice none 0 0, .slice none 0 0, .int .i64 0]) Try.underlying23 info_op rfl (by decide) (by decide) rfl (.tmp 23) (.tmp 36) rfl w [(w.heap.size, 0, .int .i64 t.facts), (w.heap.size, 1, .slice Ai t.init.length ci), (w.heap.size, 2, .slice Ag t.goal.length cg), (w.heap.size, 3, .slice (some ad) t.ops.length co), (w.heap.size + 1, 0, .int .i64 0), (w.heap.size + 1, 1, .slice none 0 0), (w.heap.size + 1, 2, .slice none 0 0), (w.heap.size + 1, 3, .slice none 0 0), (ob, 0, .int .i64 t.facts), (ob, 1, .slice A1 t.init.length c1), (ob, 2, .slice A2 t.goal.length c2), (ob, 3, vo)] rfl hownA ⟨w5.heap.size, 0, none⟩ 1 rfl [.slice A0' o.pre.length c0', .slice A1' o.add.length c1', .slice A2' o.del.length c2', .int .i64 o.cost] o rfl ?n1_5 ?n2_5 ?n3_5 hlen ?n4_5 ?n5_5 ?n6_5 ?n7_5 ?n8_5 ?nn_5
                  case n1_5 => (intro j u hu; rcases j with _ | _ | _ | _ | j <;> simp at hu <;> subst hu <;> simp [go_sem])
                  case n2_5 => (intro u hu; simp at hu; rcases hu with rfl | rfl | rfl | rfl <;> rfl)
                  case n3_5 =>
                    unfold POp
                    exact ⟨A0', c0', A1', c1', A2', c2', rfl, (plist_stable _).below hpl0 (by repeat (first | with_reducible exact Ew3_5 | with_reducible apply bdrew | with_reducible apply bdrewN | with_reducible apply balloc | ((with_reducible refine bset ?_ ?_ _); rotate_left; (first | omega | (simp <;> omega))))), (plist_stable _).below hpl1 (by repeat (first | with_reducible exact Ew4_5 | with_reducible apply bdrew | with_reducible apply bdrewN | with_reducible apply balloc | ((with_reducible refine bset ?_ ?_ _); rotate_left; (first | omega | (simp <;> omega))))), (plist_stable _).below hpl2 (by repeat (first | with_reducible exact Below.refl _ _ | with_reducible apply bdrew | with_reducible apply bdrewN | with_reducible apply balloc | ((with_reducible refine bset ?_ ?_ _); rotate_left; (first | omega | (simp <;> omega)))))⟩
                  case n4_5 => (first | omega | (simp <;> omega))
                  case n5_5 => omega
                  case n6_5 => repeat (first | with_reducible exact D5 | with_reducible apply bdrew | with_reducible apply bdrewN | with_reducible apply balloc | ((with_reducible refine bset ?_ ?_ _); rotate_left; (first | omega | (simp <;> omega))))
                  case n7_5 => simp [Cls, go_sem, F5, y5ob0, y5obp1, y5obp2, y5w1, y5w0, y5wp1, y5wp2, y5w20, y5w2p1, y5w2p2]
                  case n8_5 => (simp <;> omega)
                  all_goals first | done | skip
                  intro g cap w6 o6 D6 C6 sz6 G6
                  have hE6 : ∀ (k : Nat) (v : Value), (w5.alloc (.cells #[.slice A0' o.pre.length c0', .slice A1' o.add.length c1', .slice A2' o.del.length c2', .int .i64 o.cost] 61)).cell? ⟨w2.heap.size, k, none⟩ = some v → w6.cell? ⟨w2.heap.size, k, none⟩ = some v := fun k v hh => (G6.cell_far ⟨w2.heap.size, k, none⟩ (by (simp <;> omega)) (fun e => by (have := (hvo _ e.symm).2; simp at this))).trans hh
                  have hSS : w6.cell? ⟨w2.heap.size, 0, none⟩ = some (.slice A5 o.pre.length c5) ∧ w6.cell? ⟨w2.heap.size, 1, none⟩ = some (.slice A6 o.add.length c6) ∧ w6.cell? ⟨w2.heap.size, 2, none⟩ = some (.slice A7 o.del.length c7) ∧ w6.cell? ⟨w2.heap.size, 3, none⟩ = some (.int .i64 o.cost) := (by obtain ⟨q0, q1, q2, q3⟩ := hHeld; exact ⟨hE6 _ _ q0, hE6 _ _ q1, hE6 _ _ q2, hE6 _ _ q3⟩)
                  have hF1n : Fresh (w.heap.size + 1 + 1) w6 A1 c1 t.init := (hF1.below (w' := (w5.alloc (.cells #[.slice A0' o.pre.length c0', .slice A1' o.add.length c1', .slice A2' o.del.length c2', .int .i64 o.cost] 61))) (by repeat (first | with_reducible exact Ew2_5 | with_reducible apply bdrew | with_reducible apply bdrewN | with_reducible apply balloc | ((with_reducible refine bset ?_ ?_ _); rotate_left; (first | omega | (simp <;> omega)))))).grown G6 (fun ad he e => by (have := (hvo _ e.symm).1; have := hbl1 ad he; omega))
                  have hF2n : Fresh (w.heap.size + 1 + 1) w6 A2 c2 t.goal := (hF2.below (w' := (w5.alloc (.cells #[.slice A0' o.pre.length c0', .slice A1' o.add.length c1', .slice A2' o.del.length c2', .int .i64 o.cost] 61))) (by repeat (first | with_reducible exact Ew2_5 | with_reducible apply bdrew | with_reducible apply bdrewN | with_reducible apply balloc | ((with_reducible refine bset ?_ ?_ _); rotate_left; (first | omega | (simp <;> omega)))))).grown G6 (fun ad he e => by (have := (hvo _ e.symm).1; have := hbl2 ad he; omega))
                  rw [HTL.out] at o6
                  have hsw : w2.heap.size < w6.heap.size := by (simp at sz6; omega)
                  clear hpl0 hpl1 hpl2 hF1 hF2 hE6 G6 hownA
                  have d6s := D6.size
                  have F6 := C6
                  simp only [Cls, and_true] at F6
                  have y6ob0 : ob < w6.heap.size := C6.blk (b := ob) (k := 0) (v := .int .i64 t.facts) (by simp)
                  have y6obp1 : ob < w6.heap.size + 1 := (by omega)
                  have y6obp2 : ob < w6.heap.size + 1 + 1 := (by omega)
                  have y6w1 : w.heap.size + 1 < w6.heap.size := C6.blk (b := w.heap.size + 1) (k := 0) (v := .int .i64 0) (by simp)
                  have y6w0 : w.heap.size < w6.heap.size := (by omega)
                  have y6wp1 : w.heap.size < w6.heap.size + 1 := (by omega)
                  have y6wp2 : w.heap.size < w6.heap.size + 1 + 1 := (by omega)
                  refine hK.out _ _ hSS (fun hHeld => ?_)
                  clear hK K
                  try simp only [Act.put, List.getElem_toArray, List.getElem_cons_succ, List.getElem_cons_zero, List.setIfInBounds_toArray, List.set_cons_zero, List.set_cons_succ]
                  refine wpAnyH_take (i := 16) (v := ?vo2l3316) rfl (by kernel_rfl) (by kernel_rfl) (by kernel_rfl) (fun _ _ _ h => h) (Or.inl ⟨by rfl, ?ho2l3316⟩) (by assumption) ?ro2l3316
                  case ho2l3316 => (intro w hSw; (try dsimp only at hSw); go_simp; (try with_reducible rfl))
                  try simp only [Act.put, List.getElem_toArray, List.getElem_cons_succ, List.getElem_cons_zero, List.setIfInBounds_toArray, List.set_cons_zero, List.set_cons_succ]
                  refine wpAnyH_ready (rs := [17]) (by kernel_rfl) (by simp) ?_
                  refine AllReadyH.cons rfl (fun K hK => ?_) AllReadyH.nil
                  go_simp
                  have hn5 : ¬ ob = w2.heap.size := (by omega)
                  have hn6 : ¬ w2.heap.size = ob := (by omega)
                  have hn7 : ¬ ob = w.heap.size := (by omega)
                  have hn8 : ¬ w.heap.size = ob := (by omega)
                  have hn9 : ¬ ob = w.heap.size + 1 := (by omega)
                  have hn10 : ¬ w.heap.size + 1 = ob := (by omega)
                  have hSS : (w6.setCell ⟨ob, 3, none⟩ (.slice (some ⟨g, 0, none⟩) (k + 1) cap)).cell? ⟨w2.heap.size, 0, none⟩ = some (.slice A5 o.pre.length c5) ∧ (w6.setCell ⟨ob, 3, none⟩ (.slice (some ⟨g, 0, none⟩) (k + 1) cap)).cell? ⟨w2.heap.size, 1, none⟩ = some (.slice A6 o.add.length c6) ∧ (w6.setCell ⟨ob, 3, none⟩ (.slice (some ⟨g, 0, none⟩) (k + 1) cap)).cell? ⟨w2.heap.size, 2, none⟩ = some (.slice A7 o.del.length c7) ∧ (w6.setCell ⟨ob, 3, none⟩ (.slice (some ⟨g, 0, none⟩) (k + 1) cap)).cell? ⟨w2.heap.size, 3, none⟩ = some (.int .i64 o.cost) := (by simp [go_sem, hHeld, hn5, hn6, F6, y6ob0, y6obp1, y6obp2, y6w1, y6w0, y6wp1, y6wp2])
                  go_wp2_with fail
                  refine hK.out _ _ hSS (fun hHeld => ?_)
                  clear hK K
                  try simp only [Act.put, List.getElem_toArray, List.getElem_cons_succ, List.getElem_cons_zero, List.setIfInBounds_toArray, List.set_cons_zero, List.set_cons_succ]
                  refine wpAnyH_done (by kernel_rfl) ?_ _
                  go_wp2_with fail
                  go_roundw
                  case rel => exact ⟨k + 1, .slice (some ⟨g, 0, none⟩) (k + 1) cap, by omega, by go_num, by rw [← HTK.out]; exact OwnOps.far o6 (p := ⟨ob, 3, none⟩) hoblt _, hF1n.away (p := ⟨ob, 3, none⟩) hne1 _, hF2n.away (p := ⟨ob, 3, none⟩) hne2 _, (by repeat (first | with_reducible exact D6 | with_reducible apply bdrew | with_reducible apply bdrewN | with_reducible apply balloc | ((with_reducible refine bset ?_ ?_ _); rotate_left; (first | omega | (simp <;> omega))))), (by (first | omega | (simp <;> omega))), (by simp [Cls, go_sem, F6, y6ob0, y6obp1, y6obp2, y6w1, y6w0, y6wp1, y6wp2, hn7, hn8, hn9, hn10])⟩
                  case measure => simp [intOf]; omega
      · have hke : t.ops.take k = t.ops := List.take_of_length_le (by omega)
        rw [hke] at hown
        obtain ⟨A3, c3, rfl⟩ := OwnEs.form hown
        go_wp2_with fail
        have hy1 : w.heap.size + 1 < wc.heap.size := by omega
        have hz1 : ∀ ad, A1 = some ad → ad.block ≠ w.heap.size + 1 := fun ad he => (by have := (hF1.blk ad he).1; omega)
        have hz2 : ∀ ad, A2 = some ad → ad.block ≠ w.heap.size + 1 := fun ad he => (by have := (hF2.blk ad he).1; omega)
        refine bodyPost_ret (v := .agg #[.int .i64 t.facts, .slice A1 t.init.length c1, .slice A2 t.goal.length c2, .slice A3 t.ops.length c3]) ?_ rfl ⟨A1, c1, A2, c2, A3, c3, rfl, (((((hF1.away hz1 _).away hz1 _).away hz1 _).away hz1 _).mono (by omega)), (((((hF2.away hz2 _).away hz2 _).away hz2 _).away hz2 _).mono (by omega)), (OwnOps.mono (OwnOps.far (OwnOps.far (OwnOps.far (OwnOps.far hown hy1 _) hy1 _) hy1 _) hy1 _) (by omega)), (fun kk hh => ⟨fun ad he => (by have := (hvo kk hh).1; have := hbl1 ad he; omega), fun ad he => (by have := (hvo kk hh).1; have := hbl2 ad he; omega)⟩), (by repeat (first | with_reducible exact hBr | with_reducible apply bdrew | with_reducible apply bdrewN | with_reducible apply balloc | ((with_reducible refine bset ?_ ?_ _); rotate_left; (first | omega | (simp <;> omega)))))⟩
        simp [results, Try.results90, go_sem, Fr, yrob0, yrobp1, yrobp2, yrw1, yrw0, yrwp1, yrwp2]


end Go.Proofs.Ytihkgdlanfemcaa
