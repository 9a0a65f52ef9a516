/-
  compile.Relax: what it returns.
-/
import Derived.Test.YtihkgdlanfemcaaZCp3
import Derived.Test.YtihkgdlanfemcaaZMG
import Derived.Test.YtihkgdlanfemcaaZRx0
namespace Go.Proofs.Ytihkgdlanfemcaa
open Go.RowKit
set_option linter.unusedVariables false
set_option linter.unusedSimpArgs false

theorem OwnEs.set_ {α : Type} {P : World → Option Nat → List Value → α → Prop} {e : TypeId} {size base n c g : Nat} {w : World} {els : List α} (hP : Stable P) (h : OwnEs P e size base w (.slice (some ⟨g, 0, none⟩) n c) els) (i q : Nat) (hi : i < els.length) (hq : q < size) (u : Value) (a' : α)
    (hn : ∀ (w' : World) (cs : List Value) (a : α), els[i]? = some a → P w' (some g) cs a → P w' (some g) (cs.set q u) a') :
    OwnEs P e size base (w.setCell ⟨g, i * size + q, none⟩ u) (.slice (some ⟨g, 0, none⟩) n c) (els.set i a') := by
  obtain ⟨cells, h1, h3⟩ := h
  have hne : n = els.length := by
    rcases h1.2 with ⟨h2, h4⟩ | ⟨g', cap, cur, hv, _⟩
    · cases h2
    · injection hv with e1 e2 e3
  subst hne
  have st := World.ownsRow.stored h1 (i * size + q) u
  refine ⟨cells.set (i * size + q) u, by rw [List.length_set]; exact st.1, fun j a ha => ?_⟩
  by_cases hj : j = i
  · subst hj
    rw [List.getElem?_set_self hi] at ha
    injection ha with ha
    subst ha
    rw [List.drop_set, if_neg (by omega), show j * size + q - j * size = q by omega, List.take_set]
    exact hn _ _ _ (List.getElem?_eq_getElem hi) ((hP.grown (h3 j _ (List.getElem?_eq_getElem hi)) st.2).1)
  · rw [List.getElem?_set_ne (fun e => hj e.symm)] at ha
    have key : ((cells.set (i * size + q) u).drop (j * size)).take size = (cells.drop (j * size)).take size := by
      rw [List.drop_set]
      split
      · rfl
      · rename_i hge
        have hij : j < i := by
          rcases Nat.lt_or_ge j i with h | h
          · exact h
          · have h5 : i + 1 ≤ j := by omega
            have := Nat.mul_le_mul_right size h5
            rw [Nat.succ_mul] at this
            omega
        have := Nat.mul_le_mul_right size (show j + 1 ≤ i from hij)
        rw [Nat.succ_mul] at this
        rw [List.take_set, List.set_eq_of_length_le (by rw [List.length_take]; omega)]
    rw [key]
    exact (hP.grown (h3 j a ha) st.2).1
theorem add_off (g m : Nat) : (⟨g, 0, none⟩ : Addr).add m = ⟨g, m, none⟩ := by
  unfold Addr.add
  split
  · rename_i hj
    rw [hj]
  · simp
/-- The first k elements mapped. -/
def mapTo {α : Type} (f : α → α) (k : Nat) (xs : List α) : List α := (xs.take k).map f ++ xs.drop k
theorem mapTo_zero {α : Type} (f : α → α) (xs : List α) : mapTo f 0 xs = xs := by simp [mapTo]
theorem mapTo_len {α : Type} (f : α → α) (k : Nat) (xs : List α) : (mapTo f k xs).length = xs.length := by
  simp [mapTo]; omega
theorem mapTo_all {α : Type} (f : α → α) {k : Nat} {xs : List α} (h : xs.length ≤ k) : mapTo f k xs = xs.map f := by
  rw [mapTo, List.take_of_length_le h, List.drop_of_length_le h, List.append_nil]
theorem mapTo_at {α : Type} (f : α → α) {k : Nat} {xs : List α} (h : k < xs.length) : (mapTo f k xs)[k]? = some xs[k] := by
  rw [mapTo, List.getElem?_append_right (by rw [List.length_map, List.length_take]; omega), List.length_map, List.length_take, Nat.min_eq_left (by omega), Nat.sub_self, List.drop_eq_getElem_cons h]
  rfl
theorem mapTo_set {α : Type} (f : α → α) {k : Nat} {xs : List α} (h : k < xs.length) : (mapTo f k xs).set k (f xs[k]) = mapTo f (k + 1) xs := by
  rw [mapTo, List.set_append_right _ _ (by rw [List.length_map, List.length_take]; omega), mapTo, List.take_add_one, List.getElem?_eq_getElem h, List.map_append, List.append_assoc, List.length_map, List.length_take, Nat.min_eq_left (by omega), Nat.sub_self, List.drop_eq_getElem_cons h]
  rfl
theorem plist_nil (B : Nat) (w : World) (row : Option Nat) : PList B w row [.slice none 0 0] [] := ⟨none, 0, rfl, Ints.nil _ _, fun _ => ⟨rfl, rfl⟩, Nat.le_refl _, by omega, fun ad e => by cases e⟩
theorem OwnOps.set_del {base n c g : Nat} {w : World} {ops : List OpV} (h : OwnOps base w (.slice (some ⟨g, 0, none⟩) n c) ops) (i : Nat) (hi : i < ops.length) :
    OwnOps base (w.setCell ⟨g, i * 4 + 2, none⟩ (.slice none 0 0)) (.slice (some ⟨g, 0, none⟩) n c) (ops.set i (rxO ops[i])) :=
  OwnEs.set_ (pop_stable _) h i 2 hi (by decide) (.slice none 0 0) (rxO ops[i]) (fun w' cs a ha hp => by
    rw [List.getElem?_eq_getElem hi] at ha
    injection ha with ha
    rw [ha]
    obtain ⟨A0, c0, A1, c1, A2, c2, e, h0, h1, h2⟩ := hp
    subst e
    exact ⟨A0, c0, A1, c1, none, 0, rfl, h0, h1, plist_nil _ _ _⟩)
/-- A task in memory of its own. -/
structure OwnT (base : Nat) (w : World) (A1 A2 A3 : Option Addr) (c1 c2 c3 : Nat) (u : TaskV) : Prop where
  i : Fresh base w A1 c1 u.init
  g : Fresh base w A2 c2 u.goal
  o : OwnOps base w (.slice A3 u.ops.length c3) u.ops
theorem OwnT.far {base : Nat} {w : World} {A1 A2 A3 : Option Addr} {c1 c2 c3 : Nat} {u : TaskV} (h : OwnT base w A1 A2 A3 c1 c2 c3 u) {p : Addr} (hp : p.block < base) (v : Value) : OwnT base (w.setCell p v) A1 A2 A3 c1 c2 c3 u :=
  ⟨h.i.away (fun ad he => by have := (h.i.blk ad he).1; omega) v, h.g.away (fun ad he => by have := (h.g.blk ad he).1; omega) v, h.o.far hp v⟩
theorem OwnT.below {base : Nat} {w w' : World} {A1 A2 A3 : Option Addr} {c1 c2 c3 : Nat} {u : TaskV} (h : OwnT base w A1 A2 A3 c1 c2 c3 u) (hb : Below w.heap.size w w') : OwnT base w' A1 A2 A3 c1 c2 c3 u := ⟨h.i.below hb, h.g.below hb, h.o.below hb⟩
theorem OwnT.mem {base : Nat} {w : World} {A1 A2 A3 : Option Addr} {c1 c2 c3 : Nat} {u : TaskV} (h : OwnT base w A1 A2 A3 c1 c2 c3 u) (hl : ∀ o ∈ u.ops, lenOk o.pre.length ∧ lenOk o.add.length ∧ lenOk o.del.length) (hi : lenOk u.init.length) (hg : lenOk u.goal.length) (ho : lenOk u.ops.length) : TaskMem w A1 A2 A3 u := ⟨h.i.ints, h.g.ints, OwnOps.at_ h.o hl, hi, hg, ho⟩
theorem rx_lens {t : TaskV} (h : ∀ o ∈ t.ops, lenOk o.pre.length ∧ lenOk o.add.length ∧ lenOk o.del.length) : ∀ o ∈ (rxT t).ops, lenOk o.pre.length ∧ lenOk o.add.length ∧ lenOk o.del.length := fun o ho => by
  obtain ⟨p, hp, rfl⟩ := List.mem_map.1 ho
  obtain ⟨h1, h2, h3⟩ := h p hp
  exact ⟨h1, h2, by simp [rxO, lenOk]⟩
set_option maxRecDepth 100000 in
set_option maxHeartbeats 1000000 in
theorem relax_1 (w : World) (t : TaskV) (Ai Ag Ao : Option Addr) (ci cg co : Nat) (hT : TaskMem w Ai Ag Ao t) (h : ¬ (tfault t).1 = 0) :
    Calls Try.prog 56 #[.agg #[.int .i64 t.facts, .slice Ai t.init.length ci, .slice Ag t.goal.length cg, .slice Ao t.ops.length co]] w fun e w' => e = .returned (.tuple #[.agg #[.int .i64 0, .slice none 0 0, .slice none 0 0, .slice none 0 0], .agg #[.int .i64 (tfault t).1, .int .i64 (tfault t).2]]) ∧ Below w.heap.size w w' := by
  have N := bb_no h
  have N' := bn_yes h
  go_enter Try.func56, Try.ntmps56
  go_wp2_with fail
  refine (validate_any _ _ _ _ _ _ _ _ (hT.below (by repeat (first | with_reducible exact Below.refl _ _ | with_reducible apply bdrew | with_reducible apply bdrewN | with_reducible apply balloc | ((with_reducible refine bset ?_ ?_ _); rotate_left; (first | omega | (simp <;> omega))))))).mono ?_
  rintro e w1 ⟨rfl, hB1⟩
  have D1 := dstep w hB1 (by repeat (first | with_reducible exact Below.refl _ _ | with_reducible apply bdrew | with_reducible apply bdrewN | with_reducible apply balloc | ((with_reducible refine bset ?_ ?_ _); rotate_left; (first | omega | (simp <;> omega)))))
  have d1s := D1.size
  have C1 := Cls.below (l := [(w.heap.size, 0, .int .i64 t.facts), (w.heap.size, 1, .slice Ai t.init.length ci), (w.heap.size, 2, .slice Ag t.goal.length cg), (w.heap.size, 3, .slice Ao t.ops.length co), (w.heap.size + 1, 0, .int .i64 0), (w.heap.size + 1, 1, .slice none 0 0), (w.heap.size + 1, 2, .slice none 0 0), (w.heap.size + 1, 3, .slice none 0 0), (w.heap.size + 1 + 1, 0, .int .i64 0), (w.heap.size + 1 + 1, 1, .int .i64 0)]) hB1 (by simp [Cls, go_sem])
  have F1 := C1
  simp only [Cls, and_true] at F1
  have y1w2 : w.heap.size + 1 + 1 < w1.heap.size := C1.blk (b := w.heap.size + 1 + 1) (k := 0) (v := .int .i64 0) (by simp)
  have y1w1 : w.heap.size + 1 < w1.heap.size := (by omega)
  have y1w0 : w.heap.size < w1.heap.size := (by omega)
  have y1wp1 : w.heap.size < w1.heap.size + 1 := (by omega)
  have y1wp2 : w.heap.size < w1.heap.size + 1 + 1 := (by omega)
  go_wp2_with fail
  go_region
  all_goals (go_wp2_with fail)
  all_goals first | done | skip
  all_goals (refine bodyPost_ret (v := .tuple #[.agg #[.int .i64 0, .slice none 0 0, .slice none 0 0, .slice none 0 0], .agg #[.int .i64 (tfault t).1, .int .i64 (tfault t).2]]) ?_ rfl ⟨rfl, by repeat (first | with_reducible exact D1 | with_reducible apply bdrew | with_reducible apply bdrewN | with_reducible apply balloc | ((with_reducible refine bset ?_ ?_ _); rotate_left; (first | omega | (simp <;> omega))))⟩; simp [results, Try.results56, go_sem, F1, y1w2, y1w1, y1w0, y1wp1, y1wp2])

theorem valid_lens {t : TaskV} (hv : Valid t) : ∀ o ∈ t.ops, o.pre.length ≤ 1000000000000 ∧ o.add.length ≤ 1000000000000 ∧ o.del.length ≤ 1000000000000 := fun o ho => by
  obtain ⟨⟨h1, h2, h3, _⟩, _⟩ := hv.ops o ho
  have h5 := hv.f0
  have h6 := hv.f1
  have := h1.length h5
  have := h2.length h5
  have := h3.length h5
  omega
end Go.Proofs.Ytihkgdlanfemcaa
