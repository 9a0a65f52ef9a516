/-
  compile.Relax: what it returns.
-/
import Derived.Test.YtiaokmofoaeifaaCp3
import Derived.Test.YtiaokmofoaeifaaMG
namespace Go.Proofs.Ytiaokmofoaeifaa
open Go.RowKit
set_option linter.unusedVariables false
set_option linter.unusedSimpArgs false

theorem OwnEs.set_ {α : Type} {P : World → Option Nat → List Value → α → Prop} {e : TypeId} {size base n c g : Nat} {w : World} {els : List α} (hP : Stable P) (h : OwnEs P e size base w (.slice (some ⟨g, 0, none⟩) n c) els) (i q : Nat) (hi : i < els.length) (hq : q < size) (u : Value) (a' : α)
    (hn : ∀ (w' : World) (cs : List Value) (a : α), els[i]? = some a → P w' (some g) cs a → P w' (some g) (cs.set q u) a') :
    OwnEs P e size base (w.setCell ⟨g, i * size + q, none⟩ u) (.slice (some ⟨g, 0, none⟩) n c) (els.set i a') := by
  obtain ⟨cells, h1, h3⟩ := h
  have hne : n = els.length := by
    rcases h1.2 with ⟨h2, h4⟩ | ⟨g', cap, cur, hv, _⟩
    · cases h2
    · injection hv with e1 e2 e3
  subst hne
  have st := World.ownsRow.stored h1 (i * size + q) u
  refine ⟨cells.set (i * size + q) u, by rw [List.length_set]; exact st.1, fun j a ha => ?_⟩
  by_cases hj : j = i
  · subst hj
    rw [List.getElem?_set_self hi] at ha
    injection ha with ha
    subst ha
    rw [List.drop_set, if_neg (by omega), show j * size + q - j * size = q by omega, List.take_set]
    exact hn _ _ _ (List.getElem?_eq_getElem hi) ((hP.grown (h3 j _ (List.getElem?_eq_getElem hi)) st.2).1)
  · rw [List.getElem?_set_ne (fun e => hj e.symm)] at ha
    have key : ((cells.set (i * size + q) u).drop (j * size)).take size = (cells.drop (j * size)).take size := by
      rw [List.drop_set]
      split
      · rfl
      · rename_i hge
        have hij : j < i := by
          rcases Nat.lt_or_ge j i with h | h
          · exact h
          · have h5 : i + 1 ≤ j := by omega
            have := Nat.mul_le_mul_right size h5
            rw [Nat.succ_mul] at this
            omega
        have := Nat.mul_le_mul_right size (show j + 1 ≤ i from hij)
        rw [Nat.succ_mul] at this
        rw [List.take_set, List.set_eq_of_length_le (by rw [List.length_take]; omega)]
    rw [key]
    exact (hP.grown (h3 j a ha) st.2).1
theorem add_off (g m : Nat) : (⟨g, 0, none⟩ : Addr).add m = ⟨g, m, none⟩ := by
  unfold Addr.add
  split
  · rename_i hj
    rw [hj]
  · simp
/-- The first k elements mapped. -/
def mapTo {α : Type} (f : α → α) (k : Nat) (xs : List α) : List α := (xs.take k).map f ++ xs.drop k
theorem mapTo_zero {α : Type} (f : α → α) (xs : List α) : mapTo f 0 xs = xs := by simp [mapTo]
theorem mapTo_len {α : Type} (f : α → α) (k : Nat) (xs : List α) : (mapTo f k xs).length = xs.length := by
  simp [mapTo]; omega
theorem mapTo_all {α : Type} (f : α → α) {k : Nat} {xs : List α} (h : xs.length ≤ k) : mapTo f k xs = xs.map f := by
  rw [mapTo, List.take_of_length_le h, List.drop_of_length_le h, List.append_nil]
theorem mapTo_at {α : Type} (f : α → α) {k : Nat} {xs : List α} (h : k < xs.length) : (mapTo f k xs)[k]? = some xs[k] := by
  rw [mapTo, List.getElem?_append_right (by rw [List.length_map, List.length_take]; omega), List.length_map, List.length_take, Nat.min_eq_left (by omega), Nat.sub_self, List.drop_eq_getElem_cons h]
  rfl
theorem mapTo_set {α : Type} (f : α → α) {k : Nat} {xs : List α} (h : k < xs.length) : (mapTo f k xs).set k (f xs[k]) = mapTo f (k + 1) xs := by
  rw [mapTo, List.set_append_right _ _ (by rw [List.length_map, List.length_take]; omega), mapTo, List.take_add_one, List.getElem?_eq_getElem h, List.map_append, List.append_assoc, List.length_map, List.length_take, Nat.min_eq_left (by omega), Nat.sub_self, List.drop_eq_getElem_cons h]
  rfl
/-- An operator that deletes nothing. -/
def rxO (o : OpV) : OpV := { o with del := [] }
def rxT (t : TaskV) : TaskV := { t with ops := t.ops.map rxO }
theorem plist_nil (B : Nat) (w : World) (row : Option Nat) : PList B w row [.slice none 0 0] [] := ⟨none, 0, rfl, Ints.nil _ _, fun _ => ⟨rfl, rfl⟩, Nat.le_refl _, by omega, fun ad e => by cases e⟩
theorem OwnOps.set_del {base n c g : Nat} {w : World} {ops : List OpV} (h : OwnOps base w (.slice (some ⟨g, 0, none⟩) n c) ops) (i : Nat) (hi : i < ops.length) :
    OwnOps base (w.setCell ⟨g, i * 4 + 2, none⟩ (.slice none 0 0)) (.slice (some ⟨g, 0, none⟩) n c) (ops.set i (rxO ops[i])) :=
  OwnEs.set_ (pop_stable _) h i 2 hi (by decide) (.slice none 0 0) (rxO ops[i]) (fun w' cs a ha hp => by
    rw [List.getElem?_eq_getElem hi] at ha
    injection ha with ha
    rw [ha]
    obtain ⟨A0, c0, A1, c1, A2, c2, e, h0, h1, h2⟩ := hp
    subst e
    exact ⟨A0, c0, A1, c1, none, 0, rfl, h0, h1, plist_nil _ _ _⟩)
/-- A task in memory of its own. -/
structure OwnT (base : Nat) (w : World) (A1 A2 A3 : Option Addr) (c1 c2 c3 : Nat) (u : TaskV) : Prop where
  i : Fresh base w A1 c1 u.init
  g : Fresh base w A2 c2 u.goal
  o : OwnOps base w (.slice A3 u.ops.length c3) u.ops
theorem OwnT.far {base : Nat} {w : World} {A1 A2 A3 : Option Addr} {c1 c2 c3 : Nat} {u : TaskV} (h : OwnT base w A1 A2 A3 c1 c2 c3 u) {p : Addr} (hp : p.block < base) (v : Value) : OwnT base (w.setCell p v) A1 A2 A3 c1 c2 c3 u :=
  ⟨h.i.away (fun ad he => by have := (h.i.blk ad he).1; omega) v, h.g.away (fun ad he => by have := (h.g.blk ad he).1; omega) v, h.o.far hp v⟩
theorem OwnT.below {base : Nat} {w w' : World} {A1 A2 A3 : Option Addr} {c1 c2 c3 : Nat} {u : TaskV} (h : OwnT base w A1 A2 A3 c1 c2 c3 u) (hb : Below w.heap.size w w') : OwnT base w' A1 A2 A3 c1 c2 c3 u := ⟨h.i.below hb, h.g.below hb, h.o.below hb⟩
theorem OwnT.mem {base : Nat} {w : World} {A1 A2 A3 : Option Addr} {c1 c2 c3 : Nat} {u : TaskV} (h : OwnT base w A1 A2 A3 c1 c2 c3 u) (hl : ∀ o ∈ u.ops, lenOk o.pre.length ∧ lenOk o.add.length ∧ lenOk o.del.length) (hi : lenOk u.init.length) (hg : lenOk u.goal.length) (ho : lenOk u.ops.length) : TaskMem w A1 A2 A3 u := ⟨h.i.ints, h.g.ints, OwnOps.at_ h.o hl, hi, hg, ho⟩
theorem OwnT.nil_ok {base : Nat} {w : World} {A1 A2 A3 : Option Addr} {c1 c2 c3 : Nat} {u : TaskV} (h : OwnT base w A1 A2 A3 c1 c2 c3 u) : NilOk A1 u.init c1 ∧ NilOk A2 u.goal c2 := ⟨h.i.nil_ok, h.g.nil_ok⟩
theorem rx_lens {t : TaskV} (h : ∀ o ∈ t.ops, lenOk o.pre.length ∧ lenOk o.add.length ∧ lenOk o.del.length) : ∀ o ∈ (rxT t).ops, lenOk o.pre.length ∧ lenOk o.add.length ∧ lenOk o.del.length := fun o ho => by
  obtain ⟨p, hp, rfl⟩ := List.mem_map.1 ho
  obtain ⟨h1, h2, h3⟩ := h p hp
  exact ⟨h1, h2, by simp [rxO, lenOk]⟩
set_option maxRecDepth 100000 in
set_option maxHeartbeats 1000000 in
theorem relax_1 (w : World) (t : TaskV) (Ai Ag Ao : Option Addr) (ci cg co : Nat) (hT : TaskMem w Ai Ag Ao t) (h : ¬ (tfault t).1 = 0) :
    Calls Try.prog 21 #[.agg #[.int .i64 t.facts, .slice Ai t.init.length ci, .slice Ag t.goal.length cg, .slice Ao t.ops.length co]] w fun e w' => e = .returned (.tuple #[.agg #[.int .i64 0, .slice none 0 0, .slice none 0 0, .slice none 0 0], .agg #[.int .i64 (tfault t).1, .int .i64 (tfault t).2]]) ∧ Below w.heap.size w w' := by
  have N := bb_no h
  have N' := bn_yes h
  go_enter Try.func21, Try.ntmps21
  go_wp2_with fail
  refine (validate_any _ _ _ _ _ _ _ _ (hT.below (by repeat (first | with_reducible exact Below.refl _ _ | with_reducible apply bdrew | with_reducible apply bdrewN | with_reducible apply balloc | ((with_reducible refine bset ?_ ?_ _); rotate_left; (first | omega | (simp <;> omega))))))).mono ?_
  rintro e w1 ⟨rfl, hB1⟩
  have D1 := dstep w hB1 (by repeat (first | with_reducible exact Below.refl _ _ | with_reducible apply bdrew | with_reducible apply bdrewN | with_reducible apply balloc | ((with_reducible refine bset ?_ ?_ _); rotate_left; (first | omega | (simp <;> omega)))))
  have d1s := D1.size
  have C1 := Cls.below (l := [(w.heap.size, 0, .int .i64 t.facts), (w.heap.size, 1, .slice Ai t.init.length ci), (w.heap.size, 2, .slice Ag t.goal.length cg), (w.heap.size, 3, .slice Ao t.ops.length co), (w.heap.size + 1, 0, .int .i64 0), (w.heap.size + 1, 1, .slice none 0 0), (w.heap.size + 1, 2, .slice none 0 0), (w.heap.size + 1, 3, .slice none 0 0), (w.heap.size + 1 + 1, 0, .int .i64 0), (w.heap.size + 1 + 1, 1, .int .i64 0)]) hB1 (by simp [Cls, go_sem])
  have F1 := C1
  simp only [Cls, and_true] at F1
  have y1w2 : w.heap.size + 1 + 1 < w1.heap.size := C1.blk (b := w.heap.size + 1 + 1) (k := 0) (v := .int .i64 0) (by simp)
  have y1w1 : w.heap.size + 1 < w1.heap.size := (by omega)
  have y1w0 : w.heap.size < w1.heap.size := (by omega)
  have y1wp1 : w.heap.size < w1.heap.size + 1 := (by omega)
  have y1wp2 : w.heap.size < w1.heap.size + 1 + 1 := (by omega)
  go_wp2_with fail
  go_region
  all_goals (go_wp2_with fail)
  all_goals first | done | skip
  all_goals (refine bodyPost_ret (v := .tuple #[.agg #[.int .i64 0, .slice none 0 0, .slice none 0 0, .slice none 0 0], .agg #[.int .i64 (tfault t).1, .int .i64 (tfault t).2]]) ?_ rfl ⟨rfl, by repeat (first | with_reducible exact D1 | with_reducible apply bdrew | with_reducible apply bdrewN | with_reducible apply balloc | ((with_reducible refine bset ?_ ?_ _); rotate_left; (first | omega | (simp <;> omega))))⟩; simp [results, Try.results21, go_sem, F1, y1w2, y1w1, y1w0, y1wp1, y1wp2])

theorem valid_lens {t : TaskV} (hv : Valid t) : ∀ o ∈ t.ops, o.pre.length ≤ 1000000000000 ∧ o.add.length ≤ 1000000000000 ∧ o.del.length ≤ 1000000000000 := fun o ho => by
  obtain ⟨⟨h1, h2, h3, _⟩, _⟩ := hv.ops o ho
  have h5 := hv.f0
  have h6 := hv.f1
  have := h1.length h5
  have := h2.length h5
  have := h3.length h5
  omega
set_option maxRecDepth 100000 in
set_option maxHeartbeats 2000000 in
theorem relax_2 (w : World) (t : TaskV) (Ai Ag Ao : Option Addr) (ci cg co : Nat) (hT : TaskMem w Ai Ag Ao t) (hv : Valid t) :
    Calls Try.prog 21 #[.agg #[.int .i64 t.facts, .slice Ai t.init.length ci, .slice Ag t.goal.length cg, .slice Ao t.ops.length co]] w fun e w' => ∃ u Ai' ci' Ag' cg' Ao' co', Hid (u = rxT t) ∧ e = .returned (.tuple #[.agg #[.int .i64 u.facts, .slice Ai' u.init.length ci', .slice Ag' u.goal.length cg', .slice Ao' u.ops.length co'], .agg #[.int .i64 0, .int .i64 0]]) ∧ TaskMem w' Ai' Ag' Ao' u ∧ Below w.heap.size w w' := by
  have HT0 := Lib.hid (tfault_valid hv)
  have HV := Lib.hid hv
  have h40 := hv.nops
  have hl1 : t.init.length ≤ 1000000000000 := by have := SetP.length hv.init hv.f0; have := hv.f1; omega
  have hl2 : t.goal.length ≤ 1000000000000 := by have := SetP.length hv.goal hv.f0; have := hv.f1; omega
  have HOL := Lib.hid (valid_lens hv)
  clear hv
  go_enter Try.func21, Try.ntmps21
  go_wp2_with fail
  refine (validate_any _ _ _ _ _ _ _ _ (hT.below (by repeat (first | with_reducible exact Below.refl _ _ | with_reducible apply bdrew | with_reducible apply bdrewN | with_reducible apply balloc | ((with_reducible refine bset ?_ ?_ _); rotate_left; (first | omega | (simp <;> omega))))))).mono ?_
  rintro e w1 ⟨he, hB1⟩
  rw [HT0.out] at he
  subst he
  have D1 := dstep w hB1 (by repeat (first | with_reducible exact Below.refl _ _ | with_reducible apply bdrew | with_reducible apply bdrewN | with_reducible apply balloc | ((with_reducible refine bset ?_ ?_ _); rotate_left; (first | omega | (simp <;> omega)))))
  have d1s := D1.size
  have C1 := Cls.below (l := [(w.heap.size, 0, .int .i64 t.facts), (w.heap.size, 1, .slice Ai t.init.length ci), (w.heap.size, 2, .slice Ag t.goal.length cg), (w.heap.size, 3, .slice Ao t.ops.length co), (w.heap.size + 1, 0, .int .i64 0), (w.heap.size + 1, 1, .slice none 0 0), (w.heap.size + 1, 2, .slice none 0 0), (w.heap.size + 1, 3, .slice none 0 0), (w.heap.size + 1 + 1, 0, .int .i64 0), (w.heap.size + 1 + 1, 1, .int .i64 0)]) hB1 (by simp [Cls, go_sem])
  have F1 := C1
  simp only [Cls, and_true] at F1
  have y1w2 : w.heap.size + 1 + 1 < w1.heap.size := C1.blk (b := w.heap.size + 1 + 1) (k := 0) (v := .int .i64 0) (by simp)
  have y1w1 : w.heap.size + 1 < w1.heap.size := (by omega)
  have y1w0 : w.heap.size < w1.heap.size := (by omega)
  have y1wp1 : w.heap.size < w1.heap.size + 1 := (by omega)
  have y1wp2 : w.heap.size < w1.heap.size + 1 + 1 := (by omega)
  go_wp2_with fail
  refine (tclone_any _ t Ai Ag Ao ci cg co (hT.below (by repeat (first | with_reducible exact D1 | with_reducible apply bdrew | with_reducible apply bdrewN | with_reducible apply balloc | ((with_reducible refine bset ?_ ?_ _); rotate_left; (first | omega | (simp <;> omega)))))) hl1 hl2 HOL.out (by omega)).mono ?_
  rintro e w2 ⟨A1, c1, A2, c2, A3, c3, rfl, hF1, hF2, hO, hdis, hB2⟩
  have D2 := dstep w hB2 (by repeat (first | with_reducible exact D1 | with_reducible apply bdrew | with_reducible apply bdrewN | with_reducible apply balloc | ((with_reducible refine bset ?_ ?_ _); rotate_left; (first | omega | (simp <;> omega)))))
  have d2s := D2.size
  have C2 := Cls.below (l := [(w.heap.size, 0, .int .i64 t.facts), (w.heap.size, 1, .slice Ai t.init.length ci), (w.heap.size, 2, .slice Ag t.goal.length cg), (w.heap.size, 3, .slice Ao t.ops.length co), (w.heap.size + 1, 0, .int .i64 0), (w.heap.size + 1, 1, .slice none 0 0), (w.heap.size + 1, 2, .slice none 0 0), (w.heap.size + 1, 3, .slice none 0 0), (w.heap.size + 1 + 1, 0, .int .i64 0), (w.heap.size + 1 + 1, 1, .int .i64 0), (w1.heap.size, 0, .int .i64 0), (w1.heap.size, 1, .int .i64 0)]) hB2 (by simp [Cls, go_sem, F1, y1w2, y1w1, y1w0, y1wp1, y1wp2])
  have F2 := C2
  simp only [Cls, and_true] at F2
  have y2w2 : w.heap.size + 1 + 1 < w2.heap.size := C2.blk (b := w.heap.size + 1 + 1) (k := 0) (v := .int .i64 0) (by simp)
  have y2w1 : w.heap.size + 1 < w2.heap.size := (by omega)
  have y2w0 : w.heap.size < w2.heap.size := (by omega)
  have y2wp1 : w.heap.size < w2.heap.size + 1 := (by omega)
  have y2wp2 : w.heap.size < w2.heap.size + 1 + 1 := (by omega)
  have y2w10 : w1.heap.size < w2.heap.size := C2.blk (b := w1.heap.size) (k := 0) (v := .int .i64 0) (by simp)
  have y2w1p1 : w1.heap.size < w2.heap.size + 1 := (by omega)
  have y2w1p2 : w1.heap.size < w2.heap.size + 1 + 1 := (by omega)
  have hbase : w.heap.size ≤ w1.heap.size := by omega
  have hdl := fun k hk => OwnEs.lt hO k hk
  go_wp2_with fail
  go_loopw [19] (fun i wr => ∃ k : Nat, k ≤ t.ops.length ∧ i = .int .i64 k ∧ OwnOps w1.heap.size wr (.slice A3 t.ops.length c3) (mapTo rxO k t.ops) ∧ Fresh w1.heap.size wr A1 c1 t.init ∧ Fresh w1.heap.size wr A2 c2 t.goal ∧ w2.heap.size < wr.heap.size ∧ Below w.heap.size w wr ∧ Cls wr [(w.heap.size, 0, .int .i64 t.facts), (w.heap.size, 1, .slice Ai t.init.length ci), (w.heap.size, 2, .slice Ag t.goal.length cg), (w.heap.size, 3, .slice Ao t.ops.length co), (w.heap.size + 1, 0, .int .i64 0), (w.heap.size + 1, 1, .slice none 0 0), (w.heap.size + 1, 2, .slice none 0 0), (w.heap.size + 1, 3, .slice none 0 0), (w.heap.size + 1 + 1, 0, .int .i64 0), (w.heap.size + 1 + 1, 1, .int .i64 0), (w1.heap.size, 0, .int .i64 0), (w1.heap.size, 1, .int .i64 0), (w2.heap.size, 0, .int .i64 t.facts), (w2.heap.size, 1, .slice A1 t.init.length c1), (w2.heap.size, 2, .slice A2 t.goal.length c2), (w2.heap.size, 3, .slice A3 t.ops.length c3)]) (fun i _ => t.ops.length - (intOf i).toNat)
  case atStart => exact ⟨0, Nat.zero_le _, rfl, by rw [mapTo_zero]; exact (hO.mono (by (first | omega | (simp <;> omega)))).below (by repeat (first | with_reducible exact Below.refl _ _ | with_reducible apply bdrew | with_reducible apply bdrewN | with_reducible apply balloc | ((with_reducible refine bset ?_ ?_ _); rotate_left; (first | omega | (simp <;> omega))))), (hF1.mono (by (first | omega | (simp <;> omega)))).below (by repeat (first | with_reducible exact Below.refl _ _ | with_reducible apply bdrew | with_reducible apply bdrewN | with_reducible apply balloc | ((with_reducible refine bset ?_ ?_ _); rotate_left; (first | omega | (simp <;> omega))))), (hF2.mono (by (first | omega | (simp <;> omega)))).below (by repeat (first | with_reducible exact Below.refl _ _ | with_reducible apply bdrew | with_reducible apply bdrewN | with_reducible apply balloc | ((with_reducible refine bset ?_ ?_ _); rotate_left; (first | omega | (simp <;> omega))))), (by simp), (by repeat (first | with_reducible exact D2 | with_reducible apply bdrew | with_reducible apply bdrewN | with_reducible apply balloc | ((with_reducible refine bset ?_ ?_ _); rotate_left; (first | omega | (simp <;> omega))))), (by simp [Cls, go_sem, F2, y2w2, y2w1, y2w0, y2wp1, y2wp2, y2w10, y2w1p1, y2w1p2])⟩
  case round =>
    obtain ⟨k, hk, rfl, hown, hX1, hX2, hsz, hBr, hCr⟩ := hrel
    obtain ⟨w3, rfl⟩ : ∃ wo : World, wo = wr := ⟨_, rfl⟩
    have drs := hBr.size
    have Fr := hCr
    simp only [Cls, and_true] at Fr
    have yrw2 : w.heap.size + 1 + 1 < w3.heap.size := hCr.blk (b := w.heap.size + 1 + 1) (k := 0) (v := .int .i64 0) (by simp)
    have yrw1 : w.heap.size + 1 < w3.heap.size := (by omega)
    have yrw0 : w.heap.size < w3.heap.size := (by omega)
    have yrwp1 : w.heap.size < w3.heap.size + 1 := (by omega)
    have yrwp2 : w.heap.size < w3.heap.size + 1 + 1 := (by omega)
    have yrw10 : w1.heap.size < w3.heap.size := hCr.blk (b := w1.heap.size) (k := 0) (v := .int .i64 0) (by simp)
    have yrw1p1 : w1.heap.size < w3.heap.size + 1 := (by omega)
    have yrw1p2 : w1.heap.size < w3.heap.size + 1 + 1 := (by omega)
    have yrw20 : w2.heap.size < w3.heap.size := hCr.blk (b := w2.heap.size) (k := 0) (v := .int .i64 t.facts) (by simp)
    have yrw2p1 : w2.heap.size < w3.heap.size + 1 := (by omega)
    have yrw2p2 : w2.heap.size < w3.heap.size + 1 + 1 := (by omega)
    by_cases hlt : k < t.ops.length
    · have hltm : k < (mapTo rxO k t.ops).length := by rw [mapTo_len]; exact hlt
      obtain ⟨g, cs, a, rfl, hg1, hg2, ha, hcl, hcs, hpa⟩ := OwnEs.at_ hown hltm
      obtain ⟨q0, q1, q2, q3, q4, q5, rfl, p0, p1, p2⟩ := hpa
      have hc2 : w3.cell? ⟨g, k * 4 + 2, none⟩ = some (.slice q4 a.del.length q5) := hcs 2 _ rfl
      have hfr : w3.frozen? ⟨g, k * 4 + 2, none⟩ = false := OwnEs.free (A := none) hown _
      have hadd : ((⟨g, 0, none⟩ : Addr).add (k * 4)) = ⟨g, k * 4, none⟩ := add_off g _
      have hset := Lib.hid (OwnOps.set_del hown k hltm)
      have hgd := hdis g rfl
      have hgl := hdl g rfl
      have hgw2 : g < w2.heap.size := hgl.2
      have HX1 := Lib.hid (hX1.away (p := ⟨g, k * 4 + 2, none⟩) hgd.1 (.slice none 0 0))
      have HX2 := Lib.hid (hX2.away (p := ⟨g, k * 4 + 2, none⟩) hgd.2 (.slice none 0 0))
      have HMS := Lib.hid (show (mapTo rxO k t.ops).set k (rxO (mapTo rxO k t.ops)[k]) = mapTo rxO (k + 1) t.ops by
        have := mapTo_at rxO hlt
        rw [List.getElem?_eq_getElem hltm] at this
        injection this with this
        rw [this]; exact mapTo_set rxO hlt)
      clear hcs hdis hdl hcl
      go_wp2_with fail
      go_roundw
      case rel => exact ⟨k + 1, by omega, by go_num, by rw [← HMS.out]; exact hset.out, HX1.out, HX2.out, (by simpa using hsz), (by repeat (first | with_reducible exact hBr | with_reducible apply bdrew | with_reducible apply bdrewN | with_reducible apply balloc | ((with_reducible refine bset ?_ ?_ _); rotate_left; (first | omega | (simp <;> omega))))), (by simp [Cls, go_sem, Fr, yrw2, yrw1, yrw0, yrwp1, yrwp2, yrw10, yrw1p1, yrw1p2, yrw20, yrw2p1, yrw2p2])⟩
      case measure => simp [intOf]; omega
    · have hke := Lib.hid (mapTo_all rxO (xs := t.ops) (k := k) (by omega))
      rw [hke.out] at hown
      have hon : lenOk (rxT t).ops.length := by simp [rxT]; exact hT.lops
      have HTM : OwnT w1.heap.size w3 A1 A2 A3 c1 c2 c3 (rxT t) := ⟨hX1, hX2, by simpa [rxT] using hown⟩
      have hb1 : w.heap.size + 1 < w1.heap.size := by omega
      have hb2 : w.heap.size + 1 + 1 < w1.heap.size := by omega
      go_wp2_with fail
      refine bodyPost_ret (v := .tuple #[.agg #[.int .i64 t.facts, .slice A1 t.init.length c1, .slice A2 t.goal.length c2, .slice A3 t.ops.length c3], .agg #[.int .i64 0, .int .i64 0]]) ?_ rfl ⟨rxT t, A1, c1, A2, c2, A3, c3, Lib.hid rfl, (by simp [rxT]), OwnT.mem (base := w1.heap.size) ((((((HTM.far (p := ⟨w.heap.size + 1, 0, none⟩) hb1 _).far (p := ⟨w.heap.size + 1, 1, none⟩) hb1 _).far (p := ⟨w.heap.size + 1, 2, none⟩) hb1 _).far (p := ⟨w.heap.size + 1, 3, none⟩) hb1 _).far (p := ⟨w.heap.size + 1 + 1, 0, none⟩) hb2 _).far (p := ⟨w.heap.size + 1 + 1, 1, none⟩) hb2 _) (rx_lens (fun o ho => by have := HOL.out o ho; simp only [lenOk]; omega)) hT.linit hT.lgoal hon, by repeat (first | with_reducible exact hBr | with_reducible apply bdrew | with_reducible apply bdrewN | with_reducible apply balloc | ((with_reducible refine bset ?_ ?_ _); rotate_left; (first | omega | (simp <;> omega))))⟩
      simp [results, Try.results21, go_sem, Fr, yrw2, yrw1, yrw0, yrwp1, yrwp2, yrw10, yrw1p1, yrw1p2, yrw20, yrw2p1, yrw2p2]


end Go.Proofs.Ytiaokmofoaeifaa
