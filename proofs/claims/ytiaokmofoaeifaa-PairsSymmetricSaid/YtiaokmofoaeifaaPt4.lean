/-
  pairs: find: what it returns.
-/
import Derived.Test.YtiaokmofoaeifaaPt3
namespace Go.Proofs.Ytiaokmofoaeifaa
open Go.RowKit
set_option linter.unusedVariables false
set_option linter.unusedSimpArgs false

/-- .. of which only the first k rows are made. -/
structure TblTo (w : World) (g : Nat) (bs : List Nat) (n k : Nat) (V : Int → Int → Int) : Prop where
  arr : Arr w g 22 ((bs.map fun b => Value.slice (some ⟨b, 0, none⟩) n n) ++ List.replicate (n - k) (Value.slice none 0 0))
  len : bs.length = k
  rows : ∀ (p b : Nat), bs[p]? = some b → IArr w b (rowV n (V (p : Int)))
  diff : ∀ b ∈ bs, b ≠ g
  nodup : bs.Nodup
section
variable {w w' : World} {g n k : Nat} {bs : List Nat} {V : Int → Int → Int}
theorem TblTo.lt (h : TblTo w g bs n k V) : g < w.heap.size ∧ ∀ b ∈ bs, b < w.heap.size := ⟨h.arr.lt, fun b hb => by
  obtain ⟨i, hi, rfl⟩ := List.getElem_of_mem hb
  exact Arr.lt (h.rows i _ (List.getElem?_eq_getElem hi))⟩
theorem TblTo.below (h : TblTo w g bs n k V) (hb : Below w.heap.size w w') : TblTo w' g bs n k V :=
  ⟨(hb.block g h.lt.1).trans h.arr, h.len, fun p b hp => (hb.block b (h.lt.2 b (List.mem_of_getElem? hp))).trans (h.rows p b hp), h.diff, h.nodup⟩
theorem TblTo.at_ (h : TblTo w g bs n k V) {p q : Nat} (hp : p < k) (hq : q < n) :
    ∃ b, Hid (bs[p]? = some b) ∧ b < w.heap.size ∧ w.cell? ⟨g, p, none⟩ = some (.slice (some ⟨b, 0, none⟩) n n) ∧ w.cell? ⟨b, q, none⟩ = some (.int .i64 (V p q)) ∧ w.frozen? ⟨b, q, none⟩ = false := by
  have hpl : p < bs.length := by rw [h.len]; omega
  refine ⟨bs[p], Lib.hid (List.getElem?_eq_getElem hpl), h.lt.2 _ (List.getElem_mem hpl), ?_, ?_, Arr.free (h.rows _ _ (List.getElem?_eq_getElem hpl)) _⟩
  · rw [h.arr.cell, List.getElem?_append_left (by simpa using hpl)]; simp [hpl]
  · have hr := h.rows _ _ (List.getElem?_eq_getElem hpl)
    rw [Arr.cell hr, List.getElem?_map, rowV_get hq]; rfl
theorem TblTo.row_at (h : TblTo w g bs n k V) {p : Nat} (hp : p < k) : ∃ b, Hid (bs[p]? = some b) ∧ w.cell? ⟨g, p, none⟩ = some (.slice (some ⟨b, 0, none⟩) n n) := by
  have hpl : p < bs.length := by rw [h.len]; omega
  refine ⟨bs[p], Lib.hid (List.getElem?_eq_getElem hpl), ?_⟩
  rw [h.arr.cell, List.getElem?_append_left (by simpa using hpl)]; simp [hpl]
theorem TblTo.next (h : TblTo w g bs n k V) (hk : k < n) : w.cell? ⟨g, k, none⟩ = some (.slice none 0 0) ∧ w.frozen? ⟨g, k, none⟩ = false := by
  refine ⟨?_, Arr.free h.arr _⟩
  rw [h.arr.cell, List.getElem?_append_right (by simp [h.len]), List.length_map, h.len, Nat.sub_self, List.getElem?_replicate, if_pos (by omega)]
theorem TblTo.store (h : TblTo w g bs n k V) {p q b : Nat} (hb : bs[p]? = some b) (x : Int) : TblTo (w.setCell ⟨b, q, none⟩ (.int .i64 x)) g bs n k (put1 V p q x) := by
  have hm := List.mem_of_getElem? hb
  refine ⟨h.arr.far (h.diff b hm) _, h.len, fun i c hc => ?_, h.diff, h.nodup⟩
  by_cases e : i = p
  · subst e
    rw [hb] at hc
    injection hc with hc
    subst hc
    have h1 := (h.rows _ _ hb).set_ q x
    rw [rowV_set] at h1
    exact h1
  · have hne : b ≠ c := fun hh => by
      subst hh
      obtain ⟨h1, h2⟩ := List.getElem?_eq_some_iff.1 hb
      obtain ⟨h3, h4⟩ := List.getElem?_eq_some_iff.1 hc
      exact e ((List.getElem_inj h.nodup).1 (h4.trans h2.symm))
    rw [rowV_far e]
    exact (h.rows i c hc).far (p := ⟨b, q, none⟩) hne (.int .i64 x)
theorem TblTo.congr {U : Int → Int → Int} (h : TblTo w g bs n k V) (he : ∀ p q : Nat, p < k → q < n → V p q = U p q) : TblTo w g bs n k U :=
  ⟨h.arr, h.len, fun p b hp => by
    have := (List.getElem?_eq_some_iff.1 hp).1
    have h1 := h.rows p b hp
    rw [rowV_ext (fun q hq => he p q (by rw [← h.len]; exact this) hq)] at h1
    exact h1, h.diff, h.nodup⟩
theorem TblTo.add (h : TblTo w g bs n k V) (hk : k < n) (hz : ∀ q : Nat, q < n → V k q = 0) : TblTo ((w.setCell ⟨g, k, none⟩ (.slice (some ⟨w.heap.size, 0, none⟩) n n)).alloc (.cells (Array.replicate n (.int .i64 0)) 3)) g (bs ++ [w.heap.size]) n (k + 1) V := by
  have hg := h.lt.1
  have hbl := h.lt.2
  refine ⟨?_, by simp [h.len], fun p b hp => ?_, fun b hb => ?_, ?_⟩
  · have h1 := (h.arr.set_ k (.slice (some ⟨w.heap.size, 0, none⟩) n n)).alloc (.cells (Array.replicate n (.int .i64 0)) 3)
    have e : ((bs.map fun b => Value.slice (some ⟨b, 0, none⟩) n n) ++ List.replicate (n - k) (Value.slice none 0 0)).set k (.slice (some ⟨w.heap.size, 0, none⟩) n n) = ((bs ++ [w.heap.size]).map fun b => Value.slice (some ⟨b, 0, none⟩) n n) ++ List.replicate (n - (k + 1)) (Value.slice none 0 0) := by
      have hl : (bs.map fun b => Value.slice (some ⟨b, 0, none⟩) n n).length = k := by simp [h.len]
      rw [List.set_append_right _ _ (by omega), hl, Nat.sub_self]
      have e2 : n - k = (n - (k + 1)) + 1 := by omega
      rw [e2, List.replicate_succ]
      simp
    rw [e] at h1
    exact h1
  · rcases Nat.lt_or_ge p bs.length with hl | hl
    · rw [List.getElem?_append_left hl] at hp
      have h1 := (h.rows p b hp).far (p := ⟨g, k, none⟩) (fun e => h.diff b (List.mem_of_getElem? hp) e.symm) (.slice (some ⟨w.heap.size, 0, none⟩) n n)
      exact h1.below ((Below.refl _ _).alloc (Nat.le_refl _) _)
    · rw [List.getElem?_append_right hl] at hp
      have hp0 : p = bs.length := by
        have := (List.getElem?_eq_some_iff.1 hp).1
        simp at this; omega
      subst hp0
      simp at hp
      subst hp
      have h1 := IArr.made (w.setCell ⟨g, k, none⟩ (.slice (some ⟨w.heap.size, 0, none⟩) n n)) n w.heap.size (by simp)
      have e : rowV n (V ((bs.length : Nat) : Int)) = List.replicate n 0 := by
        apply List.ext_getElem?
        intro i
        by_cases hi : i < n
        · rw [rowV_get hi, h.len, hz i hi]; simp [hi]
        · rw [List.getElem?_eq_none (by rw [rowV_len]; omega), List.getElem?_eq_none (by simp; omega)]
      rw [e]
      exact h1
  · rcases List.mem_append.1 hb with h1 | h1
    · exact h.diff b h1
    · rw [List.mem_singleton.1 h1]; omega
  · rw [List.nodup_append]
    refine ⟨h.nodup, by simp, fun a ha b hb => ?_⟩
    rw [List.mem_singleton.1 hb]
    have := hbl a ha
    omega
theorem TblTo.full (h : TblTo w g bs n n V) : Tbl w g bs n V := ⟨by have := h.arr; simpa using this, h.len, h.rows, h.diff, h.nodup⟩
theorem TblTo.start (w : World) (n k : Nat) (V : Int → Int → Int) (hk : k = w.heap.size) : TblTo (w.alloc (.cells (Array.replicate n (Value.slice none 0 0)) 22)) k [] n 0 V := by
  subst hk
  refine ⟨?_, rfl, fun p b h => by simp at h, fun b h => (List.not_mem_nil h).elim, List.nodup_nil⟩
  have h := Arr.new w 22 (List.replicate n (Value.slice none 0 0))
  rw [List.toArray_replicate] at h
  simpa using h
end
theorem make_tab (n : Nat) (hn : n ≤ 1000000) (w : World) :
    (Instr.makeSlice 86 (.int .i64 (n : Int)) (.int .i64 (n : Int))).run Try.prog w = .ok (.slice (some ⟨w.heap.size, 0, none⟩) n n) (w.alloc (.cells (List.replicate n (Value.slice none 0 0)).toArray 22)) := by
  rw [← madeCells_one]
  exact run_make_row' 86 22 (.slice none 0 0) 24 Try.underlying86 info_list rfl .i64 .i64 n (by omega) (by omega) w
/-- The values at the start. -/
def initT (st : List Int) (p q : Int) : Int := if p ∈ st ∧ q ∈ st then 0 else 1000000000
/-- .. while they are laid. -/
def initTo (st : List Int) (k j : Nat) (p q : Int) : Int := if p < k ∨ (p = k ∧ q < j) then initT st p q else 0
theorem initTo_row {st : List Int} {k n : Nat} : ∀ p q : Nat, p < k + 1 → q < n → initTo st k n p q = initTo st (k + 1) 0 p q := fun p q hp hq => by
  unfold initTo
  rw [if_pos (by omega), if_pos (by omega)]
theorem initTo_zero {st : List Int} {k : Nat} : ∀ q : Nat, initTo st k 0 k q = 0 := fun q => by
  unfold initTo
  rw [if_neg (by omega)]
theorem initTo_yes {st : List Int} {k j n : Nat} (hk : (k : Int) ∈ st) (hj : (j : Int) ∈ st) : ∀ p q : Nat, p < k + 1 → q < n → initTo st k j p q = initTo st k (j + 1) p q := fun p q hp hq => by
  unfold initTo
  by_cases e : (p : Int) < k ∨ ((p : Int) = k ∧ (q : Int) < j)
  · rw [if_pos e, if_pos (by omega)]
  · rw [if_neg e]
    by_cases e2 : p = k ∧ q = j
    · obtain ⟨rfl, rfl⟩ := e2
      rw [if_pos (by omega)]
      unfold initT
      rw [if_pos ⟨hk, hj⟩]
    · rw [if_neg (by omega)]
theorem initTo_no {st : List Int} {k j n : Nat} (h : ¬ ((k : Int) ∈ st ∧ (j : Int) ∈ st)) : ∀ p q : Nat, p < k + 1 → q < n → put1 (initTo st k j) k j 1000000000 p q = initTo st k (j + 1) p q := fun p q hp hq => by
  unfold put1
  by_cases e2 : p = k ∧ q = j
  · obtain ⟨rfl, rfl⟩ := e2
    rw [if_pos ⟨rfl, rfl⟩]
    unfold initTo
    rw [if_pos (by omega)]
    unfold initT
    rw [if_neg h]
  · rw [if_neg (by omega)]
    unfold initTo
    by_cases e : (p : Int) < k ∨ ((p : Int) = k ∧ (q : Int) < j)
    · rw [if_pos e, if_pos (by omega)]
    · rw [if_neg e, if_neg (by omega)]
theorem initTo_all {st : List Int} {k n : Nat} : ∀ p q : Nat, p < k → q < n → initTo st k 0 p q = initT st p q := fun p q hp hq => by
  unfold initTo
  rw [if_pos (by omega)]
theorem initT_ab {n : Nat} {st : List Int} {ops : List OpV} : PAb n st ops (initT st) := by
  refine ⟨fun p q _ _ => ?_, fun p hp q hq => ?_, fun p q _ _ => ?_, fun U hU p q hp hq => ?_⟩
  · unfold initT InV; split <;> omega
  · unfold initT; rw [if_pos ⟨hp, hq⟩]
  · unfold initT
    by_cases e : p ∈ st ∧ q ∈ st
    · rw [if_pos e, if_pos e.symm]
    · rw [if_neg e, if_neg (fun h => e h.symm)]
  · unfold initT
    by_cases e : p ∈ st ∧ q ∈ st
    · rw [if_pos e, hU.zero p e.1 q e.2]; omega
    · rw [if_neg e]; exact (hU.all p q hp hq).2
theorem OpsRead.at3 {w w' : World} {A : Option Addr} {ops : List OpV} {k : Nat} (h : OpsRead w A ops) (hb : Below w.heap.size w w') (hk : k < ops.length) : ∃ ad o A0 c0 A1 c1 A2 c2, A = some ad ∧ Hid (ops[k]? = some o) ∧ w'.cell? (ad.add (k * 4)) = some (.slice A0 o.pre.length c0) ∧ w'.cell? ⟨(ad.add (k * 4)).block, (ad.add (k * 4)).off + 1, none⟩ = some (.slice A1 o.add.length c1) ∧
    w'.cell? ⟨(ad.add (k * 4)).block, (ad.add (k * 4)).off + 2, none⟩ = some (.slice A2 o.del.length c2) ∧ w'.cell? ⟨(ad.add (k * 4)).block, (ad.add (k * 4)).off + 3, none⟩ = some (.int .i64 o.cost) ∧ OpMem w A0 A1 A2 o ∧ Hid (NilOk A0 o.pre c0) := by
  obtain ⟨ad, A0, c0, A1, c1, A2, c2, e, h0, h1, h2, h3, hm, hr⟩ := h k _ (List.getElem?_eq_getElem hk)
  exact ⟨ad, ops[k], A0, c0, A1, c1, A2, c2, e, Lib.hid (List.getElem?_eq_getElem hk), (hb.cell (World.block_lt_of_cell? w _ h0)).trans h0, (hb.cell (World.block_lt_of_cell? w _ h1)).trans h1, (hb.cell (World.block_lt_of_cell? w _ h2)).trans h2, (hb.cell (World.block_lt_of_cell? w _ h3)).trans h3, hm, Lib.hid hr.1⟩
theorem Cls.wr2 {bs : List Nat} {w w' : World} {l : List (Nat × Nat × Value)} (hW : Wr bs w w') (hC : Cls w l) (hl : ∀ x ∈ l, x.1 ∉ bs) : Cls w' l := by
  induction l with
  | nil => trivial
  | cons x r ih =>
    obtain ⟨b, k, v⟩ := x
    obtain ⟨⟨h1, h2⟩, h3⟩ := hC
    have hlt := World.block_lt_of_cell? w ⟨b, k, none⟩ h1
    have hne : w'.heap[b]? = w.heap[b]? := hW.block b hlt (hl (b, k, v) (by simp))
    exact ⟨⟨(World.cell?_of_block (w := w) hne).trans h1, (World.frozen?_of_block (w := w) hne).trans h2⟩, ih h3 (fun x hx => hl x (by simp [hx]))⟩
theorem opsIn_of {n : Nat} {t : TaskV} (hv : Valid t) (hn : t.facts = n) : OpsIn n t.ops := fun o ho => by
  have h := hv.ops o ho
  rw [hn] at h
  exact ⟨fun p hp => h.1.1.1 p hp, fun p hp => h.1.2.1.1 p hp, h.2⟩
/-- A pass over the operators. -/
theorem use_next {n : Nat} {st : List Int} {ops : List OpV} {V0 V1 V2 : Int → Int → Int} {b1 b2 : Bool} {k : Nat} {o : OpV} (ho : ops[k]? = some o) (h1 : b1 = true → sumT n V1 < sumT n V0) (h2 : b1 = false → V1 = V0 ∧ ∀ x ∈ ops.take k, OpClosed n V0 x) (hU : Use n st ops V1 V2 b2 (OpClosed n V1 o)) :
    ((b2 || b1) = true → sumT n V2 < sumT n V0) ∧ ((b2 || b1) = false → V2 = V0 ∧ ∀ x ∈ ops.take (k + 1), OpClosed n V0 x) := by
  constructor
  · intro h
    cases b2 with
    | true =>
      have h3 := hU.down rfl
      cases b1 with
      | true => have := h1 rfl; omega
      | false => rw [(h2 rfl).1] at h3; exact h3
    | false =>
      rw [(hU.keep rfl).1]
      exact h1 (by simpa using h)
  · intro h
    simp only [Bool.or_eq_false_iff] at h
    obtain ⟨h3, h4⟩ := hU.keep h.1
    obtain ⟨h5, h6⟩ := h2 h.2
    refine ⟨h3.trans h5, fun x hx => ?_⟩
    rw [List.take_add_one, ho] at hx
    rcases List.mem_append.1 hx with e | e
    · exact h6 x e
    · have : x = o := by simpa using e
      rw [this, ← h5]; exact h4
theorem best_pairs {n : Nat} {st : List Int} {ops : List OpV} {V : Int → Int → Int} (h : PAb n st ops V) (hc : ∀ o ∈ ops, OpClosed n V o) : PBest n st ops V := ⟨⟨h.all, h.zero, fun o ho p q l hp hq ha => hc o ho p q l hp hq ha⟩, h.great⟩
set_option maxRecDepth 100000 in
set_option maxHeartbeats 1000000 in
theorem find_any (w : World) (t : TaskV) (Ai Ag Ao : Option Addr) (ci cg co : Nat) (hR : OpsRead w Ao t.ops) (S : Option Addr) (cs : Nat) (st : List Int) (hS : Ints w S st) (n : Nat) (hn : t.facts = n) (hv : Valid t) (hst : SetP st (n : Int)) :
    Calls Try.prog 64 #[.agg #[.int .i64 t.facts, .slice Ai t.init.length ci, .slice Ag t.goal.length cg, .slice Ao t.ops.length co], .slice S st.length cs] w fun e w' => ∃ g bs V, e = .returned (.slice (some ⟨g, 0, none⟩) n n) ∧ w.heap.size ≤ g ∧ (∀ b ∈ bs, w.heap.size ≤ b) ∧ Tbl w' g bs n V ∧ PBest n st t.ops V ∧ Below w.heap.size w w' := by
  have hn24 : n ≤ 24 := by have := hv.f1; omega
  have hmk := make_tab n (by omega)
  have hmr := make_ints n (by omega)
  have hlst : st.length ≤ 9223372036854775807 := by have := SetP.length hst (by have := hv.f0; omega); omega
  have HST := Lib.hid hst
  have HV := Lib.hid hv
  have HN := Lib.hid hn
  have HOPS := Lib.hid (opsIn_of hv hn)
  have hm40 := hv.nops
  rw [hn]
  clear hst hv hn
  go_enter Try.func64, Try.ntmps64
  go_wp2_with fail
  go_loopw [16] (fun i wr => ∃ (k : Nat) (bs : List Nat), k ≤ n ∧ i = .int .i64 k ∧ TblTo wr (w.heap.size + 1) bs n k (initTo st k 0) ∧ Hid (∀ b ∈ bs, w.heap.size + 1 + 1 ≤ b) ∧ Below w.heap.size w wr ∧ Cls wr [(w.heap.size, 0, .int .i64 (n : Int)), (w.heap.size, 1, .slice Ai t.init.length ci), (w.heap.size, 2, .slice Ag t.goal.length cg), (w.heap.size, 3, .slice Ao t.ops.length co)]) (fun i _ => n - (intOf i).toNat)
  case atStart => exact ⟨0, [], Nat.zero_le _, rfl, TblTo.start _ _ _ _ (by simp), Lib.hid (fun b h => by cases h), by repeat (first | with_reducible exact Below.refl _ _ | with_reducible apply bdrew | with_reducible apply bdrewN | with_reducible apply balloc | ((with_reducible refine bset ?_ ?_ _); rotate_left; (first | omega | (simp <;> omega)))), by simp [Cls, go_sem]⟩
  case round =>
    obtain ⟨k, bs, hk, rfl, hTr, hbs, hBr, hCr⟩ := hrel
    obtain ⟨w1, rfl⟩ : ∃ wo : World, wo = wr := ⟨_, rfl⟩
    have dsr := hBr.size
    have Fr := hCr
    simp only [Cls, and_true] at Fr
    have yr : w.heap.size < w1.heap.size := hCr.blk (b := w.heap.size) (k := 0) (v := .int .i64 (n : Int)) (by simp)
    have yrp : w.heap.size < w1.heap.size + 1 := (by omega)
    have yrq : w.heap.size < w1.heap.size + 1 + 1 := (by omega)
    have zr : w.heap.size + 1 < w1.heap.size := hTr.lt.1
    have zrp : w.heap.size + 1 < w1.heap.size + 1 := (by omega)
    have zrq : w.heap.size + 1 < w1.heap.size + 1 + 1 := (by omega)
    by_cases hlt : k < n
    · obtain ⟨hnx, hnf⟩ := hTr.next hlt
      have HT1 := Lib.hid (hTr.add hlt (fun q _ => initTo_zero q))
      have hbs1 : Hid (∀ b ∈ bs ++ [w1.heap.size], w.heap.size + 1 + 1 ≤ b) := Lib.hid (fun b hb => by
        rcases List.mem_append.1 hb with h | h
        · exact hbs.out b h
        · rw [List.mem_singleton.1 h]; omega)
      go_upto_region 6 with (fail)
      have hrow := (HT1.out.row_at (p := k) (by omega))
      obtain ⟨bk, hbk, hbc⟩ := hrow
      go_wp2_with fail
      go_loopw [30] (fun i wr => ∃ (j : Nat) (bs : List Nat), j ≤ n ∧ i = .int .i64 j ∧ TblTo wr (w.heap.size + 1) bs n (k + 1) (initTo st k j) ∧ Hid (∀ b ∈ bs, w.heap.size + 1 + 1 ≤ b) ∧ Below w.heap.size w wr ∧ Cls wr [(w.heap.size, 0, .int .i64 (n : Int)), (w.heap.size, 1, .slice Ai t.init.length ci), (w.heap.size, 2, .slice Ag t.goal.length cg), (w.heap.size, 3, .slice Ao t.ops.length co)]) (fun i _ => n - (intOf i).toNat)
      case atStart => exact ⟨0, _, Nat.zero_le _, rfl, HT1.out.below (by repeat (first | with_reducible exact Below.refl _ _ | with_reducible apply bdrew | with_reducible apply bdrewN | with_reducible apply balloc | ((with_reducible refine bset ?_ ?_ _); rotate_left; (first | omega | (simp <;> omega))))), hbs1, by repeat (first | with_reducible exact hBr | with_reducible apply bdrew | with_reducible apply bdrewN | with_reducible apply balloc | ((with_reducible refine bset ?_ ?_ _); rotate_left; (first | omega | (simp <;> omega)))), by simp [Cls, go_sem, Fr, yr, yrp, yrq]⟩
      case round =>
        obtain ⟨j, bs, hj, rfl, hTs, hbs, hBs, hCs⟩ := hrel
        obtain ⟨w2, rfl⟩ : ∃ wo : World, wo = wr := ⟨_, rfl⟩
        have dss := hBs.size
        have Fs := hCs
        simp only [Cls, and_true] at Fs
        have ys : w.heap.size < w2.heap.size := hCs.blk (b := w.heap.size) (k := 0) (v := .int .i64 (n : Int)) (by simp)
        have ysp : w.heap.size < w2.heap.size + 1 := (by omega)
        have ysq : w.heap.size < w2.heap.size + 1 + 1 := (by omega)
        have zs : w.heap.size + 1 < w2.heap.size := hTs.lt.1
        have zsp : w.heap.size + 1 < w2.heap.size + 1 := (by omega)
        have zsq : w.heap.size + 1 < w2.heap.size + 1 + 1 := (by omega)
        by_cases hjl : j < n
        · by_cases hks : (k : Int) ∈ st
          · have HK := Lib.hid (decide_eq_true hks)
            by_cases hjs : (j : Int) ∈ st
            · have HJ := Lib.hid (decide_eq_true hjs)
              have HE := Lib.hid (initTo_yes (n := n) hks hjs)
              clear hks hjs
              go_wp2_with fail
              refine (scont1 _ _ _ _ st k _ true (hS.below (by repeat (first | with_reducible exact hBs | with_reducible apply bdrew | with_reducible apply bdrewN | with_reducible apply balloc | ((with_reducible refine bset ?_ ?_ _); rotate_left; (first | omega | (simp <;> omega)))))) (ints_one (by simp [go_sem])) hlst (SetP.pairwise HST.out) HK.out).mono ?_
              rintro e w9 ⟨rfl, rfl⟩
              go_wp2_with fail
              refine (scont1 _ _ _ _ st j _ true (hS.below (by repeat (first | with_reducible exact hBs | with_reducible apply bdrew | with_reducible apply bdrewN | with_reducible apply balloc | ((with_reducible refine bset ?_ ?_ _); rotate_left; (first | omega | (simp <;> omega)))))) (ints_one (by simp [go_sem])) hlst (SetP.pairwise HST.out) HJ.out).mono ?_
              rintro e w9 ⟨rfl, rfl⟩
              go_wp2
              go_roundw
              case rel => exact ⟨j + 1, bs, by omega, by go_num, TblTo.congr (hTs.below (by repeat (first | with_reducible exact Below.refl _ _ | with_reducible apply bdrew | with_reducible apply bdrewN | with_reducible apply balloc | ((with_reducible refine bset ?_ ?_ _); rotate_left; (first | omega | (simp <;> omega)))))) HE.out, hbs, by repeat (first | with_reducible exact hBs | with_reducible apply bdrew | with_reducible apply bdrewN | with_reducible apply balloc | ((with_reducible refine bset ?_ ?_ _); rotate_left; (first | omega | (simp <;> omega)))), Cls.below (w := w2) (by repeat (first | with_reducible exact Below.refl _ _ | with_reducible apply bdrew | with_reducible apply bdrewN | with_reducible apply balloc | ((with_reducible refine bset ?_ ?_ _); rotate_left; (first | omega | (simp <;> omega))))) hCs⟩
              case measure => simp [intOf]; omega
            · have HJ := Lib.hid (decide_eq_false hjs)
              have HE := Lib.hid (fun h : (k : Int) ∈ st ∧ (j : Int) ∈ st => hjs h.2)
              clear hks hjs
              obtain ⟨b, hb, hbl, hgc, hcv, hfv⟩ := hTs.at_ (p := k) (q := j) (by omega) hjl
              have hbp : b < w2.heap.size + 1 := by omega
              have hbq : b < w2.heap.size + 1 + 1 := by omega
              have hbg : b ≠ w.heap.size := by have := hbs.out b (List.mem_of_getElem? hb.out); omega
              have hbw : w.heap.size ≤ b := by have := hbs.out b (List.mem_of_getElem? hb.out); omega
              have hbg2 : b ≠ w.heap.size + 1 := by have := hbs.out b (List.mem_of_getElem? hb.out); omega
              have hbg3 : ¬ b = w.heap.size := hbg
              have hbg4 : ¬ w.heap.size = b := fun e => hbg e.symm
              go_wp2_with fail
              refine (scont1 _ _ _ _ st k _ true (hS.below (by repeat (first | with_reducible exact hBs | with_reducible apply bdrew | with_reducible apply bdrewN | with_reducible apply balloc | ((with_reducible refine bset ?_ ?_ _); rotate_left; (first | omega | (simp <;> omega)))))) (ints_one (by simp [go_sem])) hlst (SetP.pairwise HST.out) HK.out).mono ?_
              rintro e w9 ⟨rfl, rfl⟩
              go_wp2_with fail
              refine (scont1 _ _ _ _ st j _ false (hS.below (by repeat (first | with_reducible exact hBs | with_reducible apply bdrew | with_reducible apply bdrewN | with_reducible apply balloc | ((with_reducible refine bset ?_ ?_ _); rotate_left; (first | omega | (simp <;> omega)))))) (ints_one (by simp [go_sem])) hlst (SetP.pairwise HST.out) HJ.out).mono ?_
              rintro e w9 ⟨rfl, rfl⟩
              go_wp2
              go_roundw
              case rel => exact ⟨j + 1, bs, by omega, by go_num, TblTo.congr ((TblTo.store (q := j) hTs hb.out 1000000000).below (by repeat (first | with_reducible exact Below.refl _ _ | with_reducible apply bdrew | with_reducible apply bdrewN | with_reducible apply balloc | ((with_reducible refine bset ?_ ?_ _); rotate_left; (first | omega | (simp <;> omega)))))) (initTo_no HE.out), hbs, by repeat (first | with_reducible exact hBs | with_reducible apply bdrew | with_reducible apply bdrewN | with_reducible apply balloc | ((with_reducible refine bset ?_ ?_ _); rotate_left; (first | omega | (simp <;> omega)))), by simp [Cls, go_sem, Fs, ys, ysp, ysq, hbg3, hbg4]⟩
              case measure => simp [intOf]; omega
          · have HK := Lib.hid (decide_eq_false hks)
            have HE := Lib.hid (fun h : (k : Int) ∈ st ∧ (j : Int) ∈ st => hks h.1)
            clear hks
            obtain ⟨b, hb, hbl, hgc, hcv, hfv⟩ := hTs.at_ (p := k) (q := j) (by omega) hjl
            have hbp : b < w2.heap.size + 1 := by omega
            have hbq : b < w2.heap.size + 1 + 1 := by omega
            have hbg : b ≠ w.heap.size := by have := hbs.out b (List.mem_of_getElem? hb.out); omega
            have hbw : w.heap.size ≤ b := by have := hbs.out b (List.mem_of_getElem? hb.out); omega
            have hbg2 : b ≠ w.heap.size + 1 := by have := hbs.out b (List.mem_of_getElem? hb.out); omega
            have hbg3 : ¬ b = w.heap.size := hbg
            have hbg4 : ¬ w.heap.size = b := fun e => hbg e.symm
            go_wp2_with fail
            refine (scont1 _ _ _ _ st k _ false (hS.below (by repeat (first | with_reducible exact hBs | with_reducible apply bdrew | with_reducible apply bdrewN | with_reducible apply balloc | ((with_reducible refine bset ?_ ?_ _); rotate_left; (first | omega | (simp <;> omega)))))) (ints_one (by simp [go_sem])) hlst (SetP.pairwise HST.out) HK.out).mono ?_
            rintro e w9 ⟨rfl, rfl⟩
            go_wp2
            go_roundw
            case rel => exact ⟨j + 1, bs, by omega, by go_num, TblTo.congr ((TblTo.store (q := j) hTs hb.out 1000000000).below (by repeat (first | with_reducible exact Below.refl _ _ | with_reducible apply bdrew | with_reducible apply bdrewN | with_reducible apply balloc | ((with_reducible refine bset ?_ ?_ _); rotate_left; (first | omega | (simp <;> omega)))))) (initTo_no HE.out), hbs, by repeat (first | with_reducible exact hBs | with_reducible apply bdrew | with_reducible apply bdrewN | with_reducible apply balloc | ((with_reducible refine bset ?_ ?_ _); rotate_left; (first | omega | (simp <;> omega)))), by simp [Cls, go_sem, Fs, ys, ysp, ysq, hbg3, hbg4]⟩
            case measure => simp [intOf]; omega
        · obtain rfl : j = n := by omega
          go_wp2
          go_roundw
          case rel => exact ⟨k + 1, bs, by omega, by go_num, TblTo.congr hTs initTo_row, hbs, hBs, hCs⟩
          case measure => simp [intOf]; omega
    · obtain rfl : k = n := by omega
      have hT2 := (TblTo.congr hTr (initTo_all)).full
      have HAB := Lib.hid (initT_ab (n := k) (st := st) (ops := t.ops))
      go_wp2_with fail
      go_loopg [8] (2 * sumT k (initT st) + 1) (fun gk ch wr => ∃ (V : Int → Int → Int) (b : Bool), ch = .bool b ∧ Hid (gk = 2 * sumT k V + b.toNat) ∧ Tbl wr (w.heap.size + 1) bs k V ∧ Below w.heap.size w wr ∧ Cls wr [(w.heap.size, 0, .int .i64 (k : Int)), (w.heap.size, 1, .slice Ai t.init.length ci), (w.heap.size, 2, .slice Ag t.goal.length cg), (w.heap.size, 3, .slice Ao t.ops.length co)] ∧ Hid (PAb k st t.ops V) ∧ Hid (b = false → ∀ o ∈ t.ops, OpClosed k V o))
      case atStart => exact ⟨initT st, true, rfl, Lib.hid rfl, hT2.below (by repeat (first | with_reducible exact Below.refl _ _ | with_reducible apply bdrew | with_reducible apply bdrewN | with_reducible apply balloc | ((with_reducible refine bset ?_ ?_ _); rotate_left; (first | omega | (simp <;> omega))))), by repeat (first | with_reducible exact hBr | with_reducible apply bdrew | with_reducible apply bdrewN | with_reducible apply balloc | ((with_reducible refine bset ?_ ?_ _); rotate_left; (first | omega | (simp <;> omega)))), Cls.below (w := w1) (by repeat (first | with_reducible exact Below.refl _ _ | with_reducible apply bdrew | with_reducible apply bdrewN | with_reducible apply balloc | ((with_reducible refine bset ?_ ?_ _); rotate_left; (first | omega | (simp <;> omega))))) hCr, HAB, Lib.hid (fun h => by cases h)⟩
      case round =>
        obtain ⟨V0, b, rfl, hgk, hTs, hBs, hCs, hV0, hcl⟩ := hrel
        obtain ⟨g3, rfl⟩ : ∃ g : Nat, g = gk := ⟨_, rfl⟩
        obtain ⟨w2, rfl⟩ : ∃ wo : World, wo = wr := ⟨_, rfl⟩
        cases b with
        | false =>
          have HBE := Lib.hid (best_pairs hV0.out (hcl.out rfl))
          go_wp2
          go_ret
          exact ⟨_, rfl, by omega, bs, fun b hb => (by have := hbs.out b hb; omega), V0, hTs, HBE.out, hBs⟩
        | true =>
          have dss := hBs.size
          have Fs := hCs
          simp only [Cls, and_true] at Fs
          have ys : w.heap.size < w2.heap.size := hCs.blk (b := w.heap.size) (k := 0) (v := .int .i64 (k : Int)) (by simp)
          have ysp : w.heap.size < w2.heap.size + 1 := (by omega)
          have ysq : w.heap.size < w2.heap.size + 1 + 1 := (by omega)
          have zs : w.heap.size + 1 < w2.heap.size := hTs.lt.1
          have zsp : w.heap.size + 1 < w2.heap.size + 1 := (by omega)
          have zsq : w.heap.size + 1 < w2.heap.size + 1 + 1 := (by omega)
          go_wp2_with fail
          go_loopg [8, 57] (t.ops.length) (fun gk ch i wr => ∃ (V : Int → Int → Int) (b : Bool) (j : Nat), ch = .bool b ∧ i = .int .i64 j ∧ Hid (j + gk = t.ops.length) ∧ Tbl wr (w.heap.size + 1) bs k V ∧ Below w.heap.size w wr ∧ Cls wr [(w.heap.size, 0, .int .i64 (k : Int)), (w.heap.size, 1, .slice Ai t.init.length ci), (w.heap.size, 2, .slice Ag t.goal.length cg), (w.heap.size, 3, .slice Ao t.ops.length co)] ∧ Hid (PAb k st t.ops V) ∧ Hid (b = true → sumT k V < sumT k V0) ∧ Hid (b = false → V = V0 ∧ ∀ o ∈ t.ops.take j, OpClosed k V0 o))
          case atStart => exact ⟨V0, false, 0, rfl, rfl, Lib.hid (by omega), hTs.below (by repeat (first | with_reducible exact Below.refl _ _ | with_reducible apply bdrew | with_reducible apply bdrewN | with_reducible apply balloc | ((with_reducible refine bset ?_ ?_ _); rotate_left; (first | omega | (simp <;> omega))))), by repeat (first | with_reducible exact hBs | with_reducible apply bdrew | with_reducible apply bdrewN | with_reducible apply balloc | ((with_reducible refine bset ?_ ?_ _); rotate_left; (first | omega | (simp <;> omega)))), Cls.below (w := w2) (by repeat (first | with_reducible exact Below.refl _ _ | with_reducible apply bdrew | with_reducible apply bdrewN | with_reducible apply balloc | ((with_reducible refine bset ?_ ?_ _); rotate_left; (first | omega | (simp <;> omega))))) hCs, hV0, Lib.hid (fun h => by cases h), Lib.hid (fun _ => ⟨rfl, by simp⟩)⟩
          case round =>
            obtain ⟨V1, b1, j, rfl, rfl, hj, hTt, hBt, hCt, hV1, ht1, hf1⟩ := hrel
            obtain ⟨g4, rfl⟩ : ∃ g : Nat, g = gk := ⟨_, rfl⟩
            obtain ⟨w3, rfl⟩ : ∃ wo : World, wo = wr := ⟨_, rfl⟩
            have dst := hBt.size
            have Ft := hCt
            simp only [Cls, and_true] at Ft
            have yt : w.heap.size < w3.heap.size := hCt.blk (b := w.heap.size) (k := 0) (v := .int .i64 (k : Int)) (by simp)
            have ytp : w.heap.size < w3.heap.size + 1 := (by omega)
            have ytq : w.heap.size < w3.heap.size + 1 + 1 := (by omega)
            have zt : w.heap.size + 1 < w3.heap.size := hTt.lt.1
            have ztp : w.heap.size + 1 < w3.heap.size + 1 := (by omega)
            have ztq : w.heap.size + 1 < w3.heap.size + 1 + 1 := (by omega)
            by_cases hjl : j < t.ops.length
            · obtain ⟨ad, o, A0, c0, A1, c1, A2, c2, rfl, ho, hc0, hc1, hc2, hc3, hm, hnp⟩ := hR.at3 hBt hjl
              have HOV := Lib.hid (show SetP o.pre (k : Int) ∧ SetP o.add (k : Int) ∧ SetP o.del (k : Int) by have := (HV.out.ops o (List.mem_of_getElem? ho.out)).1; rw [HN.out] at this; exact ⟨this.1, this.2.1, this.2.2.1⟩)
              have hj1 := Lib.hid (show j + 1 + (g4 - 1) = t.ops.length ∧ g4 - 1 < g4 by have := hj.out; omega)
              have hbw : ∀ b ∈ bs, w.heap.size ≤ b := fun b hb => by have := hbs.out b hb; omega
              have HNE : Hid (∀ x ∈ ([(w.heap.size, 0, .int .i64 (k : Int)), (w.heap.size, 1, .slice Ai t.init.length ci), (w.heap.size, 2, .slice Ag t.goal.length cg), (w.heap.size, 3, .slice (some ad) t.ops.length co)] : List (Nat × Nat × Value)), x.1 ∉ bs) := Lib.hid (fun x hx hm => by
                have h1 := hbs.out _ hm
                have h2 : x.1 = w.heap.size := by
                  simp only [List.mem_cons, List.not_mem_nil, or_false] at hx
                  rcases hx with rfl | rfl | rfl | rfl <;> rfl
                omega)
              have HMO := Lib.hid (List.mem_of_getElem? ho.out)
              go_wp2_with fail
              refine (use_any w _ (by repeat (first | with_reducible exact hBt | with_reducible apply bdrew | with_reducible apply bdrewN | with_reducible apply balloc | ((with_reducible refine bset ?_ ?_ _); rotate_left; (first | omega | (simp <;> omega))))) o A0 A1 A2 c0 c1 c2 hm hnp.out _ k bs V1 (hTt.below (by repeat (first | with_reducible exact Below.refl _ _ | with_reducible apply bdrew | with_reducible apply bdrewN | with_reducible apply balloc | ((with_reducible refine bset ?_ ?_ _); rotate_left; (first | omega | (simp <;> omega)))))) hbw (by omega) st t.ops HOPS.out HMO.out HOV.out.1 HOV.out.2.1 HOV.out.2.2 hV1.out).mono ?_
              rintro e w4 ⟨b2, V2, rfl, hT4, hW4, hU4⟩
              have hB4 : Below w.heap.size w w4 := Below.trans (a := w) (by repeat (first | with_reducible exact hBt | with_reducible apply bdrew | with_reducible apply bdrewN | with_reducible apply balloc | ((with_reducible refine bset ?_ ?_ _); rotate_left; (first | omega | (simp <;> omega))))) (hW4.below (by first | omega | (simp <;> omega)) hbw)
              have hC4 := Cls.wr2 hW4 (l := [(w.heap.size, 0, .int .i64 (k : Int)), (w.heap.size, 1, .slice Ai t.init.length ci), (w.heap.size, 2, .slice Ag t.goal.length cg), (w.heap.size, 3, .slice (some ad) t.ops.length co)]) (Cls.below (w := w3) (by repeat (first | with_reducible exact Below.refl _ _ | with_reducible apply bdrew | with_reducible apply bdrewN | with_reducible apply balloc | ((with_reducible refine bset ?_ ?_ _); rotate_left; (first | omega | (simp <;> omega))))) hCt) HNE.out
              have HU4 := Lib.hid hU4
              have HNX := Lib.hid (use_next ho.out ht1.out hf1.out hU4)
              clear hU4 hW4
              cases b2
              all_goals
                go_wp2
                go_roundg (g4 - 1)
                case measure => exact hj1.out.2
                case rel => exact ⟨V2, _, j + 1, rfl, by go_num, Lib.hid hj1.out.1, hT4.below (by repeat (first | with_reducible exact Below.refl _ _ | with_reducible apply bdrew | with_reducible apply bdrewN | with_reducible apply balloc | ((with_reducible refine bset ?_ ?_ _); rotate_left; (first | omega | (simp <;> omega))))), by repeat (first | with_reducible exact hB4 | with_reducible apply bdrew | with_reducible apply bdrewN | with_reducible apply balloc | ((with_reducible refine bset ?_ ?_ _); rotate_left; (first | omega | (simp <;> omega)))), Cls.below (w := w4) (by repeat (first | with_reducible exact Below.refl _ _ | with_reducible apply bdrew | with_reducible apply bdrewN | with_reducible apply balloc | ((with_reducible refine bset ?_ ?_ _); rotate_left; (first | omega | (simp <;> omega))))) hC4, Lib.hid HU4.out.ab, Lib.hid (fun h => HNX.out.1 h), Lib.hid (fun h => HNX.out.2 h)⟩
            · have hkk := Lib.hid (show j = t.ops.length by have := hj.out; omega)
              go_wp2
              go_roundg (2 * sumT k V1 + b1.toNat)
              case measure =>
                rw [hgk.out]
                cases b1 with
                | true => have := ht1.out rfl; simp; omega
                | false => rw [(hf1.out rfl).1]; simp
              case rel => exact ⟨V1, b1, rfl, Lib.hid rfl, hTt, hBt, hCt, hV1, Lib.hid (fun h o ho => by
                obtain ⟨h1, h2⟩ := hf1.out h
                rw [h1]
                exact h2 o (by rw [hkk.out, List.take_length]; exact ho))⟩


end Go.Proofs.Ytiaokmofoaeifaa
