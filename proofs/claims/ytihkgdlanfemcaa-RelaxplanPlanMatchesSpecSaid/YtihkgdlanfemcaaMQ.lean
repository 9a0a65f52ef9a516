/-
  pairs: find: what it returns.
  pairs.Values, Goal, Exclusive: what they return.
-/
import Derived.Test.YtihkgdlanfemcaaMP
import Derived.Test.YtihkgdlanfemcaaME
namespace Go.Proofs.Ytihkgdlanfemcaa
open Go.RowKit
set_option linter.unusedVariables false
set_option linter.unusedSimpArgs false

/-- .. of which only the first k rows are made. -/
structure TblTo (w : World) (g : Nat) (bs : List Nat) (n k : Nat) (V : Int → Int → Int) : Prop where
  arr : Arr w g 22 ((bs.map fun b => Value.slice (some ⟨b, 0, none⟩) n n) ++ List.replicate (n - k) (Value.slice none 0 0))
  len : bs.length = k
  rows : ∀ (p b : Nat), bs[p]? = some b → IArr w b (rowV n (V (p : Int)))
  diff : ∀ b ∈ bs, b ≠ g
  nodup : bs.Nodup
section
variable {w w' : World} {g n k : Nat} {bs : List Nat} {V : Int → Int → Int}
theorem TblTo.lt (h : TblTo w g bs n k V) : g < w.heap.size ∧ ∀ b ∈ bs, b < w.heap.size := ⟨h.arr.lt, fun b hb => by
  obtain ⟨i, hi, rfl⟩ := List.getElem_of_mem hb
  exact Arr.lt (h.rows i _ (List.getElem?_eq_getElem hi))⟩
theorem TblTo.below (h : TblTo w g bs n k V) (hb : Below w.heap.size w w') : TblTo w' g bs n k V :=
  ⟨(hb.block g h.lt.1).trans h.arr, h.len, fun p b hp => (hb.block b (h.lt.2 b (List.mem_of_getElem? hp))).trans (h.rows p b hp), h.diff, h.nodup⟩
theorem TblTo.at_ (h : TblTo w g bs n k V) {p q : Nat} (hp : p < k) (hq : q < n) :
    ∃ b, Hid (bs[p]? = some b) ∧ b < w.heap.size ∧ w.cell? ⟨g, p, none⟩ = some (.slice (some ⟨b, 0, none⟩) n n) ∧ w.cell? ⟨b, q, none⟩ = some (.int .i64 (V p q)) ∧ w.frozen? ⟨b, q, none⟩ = false := by
  have hpl : p < bs.length := by rw [h.len]; omega
  refine ⟨bs[p], Lib.hid (List.getElem?_eq_getElem hpl), h.lt.2 _ (List.getElem_mem hpl), ?_, ?_, Arr.free (h.rows _ _ (List.getElem?_eq_getElem hpl)) _⟩
  · rw [h.arr.cell, List.getElem?_append_left (by simpa using hpl)]; simp [hpl]
  · have hr := h.rows _ _ (List.getElem?_eq_getElem hpl)
    rw [Arr.cell hr, List.getElem?_map, rowV_get hq]; rfl
theorem TblTo.row_at (h : TblTo w g bs n k V) {p : Nat} (hp : p < k) : ∃ b, Hid (bs[p]? = some b) ∧ w.cell? ⟨g, p, none⟩ = some (.slice (some ⟨b, 0, none⟩) n n) := by
  have hpl : p < bs.length := by rw [h.len]; omega
  refine ⟨bs[p], Lib.hid (List.getElem?_eq_getElem hpl), ?_⟩
  rw [h.arr.cell, List.getElem?_append_left (by simpa using hpl)]; simp [hpl]
theorem TblTo.next (h : TblTo w g bs n k V) (hk : k < n) : w.cell? ⟨g, k, none⟩ = some (.slice none 0 0) ∧ w.frozen? ⟨g, k, none⟩ = false := by
  refine ⟨?_, Arr.free h.arr _⟩
  rw [h.arr.cell, List.getElem?_append_right (by simp [h.len]), List.length_map, h.len, Nat.sub_self, List.getElem?_replicate, if_pos (by omega)]
theorem TblTo.store (h : TblTo w g bs n k V) {p q b : Nat} (hb : bs[p]? = some b) (x : Int) : TblTo (w.setCell ⟨b, q, none⟩ (.int .i64 x)) g bs n k (put1 V p q x) := by
  have hm := List.mem_of_getElem? hb
  refine ⟨h.arr.far (h.diff b hm) _, h.len, fun i c hc => ?_, h.diff, h.nodup⟩
  by_cases e : i = p
  · subst e
    rw [hb] at hc
    injection hc with hc
    subst hc
    have h1 := (h.rows _ _ hb).set_ q x
    rw [rowV_set] at h1
    exact h1
  · have hne : b ≠ c := fun hh => by
      subst hh
      obtain ⟨h1, h2⟩ := List.getElem?_eq_some_iff.1 hb
      obtain ⟨h3, h4⟩ := List.getElem?_eq_some_iff.1 hc
      exact e ((List.getElem_inj h.nodup).1 (h4.trans h2.symm))
    rw [rowV_far e]
    exact (h.rows i c hc).far (p := ⟨b, q, none⟩) hne (.int .i64 x)
theorem TblTo.congr {U : Int → Int → Int} (h : TblTo w g bs n k V) (he : ∀ p q : Nat, p < k → q < n → V p q = U p q) : TblTo w g bs n k U :=
  ⟨h.arr, h.len, fun p b hp => by
    have := (List.getElem?_eq_some_iff.1 hp).1
    have h1 := h.rows p b hp
    rw [rowV_ext (fun q hq => he p q (by rw [← h.len]; exact this) hq)] at h1
    exact h1, h.diff, h.nodup⟩
theorem TblTo.add (h : TblTo w g bs n k V) (hk : k < n) (hz : ∀ q : Nat, q < n → V k q = 0) : TblTo ((w.setCell ⟨g, k, none⟩ (.slice (some ⟨w.heap.size, 0, none⟩) n n)).alloc (.cells (Array.replicate n (.int .i64 0)) 3)) g (bs ++ [w.heap.size]) n (k + 1) V := by
  have hg := h.lt.1
  have hbl := h.lt.2
  refine ⟨?_, by simp [h.len], fun p b hp => ?_, fun b hb => ?_, ?_⟩
  · have h1 := (h.arr.set_ k (.slice (some ⟨w.heap.size, 0, none⟩) n n)).alloc (.cells (Array.replicate n (.int .i64 0)) 3)
    have e : ((bs.map fun b => Value.slice (some ⟨b, 0, none⟩) n n) ++ List.replicate (n - k) (Value.slice none 0 0)).set k (.slice (some ⟨w.heap.size, 0, none⟩) n n) = ((bs ++ [w.heap.size]).map fun b => Value.slice (some ⟨b, 0, none⟩) n n) ++ List.replicate (n - (k + 1)) (Value.slice none 0 0) := by
      have hl : (bs.map fun b => Value.slice (some ⟨b, 0, none⟩) n n).length = k := by simp [h.len]
      rw [List.set_append_right _ _ (by omega), hl, Nat.sub_self]
      have e2 : n - k = (n - (k + 1)) + 1 := by omega
      rw [e2, List.replicate_succ]
      simp
    rw [e] at h1
    exact h1
  · rcases Nat.lt_or_ge p bs.length with hl | hl
    · rw [List.getElem?_append_left hl] at hp
      have h1 := (h.rows p b hp).far (p := ⟨g, k, none⟩) (fun e => h.diff b (List.mem_of_getElem? hp) e.symm) (.slice (some ⟨w.heap.size, 0, none⟩) n n)
      exact h1.below ((Below.refl _ _).alloc (Nat.le_refl _) _)
    · rw [List.getElem?_append_right hl] at hp
      have hp0 : p = bs.length := by
        have := (List.getElem?_eq_some_iff.1 hp).1
        simp at this; omega
      subst hp0
      simp at hp
      subst hp
      have h1 := IArr.made (w.setCell ⟨g, k, none⟩ (.slice (some ⟨w.heap.size, 0, none⟩) n n)) n w.heap.size (by simp)
      have e : rowV n (V ((bs.length : Nat) : Int)) = List.replicate n 0 := by
        apply List.ext_getElem?
        intro i
        by_cases hi : i < n
        · rw [rowV_get hi, h.len, hz i hi]; simp [hi]
        · rw [List.getElem?_eq_none (by rw [rowV_len]; omega), List.getElem?_eq_none (by simp; omega)]
      rw [e]
      exact h1
  · rcases List.mem_append.1 hb with h1 | h1
    · exact h.diff b h1
    · rw [List.mem_singleton.1 h1]; omega
  · rw [List.nodup_append]
    refine ⟨h.nodup, by simp, fun a ha b hb => ?_⟩
    rw [List.mem_singleton.1 hb]
    have := hbl a ha
    omega
theorem TblTo.full (h : TblTo w g bs n n V) : Tbl w g bs n V := ⟨by have := h.arr; simpa using this, h.len, h.rows, h.diff, h.nodup⟩
theorem TblTo.start (w : World) (n k : Nat) (V : Int → Int → Int) (hk : k = w.heap.size) : TblTo (w.alloc (.cells (Array.replicate n (Value.slice none 0 0)) 22)) k [] n 0 V := by
  subst hk
  refine ⟨?_, rfl, fun p b h => by simp at h, fun b h => (List.not_mem_nil h).elim, List.nodup_nil⟩
  have h := Arr.new w 22 (List.replicate n (Value.slice none 0 0))
  rw [List.toArray_replicate] at h
  simpa using h
end
theorem make_tab (n : Nat) (hn : n ≤ 1000000) (w : World) :
    (Instr.makeSlice 87 (.int .i64 (n : Int)) (.int .i64 (n : Int))).run Try.prog w = .ok (.slice (some ⟨w.heap.size, 0, none⟩) n n) (w.alloc (.cells (List.replicate n (Value.slice none 0 0)).toArray 22)) := by
  rw [← madeCells_one]
  exact run_make_row' 87 22 (.slice none 0 0) 24 Try.underlying87 info_list rfl .i64 .i64 n (by omega) (by omega) w
/-- The values at the start. -/
def initT (st : List Int) (p q : Int) : Int := if p ∈ st ∧ q ∈ st then 0 else 1000000000
/-- .. while they are laid. -/
def initTo (st : List Int) (k j : Nat) (p q : Int) : Int := if p < k ∨ (p = k ∧ q < j) then initT st p q else 0
theorem initTo_row {st : List Int} {k n : Nat} : ∀ p q : Nat, p < k + 1 → q < n → initTo st k n p q = initTo st (k + 1) 0 p q := fun p q hp hq => by
  unfold initTo
  rw [if_pos (by omega), if_pos (by omega)]
theorem initTo_zero {st : List Int} {k : Nat} : ∀ q : Nat, initTo st k 0 k q = 0 := fun q => by
  unfold initTo
  rw [if_neg (by omega)]
theorem initTo_yes {st : List Int} {k j n : Nat} (hk : (k : Int) ∈ st) (hj : (j : Int) ∈ st) : ∀ p q : Nat, p < k + 1 → q < n → initTo st k j p q = initTo st k (j + 1) p q := fun p q hp hq => by
  unfold initTo
  by_cases e : (p : Int) < k ∨ ((p : Int) = k ∧ (q : Int) < j)
  · rw [if_pos e, if_pos (by omega)]
  · rw [if_neg e]
    by_cases e2 : p = k ∧ q = j
    · obtain ⟨rfl, rfl⟩ := e2
      rw [if_pos (by omega)]
      unfold initT
      rw [if_pos ⟨hk, hj⟩]
    · rw [if_neg (by omega)]
theorem initTo_no {st : List Int} {k j n : Nat} (h : ¬ ((k : Int) ∈ st ∧ (j : Int) ∈ st)) : ∀ p q : Nat, p < k + 1 → q < n → put1 (initTo st k j) k j 1000000000 p q = initTo st k (j + 1) p q := fun p q hp hq => by
  unfold put1
  by_cases e2 : p = k ∧ q = j
  · obtain ⟨rfl, rfl⟩ := e2
    rw [if_pos ⟨rfl, rfl⟩]
    unfold initTo
    rw [if_pos (by omega)]
    unfold initT
    rw [if_neg h]
  · rw [if_neg (by omega)]
    unfold initTo
    by_cases e : (p : Int) < k ∨ ((p : Int) = k ∧ (q : Int) < j)
    · rw [if_pos e, if_pos (by omega)]
    · rw [if_neg e, if_neg (by omega)]
theorem initTo_all {st : List Int} {k n : Nat} : ∀ p q : Nat, p < k → q < n → initTo st k 0 p q = initT st p q := fun p q hp hq => by
  unfold initTo
  rw [if_pos (by omega)]
theorem initT_ab {n : Nat} {st : List Int} {ops : List OpV} : PAb n st ops (initT st) := by
  refine ⟨fun p q _ _ => ?_, fun p hp q hq => ?_, fun p q _ _ => ?_, fun U hU p q hp hq => ?_⟩
  · unfold initT InV; split <;> omega
  · unfold initT; rw [if_pos ⟨hp, hq⟩]
  · unfold initT
    by_cases e : p ∈ st ∧ q ∈ st
    · rw [if_pos e, if_pos e.symm]
    · rw [if_neg e, if_neg (fun h => e h.symm)]
  · unfold initT
    by_cases e : p ∈ st ∧ q ∈ st
    · rw [if_pos e, hU.zero p e.1 q e.2]; omega
    · rw [if_neg e]; exact (hU.all p q hp hq).2
theorem OpsRead.at3 {w w' : World} {A : Option Addr} {ops : List OpV} {k : Nat} (h : OpsRead w A ops) (hb : Below w.heap.size w w') (hk : k < ops.length) : ∃ ad o A0 c0 A1 c1 A2 c2, A = some ad ∧ Hid (ops[k]? = some o) ∧ w'.cell? (ad.add (k * 4)) = some (.slice A0 o.pre.length c0) ∧ w'.cell? ⟨(ad.add (k * 4)).block, (ad.add (k * 4)).off + 1, none⟩ = some (.slice A1 o.add.length c1) ∧
    w'.cell? ⟨(ad.add (k * 4)).block, (ad.add (k * 4)).off + 2, none⟩ = some (.slice A2 o.del.length c2) ∧ w'.cell? ⟨(ad.add (k * 4)).block, (ad.add (k * 4)).off + 3, none⟩ = some (.int .i64 o.cost) ∧ OpMem w A0 A1 A2 o ∧ Hid (NilOk A0 o.pre c0) := by
  obtain ⟨ad, A0, c0, A1, c1, A2, c2, e, h0, h1, h2, h3, hm, hr⟩ := h k _ (List.getElem?_eq_getElem hk)
  exact ⟨ad, ops[k], A0, c0, A1, c1, A2, c2, e, Lib.hid (List.getElem?_eq_getElem hk), (hb.cell (World.block_lt_of_cell? w _ h0)).trans h0, (hb.cell (World.block_lt_of_cell? w _ h1)).trans h1, (hb.cell (World.block_lt_of_cell? w _ h2)).trans h2, (hb.cell (World.block_lt_of_cell? w _ h3)).trans h3, hm, Lib.hid hr.1⟩
theorem Cls.wr2 {bs : List Nat} {w w' : World} {l : List (Nat × Nat × Value)} (hW : Wr bs w w') (hC : Cls w l) (hl : ∀ x ∈ l, x.1 ∉ bs) : Cls w' l := by
  induction l with
  | nil => trivial
  | cons x r ih =>
    obtain ⟨b, k, v⟩ := x
    obtain ⟨⟨h1, h2⟩, h3⟩ := hC
    have hlt := World.block_lt_of_cell? w ⟨b, k, none⟩ h1
    have hne : w'.heap[b]? = w.heap[b]? := hW.block b hlt (hl (b, k, v) (by simp))
    exact ⟨⟨(World.cell?_of_block (w := w) hne).trans h1, (World.frozen?_of_block (w := w) hne).trans h2⟩, ih h3 (fun x hx => hl x (by simp [hx]))⟩
theorem opsIn_of {n : Nat} {t : TaskV} (hv : Valid t) (hn : t.facts = n) : OpsIn n t.ops := fun o ho => by
  have h := hv.ops o ho
  rw [hn] at h
  exact ⟨fun p hp => h.1.1.1 p hp, fun p hp => h.1.2.1.1 p hp, h.2⟩
/-- A pass over the operators. -/
theorem use_next {n : Nat} {st : List Int} {ops : List OpV} {V0 V1 V2 : Int → Int → Int} {b1 b2 : Bool} {k : Nat} {o : OpV} (ho : ops[k]? = some o) (h1 : b1 = true → sumT n V1 < sumT n V0) (h2 : b1 = false → V1 = V0 ∧ ∀ x ∈ ops.take k, OpClosed n V0 x) (hU : Use n st ops V1 V2 b2 (OpClosed n V1 o)) :
    ((b2 || b1) = true → sumT n V2 < sumT n V0) ∧ ((b2 || b1) = false → V2 = V0 ∧ ∀ x ∈ ops.take (k + 1), OpClosed n V0 x) := by
  constructor
  · intro h
    cases b2 with
    | true =>
      have h3 := hU.down rfl
      cases b1 with
      | true => have := h1 rfl; omega
      | false => rw [(h2 rfl).1] at h3; exact h3
    | false =>
      rw [(hU.keep rfl).1]
      exact h1 (by simpa using h)
  · intro h
    simp only [Bool.or_eq_false_iff] at h
    obtain ⟨h3, h4⟩ := hU.keep h.1
    obtain ⟨h5, h6⟩ := h2 h.2
    refine ⟨h3.trans h5, fun x hx => ?_⟩
    rw [List.take_add_one, ho] at hx
    rcases List.mem_append.1 hx with e | e
    · exact h6 x e
    · have : x = o := by simpa using e
      rw [this, ← h5]; exact h4
theorem best_pairs {n : Nat} {st : List Int} {ops : List OpV} {V : Int → Int → Int} (h : PAb n st ops V) (hc : ∀ o ∈ ops, OpClosed n V o) : PBest n st ops V := ⟨⟨h.all, h.zero, fun o ho p q l hp hq ha => hc o ho p q l hp hq ha⟩, h.great⟩
set_option maxRecDepth 100000 in
set_option maxHeartbeats 1000000 in
theorem find_any (w : World) (t : TaskV) (Ai Ag Ao : Option Addr) (ci cg co : Nat) (hR : OpsRead w Ao t.ops) (S : Option Addr) (cs : Nat) (st : List Int) (hS : Ints w S st) (n : Nat) (hn : t.facts = n) (hv : Valid t) (hst : SetP st (n : Int)) :
    Calls Try.prog 59 #[.agg #[.int .i64 t.facts, .slice Ai t.init.length ci, .slice Ag t.goal.length cg, .slice Ao t.ops.length co], .slice S st.length cs] w fun e w' => ∃ g bs V, e = .returned (.slice (some ⟨g, 0, none⟩) n n) ∧ w.heap.size ≤ g ∧ (∀ b ∈ bs, w.heap.size ≤ b) ∧ Tbl w' g bs n V ∧ PBest n st t.ops V ∧ Below w.heap.size w w' := by
  have hn24 : n ≤ 24 := by have := hv.f1; omega
  have hmk := make_tab n (by omega)
  have hmr := make_ints n (by omega)
  have hlst : st.length ≤ 9223372036854775807 := by have := SetP.length hst (by have := hv.f0; omega); omega
  have HST := Lib.hid hst
  have HV := Lib.hid hv
  have HN := Lib.hid hn
  have HOPS := Lib.hid (opsIn_of hv hn)
  have hm40 := hv.nops
  rw [hn]
  clear hst hv hn
  go_enter Try.func59, Try.ntmps59
  go_wp2_with fail
  go_loopw [16] (fun i wr => ∃ (k : Nat) (bs : List Nat), k ≤ n ∧ i = .int .i64 k ∧ TblTo wr (w.heap.size + 1) bs n k (initTo st k 0) ∧ Hid (∀ b ∈ bs, w.heap.size + 1 + 1 ≤ b) ∧ Below w.heap.size w wr ∧ Cls wr [(w.heap.size, 0, .int .i64 (n : Int)), (w.heap.size, 1, .slice Ai t.init.length ci), (w.heap.size, 2, .slice Ag t.goal.length cg), (w.heap.size, 3, .slice Ao t.ops.length co)]) (fun i _ => n - (intOf i).toNat)
  case atStart => exact ⟨0, [], Nat.zero_le _, rfl, TblTo.start _ _ _ _ (by simp), Lib.hid (fun b h => by cases h), by repeat (first | with_reducible exact Below.refl _ _ | with_reducible apply bdrew | with_reducible apply bdrewN | with_reducible apply balloc | ((with_reducible refine bset ?_ ?_ _); rotate_left; (first | omega | (simp <;> omega)))), by simp [Cls, go_sem]⟩
  case round =>
    obtain ⟨k, bs, hk, rfl, hTr, hbs, hBr, hCr⟩ := hrel
    obtain ⟨w1, rfl⟩ : ∃ wo : World, wo = wr := ⟨_, rfl⟩
    have dsr := hBr.size
    have Fr := hCr
    simp only [Cls, and_true] at Fr
    have yr : w.heap.size < w1.heap.size := hCr.blk (b := w.heap.size) (k := 0) (v := .int .i64 (n : Int)) (by simp)
    have yrp : w.heap.size < w1.heap.size + 1 := (by omega)
    have yrq : w.heap.size < w1.heap.size + 1 + 1 := (by omega)
    have zr : w.heap.size + 1 < w1.heap.size := hTr.lt.1
    have zrp : w.heap.size + 1 < w1.heap.size + 1 := (by omega)
    have zrq : w.heap.size + 1 < w1.heap.size + 1 + 1 := (by omega)
    by_cases hlt : k < n
    · obtain ⟨hnx, hnf⟩ := hTr.next hlt
      have HT1 := Lib.hid (hTr.add hlt (fun q _ => initTo_zero q))
      have hbs1 : Hid (∀ b ∈ bs ++ [w1.heap.size], w.heap.size + 1 + 1 ≤ b) := Lib.hid (fun b hb => by
        rcases List.mem_append.1 hb with h | h
        · exact hbs.out b h
        · rw [List.mem_singleton.1 h]; omega)
      go_upto_region 6 with (fail)
      have hrow := (HT1.out.row_at (p := k) (by omega))
      obtain ⟨bk, hbk, hbc⟩ := hrow
      go_wp2_with fail
      go_loopw [30] (fun i wr => ∃ (j : Nat) (bs : List Nat), j ≤ n ∧ i = .int .i64 j ∧ TblTo wr (w.heap.size + 1) bs n (k + 1) (initTo st k j) ∧ Hid (∀ b ∈ bs, w.heap.size + 1 + 1 ≤ b) ∧ Below w.heap.size w wr ∧ Cls wr [(w.heap.size, 0, .int .i64 (n : Int)), (w.heap.size, 1, .slice Ai t.init.length ci), (w.heap.size, 2, .slice Ag t.goal.length cg), (w.heap.size, 3, .slice Ao t.ops.length co)]) (fun i _ => n - (intOf i).toNat)
      case atStart => exact ⟨0, _, Nat.zero_le _, rfl, HT1.out.below (by repeat (first | with_reducible exact Below.refl _ _ | with_reducible apply bdrew | with_reducible apply bdrewN | with_reducible apply balloc | ((with_reducible refine bset ?_ ?_ _); rotate_left; (first | omega | (simp <;> omega))))), hbs1, by repeat (first | with_reducible exact hBr | with_reducible apply bdrew | with_reducible apply bdrewN | with_reducible apply balloc | ((with_reducible refine bset ?_ ?_ _); rotate_left; (first | omega | (simp <;> omega)))), by simp [Cls, go_sem, Fr, yr, yrp, yrq]⟩
      case round =>
        obtain ⟨j, bs, hj, rfl, hTs, hbs, hBs, hCs⟩ := hrel
        obtain ⟨w2, rfl⟩ : ∃ wo : World, wo = wr := ⟨_, rfl⟩
        have dss := hBs.size
        have Fs := hCs
        simp only [Cls, and_true] at Fs
        have ys : w.heap.size < w2.heap.size := hCs.blk (b := w.heap.size) (k := 0) (v := .int .i64 (n : Int)) (by simp)
        have ysp : w.heap.size < w2.heap.size + 1 := (by omega)
        have ysq : w.heap.size < w2.heap.size + 1 + 1 := (by omega)
        have zs : w.heap.size + 1 < w2.heap.size := hTs.lt.1
        have zsp : w.heap.size + 1 < w2.heap.size + 1 := (by omega)
        have zsq : w.heap.size + 1 < w2.heap.size + 1 + 1 := (by omega)
        by_cases hjl : j < n
        · by_cases hks : (k : Int) ∈ st
          · have HK := Lib.hid (decide_eq_true hks)
            by_cases hjs : (j : Int) ∈ st
            · have HJ := Lib.hid (decide_eq_true hjs)
              have HE := Lib.hid (initTo_yes (n := n) hks hjs)
              clear hks hjs
              go_wp2_with fail
              refine (scont1 _ _ _ _ st k _ true (hS.below (by repeat (first | with_reducible exact hBs | with_reducible apply bdrew | with_reducible apply bdrewN | with_reducible apply balloc | ((with_reducible refine bset ?_ ?_ _); rotate_left; (first | omega | (simp <;> omega)))))) (ints_1 (by simp [go_sem])) hlst (SetP.pairwise HST.out) HK.out).mono ?_
              rintro e w9 ⟨rfl, rfl⟩
              go_wp2_with fail
              refine (scont1 _ _ _ _ st j _ true (hS.below (by repeat (first | with_reducible exact hBs | with_reducible apply bdrew | with_reducible apply bdrewN | with_reducible apply balloc | ((with_reducible refine bset ?_ ?_ _); rotate_left; (first | omega | (simp <;> omega)))))) (ints_1 (by simp [go_sem])) hlst (SetP.pairwise HST.out) HJ.out).mono ?_
              rintro e w9 ⟨rfl, rfl⟩
              go_wp2
              go_roundw
              case rel => exact ⟨j + 1, bs, by omega, by go_num, TblTo.congr (hTs.below (by repeat (first | with_reducible exact Below.refl _ _ | with_reducible apply bdrew | with_reducible apply bdrewN | with_reducible apply balloc | ((with_reducible refine bset ?_ ?_ _); rotate_left; (first | omega | (simp <;> omega)))))) HE.out, hbs, by repeat (first | with_reducible exact hBs | with_reducible apply bdrew | with_reducible apply bdrewN | with_reducible apply balloc | ((with_reducible refine bset ?_ ?_ _); rotate_left; (first | omega | (simp <;> omega)))), Cls.below (w := w2) (by repeat (first | with_reducible exact Below.refl _ _ | with_reducible apply bdrew | with_reducible apply bdrewN | with_reducible apply balloc | ((with_reducible refine bset ?_ ?_ _); rotate_left; (first | omega | (simp <;> omega))))) hCs⟩
              case measure => simp [intOf]; omega
            · have HJ := Lib.hid (decide_eq_false hjs)
              have HE := Lib.hid (fun h : (k : Int) ∈ st ∧ (j : Int) ∈ st => hjs h.2)
              clear hks hjs
              obtain ⟨b, hb, hbl, hgc, hcv, hfv⟩ := hTs.at_ (p := k) (q := j) (by omega) hjl
              have hbp : b < w2.heap.size + 1 := by omega
              have hbq : b < w2.heap.size + 1 + 1 := by omega
              have hbg : b ≠ w.heap.size := by have := hbs.out b (List.mem_of_getElem? hb.out); omega
              have hbw : w.heap.size ≤ b := by have := hbs.out b (List.mem_of_getElem? hb.out); omega
              have hbg2 : b ≠ w.heap.size + 1 := by have := hbs.out b (List.mem_of_getElem? hb.out); omega
              have hbg3 : ¬ b = w.heap.size := hbg
              have hbg4 : ¬ w.heap.size = b := fun e => hbg e.symm
              go_wp2_with fail
              refine (scont1 _ _ _ _ st k _ true (hS.below (by repeat (first | with_reducible exact hBs | with_reducible apply bdrew | with_reducible apply bdrewN | with_reducible apply balloc | ((with_reducible refine bset ?_ ?_ _); rotate_left; (first | omega | (simp <;> omega)))))) (ints_1 (by simp [go_sem])) hlst (SetP.pairwise HST.out) HK.out).mono ?_
              rintro e w9 ⟨rfl, rfl⟩
              go_wp2_with fail
              refine (scont1 _ _ _ _ st j _ false (hS.below (by repeat (first | with_reducible exact hBs | with_reducible apply bdrew | with_reducible apply bdrewN | with_reducible apply balloc | ((with_reducible refine bset ?_ ?_ _); rotate_left; (first | omega | (simp <;> omega)))))) (ints_1 (by simp [go_sem])) hlst (SetP.pairwise HST.out) HJ.out).mono ?_
              rintro e w9 ⟨rfl, rfl⟩
              go_wp2
              go_roundw
              case rel => exact ⟨j + 1, bs, by omega, by go_num, TblTo.congr ((TblTo.store (q := j) hTs hb.out 1000000000).below (by repeat (first | with_reducible exact Below.refl _ _ | with_reducible apply bdrew | with_reducible apply bdrewN | with_reducible apply balloc | ((with_reducible refine bset ?_ ?_ _); rotate_left; (first | omega | (simp <;> omega)))))) (initTo_no HE.out), hbs, by repeat (first | with_reducible exact hBs | with_reducible apply bdrew | with_reducible apply bdrewN | with_reducible apply balloc | ((with_reducible refine bset ?_ ?_ _); rotate_left; (first | omega | (simp <;> omega)))), by simp [Cls, go_sem, Fs, ys, ysp, ysq, hbg3, hbg4]⟩
              case measure => simp [intOf]; omega
          · have HK := Lib.hid (decide_eq_false hks)
            have HE := Lib.hid (fun h : (k : Int) ∈ st ∧ (j : Int) ∈ st => hks h.1)
            clear hks
            obtain ⟨b, hb, hbl, hgc, hcv, hfv⟩ := hTs.at_ (p := k) (q := j) (by omega) hjl
            have hbp : b < w2.heap.size + 1 := by omega
            have hbq : b < w2.heap.size + 1 + 1 := by omega
            have hbg : b ≠ w.heap.size := by have := hbs.out b (List.mem_of_getElem? hb.out); omega
            have hbw : w.heap.size ≤ b := by have := hbs.out b (List.mem_of_getElem? hb.out); omega
            have hbg2 : b ≠ w.heap.size + 1 := by have := hbs.out b (List.mem_of_getElem? hb.out); omega
            have hbg3 : ¬ b = w.heap.size := hbg
            have hbg4 : ¬ w.heap.size = b := fun e => hbg e.symm
            go_wp2_with fail
            refine (scont1 _ _ _ _ st k _ false (hS.below (by repeat (first | with_reducible exact hBs | with_reducible apply bdrew | with_reducible apply bdrewN | with_reducible apply balloc | ((with_reducible refine bset ?_ ?_ _); rotate_left; (first | omega | (simp <;> omega)))))) (ints_1 (by simp [go_sem])) hlst (SetP.pairwise HST.out) HK.out).mono ?_
            rintro e w9 ⟨rfl, rfl⟩
            go_wp2
            go_roundw
            case rel => exact ⟨j + 1, bs, by omega, by go_num, TblTo.congr ((TblTo.store (q := j) hTs hb.out 1000000000).below (by repeat (first | with_reducible exact Below.refl _ _ | with_reducible apply bdrew | with_reducible apply bdrewN | with_reducible apply balloc | ((with_reducible refine bset ?_ ?_ _); rotate_left; (first | omega | (simp <;> omega)))))) (initTo_no HE.out), hbs, by repeat (first | with_reducible exact hBs | with_reducible apply bdrew | with_reducible apply bdrewN | with_reducible apply balloc | ((with_reducible refine bset ?_ ?_ _); rotate_left; (first | omega | (simp <;> omega)))), by simp [Cls, go_sem, Fs, ys, ysp, ysq, hbg3, hbg4]⟩
            case measure => simp [intOf]; omega
        · obtain rfl : j = n := by omega
          go_wp2
          go_roundw
          case rel => exact ⟨k + 1, bs, by omega, by go_num, TblTo.congr hTs initTo_row, hbs, hBs, hCs⟩
          case measure => simp [intOf]; omega
    · obtain rfl : k = n := by omega
      have hT2 := (TblTo.congr hTr (initTo_all)).full
      have HAB := Lib.hid (initT_ab (n := k) (st := st) (ops := t.ops))
      go_wp2_with fail
      go_loopg [8] (2 * sumT k (initT st) + 1) (fun gk ch wr => ∃ (V : Int → Int → Int) (b : Bool), ch = .bool b ∧ Hid (gk = 2 * sumT k V + b.toNat) ∧ Tbl wr (w.heap.size + 1) bs k V ∧ Below w.heap.size w wr ∧ Cls wr [(w.heap.size, 0, .int .i64 (k : Int)), (w.heap.size, 1, .slice Ai t.init.length ci), (w.heap.size, 2, .slice Ag t.goal.length cg), (w.heap.size, 3, .slice Ao t.ops.length co)] ∧ Hid (PAb k st t.ops V) ∧ Hid (b = false → ∀ o ∈ t.ops, OpClosed k V o))
      case atStart => exact ⟨initT st, true, rfl, Lib.hid rfl, hT2.below (by repeat (first | with_reducible exact Below.refl _ _ | with_reducible apply bdrew | with_reducible apply bdrewN | with_reducible apply balloc | ((with_reducible refine bset ?_ ?_ _); rotate_left; (first | omega | (simp <;> omega))))), by repeat (first | with_reducible exact hBr | with_reducible apply bdrew | with_reducible apply bdrewN | with_reducible apply balloc | ((with_reducible refine bset ?_ ?_ _); rotate_left; (first | omega | (simp <;> omega)))), Cls.below (w := w1) (by repeat (first | with_reducible exact Below.refl _ _ | with_reducible apply bdrew | with_reducible apply bdrewN | with_reducible apply balloc | ((with_reducible refine bset ?_ ?_ _); rotate_left; (first | omega | (simp <;> omega))))) hCr, HAB, Lib.hid (fun h => by cases h)⟩
      case round =>
        obtain ⟨V0, b, rfl, hgk, hTs, hBs, hCs, hV0, hcl⟩ := hrel
        obtain ⟨g3, rfl⟩ : ∃ g : Nat, g = gk := ⟨_, rfl⟩
        obtain ⟨w2, rfl⟩ : ∃ wo : World, wo = wr := ⟨_, rfl⟩
        cases b with
        | false =>
          have HBE := Lib.hid (best_pairs hV0.out (hcl.out rfl))
          go_wp2
          go_ret
          exact ⟨_, rfl, by omega, bs, fun b hb => (by have := hbs.out b hb; omega), V0, hTs, HBE.out, hBs⟩
        | true =>
          have dss := hBs.size
          have Fs := hCs
          simp only [Cls, and_true] at Fs
          have ys : w.heap.size < w2.heap.size := hCs.blk (b := w.heap.size) (k := 0) (v := .int .i64 (k : Int)) (by simp)
          have ysp : w.heap.size < w2.heap.size + 1 := (by omega)
          have ysq : w.heap.size < w2.heap.size + 1 + 1 := (by omega)
          have zs : w.heap.size + 1 < w2.heap.size := hTs.lt.1
          have zsp : w.heap.size + 1 < w2.heap.size + 1 := (by omega)
          have zsq : w.heap.size + 1 < w2.heap.size + 1 + 1 := (by omega)
          go_wp2_with fail
          go_loopg [8, 57] (t.ops.length) (fun gk ch i wr => ∃ (V : Int → Int → Int) (b : Bool) (j : Nat), ch = .bool b ∧ i = .int .i64 j ∧ Hid (j + gk = t.ops.length) ∧ Tbl wr (w.heap.size + 1) bs k V ∧ Below w.heap.size w wr ∧ Cls wr [(w.heap.size, 0, .int .i64 (k : Int)), (w.heap.size, 1, .slice Ai t.init.length ci), (w.heap.size, 2, .slice Ag t.goal.length cg), (w.heap.size, 3, .slice Ao t.ops.length co)] ∧ Hid (PAb k st t.ops V) ∧ Hid (b = true → sumT k V < sumT k V0) ∧ Hid (b = false → V = V0 ∧ ∀ o ∈ t.ops.take j, OpClosed k V0 o))
          case atStart => exact ⟨V0, false, 0, rfl, rfl, Lib.hid (by omega), hTs.below (by repeat (first | with_reducible exact Below.refl _ _ | with_reducible apply bdrew | with_reducible apply bdrewN | with_reducible apply balloc | ((with_reducible refine bset ?_ ?_ _); rotate_left; (first | omega | (simp <;> omega))))), by repeat (first | with_reducible exact hBs | with_reducible apply bdrew | with_reducible apply bdrewN | with_reducible apply balloc | ((with_reducible refine bset ?_ ?_ _); rotate_left; (first | omega | (simp <;> omega)))), Cls.below (w := w2) (by repeat (first | with_reducible exact Below.refl _ _ | with_reducible apply bdrew | with_reducible apply bdrewN | with_reducible apply balloc | ((with_reducible refine bset ?_ ?_ _); rotate_left; (first | omega | (simp <;> omega))))) hCs, hV0, Lib.hid (fun h => by cases h), Lib.hid (fun _ => ⟨rfl, by simp⟩)⟩
          case round =>
            obtain ⟨V1, b1, j, rfl, rfl, hj, hTt, hBt, hCt, hV1, ht1, hf1⟩ := hrel
            obtain ⟨g4, rfl⟩ : ∃ g : Nat, g = gk := ⟨_, rfl⟩
            obtain ⟨w3, rfl⟩ : ∃ wo : World, wo = wr := ⟨_, rfl⟩
            have dst := hBt.size
            have Ft := hCt
            simp only [Cls, and_true] at Ft
            have yt : w.heap.size < w3.heap.size := hCt.blk (b := w.heap.size) (k := 0) (v := .int .i64 (k : Int)) (by simp)
            have ytp : w.heap.size < w3.heap.size + 1 := (by omega)
            have ytq : w.heap.size < w3.heap.size + 1 + 1 := (by omega)
            have zt : w.heap.size + 1 < w3.heap.size := hTt.lt.1
            have ztp : w.heap.size + 1 < w3.heap.size + 1 := (by omega)
            have ztq : w.heap.size + 1 < w3.heap.size + 1 + 1 := (by omega)
            by_cases hjl : j < t.ops.length
            · obtain ⟨ad, o, A0, c0, A1, c1, A2, c2, rfl, ho, hc0, hc1, hc2, hc3, hm, hnp⟩ := hR.at3 hBt hjl
              have HOV := Lib.hid (show SetP o.pre (k : Int) ∧ SetP o.add (k : Int) ∧ SetP o.del (k : Int) by have := (HV.out.ops o (List.mem_of_getElem? ho.out)).1; rw [HN.out] at this; exact ⟨this.1, this.2.1, this.2.2.1⟩)
              have hj1 := Lib.hid (show j + 1 + (g4 - 1) = t.ops.length ∧ g4 - 1 < g4 by have := hj.out; omega)
              have hbw : ∀ b ∈ bs, w.heap.size ≤ b := fun b hb => by have := hbs.out b hb; omega
              have HNE : Hid (∀ x ∈ ([(w.heap.size, 0, .int .i64 (k : Int)), (w.heap.size, 1, .slice Ai t.init.length ci), (w.heap.size, 2, .slice Ag t.goal.length cg), (w.heap.size, 3, .slice (some ad) t.ops.length co)] : List (Nat × Nat × Value)), x.1 ∉ bs) := Lib.hid (fun x hx hm => by
                have h1 := hbs.out _ hm
                have h2 : x.1 = w.heap.size := by
                  simp only [List.mem_cons, List.not_mem_nil, or_false] at hx
                  rcases hx with rfl | rfl | rfl | rfl <;> rfl
                omega)
              have HMO := Lib.hid (List.mem_of_getElem? ho.out)
              go_wp2_with fail
              refine (use_any w _ (by repeat (first | with_reducible exact hBt | with_reducible apply bdrew | with_reducible apply bdrewN | with_reducible apply balloc | ((with_reducible refine bset ?_ ?_ _); rotate_left; (first | omega | (simp <;> omega))))) o A0 A1 A2 c0 c1 c2 hm hnp.out _ k bs V1 (hTt.below (by repeat (first | with_reducible exact Below.refl _ _ | with_reducible apply bdrew | with_reducible apply bdrewN | with_reducible apply balloc | ((with_reducible refine bset ?_ ?_ _); rotate_left; (first | omega | (simp <;> omega)))))) hbw (by omega) st t.ops HOPS.out HMO.out HOV.out.1 HOV.out.2.1 HOV.out.2.2 hV1.out).mono ?_
              rintro e w4 ⟨b2, V2, rfl, hT4, hW4, hU4⟩
              have hB4 : Below w.heap.size w w4 := Below.trans (a := w) (by repeat (first | with_reducible exact hBt | with_reducible apply bdrew | with_reducible apply bdrewN | with_reducible apply balloc | ((with_reducible refine bset ?_ ?_ _); rotate_left; (first | omega | (simp <;> omega))))) (hW4.below (by first | omega | (simp <;> omega)) hbw)
              have hC4 := Cls.wr2 hW4 (l := [(w.heap.size, 0, .int .i64 (k : Int)), (w.heap.size, 1, .slice Ai t.init.length ci), (w.heap.size, 2, .slice Ag t.goal.length cg), (w.heap.size, 3, .slice (some ad) t.ops.length co)]) (Cls.below (w := w3) (by repeat (first | with_reducible exact Below.refl _ _ | with_reducible apply bdrew | with_reducible apply bdrewN | with_reducible apply balloc | ((with_reducible refine bset ?_ ?_ _); rotate_left; (first | omega | (simp <;> omega))))) hCt) HNE.out
              have HU4 := Lib.hid hU4
              have HNX := Lib.hid (use_next ho.out ht1.out hf1.out hU4)
              clear hU4 hW4
              cases b2
              all_goals
                go_wp2
                go_roundg (g4 - 1)
                case measure => exact hj1.out.2
                case rel => exact ⟨V2, _, j + 1, rfl, by go_num, Lib.hid hj1.out.1, hT4.below (by repeat (first | with_reducible exact Below.refl _ _ | with_reducible apply bdrew | with_reducible apply bdrewN | with_reducible apply balloc | ((with_reducible refine bset ?_ ?_ _); rotate_left; (first | omega | (simp <;> omega))))), by repeat (first | with_reducible exact hB4 | with_reducible apply bdrew | with_reducible apply bdrewN | with_reducible apply balloc | ((with_reducible refine bset ?_ ?_ _); rotate_left; (first | omega | (simp <;> omega)))), Cls.below (w := w4) (by repeat (first | with_reducible exact Below.refl _ _ | with_reducible apply bdrew | with_reducible apply bdrewN | with_reducible apply balloc | ((with_reducible refine bset ?_ ?_ _); rotate_left; (first | omega | (simp <;> omega))))) hC4, Lib.hid HU4.out.ab, Lib.hid (fun h => HNX.out.1 h), Lib.hid (fun h => HNX.out.2 h)⟩
            · have hkk := Lib.hid (show j = t.ops.length by have := hj.out; omega)
              go_wp2
              go_roundg (2 * sumT k V1 + b1.toNat)
              case measure =>
                rw [hgk.out]
                cases b1 with
                | true => have := ht1.out rfl; simp; omega
                | false => rw [(hf1.out rfl).1]; simp
              case rel => exact ⟨V1, b1, rfl, Lib.hid rfl, hTt, hBt, hCt, hV1, Lib.hid (fun h o ho => by
                obtain ⟨h1, h2⟩ := hf1.out h
                rw [h1]
                exact h2 o (by rw [hkk.out, List.take_length]; exact ho))⟩


end Go.Proofs.Ytihkgdlanfemcaa

namespace Go.Proofs.Ytihkgdlanfemcaa
open Go.RowKit
set_option linter.unusedVariables false
set_option linter.unusedSimpArgs false

/-- A table in blocks from B on. -/
def TabAt (B : Nat) (w : World) (g n : Nat) (V : Int → Int → Int) : Prop := ∃ bs, B ≤ g ∧ (∀ b ∈ bs, B ≤ b) ∧ Tbl w g bs n V
section
variable {B : Nat} {w w' : World} {g n : Nat} {V : Int → Int → Int}
theorem TabAt.below (h : TabAt B w g n V) (hb : Below w.heap.size w w') : TabAt B w' g n V := by
  obtain ⟨bs, h1, h2, h3⟩ := h
  exact ⟨bs, h1, h2, h3.below hb⟩
theorem TabAt.mono {B' : Nat} (h : TabAt B w g n V) (hb : B' ≤ B) : TabAt B' w g n V := by
  obtain ⟨bs, h1, h2, h3⟩ := h
  exact ⟨bs, by omega, fun b hm => by have := h2 b hm; omega, h3⟩
theorem TabAt.far (h : TabAt B w g n V) {p : Addr} (hp : p.block < B) (u : Value) : TabAt B (w.setCell p u) g n V := by
  obtain ⟨bs, h1, h2, h3⟩ := h
  exact ⟨bs, h1, h2, h3.same (Below.heap_setCell _ _ _ _ (by omega)) (fun b hm => Below.heap_setCell _ _ _ _ (by have := h2 b hm; omega))⟩
theorem TabAt.drew (h : TabAt B w g n V) : TabAt B w.drew g n V := by
  obtain ⟨bs, h1, h2, h3⟩ := h
  exact ⟨bs, h1, h2, h3.drew⟩
theorem TabAt.at_ (h : TabAt B w g n V) {p q : Int} (hp : 0 ≤ p ∧ p < (n : Int)) (hq : 0 ≤ q ∧ q < (n : Int)) :
    ∃ b, w.cell? ⟨g, p.toNat, none⟩ = some (.slice (some ⟨b, 0, none⟩) n n) ∧ w.cell? ⟨b, q.toNat, none⟩ = some (.int .i64 (V p q)) := by
  obtain ⟨bs, h1, h2, h3⟩ := h
  obtain ⟨b, _, h4, h5, _⟩ := h3.at_ hp hq
  exact ⟨b, h4, h5⟩
theorem TabAt.row (h : TabAt B w g n V) {p : Nat} (hp : p < n) :
    ∃ b, w.cell? ⟨g, p, none⟩ = some (.slice (some ⟨b, 0, none⟩) n n) ∧ Ints w (some ⟨b, 0, none⟩) (rowV n (V (p : Int))) := by
  obtain ⟨bs, h1, h2, h3⟩ := h
  have hl : p < bs.length := by rw [h3.len]; exact hp
  refine ⟨bs[p], ?_, (h3.rows p _ (List.getElem?_eq_getElem hl)).ints⟩
  rw [h3.arr.cell]; simp [hl]
end
set_option maxRecDepth 100000 in
set_option maxHeartbeats 400000 in
theorem pvalues_1 (w : World) (t : TaskV) (Ai Ag Ao : Option Addr) (ci cg co : Nat) (hT : TaskMem w Ai Ag Ao t) (S : Option Addr) (cs : Nat) (st : List Int) (hS : Ints w S st) (hls : lenOk st.length) (h : ¬ (sfault t st).1 = 0) :
    Calls Try.prog 18 #[.agg #[.int .i64 t.facts, .slice Ai t.init.length ci, .slice Ag t.goal.length cg, .slice Ao t.ops.length co], .slice S st.length cs] w fun e w' => e = .returned (.tuple #[.slice none 0 0, .agg #[.int .i64 (sfault t st).1, .int .i64 (sfault t st).2]]) ∧ Below w.heap.size w w' := by
  have N := bb_no h
  have N' := bn_yes h
  go_enter Try.func18, Try.ntmps18
  go_wp2_with fail
  refine (statefault_any _ _ _ _ _ _ _ _ (hT.below (by repeat (first | with_reducible exact Below.refl _ _ | with_reducible apply bdrew | with_reducible apply bdrewN | with_reducible apply balloc | ((with_reducible refine bset ?_ ?_ _); rotate_left; (first | omega | (simp <;> omega)))))) _ _ _ (hS.below (by repeat (first | with_reducible exact Below.refl _ _ | with_reducible apply bdrew | with_reducible apply bdrewN | with_reducible apply balloc | ((with_reducible refine bset ?_ ?_ _); rotate_left; (first | omega | (simp <;> omega)))))) hls).mono ?_
  rintro e w1 ⟨rfl, hB1⟩
  have D1 := dstep w hB1 (by repeat (first | with_reducible exact Below.refl _ _ | with_reducible apply bdrew | with_reducible apply bdrewN | with_reducible apply balloc | ((with_reducible refine bset ?_ ?_ _); rotate_left; (first | omega | (simp <;> omega)))))
  have d1s := D1.size
  have C1 := Cls.below (l := [(w.heap.size, 0, .int .i64 t.facts), (w.heap.size, 1, .slice Ai t.init.length ci), (w.heap.size, 2, .slice Ag t.goal.length cg), (w.heap.size, 3, .slice Ao t.ops.length co), (w.heap.size + 1, 0, .int .i64 0), (w.heap.size + 1, 1, .int .i64 0)]) hB1 (by simp [Cls, go_sem])
  have F1 := C1
  simp only [Cls, and_true] at F1
  have y1w1 : w.heap.size + 1 < w1.heap.size := C1.blk (b := w.heap.size + 1) (k := 0) (v := .int .i64 0) (by simp)
  have y1w0 : w.heap.size < w1.heap.size := (by omega)
  have y1wp1 : w.heap.size < w1.heap.size + 1 := (by omega)
  have y1wp2 : w.heap.size < w1.heap.size + 1 + 1 := (by omega)
  go_wp2_with fail
  refine region_still_tail 2 (by kernel_rfl) (by kernel_rfl) ?_
  simp only [List.take_succ_cons, List.take_zero, List.drop_succ_cons, List.drop_zero]
  repeat still_step
  refine wpStill_nil ?_
  go_wp2
  refine bodyPost_ret (v := .tuple #[.slice none 0 0, .agg #[.int .i64 (sfault t st).1, .int .i64 (sfault t st).2]]) ?_ rfl ⟨rfl, by repeat (first | with_reducible exact D1 | with_reducible apply bdrew | with_reducible apply bdrewN | with_reducible apply balloc | ((with_reducible refine bset ?_ ?_ _); rotate_left; (first | omega | (simp <;> omega))))⟩
  simp [results, Try.results18, go_sem, F1, y1w1, y1w0, y1wp1, y1wp2]

set_option maxRecDepth 100000 in
set_option maxHeartbeats 400000 in
theorem pgoal_1 (w : World) (t : TaskV) (Ai Ag Ao : Option Addr) (ci cg co : Nat) (hT : TaskMem w Ai Ag Ao t) (S : Option Addr) (cs : Nat) (st : List Int) (hS : Ints w S st) (hls : lenOk st.length) (h : ¬ (sfault t st).1 = 0) :
    Calls Try.prog 19 #[.agg #[.int .i64 t.facts, .slice Ai t.init.length ci, .slice Ag t.goal.length cg, .slice Ao t.ops.length co], .slice S st.length cs] w fun e w' => e = .returned (.tuple #[.int .i64 0, .agg #[.int .i64 (sfault t st).1, .int .i64 (sfault t st).2]]) ∧ Below w.heap.size w w' := by
  have N := bb_no h
  have N' := bn_yes h
  go_enter Try.func19, Try.ntmps19
  go_wp2_with fail
  refine (statefault_any _ _ _ _ _ _ _ _ (hT.below (by repeat (first | with_reducible exact Below.refl _ _ | with_reducible apply bdrew | with_reducible apply bdrewN | with_reducible apply balloc | ((with_reducible refine bset ?_ ?_ _); rotate_left; (first | omega | (simp <;> omega)))))) _ _ _ (hS.below (by repeat (first | with_reducible exact Below.refl _ _ | with_reducible apply bdrew | with_reducible apply bdrewN | with_reducible apply balloc | ((with_reducible refine bset ?_ ?_ _); rotate_left; (first | omega | (simp <;> omega)))))) hls).mono ?_
  rintro e w1 ⟨rfl, hB1⟩
  have D1 := dstep w hB1 (by repeat (first | with_reducible exact Below.refl _ _ | with_reducible apply bdrew | with_reducible apply bdrewN | with_reducible apply balloc | ((with_reducible refine bset ?_ ?_ _); rotate_left; (first | omega | (simp <;> omega)))))
  have d1s := D1.size
  have C1 := Cls.below (l := [(w.heap.size, 0, .int .i64 t.facts), (w.heap.size, 1, .slice Ai t.init.length ci), (w.heap.size, 2, .slice Ag t.goal.length cg), (w.heap.size, 3, .slice Ao t.ops.length co), (w.heap.size + 1, 0, .int .i64 0), (w.heap.size + 1, 1, .int .i64 0)]) hB1 (by simp [Cls, go_sem])
  have F1 := C1
  simp only [Cls, and_true] at F1
  have y1w1 : w.heap.size + 1 < w1.heap.size := C1.blk (b := w.heap.size + 1) (k := 0) (v := .int .i64 0) (by simp)
  have y1w0 : w.heap.size < w1.heap.size := (by omega)
  have y1wp1 : w.heap.size < w1.heap.size + 1 := (by omega)
  have y1wp2 : w.heap.size < w1.heap.size + 1 + 1 := (by omega)
  go_wp2_with fail
  refine region_still_tail 2 (by kernel_rfl) (by kernel_rfl) ?_
  simp only [List.take_succ_cons, List.take_zero, List.drop_succ_cons, List.drop_zero]
  repeat still_step
  refine wpStill_nil ?_
  go_wp2
  refine bodyPost_ret (v := .tuple #[.int .i64 0, .agg #[.int .i64 (sfault t st).1, .int .i64 (sfault t st).2]]) ?_ rfl ⟨rfl, by repeat (first | with_reducible exact D1 | with_reducible apply bdrew | with_reducible apply bdrewN | with_reducible apply balloc | ((with_reducible refine bset ?_ ?_ _); rotate_left; (first | omega | (simp <;> omega))))⟩
  simp [results, Try.results19, go_sem, F1, y1w1, y1w0, y1wp1, y1wp2]

set_option maxRecDepth 100000 in
set_option maxHeartbeats 1000000 in
theorem pvalues_2 (w : World) (t : TaskV) (Ai Ag Ao : Option Addr) (ci cg co : Nat) (hT : TaskMem w Ai Ag Ao t) (hR : OpsRead w Ao t.ops) (S : Option Addr) (cs : Nat) (st : List Int) (hS : Ints w S st) (hls : lenOk st.length) (n : Nat) (hn : t.facts = n) (hv : Valid t) (h2 : SetP st t.facts) :
    Calls Try.prog 18 #[.agg #[.int .i64 t.facts, .slice Ai t.init.length ci, .slice Ag t.goal.length cg, .slice Ao t.ops.length co], .slice S st.length cs] w fun e w' => ∃ g V, e = .returned (.tuple #[.slice (some ⟨g, 0, none⟩) n n, .agg #[.int .i64 0, .int .i64 0]]) ∧ TabAt w.heap.size w' g n V ∧ PBest n st t.ops V ∧ Below w.heap.size w w' := by
  have HN := Lib.hid hn
  have HV := Lib.hid hv
  have H2 := Lib.hid h2
  have HS2 := Lib.hid (show SetP st (n : Int) by rw [← hn]; exact h2)
  clear hv h2 hn
  go_enter Try.func18, Try.ntmps18
  go_wp2_with fail
  refine (statefault_3 _ _ _ _ _ _ _ _ (hT.below (by repeat (first | with_reducible exact Below.refl _ _ | with_reducible apply bdrew | with_reducible apply bdrewN | with_reducible apply balloc | ((with_reducible refine bset ?_ ?_ _); rotate_left; (first | omega | (simp <;> omega)))))) _ _ _ (hS.below (by repeat (first | with_reducible exact Below.refl _ _ | with_reducible apply bdrew | with_reducible apply bdrewN | with_reducible apply balloc | ((with_reducible refine bset ?_ ?_ _); rotate_left; (first | omega | (simp <;> omega)))))) hls HV.out H2.out).mono ?_
  rintro e w1 ⟨rfl, hB1⟩
  have D1 := dstep w hB1 (by repeat (first | with_reducible exact Below.refl _ _ | with_reducible apply bdrew | with_reducible apply bdrewN | with_reducible apply balloc | ((with_reducible refine bset ?_ ?_ _); rotate_left; (first | omega | (simp <;> omega)))))
  have d1s := D1.size
  have C1 := Cls.below (l := [(w.heap.size, 0, .int .i64 t.facts), (w.heap.size, 1, .slice Ai t.init.length ci), (w.heap.size, 2, .slice Ag t.goal.length cg), (w.heap.size, 3, .slice Ao t.ops.length co), (w.heap.size + 1, 0, .int .i64 0), (w.heap.size + 1, 1, .int .i64 0)]) hB1 (by simp [Cls, go_sem])
  have F1 := C1
  simp only [Cls, and_true] at F1
  have y1w1 : w.heap.size + 1 < w1.heap.size := C1.blk (b := w.heap.size + 1) (k := 0) (v := .int .i64 0) (by simp)
  have y1w0 : w.heap.size < w1.heap.size := (by omega)
  have y1wp1 : w.heap.size < w1.heap.size + 1 := (by omega)
  have y1wp2 : w.heap.size < w1.heap.size + 1 + 1 := (by omega)
  go_wp2_with fail
  refine (find_any _ t Ai Ag Ao ci cg co (hR.below (by repeat (first | with_reducible exact D1 | with_reducible apply bdrew | with_reducible apply bdrewN | with_reducible apply balloc | ((with_reducible refine bset ?_ ?_ _); rotate_left; (first | omega | (simp <;> omega)))))) _ _ _ (hS.below (by repeat (first | with_reducible exact D1 | with_reducible apply bdrew | with_reducible apply bdrewN | with_reducible apply balloc | ((with_reducible refine bset ?_ ?_ _); rotate_left; (first | omega | (simp <;> omega)))))) n HN.out HV.out HS2.out).mono ?_
  rintro e w2 ⟨g2, bs, V, rfl, hg2, hbs2, hT2, hbest, hB2⟩
  have D2 := dstep w hB2 (by repeat (first | with_reducible exact D1 | with_reducible apply bdrew | with_reducible apply bdrewN | with_reducible apply balloc | ((with_reducible refine bset ?_ ?_ _); rotate_left; (first | omega | (simp <;> omega)))))
  have d2s := D2.size
  have C2 := Cls.below (l := [(w.heap.size, 0, .int .i64 t.facts), (w.heap.size, 1, .slice Ai t.init.length ci), (w.heap.size, 2, .slice Ag t.goal.length cg), (w.heap.size, 3, .slice Ao t.ops.length co), (w.heap.size + 1, 0, .int .i64 0), (w.heap.size + 1, 1, .int .i64 0), (w1.heap.size, 0, .int .i64 0), (w1.heap.size, 1, .int .i64 0)]) hB2 (by simp [Cls, go_sem, F1, y1w1, y1w0, y1wp1, y1wp2])
  have F2 := C2
  simp only [Cls, and_true] at F2
  have y2w1 : w.heap.size + 1 < w2.heap.size := C2.blk (b := w.heap.size + 1) (k := 0) (v := .int .i64 0) (by simp)
  have y2w0 : w.heap.size < w2.heap.size := (by omega)
  have y2wp1 : w.heap.size < w2.heap.size + 1 := (by omega)
  have y2wp2 : w.heap.size < w2.heap.size + 1 + 1 := (by omega)
  have y2w10 : w1.heap.size < w2.heap.size := C2.blk (b := w1.heap.size) (k := 0) (v := .int .i64 0) (by simp)
  have y2w1p1 : w1.heap.size < w2.heap.size + 1 := (by omega)
  have y2w1p2 : w1.heap.size < w2.heap.size + 1 + 1 := (by omega)
  have HBE := Lib.hid hbest
  have HTA : TabAt w1.heap.size w2 g2 n V := ⟨bs, by simp at hg2; omega, fun b hb => by have := hbs2 b hb; simp at this; omega, hT2⟩
  clear hbest hT2 hbs2 hg2
  go_wp2
  refine bodyPost_ret (v := .tuple #[.slice (some ⟨g2, 0, none⟩) n n, .agg #[.int .i64 0, .int .i64 0]]) ?_ rfl ⟨g2, V, rfl, ?_, HBE.out, by repeat (first | with_reducible exact D2 | with_reducible apply bdrew | with_reducible apply bdrewN | with_reducible apply balloc | ((with_reducible refine bset ?_ ?_ _); rotate_left; (first | omega | (simp <;> omega))))⟩
  · simp [results, Try.results18, go_sem, F2, y2w1, y2w0, y2wp1, y2wp2, y2w10, y2w1p1, y2w1p2]
  · refine TabAt.mono (B := w1.heap.size) ?_ (by omega)
    repeat (first | with_reducible exact HTA | (with_reducible refine TabAt.far ?_ ?_ _; rotate_left; (first | omega | (simp; omega))))

set_option maxRecDepth 100000 in
set_option maxHeartbeats 1000000 in
theorem pgoal_2 (w : World) (t : TaskV) (Ai Ag Ao : Option Addr) (ci cg co : Nat) (hT : TaskMem w Ai Ag Ao t) (hR : OpsRead w Ao t.ops) (hng : NilOk Ag t.goal cg) (S : Option Addr) (cs : Nat) (st : List Int) (hS : Ints w S st) (hls : lenOk st.length) (n : Nat) (hn : t.facts = n) (hv : Valid t) (h2 : SetP st t.facts) :
    Calls Try.prog 19 #[.agg #[.int .i64 t.facts, .slice Ai t.init.length ci, .slice Ag t.goal.length cg, .slice Ao t.ops.length co], .slice S st.length cs] w fun e w' => ∃ V, e = .returned (.tuple #[.int .i64 (valP V t.goal), .agg #[.int .i64 0, .int .i64 0]]) ∧ PBest n st t.ops V ∧ Below w.heap.size w w' := by
  have HN := Lib.hid hn
  have HV := Lib.hid hv
  have H2 := Lib.hid h2
  have HS2 := Lib.hid (show SetP st (n : Int) by rw [← hn]; exact h2)
  clear hv h2 hn
  have hn24 : n ≤ 1000 := by have := HV.out.f1; have := HN.out; omega
  have HGO := Lib.hid (show ∀ x ∈ t.goal, 0 ≤ x ∧ x < (n : Int) by have := HV.out.goal.1; rw [HN.out] at this; exact this)
  go_enter Try.func19, Try.ntmps19
  go_wp2_with fail
  refine (statefault_3 _ _ _ _ _ _ _ _ (hT.below (by repeat (first | with_reducible exact Below.refl _ _ | with_reducible apply bdrew | with_reducible apply bdrewN | with_reducible apply balloc | ((with_reducible refine bset ?_ ?_ _); rotate_left; (first | omega | (simp <;> omega)))))) _ _ _ (hS.below (by repeat (first | with_reducible exact Below.refl _ _ | with_reducible apply bdrew | with_reducible apply bdrewN | with_reducible apply balloc | ((with_reducible refine bset ?_ ?_ _); rotate_left; (first | omega | (simp <;> omega)))))) hls HV.out H2.out).mono ?_
  rintro e w1 ⟨rfl, hB1⟩
  have D1 := dstep w hB1 (by repeat (first | with_reducible exact Below.refl _ _ | with_reducible apply bdrew | with_reducible apply bdrewN | with_reducible apply balloc | ((with_reducible refine bset ?_ ?_ _); rotate_left; (first | omega | (simp <;> omega)))))
  have d1s := D1.size
  have C1 := Cls.below (l := [(w.heap.size, 0, .int .i64 t.facts), (w.heap.size, 1, .slice Ai t.init.length ci), (w.heap.size, 2, .slice Ag t.goal.length cg), (w.heap.size, 3, .slice Ao t.ops.length co), (w.heap.size + 1, 0, .int .i64 0), (w.heap.size + 1, 1, .int .i64 0)]) hB1 (by simp [Cls, go_sem])
  have F1 := C1
  simp only [Cls, and_true] at F1
  have y1w1 : w.heap.size + 1 < w1.heap.size := C1.blk (b := w.heap.size + 1) (k := 0) (v := .int .i64 0) (by simp)
  have y1w0 : w.heap.size < w1.heap.size := (by omega)
  have y1wp1 : w.heap.size < w1.heap.size + 1 := (by omega)
  have y1wp2 : w.heap.size < w1.heap.size + 1 + 1 := (by omega)
  go_wp2_with fail
  go_region_held3 (fun W => W.cell? ⟨w.heap.size, 0, none⟩ = some (.int .i64 t.facts) ∧ W.cell? ⟨w.heap.size, 1, none⟩ = some (.slice Ai t.init.length ci) ∧ W.cell? ⟨w.heap.size, 2, none⟩ = some (.slice Ag t.goal.length cg) ∧ W.cell? ⟨w.heap.size, 3, none⟩ = some (.slice Ao t.ops.length co)) (first | exact hK | go_keep) (first | (go_at_call 59; refine (find_any _ t Ai Ag Ao ci cg co (hR.below (by repeat (first | with_reducible exact D1 | with_reducible apply bdrew | with_reducible apply bdrewN | with_reducible apply balloc | ((with_reducible refine bset ?_ ?_ _); rotate_left; (first | omega | (simp <;> omega)))))) _ _ _ (hS.below (by repeat (first | with_reducible exact D1 | with_reducible apply bdrew | with_reducible apply bdrewN | with_reducible apply balloc | ((with_reducible refine bset ?_ ?_ _); rotate_left; (first | omega | (simp <;> omega)))))) n HN.out HV.out HS2.out).mono ?_; rintro e w2 ⟨g2, bs, V, rfl, hg2, hbs2, hT2, hbest, hB2⟩; have D2 := dstep w hB2 (by repeat (first | with_reducible exact D1 | with_reducible apply bdrew | with_reducible apply bdrewN | with_reducible apply balloc | ((with_reducible refine bset ?_ ?_ _); rotate_left; (first | omega | (simp <;> omega))))); have C2 := Cls.below (l := [(w.heap.size, 0, .int .i64 t.facts), (w.heap.size, 1, .slice Ai t.init.length ci), (w.heap.size, 2, .slice Ag t.goal.length cg), (w.heap.size, 3, .slice Ao t.ops.length co), (w.heap.size + 1, 0, .int .i64 0), (w.heap.size + 1, 1, .int .i64 0), (w1.heap.size, 0, .int .i64 0), (w1.heap.size, 1, .int .i64 0)]) hB2 (by simp [Cls, go_sem, F1, y1w1, y1w0, y1wp1, y1wp2]); have F2 := C2; simp only [Cls, and_true] at F2; have hK : w2.cell? ⟨w.heap.size, 0, none⟩ = some (.int .i64 t.facts) ∧ w2.cell? ⟨w.heap.size, 1, none⟩ = some (.slice Ai t.init.length ci) ∧ w2.cell? ⟨w.heap.size, 2, none⟩ = some (.slice Ag t.goal.length cg) ∧ w2.cell? ⟨w.heap.size, 3, none⟩ = some (.slice Ao t.ops.length co) := (by simp [F2]); have hq2 := C2.blk (b := w1.heap.size) (k := 0) (v := .int .i64 0) (by simp); have HBE := Lib.hid hbest; have HSY := Lib.hid (fun p hp q hq => hbest.symm_ (HGO.out p hp) (HGO.out q hq) : ∀ p ∈ t.goal, ∀ q ∈ t.goal, V p q = V q p); clear hbest hbs2 hg2) | (go_at_call 60; refine (pvalue_any _ g2 n cg bs V (hT2.below (by repeat (first | with_reducible exact Below.refl _ _ | with_reducible apply bdrew | with_reducible apply bdrewN | with_reducible apply balloc | ((with_reducible refine bset ?_ ?_ _); rotate_left; (first | omega | (simp <;> omega)))))) Ag t.goal (hT.goal.below (by repeat (first | with_reducible exact D2 | with_reducible apply bdrew | with_reducible apply bdrewN | with_reducible apply balloc | ((with_reducible refine bset ?_ ?_ _); rotate_left; (first | omega | (simp <;> omega)))))) hng.2.1 hng.2.2 hn24 HGO.out HSY.out).mono ?_; rintro e wx ⟨rfl, hW⟩; rw [← hW]; clear hW wx))
  all_goals
    have hq0 : w.heap.size < w2.heap.size := by have := C2.blk (b := w.heap.size) (k := 0) (v := .int .i64 t.facts) (by simp); omega
    have hq1 : w.heap.size + 1 < w2.heap.size := by have := C2.blk (b := w.heap.size + 1) (k := 0) (v := .int .i64 0) (by simp); omega
    go_wp2
    refine bodyPost_ret (v := .tuple #[.int .i64 (valP V t.goal), .agg #[.int .i64 0, .int .i64 0]]) ?_ rfl ⟨V, rfl, HBE.out, by repeat (first | with_reducible exact D2 | with_reducible apply bdrew | with_reducible apply bdrewN | with_reducible apply balloc | ((with_reducible refine bset ?_ ?_ _); rotate_left; (first | omega | (simp <;> omega))))⟩
    simp [results, Try.results19, go_sem, F2, hq0, hq1, hq2]

/-- The pairs of facts with infinite values. -/
def exPart (V : Int → Int → Int) (p j : Nat) : List (Int × Int) := ((List.range j).filter fun q => decide (p < q) && decide (V p q = 1000000000)).map fun (q : Nat) => ((p : Int), (q : Int))
def exTo (n : Nat) (V : Int → Int → Int) (k : Nat) : List (Int × Int) := (List.range k).flatMap fun p => exPart V p n
theorem exPart_zero (V : Int → Int → Int) (p : Nat) : exPart V p (p + 1) = [] := by
  unfold exPart
  rw [List.filter_eq_nil_iff.2 (fun q hq => by have := List.mem_range.1 hq; simp; omega)]
  rfl
theorem exPart_yes {V : Int → Int → Int} {p j : Nat} (h : p < j) (hv : V p j = 1000000000) : exPart V p j ++ [((p : Int), (j : Int))] = exPart V p (j + 1) := by
  unfold exPart
  rw [List.range_succ, List.filter_append, List.map_append]
  simp [h, hv]
theorem exPart_no {V : Int → Int → Int} {p j : Nat} (hv : ¬ V p j = 1000000000) : exPart V p (j + 1) = exPart V p j := by
  unfold exPart
  rw [List.range_succ, List.filter_append, List.map_append]
  simp [hv]
theorem exPart_len (V : Int → Int → Int) (p j : Nat) : (exPart V p j).length ≤ j := by
  unfold exPart
  rw [List.length_map]
  exact Nat.le_trans (List.length_filter_le _ _) (by simp)
theorem exTo_succ (n : Nat) (V : Int → Int → Int) (k : Nat) : exTo n V k ++ exPart V k n = exTo n V (k + 1) := by
  unfold exTo
  rw [List.range_succ, List.flatMap_append]
  simp
theorem exTo_len (n : Nat) (V : Int → Int → Int) : ∀ k, (exTo n V k).length ≤ k * n
  | 0 => by simp [exTo]
  | k + 1 => by
    rw [← exTo_succ, List.length_append, Nat.succ_mul]
    have := exTo_len n V k
    have := exPart_len V k n
    omega
theorem exTo_mem {n : Nat} {V : Int → Int → Int} {x : Int × Int} : x ∈ exTo n V n ↔ ∃ p q : Nat, p < q ∧ q < n ∧ V p q = 1000000000 ∧ x = ((p : Int), (q : Int)) := by
  unfold exTo exPart
  rw [List.mem_flatMap]
  constructor
  · rintro ⟨p, hp, h⟩
    rw [List.mem_map] at h
    obtain ⟨q, hq, rfl⟩ := h
    rw [List.mem_filter] at hq
    simp only [Bool.and_eq_true, decide_eq_true_eq] at hq
    exact ⟨p, q, hq.2.1, List.mem_range.1 hq.1, hq.2.2, rfl⟩
  · rintro ⟨p, q, h1, h2, h3, rfl⟩
    refine ⟨p, List.mem_range.2 (by omega), List.mem_map.2 ⟨q, List.mem_filter.2 ⟨List.mem_range.2 h2, by simp [h1, h3]⟩, rfl⟩⟩
theorem exTo_congr {n : Nat} {V U : Int → Int → Int} (h : ∀ p q : Nat, p < n → q < n → V p q = U p q) (k : Nat) (hk : k ≤ n) : exTo n V k = exTo n U k := by
  have h1 : ∀ j, j < n → exPart V j n = exPart U j n := fun j hj => by
    unfold exPart
    rw [List.filter_congr (fun q hq => by rw [h j q hj (List.mem_range.1 hq)])]
  induction k with
  | zero => simp [exTo]
  | succ k ih => rw [← exTo_succ, ← exTo_succ, ih (by omega), h1 k (by omega)]
set_option maxRecDepth 100000 in
set_option maxHeartbeats 400000 in
theorem pexcl_1 (w : World) (t : TaskV) (Ai Ag Ao : Option Addr) (ci cg co : Nat) (hT : TaskMem w Ai Ag Ao t) (h : ¬ (tfault t).1 = 0) :
    Calls Try.prog 20 #[.agg #[.int .i64 t.facts, .slice Ai t.init.length ci, .slice Ag t.goal.length cg, .slice Ao t.ops.length co]] w fun e w' => e = .returned (.tuple #[.slice none 0 0, .agg #[.int .i64 (tfault t).1, .int .i64 (tfault t).2]]) ∧ Below w.heap.size w w' := by
  have N := bb_no h
  have N' := bn_yes h
  go_enter Try.func20, Try.ntmps20
  go_wp2_with fail
  refine (validate_any _ _ _ _ _ _ _ _ (hT.below (by repeat (first | with_reducible exact Below.refl _ _ | with_reducible apply bdrew | with_reducible apply bdrewN | with_reducible apply balloc | ((with_reducible refine bset ?_ ?_ _); rotate_left; (first | omega | (simp <;> omega))))))).mono ?_
  rintro e w1 ⟨rfl, hB1⟩
  have D1 := dstep w hB1 (by repeat (first | with_reducible exact Below.refl _ _ | with_reducible apply bdrew | with_reducible apply bdrewN | with_reducible apply balloc | ((with_reducible refine bset ?_ ?_ _); rotate_left; (first | omega | (simp <;> omega)))))
  have d1s := D1.size
  have C1 := Cls.below (l := [(w.heap.size, 0, .int .i64 t.facts), (w.heap.size, 1, .slice Ai t.init.length ci), (w.heap.size, 2, .slice Ag t.goal.length cg), (w.heap.size, 3, .slice Ao t.ops.length co), (w.heap.size + 1, 0, .int .i64 0), (w.heap.size + 1, 1, .int .i64 0)]) hB1 (by simp [Cls, go_sem])
  have F1 := C1
  simp only [Cls, and_true] at F1
  have y1w1 : w.heap.size + 1 < w1.heap.size := C1.blk (b := w.heap.size + 1) (k := 0) (v := .int .i64 0) (by simp)
  have y1w0 : w.heap.size < w1.heap.size := (by omega)
  have y1wp1 : w.heap.size < w1.heap.size + 1 := (by omega)
  have y1wp2 : w.heap.size < w1.heap.size + 1 + 1 := (by omega)
  go_wp2_with fail
  refine region_still_tail 2 (by kernel_rfl) (by kernel_rfl) ?_
  simp only [List.take_succ_cons, List.take_zero, List.drop_succ_cons, List.drop_zero]
  repeat still_step
  refine wpStill_nil ?_
  go_wp2
  refine bodyPost_ret (v := .tuple #[.slice none 0 0, .agg #[.int .i64 (tfault t).1, .int .i64 (tfault t).2]]) ?_ rfl ⟨rfl, by repeat (first | with_reducible exact D1 | with_reducible apply bdrew | with_reducible apply bdrewN | with_reducible apply balloc | ((with_reducible refine bset ?_ ?_ _); rotate_left; (first | omega | (simp <;> omega))))⟩
  simp [results, Try.results20, go_sem, F1, y1w1, y1w0, y1wp1, y1wp2]

set_option maxRecDepth 100000 in
set_option maxHeartbeats 2000000 in
theorem pexcl_2 (w : World) (t : TaskV) (Ai Ag Ao : Option Addr) (ci cg co : Nat) (hT : TaskMem w Ai Ag Ao t) (hR : OpsRead w Ao t.ops) (n : Nat) (hn : t.facts = n) (hv : Valid t) :
    Calls Try.prog 20 #[.agg #[.int .i64 t.facts, .slice Ai t.init.length ci, .slice Ag t.goal.length cg, .slice Ao t.ops.length co]] w fun e w' => ∃ v V, e = .returned (.tuple #[v, .agg #[.int .i64 0, .int .i64 0]]) ∧ (∃ B, w.heap.size ≤ B ∧ OwnPP B w' v (exTo n V n)) ∧ PBest n t.init t.ops V ∧ Below w.heap.size w w' := by
  have HT0 := Lib.hid (tfault_valid hv)
  have hn24 : n ≤ 24 := by have := hv.f1; omega
  have HN := Lib.hid hn
  have HV := Lib.hid hv
  have HI := Lib.hid (show SetP t.init (n : Int) by have := hv.init; rw [hn] at this; exact this)
  have HVL : Hid (∀ w0 : World, TaskMem w0 Ai Ag Ao t → Calls Try.prog 61 #[.agg #[.int .i64 (n : Int), .slice Ai t.init.length ci, .slice Ag t.goal.length cg, .slice Ao t.ops.length co]] w0 fun e w' => e = .returned (.agg #[.int .i64 (tfault t).1, .int .i64 (tfault t).2]) ∧ Below w0.heap.size w0 w') := Lib.hid (fun w0 h => by
    have := validate_any w0 t Ai Ag Ao ci cg co h
    rw [hn] at this
    exact this)
  have HFD : Hid (∀ w0 : World, OpsRead w0 Ao t.ops → Ints w0 Ai t.init → Calls Try.prog 59 #[.agg #[.int .i64 (n : Int), .slice Ai t.init.length ci, .slice Ag t.goal.length cg, .slice Ao t.ops.length co], .slice Ai t.init.length ci] w0 fun e w' => ∃ g bs V, e = .returned (.slice (some ⟨g, 0, none⟩) n n) ∧ w0.heap.size ≤ g ∧ (∀ b ∈ bs, w0.heap.size ≤ b) ∧ Tbl w' g bs n V ∧ PBest n t.init t.ops V ∧ Below w0.heap.size w0 w') := Lib.hid (fun w0 h h' => by
    have := find_any w0 t Ai Ag Ao ci cg co h Ai ci t.init h' n hn hv (by have := hv.init; rw [hn] at this; exact this)
    rw [hn] at this
    exact this)
  rw [hn]
  clear hv hn
  go_enter Try.func20, Try.ntmps20
  go_wp2_with fail
  refine (HVL.out _ (hT.below (by repeat (first | with_reducible exact Below.refl _ _ | with_reducible apply bdrew | with_reducible apply bdrewN | with_reducible apply balloc | ((with_reducible refine bset ?_ ?_ _); rotate_left; (first | omega | (simp <;> omega))))))).mono ?_
  rintro e w1 ⟨he, hB1⟩
  rw [HT0.out] at he
  subst he
  have D1 := dstep w hB1 (by repeat (first | with_reducible exact Below.refl _ _ | with_reducible apply bdrew | with_reducible apply bdrewN | with_reducible apply balloc | ((with_reducible refine bset ?_ ?_ _); rotate_left; (first | omega | (simp <;> omega)))))
  have d1s := D1.size
  have C1 := Cls.below (l := [(w.heap.size, 0, .int .i64 (n : Int)), (w.heap.size, 1, .slice Ai t.init.length ci), (w.heap.size, 2, .slice Ag t.goal.length cg), (w.heap.size, 3, .slice Ao t.ops.length co), (w.heap.size + 1, 0, .int .i64 0), (w.heap.size + 1, 1, .int .i64 0)]) hB1 (by simp [Cls, go_sem])
  have F1 := C1
  simp only [Cls, and_true] at F1
  have y1w1 : w.heap.size + 1 < w1.heap.size := C1.blk (b := w.heap.size + 1) (k := 0) (v := .int .i64 0) (by simp)
  have y1w0 : w.heap.size < w1.heap.size := (by omega)
  have y1wp1 : w.heap.size < w1.heap.size + 1 := (by omega)
  have y1wp2 : w.heap.size < w1.heap.size + 1 + 1 := (by omega)
  go_wp2_with fail
  refine (HFD.out _ (hR.below (by repeat (first | with_reducible exact D1 | with_reducible apply bdrew | with_reducible apply bdrewN | with_reducible apply balloc | ((with_reducible refine bset ?_ ?_ _); rotate_left; (first | omega | (simp <;> omega)))))) (hT.init.below (by repeat (first | with_reducible exact D1 | with_reducible apply bdrew | with_reducible apply bdrewN | with_reducible apply balloc | ((with_reducible refine bset ?_ ?_ _); rotate_left; (first | omega | (simp <;> omega))))))).mono ?_
  rintro e w2 ⟨g2, bs, V, rfl, hg2, hbs2, hT2, hbest, hB2⟩
  have D2 := dstep w hB2 (by repeat (first | with_reducible exact D1 | with_reducible apply bdrew | with_reducible apply bdrewN | with_reducible apply balloc | ((with_reducible refine bset ?_ ?_ _); rotate_left; (first | omega | (simp <;> omega)))))
  have d2s := D2.size
  have C2 := Cls.below (l := [(w.heap.size, 0, .int .i64 (n : Int)), (w.heap.size, 1, .slice Ai t.init.length ci), (w.heap.size, 2, .slice Ag t.goal.length cg), (w.heap.size, 3, .slice Ao t.ops.length co), (w.heap.size + 1, 0, .int .i64 0), (w.heap.size + 1, 1, .int .i64 0), (w1.heap.size, 0, .int .i64 0), (w1.heap.size, 1, .int .i64 0)]) hB2 (by simp [Cls, go_sem, F1, y1w1, y1w0, y1wp1, y1wp2])
  have F2 := C2
  simp only [Cls, and_true] at F2
  have y2w1 : w.heap.size + 1 < w2.heap.size := C2.blk (b := w.heap.size + 1) (k := 0) (v := .int .i64 0) (by simp)
  have y2w0 : w.heap.size < w2.heap.size := (by omega)
  have y2wp1 : w.heap.size < w2.heap.size + 1 := (by omega)
  have y2wp2 : w.heap.size < w2.heap.size + 1 + 1 := (by omega)
  have y2w10 : w1.heap.size < w2.heap.size := C2.blk (b := w1.heap.size) (k := 0) (v := .int .i64 0) (by simp)
  have y2w1p1 : w1.heap.size < w2.heap.size + 1 := (by omega)
  have y2w1p2 : w1.heap.size < w2.heap.size + 1 + 1 := (by omega)
  have HBE := Lib.hid hbest
  have hTA : TabAt w1.heap.size w2 g2 n V := ⟨bs, by simp at hg2; omega, fun b hb => by have := hbs2 b hb; simp at this; omega, hT2⟩
  clear hbest hT2 hbs2 hg2
  go_wp2_with fail
  go_loopw [6, 21] (fun v i wr => ∃ k : Nat, k ≤ n ∧ i = .int .i64 k ∧ OwnPP w2.heap.size wr v (exTo n V k) ∧ Below w2.heap.size w2 wr ∧ Cls wr [(w.heap.size, 0, .int .i64 (n : Int)), (w.heap.size, 1, .slice Ai t.init.length ci), (w.heap.size, 2, .slice Ag t.goal.length cg), (w.heap.size, 3, .slice Ao t.ops.length co), (w.heap.size + 1, 0, .int .i64 0), (w.heap.size + 1, 1, .int .i64 0), (w1.heap.size, 0, .int .i64 0), (w1.heap.size, 1, .int .i64 0)]) (fun _ i _ => n - (intOf i).toNat)
  case atStart => exact ⟨0, Nat.zero_le _, rfl, OwnEs.nil _ _, (by repeat (first | with_reducible exact Below.refl _ _ | with_reducible apply bdrew | with_reducible apply bdrewN | with_reducible apply balloc | ((with_reducible refine bset ?_ ?_ _); rotate_left; (first | omega | (simp <;> omega))))), (by simp [Cls, go_sem, F2, y2w1, y2w0, y2wp1, y2wp2, y2w10, y2w1p1, y2w1p2])⟩
  case round =>
    obtain ⟨k, hk, rfl, hown, hBr, hCr⟩ := hrel
    obtain ⟨w3, rfl⟩ : ∃ wo : World, wo = wr := ⟨_, rfl⟩
    have drs := hBr.size
    have Fr := hCr
    simp only [Cls, and_true] at Fr
    have yrw1 : w.heap.size + 1 < w3.heap.size := hCr.blk (b := w.heap.size + 1) (k := 0) (v := .int .i64 0) (by simp)
    have yrw0 : w.heap.size < w3.heap.size := (by omega)
    have yrwp1 : w.heap.size < w3.heap.size + 1 := (by omega)
    have yrwp2 : w.heap.size < w3.heap.size + 1 + 1 := (by omega)
    have yrw10 : w1.heap.size < w3.heap.size := hCr.blk (b := w1.heap.size) (k := 0) (v := .int .i64 0) (by simp)
    have yrw1p1 : w1.heap.size < w3.heap.size + 1 := (by omega)
    have yrw1p2 : w1.heap.size < w3.heap.size + 1 + 1 := (by omega)
    by_cases hlt : k < n
    · have HK0 : Hid (OwnPP w2.heap.size w3 u6 (exTo n V k ++ exPart V k (k + 1))) := Lib.hid (by rw [exPart_zero, List.append_nil]; exact hown)
      go_wp2_with fail
      go_loopw [6, 8] (fun v i wr => ∃ j : Nat, k < j ∧ j ≤ n ∧ i = .int .i64 j ∧ OwnPP w2.heap.size wr v (exTo n V k ++ exPart V k j) ∧ Below w2.heap.size w2 wr ∧ Cls wr [(w.heap.size, 0, .int .i64 (n : Int)), (w.heap.size, 1, .slice Ai t.init.length ci), (w.heap.size, 2, .slice Ag t.goal.length cg), (w.heap.size, 3, .slice Ao t.ops.length co), (w.heap.size + 1, 0, .int .i64 0), (w.heap.size + 1, 1, .int .i64 0), (w1.heap.size, 0, .int .i64 0), (w1.heap.size, 1, .int .i64 0)]) (fun _ i _ => n - (intOf i).toNat)
      case atStart => exact ⟨k + 1, by omega, by omega, by go_num, HK0.out, (by repeat (first | with_reducible exact hBr | with_reducible apply bdrew | with_reducible apply bdrewN | with_reducible apply balloc | ((with_reducible refine bset ?_ ?_ _); rotate_left; (first | omega | (simp <;> omega))))), (by simp [Cls, go_sem, Fr, yrw1, yrw0, yrwp1, yrwp2, yrw10, yrw1p1, yrw1p2])⟩
      case round =>
        obtain ⟨j, hkj, hj, rfl, ho5, hBs, hCs⟩ := hrel
        obtain ⟨w5, rfl⟩ : ∃ wo : World, wo = wr := ⟨_, rfl⟩
        have dss := hBs.size
        have Fs := hCs
        simp only [Cls, and_true] at Fs
        have ysw1 : w.heap.size + 1 < w5.heap.size := hCs.blk (b := w.heap.size + 1) (k := 0) (v := .int .i64 0) (by simp)
        have ysw0 : w.heap.size < w5.heap.size := (by omega)
        have yswp1 : w.heap.size < w5.heap.size + 1 := (by omega)
        have yswp2 : w.heap.size < w5.heap.size + 1 + 1 := (by omega)
        have ysw10 : w1.heap.size < w5.heap.size := hCs.blk (b := w1.heap.size) (k := 0) (v := .int .i64 0) (by simp)
        have ysw1p1 : w1.heap.size < w5.heap.size + 1 := (by omega)
        have ysw1p2 : w1.heap.size < w5.heap.size + 1 + 1 := (by omega)
        by_cases hjl : j < n
        · obtain ⟨b, hgc, hcv⟩ := (hTA.below (w' := w5) (by repeat (first | with_reducible exact hBs | with_reducible apply bdrew | with_reducible apply bdrewN | with_reducible apply balloc | ((with_reducible refine bset ?_ ?_ _); rotate_left; (first | omega | (simp <;> omega)))))).at_ (p := (k : Int)) (q := (j : Int)) ⟨by omega, by omega⟩ ⟨by omega, by omega⟩
          simp only [Int.toNat_natCast] at hgc hcv
          have hlen : (exTo n V k ++ exPart V k j).length < 1000000000000 := by
            rw [List.length_append]
            have h1 := exTo_len n V k
            have h2 := exPart_len V k j
            have h3 := Nat.mul_le_mul (show k ≤ 24 by omega) hn24
            omega
          by_cases he : V (k : Int) (j : Int) = 1000000000
          · have HP := Lib.hid (exPart_yes (V := V) hkj he)
            rw [he] at hcv
            clear he
            go_wp2_with (at_builtin; go_must (refine wpList_el ppair_stable 34 16 (.agg #[.int .i64 0, .int .i64 0]) Try.underlying34 info_pair rfl (by decide) (by decide) rfl (.tmp 40) (.tmp 44) rfl w2 [(w.heap.size, 0, .int .i64 (n : Int)), (w.heap.size, 1, .slice Ai t.init.length ci), (w.heap.size, 2, .slice Ag t.goal.length cg), (w.heap.size, 3, .slice Ao t.ops.length co), (w.heap.size + 1, 0, .int .i64 0), (w.heap.size + 1, 1, .int .i64 0), (w1.heap.size, 0, .int .i64 0), (w1.heap.size, 1, .int .i64 0)] rfl (OwnPP.below ho5 ?p1) ⟨w5.heap.size, 0, none⟩ 1 rfl [.int .i64 (k : Int), .int .i64 (j : Int)] ((k : Int), (j : Int)) rfl (cells_two ?p2 ?p10) ?p8 rfl hlen ?p3 (Nat.le_refl _) ?p5 ?p6 ?p7 ?_; (case p1 => repeat (first | with_reducible exact Below.refl _ _ | with_reducible apply bdrew | with_reducible apply bdrewN | with_reducible apply balloc | ((with_reducible refine bset ?_ ?_ _); rotate_left; (first | omega | (simp <;> omega))))); (case p2 => simp [go_sem]); (case p10 => simp [go_sem]); (case p3 => (simp <;> omega)); (case p5 => repeat (first | with_reducible exact hBs | with_reducible apply bdrew | with_reducible apply bdrewN | with_reducible apply balloc | ((with_reducible refine bset ?_ ?_ _); rotate_left; (first | omega | (simp <;> omega))))); (case p6 => simp [Cls, go_sem, Fs, ysw1, ysw0, yswp1, yswp2, ysw10, ysw1p1, ysw1p2]); (case p7 => (simp <;> omega)); (case p8 => intro u hu; simp at hu; rcases hu with rfl | rfl <;> rfl); intro v6 w6 o6 D6 C6 sz6 G6 at6; clear G6 at6))
            go_roundw
            case rel => exact ⟨j + 1, by omega, by omega, by go_num, by rw [← HP.out, ← List.append_assoc]; exact o6, D6, C6⟩
            case measure => simp [intOf]; omega
          · have HP := Lib.hid (exPart_no (V := V) he)
            have hne : (V (k : Int) (j : Int) == 1000000000) = false := by simpa using he
            clear he
            go_wp2
            go_roundw
            case rel => exact ⟨j + 1, by omega, by omega, by go_num, by rw [HP.out]; exact ho5, (by repeat (first | with_reducible exact hBs | with_reducible apply bdrew | with_reducible apply bdrewN | with_reducible apply balloc | ((with_reducible refine bset ?_ ?_ _); rotate_left; (first | omega | (simp <;> omega))))), (by simp [Cls, go_sem, Fs, ysw1, ysw0, yswp1, yswp2, ysw10, ysw1p1, ysw1p2])⟩
            case measure => simp [intOf]; omega
        · obtain rfl : j = n := by omega
          have HP := Lib.hid (exTo_succ j V k)
          go_wp2
          go_roundw
          case rel => exact ⟨k + 1, by omega, by go_num, by rw [← HP.out]; exact ho5, (by repeat (first | with_reducible exact hBs | with_reducible apply bdrew | with_reducible apply bdrewN | with_reducible apply balloc | ((with_reducible refine bset ?_ ?_ _); rotate_left; (first | omega | (simp <;> omega))))), (by simp [Cls, go_sem, Fs, ysw1, ysw0, yswp1, yswp2, ysw10, ysw1p1, ysw1p2])⟩
          case measure => simp [intOf]; omega
    · obtain rfl : k = n := by omega
      have DR := D2.trans (hBr.mono D2.size)
      go_wp2
      refine bodyPost_ret (v := .tuple #[u6, .agg #[.int .i64 0, .int .i64 0]]) ?_ rfl ⟨u6, V, rfl, ⟨w2.heap.size, by omega, ?_⟩, HBE.out, by repeat (first | with_reducible exact DR | with_reducible apply bdrew | with_reducible apply bdrewN | with_reducible apply balloc | ((with_reducible refine bset ?_ ?_ _); rotate_left; (first | omega | (simp <;> omega))))⟩
      · simp [results, Try.results20, go_sem, Fr, yrw1, yrw0, yrwp1, yrwp2, yrw10, yrw1p1, yrw1p2]
      · repeat (first | with_reducible exact hown | with_reducible apply OwnPP.drew | (with_reducible refine OwnPP.far ?_ ?_ _; rotate_left; (first | omega | (simp; omega))))


end Go.Proofs.Ytihkgdlanfemcaa
