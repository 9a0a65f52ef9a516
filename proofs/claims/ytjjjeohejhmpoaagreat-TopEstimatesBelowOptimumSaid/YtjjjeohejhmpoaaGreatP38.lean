/-
  Lemmas for the law: MQ, Bf9.
-/
import Derived.Test.YtjjjeohejhmpoaaGreatP21
import Derived.Test.YtjjjeohejhmpoaaGreatP3
import Derived.Test.YtjjjeohejhmpoaaGreatP6
set_option linter.unusedVariables false
set_option linter.unusedSimpArgs false
set_option maxRecDepth 100000
set_option maxHeartbeats 4000000
namespace Go.Proofs.YtjjjeohejhmpoaaGreat
open Go.RowKit
section
structure TblTo(w:World)(g:Nat)(bs:List Nat)(n k:Nat)(V:Int->Int->Int):Prop where
 arr:Arr w g 22 ((bs.map fun b=>Value.slice (some ⟨b,0,none⟩) n n) ++ List.replicate (n - k) (Value.slice none 0 0))
 len:bs.length=k
 rows:∀ (p b:Nat),bs[p]? = some b->IArr w b (zKl n (V (p:Int)))
 diff:∀ b∈bs,b≠g
 nodup:bs.Nodup
section
variable {w w':World}{g n k:Nat}{bs:List Nat}{V:Int->Int->Int}
theorem TblTo.lt(h:TblTo w g bs n k V):g < w.heap.size/\∀ b∈bs,b < w.heap.size:=⟨h.arr.lt,fun b hb=>by
 obtain⟨i,hi,rfl⟩:=List.getElem_of_mem hb;exact Arr.lt (h.rows i _ (lGe hi))⟩
theorem TblTo.below(h:TblTo w g bs n k V)(hb:Below w.heap.size w w'):TblTo w' g bs n k V:=
 ⟨(hb.block g h.lt.1).trans h.arr,h.len,fun p b hp=>(hb.block b (h.lt.2 b (lMg hp))).trans (h.rows p b hp),h.diff,h.nodup⟩
theorem TblTo.at_(h:TblTo w g bs n k V){p q:Nat}(hp:p < k)(hq:q < n) :
  ∃ b,Hid (bs[p]? = some b)/\b < w.heap.size/\w.cell? ⟨g,p,none⟩=some (.slice (some ⟨b,0,none⟩) n n)/\w.cell? ⟨b,q,none⟩=some (.int .i64 (V p q))/\w.frozen? ⟨b,q,none⟩=false:=by
 have hpl:p < bs.length:=by rw[h.len];omega
 refine⟨bs[p],lHd (lGe hpl),h.lt.2 _ (List.getElem_mem hpl),?_,?_,Arr.free (h.rows _ _ (lGe hpl)) _⟩
 ·rw[h.arr.cell,List.getElem?_append_left (by simpa using hpl)];simp[hpl]
 ·have hr:=h.rows _ _ (lGe hpl);rw[Arr.cell hr,List.getElem?_map,xKo hq];rfl
theorem TblTo.row_at(h:TblTo w g bs n k V){p:Nat}(hp:p < k):∃ b,Hid (bs[p]? = some b)/\w.cell? ⟨g,p,none⟩=some (.slice (some ⟨b,0,none⟩) n n):=by
 have hpl:p < bs.length:=by rw[h.len];omega
 refine⟨bs[p],lHd (lGe hpl),?_⟩;rw[h.arr.cell,List.getElem?_append_left (by simpa using hpl)];simp[hpl]
theorem TblTo.next(h:TblTo w g bs n k V)(hk:k < n):w.cell? ⟨g,k,none⟩=some (.slice none 0 0)/\w.frozen? ⟨g,k,none⟩=false:=by
 refine⟨?_,Arr.free h.arr _⟩;rw[h.arr.cell,List.getElem?_append_right (by simp[h.len]),List.length_map,h.len,Nat.sub_self,List.getElem?_replicate,if_pos (by omega)]
theorem TblTo.store(h:TblTo w g bs n k V){p q b:Nat}(hb:bs[p]? = some b)(x:Int):TblTo (w.setCell ⟨b,q,none⟩ (.int .i64 x)) g bs n k (vZb V p q x):=by
 have hm:=lMg hb;refine⟨h.arr.far (h.diff b hm) _,h.len,fun i c hc=>?_,h.diff,h.nodup⟩
 by_cases e:i=p
 ·subst e;rw[hb] at hc;injection hc with hc
  subst hc;have h1:=(h.rows _ _ hb).set_ q x;rw[vZc] at h1;exact h1
 ·have hne:b≠c:=fun hh=>by
   subst hh;obtain⟨h1,h2⟩:=List.getElem?_eq_some_iff.1 hb;obtain⟨h3,h4⟩:=List.getElem?_eq_some_iff.1 hc;exact e ((List.getElem_inj h.nodup).1 (h4.trans h2.symm))
  rw[vZd e];exact (h.rows i c hc).far (p:=⟨b,q,none⟩) hne (.int .i64 x)
theorem TblTo.congr{U:Int->Int->Int}(h:TblTo w g bs n k V)(he:∀ p q:Nat,p < k->q < n->V p q=U p q):TblTo w g bs n k U:=
 ⟨h.arr,h.len,fun p b hp=>by
  have:=(List.getElem?_eq_some_iff.1 hp).1;have h1:=h.rows p b hp;rw[vZa (fun q hq=>he p q (by rw[<- h.len];exact this) hq)] at h1;exact h1,h.diff,h.nodup⟩
theorem TblTo.add(h:TblTo w g bs n k V)(hk:k < n)(hz:∀ q:Nat,q < n->V k q=0):TblTo ((w.setCell ⟨g,k,none⟩ (.slice (some ⟨w.heap.size,0,none⟩) n n)).alloc (.cells (Array.replicate n (.int .i64 0)) 3)) g (bs ++ [w.heap.size]) n (k+1) V:=by
 have hg:=h.lt.1;have hbl:=h.lt.2;refine⟨?_,by simp[h.len],fun p b hp=>?_,fun b hb=>?_,?_⟩
 ·have h1:=(h.arr.set_ k (.slice (some ⟨w.heap.size,0,none⟩) n n)).alloc (.cells (Array.replicate n (.int .i64 0)) 3);have e:((bs.map fun b=>Value.slice (some ⟨b,0,none⟩) n n) ++ List.replicate (n - k) (Value.slice none 0 0)).set k (.slice (some ⟨w.heap.size,0,none⟩) n n)=((bs ++ [w.heap.size]).map fun b=>Value.slice (some ⟨b,0,none⟩) n n) ++ List.replicate (n - (k+1)) (Value.slice none 0 0):=by
   have hl:(bs.map fun b=>Value.slice (some ⟨b,0,none⟩) n n).length=k:=by simp[h.len]
   rw[List.set_append_right _ _ (by omega),hl,Nat.sub_self];have e2:n - k=(n - (k+1))+1:=by omega
   rw[e2,List.replicate_succ];simp
  rw[e] at h1;exact h1
 ·rcases Nat.lt_or_ge p bs.length with hl | hl
  ·rw[List.getElem?_append_left hl] at hp;have h1:=(h.rows p b hp).far (p:=⟨g,k,none⟩) (fun e=>h.diff b (lMg hp) e.symm) (.slice (some ⟨w.heap.size,0,none⟩) n n);exact h1.below ((Below.refl _ _).alloc (Nat.le_refl _) _)
  ·rw[List.getElem?_append_right hl] at hp;have hp0:p=bs.length:=by
    have:=(List.getElem?_eq_some_iff.1 hp).1;simp at this;omega
   subst hp0;simp at hp;subst hp;have h1:=IArr.made (w.setCell ⟨g,k,none⟩ (.slice (some ⟨w.heap.size,0,none⟩) n n)) n w.heap.size (by simp);have e:zKl n (V ((bs.length:Nat):Int))=List.replicate n 0:=by
    apply List.ext_getElem?;intro i
    by_cases hi:i < n
    ·rw[xKo hi,h.len,hz i hi];simp[hi]
    ·rw[List.getElem?_eq_none (by rw[zJm];omega),List.getElem?_eq_none (by simp;omega)]
   rw[e];exact h1
 ·rcases List.mem_append.1 hb with h1 | h1
  ·exact h.diff b h1
  ·rw[List.mem_singleton.1 h1];omega
 ·rw[List.nodup_append];refine⟨h.nodup,by simp,fun a ha b hb=>?_⟩;rw[List.mem_singleton.1 hb];have:=hbl a ha;omega
theorem TblTo.full(h:TblTo w g bs n n V):Tbl w g bs n V:=⟨by have:=h.arr;simpa using this,h.len,h.rows,h.diff,h.nodup⟩
theorem TblTo.start(w:World)(n k:Nat)(V:Int->Int->Int)(hk:k=w.heap.size):TblTo (w.alloc (.cells (Array.replicate n (Value.slice none 0 0)) 22)) k [] n 0 V:=by
 subst hk;refine⟨?_,rfl,fun p b h=>by simp at h,fun b h=>(List.not_mem_nil h).elim,List.nodup_nil⟩;have h:=Arr.new w 22 (List.replicate n (Value.slice none 0 0));rw[List.toArray_replicate] at h;simpa using h
end
theorem yQm(n:Nat)(hn:n<=1000000)(w:World) :
  (Instr.makeSlice 84 (.int .i64 (n:Int)) (.int .i64 (n:Int))).run Tryz.prog w=.ok (.slice (some ⟨w.heap.size,0,none⟩) n n) (w.alloc (.cells (List.replicate n (Value.slice none 0 0)).toArray 22)):=by
 rw[<- xV6];exact run_make_row' 84 22 (.slice none 0 0) 24 Tryz.underlying84 xZy rfl .i64 .i64 n (by omega) (by omega) w
def zXc(st:List Int)(p q:Int):Int:=if p∈st/\q∈st then 0 else 1000000000
def xQ3(st:List Int)(k j:Nat)(p q:Int):Int:=if p < k\/(p=k/\q < j) then zXc st p q else 0
theorem vVk{st:List Int}{k n:Nat}:∀ p q:Nat,p < k+1->q < n->xQ3 st k n p q=xQ3 st (k+1) 0 p q:=fun p q hp hq=>by
 unfold xQ3;rw[if_pos (by omega),if_pos (by omega)]
theorem vJd{st:List Int}{k:Nat}:∀ q:Nat,xQ3 st k 0 k q=0:=fun q=>by
 unfold xQ3;rw[if_neg (by omega)]
theorem vVl{st:List Int}{k j n:Nat}(hk:(k:Int)∈st)(hj:(j:Int)∈st):∀ p q:Nat,p < k+1->q < n->xQ3 st k j p q=xQ3 st k (j+1) p q:=fun p q hp hq=>by
 unfold xQ3
 by_cases e:(p:Int) < k\/((p:Int)=k/\(q:Int) < j)
 ·rw[if_pos e,if_pos (by omega)]
 ·rw[if_neg e]
  by_cases e2:p=k/\q=j
  ·obtain⟨rfl,rfl⟩:=e2;rw[if_pos (by omega)];unfold zXc;rw[if_pos ⟨hk,hj⟩]
  ·rw[if_neg (by omega)]
theorem zK4{st:List Int}{k j n:Nat}(h:¬ ((k:Int)∈st/\(j:Int)∈st)):∀ p q:Nat,p < k+1->q < n->vZb (xQ3 st k j) k j 1000000000 p q=xQ3 st k (j+1) p q:=fun p q hp hq=>by
 unfold vZb
 by_cases e2:p=k/\q=j
 ·obtain⟨rfl,rfl⟩:=e2;rw[if_pos ⟨rfl,rfl⟩];unfold xQ3;rw[if_pos (by omega)];unfold zXc;rw[if_neg h]
 ·rw[if_neg (by omega)];unfold xQ3
  by_cases e:(p:Int) < k\/((p:Int)=k/\(q:Int) < j)
  ·rw[if_pos e,if_pos (by omega)]
  ·rw[if_neg e,if_neg (by omega)]
theorem vVm{st:List Int}{k n:Nat}:∀ p q:Nat,p < k->q < n->xQ3 st k 0 p q=zXc st p q:=fun p q hp hq=>by
 unfold xQ3;rw[if_pos (by omega)]
theorem vZ2{n:Nat}{st:List Int}{ops:List OpV}:PAb n st ops (zXc st):=by
 refine⟨fun p q _ _=>?_,fun p hp q hq=>?_,fun p q _ _=>?_,fun U hU p q hp hq=>?_⟩
 ·unfold zXc InV;split <;> omega
 ·unfold zXc;rw[if_pos ⟨hp,hq⟩]
 ·unfold zXc
  by_cases e:p∈st/\q∈st
  ·rw[if_pos e,if_pos e.symm]
  ·rw[if_neg e,if_neg (fun h=>e h.symm)]
 ·unfold zXc
  by_cases e:p∈st/\q∈st
  ·rw[if_pos e,hU.zero p e.1 q e.2];omega
  ·rw[if_neg e];exact (hU.all p q hp hq).2
theorem OpsRead.at3{w w':World}{A:Option Addr}{ops:List OpV}{k:Nat}(h:OpsRead w A ops)(hb:Below w.heap.size w w')(hk:k < ops.length):∃ ad o A0 c0 A1 c1 A2 c2,A=some ad/\Hid (ops[k]? = some o)/\w'.cell? (ad.add (k * 4))=some (.slice A0 o.pre.length c0)/\w'.cell? ⟨(ad.add (k * 4)).block,(ad.add (k * 4)).off+1,none⟩=some (.slice A1 o.add.length c1) /\
  w'.cell? ⟨(ad.add (k * 4)).block,(ad.add (k * 4)).off+2,none⟩=some (.slice A2 o.del.length c2)/\w'.cell? ⟨(ad.add (k * 4)).block,(ad.add (k * 4)).off+3,none⟩=some (.int .i64 o.cost)/\OpMem w A0 A1 A2 o/\Hid (xK4 A0 o.pre c0):=by
 obtain⟨ad,A0,c0,A1,c1,A2,c2,e,h0,h1,h2,h3,hm,hr⟩:=h k _ (lGe hk);exact⟨ad,ops[k],A0,c0,A1,c1,A2,c2,e,lHd (lGe hk),(hb.cell (World.block_lt_of_cell? w _ h0)).trans h0,(hb.cell (World.block_lt_of_cell? w _ h1)).trans h1,(hb.cell (World.block_lt_of_cell? w _ h2)).trans h2,(hb.cell (World.block_lt_of_cell? w _ h3)).trans h3,hm,lHd hr.1⟩
theorem Cls.wr2{bs:List Nat}{w w':World}{l:List (Nat×Nat×Value)}(hW:Wr bs w w')(hC:Cls w l)(hl:∀ x∈l,x.1∉bs):Cls w' l:=by
 induction l with
 | nil=>trivial
 | cons x r ih=>
  obtain⟨b,k,v⟩:=x;obtain⟨⟨h1,h2⟩,h3⟩:=hC;have hlt:=World.block_lt_of_cell? w ⟨b,k,none⟩ h1;have hne:=hW.block b hlt (hl (b,k,v) (by simp));exact⟨⟨(World.cell?_of_block (w:=w) hne).trans h1,(World.frozen?_of_block (w:=w) hne).trans h2⟩,ih h3 (fun x hx=>hl x (by simp[hx]))⟩
theorem vZ3{n:Nat}{t:TaskV}(hv:Valid t)(hn:t.facts=n):zZ5 n t.ops:=fun o ho=>by
 have h:=hv.ops o ho;rw[hn] at h;exact⟨fun p hp=>h.1.1.1 p hp,fun p hp=>h.1.2.1.1 p hp,h.2⟩
theorem yQn{n:Nat}{st:List Int}{ops:List OpV}{V0 V1 V2:Int->Int->Int}{b1 b2:Bool}{k:Nat}{o:OpV}(ho:ops[k]? = some o)(h1:b1=true->zWu n V1 < zWu n V0)(h2:b1=false->V1=V0/\∀ x∈ops.take k,xZn n V0 x)(hU:Use n st ops V1 V2 b2 (xZn n V1 o)) :
  ((b2 || b1)=true->zWu n V2 < zWu n V0)/\((b2 || b1)=false->V2=V0/\∀ x∈ops.take (k+1),xZn n V0 x):=by
 constructor
 ·intro h
  cases b2 with
  | true=>
   have h3:=hU.down rfl
   cases b1 with
   | true=>have:=h1 rfl;omega
   | false=>rw[(h2 rfl).1] at h3;exact h3
  | false=>
   rw[(hU.keep rfl).1];exact h1 (by simpa using h)
 ·intro h;simp only[Bool.or_eq_false_iff] at h;obtain⟨h3,h4⟩:=hU.keep h.1;obtain⟨h5,h6⟩:=h2 h.2;refine⟨h3.trans h5,fun x hx=>?_⟩;rw[List.take_add_one,ho] at hx;rcases List.mem_append.1 hx with e | e
  ·exact h6 x e
  ·have:x=o:=by simpa using e
   rw[this,<- h5];exact h4
theorem xWf{n:Nat}{st:List Int}{ops:List OpV}{V:Int->Int->Int}(h:PAb n st ops V)(hc:∀ o∈ops,xZn n V o):PBest n st ops V:=⟨⟨h.all,h.zero,fun o ho p q l hp hq ha=>hc o ho p q l hp hq ha⟩,h.great⟩
theorem yQo(w:World)(t:TaskV)(Ai Ag Ao:Option Addr)(ci cg co:Nat)(hR:OpsRead w Ao t.ops)(S:Option Addr)(cs:Nat)(st:List Int)(hS:Ints w S st)(n:Nat)(hn:t.facts=n)(hv:Valid t)(hst:SetP st (n:Int)) :
  Calls Tryz.prog 36 #[.agg #[.int .i64 t.facts,.slice Ai t.init.length ci,.slice Ag t.goal.length cg,.slice Ao t.ops.length co],.slice S st.length cs] w fun e w'=>∃ g bs V,e=.returned (.slice (some ⟨g,0,none⟩) n n)/\w.heap.size<=g/\(∀ b∈bs,w.heap.size<=b)/\Tbl w' g bs n V/\PBest n st t.ops V/\Below w.heap.size w w':=by
 have hn24:n<=24:=by have:=hv.f1;omega
 have hmk:=yQm n (by omega);have hmr:=xQu n (by omega);have hlst:st.length<=9223372036854775807:=by have:=SetP.length hst (by have:=hv.f0;omega);omega
 have HST:=lHd hst;have HV:=lHd hv;have HN:=lHd hn;have HOPS:=lHd (vZ3 hv hn);have hm40:=hv.nops;rw[hn];clear hst hv hn;go_enter Tryz.func36,Tryz.ntmps36
 go_wp2_with fail
 go_loopw [16] (fun i wr=>∃ (k:Nat) (bs:List Nat),k<=n/\i=.int .i64 k/\TblTo wr (w.heap.size+1) bs n k (xQ3 st k 0)/\Hid (∀ b∈bs,w.heap.size+1+1<=b)/\Below w.heap.size w wr/\Cls wr [(w.heap.size,0,.int .i64 (n:Int)),(w.heap.size,1,.slice Ai t.init.length ci),(w.heap.size,2,.slice Ag t.goal.length cg),(w.heap.size,3,.slice Ao t.ops.length co)]) (fun i _=>n - (intOf i).toNat)
 case atStart=>exact⟨0,[],Nat.zero_le _,rfl,TblTo.start _ _ _ _ (by simp),lHd (fun b h=>by cases h),bch,by simp[Cls,go_sem]⟩
 case round=>
  obtain⟨k,bs,hk,rfl,hTr,hbs,hBr,hCr⟩:=hrel;obtain⟨w1,rfl⟩:∃ wo:World,wo=wr:=⟨_,rfl⟩;have Fr:=hCr.f;have yr:=hCr.blk (b:=w.heap.size) (k:=0) (v:=.int .i64 (n:Int)) (by simp);have zr:=hTr.lt.1
  by_cases hlt:k < n
  ·obtain⟨hnx,hnf⟩:=hTr.next hlt;have HT1:=lHd (hTr.add hlt (fun q _=>vJd q));have hbs1:Hid (∀ b∈bs ++ [w1.heap.size],w.heap.size+1+1<=b):=lHd (fun b hb=>by
    rcases List.mem_append.1 hb with h | h
    ·exact hbs.out b h
    ·rw[List.mem_singleton.1 h];omega)
   go_upto_region 6 with (fail)
   have hrow:=(HT1.out.row_at (p:=k) (by omega));obtain⟨bk,hbk,hbc⟩:=hrow
   go_wp2_with fail
   go_loopw [30] (fun i wr=>∃ (j:Nat) (bs:List Nat),j<=n/\i=.int .i64 j/\TblTo wr (w.heap.size+1) bs n (k+1) (xQ3 st k j)/\Hid (∀ b∈bs,w.heap.size+1+1<=b)/\Below w.heap.size w wr/\Cls wr [(w.heap.size,0,.int .i64 (n:Int)),(w.heap.size,1,.slice Ai t.init.length ci),(w.heap.size,2,.slice Ag t.goal.length cg),(w.heap.size,3,.slice Ao t.ops.length co)]) (fun i _=>n - (intOf i).toNat)
   case atStart=>exact⟨0,_,Nat.zero_le _,rfl,HT1.out.below bch,hbs1,bch,by simp[Cls,go_sem,Fr,yr]⟩
   case round=>
    obtain⟨j,bs,hj,rfl,hTs,hbs,hBs,hCs⟩:=hrel;obtain⟨w2,rfl⟩:∃ wo:World,wo=wr:=⟨_,rfl⟩;have Fs:=hCs.f;have ys:=hCs.blk (b:=w.heap.size) (k:=0) (v:=.int .i64 (n:Int)) (by simp);have ysp:w.heap.size < w2.heap.size+1:=(by omega);have zs:=hTs.lt.1;have zsp:w.heap.size+1 < w2.heap.size+1:=(by omega)
    by_cases hjl:j < n
    ·by_cases hks:(k:Int)∈st
     ·have HK:=lHd (decide_eq_true hks)
      by_cases hjs:(j:Int)∈st
      ·have HJ:=lHd (decide_eq_true hjs);have HE:=lHd (vVl (n:=n) hks hjs);clear hks hjs
       go_wp2_with fail
       refine (xYs _ _ _ _ st k _ true (hS.below bch) (xY1 (by simp[go_sem])) hlst (SetP.pairwise HST.out) HK.out).mono ?_;rintro e w9 ⟨rfl,rfl⟩
       go_wp2_with fail
       refine (xYs _ _ _ _ st j _ true (hS.below bch) (xY1 (by simp[go_sem])) hlst (SetP.pairwise HST.out) HJ.out).mono ?_;rintro e w9 ⟨rfl,rfl⟩;go_wp2
       go_roundw
       case rel=>exact⟨j+1,bs,by omega,by go_num,TblTo.congr (hTs.below bch) HE.out,hbs,bch,Cls.below (w:=w2) bch hCs⟩
       case measure=>simp[intOf];omega
      ·have HJ:=lHd (decide_eq_false hjs);have HE:=lHd (fun h:(k:Int)∈st/\(j:Int)∈st=>hjs h.2);clear hks hjs;obtain⟨b,hb,hbl,hgc,hcv,hfv⟩:=hTs.at_ (p:=k) (q:=j) (by omega) hjl;have hbp:b < w2.heap.size+1:=by omega
       have hbg:b≠w.heap.size:=by have:=hbs.out b (lMg hb.out);omega
       have hbw:w.heap.size<=b:=by have:=hbs.out b (lMg hb.out);omega
       have hbg4:¬ w.heap.size=b:=fun e=>hbg e.symm
       go_wp2_with fail
       refine (xYs _ _ _ _ st k _ true (hS.below bch) (xY1 (by simp[go_sem])) hlst (SetP.pairwise HST.out) HK.out).mono ?_;rintro e w9 ⟨rfl,rfl⟩
       go_wp2_with fail
       refine (xYs _ _ _ _ st j _ false (hS.below bch) (xY1 (by simp[go_sem])) hlst (SetP.pairwise HST.out) HJ.out).mono ?_;rintro e w9 ⟨rfl,rfl⟩;go_wp2
       go_roundw
       case rel=>exact⟨j+1,bs,by omega,by go_num,TblTo.congr ((TblTo.store (q:=j) hTs hb.out 1000000000).below bch) (zK4 HE.out),hbs,bch,by simp[Cls,go_sem,Fs,ys,ysp]⟩
       case measure=>simp[intOf];omega
     ·have HK:=lHd (decide_eq_false hks);have HE:=lHd (fun h:(k:Int)∈st/\(j:Int)∈st=>hks h.1);clear hks;obtain⟨b,hb,hbl,hgc,hcv,hfv⟩:=hTs.at_ (p:=k) (q:=j) (by omega) hjl;have hbp:b < w2.heap.size+1:=by omega
      have hbg:b≠w.heap.size:=by have:=hbs.out b (lMg hb.out);omega
      have hbw:w.heap.size<=b:=by have:=hbs.out b (lMg hb.out);omega
      have hbg4:¬ w.heap.size=b:=fun e=>hbg e.symm
      go_wp2_with fail
      refine (xYs _ _ _ _ st k _ false (hS.below bch) (xY1 (by simp[go_sem])) hlst (SetP.pairwise HST.out) HK.out).mono ?_;rintro e w9 ⟨rfl,rfl⟩;go_wp2
      go_roundw
      case rel=>exact⟨j+1,bs,by omega,by go_num,TblTo.congr ((TblTo.store (q:=j) hTs hb.out 1000000000).below bch) (zK4 HE.out),hbs,bch,by simp[Cls,go_sem,Fs,ys]⟩
      case measure=>simp[intOf];omega
    ·obtain rfl:j=n:=by omega
     go_wp2
     go_roundw
     case rel=>exact⟨k+1,bs,by omega,by go_num,TblTo.congr hTs vVk,hbs,hBs,hCs⟩
     case measure=>simp[intOf];omega
  ·obtain rfl:k=n:=by omega
   have hT2:=(TblTo.congr hTr (vVm)).full;have HAB:=lHd (vZ2 (n:=k) (st:=st) (ops:=t.ops))
   go_wp2_with fail
   go_loopg [8] (2 * zWu k (zXc st)+1) (fun gk ch wr=>∃ (V:Int->Int->Int) (b:Bool),ch=.bool b/\Hid (gk=2 * zWu k V+b.toNat)/\Tbl wr (w.heap.size+1) bs k V/\Below w.heap.size w wr/\Cls wr [(w.heap.size,0,.int .i64 (k:Int)),(w.heap.size,1,.slice Ai t.init.length ci),(w.heap.size,2,.slice Ag t.goal.length cg),(w.heap.size,3,.slice Ao t.ops.length co)]/\Hid (PAb k st t.ops V)/\Hid (b=false->∀ o∈t.ops,xZn k V o))
   case atStart=>exact⟨zXc st,true,rfl,lHd rfl,hT2.below bch,bch,Cls.below (w:=w1) bch hCr,HAB,lHd (fun h=>by cases h)⟩
   case round=>
    obtain⟨V0,b,rfl,hgk,hTs,hBs,hCs,hV0,hcl⟩:=hrel;obtain⟨g3,rfl⟩:∃ g:Nat,g=gk:=⟨_,rfl⟩;obtain⟨w2,rfl⟩:∃ wo:World,wo=wr:=⟨_,rfl⟩
    cases b with
    | false=>
     have HBE:=lHd (xWf hV0.out (hcl.out rfl));go_wp2;go_ret;exact⟨_,rfl,by omega,bs,fun b hb=>(by have:=hbs.out b hb;omega),V0,hTs,HBE.out,hBs⟩
    | true=>
     have Fs:=hCs.f;have ys:=hCs.blk (b:=w.heap.size) (k:=0) (v:=.int .i64 (k:Int)) (by simp);have ysp:w.heap.size < w2.heap.size+1:=(by omega);have zs:=hTs.lt.1;have zsp:w.heap.size+1 < w2.heap.size+1:=(by omega)
     go_wp2_with fail
     go_loopg [8,57] (t.ops.length) (fun gk ch i wr=>∃ (V:Int->Int->Int) (b:Bool) (j:Nat),ch=.bool b/\i=.int .i64 j/\Hid (j+gk=t.ops.length)/\Tbl wr (w.heap.size+1) bs k V/\Below w.heap.size w wr/\Cls wr [(w.heap.size,0,.int .i64 (k:Int)),(w.heap.size,1,.slice Ai t.init.length ci),(w.heap.size,2,.slice Ag t.goal.length cg),(w.heap.size,3,.slice Ao t.ops.length co)]/\Hid (PAb k st t.ops V)/\Hid (b=true->zWu k V < zWu k V0)/\Hid (b=false->V=V0/\∀ o∈t.ops.take j,xZn k V0 o))
     case atStart=>exact⟨V0,false,0,rfl,rfl,lHd (by omega),hTs.below bch,bch,Cls.below (w:=w2) bch hCs,hV0,lHd (fun h=>by cases h),lHd (fun _=>⟨rfl,by simp⟩)⟩
     case round=>
      obtain⟨V1,b1,j,rfl,rfl,hj,hTt,hBt,hCt,hV1,ht1,hf1⟩:=hrel;obtain⟨g4,rfl⟩:∃ g:Nat,g=gk:=⟨_,rfl⟩;obtain⟨w3,rfl⟩:∃ wo:World,wo=wr:=⟨_,rfl⟩;have Ft:=hCt.f;have yt:=hCt.blk (b:=w.heap.size) (k:=0) (v:=.int .i64 (k:Int)) (by simp);have zt:=hTt.lt.1
      by_cases hjl:j < t.ops.length
      ·obtain⟨ad,o,A0,c0,A1,c1,A2,c2,rfl,ho,hc0,hc1,hc2,hc3,hm,hnp⟩:=hR.at3 hBt hjl;have HOV:=lHd (show SetP o.pre (k:Int)/\SetP o.add (k:Int)/\SetP o.del (k:Int) by have:=(HV.out.ops o (lMg ho.out)).1;rw[HN.out] at this;exact⟨this.1,this.2.1,this.2.2.1⟩);have hj1:=lHd (show j+1+(g4 - 1)=t.ops.length/\g4 - 1 < g4 by have:=hj.out;omega);have hbw:∀ b∈bs,w.heap.size<=b:=fun b hb=>by have:=hbs.out b hb;omega
       have HNE:Hid (∀ x∈([(w.heap.size,0,.int .i64 (k:Int)),(w.heap.size,1,.slice Ai t.init.length ci),(w.heap.size,2,.slice Ag t.goal.length cg),(w.heap.size,3,.slice (some ad) t.ops.length co)]:List (Nat×Nat×Value)),x.1∉bs):=lHd (fun x hx hm=>by
        have h1:=hbs.out _ hm;have h2:x.1=w.heap.size:=by
         simp only[List.mem_cons,List.not_mem_nil,or_false] at hx;rcases hx with rfl | rfl | rfl | rfl <;> rfl
        omega)
       have HMO:=lHd (lMg ho.out)
       go_wp2_with fail
       refine (yW5 w _ bch o A0 A1 A2 c0 c1 c2 hm hnp.out _ k bs V1 (hTt.below bch) hbw (by omega) st t.ops HOPS.out HMO.out HOV.out.1 HOV.out.2.1 HOV.out.2.2 hV1.out).mono ?_;rintro e w4 ⟨b2,V2,rfl,hT4,hW4,hU4⟩;have hB4:=Below.trans (a:=w) bch (hW4.below (by first | omega | (simp <;> omega)) hbw);have hC4:=Cls.wr2 hW4 (l:=[(w.heap.size,0,.int .i64 (k:Int)),(w.heap.size,1,.slice Ai t.init.length ci),(w.heap.size,2,.slice Ag t.goal.length cg),(w.heap.size,3,.slice (some ad) t.ops.length co)]) (Cls.below (w:=w3) bch hCt) HNE.out;have HU4:=lHd hU4;have HNX:=lHd (yQn ho.out ht1.out hf1.out hU4);clear hU4 hW4
       cases b2
       all_goals
        go_wp2
        go_roundg (g4 - 1)
        case measure=>exact hj1.out.2
        case rel=>exact⟨V2,_,j+1,rfl,by go_num,lHd hj1.out.1,hT4.below bch,bch,Cls.below (w:=w4) bch hC4,lHd HU4.out.ab,lHd (fun h=>HNX.out.1 h),lHd (fun h=>HNX.out.2 h)⟩
      ·have hkk:=lHd (show j=t.ops.length by have:=hj.out;omega);go_wp2
       go_roundg (2 * zWu k V1+b1.toNat)
       case measure=>
        rw[hgk.out]
        cases b1 with
        | true=>have:=ht1.out rfl;simp;omega
        | false=>rw[(hf1.out rfl).1];simp
       case rel=>exact⟨V1,b1,rfl,lHd rfl,hTt,hBt,hCt,hV1,lHd (fun h o ho=>by
        obtain⟨h1,h2⟩:=hf1.out h;rw[h1];exact h2 o (by rw[hkk.out,List.take_length];exact ho))⟩
def TabAt(B:Nat)(w:World)(g n:Nat)(V:Int->Int->Int):Prop:=∃ bs,B<=g/\(∀ b∈bs,B<=b)/\Tbl w g bs n V
section
variable {B:Nat}{w w':World}{g n:Nat}{V:Int->Int->Int}
theorem TabAt.far(h:TabAt B w g n V){p:Addr}(hp:p.block < B)(u:Value):TabAt B (w.setCell p u) g n V:=by
 obtain⟨bs,h1,h2,h3⟩:=h;exact⟨bs,h1,h2,h3.same (Below.heap_setCell _ _ _ _ (by omega)) (fun b hm=>Below.heap_setCell _ _ _ _ (by have:=h2 b hm;omega))⟩
theorem TabAt.row(h:TabAt B w g n V){p:Nat}(hp:p < n) :
  ∃ b,w.cell? ⟨g,p,none⟩=some (.slice (some ⟨b,0,none⟩) n n)/\Ints w (some ⟨b,0,none⟩) (zKl n (V (p:Int))):=by
 obtain⟨bs,h1,h2,h3⟩:=h;have hl:p < bs.length:=by rw[h3.len];exact hp
 refine⟨bs[p],?_,(h3.rows p _ (lGe hl)).ints⟩;rw[h3.arr.cell];simp[hl]
end
theorem yKo(w:World)(t:TaskV)(Ai Ag Ao:Option Addr)(ci cg co:Nat)(hT:TaskMem w Ai Ag Ao t)(hR:OpsRead w Ao t.ops)(hng:xK4 Ag t.goal cg)(S:Option Addr)(cs:Nat)(st:List Int)(hS:Ints w S st)(hls:lenOk st.length)(n:Nat)(hn:t.facts=n)(hv:Valid t)(h2:SetP st t.facts) :
  Calls Tryz.prog 11 #[.agg #[.int .i64 t.facts,.slice Ai t.init.length ci,.slice Ag t.goal.length cg,.slice Ao t.ops.length co],.slice S st.length cs] w fun e w'=>∃ V,e=.returned (.tuple #[.int .i64 (valP V t.goal),.agg #[.int .i64 0,.int .i64 0]])/\PBest n st t.ops V/\Below w.heap.size w w':=by
 have HN:=lHd hn;have HV:=lHd hv;have H2:=lHd h2;have HS2:=lHd (show SetP st (n:Int) by rw[<- hn];exact h2);clear hv h2 hn;have hn24:n<=1000:=by have:=HV.out.f1;have:=HN.out;omega
 have HGO:=lHd (show ∀ x∈t.goal,0<=x/\x < (n:Int) by have:=HV.out.goal.1;rw[HN.out] at this;exact this);go_enter Tryz.func11,Tryz.ntmps11
 go_wp2_with fail
 refine (xZw _ _ _ _ _ _ _ _ (hT.below bch) _ _ _ (hS.below bch) hls HV.out H2.out).mono ?_;rintro e w1 ⟨rfl,hB1⟩;have D1:=xJ3 w hB1 bch;have C1:=Cls.below (l:=[(w.heap.size,0,.int .i64 t.facts),(w.heap.size,1,.slice Ai t.init.length ci),(w.heap.size,2,.slice Ag t.goal.length cg),(w.heap.size,3,.slice Ao t.ops.length co),(w.heap.size+1,0,.int .i64 0),(w.heap.size+1,1,.int .i64 0)]) hB1 (by simp[Cls,go_sem]);have F1:=C1.f;have y1w1:=C1.b 4;have y1w0:w.heap.size < w1.heap.size:=(by omega)
 go_wp2_with fail
 go_region_held3 (fun W=>W.cell? ⟨w.heap.size,0,none⟩=some (.int .i64 t.facts)/\W.cell? ⟨w.heap.size,1,none⟩=some (.slice Ai t.init.length ci)/\W.cell? ⟨w.heap.size,2,none⟩=some (.slice Ag t.goal.length cg)/\W.cell? ⟨w.heap.size,3,none⟩=some (.slice Ao t.ops.length co)) (first | exact hK | go_keep) (first | (go_at_call 36;refine (yQo _ t Ai Ag Ao ci cg co (hR.below bch) _ _ _ (hS.below bch) n HN.out HV.out HS2.out).mono ?_;rintro e w2 ⟨g2,bs,V,rfl,hg2,hbs2,hT2,hbest,hB2⟩;have D2:=xJ3 w hB2 bch;have C2:=Cls.below (l:=[(w.heap.size,0,.int .i64 t.facts),(w.heap.size,1,.slice Ai t.init.length ci),(w.heap.size,2,.slice Ag t.goal.length cg),(w.heap.size,3,.slice Ao t.ops.length co),(w.heap.size+1,0,.int .i64 0),(w.heap.size+1,1,.int .i64 0),(w1.heap.size,0,.int .i64 0),(w1.heap.size,1,.int .i64 0)]) hB2 (by simp[Cls,go_sem,F1,y1w1,y1w0]);have F2:=C2;simp only[Cls,and_true] at F2;have hK:w2.cell? ⟨w.heap.size,0,none⟩=some (.int .i64 t.facts)/\w2.cell? ⟨w.heap.size,1,none⟩=some (.slice Ai t.init.length ci)/\w2.cell? ⟨w.heap.size,2,none⟩=some (.slice Ag t.goal.length cg)/\w2.cell? ⟨w.heap.size,3,none⟩=some (.slice Ao t.ops.length co):=(by simp[F2]);have hq2:=C2.blk (b:=w1.heap.size) (k:=0) (v:=.int .i64 0) (by simp);have HBE:=lHd hbest;have HSY:=lHd (fun p hp q hq=>hbest.symm_ (HGO.out p hp) (HGO.out q hq):∀ p∈t.goal,∀ q∈t.goal,V p q=V q p);clear hbest hbs2 hg2) | (go_at_call 37;refine (xWi _ g2 n cg bs V (hT2.below bch) Ag t.goal (hT.goal.below bch) hng.2.1 hng.2.2 hn24 HGO.out HSY.out).mono ?_;rintro e wx ⟨rfl,hW⟩;rw[<- hW];clear hW wx))
 all_goals
  go_wp2;refine bodyPost_ret (v:=.tuple #[.int .i64 (valP V t.goal),.agg #[.int .i64 0,.int .i64 0]]) ?_ rfl ⟨V,rfl,HBE.out,bch⟩;simp[results,Tryz.results11,go_sem,F2]
end
theorem vYt{n:Nat}{st:List Int}{ops:List OpV}(hops:zZ5 n ops):∀ (m:Nat) (V:Int->Int->Int),zWu n V<=m->PAb n st ops V->∃ V',PBest n st ops V':=by
 intro m
 induction m with
 | zero=>
  intro V hm hV;refine⟨V,xWf hV fun o ho p q l hp hq ha=>?_⟩;refine Classical.byContradiction fun hlt=>?_
  have hoo:=hops o ho;have hlr:=ha.rng hoo.1 hp hq;have hin:=xZs (xVg hV.all hlr) (xYw hops ho);have:=hV.set_lt hp hq hin (by omega);omega
 | succ m ih=>
  intro V hm hV
  by_cases hcl:∀ o∈ops,xZn n V o
  ·exact⟨V,xWf hV hcl⟩
  ·obtain⟨o,ho,p,q,l,hp,hq,ha,hlt⟩:∃ o∈ops,∃ p q l,Rng n p/\Rng n q/\Arc o p q l/\¬ V p q<=xXf (valP V l) o.cost:=by
    refine Classical.byContradiction fun hn=>hcl fun o ho p q l hp hq ha=>Classical.byContradiction fun h=>hn ⟨o,ho,p,q,l,hp,hq,ha,h⟩
   have hoo:=hops o ho;have hlr:=ha.rng hoo.1 hp hq;have hin:=xZs (xVg hV.all hlr) (xYw hops ho);have h1:=hV.set_lt hp hq hin (by omega);exact ih _ (by omega) (hV.set_ hp hq hin (fun U hU=>Int.le_trans (hU.closed o ho p q l hp hq ha) (xVb hU hV hlr (xYw hops ho))))
theorem yYd{n:Nat}{st:List Int}{ops:List OpV}(hops:zZ5 n ops):∃ V,PBest n st ops V:=vYt hops _ _ (Nat.le_refl _) (vZ2 (n:=n) (st:=st) (ops:=ops))
noncomputable def zWo(n:Nat)(st:List Int)(ops:List OpV):Int->Int->Int:=@dite _ (∃ V,PBest n st ops V) (Classical.propDecidable _) (fun h=>Classical.choose h) (fun _ _ _=>0)
theorem zQd{n:Nat}{st:List Int}{ops:List OpV}(hops:zZ5 n ops):PBest n st ops (zWo n st ops):=by
 have h:∃ V,PBest n st ops V:=yYd hops;unfold zWo;rw[dif_pos h];exact Classical.choose_spec h
theorem vXd{n:Nat}{t:TaskV}(hv:Valid t)(hn:t.facts=n):HCons n t.ops t.goal (fun l=>valP (zWo n l t.ops) t.goal):=by
 have hops:=vZ3 hv hn;have hg:∀ q∈t.goal,Rng n q:=by have:=hv.goal.1;rw[hn] at this;exact this
 have hB:∀ l,PBest n l t.ops (zWo n l t.ops):=fun l=>zQd hops
 refine⟨fun l hgl hl=>?_,fun l hl=>?_,fun l p o hl hop hcan hlt=>?_⟩
 ·exact xXw (Int.le_refl _) (fun p hp q hq=>by rw[(hB l).fix.zero p (hgl p hp) q (hgl q hq)];omega)
 ·exact (xVg (hB l).fix.all hg).2
 ·obtain⟨o',h1,h2⟩:=hcan;simp only[Int.toNat_natCast] at h1;rw[hop] at h1;injection h1 with h1
  subst h1;exact (hB l).goal_cons (hB _) hops (lMg hop) h2 (fun q hq=>xXa.1 hq) hg hlt
end Go.Proofs.YtjjjeohejhmpoaaGreat
