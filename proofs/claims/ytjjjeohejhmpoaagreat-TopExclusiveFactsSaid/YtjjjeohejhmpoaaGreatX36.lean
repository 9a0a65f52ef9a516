/-
  Lemmas.
-/
import Derived.Test.YtjjjeohejhmpoaaGreatX21
set_option linter.unusedVariables false
set_option linter.unusedSimpArgs false
set_option maxRecDepth 100000
set_option maxHeartbeats 4000000
namespace Go.Proofs.YtjjjeohejhmpoaaGreat
open Go.RowKit Go.Proofs.Tryz
section
structure TblTo(w:World)(g:Nat)(bs:List Nat)(n k:Nat)(V:Int->Int->Int):Prop where
 arr:Arr w g 22 ((bs.map fun b=>Value.slice (some ⟨b,0,none⟩) n n)++List.replicate (n-k) (Value.slice none 0 0))
 len:bs.length=k
 rows:∀(p b:Nat),bs[p]? = some b->IArr w b (zKl n (V (p:Int)))
 diff:∀b∈bs,b≠g
 nodup:bs.Nodup
section
variable {w w':World}{g n k:Nat}{bs:List Nat}{V:Int->Int->Int}
theorem TblTo.lt(h:TblTo w g bs n k V):g<w.heap.size/\∀b∈bs,b<w.heap.size:=⟨h.arr.lt,fun b hb=>by
 obtain⟨i,hi,rfl⟩:=List.getElem_of_mem hb;exact Arr.lt (h.rows i _ (lGe hi))⟩
theorem TblTo.below(h:TblTo w g bs n k V)(hb:Below w.heap.size w w'):TblTo w' g bs n k V:=
 ⟨(hb.block g h.lt.1).trans h.arr,h.len,fun p b hp=>(hb.block b (h.lt.2 b (lMg hp))).trans (h.rows p b hp),h.diff,h.nodup⟩
theorem TblTo.at_(h:TblTo w g bs n k V){p q:Nat}(hp:p<k)(hq:q<n) :
  ∃b,Hid (bs[p]? = some b)/\b<w.heap.size/\w.cell? ⟨g,p,none⟩=some (.slice (some ⟨b,0,none⟩) n n)/\w.cell? ⟨b,q,none⟩=some (.int .i64 (V p q))/\w.frozen? ⟨b,q,none⟩=false:=by
 have hpl:p<bs.length:=by rw[h.len];omega
 refine⟨bs[p],lHd (lGe hpl),h.lt.2 _ (List.getElem_mem hpl),?_,?_,Arr.free (h.rows _ _ (lGe hpl)) _⟩
 ·rw[h.arr.cell,yJ0 (by simpa using hpl)];simp[hpl]
 ·have hr:=h.rows _ _ (lGe hpl);rw[Arr.cell hr,vQ4,xKo hq];rfl
theorem TblTo.row_at(h:TblTo w g bs n k V){p:Nat}(hp:p<k):∃b,Hid (bs[p]? = some b)/\w.cell? ⟨g,p,none⟩=some (.slice (some ⟨b,0,none⟩) n n):=by
 have hpl:p<bs.length:=by rw[h.len];omega
 refine⟨bs[p],lHd (lGe hpl),?_⟩;rw[h.arr.cell,yJ0 (by simpa using hpl)];simp[hpl]
theorem TblTo.next(h:TblTo w g bs n k V)(hk:k<n):w.cell? ⟨g,k,none⟩=some (.slice none 0 0)/\w.frozen? ⟨g,k,none⟩=false:=by
 refine⟨?_,Arr.free h.arr _⟩;rw[h.arr.cell,List.getElem?_append_right (by simp[h.len]),zQl,h.len,Nat.sub_self,List.getElem?_replicate,if_pos (by omega)]
theorem TblTo.store(h:TblTo w g bs n k V){p q b:Nat}(hb:bs[p]? = some b)(x:Int):TblTo (w.setCell ⟨b,q,none⟩ (.int .i64 x)) g bs n k (vZb V p q x):=by
 have hm:=lMg hb;refine⟨h.arr.far (h.diff b hm) _,h.len,fun i c hc=>?_,h.diff,h.nodup⟩
 by_cases e:i=p
 ·subst e;rw[hb] at hc;injection hc with hc
  subst hc;have h1:=(h.rows _ _ hb).set_ q x;rw[vZc] at h1;exact h1
 ·have hne:b≠c:=fun hh=>by
   subst hh;obtain⟨h1,h2⟩:=zQ1.1 hb;obtain⟨h3,h4⟩:=zQ1.1 hc;exact e ((List.getElem_inj h.nodup).1 (h4.trans h2.symm))
  rw[vZd e];exact(h.rows i c hc).far (p:=⟨b,q,none⟩) hne (.int .i64 x)
theorem TblTo.congr{U:Int->Int->Int}(h:TblTo w g bs n k V)(he:∀p q:Nat,p<k->q<n->V p q=U p q):TblTo w g bs n k U:=
 ⟨h.arr,h.len,fun p b hp=>by
  have:=(zQ1.1 hp).1;have h1:=h.rows p b hp;rw[vZa (fun q hq=>he p q (by rw[<- h.len];exact this) hq)] at h1;exact h1,h.diff,h.nodup⟩
theorem TblTo.add(h:TblTo w g bs n k V)(hk:k<n)(hz:∀q:Nat,q<n->V k q=0):TblTo ((w.setCell ⟨g,k,none⟩ (.slice (some ⟨w.heap.size,0,none⟩) n n)).alloc (.cells (Array.replicate n (.int .i64 0)) 3)) g (bs ++ [w.heap.size]) n (k+1) V:=by
 have hg:=h.lt.1;have hbl:=h.lt.2;refine⟨?_,by simp[h.len],fun p b hp=>?_,fun b hb=>?_,?_⟩
 ·have h1:=(h.arr.set_ k (.slice (some ⟨w.heap.size,0,none⟩) n n)).alloc (.cells (Array.replicate n (.int .i64 0)) 3);have e:((bs.map fun b=>Value.slice (some ⟨b,0,none⟩) n n)++List.replicate (n-k) (Value.slice none 0 0)).set k (.slice (some ⟨w.heap.size,0,none⟩) n n)=((bs ++ [w.heap.size]).map fun b=>Value.slice (some ⟨b,0,none⟩) n n)++List.replicate (n-(k+1)) (Value.slice none 0 0):=by
   have hl:(bs.map fun b=>Value.slice (some ⟨b,0,none⟩) n n).length=k:=by simp[h.len]
   rw[List.set_append_right _ _ (by omega),hl,Nat.sub_self];have e2:n-k=(n-(k+1))+1:=by omega
   rw[e2,List.replicate_succ];simp
  rw[e] at h1;exact h1
 ·rcases vVq p bs.length with hl|hl
  ·rw[yJ0 hl] at hp;have h1:=(h.rows p b hp).far (p:=⟨g,k,none⟩) (fun e=>h.diff b (lMg hp) e.symm) (.slice (some ⟨w.heap.size,0,none⟩) n n);exact h1.below ((Below.refl _ _).alloc (Nat.le_refl _) _)
  ·rw[List.getElem?_append_right hl] at hp;have hp0:p=bs.length:=by
    have:=(zQ1.1 hp).1;simp at this;omega
   subst hp0;simp at hp;subst hp;have h1:=IArr.made (w.setCell ⟨g,k,none⟩ (.slice (some ⟨w.heap.size,0,none⟩) n n)) n w.heap.size (by simp);have e:zKl n (V ((bs.length:Nat):Int))=List.replicate n 0:=by
    apply List.ext_getElem?;intro i
    by_cases hi:i<n
    ·rw[xKo hi,h.len,hz i hi];simp[hi]
    ·rw[vXn (by rw[zJm];omega),vXn (by simp;omega)]
   rw[e];exact h1
 ·rcases vJn.1 hb with h1|h1
  ·exact h.diff b h1
  ·rw[yY9.1 h1];omega
 ·rw[List.nodup_append];refine⟨h.nodup,by simp,fun a ha b hb=>?_⟩;rw[yY9.1 hb];have:=hbl a ha;omega
theorem TblTo.full(h:TblTo w g bs n n V):Tbl w g bs n V:=⟨by have:=h.arr;simpa using this,h.len,h.rows,h.diff,h.nodup⟩
theorem TblTo.start(w:World)(n k:Nat)(V:Int->Int->Int)(hk:k=w.heap.size):TblTo (w.alloc (.cells (Array.replicate n (Value.slice none 0 0)) 22)) k [] n 0 V:=by
 subst hk;refine⟨?_,rfl,fun p b h=>by simp at h,fun b h=>(List.not_mem_nil h).elim,List.nodup_nil⟩;have h:=Arr.new w 22 (List.replicate n (Value.slice none 0 0));rw[List.toArray_replicate] at h;simpa using h
end
theorem yQm(n:Nat)(hn:n<=1000000)(w:World) :
  (Instr.makeSlice 84 (.int .i64 (n:Int)) (.int .i64 (n:Int))).run prog w=.ok (.slice (some ⟨w.heap.size,0,none⟩) n n) (w.alloc (.cells (List.replicate n (Value.slice none 0 0)).toArray 22)):=by
 rw[<- xV6];exact run_make_row' 84 22 (.slice none 0 0) 24 underlying84 xZy rfl .i64 .i64 n (by omega) (by omega) w
def zXc(st:List Int)(p q:Int):Int:=if p∈st/\q∈st then 0 else 1000000000
def xQ3(st:List Int)(k j:Nat)(p q:Int):Int:=if p<k\/(p=k/\q<j) then zXc st p q else 0
theorem vVk{st:List Int}{k n:Nat}:∀p q:Nat,p<k+1->q<n->xQ3 st k n p q=xQ3 st (k+1) 0 p q:=fun p q hp hq=>by
 unfold xQ3;rw[if_pos (by omega),if_pos (by omega)]
theorem vJd{st:List Int}{k:Nat}:∀q:Nat,xQ3 st k 0 k q=0:=fun q=>by
 unfold xQ3;rw[if_neg (by omega)]
theorem vVl{st:List Int}{k j n:Nat}(hk:(k:Int)∈st)(hj:(j:Int)∈st):∀p q:Nat,p<k+1->q<n->xQ3 st k j p q=xQ3 st k (j+1) p q:=fun p q hp hq=>by
 unfold xQ3
 by_cases e:(p:Int)<k\/((p:Int)=k/\(q:Int)<j)
 ·rw[if_pos e,if_pos (by omega)]
 ·rw[if_neg e]
  by_cases e2:p=k/\q=j
  ·obtain⟨rfl,rfl⟩:=e2;rw[if_pos (by omega)];unfold zXc;rw[if_pos ⟨hk,hj⟩]
  ·rw[if_neg (by omega)]
theorem zK4{st:List Int}{k j n:Nat}(h:¬((k:Int)∈st/\(j:Int)∈st)):∀p q:Nat,p<k+1->q<n->vZb (xQ3 st k j) k j 1000000000 p q=xQ3 st k (j+1) p q:=fun p q hp hq=>by
 unfold vZb
 by_cases e2:p=k/\q=j
 ·obtain⟨rfl,rfl⟩:=e2;rw[if_pos ⟨rfl,rfl⟩];unfold xQ3;rw[if_pos (by omega)];unfold zXc;rw[if_neg h]
 ·rw[if_neg (by omega)];unfold xQ3
  by_cases e:(p:Int)<k\/((p:Int)=k/\(q:Int)<j)
  ·rw[if_pos e,if_pos (by omega)]
  ·rw[if_neg e,if_neg (by omega)]
theorem vVm{st:List Int}{k n:Nat}:∀p q:Nat,p<k->q<n->xQ3 st k 0 p q=zXc st p q:=fun p q hp hq=>by
 unfold xQ3;rw[if_pos (by omega)]
theorem vZ2{n:Nat}{st:List Int}{ops:List OpV}:PAb n st ops (zXc st):=by
 refine⟨fun p q _ _=>?_,fun p hp q hq=>?_,fun p q _ _=>?_,fun U hU p q hp hq=>?_⟩
 ·unfold zXc InV;split<;>omega
 ·unfold zXc;rw[if_pos ⟨hp,hq⟩]
 ·unfold zXc
  by_cases e:p∈st/\q∈st
  ·rw[if_pos e,if_pos e.symm]
  ·rw[if_neg e,if_neg (fun h=>e h.symm)]
 ·unfold zXc
  by_cases e:p∈st/\q∈st
  ·rw[if_pos e,hU.zero p e.1 q e.2];omega
  ·rw[if_neg e];exact(hU.all p q hp hq).2
theorem OpsRead.at3{w w':World}{A:Option Addr}{ops:List OpV}{k:Nat}(h:OpsRead w A ops)(hb:Below w.heap.size w w')(hk:k<ops.length):∃ad o A0 c0 A1 c1 A2 c2,A=some ad/\Hid (ops[k]? = some o)/\w'.cell? (ad.add (k*4))=some (.slice A0 o.pre.length c0)/\w'.cell? ⟨(ad.add (k*4)).block,(ad.add (k*4)).off+1,none⟩=some (.slice A1 o.add.length c1) /\
  w'.cell? ⟨(ad.add (k*4)).block,(ad.add (k*4)).off+2,none⟩=some (.slice A2 o.del.length c2)/\w'.cell? ⟨(ad.add (k*4)).block,(ad.add (k*4)).off+3,none⟩=some (.int .i64 o.cost)/\OpMem w A0 A1 A2 o/\Hid (xK4 A0 o.pre c0):=by
 obtain⟨ad,A0,c0,A1,c1,A2,c2,e,h0,h1,h2,h3,hm,hr⟩:=h k _ (lGe hk);exact⟨ad,ops[k],A0,c0,A1,c1,A2,c2,e,lHd (lGe hk),(hb.cell (zQ2 w _ h0)).trans h0,(hb.cell (zQ2 w _ h1)).trans h1,(hb.cell (zQ2 w _ h2)).trans h2,(hb.cell (zQ2 w _ h3)).trans h3,hm,lHd hr.1⟩
theorem Cls.wr2{bs:List Nat}{w w':World}{l:List (Nat×Nat×Value)}(hW:Wr bs w w')(hC:Cls w l)(hl:∀x∈l,x.1∉bs):Cls w' l:=by
 induction l with
 |nil=>trivial
 |cons x r ih=>
  obtain⟨b,k,v⟩:=x;obtain⟨⟨h1,h2⟩,h3⟩:=hC;have hlt:=zQ2 w ⟨b,k,none⟩ h1;have hne:=hW.block b hlt (hl (b,k,v) (by simp));exact⟨⟨(World.cell?_of_block (w:=w) hne).trans h1,(World.frozen?_of_block (w:=w) hne).trans h2⟩,ih h3 (fun x hx=>hl x (by simp[hx]))⟩
theorem vZ3{n:Nat}{t:TaskV}(hv:Valid t)(hn:t.facts=n):zZ5 n t.ops:=fun o ho=>by
 have h:=hv.ops o ho;rw[hn] at h;exact⟨fun p hp=>h.1.1.1 p hp,fun p hp=>h.1.2.1.1 p hp,h.2⟩
theorem yQn{n:Nat}{st:List Int}{ops:List OpV}{V0 V1 V2:Int->Int->Int}{b1 b2:Bool}{k:Nat}{o:OpV}(ho:ops[k]? = some o)(h1:b1=true->zWu n V1<zWu n V0)(h2:b1=false->V1=V0/\∀x∈ops.take k,xZn n V0 x)(hU:Use n st ops V1 V2 b2 (xZn n V1 o)) :
  ((b2||b1)=true->zWu n V2<zWu n V0)/\((b2||b1)=false->V2=V0/\∀x∈ops.take (k+1),xZn n V0 x):=by
 constructor
 ·intro h
  cases b2 with
  |true=>
   have h3:=hU.down rfl
   cases b1 with
   |true=>have:=h1 rfl;omega
   |false=>rw[(h2 rfl).1] at h3;exact h3
  |false=>
   rw[(hU.keep rfl).1];exact h1 (by simpa using h)
 ·intro h;simp only[Bool.or_eq_false_iff] at h;obtain⟨h3,h4⟩:=hU.keep h.1;obtain⟨h5,h6⟩:=h2 h.2;refine⟨h3.trans h5,fun x hx=>?_⟩;rw[vXd,ho] at hx;rcases vJn.1 hx with e|e
  ·exact h6 x e
  ·have:x=o:=by simpa using e
   rw[this,<- h5];exact h4
theorem xWf{n:Nat}{st:List Int}{ops:List OpV}{V:Int->Int->Int}(h:PAb n st ops V)(hc:∀o∈ops,xZn n V o):PBest n st ops V:=⟨⟨h.all,h.zero,fun o ho p q l hp hq ha=>hc o ho p q l hp hq ha⟩,h.great⟩
theorem yQo(w:World)(t:TaskV)(Ai Ag Ao:Option Addr)(ci cg co:Nat)(hR:OpsRead w Ao t.ops)(S:Option Addr)(cs:Nat)(st:List Int)(hS:Ints w S st)(n:Nat)(hn:t.facts=n)(hv:Valid t)(hst:SetP st (n:Int)) :
  Calls prog 36 #[.agg #[.int .i64 t.facts,.slice Ai t.init.length ci,.slice Ag t.goal.length cg,.slice Ao t.ops.length co],.slice S st.length cs] w fun e w'=>∃g bs V,e=.returned (.slice (some ⟨g,0,none⟩) n n)/\w.heap.size<=g/\(∀b∈bs,w.heap.size<=b)/\Tbl w' g bs n V/\PBest n st t.ops V/\Below w.heap.size w w':=by
 have hn24:n<=24:=by have:=hv.f1;omega
 have hmk:=yQm n (by omega);have hmr:=xQu n (by omega);have hlst:st.length<=9223372036854775807:=by have:=SetP.length hst (by have:=hv.f0;omega);omega
 have HST:=lHd hst;have HV:=lHd hv;have HN:=lHd hn;have HOPS:=lHd (vZ3 hv hn);have hm40:=hv.nops;rw[hn];clear hst hv hn;go_enter func36,ntmps36
 go_wp2_with fail
 go_loopw [16] (fun i wr=>∃(k:Nat) (bs:List Nat),k<=n/\i=.int .i64 k/\TblTo wr (w.heap.size+1) bs n k (xQ3 st k 0)/\Hid (∀b∈bs,w.heap.size+1+1<=b)/\Below w.heap.size w wr/\Cls wr [(w.heap.size,0,.int .i64 (n:Int)),(w.heap.size,1,.slice Ai t.init.length ci),(w.heap.size,2,.slice Ag t.goal.length cg),(w.heap.size,3,.slice Ao t.ops.length co)]) (fun i _=>n-(intOf i).toNat)
 case atStart=>exact⟨0,[],zKk _,rfl,TblTo.start _ _ _ _ (by simp),lHd (fun b h=>by cases h),bch,by simp[Cls,go_sem]⟩
 case round=>
  obtain⟨k,bs,hk,rfl,hTr,hbs,hBr,hCr⟩:=hrel;obtain⟨w1,rfl⟩:∃wo:World,wo=wr:=⟨_,rfl⟩;have Fr:=hCr.f;have yr:=hCr.blk (b:=w.heap.size) (k:=0) (v:=.int .i64 (n:Int)) (by simp);have zr:=hTr.lt.1
  by_cases hlt:k<n
  ·obtain⟨hnx,hnf⟩:=hTr.next hlt;have HT1:=lHd (hTr.add hlt (fun q _=>vJd q));have hbs1:Hid (∀b∈bs ++ [w1.heap.size],w.heap.size+1+1<=b):=lHd (fun b hb=>by
    rcases vJn.1 hb with h|h
    ·exact hbs.out b h
    ·rw[yY9.1 h];omega)
   go_upto_region 6 with(fail)
   have hrow:=(HT1.out.row_at (p:=k) (by omega));obtain⟨bk,hbk,hbc⟩:=hrow
   go_wp2_with fail
   go_loopw [30] (fun i wr=>∃(j:Nat) (bs:List Nat),j<=n/\i=.int .i64 j/\TblTo wr (w.heap.size+1) bs n (k+1) (xQ3 st k j)/\Hid (∀b∈bs,w.heap.size+1+1<=b)/\Below w.heap.size w wr/\Cls wr [(w.heap.size,0,.int .i64 (n:Int)),(w.heap.size,1,.slice Ai t.init.length ci),(w.heap.size,2,.slice Ag t.goal.length cg),(w.heap.size,3,.slice Ao t.ops.length co)]) (fun i _=>n-(intOf i).toNat)
   case atStart=>exact⟨0,_,zKk _,rfl,HT1.out.below bch,hbs1,bch,by simp[Cls,go_sem,Fr,yr]⟩
   case round=>
    obtain⟨j,bs,hj,rfl,hTs,hbs,hBs,hCs⟩:=hrel;obtain⟨w2,rfl⟩:∃wo:World,wo=wr:=⟨_,rfl⟩;have Fs:=hCs.f;have ys:=hCs.blk (b:=w.heap.size) (k:=0) (v:=.int .i64 (n:Int)) (by simp);have ysp:w.heap.size<w2.heap.size+1:=(by omega);have zs:=hTs.lt.1;have zsp:w.heap.size+1<w2.heap.size+1:=(by omega)
    by_cases hjl:j<n
    ·by_cases hks:(k:Int)∈st
     ·have HK:=lHd (zWo hks)
      by_cases hjs:(j:Int)∈st
      ·have HJ:=lHd (zWo hjs);have HE:=lHd (vVl (n:=n) hks hjs);clear hks hjs
       go_wp2_with fail
       refine(xYs _ _ _ _ st k _ true (hS.below bch) (xY1 (by simp[go_sem])) hlst (SetP.pairwise HST.out) HK.out).mono ?_;rintro e w9 ⟨rfl,rfl⟩
       go_wp2_with fail
       refine(xYs _ _ _ _ st j _ true (hS.below bch) (xY1 (by simp[go_sem])) hlst (SetP.pairwise HST.out) HJ.out).mono ?_;rintro e w9 ⟨rfl,rfl⟩;go_wp2
       go_roundw
       case rel=>exact⟨j+1,bs,by omega,by go_num,TblTo.congr (hTs.below bch) HE.out,hbs,bch,Cls.below (w:=w2) bch hCs⟩
       case measure=>simp[intOf];omega
      ·have HJ:=lHd (zVa hjs);have HE:=lHd (fun h:(k:Int)∈st/\(j:Int)∈st=>hjs h.2);clear hks hjs;obtain⟨b,hb,hbl,hgc,hcv,hfv⟩:=hTs.at_ (p:=k) (q:=j) (by omega) hjl;have hbp:b<w2.heap.size+1:=by omega
       have hbg:b≠w.heap.size:=by have:=hbs.out b (lMg hb.out);omega
       have hbw:w.heap.size<=b:=by have:=hbs.out b (lMg hb.out);omega
       have hbg4:¬w.heap.size=b:=fun e=>hbg e.symm
       go_wp2_with fail
       refine(xYs _ _ _ _ st k _ true (hS.below bch) (xY1 (by simp[go_sem])) hlst (SetP.pairwise HST.out) HK.out).mono ?_;rintro e w9 ⟨rfl,rfl⟩
       go_wp2_with fail
       refine(xYs _ _ _ _ st j _ false (hS.below bch) (xY1 (by simp[go_sem])) hlst (SetP.pairwise HST.out) HJ.out).mono ?_;rintro e w9 ⟨rfl,rfl⟩;go_wp2
       go_roundw
       case rel=>exact⟨j+1,bs,by omega,by go_num,TblTo.congr ((TblTo.store (q:=j) hTs hb.out 1000000000).below bch) (zK4 HE.out),hbs,bch,by simp[Cls,go_sem,Fs,ys,ysp]⟩
       case measure=>simp[intOf];omega
     ·have HK:=lHd (zVa hks);have HE:=lHd (fun h:(k:Int)∈st/\(j:Int)∈st=>hks h.1);clear hks;obtain⟨b,hb,hbl,hgc,hcv,hfv⟩:=hTs.at_ (p:=k) (q:=j) (by omega) hjl;have hbp:b<w2.heap.size+1:=by omega
      have hbg:b≠w.heap.size:=by have:=hbs.out b (lMg hb.out);omega
      have hbw:w.heap.size<=b:=by have:=hbs.out b (lMg hb.out);omega
      have hbg4:¬w.heap.size=b:=fun e=>hbg e.symm
      go_wp2_with fail
      refine(xYs _ _ _ _ st k _ false (hS.below bch) (xY1 (by simp[go_sem])) hlst (SetP.pairwise HST.out) HK.out).mono ?_;rintro e w9 ⟨rfl,rfl⟩;go_wp2
      go_roundw
      case rel=>exact⟨j+1,bs,by omega,by go_num,TblTo.congr ((TblTo.store (q:=j) hTs hb.out 1000000000).below bch) (zK4 HE.out),hbs,bch,by simp[Cls,go_sem,Fs,ys]⟩
      case measure=>simp[intOf];omega
    ·obtain rfl:j=n:=by omega
     go_wp2
     go_roundw
     case rel=>exact⟨k+1,bs,by omega,by go_num,TblTo.congr hTs vVk,hbs,hBs,hCs⟩
     case measure=>simp[intOf];omega
  ·obtain rfl:k=n:=by omega
   have hT2:=(TblTo.congr hTr (vVm)).full;have HAB:=lHd (vZ2 (n:=k) (st:=st) (ops:=t.ops))
   go_wp2_with fail
   go_loopg [8] (2*zWu k (zXc st)+1) (fun gk ch wr=>∃(V:Int->Int->Int) (b:Bool),ch=.bool b/\Hid (gk=2*zWu k V+b.toNat)/\Tbl wr (w.heap.size+1) bs k V/\Below w.heap.size w wr/\Cls wr [(w.heap.size,0,.int .i64 (k:Int)),(w.heap.size,1,.slice Ai t.init.length ci),(w.heap.size,2,.slice Ag t.goal.length cg),(w.heap.size,3,.slice Ao t.ops.length co)]/\Hid (PAb k st t.ops V)/\Hid (b=false->∀o∈t.ops,xZn k V o))
   case atStart=>exact⟨zXc st,true,rfl,lHd rfl,hT2.below bch,bch,Cls.below (w:=w1) bch hCr,HAB,lHd (fun h=>by cases h)⟩
   case round=>
    obtain⟨V0,b,rfl,hgk,hTs,hBs,hCs,hV0,hcl⟩:=hrel;obtain⟨g3,rfl⟩:∃g:Nat,g=gk:=⟨_,rfl⟩;obtain⟨w2,rfl⟩:∃wo:World,wo=wr:=⟨_,rfl⟩
    cases b with
    |false=>
     have HBE:=lHd (xWf hV0.out (hcl.out rfl));go_wp2;go_ret;exact⟨_,rfl,by omega,bs,fun b hb=>(by have:=hbs.out b hb;omega),V0,hTs,HBE.out,hBs⟩
    |true=>
     have Fs:=hCs.f;have ys:=hCs.blk (b:=w.heap.size) (k:=0) (v:=.int .i64 (k:Int)) (by simp);have ysp:w.heap.size<w2.heap.size+1:=(by omega);have zs:=hTs.lt.1;have zsp:w.heap.size+1<w2.heap.size+1:=(by omega)
     go_wp2_with fail
     go_loopg [8,57] (t.ops.length) (fun gk ch i wr=>∃(V:Int->Int->Int) (b:Bool) (j:Nat),ch=.bool b/\i=.int .i64 j/\Hid (j+gk=t.ops.length)/\Tbl wr (w.heap.size+1) bs k V/\Below w.heap.size w wr/\Cls wr [(w.heap.size,0,.int .i64 (k:Int)),(w.heap.size,1,.slice Ai t.init.length ci),(w.heap.size,2,.slice Ag t.goal.length cg),(w.heap.size,3,.slice Ao t.ops.length co)]/\Hid (PAb k st t.ops V)/\Hid (b=true->zWu k V<zWu k V0)/\Hid (b=false->V=V0/\∀o∈t.ops.take j,xZn k V0 o))
     case atStart=>exact⟨V0,false,0,rfl,rfl,lHd (by omega),hTs.below bch,bch,Cls.below (w:=w2) bch hCs,hV0,lHd (fun h=>by cases h),lHd (fun _=>⟨rfl,by simp⟩)⟩
     case round=>
      obtain⟨V1,b1,j,rfl,rfl,hj,hTt,hBt,hCt,hV1,ht1,hf1⟩:=hrel;obtain⟨g4,rfl⟩:∃g:Nat,g=gk:=⟨_,rfl⟩;obtain⟨w3,rfl⟩:∃wo:World,wo=wr:=⟨_,rfl⟩;have Ft:=hCt.f;have yt:=hCt.blk (b:=w.heap.size) (k:=0) (v:=.int .i64 (k:Int)) (by simp);have zt:=hTt.lt.1
      by_cases hjl:j<t.ops.length
      ·obtain⟨ad,o,A0,c0,A1,c1,A2,c2,rfl,ho,hc0,hc1,hc2,hc3,hm,hnp⟩:=hR.at3 hBt hjl;have HOV:=lHd (show SetP o.pre (k:Int)/\SetP o.add (k:Int)/\SetP o.del (k:Int) by have:=(HV.out.ops o (lMg ho.out)).1;rw[HN.out] at this;exact⟨this.1,this.2.1,this.2.2.1⟩);have hj1:=lHd (show j+1+(g4-1)=t.ops.length/\g4-1<g4 by have:=hj.out;omega);have hbw:∀b∈bs,w.heap.size<=b:=fun b hb=>by have:=hbs.out b hb;omega
       have HNE:Hid (∀x∈([(w.heap.size,0,.int .i64 (k:Int)),(w.heap.size,1,.slice Ai t.init.length ci),(w.heap.size,2,.slice Ag t.goal.length cg),(w.heap.size,3,.slice (some ad) t.ops.length co)]:List (Nat×Nat×Value)),x.1∉bs):=lHd (fun x hx hm=>by
        have h1:=hbs.out _ hm;have h2:x.1=w.heap.size:=by
         simp only[yQ6,List.not_mem_nil,or_false] at hx;rcases hx with rfl|rfl|rfl|rfl<;>rfl
        omega)
       have HMO:=lHd (lMg ho.out)
       go_wp2_with fail
       refine(yW5 w _ bch o A0 A1 A2 c0 c1 c2 hm hnp.out _ k bs V1 (hTt.below bch) hbw (by omega) st t.ops HOPS.out HMO.out HOV.out.1 HOV.out.2.1 HOV.out.2.2 hV1.out).mono ?_;rintro e w4 ⟨b2,V2,rfl,hT4,hW4,hU4⟩;have hB4:=Below.trans (a:=w) bch (hW4.below (by first|omega|(simp<;>omega)) hbw);have hC4:=Cls.wr2 hW4 (l:=[(w.heap.size,0,.int .i64 (k:Int)),(w.heap.size,1,.slice Ai t.init.length ci),(w.heap.size,2,.slice Ag t.goal.length cg),(w.heap.size,3,.slice (some ad) t.ops.length co)]) (Cls.below (w:=w3) bch hCt) HNE.out;have HU4:=lHd hU4;have HNX:=lHd (yQn ho.out ht1.out hf1.out hU4);clear hU4 hW4
       cases b2
       all_goals
        go_wp2
        go_roundg (g4-1)
        case measure=>exact hj1.out.2
        case rel=>exact⟨V2,_,j+1,rfl,by go_num,lHd hj1.out.1,hT4.below bch,bch,Cls.below (w:=w4) bch hC4,lHd HU4.out.ab,lHd (fun h=>HNX.out.1 h),lHd (fun h=>HNX.out.2 h)⟩
      ·have hkk:=lHd (show j=t.ops.length by have:=hj.out;omega);go_wp2
       go_roundg (2*zWu k V1+b1.toNat)
       case measure=>
        rw[hgk.out]
        cases b1 with
        |true=>have:=ht1.out rfl;simp;omega
        |false=>rw[(hf1.out rfl).1];simp
       case rel=>exact⟨V1,b1,rfl,lHd rfl,hTt,hBt,hCt,hV1,lHd (fun h o ho=>by
        obtain⟨h1,h2⟩:=hf1.out h;rw[h1];exact h2 o (by rw[hkk.out,yQ7];exact ho))⟩
def TabAt(B:Nat)(w:World)(g n:Nat)(V:Int->Int->Int):Prop:=∃bs,B<=g/\(∀b∈bs,B<=b)/\Tbl w g bs n V
section
variable {B:Nat}{w w':World}{g n:Nat}{V:Int->Int->Int}
theorem TabAt.below(h:TabAt B w g n V)(hb:Below w.heap.size w w'):TabAt B w' g n V:=by
 obtain⟨bs,h1,h2,h3⟩:=h;exact⟨bs,h1,h2,h3.below hb⟩
theorem TabAt.far(h:TabAt B w g n V){p:Addr}(hp:p.block<B)(u:Value):TabAt B (w.setCell p u) g n V:=by
 obtain⟨bs,h1,h2,h3⟩:=h;exact⟨bs,h1,h2,h3.same (Below.heap_setCell _ _ _ _ (by omega)) (fun b hm=>Below.heap_setCell _ _ _ _ (by have:=h2 b hm;omega))⟩
theorem TabAt.drew(h:TabAt B w g n V):TabAt B w.drew g n V:=by
 obtain⟨bs,h1,h2,h3⟩:=h;exact⟨bs,h1,h2,h3.drew⟩
theorem TabAt.at_(h:TabAt B w g n V){p q:Int}(hp:0<=p/\p<(n:Int))(hq:0<=q/\q<(n:Int)) :
  ∃b,w.cell? ⟨g,p.toNat,none⟩=some (.slice (some ⟨b,0,none⟩) n n)/\w.cell? ⟨b,q.toNat,none⟩=some (.int .i64 (V p q)):=by
 obtain⟨bs,h1,h2,h3⟩:=h;obtain⟨b,_,h4,h5,_⟩:=h3.at_ hp hq;exact⟨b,h4,h5⟩
theorem TabAt.row(h:TabAt B w g n V){p:Nat}(hp:p<n) :
  ∃b,w.cell? ⟨g,p,none⟩=some (.slice (some ⟨b,0,none⟩) n n)/\Ints w (some ⟨b,0,none⟩) (zKl n (V (p:Int))):=by
 obtain⟨bs,h1,h2,h3⟩:=h;have hl:p<bs.length:=by rw[h3.len];exact hp
 refine⟨bs[p],?_,(h3.rows p _ (lGe hl)).ints⟩;rw[h3.arr.cell];simp[hl]
end
def uXi(V:Int->Int->Int)(p j:Nat):List (Int×Int):=((List.range j).filter fun q=>decide (p<q)&&decide (V p q=1000000000)).map fun(q:Nat)=>((p:Int),(q:Int))
def uZa(n:Nat)(V:Int->Int->Int)(k:Nat):List (Int×Int):=(List.range k).flatMap fun p=>uXi V p n
theorem uZ8(V:Int->Int->Int)(p:Nat):uXi V p (p+1)=[]:=by
 unfold uXi;rw[List.filter_eq_nil_iff.2 (fun q hq=>by have:=yYq.1 hq;simp;omega)];rfl
theorem uZe{V:Int->Int->Int}{p j:Nat}(h:p<j)(hv:V p j=1000000000):uXi V p j ++ [((p:Int),(j:Int))]=uXi V p (j+1):=by
 unfold uXi;rw[List.range_succ,List.filter_append,vQu];simp[h,hv]
theorem uZp{V:Int->Int->Int}{p j:Nat}(hv:¬V p j=1000000000):uXi V p (j+1)=uXi V p j:=by
 unfold uXi;rw[List.range_succ,List.filter_append,vQu];simp[hv]
theorem uXu(V:Int->Int->Int)(p j:Nat):(uXi V p j).length<=j:=by
 unfold uXi;rw[zQl];exact yJ1 (List.length_filter_le _ _) (by simp)
theorem uZ4(n:Nat)(V:Int->Int->Int)(k:Nat):uZa n V k++uXi V k n=uZa n V (k+1):=by
 unfold uZa;rw[List.range_succ,List.flatMap_append];simp
theorem uXy(n:Nat)(V:Int->Int->Int):∀k,(uZa n V k).length<=k*n
 |0=>by simp[uZa]
 |k+1=>by
  rw[<- uZ4,List.length_append,Nat.succ_mul];have:=uXy n V k;have:=uXu V k n;omega
theorem uQ7{n:Nat}{V:Int->Int->Int}{x:Int×Int}:x∈uZa n V n↔∃p q:Nat,p<q/\q<n/\V p q=1000000000/\x=((p:Int),(q:Int)):=by
 unfold uZa uXi;rw[List.mem_flatMap];constructor
 ·rintro⟨p,hp,h⟩;rw[vWz] at h;obtain⟨q,hq,rfl⟩:=h;rw[List.mem_filter] at hq;simp only[Bool.and_eq_true,decide_eq_true_eq] at hq;exact⟨p,q,hq.2.1,yYq.1 hq.1,hq.2.2,rfl⟩
 ·rintro⟨p,q,h1,h2,h3,rfl⟩;refine⟨p,yYq.2 (by omega),vWz.2 ⟨q,List.mem_filter.2 ⟨yYq.2 h2,by simp[h1,h3]⟩,rfl⟩⟩
theorem uQj(w:World)(t:TaskV)(Ai Ag Ao:Option Addr)(ci cg co:Nat)(hT:TaskMem w Ai Ag Ao t)(hR:OpsRead w Ao t.ops)(n:Nat)(hn:t.facts=n)(hv:Valid t) :
  Calls prog 16 #[.agg #[.int .i64 t.facts,.slice Ai t.init.length ci,.slice Ag t.goal.length cg,.slice Ao t.ops.length co]] w fun e w'=>∃v V,e=.returned (.tuple #[v,.agg #[.int .i64 0,.int .i64 0]])/\(∃B,w.heap.size<=B/\OwnPP B w' v (uZa n V n))/\PBest n t.init t.ops V/\Below w.heap.size w w':=by
 have HT0:=lHd (xZ9 hv);have hn24:n<=24:=by have:=hv.f1;omega
 have HN:=lHd hn;have HI:=lHd (show SetP t.init (n:Int) by have:=hv.init;rw[hn] at this;exact this);have HVL:Hid (∀w0:World,TaskMem w0 Ai Ag Ao t->Calls prog 49 #[.agg #[.int .i64 (n:Int),.slice Ai t.init.length ci,.slice Ag t.goal.length cg,.slice Ao t.ops.length co]] w0 fun e w'=>e=.returned (.agg #[.int .i64 (xXn t).1,.int .i64 (xXn t).2])/\Below w0.heap.size w0 w'):=lHd (fun w0 h=>by
  have:=xXq w0 t Ai Ag Ao ci cg co h;rw[hn] at this;exact this)
 have HFD:Hid (∀w0:World,OpsRead w0 Ao t.ops->Ints w0 Ai t.init->Calls prog 36 #[.agg #[.int .i64 (n:Int),.slice Ai t.init.length ci,.slice Ag t.goal.length cg,.slice Ao t.ops.length co],.slice Ai t.init.length ci] w0 fun e w'=>∃g bs V,e=.returned (.slice (some ⟨g,0,none⟩) n n)/\w0.heap.size<=g/\(∀b∈bs,w0.heap.size<=b)/\Tbl w' g bs n V/\PBest n t.init t.ops V/\Below w0.heap.size w0 w'):=lHd (fun w0 h h'=>by
  have:=yQo w0 t Ai Ag Ao ci cg co h Ai ci t.init h' n hn hv (by have:=hv.init;rw[hn] at this;exact this);rw[hn] at this;exact this)
 rw[hn];clear hv hn;go_enter func16,ntmps16
 go_wp2_with fail
 refine(HVL.out _ (hT.below bch)).mono ?_;rintro e w1 ⟨he,hB1⟩;rw[HT0.out] at he;subst he;have D1:=xJ3 w hB1 bch;have C1:=Cls.below (l:=[(w.heap.size,0,.int .i64 (n:Int)),(w.heap.size,1,.slice Ai t.init.length ci),(w.heap.size,2,.slice Ag t.goal.length cg),(w.heap.size,3,.slice Ao t.ops.length co),(w.heap.size+1,0,.int .i64 0),(w.heap.size+1,1,.int .i64 0)]) hB1 (by simp[Cls,go_sem]);have F1:=C1.f;have y1w1:=C1.b 4;have y1w0:w.heap.size<w1.heap.size:=(by omega)
 go_wp2_with fail
 refine(HFD.out _ (hR.below bch) (hT.init.below bch)).mono ?_;rintro e w2 ⟨g2,bs,V,rfl,hg2,hbs2,hT2,hbest,hB2⟩;have D2:=xJ3 w hB2 bch;have d2s:=D2.size;have C2:=Cls.below (l:=[(w.heap.size,0,.int .i64 (n:Int)),(w.heap.size,1,.slice Ai t.init.length ci),(w.heap.size,2,.slice Ag t.goal.length cg),(w.heap.size,3,.slice Ao t.ops.length co),(w.heap.size+1,0,.int .i64 0),(w.heap.size+1,1,.int .i64 0),(w1.heap.size,0,.int .i64 0),(w1.heap.size,1,.int .i64 0)]) hB2 (by simp[Cls,go_sem,F1,y1w1,y1w0]);have F2:=C2.f;have y2w1:=C2.b 4;have y2w10:=C2.b 6;have HBE:=lHd hbest;have hTA:TabAt w1.heap.size w2 g2 n V:=⟨bs,by simp at hg2;omega,fun b hb=>by have:=hbs2 b hb;simp at this;omega,hT2⟩;clear hbest hT2 hbs2 hg2
 go_wp2_with fail
 go_loopw [6,21] (fun v i wr=>∃k:Nat,k<=n/\i=.int .i64 k/\OwnPP w2.heap.size wr v (uZa n V k)/\Below w2.heap.size w2 wr/\Cls wr [(w.heap.size,0,.int .i64 (n:Int)),(w.heap.size,1,.slice Ai t.init.length ci),(w.heap.size,2,.slice Ag t.goal.length cg),(w.heap.size,3,.slice Ao t.ops.length co),(w.heap.size+1,0,.int .i64 0),(w.heap.size+1,1,.int .i64 0),(w1.heap.size,0,.int .i64 0),(w1.heap.size,1,.int .i64 0)]) (fun _ i _=>n-(intOf i).toNat)
 case atStart=>exact⟨0,zKk _,rfl,OwnEs.nil _ _,bch,(by simp[Cls,go_sem,F2])⟩
 case round=>
  obtain⟨k,hk,rfl,hown,hBr,hCr⟩:=hrel;obtain⟨w3,rfl⟩:∃wo:World,wo=wr:=⟨_,rfl⟩;have Fr:=hCr.f;have yrw1:=hCr.blk (b:=w.heap.size+1) (k:=0) (v:=.int .i64 0) (by simp);have yrw10:=hCr.blk (b:=w1.heap.size) (k:=0) (v:=.int .i64 0) (by simp)
  by_cases hlt:k<n
  ·have HK0:Hid (OwnPP w2.heap.size w3 u6 (uZa n V k++uXi V k (k+1))):=lHd (by rw[uZ8,List.append_nil];exact hown)
   go_wp2_with fail
   go_loopw [6,8] (fun v i wr=>∃j:Nat,k<j/\j<=n/\i=.int .i64 j/\OwnPP w2.heap.size wr v (uZa n V k++uXi V k j)/\Below w2.heap.size w2 wr/\Cls wr [(w.heap.size,0,.int .i64 (n:Int)),(w.heap.size,1,.slice Ai t.init.length ci),(w.heap.size,2,.slice Ag t.goal.length cg),(w.heap.size,3,.slice Ao t.ops.length co),(w.heap.size+1,0,.int .i64 0),(w.heap.size+1,1,.int .i64 0),(w1.heap.size,0,.int .i64 0),(w1.heap.size,1,.int .i64 0)]) (fun _ i _=>n-(intOf i).toNat)
   case atStart=>exact⟨k+1,by omega,by omega,by go_num,HK0.out,bch,(by simp[Cls,go_sem,Fr])⟩
   case round=>
    obtain⟨j,hkj,hj,rfl,ho5,hBs,hCs⟩:=hrel;obtain⟨w5,rfl⟩:∃wo:World,wo=wr:=⟨_,rfl⟩;have dss:=hBs.size;have Fs:=hCs.f;have ysw1:=hCs.blk (b:=w.heap.size+1) (k:=0) (v:=.int .i64 0) (by simp);have ysw0:w.heap.size<w5.heap.size:=(by omega);have ysw10:=hCs.blk (b:=w1.heap.size) (k:=0) (v:=.int .i64 0) (by simp)
    by_cases hjl:j<n
    ·obtain⟨b,hgc,hcv⟩:=(hTA.below (w':=w5) bch).at_ (p:=(k:Int)) (q:=(j:Int)) ⟨by omega,by omega⟩ ⟨by omega,by omega⟩;simp only[Int.toNat_natCast] at hgc hcv;have hlen:(uZa n V k++uXi V k j).length<1000000000000:=by
      rw[List.length_append];have h1:=uXy n V k;have h2:=uXu V k j;have h3:=Nat.mul_le_mul (show k<=24 by omega) hn24;omega
     by_cases he:V (k:Int) (j:Int)=1000000000
     ·have HP:=lHd (uZe (V:=V) hkj he);rw[he] at hcv;clear he
      go_wp2_with (at_builtin;go_must (refine xVv uXq 45 16 (.agg #[.int .i64 0,.int .i64 0]) underlying45 uZo rfl (by decide) (by decide) rfl (.tmp 40) (.tmp 44) rfl w2 [(w.heap.size,0,.int .i64 (n:Int)),(w.heap.size,1,.slice Ai t.init.length ci),(w.heap.size,2,.slice Ag t.goal.length cg),(w.heap.size,3,.slice Ao t.ops.length co),(w.heap.size+1,0,.int .i64 0),(w.heap.size+1,1,.int .i64 0),(w1.heap.size,0,.int .i64 0),(w1.heap.size,1,.int .i64 0)] rfl (OwnPP.below ho5 ?p1) ⟨w5.heap.size,0,none⟩ 1 rfl [.int .i64 (k:Int),.int .i64 (j:Int)] ((k:Int),(j:Int)) rfl (zK1 ?p2 ?p10) ?p8 rfl hlen ?p3 (Nat.le_refl _) ?p5 ?p6 ?p7 ?_;(case p1=>exact bch);(case p2=>simp[go_sem]);(case p10=>simp[go_sem]);(case p3=>(simp<;>omega));(case p5=>exact bch);(case p6=>simp[Cls,go_sem,Fs,ysw1,ysw0,ysw10]);(case p7=>(simp<;>omega));(case p8=>intro u hu;simp at hu;rcases hu with rfl|rfl<;>rfl);intro v6 w6 o6 D6 C6 sz6 G6 at6;clear G6 at6))
      go_roundw
      case rel=>exact⟨j+1,by omega,by omega,by go_num,by rw[<- HP.out,<- List.append_assoc];exact o6,D6,C6⟩
      case measure=>simp[intOf];omega
     ·have HP:=lHd (uZp (V:=V) he);have hne:(V (k:Int) (j:Int)==1000000000)=false:=by simpa using he
      clear he;go_wp2
      go_roundw
      case rel=>exact⟨j+1,by omega,by omega,by go_num,by rw[HP.out];exact ho5,bch,(by simp[Cls,go_sem,Fs])⟩
      case measure=>simp[intOf];omega
    ·obtain rfl:j=n:=by omega
     have HP:=lHd (uZ4 j V k);go_wp2
     go_roundw
     case rel=>exact⟨k+1,by omega,by go_num,by rw[<- HP.out];exact ho5,bch,(by simp[Cls,go_sem,Fs])⟩
     case measure=>simp[intOf];omega
  ·obtain rfl:k=n:=by omega
   have DR:=D2.trans (hBr.mono D2.size);go_wp2;refine bodyPost_ret (v:=.tuple #[u6,.agg #[.int .i64 0,.int .i64 0]]) ?_ rfl ⟨u6,V,rfl,⟨w2.heap.size,by omega,?_⟩,HBE.out,bch⟩
   ·simp[results,results16,go_sem,Fr]
   ·repeat (first|with_reducible exact hown|with_reducible apply OwnPP.drew|(with_reducible refine OwnPP.far ?_ ?_ _;rotate_left;(first|omega|(simp;omega))))
end
def uXh(a b:List Int):List Int:=a.filter fun x=>decide (x∈b)
theorem uXl{a b:List Int}{x:Int}:x∈uXh a b↔x∈a/\x∈b:=by
 unfold uXh;rw[List.mem_filter,decide_eq_true_iff]
def kvV(P A del g:List Int):Bool:=
 match P,A with
 |_::_::_,_=>true
 |_,[]=>true
 |_,_::_::_=>false
 | [p],[a]=>decide (p=a)||decide (p∈del)
 | [],[a]=>g.all fun x=>decide (x∈del\/x=a)
def uXn(o:OpV)(g:List Int):Bool:=kvV (uXh o.pre g) (uXh o.add g) o.del g
theorem uQb{P A del g:List Int}(h:1<P.length):kvV P A del g=true:=by
 match P with
 | [] | [_]=>simp at h
 |_::_::_=>rfl
theorem uQc{P A del g:List Int}(h:A.length=0):kvV P A del g=true:=by
 obtain rfl:=List.eq_nil_of_length_eq_zero h
 match P with
 | [] | [_]|_::_::_=>rfl
theorem uQo{P A del g:List Int}(h:¬1<P.length)(h2:1<A.length):kvV P A del g=false:=by
 match P,A with
 |_::_::_,_=>simp at h
 | [],[] | [_],[] | [],[_] | [_],[_]=>simp at h2
 | [],_::_::_ | [_],_::_::_=>rfl
def uXo(t:TaskV)(g:List Int):Bool:=decide ((uXh t.init g).length<=1)&&t.ops.all fun o=>uXn o g
def AM(s g:List Int):Prop:=∀x∈g,∀y∈g,x∈s->y∈s->x=y
theorem uQ1{n:Nat}{o:OpV}{g s:List Int}(hp:o.pre.Nodup)(h:uXn o g=true)(hs:∀q∈o.pre,q∈s)(ha:AM s g):AM (xJb n s o) g:=by
 intro x hx y hy hxs hys;have hxs:=(xXa.1 hxs).2;have hys:=(xXa.1 hys).2;have nd:(uXh o.pre g).Nodup:=hp.filter _;have hpre:∀q,q∈uXh o.pre g->q∈g/\q∈s:=fun q hq=>⟨(uXl.1 hq).2,hs q (uXl.1 hq).1⟩
 have hadd:∀q,q∈o.add->q∈g->q∈uXh o.add g:=fun q h1 h2=>uXl.2 ⟨h1,h2⟩
 unfold uXn kvV at h;generalize uXh o.pre g=P at *;generalize uXh o.add g=A at *
 match P,A with
 |p::q::r,_=>
  have h1:=hpre p (by simp);have h2:=hpre q (by simp);have:=ha p h1.1 q h2.1 h1.2 h2.2;subst this;simp at nd
 | [],[] | [_],[]=>
  rcases hxs with h1|h1
  ·cases hadd x h1 hx
  ·rcases hys with h2|h2
   ·cases hadd y h2 hy
   ·exact ha x hx y hy h1.1 h2.1
 | [],_::_::_ | [_],_::_::_=>cases h
 | [p],[a]=>
  have hp:=hpre p (by simp);have ea:=fun q h1 h2=>by simpa using hadd q h1 h2
  have es:=fun q h1 h2=>ha q h1 p hp.1 h2 hp.2
  simp only[Bool.or_eq_true,decide_eq_true_eq] at h;have e:∀q,q∈g->(q∈o.add\/q∈s/\¬q∈o.del)->q=a:=fun q h1 h2=>by
   rcases h2 with h2|⟨h2,h3⟩
   ·exact ea q h2 h1
   ·have:=es q h1 h2;subst this;rcases h with h|h
    ·exact h
    ·exact absurd h h3
  rw[e x hx hxs,e y hy hys]
 | [],[a]=>
  have ea:=fun q h1 h2=>by simpa using hadd q h1 h2
  rw[List.all_eq_true] at h;have e:∀q,q∈g->(q∈o.add\/q∈s/\¬q∈o.del)->q=a:=fun q h1 h2=>by
   rcases h2 with h2|⟨h2,h3⟩
   ·exact ea q h2 h1
   ·have:=h q h1;simp only[decide_eq_true_eq] at this;rcases this with h|h
    ·exact absurd h h3
    ·exact h
  rw[e x hx hxs,e y hy hys]
theorem uQ2{n:Nat}{t:TaskV}{g l:List Int}{c:Int}(hops:∀o∈t.ops,o.pre.Nodup)(h:uXo t g=true)(hl:Cst n t.ops t.init l c):AM l g:=by
 unfold uXo at h;rw[Bool.and_eq_true,decide_eq_true_eq,List.all_eq_true] at h
 induction hl with
 |init=>
  intro x hx y hy h1 h2;have hx':=uXl.2 ⟨h1,hx⟩;have hy':=uXl.2 ⟨h2,hy⟩;have hl:=h.1;generalize uXh t.init g=L at *
  match L with
  | []=>cases hx'
  | [a]=>simp at hx' hy';rw[hx',hy']
  |_::_::_=>simp at hl
 | @step l c p o _ hp hq ih=>exact uQ1 (hops o (lMg hp)) (h.2 o (lMg hp)) hq ih
theorem uZc{s:List Int}:∀ {g:List Int},g.Nodup->AM s g->(g.filter fun x=>decide (x∈s)).length<=1
 | [],_,_=>by simp
 |a::g,hn,h=>by
  have hn:=List.nodup_cons.1 hn;have h2:=uZc hn.2 (fun x hx y hy=>h x (List.mem_cons_of_mem _ hx) y (List.mem_cons_of_mem _ hy));rw[List.filter_cons]
  split
  ·rename_i ha
   have hz:g.filter (fun x=>decide (x∈s))=[]:=by
    rw[List.filter_eq_nil_iff];intro x hx hxs;have:=h a (by simp) x (by simp[hx]) (by simpa using ha) (by simpa using hxs);subst this;exact hn.1 hx
   rw[hz];simp
  ·exact h2
section
open Go.Shelf
theorem uQ4{a b:List Int}{k:Nat}{x:Int}(hx:a[k]? = some x)(h:decide (x∈b)=true):uXh (a.take k) b ++ [x]=uXh (a.take (k+1)) b:=by
 unfold uXh;rw[vXd,hx,List.filter_append];simp[of_decide_eq_true h]
theorem uQh{a b:List Int}{k:Nat}{x:Int}(hx:a[k]? = some x)(h:decide (x∈b)=false):uXh (a.take (k+1)) b=uXh (a.take k) b:=by
 unfold uXh;rw[vXd,hx,List.filter_append];simp[of_decide_eq_false h]
theorem uXw(a b:List Int):(uXh a b).length<=a.length:=List.length_filter_le _ _
theorem uZd(w:World)(A B:Option Addr)(c d:Nat)(a b:List Int)(hA:Ints w A a)(hB:Ints w B b)(hla:a.length<=100000000000)(hlb:b.length<=100000000000)(hsb:b.Pairwise (· < ·)) :
  Calls prog 108 #[.slice A a.length c,.slice B b.length d] w fun e w'=>∃v,e=.returned v/\OwnI w.heap.size w' v (uXh a b)/\Below w.heap.size w w':=by
 have HS:=lHd hsb;clear hsb;go_enter func108,ntmps108
 go_wp2_with fail
 go_loopw [5,12] (fun v i wr=>∃k:Nat,k<=a.length/\i=.int .i64 k/\OwnI (w.heap.size) wr v (uXh (a.take k) b)/\Below w.heap.size w wr) (fun _ i _=>a.length-(intOf i).toNat)
 case atStart=>exact⟨0,zKk _,rfl,OwnI.nil _ _,Below.refl _ _⟩
 case round=>
  obtain⟨k,hk,rfl,hown,hBr⟩:=hrel;obtain⟨w2,rfl⟩:∃wo:World,wo=wr:=⟨_,rfl⟩;have hlen:(uXh (a.take k) b).length<1000000000000:=by
   have h1:=uXw (a.take k) b;rw[List.length_take] at h1;omega
  by_cases hlt:k<a.length
  ·obtain⟨ad,x,rfl,hx,hcx⟩:=(hA.below hBr).at_ hlt
   cases hd:decide (x∈b) with
   |false=>
    have HD:=lHd hd;have HF:=lHd (uQh hx.out hd);clear hd
    go_wp2_with fail
    refine(uXb _ _ _ _ _ false HD.out (hB.below bch) (by omega) HS.out).mono ?_;rintro e w1 ⟨kf,rfl,hB1⟩;have D1:=xJ3 w hB1 bch;have d1s:=D1.size;have Ew2_1:=xJ3 w2 hB1 bch;go_wp2
    go_roundw
    case rel=>exact⟨k+1,by omega,by go_num,by rw[HF.out];exact hown.below bch,bch⟩
    case measure=>simp[intOf];omega
   |true=>
    have HD:=lHd hd;have HF:=lHd (uQ4 hx.out hd);clear hd
    go_wp2_with fail
    refine(uXb _ _ _ _ _ true HD.out (hB.below bch) (by omega) HS.out).mono ?_;rintro e w1 ⟨kf,rfl,hB1⟩;have D1:=xJ3 w hB1 bch;have d1s:=D1.size;have Ew2_1:=xJ3 w2 hB1 bch;have hown1:=hown.below bch
    go_wp2_with (at_builtin;go_must (refine xXr rfl (.tmp 23) (.tmp 25) rfl w [] (w.heap.size) u5 _ (x) rfl (OwnI.below hown1 ?p1) ⟨w1.heap.size,0,none⟩ 1 rfl ?p2 hlen ?p3 ?p4 ?p5 ?p6 ?p7 ?_;(case p1=>exact bch);(case p2=>simp[go_sem]);(case p3=>(first|omega|(simp<;>omega)));(case p4=>(first|omega|(simp<;>omega)));(case p5=>exact bch);(case p6=>simp[Cls,go_sem]);(case p7=>(simp<;>omega));intro v2 w2 o2 D2 C2 sz2;have d2s:=D2.size))
    go_roundw
    case rel=>exact⟨k+1,by omega,by go_num,by rw[<- HF.out];exact o2,bch⟩
    case measure=>simp[intOf];omega
  ·obtain rfl:k=a.length:=by omega
   have HTK:=lHd (yQ7 (l:=a));go_wp2;go_ret;exact⟨_,rfl,by rw[HTK.out] at hown;exact hown,hBr⟩
def uQp(x:Int)(p:Nat):Bool:=bits BinOp.and IntKind.i64 (x/2^p) 1==1
def uXp(x:Int)(n:Nat):List Int:=((List.range n).filter (uQp x)).map Int.ofNat
theorem uXx(x:Int)(n:Nat):SetP (uXp x n) (n:Int):=by
 refine SetP.of_pairwise (fun y hy=>?_) ?_
 ·unfold uXp at hy;obtain⟨p,hp,rfl⟩:=vWz.1 hy;have:=yYq.1 (List.mem_filter.1 hp).1;exact⟨Int.natCast_nonneg _,by show(p:Int)<_;omega⟩
 ·unfold uXp;rw[List.pairwise_map];exact List.Pairwise.imp (fun h=>by show(Int.ofNat _)<Int.ofNat _;exact Int.ofNat_lt.2 h) (List.pairwise_lt_range.filter _)
theorem uQ5{x:Int}{k:Nat}(h:uQp x k=true):uXp x k ++ [(k:Int)]=uXp x (k+1):=by
 unfold uXp;rw[List.range_succ,List.filter_append,vQu];simp[h]
theorem uQi{x:Int}{k:Nat}(h:uQp x k=false):uXp x (k+1)=uXp x k:=by
 unfold uXp;rw[List.range_succ,List.filter_append,vQu];simp[h]
theorem uQ6(w:World)(x:Int)(hx0:0<=x)(hx1:x<1048576)(n:Nat)(hn:n<=24) :
  Calls prog 50 #[.int .i64 x,.int .i64 n] w fun e w'=>∃v,e=.returned v/\OwnI w.heap.size w' v (uXp x n)/\Below w.heap.size w w':=by
 go_enter func50,ntmps50
 go_wp2_with fail
 go_loopw [5,8] (fun v i wr=>∃k:Nat,k<=n/\i=.int .i64 k/\OwnI (w.heap.size) wr v (uXp x k)/\Below w.heap.size w wr) (fun _ i _=>n-(intOf i).toNat)
 case atStart=>exact⟨0,zKk _,rfl,OwnI.nil _ _,Below.refl _ _⟩
 case round=>
  obtain⟨k,hk,rfl,hown,hBr⟩:=hrel;obtain⟨w2,rfl⟩:∃wo:World,wo=wr:=⟨_,rfl⟩;have dRs:=hBr.size;have hlen:(uXp x k).length<1000000000000:=by have:=(uXx x k).length (by omega);omega
  by_cases hlt:k<n
  ·cases hd:uQp x k with
   |false=>
    have HF:=lHd (uQi hd);unfold uQp at hd;go_wp2
    go_roundw
    case rel=>exact⟨k+1,by omega,by go_num,by rw[HF.out];exact hown,hBr⟩
    case measure=>simp[intOf];omega
   |true=>
    have HF:=lHd (uQ5 hd);unfold uQp at hd
    go_wp2_with (at_builtin;go_must (refine xXr rfl (.tmp 16) (.tmp 18) rfl w [] (w.heap.size) u5 _ ((k:Int)) rfl (OwnI.below hown ?p1) ⟨w2.heap.size,0,none⟩ 1 rfl ?p2 hlen ?p3 ?p4 ?p5 ?p6 ?p7 ?_;(case p1=>exact bch);(case p2=>simp[go_sem]);(case p3=>(first|omega|(simp<;>omega)));(case p4=>(first|omega|(simp<;>omega)));(case p5=>exact bch);(case p6=>simp[Cls,go_sem]);(case p7=>(simp<;>omega));intro v1 w1 o1 D1 C1 sz1;have d1s:=D1.size))
    go_roundw
    case rel=>exact⟨k+1,by omega,by go_num,by rw[<- HF.out];exact o1,bch⟩
    case measure=>simp[intOf];omega
  ·obtain rfl:k=n:=by omega
   go_wp2;go_ret;exact⟨_,rfl,hown,hBr⟩
end
section
open Go.Shelf
theorem uZ1{w:World}{A B:Option Addr}{c d:Nat}{a b P:List Int}(hP:uXh a b=P)(hA:Ints w A a)(hB:Ints w B b)(hla:a.length<=100000000000)(hlb:b.length<=100000000000)(hsb:b.Pairwise (· < ·)) :
  Calls prog 108 #[.slice A a.length c,.slice B b.length d] w fun e w'=>(∃A5 c5,e=.returned (.slice A5 P.length c5)/\Ints w' A5 P/\Hid (A5=none->c5=0))/\Below w.heap.size w w':=
 (uZd w A B c d a b hA hB hla hlb hsb).mono fun e w' ⟨v,h1,h2,h3⟩=>by
  rw[hP] at h2;obtain⟨A5,c5,rfl,hn,hI⟩:=h2.form;exact⟨⟨A5,c5,h1,hI,lHd fun h=>(hn h).2⟩,h3⟩
theorem uZy(w:World)(o:OpV)(A0 A1 A2:Option Addr)(c0 c1 c2:Nat)(g:List Int)(G:Option Addr)(cg:Nat)(hm:OpMem w A0 A1 A2 o)(hG:Ints w G g){n:Nat}(hn:n<=24)(hp:SetP o.pre (n:Int))(ha:SetP o.add (n:Int))(hd:SetP o.del (n:Int))(hg:SetP g (n:Int)) :
  Calls prog 110 #[.agg #[.slice A0 o.pre.length c0,.slice A1 o.add.length c1,.slice A2 o.del.length c2,.int .i64 o.cost],.slice G g.length cg] w fun e w'=>e=.returned (.bool (uXn o g))/\Below w.heap.size w w':=by
 obtain⟨P,HP⟩:∃P,Hid (uXh o.pre g=P):=⟨_,lHd rfl⟩;obtain⟨A,HA⟩:∃A,Hid (uXh o.add g=A):=⟨_,lHd rfl⟩;obtain⟨v,HVA⟩:∃v,Hid (uXn o g=v):=⟨_,lHd rfl⟩;have HK:Hid (kvV P A o.del g=v):=lHd (by rw[<- HP.out,<- HA.out];exact HVA.out);have hlp:o.pre.length<=100000000000:=by have:=hp.length (by omega);omega
 have hla:o.add.length<=100000000000:=by have:=ha.length (by omega);omega
 have hld:o.del.length<=100000000000:=by have:=hd.length (by omega);omega
 have hlg:g.length<=1000000:=by have:=hg.length (by omega);omega
 have hlP:P.length<=100000000000:=by rw[<- HP.out];exact yJ1 (uXw _ _) hlp
 have hlA:A.length<=100000000000:=by rw[<- HA.out];exact yJ1 (uXw _ _) hla
 have HSG:=lHd hg.pairwise;have HUL:Hid (∀a,A=[a]->(zQ9 o.del [a] []).length<=24):=lHd (fun a h=>by
  have h1:a∈uXh o.add g:=by rw[HA.out,h];simp
  have h2:=SetP.of_pairwise (vJp (n:=n) hd.1 (k:=[a]) (fun x hx=>by simp at hx;subst hx;exact ha.1 _ (uXl.1 h1).1)) (uQ0 _ _ _);have:=h2.length (by omega);omega)
 rw[HVA.out];clear hp ha hd hg hn;go_enter func110,ntmps110
 go_wp2_with fail
 go_upto_region 1 with fail
 go_cut [5,6] (fun s5 s6 wx=>∃(A5 A6:Option Addr) (c5 c6:Nat),s5=.slice A5 P.length c5/\s6=.slice A6 A.length c6/\Ints wx A5 P/\Ints wx A6 A/\Hid (A6=none->c6=0)/\Below w.heap.size w wx/\Cls wx [(w.heap.size,0,.slice A0 o.pre.length c0),(w.heap.size,1,.slice A1 o.add.length c1),(w.heap.size,2,.slice A2 o.del.length c2),(w.heap.size,3,.int .i64 o.cost)])
 case first=>
  refine wp_region_held_drew (S:=fun W=>W.cell? ⟨w.heap.size,0,none⟩=some (.slice A0 o.pre.length c0)/\W.cell? ⟨w.heap.size,1,none⟩=some (.slice A1 o.add.length c1)/\W.cell? ⟨w.heap.size,2,none⟩=some (.slice A2 o.del.length c2)/\W.cell? ⟨w.heap.size,3,none⟩=some (.int .i64 o.cost)) (by kernel_rfl) (by simp[go_sem]) (fun hHeld=>?_);refine tkH 0 ?_;refine tkH 1 ?_;refine tkH 2 ?_;refine tkH 4 ?_;refine tkH 5 ?_;refine tkH 6 ?_;refine hrd 3 (fun K hK=>?bo11x3)
  case bo11x3=>
   go_simp;go_at_call 108;refine(uZ1 (HP.out) (hm.pre.below bch) (hG.below bch) hlp (by omega) HSG.out).mono ?_;rintro e w1 ⟨⟨A5,c5,rfl,hI5,hn5⟩,hB1⟩;have D1:=xJ3 w hB1 bch;have C1:=Cls.below (l:=[(w.heap.size,0,.slice A0 o.pre.length c0),(w.heap.size,1,.slice A1 o.add.length c1),(w.heap.size,2,.slice A2 o.del.length c2),(w.heap.size,3,.int .i64 o.cost)]) hB1 (by simp[Cls,go_sem]);have F1:=C1.f;have y1w0:=C1.b 0
   go_wp2_with fail
   refine hK.out _ _ (by have q:=C1;simp only[Cls,and_true] at q;simp[q]) (fun hHeld=>?_);clear hK K
   try simp only[ap]
   refine hrd 7 (fun K hK=>?bo12x7)
   case bo12x7=>
    go_simp;go_at_call 108;refine(uZ1 (HA.out) (hm.add.below bch) (hG.below bch) hla (by omega) HSG.out).mono ?_;rintro e w2 ⟨⟨A6,c6,rfl,hI6,hn6⟩,hB2⟩;have D2:=xJ3 w hB2 bch;have Ew1_2:=xJ3 w1 hB2 bch;have C2:=Cls.below (l:=[(w.heap.size,0,.slice A0 o.pre.length c0),(w.heap.size,1,.slice A1 o.add.length c1),(w.heap.size,2,.slice A2 o.del.length c2),(w.heap.size,3,.int .i64 o.cost)]) hB2 (by simp[Cls,go_sem,F1]);have y2w0:=C2.b 0
    go_wp2_with fail
    refine hK.out _ _ (by have q:=C2;simp only[Cls,and_true] at q;simp[q]) (fun hHeld=>?_);clear hK K
    try simp only[ap]
    refine tkH 8 ?_;refine tkH 9 ?_;refine hdn ?_ _
    go_wp2_with fail
    go_meet
    exact⟨A5,A6,c5,c6,rfl,rfl,hI5.below bch,hI6.below bch,hn6,D2,C2⟩
 case rest=>
  obtain⟨A5,A6,c5,c6,rfl,rfl,hI5,hI6,hn6,Dc,Cc⟩:=hcut;have Fc:=Cc.f;have ycw0:=Cc.blk (b:=w.heap.size) (k:=0) (v:=.slice A0 o.pre.length c0) (by simp)
  by_cases h1:1<P.length
  ·obtain rfl:v=true:=HK.out.symm.trans (uQb h1);have d1:decide ((P.length:Int)>1)=true:=zWo (by omega);go_wp2;refine bodyPost_ret ?_ rfl ⟨rfl,bch⟩;simp[results,results110,go_sem]
  ·have d1:decide ((P.length:Int)>1)=false:=zVa (by omega)
   by_cases h2:A.length=0
   ·obtain rfl:v=true:=HK.out.symm.trans (uQc h2);have d2:((A.length:Int)==0)=true:=by simp[h2]
    go_wp2;refine bodyPost_ret ?_ rfl ⟨rfl,bch⟩;simp[results,results110,go_sem]
   ·have d2:((A.length:Int)==0)=false:=by simpa using h2
    by_cases h3:1<A.length
    ·obtain rfl:v=false:=HK.out.symm.trans (uQo h1 h3);have d3:decide ((A.length:Int)>1)=true:=zWo (by omega);go_wp2;refine bodyPost_ret ?_ rfl ⟨rfl,bch⟩;simp[results,results110,go_sem]
    ·have d3:decide ((A.length:Int)>1)=false:=zVa (by omega);obtain⟨a,rfl⟩:∃a,A=[a]:=by
      match A,h2,h3 with
      | [a],_,_=>exact⟨a,rfl⟩
      | [],h,_=>exact absurd rfl h
      |_::_::_,_,h=>simp at h
     by_cases h4:P.length=1
     ·obtain⟨p,rfl⟩:∃p,P=[p]:=by
       match P,h4 with
       | [p],_=>exact⟨p,rfl⟩
       | [],h|_::_::_,h=>simp at h
      clear h1 h2 h3 h4 d1 d2 d3;obtain⟨ad5,x,rfl,hx,hc5⟩:=hI5.at_ (show 0 < [p].length by simp);obtain⟨ad6,y,rfl,hy,hc6⟩:=hI6.at_ (show 0 < [a].length by simp);obtain rfl:p=x:=by have:=hx.out;simpa using this
      obtain rfl:a=y:=by have:=hy.out;simpa using this
      have hz5:wc.cell? ad5=some (.int .i64 p):=by have:=hc5;rwa [add_zero] at this
      have hz6:wc.cell? ad6=some (.int .i64 a):=by have:=hc6;rwa [add_zero] at this
      have hvv:v=(decide (p=a)||decide (p∈o.del)):=HK.out.symm
      by_cases h5:p=a
      ·obtain rfl:v=true:=by rw[hvv];simp[h5]
       subst h5;clear hvv
       go_wp2_with fail
       go_quiet (fail)
       go_wp2;refine bodyPost_ret ?_ rfl ⟨rfl,bch⟩;simp[results,results110,go_sem]
      ·have d5:(p==a)=false:=by simpa using h5
       obtain⟨u,hu⟩:∃u,Hid (decide (p∈o.del)=u):=⟨_,lHd rfl⟩;obtain rfl:v=u:=by rw[hvv,hu.out];simp[h5]
       clear hvv h5
       go_wp2_with fail
       go_quiet ((go_at_call 67;exact Calls.quiet_of_same ((xJ9 _ _ _ _ _ _ (hm.del.below bch) (by omega) hu.out).mono fun _ _ h=>h)))
       go_wp2;refine bodyPost_ret ?_ rfl ⟨rfl,bch⟩;simp[results,results110,go_sem]
     ·obtain rfl:P=[]:=by
       match P,h1,h4 with
       | [],_,_=>rfl
       | [_],_,h=>exact absurd rfl h
       |_::_::_,h,_=>simp at h
      clear h1 h2 h3 h4 d1 d2 d3;have hvv:(∀q∈g,q∈zQ9 o.del [a] [])↔v=true:=by
       rw[<- HK.out];show _↔(g.all fun x=>decide (x∈o.del\/x=a))=true;rw[List.all_eq_true];constructor
       ·exact fun h q hq=>zWo (by rcases zJs.1 (h q hq) with h2|h2;exact .inr (by simpa using h2);exact .inl h2.1)
       ·exact fun h q hq=>zJs.2 (by rcases of_decide_eq_true (h q hq) with h2|h2;exact .inr ⟨h2,by simp⟩;exact .inl (by simpa using h2))
      have HW:=lHd hvv;have HU:=lHd (uQ0 o.del [a] []);clear hvv
      go_wp2_with fail
      go_at_call 137;refine(yJ4 _ _ _ _ _ o.del [a] (hm.del.below bch) (hI6.below bch) hld (by simp) hn6.out).mono ?_;rintro e w10 ⟨v8,rfl,hO8,hB10⟩;have D10:=xJ3 w hB10 bch;have C10:=Cls.below (l:=[(w.heap.size,0,.slice A0 o.pre.length c0),(w.heap.size,1,.slice A1 o.add.length c1),(w.heap.size,2,.slice A2 o.del.length c2),(w.heap.size,3,.int .i64 o.cost)]) hB10 (by simp[Cls,go_sem,Fc]);have y10w0:=C10.b 0;obtain⟨A8,c8,rfl,hn8,hI8⟩:=hO8.form
      go_wp2_with fail
      refine(vJ3 _ _ _ _ _ _ _ _ hI8 (hG.below bch) (by have:=HUL.out a rfl;omega) (by omega) HU.out HSG.out HW.out).mono ?_;rintro e w9 ⟨rfl,rfl⟩;go_wp2;refine bodyPost_ret ?_ rfl ⟨rfl,bch⟩;simp[results,results110,go_sem]
end
