/-
  Lemmas.
-/
import Derived.Test.YtjjjeohejhmpoaaGreatX6
import Derived.Laws.CopyOwn
set_option linter.unusedVariables false
set_option linter.unusedSimpArgs false
set_option maxRecDepth 100000
set_option maxHeartbeats 4000000
namespace Go.Proofs.YtjjjeohejhmpoaaGreat
open Go.RowKit Go.Proofs.Tryz
theorem vVz{α:Type}{P:World->Option Nat->List Value->α->Prop}{e:TypeId}{size base:Nat}{w:World}{v:Value}{els:List α}(hP:Stable P)(T:TypeId)(bytes:Nat)(z:Value)(hT:prog.underlying T=some (.slice e))(hinf:(prog.info? e).map (fun i=>(i.zero,i.size,i.bytes))=some (some z,size,bytes))(hzs:z.cells.size=size)(hsz:0<size)(hby:bytes<=64)
  {ops:Array Oper} {rest:List Oper} {o:Oper} {a:Act} {Q:Exit->Act->World->Prop} (hgd:o.guard=none) (s x:Operand)
  (ho:o.op=.call { callee:=.builtin .append,args:=#[s,x],argTypes:=#[T,T] })
  (w0:World) (l:List (Nat×Nat×Value)) (hs:a.eval s=v) (hown:OwnEs P e size base w v els) (ad:Addr) (k m:Nat) (hx:a.eval x=.slice (some ad) k m) (news:List Value) (ys:List α) (hyl:ys.length=k) (hnl:news.length=k*size) (hnews:∀j u,news[j]? = some u->w.cell? (ad.add j)=some u) (h1:∀u∈news,u.oneCell'=true) (hy:∀i y,ys[i]? = some y->P w v.ownBlock ((news.drop (i*size)).take size) y)
  (hlen:els.length<1000000000000) (hk:k<1000000) (hbase:base<=w.heap.size) (h0:w0.heap.size<=base) (hB:Below w0.heap.size w0 w) (hC:Cls w l) (hl:∀x∈l,x.1<base)
  (h:∀v' w',OwnEs P e size base w' v' (els++ys)->Below w0.heap.size w0 w'->Cls w' l->w.heap.size<=w'.heap.size->w.grownBy w' v.ownBlock->(v'.ownBlock=v.ownBlock\/v'.ownBlock=some w.heap.size)->wpList prog ops Q rest (a.put o.dst v') w') :
  wpList prog ops Q (o::rest) a w:=by
 obtain⟨i0,hi0,hz⟩:=vYt.1 hinf;simp only[Prod.mk.injEq] at hz;obtain⟨cells,hr,hcs⟩:=hown;have hcl:=hr.1;refine wpList_append_own_at w hgd s x T ho base e i0 z size bytes hT hi0 hz.1 hz.2.1 hz.2.2 hzs hsz v els.length cells hs hr ad k m news hx hnl hnews h1 ?_ ?_ hbase ?_
 ·simp only[maxLen];omega
 ·have:=Nat.mul_le_mul_left (els.length+k) hby;omega
 ·intro v' w' h2 h3 _ h4;refine h v' w' ⟨cells++news,by rw[List.length_append,hyl];exact h2,fun i a ha=>?_⟩ ?_ ?_ h3.size h3 h4
  ·have key:∀ {cs:List Value} {a:α},P w v.ownBlock cs a->P w' v'.ownBlock cs a:=fun hp=>by
    rcases h4 with h4|h4
    ·rw[h4];exact(hP.grown hp h3).1
    ·rw[h4];exact(hP.grown hp h3).2
   rcases vVq i els.length with hi|hi
   ·rw[yJ0 hi] at ha;have hle:i*size+size<=els.length*size:=by
     have:=Nat.mul_le_mul_right size (show i+1<=els.length from hi);rw[Nat.succ_mul] at this;exact this
    have e1:((cells++news).drop (i*size)).take size=(cells.drop (i*size)).take size:=by
     rw[List.drop_append_of_le_length (by omega),List.take_append_of_le_length (by rw[List.length_drop];omega)]
    rw[e1];exact key (hcs i a ha)
   ·rw[List.getElem?_append_right hi] at ha;have e1:((cells++news).drop (i*size)).take size=(news.drop ((i-els.length)*size)).take size:=by
     have h5:i*size=cells.length+(i-els.length)*size:=by
      rw[hcl,<- Nat.add_mul];congr 1;omega
     rw[h5,List.drop_length_add_append]
    rw[e1];exact key (hy _ _ ha)
  ·exact hB.grown h3 (yJ1 h0 hbase) (fun k hk=>yJ1 h0 (hr.lt k hk).1)
  ·exact hC.grown hr h3 hl
def PRw(N base:Nat)(w:World)(row:Option Nat)(cs:List Value)(x:Nat×(Nat->Int)):Prop:=
 cs=[.slice (some ⟨x.1,0,none⟩) N N]/\IArr w x.1 (xJd N x.2)/\row≠some x.1/\base<=x.1
theorem xWk(N base:Nat):Stable (PRw N base):=by
 constructor
 ·rintro w w' row cs x ⟨e,hI,hn,hb⟩ hB;exact⟨e,hI.below hB,hn,hb⟩
 ·rintro w w' row cs x ⟨e,hI,hn,hb⟩ hg;have hI':IArr w' x.1 (xJd N x.2):=Arr.grown hI hg hn;exact⟨⟨e,hI',hn,hb⟩,⟨e,hI',fun h=>by injection h with h;have:=hI.lt;omega,hb⟩⟩
def OwnRw(N base:Nat)(w:World)(v:Value)(els:List (Nat×(Nat->Int))):Prop:=OwnEs (PRw N base) 22 1 base w v els
section
variable {N base:Nat}{w w':World}{v:Value}{els:List (Nat×(Nat->Int))}
theorem OwnRw.below(h:OwnRw N base w v els)(hb:Below w.heap.size w w'):OwnRw N base w' v els:=OwnEs.below (xWk _ _) h hb
theorem OwnRw.far(h:OwnRw N base w v els){p:Addr}(hp:p.block<base)(u:Value):OwnRw N base (w.setCell p u) v els:=
 OwnEs.far h (fun {w row cs a p u} h hp=>⟨h.1,IArr.far h.2.1 (fun e=>by have:=h.2.2.2;omega) _,h.2.2.1,h.2.2.2⟩) hp u
theorem OwnRw.other{r:Option Nat}(h:OwnRw N base w v els)(hg:w.grownBy w' r)(h1:∀k,v.ownBlock=some k->r≠some k)(h2:∀x∈els,r≠some x.1):OwnRw N base w' v els:=by
 obtain⟨cells,⟨a1,a2⟩,h3⟩:=h;refine⟨cells,⟨a1,?_⟩,fun i a ha=>?_⟩
 ·rcases a2 with a2|⟨g,cap,cur,hv,hb,hh,rr⟩
  ·exact Or.inl a2
  ·refine Or.inr ⟨g,cap,cur,hv,hb,?_,rr⟩;have hlt:g<w.heap.size:=by
    rcases vVq g w.heap.size with hl|hl
    ·exact hl
    ·rw[yYd hl] at hh;cases hh
   rw[hg.block g hlt (fun e=>h1 g (by rw[hv];rfl) e.symm)];exact hh
 ·obtain⟨e,hI,hn,hb⟩:=h3 i a ha;exact⟨e,Arr.grown hI hg (h2 a (lMg ha)),hn,hb⟩
theorem OwnRw.tab{m:Nat}{bs:Nat->Nat}{T:Nat->Nat->Int}{b c:Nat}{A:Option Addr}{AB:Option Addr}{cB:Nat}{base0:Nat}(h:OwnRw N base w (.slice A (m+2) c) els)(hl:els.length=m+2)
  (hT:∀(i:Nat) (x:Nat×(Nat->Int)),els[i]? = some x->∀j,j<N->x.2 j=T i j) (hnd:∀(i k:Nat) (x y:Nat×(Nat->Int)),i≠k->els[i]? = some x->els[k]? = some y->x.1≠y.1)
  (hb0:w.cell? ⟨b,0,none⟩=some (.slice A (m+2) c)) (hb1:w.cell? ⟨b,1,none⟩=some (.slice AB m cB)) (hb2:w.cell? ⟨b,2,none⟩=some (.int .i64 1)) (hf:w.frozen? ⟨b,2,none⟩=false) (hbb:b<base) (hbb0:base0<=b)
  (hB:OwnI base w (.slice AB m cB) (xQo m bs)) (hsep:∀ad,AB=some ad->A≠some ⟨ad.block,0,none⟩/\∀x∈els,ad.block≠x.1) :
  ∃L:TbLay,L.b=b/\TbMem base0 w L m N bs T 1:=by
 have h0:0<els.length:=by omega
 obtain⟨gR,_,_,rfl,hgR,hgRl,_⟩:=OwnEs.at_ h (i:=0) h0;have hel:∀i,i<m+2->∃x,els[i]? = some x:=fun i hi=>⟨_,lGe (by omega)⟩
 have hat:∀i x,els[i]? = some x->w.cell? ⟨gR,i,none⟩=some (.slice (some ⟨x.1,0,none⟩) N N)/\IArr w x.1 (xJd N x.2)/\gR≠x.1/\base<=x.1:=fun i x hx=>by
  obtain⟨g',cs,a,e,_,_,ha,_,hc,hp⟩:=OwnEs.at_ h (i:=i) (zQ1.1 hx).1;injection e with e
  injection e with e
  subst e;have hax:a=x:=by have:=ha.out;rw[hx] at this;injection this with this;exact this.symm
  subst hax;obtain⟨e1,hI,hn,hb⟩:=hp;subst e1;have h1:=hc 0 _ rfl;rw[Nat.mul_one,Nat.add_zero] at h1;exact⟨h1,hI,fun e=>hn (by rw[e]),hb⟩
 refine⟨⟨b,gR,c,fun i=>((els[i]?).getD (0,fun _=>0)).1,AB,cB⟩,rfl,{ box0:=hb0,box1:=hb1,box2:=hb2,free2:=hf,out:=fun i hi=>?_,row:=fun i hi=>?_,basis:=OwnI.mono hB (by omega),sep:=fun i hi=>?_,inj:=fun i k hi hk hne=>?_,sepB:=⟨hbb0,by show base0<=gR;omega,by show b≠gR;omega,fun ad hA=>⟨?_,?_⟩⟩ }⟩
 ·obtain⟨x,hx⟩:=hel i hi;show w.cell? ⟨gR,i,none⟩=some (.slice (some ⟨((els[i]?).getD (0,fun _=>0)).1,0,none⟩) N N);rw[hx];exact(hat i x hx).1
 ·obtain⟨x,hx⟩:=hel i hi;show IArr w ((els[i]?).getD (0,fun _=>0)).1 _;rw[hx,xJc (g:=x.2) fun j hj=>(hT i x hx j hj).symm];exact(hat i x hx).2.1
 ·obtain⟨x,hx⟩:=hel i hi;show base0<=((els[i]?).getD (0,fun _=>0)).1/\((els[i]?).getD (0,fun _=>0)).1≠b/\((els[i]?).getD (0,fun _=>0)).1≠gR/\∀ad,AB=some ad->ad.block≠((els[i]?).getD (0,fun _=>0)).1;rw[hx];have h3:=(hat i x hx).2.2;exact⟨by have:=h3.2;show base0<=x.1;omega,by have:=h3.2;show x.1≠b;omega,fun e=>h3.1 e.symm,fun ad hA=>(hsep ad hA).2 x (lMg hx)⟩
 ·obtain⟨x,hx⟩:=hel i hi;obtain⟨y,hy⟩:=hel k hk;show((els[i]?).getD (0,fun _=>0)).1≠((els[k]?).getD (0,fun _=>0)).1;rw[hx,hy];exact hnd i k x y hne hx hy
 ·show ad.block≠b;subst hA;have:=(hB.blk_ ad rfl).1;omega
 ·show ad.block≠gR;intro e;exact(hsep ad hA).1 (by rw[e])
end
theorem yWl(n:Nat)(k:Int)(hk:k=n)(hn:n<=1000000000000)(w:World) :
  (Instr.makeSlice 22 (.int .i64 k) (.int .i64 k)).run prog w=.ok (.slice (some ⟨w.heap.size,0,none⟩) n n) (w.alloc (.cells (List.replicate n (Value.int .i64 0)).toArray 3)):=by
 subst hk;exact xQu n hn w
theorem vY8(N:Nat)(r:List Int)(h:r.length<=N):splice (List.replicate N (Value.int .i64 0)) 0 (r.map (Value.int .i64))=(xJd N fun j=>(r[j]?).getD 0).map (Value.int .i64):=by
 apply List.ext_getElem?;intro i;unfold splice xJd;rw[List.take_zero,List.nil_append,Nat.zero_add,zQl,vQ4,vQ4];rcases vVq i N with h1|h1
 ·rw[List.getElem?_range h1];rcases vVq i r.length with h2|h2
  ·rw[yJ0 (by rw[zQl];exact h2),vQ4,lGe h2];simp[h2]
  ·rw[List.getElem?_append_right (by rw[zQl];exact h2),zQl,List.getElem?_drop,List.getElem?_replicate,if_pos (by omega)];simp[h2]
 ·rw[vXn (l:=List.range N) (by rw[List.length_range];exact h1)];rw[vXn (by rw[List.length_append,zQl,List.length_drop,List.length_replicate];omega)];rfl
theorem vY9{w:World}{R:Option Addr}{r:List Int}(h:Ints w R r)(hp:0<(r.map (Value.int .i64)).length):∃ad,R=some ad/\∀j v,(r.map (Value.int .i64))[j]? = some v->w.cell? (ad.add j)=some v:=by
 obtain⟨ad,e,_⟩:=h 0 _ (lGe hp);refine⟨ad,e,fun j v hv=>?_⟩;obtain⟨ad',e',hc⟩:=h j v hv;rw[e] at e';injection e' with e'
 subst e';exact hc
theorem yVq(w:World)(N:Nat):(w.alloc (.cells (Array.replicate N (Value.int .i64 0)) 3)).heap[w.heap.size]? = some (.cells (List.replicate N (Value.int .i64 0)).toArray 3 (0,0)):=by
 have h:=Arr.new w 3 (List.replicate N (Value.int .i64 0));rw[List.toArray_replicate] at h ⊢;unfold Arr at h;rw[List.toArray_replicate] at h;exact h
theorem vYa(n i:Nat):xQo (i+1) (fun k=>n+k)=(xQo i fun k=>n+k) ++ [(n:Int)+(i:Int)]:=by
 unfold xQo xJd;rw[List.range_succ,vQu,List.map_cons,List.map_nil,Int.natCast_add]
theorem yVr:(prog.info? 3).map (·.size)=some 1:=by kernel_rfl
theorem t0_at{p:LpV}{m n N i:Nat}{r:List Int}{y:Int}(hm:p.rows.length=m)(hn:p.obj.length=n)(hr:p.rows[i]? = some r)(hy:p.bounds[i]? = some y)(hrn:r.length=n)(hi:i<m)(hN:N=n+m+2)(j:Nat)(hj:j<N) :
  p.lp.t0 i j=if j=n+m+1 then y else if j=n+m then -1 else if j=n+i then 1 else(r[j]?).getD 0:=by
 subst hm;subst hn;unfold LA.LP.t0;show(if j<p.obj.length then(((p.rows[i]?).getD [])[j]?).getD 0 else if j<p.obj.length+p.rows.length then(if j=p.obj.length+i then 1 else 0) else if j=p.obj.length+p.rows.length then -1 else(p.bounds[i]?).getD 0)=_;rw[hr,hy,Option.getD_some,Option.getD_some]
 by_cases h1:j<p.obj.length
 ·rw[if_pos h1,if_neg (by omega),if_neg (by omega),if_neg (by omega)]
 ·rw[if_neg h1]
  by_cases h2:j<p.obj.length+p.rows.length
  ·rw[if_pos h2,if_neg (show ¬j=p.obj.length+p.rows.length+1 by omega),if_neg (show ¬j=p.obj.length+p.rows.length by omega),vXn (by omega)];rfl
  ·rw[if_neg h2]
   by_cases h3:j=p.obj.length+p.rows.length
   ·rw[if_pos h3,if_neg (by omega),if_pos h3]
   ·rw[if_neg h3,if_pos (by omega)]
theorem uX2{p:LpV}{m N:Nat}{els:List (Nat×(Nat->Int))}{ga gb:Nat}(hm:p.rows.length=m)(hl:els.length=m)(h:∀(k:Nat) (x:Nat×(Nat->Int)),els[k]? = some x->∀j,j<N->x.2 j=p.lp.t0 k j)
  (i:Nat) (x:Nat×(Nat->Int)) (hx:(els ++ [(ga,p.lp.g0),(gb,p.lp.g1)])[i]? = some x) (j:Nat) (hj:j<N):x.2 j=p.lp.T0 i j:=by
 unfold LA.LP.T0;have e:p.lp.m=m:=hm;rw[e];rcases vVq i m with h1|h1
 ·rw[yJ0 (by omega)] at hx;rw[if_pos h1];exact h i x hx j hj
 ·rw[List.getElem?_append_right (by omega)] at hx;rw[if_neg (by omega)]
  by_cases h2:i=m
  ·rw[if_pos h2];have h4:i-els.length=0:=by omega
   rw[h4] at hx;simp at hx;rw[<- hx]
  ·rw[if_neg h2];have h3:i-els.length=1:=by have:=(zQ1.1 hx).1;simp at this;omega
   rw[h3] at hx;simp at hx;rw[<- hx]
theorem yJy{els:List (Nat×(Nat->Int))}{a b x:Nat×(Nat->Int)}{k:Nat}(h:(els ++ [a,b])[k]? = some x):(k<els.length/\els[k]? = some x)\/(k=els.length/\x=a)\/(k=els.length+1/\x=b):=by
 rcases vVq k els.length with h1|h1
 ·rw[yJ0 h1] at h;exact .inl ⟨h1,h⟩
 ·rw[List.getElem?_append_right h1] at h;have h3:k-els.length<2:=by have:=(zQ1.1 h).1;simpa using this
  rcases (show k=els.length\/k=els.length+1 by omega) with e|e
  ·subst e;rw[Nat.sub_self] at h;simp at h;exact .inr (.inl ⟨rfl,h.symm⟩)
  ·subst e;rw[show els.length+1-els.length=1 by omega] at h;simp at h;exact .inr (.inr ⟨rfl,h.symm⟩)
theorem uX3{p:LpV}{n N:Nat}(hn:p.obj.length=n)(j:Nat):p.lp.g0 j=if j<n then-(p.obj[j]?).getD 0 else 0:=by
 subst hn;rfl
theorem uX4{p:LpV}{m n N:Nat}(hm:p.rows.length=m)(hn:p.obj.length=n)(j:Nat):p.lp.g1 j=if j=n+m then 1 else 0:=by
 subst hn;subst hm;rfl
theorem vJw(w:World)(AR AB AO:Option Addr)(cr cb co:Nat)(p:LpV)(hM:LpMem w AR AB AO p)(hok:LpOk p)(m n N:Nat)(hrl:Hid (p.rows.length=m))(hbl:Hid (p.bounds.length=m))(hol:Hid (p.obj.length=n))(hN:Hid (N=n+m+2))(hm6:m<=6)(hn6:n<=6) :
  Calls prog 101 #[.agg #[.slice AR m cr,.slice AB m cb,.slice AO n co]] w fun e w'=>∃L:TbLay,e=.returned (.pointer (some ⟨L.b,0,none⟩))/\TbMem w.heap.size w' L m N (fun i=>n+i) p.lp.T0 1/\Below w.heap.size w w':=by
 have HRO:=lHd hM.rows.llr;have HBO:=lHd hM.bounds;have HOB:=lHd hM.obj;have HOK:=lHd hok;have hN14:N<=14:=by have:=hN.out;omega
 have hmk:=yWl N ((n:Int)+(m:Int)+2) (by have:=hN.out;omega) (by omega);clear hM hok;go_enter func101,ntmps101
 go_wp2_with fail
 go_quiet (fail)
 go_wp2_with fail
 go_loopw [24] (fun x wr=>∃(i:Nat) (els:List (Nat×(Nat->Int))) (vR vB:Value),i<=m/\x=.int .i64 i/\Hid (els.length=i/\(∀(k:Nat) (x:Nat×(Nat->Int)),els[k]? = some x->∀j,j<N->x.2 j=p.lp.t0 k j)/\(∀(k l:Nat) (x y:Nat×(Nat->Int)),k≠l->els[k]? = some x->els[l]? = some y->x.1≠y.1)/\Sep vR vB/\∀x∈els,vB.ownBlock≠some x.1)/\OwnRw N (w.heap.size+2) wr vR els/\OwnI (w.heap.size+2) wr vB (xQo i fun k=>n+k)/\Below w.heap.size w wr/\Cls wr [(w.heap.size,0,.slice AR m cr),(w.heap.size,1,.slice AB m cb),(w.heap.size,2,.slice AO n co),(w.heap.size+1,0,vR),(w.heap.size+1,1,vB),(w.heap.size+1,2,.int .i64 1)]) (fun x _=>m-(intOf x).toNat)
 case atStart=>exact⟨0,[],.slice none 0 0,.slice none 0 0,zKk _,rfl,lHd ⟨rfl,(fun k x h=>by simp at h),(fun k l x y _ h=>by simp at h),yWk _,(fun x h=>by cases h)⟩,OwnEs.nil _ _,OwnI.nil _ _,bch,by simp[Cls,go_sem]⟩
 case round=>
  obtain⟨i,els,vR,vB,hi,rfl,HP,hR,hB,hBr,hCr⟩:=hrel;obtain⟨w1,rfl⟩:∃wo:World,wo=wr:=⟨_,rfl⟩;have Fr:=hCr.f;have yrw1:=hCr.blk (b:=w.heap.size+1) (k:=0) (v:=vR) (by simp)
  by_cases hlt:i<m
  ·obtain⟨ad,r,R,cR,rfl,hr,hrc,hI⟩:=(HRO.out.below hBr).at_ (k:=i) (by rw[hrl.out];exact hlt);obtain⟨ad2,y,rfl,hy,hyc⟩:=(HBO.out.below hBr).at_ (k:=i) (by rw[hbl.out];exact hlt);have hrn:=(HOK.out.row hr.out).1;rw[hol.out] at hrn;have HRN:=lHd hrn;rw[hrn] at hrc;clear hrn;have HT0:=lHd (t0_at hrl.out hol.out hr.out hy.out HRN.out hlt hN.out);have hi1:n+i<N:=by have:=hN.out;omega
   have hi2:n+m<N:=by have:=hN.out;omega
   have hi3:n+m+1<N:=by have:=hN.out;omega
   have hnN:n<=N:=by omega
   have HC1:=lHd hCr;have HRL:=lHd (show(r.map (Value.int .i64)).length=n by rw[zQl];exact HRN.out);have hblt:=zQ2 w1 _ hyc;have hne1:¬(n+i=n+m):=by omega
   have hne2:¬(n+i=n+m+1):=by omega
   have hGb:w.heap.size+2<=w1.heap.size:=by omega
   go_upto_region 9 with(refine wpList_copy_splice rfl (.tmp 34) (.tmp 35) 22 22 rfl 3 underlying22 yVr _ _ N N n cR rfl rfl w1.heap.size 0 (List.replicate N (Value.int .i64 0)) 3 (yVq w1 N) (r.map (Value.int .i64)) ?p1 ?p2 ?p3 ?p4 w1.heap.size w1 ?p5 (Nat.le_refl _) ?_;(case p1=>rw[HRL.out];exact(Nat.min_eq_left hnN).symm);(case p2=>intro hp;obtain⟨ad5,e5,h5⟩:=vY9 hI hp;exact⟨rfl,ad5,e5,fun j v hv=>(yW0 bch (zQ2 w1 _ (h5 j v hv))).trans (h5 j v hv)⟩);(case p3=>rw[HRL.out,List.length_replicate,Nat.zero_add];exact hnN);(case p4=>intro v hv;obtain⟨z,_,rfl⟩:=vWz.1 hv;rfl);(case p5=>exact bch);intro w3 HG3 hB3;have C3:=Cls.below (w:=w1) hB3 hCr;have F3:=C3;simp only[Cls,and_true] at F3;have d3s:=hB3.size;have hyc3:=(hB3.cell hblt).trans hyc;have hA3:IArr w3 w1.heap.size (xJd N fun j=>(r[j]?).getD 0):=(by have h:=HG3.out;rw[vY8 N r (by rw[HRN.out];exact hnN)] at h;exact h);have HA8:Hid (IArr (((w3.setCell ⟨w1.heap.size,n+i,none⟩ (.int .i64 1)).setCell ⟨w1.heap.size,n+m,none⟩ (.int .i64 (-1))).setCell ⟨w1.heap.size,n+m+1,none⟩ (.int .i64 y)) w1.heap.size (xJd N (p.lp.t0 i))):=lHd (by(have h:=((hA3.set_ (n+i) 1).set_ (n+m) (-1)).set_ (n+m+1) y;rw[xXy,xXy,xXy] at h;rw[xJc (g:=fun k=>if k=n+m+1 then y else if k=n+m then -1 else if k=n+i then 1 else(r[k]?).getD 0) fun j hj=>HT0.out j hj];exact h));obtain⟨z1,_,hz1,hz2⟩:=hA3.cell (i:=n+i) (by rw[xJj];exact hi1);obtain⟨z2,_,hz3,hz4⟩:=hA3.cell (i:=n+m) (by rw[xJj];exact hi2);obtain⟨z3,_,hz5,hz6⟩:=hA3.cell (i:=n+m+1) (by rw[xJj];exact hi3);have hb3:w1.heap.size<w3.heap.size:=hA3.lt;clear hA3 HG3)
   obtain⟨w4,hw4⟩:∃x,x=(((w3.setCell ⟨w1.heap.size,n+i,none⟩ (.int .i64 1)).setCell ⟨w1.heap.size,n+m,none⟩ (.int .i64 (-1))).setCell ⟨w1.heap.size,n+m+1,none⟩ (.int .i64 y)):=⟨_,rfl⟩;have hB4:Below w1.heap.size w1 w4:=by rw[hw4];exact bch
   have HA4:Hid (IArr w4 w1.heap.size (xJd N (p.lp.t0 i))):=by rw[hw4];exact HA8
   rw[<- hw4];clear hw4 HA8;have C4:=Cls.below (w:=w1) hB4 hCr;have D4:=hBr.trans (hB4.mono hBr.size);have F4:=C4.f;have y4w1:=C4.blk (b:=w.heap.size+1) (k:=0) (v:=vR) (by simp);have y4w0:w.heap.size<w4.heap.size:=(by omega);have hG4:=HA4.out.lt;have hR4:=hR.below hB4;have hBa4:=hB.below hB4;have hlenR:els.length<1000000000000:=by rw[HP.out.1];omega
   have hlenB:(xQo i fun k=>n+k).length<1000000000000:=by unfold xQo;rw[xJj];omega
   have hrw:=fun k hk=>(OwnEs.lt hR k hk).2
   have hbw:=fun k hk=>(hB.lt k hk).2
   go_wp2_with (first|(at_builtin;refine xVv (xWk N (w.heap.size+2)) 42 24 (.slice none 0 0) underlying42 xZy rfl (by decide) (by decide) rfl (.tmp 62) (.tmp 64) rfl w [(w.heap.size,0,.slice (some ad) m cr),(w.heap.size,1,.slice (some ad2) m cb),(w.heap.size,2,.slice AO n co),(w.heap.size+1,0,vR),(w.heap.size+1,1,vB),(w.heap.size+1,2,.int .i64 1)] rfl (OwnRw.below hR4 ?p1) ⟨w4.heap.size,0,none⟩ 1 rfl [.slice (some ⟨w1.heap.size,0,none⟩) N N] (w1.heap.size,p.lp.t0 i) rfl (xJa ?p2) ?p8 ?p9 hlenR ?p3 ?p4 ?p5 ?p6 ?p7 ?_;(case p1=>exact bch);(case p2=>simp[go_sem]);(case p3=>(simp<;>omega));(case p4=>omega);(case p5=>exact bch);(case p6=>simp[Cls,go_sem,F4,y4w1,y4w0]);(case p7=>(simp<;>omega));(case p8=>intro u hu;simp at hu;subst hu;rfl);(case p9=>exact⟨rfl,IArr.below HA4.out bch,(fun e=>by have:=hrw _ e;omega),hGb⟩);intro v6 w6 o6 D6 C6 sz6 G6 at6;obtain⟨A6,c6,e6⟩:=OwnEs.form o6;rw[show(els ++ [(w1.heap.size,p.lp.t0 i)]).length=i+1 from(by rw[List.length_append,HP.out.1];rfl)] at e6;subst e6;have at6:(Value.slice A6 (i+1) c6).ownBlock=vR.ownBlock\/(Value.slice A6 (i+1) c6).ownBlock=some (w4.heap.size+1):=(by rcases at6 with h|h;exact Or.inl h;exact Or.inr (by rw[h];simp));have d6s:=D6.size;have sz6':w4.heap.size<w6.heap.size:=(by have h:=sz6;simp at h;omega);have hB6:=zXr (u:=vR) (hBa4.below (bch:Below w4.heap.size w4 (w4.alloc (.cells #[.slice (some ⟨w1.heap.size,0,none⟩) N N] 22)))) G6 HP.out.2.2.2.1;have F6:=C6;simp only[Cls,and_true] at F6;have y6w1:w.heap.size+1<w6.heap.size:=C6.blk (b:=w.heap.size+1) (k:=0) (v:=vR) (by simp);have y6w0:w.heap.size<w6.heap.size:=(by omega);have y6wp1:w.heap.size<w6.heap.size+1:=(by omega);have y6wp2:w.heap.size<w6.heap.size+1+1:=(by omega))|(at_builtin;refine zZl rfl (.tmp 72) (.tmp 76) rfl w [(w.heap.size,0,.slice (some ad) m cr),(w.heap.size,1,.slice (some ad2) m cb),(w.heap.size,2,.slice AO n co),(w.heap.size+1,0,.slice A6 (i+1) c6),(w.heap.size+1,1,vB),(w.heap.size+1,2,.int .i64 1)] (w.heap.size+2) vB (xQo i fun k=>n+k) ((n:Int)+(i:Int)) rfl (OwnI.below (OwnI.far hB6 (p:=⟨w.heap.size+1,0,none⟩) (by dsimp only;omega) (.slice A6 (i+1) c6)) ?p1) ⟨w6.heap.size,0,none⟩ 1 rfl ?p2 hlenB ?p3 ?p4 ?p5 ?p6 ?p7 ?_;(case p1=>exact bch);(case p2=>(simp[go_sem]));(case p3=>(simp<;>omega));(case p4=>omega);(case p5=>exact bch);(case p6=>simp[Cls,go_sem,F6,y6w1,y6w0]);(case p7=>(simp<;>omega));intro v7 w7 o7 D7 C7 sz7 G7 at7;obtain⟨A7,c7,e7,-,-⟩:=OwnI.form o7;rw[show((xQo i fun k=>n+k) ++ [(n:Int)+(i:Int)]).length=i+1 from(by rw[List.length_append];unfold xQo;rw[xJj];rfl)] at e7;subst e7;have at7:(Value.slice A7 (i+1) c7).ownBlock=vB.ownBlock\/(Value.slice A7 (i+1) c7).ownBlock=some (w6.heap.size+1):=(by rcases at7 with h|h;exact Or.inl h;exact Or.inr (by rw[h];simp));have d7s:=D7.size;have F7:=C7;simp only[Cls,and_true] at F7;have y7w1:w.heap.size+1<w7.heap.size:=C7.blk (b:=w.heap.size+1) (k:=0) (v:=.slice A6 (i+1) c6) (by simp);have y7w0:w.heap.size<w7.heap.size:=(by omega);have y7wp1:w.heap.size<w7.heap.size+1:=(by omega);have y7wp2:w.heap.size<w7.heap.size+1+1:=(by omega)))
   have sz7':w6.heap.size<w7.heap.size:=by have h:=sz7;simp at h;omega
   have hRo:OwnRw N (w.heap.size+2) w7 (.slice A6 (i+1) c6) (els ++ [(w1.heap.size,p.lp.t0 i)]):=OwnRw.other (OwnRw.below (OwnRw.far o6 (p:=⟨w.heap.size+1,0,none⟩) (by dsimp only;omega) (.slice A6 (i+1) c6)) (bch:Below (w6.setCell ⟨w.heap.size+1,0,none⟩ (.slice A6 (i+1) c6)).heap.size (w6.setCell ⟨w.heap.size+1,0,none⟩ (.slice A6 (i+1) c6)) ((w6.setCell ⟨w.heap.size+1,0,none⟩ (.slice A6 (i+1) c6)).alloc (.cells #[.int .i64 ((n:Int)+(i:Int))] 3)))) G7 (fun k hk hb=>by
     rcases at6 with e|e
     ·exact HP.out.2.2.2.1 k (by rw[<- e];exact hk) hb
     ·rw[e] at hk;have h1:=hbw k hb;injection hk with hk;(try simp at hk);omega) (fun x hx hb=>by
     rcases vJn.1 hx with hx|hx
     ·exact HP.out.2.2.2.2 x hx hb
     ·simp at hx;subst hx;have:=hbw _ hb;simp at this)
   have hlt6:∀x∈els,x.1<w1.heap.size:=fun x hx=>by
    obtain⟨k,hk⟩:=List.getElem?_of_mem hx;obtain⟨A9,c9,e9⟩:=OwnEs.form hR;rw[e9] at hR;obtain⟨_,_,a9,_,_,_,ha,_,_,hp9⟩:=OwnEs.at_ hR (i:=k) (zQ1.1 hk).1;have:a9=x:=by have:=ha.out;rw[hk] at this;injection this with this;exact this.symm
    subst this;exact hp9.2.1.lt
   have h6lt:=fun k hk=>(OwnEs.lt o6 k hk).2
   have HPN:Hid ((els ++ [(w1.heap.size,p.lp.t0 i)]).length=i+1/\(∀(k:Nat) (x:Nat×(Nat->Int)),(els ++ [(w1.heap.size,p.lp.t0 i)])[k]? = some x->∀j,j<N->x.2 j=p.lp.t0 k j)/\(∀(k l:Nat) (x y:Nat×(Nat->Int)),k≠l->(els ++ [(w1.heap.size,p.lp.t0 i)])[k]? = some x->(els ++ [(w1.heap.size,p.lp.t0 i)])[l]? = some y->x.1≠y.1)/\Sep (.slice A6 (i+1) c6) (.slice A7 (i+1) c7)/\∀x∈els ++ [(w1.heap.size,p.lp.t0 i)],(Value.slice A7 (i+1) c7).ownBlock≠some x.1):=lHd (by
    obtain⟨q1,q2,q3,q4,q5⟩:=HP.out;have key:∀(k:Nat) (x:Nat×(Nat->Int)),(els ++ [(w1.heap.size,p.lp.t0 i)])[k]? = some x->(k<i/\els[k]? = some x)\/(k=i/\x=(w1.heap.size,p.lp.t0 i)):=fun k x hx=>by
     rcases vVq k els.length with h|h
     ·rw[yJ0 h] at hx;exact .inl ⟨by omega,hx⟩
     ·rw[List.getElem?_append_right h] at hx;have h0:k-els.length=0:=by have:=(zQ1.1 hx).1;simp at this;omega
      rw[h0] at hx;simp at hx;exact .inr ⟨by omega,hx.symm⟩
    refine⟨by rw[List.length_append,q1];rfl,fun k x hx j hj=>?_,fun k l x y hkl hx hy=>?_,?_,fun x hx=>?_⟩
    ·rcases key k x hx with⟨_,h⟩|⟨rfl,rfl⟩
     ·exact q2 k x h j hj
     ·rfl
    ·rcases key k x hx with⟨_,h⟩|⟨rfl,rfl⟩
     ·rcases key l y hy with⟨_,h'⟩|⟨rfl,rfl⟩
      ·exact q3 k l x y hkl h h'
      ·have:=hlt6 x (lMg h);show x.1≠w1.heap.size;omega
     ·rcases key l y hy with⟨_,h'⟩|⟨e,_⟩
      ·have:=hlt6 y (lMg h');show w1.heap.size≠y.1;omega
      ·omega
    ·refine Sep.next (v:=vB) (K:=w6.heap.size+1) (fun k hk hb=>?_) at7 (fun k hk=>Nat.lt_succ_of_lt (h6lt k hk));rcases at6 with e|e
     ·exact q4 k (by rw[<- e];exact hk) hb
     ·rw[e] at hk;have h1:=hbw k hb;injection hk with hk;(try simp at hk);omega
    ·intro hb;have hx6:x.1<w6.heap.size:=by
      rcases vJn.1 hx with hx|hx
      ·have:=hlt6 x hx;omega
      ·simp at hx;subst hx;show w1.heap.size<_;omega
     rcases at7 with e|e
     ·rw[e] at hb;rcases vJn.1 hx with hx|hx
      ·exact q5 x hx hb
      ·simp at hx;subst hx;have:=hbw _ hb;simp at this
     ·rw[e] at hb;injection hb with hb;(try simp at hb);omega)
   go_roundw
   case rel=>exact⟨i+1,els ++ [(w1.heap.size,p.lp.t0 i)],.slice A6 (i+1) c6,.slice A7 (i+1) c7,by omega,by go_num,HPN,OwnRw.far hRo (p:=⟨w.heap.size+1,1,none⟩) (by dsimp only;omega) _,(by rw[vYa];exact OwnI.far o7 (p:=⟨w.heap.size+1,1,none⟩) (by dsimp only;omega) _),bch,by simp[Cls,go_sem,F7]⟩
   case measure=>simp[intOf];omega
  ·obtain rfl:m=i:=by omega
   have HZ:=lHd (xWj N);have HC1:=lHd hCr;have hi2:n+m<N:=by have:=hN.out;omega
   have hnN:n<N:=by have:=hN.out;omega
   have hlenR:els.length<1000000000000:=by rw[HP.out.1];omega
   have hrw:=fun k hk=>(OwnEs.lt hR k hk).2
   have hbw:=fun k hk=>(hB.lt k hk).2
   go_upto_region 12 with fail
   go_cut [9,10] (fun x y wx=>∃ga gb:Nat,x=.slice (some ⟨ga,0,none⟩) N N/\y=.slice (some ⟨gb,0,none⟩) N N/\w1.heap.size<=ga/\w1.heap.size<=gb/\ga≠gb/\IArr wx ga (xJd N fun _=>0)/\IArr wx gb (xJd N fun _=>0)/\Below w1.heap.size w1 wx)
   case first=>
    go_region
    all_goals
     go_wp2_with fail
     go_meet
     first
      |exact⟨w1.heap.size,w1.heap.size+1,rfl,by simp,by omega,by omega,by omega,by rw[<- HZ.out];exact(IArr.made w1 N w1.heap.size rfl).alloc _,by rw[<- HZ.out];exact IArr.made _ N (w1.heap.size+1) (by simp),bch⟩
      |exact⟨w1.heap.size+1,w1.heap.size,by simp,rfl,by omega,by omega,by omega,by rw[<- HZ.out];exact IArr.made _ N (w1.heap.size+1) (by simp),by rw[<- HZ.out];exact(IArr.made w1 N w1.heap.size rfl).alloc _,bch⟩
   case rest=>
    obtain⟨w2,rfl⟩:∃wo:World,wo=wc:=⟨_,rfl⟩;obtain⟨ga,gb,rfl,rfl,hga,hgb,hab,hA2,hZ2,hB2⟩:=hcut;have hba:¬gb=ga:=fun e=>hab e.symm
    have C2:=Cls.below (w:=w1) hB2 HC1.out;have F2:=C2.f;have y2w1:=C2.blk (b:=w.heap.size+1) (k:=0) (v:=vR) (by simp)
    go_wp2_with fail
    go_loopw [94] (fun x wr=>∃k:Nat,k<=n/\x=.int .i64 k/\IArr wr ga (xJd N fun j=>if j<k then-(p.obj[j]?).getD 0 else 0)/\IArr wr gb (xJd N fun _=>0)/\Below w1.heap.size w1 wr) (fun x _=>n-(intOf x).toNat)
    case atStart=>exact⟨0,zKk _,rfl,by rw[xJc (g:=fun _=>0) fun j _=>if_neg (by omega)];exact hA2.below bch,hZ2.below bch,bch⟩
    case round=>
     obtain⟨k,hk,rfl,hA3,hZ3,hB3⟩:=hrel;obtain⟨w3,rfl⟩:∃wo:World,wo=wr:=⟨_,rfl⟩;have C3:=Cls.below (w:=w1) hB3 HC1.out;have F3:=C3.f;have y3w1:=C3.blk (b:=w.heap.size+1) (k:=0) (v:=vR) (by simp)
     by_cases hlt:k<n
     ·obtain⟨ad,x,rfl,hx,hxc⟩:=((HOB.out.below hBr).below (w:=w1) (w':=w3) hB3).at_ (k:=k) (by rw[hol.out];exact hlt);have hxb:=HOK.out.c x (lMg hx.out);obtain⟨hxb1,hxb2⟩:=hxb;obtain⟨z,hz,hzc,hzf⟩:=hA3.cell (i:=k) (by rw[xJj];omega);clear hz;go_wp2
      go_roundw
      case rel=>exact⟨k+1,by omega,by go_num,(by
       have h:=hA3.set_ k (-x);rw[xXy] at h;rw[xJc (g:=fun j=>if j=k then -x else if j<k then-(p.obj[j]?).getD 0 else 0) fun j _=>by
        by_cases e:j=k
        ·subst e;rw[if_pos (by omega),if_pos rfl,hx.out];rfl
        ·rw[if_neg e]
         by_cases e2:j<k
         ·rw[if_pos e2,if_pos (by omega)]
         ·rw[if_neg e2,if_neg (by omega)]]
       exact h.below bch),(hZ3.far (p:=⟨ga,k,none⟩) (by dsimp only;omega) _).below bch,bch⟩
      case measure=>simp[intOf];omega
     ·obtain rfl:n=k:=by omega
      have hA4:IArr w3 ga (xJd N p.lp.g0):=by
       rw[xJc (g:=fun j=>if j<n then-(p.obj[j]?).getD 0 else 0) fun j _=>uX3 (N:=N) hol.out j];exact hA3
      have HA4:=lHd hA4;have hZ4:IArr (w3.setCell ⟨gb,n+m,none⟩ (.int .i64 1)) gb (xJd N p.lp.g1):=by
       have h:=hZ3.set_ (n+m) 1;rw[xXy] at h;rw[xJc (g:=fun j=>if j=n+m then 1 else 0) fun j _=>uX4 (N:=N) hrl.out hol.out j];exact h
      have HZ4:=lHd hZ4;obtain⟨z,hz,hzc,hzf⟩:=hZ3.cell (i:=n+m) (by rw[xJj];omega);clear hz hA3 hZ3 hA4 hZ4
      go_upto_region 19 with fail
      obtain⟨w4,hw4⟩:∃x,x=w3.setCell ⟨gb,n+m,none⟩ (.int .i64 1):=⟨_,rfl⟩;have hB4:Below w1.heap.size w1 w4:=by rw[hw4];exact bch
      have HA5:Hid (IArr w4 ga (xJd N p.lp.g0)):=by rw[hw4];exact lHd (HA4.out.far (p:=⟨gb,n+m,none⟩) (by dsimp only;omega) _)
      have HZ5:Hid (IArr w4 gb (xJd N p.lp.g1)):=by rw[hw4];exact HZ4
      rw[<- hw4];clear hw4 HA4 HZ4 hzc hzf;have C4:=Cls.below (w:=w1) hB4 HC1.out;have D4:=hBr.trans (hB4.mono hBr.size);have F4:=C4.f;have y4w1:=C4.blk (b:=w.heap.size+1) (k:=0) (v:=vR) (by simp);have y4w0:w.heap.size<w4.heap.size:=(by omega);have y4a:=HA5.out.lt;have hR4:=hR.below hB4;have hBa4:=hB.below hB4
      go_wp2_with (at_builtin;refine vVz (xWk N (w.heap.size+2)) 42 24 (.slice none 0 0) underlying42 xZy rfl (by decide) (by decide) rfl (.tmp 114) (.tmp 117) rfl w [(w.heap.size,0,.slice AR m cr),(w.heap.size,1,.slice AB m cb),(w.heap.size,2,.slice AO n co),(w.heap.size+1,0,vR),(w.heap.size+1,1,vB),(w.heap.size+1,2,.int .i64 1)] rfl (OwnRw.below hR4 ?p1) ⟨w4.heap.size,0,none⟩ 2 2 rfl [.slice (some ⟨ga,0,none⟩) N N,.slice (some ⟨gb,0,none⟩) N N] [(ga,p.lp.g0),(gb,p.lp.g1)] rfl rfl ?p2 ?p8 ?p9 hlenR (by decide) ?p3 ?p4 ?p5 ?p6 ?p7 ?_;(case p1=>exact bch);(case p2=>exact zK1 (by simp[go_sem]) (by simp[go_sem]));(case p3=>(simp<;>omega));(case p4=>omega);(case p5=>exact bch);(case p6=>simp[Cls,go_sem,F4,y4w1,y4w0]);(case p7=>(simp<;>omega));(case p8=>intro u hu;simp at hu;rcases hu with hu|hu<;>subst hu<;>rfl);(case p9=>(intro k y hy;rcases k with _|_|k;(simp at hy;subst hy;exact⟨rfl,IArr.below HA5.out bch,(fun e=>by have:=hrw _ e;omega),by omega⟩);(simp at hy;subst hy;exact⟨rfl,IArr.below HZ5.out bch,(fun e=>by have:=hrw _ e;omega),by omega⟩);(simp at hy)));intro v6 w6 o6 D6 C6 sz6 G6 at6;obtain⟨A6,c6,e6⟩:=OwnEs.form o6;rw[show(els ++ [(ga,p.lp.g0),(gb,p.lp.g1)]).length=m+2 from(by rw[List.length_append,HP.out.1];rfl)] at e6;subst e6;have at6:(Value.slice A6 (m+2) c6).ownBlock=vR.ownBlock\/(Value.slice A6 (m+2) c6).ownBlock=some (w4.heap.size+1):=(by rcases at6 with h|h;exact Or.inl h;exact Or.inr (by rw[h];simp));have d6s:=D6.size;have sz6':w4.heap.size<w6.heap.size:=(by have h:=sz6;simp at h;omega);have hB6:=zXr (u:=vR) (hBa4.below (bch:Below w4.heap.size w4 (w4.alloc (.cells #[.slice (some ⟨ga,0,none⟩) N N,.slice (some ⟨gb,0,none⟩) N N] 22)))) G6 HP.out.2.2.2.1;have F6:=C6;simp only[Cls,and_true] at F6;have y6w1:w.heap.size+1<w6.heap.size:=C6.blk (b:=w.heap.size+1) (k:=0) (v:=vR) (by simp);have y6w0:w.heap.size<w6.heap.size:=(by omega);have y6wp1:w.heap.size<w6.heap.size+1:=(by omega);have y6wp2:w.heap.size<w6.heap.size+1+1:=(by omega))
      obtain⟨AB6,cB6,eB6,-,-⟩:=OwnI.form hB6;rw[show(xQo m fun k=>n+k).length=m from(by unfold xQo;rw[xJj])] at eB6;subst eB6;have hlt6:∀x∈els,x.1<w1.heap.size:=fun x hx=>by
       obtain⟨k,hk⟩:=List.getElem?_of_mem hx;obtain⟨A9,c9,e9⟩:=OwnEs.form hR;rw[e9] at hR;obtain⟨_,_,a9,_,_,_,ha,_,_,hp9⟩:=OwnEs.at_ hR (i:=k) (zQ1.1 hk).1;have:a9=x:=by have:=ha.out;rw[hk] at this;injection this with this;exact this.symm
       subst this;exact hp9.2.1.lt
      obtain⟨q1,q2,q3,q4,q5⟩:=HP.out;obtain⟨L,hLb,hL⟩:=OwnRw.tab (w:=w6.setCell ⟨w.heap.size+1,0,none⟩ (.slice A6 (m+2) c6)) (bs:=fun k=>n+k) (T:=p.lp.T0) (b:=w.heap.size+1) (base0:=w.heap.size) (OwnRw.far o6 (p:=⟨w.heap.size+1,0,none⟩) (by dsimp only;omega) _) (by rw[List.length_append,q1];rfl)
       (uX2 hrl.out q1 q2) (fun i k x y hik hx hy=>by
        rcases yJy hx with⟨_,h⟩|⟨e,h⟩|⟨e,h⟩<;>rcases yJy hy with⟨_,h'⟩|⟨e',h'⟩|⟨e',h'⟩
        ·exact q3 i k x y hik h h'
        ·have:=hlt6 x (lMg h);rw[h'];show x.1≠ga;omega
        ·have:=hlt6 x (lMg h);rw[h'];show x.1≠gb;omega
        ·have:=hlt6 y (lMg h');rw[h];show ga≠y.1;omega
        ·omega
        ·rw[h,h'];exact hab
        ·have:=hlt6 y (lMg h');rw[h];show gb≠y.1;omega
        ·rw[h,h'];exact Ne.symm hab
        ·omega)
       (by simp[go_sem,F6]) (by simp[go_sem,F6]) (by simp[go_sem,F6]) (by simp[go_sem,F6]) (by omega) (by omega)
       (OwnI.far hB6 (p:=⟨w.heap.size+1,0,none⟩) (by dsimp only;omega) _) (fun ad hA=>by
        subst hA;have h1:=hbw ad.block rfl;refine⟨fun e=>?_,fun x hx e=>?_⟩
        ·have e2:(Value.slice A6 (m+2) c6).ownBlock=some ad.block:=by rw[e];rfl
         rcases at6 with h|h
         ·rw[h] at e2;exact q4 _ e2 rfl
         ·rw[h] at e2;injection e2 with e2;omega
        ·rcases vJn.1 hx with hx|hx
         ·exact q5 x hx (by rw[<- e];rfl)
         ·simp at hx;rcases hx with hx|hx<;>subst hx<;>(simp at e;omega))
      refine bodyPost_ret (v:=.pointer (some ⟨w.heap.size+1,0,none⟩)) ?_ rfl ⟨L,by rw[hLb],hL,bch⟩;simp[results,results101,go_sem]
