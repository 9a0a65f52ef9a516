/-
  Lemmas.
-/
import Derived.Test.YtjjjeohejhmpoaaGreatX17
set_option linter.unusedVariables false
set_option linter.unusedSimpArgs false
set_option maxRecDepth 100000
set_option maxHeartbeats 4000000
namespace Go.Proofs.YtjjjeohejhmpoaaGreat
open Go.RowKit Go.Proofs.Tryz
section
open Go.Shelf Go.Sort
section
variable {α:Type}{enc:α->Value}{e:TypeId}[Inhabited α]
theorem uXz{P:Program}{ρ:Ren}(L:SlLaysF.n6 P ρ)(h1:∀x,(enc x).oneCell'=true)(hoc:OneCell enc)(cf:α->α->Int)(hO:SWO (ltOf cf))(gf:Nat)(cb:Array Value)
  (eg:∀args w,(callFunc gf args).run P w=.ok (.enter gf args) w)
  {w0 w:World} {base:Nat} {v:Value} {xs:List α} (h:yZf enc e base w v xs) (hcmp:∀(W:World) (x y:α),w.grownBy W v.ownBlock->Calls P gf (#[enc x,enc y]++cb) W fun e w'=>e=.returned (.int .i64 (cf x y))/\∃q os',w'=grow (W.drewN q) os') (h0:w0.heap.size<=base) (hB:Below w0.heap.size w0 w) (hl:xs.length<=1000000000000) :
  Calls P (ρ.f 6) #[v,.func (.func gf) #[] cb] w fun e' w'=>e'=.returned (.tuple #[])/\∃ys,ys.Perm xs/\(∀(i j:Nat) (a b:α),i<j->ys[i]? = some a->ys[j]? = some b->¬cf b a<0)/\yZf enc e base w' v ys/\w.grownBy w' v.ownBlock/\Below w0.heap.size w0 w':=by
 obtain⟨A,c,rfl⟩:=OwnEs.form h;have h':=xQx h;rcases h'.2 with⟨h2,h4⟩|⟨g,cap,cur,hv,_⟩
 ·injection h2 with e1 e2 e3
  have hx:=List.eq_nil_of_length_eq_zero e2;subst e1;subst hx;refine(AnyF.slices_SortFunc_none { L with } none c _ w).mono ?_;rintro e' w' ⟨rfl,rfl⟩;exact⟨rfl,[],List.Perm.refl _,by simp,h,⟨rfl,rfl,rfl,Nat.le_refl _,fun k _ _=>rfl⟩,hB⟩
 ·injection hv with e1 e2 e3
  subst e1;obtain⟨hH,hlt,hb,hn,hnc,hcm,_⟩:=xYh h;have hcl:CmpLays1 P gf cb enc cf g 0 xs.toArray.size w:=fun m os dk hs x y=>hcmp _ x y (by
   have h9:=(zVj (m:=m) (os:=os) (ts:=dk.toList) h (by simpa using hs)).2;rw[show dk.toList.toArray=dk by simp] at h9;exact h9)
  have hc:=Any.slices_SortFunc L enc hoc cf hO gf cb g 0 c xs.toArray w eg hcl hH hlt (by simp;omega);rw[show xs.toArray.size=xs.length by simp] at hc;refine hc.mono ?_;rintro e' w' ⟨rfl,d',m,os,hp,hs,rfl⟩;have hsz:d'.size=xs.length:=by have:=hp.1;simpa using this
  have hperm:d'.toList.Perm xs:=by
   have h3:=hp.2.2;rw[show d'.extract 0 xs.length=d' by rw[<- hsz];simp,show xs.toArray.extract 0 xs.length=xs.toArray by simp] at h3;simpa using h3
  have hle:d'.toList.length=xs.length:=by simpa using hsz
  obtain⟨h5,h6⟩:=zVj (m:=m) (os:=os) (ts:=d'.toList) h hle;rw[show d'.toList.toArray=d' by simp] at h5 h6;refine⟨rfl,d'.toList,hperm,fun i j a b hij ha hb' hlt'=>?_,h5,h6,hB.grown h6 (by have:=hB.size;omega) (fun k hk=>by injection hk with hk;omega)⟩;obtain⟨hi,hxa⟩:=zQ1.1 ha;obtain⟨hj,hxb⟩:=zQ1.1 hb';have h7:=hs i j (zKk _) hij (by omega);have hi':i<d'.size:=by simpa using hi
  have hj':j<d'.size:=by simpa using hj
  rw[getElem!_pos _ i hi',getElem!_pos _ j hj'] at h7;rw[Array.getElem_toList] at hxa hxb;rw[hxa,hxb] at h7;unfold ltOf at h7;simp at h7;omega
end
structure RowV where
 A:Option Addr
 c:Nat
 r:List Int
def RowV.val(x:RowV):Value:=.slice x.A x.r.length x.c
def uQu(B:Nat)(w:World)(row:Option Nat)(x:RowV):Prop:=zZh B w row [x.val] x.r/\x.r.length<=1000000
abbrev uQm(B:Nat)(w:World)(row:Option Nat):Type:={x:RowV // uQu B w row x}
instance inhRow{B:Nat}{w:World}{row:Option Nat}:Inhabited (uQm B w row):=
 ⟨⟨⟨none,0,[]⟩,⟨none,0,rfl,(fun j u hu=>by simp at hu),fun _=>⟨rfl,rfl⟩,Nat.le_refl _,by decide,fun ad h=>by cases h⟩,by simp⟩⟩
def uQv{B:Nat}{w:World}{row:Option Nat}(x:uQm B w row):Value:=x.1.val
def cfR{B:Nat}{w:World}{row:Option Nat}(x y:uQm B w row):Int:=xVp x.1.r y.1.r
theorem uXv{B:Nat}{w:World}{row:Option Nat}:∀(rows:List (List Int)) (cells:List Value),cells.length=rows.length->(∀r∈rows,r.length<=1000000)->(∀i a,rows[i]? = some a->zZh B w row ((cells.drop (i*1)).take 1) a)->∃xs:List (uQm B w row),xs.map uQv=cells/\xs.map (fun x=>x.1.r)=rows
 | [],cells,hl,_,_=>⟨[],by cases cells with|nil=>rfl|cons _ _=>simp at hl,rfl⟩
 |r::rows,[],hl,_,_=>by simp at hl
 |r::rows,c::cells,hl,hr,h=>by
  obtain⟨xs,h1,h2⟩:=uXv rows cells (by simpa using hl) (fun x hx=>hr x (List.mem_cons_of_mem _ hx)) (fun i a ha=>by
   have h3:=h (i+1) a (by simpa using ha);simpa using h3)
  have h0:=h 0 r rfl;simp only[Nat.zero_mul,List.drop_zero,yJx,List.take_zero] at h0;have h0':=h0;obtain⟨A,cc,e,_⟩:=h0';injection e with e _
  have hx:uQu B w row ⟨A,cc,r⟩:=⟨by show zZh B w row [.slice A r.length cc] r;rw[<- e];exact h0,hr r (vVp ..)⟩;refine⟨⟨_,hx⟩::xs,?_,?_⟩
  ·show _::xs.map uQv=_;rw[h1,e];rfl
  ·show r::xs.map (fun x=>x.1.r)=_;rw[h2]
theorem uZv{B:Nat}{w w':World}{v:Value}{ys:List (uQm B w v.ownBlock)}(h:yZf uQv 22 B w' v ys)(hg:w.grownBy w' v.ownBlock):OwnLL B w' v (ys.map fun x=>x.1.r):=by
 have h1:=xQx h;refine⟨_,by rw[zQl];exact h1,fun i a ha=>?_⟩;rw[vQ4] at ha;obtain⟨y,hy,rfl⟩:=vYt.1 ha;obtain⟨hi,he⟩:=zQ1.1 hy;rw[Nat.mul_one,List.drop_eq_getElem_cons (by rw[zQl];exact hi),yJx,List.take_zero,List.getElem_map,he];exact((xXc B).grown y.2.1 hg).1
theorem uXs{B:Nat}{w W:World}{row:Option Nat}(x:uQm B w row)(hg:w.grownBy W row):Ints W x.1.A x.1.r:=by
 obtain⟨A,c,e,hI,_,_,_,ha⟩:=x.2.1;unfold RowV.val at e;injection e with e _
 injection e with e1 e2 e3
 rw[e1];exact hI.grown hg (fun ad h=>(ha ad h).1)
theorem uZw{w0 w:World}{v:Value}{rows:List (List Int)}(h:OwnLL w0.heap.size w v rows)(hB:Below w0.heap.size w0 w)(hl:rows.length<=1000000000000)(hr:∀r∈rows,r.length<=1000000) :
  Calls prog 54 #[v,.func (.func 55) #[] #[]] w fun e w'=>e=.returned (.tuple #[])/\Below w0.heap.size w0 w'/\∃rs,rs.Perm rows/\OwnLL w0.heap.size w' v rs:=by
 obtain⟨cells,h1,h2⟩:=h;obtain⟨xs,e1,e2⟩:=uXv rows cells (by have:=h1.1;omega) hr h2;have hlen:xs.length=rows.length:=by rw[<- e2,zQl]
 have hO:=vJt (by rw[hlen,e1];exact h1);have hc:=uXz uZk (enc:=uQv (B:=w0.heap.size) (w:=w) (row:=v.ownBlock)) (e:=22) (fun _=>rfl) (fun _=>rfl) cfR (yQb fun(x:uQm w0.heap.size w v.ownBlock)=>x.1.r) 55 #[] (fun args w=>by kernel_rfl) hO
  (fun W x y hg=>(zV2 (uXs x hg) (uXs y hg) x.2.2 y.2.2).mono fun e w' hw=>⟨hw.1,0,#[],by rw[hw.2,grow_empty];rfl⟩) (Nat.le_refl _) hB (by omega)
 refine hc.mono ?_;rintro e w' ⟨rfl,ys,p1,_,p3,p4,p5⟩;refine⟨rfl,p5,ys.map (fun x=>x.1.r),?_,uZv p3 p4⟩;rw[<- e2];exact p1.map _
end
section
open Go.Shelf
theorem Cls.grownW{w w':World}:∀ {l:List (Nat×Nat×Value)} {row:Option Nat},Cls w l->w.grownBy w' row->(∀x∈l,row≠some x.1)->Cls w' l
 | [],_,_,_,_=>trivial
 |(b,k,v)::r,row,h,hg,hl=>by
  obtain⟨⟨h1,h2⟩,h3⟩:=h;have hn:some b≠row:=fun e=>hl (b,k,v) (vVp ..) e.symm
  have hlt:=zQ2 w _ h1;refine⟨⟨hg.cell h1 hn,?_⟩,Cls.grownW h3 hg fun x hx=>hl x (List.mem_cons_of_mem _ hx)⟩;have hb:=hg.block b hlt hn;simp only[World.frozen?,hb] at h2 ⊢;exact h2
theorem Cls.blkW{w:World}:∀ {l:List (Nat×Nat×Value)},Cls w l->∀x∈l,x.1<w.heap.size
 | [],_,_,hx=>by cases hx
 |(b,k,v)::r,h,x,hx=>by
  obtain⟨⟨h1,_⟩,h3⟩:=h;rcases yQ6.1 hx with rfl|hx
  ·exact zQ2 w _ h1
  ·exact Cls.blkW h3 x hx
theorem uZ5{ops:Array Oper}{rest:List Oper}{o:Oper}{a:Act}{w:World}{Q:Exit->Act->World->Prop}(hgd:o.guard=none)(s x:Operand)
  (ho:o.op=.call { callee:=.builtin .append,args:=#[s,x],argTypes:=#[22,22] })
  (w0:World) (l:List (Nat×Nat×Value)) (base:Nat) (v:Value) (xs:List Int) (y:Int) (hs:a.eval s=v) (hown:OwnI base w v xs) (ad:Addr) (m:Nat) (hx:a.eval x=.slice (some ad) 1 m) (hc:w.cell? ad=some (.int .i64 y))
  (hlen:xs.length<1000000000000) (hbase:base<=w.heap.size) (h0:w0.heap.size<=base) (hB:Below w0.heap.size w0 w) (hC:Cls w l) (hl:∀x∈l,v.ownBlock≠some x.1)
  (h:∀v' w',OwnI base w' v' (xs ++ [y])->Below w0.heap.size w0 w'->Cls w' l->w.heap.size<=w'.heap.size->(∀x∈l,v'.ownBlock≠some x.1)->wpList prog ops Q rest (a.put o.dst v') w'):wpList prog ops Q (o::rest) a w:=by
 obtain⟨i0,hi0,hz⟩:=vYt.1 xZd;simp only[Prod.mk.injEq] at hz;refine wpList_append_own_at w hgd s x 22 ho base 3 i0 (.int .i64 0) 1 8 underlying22 hi0 hz.1 hz.2.1 hz.2.2 rfl (by decide) v xs.length (xs.map (Value.int .i64)) hs hown ad 1 m [.int .i64 y] hx rfl (xJa hc) ?_ ?_ ?_ hbase ?_
 ·intro u hu;simp at hu;subst hu;rfl
 ·simp only[maxLen];omega
 ·omega
 ·intro v' w' h1 h2 _ h4;refine h v' w' ?_ (xQc hB (OwnI.mono hown h0) h2 (yJ1 h0 hbase)) (hC.grownW h2 hl) h2.size (fun z hz=>?_)
  ·unfold OwnI;rw[List.length_append,vQu];exact h1
  ·rcases h4 with h4|h4
   ·rw[h4];exact hl z hz
   ·rw[h4];intro e;injection e with e
    have:=hC.blkW z hz;omega
def inB(x y:Int):Bool:=bits BinOp.and IntKind.i64 y x==x
theorem uXr:Enters 51:=fun args w=>by kernel_rfl
theorem uZq(w:World)(b:Nat)(x y:Int)(hb:w.cell? ⟨b,0,none⟩=some (.int .i64 x)) :
  Calls prog 51 #[.int .i64 y,.pointer (some ⟨b,0,none⟩)] w fun e w'=>e=.returned (.bool (inB x y))/\Below w.heap.size w w':=by
 go_enter func51,ntmps51;go_wp2;go_ret;exact⟨rfl,Below.refl _ _⟩
theorem uQk(w:World)(t:TaskV)(Ai Ag Ao:Option Addr)(ci cg co:Nat)(hT:TaskMem w Ai Ag Ao t)(n:Nat)(hn:t.facts=n)(hv:Valid t)(hb:10<n) :
  Calls prog 17 #[.agg #[.int .i64 t.facts,.slice Ai t.init.length ci,.slice Ag t.goal.length cg,.slice Ao t.ops.length co]] w fun e w'=>e=.returned (.tuple #[.slice none 0 0,.agg #[.int .i64 10,.int .i64 (-8)]])/\Below w.heap.size w w':=by
 have HT0:=lHd (xZ9 hv);have hz:decide (t.facts>10)=true:=zWo (by omega);clear hv hn;go_enter func17,ntmps17
 go_wp2_with fail
 refine(xXq _ _ _ _ _ _ _ _ (hT.below bch)).mono ?_;rintro e w1 ⟨he,hB1⟩;rw[HT0.out] at he;subst he;have D1:=xJ3 w hB1 bch;have C1:=Cls.below (l:=[(w.heap.size,0,.int .i64 t.facts),(w.heap.size,1,.slice Ai t.init.length ci),(w.heap.size,2,.slice Ag t.goal.length cg),(w.heap.size,3,.slice Ao t.ops.length co),(w.heap.size+1,0,.int .i64 0),(w.heap.size+1,1,.int .i64 0)]) hB1 (by simp[Cls,go_sem]);have F1:=C1.f;have y1w1:=C1.b 4;have y1w0:w.heap.size<w1.heap.size:=(by omega);go_wp2;refine bodyPost_ret ?_ rfl ⟨rfl,bch⟩;simp[results,results17,go_sem,F1,y1w1]
theorem Cls.app{w:World}:∀ {l r:List (Nat×Nat×Value)},Cls w l->Cls w r->Cls w (l++r)
 | [],_,_,h=>h
 |_::_,_,h,h2=>⟨h.1,Cls.app h.2 h2⟩
theorem OwnI.lt_{base:Nat}{w:World}{v:Value}{xs:List Int}(h:OwnI base w v xs):∀k,v.ownBlock=some k->base<=k/\k<w.heap.size:=h.lt
theorem uQd(w:World){x f:Int}{n:Nat}{G:List Int}(hG:uXp x n=G)(hf:f=(n:Int))(hx0:0<=x)(hx1:x<1048576)(hn:n<=24) :
  Calls prog 50 #[.int .i64 x,.int .i64 f] w fun e w'=>(∃A c,e=.returned (.slice A G.length c)/\Ints w' A G/\OwnI w.heap.size w' (.slice A G.length c) G)/\Below w.heap.size w w':=by
 subst hf;subst hG;exact(uQ6 w x hx0 hx1 n hn).mono fun e w' ⟨v,h1,h2,h3⟩=>by
  obtain⟨A,c,rfl,hn,hI⟩:=h2.form;exact⟨⟨A,c,h1,hI,h2⟩,h3⟩
theorem uZr(w:World)(t:TaskV)(Ai Ag Ao:Option Addr)(ci cg co:Nat)(hT:TaskMem w Ai Ag Ao t){g:List Int}(G:Option Addr)(cG:Nat)(hG:Ints w G g){n:Nat}(hn:t.facts=n)(hv:Valid t)(hg:SetP g (n:Int)){v:Bool}(hh:uXo t g=v) :
  Calls prog 52 #[.agg #[.int .i64 t.facts,.slice Ai t.init.length ci,.slice Ag t.goal.length cg,.slice Ao t.ops.length co],.slice G g.length cG] w fun e w'=>e=.returned (.bool v)/\Below w.heap.size w w':=by
 subst hh;exact uZx w t Ai Ag Ao ci cg co hT g G cG hG n hn hv hg
theorem uQt(A:Option Addr)(c:Nat)(xs:List Int)(F:FuncId)(q:Value)(p:Int->Bool)(w:World)(hI:Ints w A xs)(hl:xs.length<=9223372036854775807)(hE:Enters F)(hf:yV8 F q xs p w){v:Bool}(hv:decide (∃x∈xs,p x=true)=v) :
  Calls prog 53 #[.slice A xs.length c,.func (.func F) #[] #[q]] w fun e w'=>e=.returned (.bool v)/\Below w.heap.size w w':=by
 subst hv;exact zJg A c xs F q p w hI hl hE hf
def FindP(n:Nat)(t:TaskV)(w:World)(e:Ending)(w':World):Prop:=Below w.heap.size w w'/\∃(v:Value) (gs:List (List Int)),e=.returned (.tuple #[v,.agg #[.int .i64 0,.int .i64 0]])/\(∃B,w.heap.size<=B/\OwnLL B w' v gs)/\gs.length<=1024/\∀g∈gs,SetP g (n:Int)/\uXo t g=true
theorem uQl(w:World)(t:TaskV)(Ai Ag Ao:Option Addr)(ci cg co:Nat)(hT:TaskMem w Ai Ag Ao t)(n:Nat)(hn:t.facts=n)(hv:Valid t)(hb:n<=10) :
  Calls prog 17 #[.agg #[.int .i64 t.facts,.slice Ai t.init.length ci,.slice Ag t.goal.length cg,.slice Ao t.ops.length co]] w ((FindP n t w)):=by
 have HT0:=lHd (xZ9 hv);have hz:decide (t.facts>10)=false:=zVa (by omega);have HN:=lHd hn;have HV:=lHd hv;have hf0:=hv.f0;have hf1:t.facts<=10:=by omega
 clear hv hn;go_enter func17,ntmps17
 go_wp2_with fail
 refine(xXq _ _ _ _ _ _ _ _ (hT.below bch)).mono ?_;rintro e w1 ⟨he,hB1⟩;rw[HT0.out] at he;subst he;have D1:=xJ3 w hB1 bch;have C1:=Cls.below (l:=[(w.heap.size,0,.int .i64 t.facts),(w.heap.size,1,.slice Ai t.init.length ci),(w.heap.size,2,.slice Ag t.goal.length cg),(w.heap.size,3,.slice Ao t.ops.length co),(w.heap.size+1,0,.int .i64 0),(w.heap.size+1,1,.int .i64 0)]) hB1 (by simp[Cls,go_sem]);have F1:=C1.f;have y1w1:=C1.b 4;have y1w0:w.heap.size<w1.heap.size:=(by omega);have y1wp1:w.heap.size<w1.heap.size+1:=(by omega);have hT1:=hT.below D1;obtain⟨X,hX,hX1,hX2⟩:∃X:Int,(2:Int)^t.facts.toNat=X/\1<=X/\X<=1024:=⟨_,rfl,by
  have h2q:0<2^n:=Nat.pow_pos (by decide);have h3:(2:Int)^t.facts.toNat=((2^n:Nat):Int):=by rw[HN.out];simp
  rw[h3];omega,by
  have h2p:2^n<=1024:=yJ1 (Nat.pow_le_pow_right (by decide) hb) (by decide);have h3:(2:Int)^t.facts.toNat=((2^n:Nat):Int):=by rw[HN.out];simp
  rw[h3];omega⟩
 go_wp2_with fail
 go_loopg [5,6] ((X-1).toNat) (fun gk v p wr=>∃(b:Nat) (x:Int) (ws:List Int),p=.pointer (some ⟨b,0,none⟩)/\Hid (x=(gk:Int))/\0<=x/\x<1024/\OwnI (w1.heap.size+1) wr v ws/\v.ownBlock≠some b/\w1.heap.size+1<=b/\wr.cell? ⟨b,0,none⟩=some (.int .i64 x)/\wr.frozen? ⟨b,0,none⟩=false/\Hid (ws.length+gk<=1024)/\Hid (∀y∈ws,0<=y/\y<1024/\uXo t (uXp y n)=true)/\Below w1.heap.size w1 wr/\Cls wr [(w.heap.size,0,.int .i64 t.facts),(w.heap.size,1,.slice Ai t.init.length ci),(w.heap.size,2,.slice Ag t.goal.length cg),(w.heap.size,3,.slice Ao t.ops.length co),(w.heap.size+1,0,.int .i64 0),(w.heap.size+1,1,.int .i64 0),(w1.heap.size,0,.int .i64 0),(w1.heap.size,1,.int .i64 0)])
 case atStart=>exact⟨w1.heap.size+1,X-1,[],rfl,lHd (by omega),by omega,by omega,OwnI.nil _ _,by simp[Value.ownBlock],by simp,by simp[go_sem],by simp[go_sem],lHd (by simp;omega),lHd (by simp),mvp,(by simp[Cls,go_sem,F1,y1w1,y1w0,y1wp1])⟩
 case round=>
  obtain⟨b,x,ws,rfl,hx,hx0,hx1,hown,hvb,hbb,hcb,hfb,hwl,hws,hBr,hCr⟩:=hrel;obtain⟨w2,rfl⟩:∃wo:World,wo=wr:=⟨_,rfl⟩;have hC2:Cls w2 (([(w.heap.size,0,.int .i64 t.facts),(w.heap.size,1,.slice Ai t.init.length ci),(w.heap.size,2,.slice Ag t.goal.length cg),(w.heap.size,3,.slice Ao t.ops.length co),(w.heap.size+1,0,.int .i64 0),(w.heap.size+1,1,.int .i64 0),(w1.heap.size,0,.int .i64 0),(w1.heap.size,1,.int .i64 0)]:List (Nat×Nat×Value)) ++ [(b,0,.int .i64 x)]):=Cls.app hCr ⟨⟨hcb,hfb⟩,trivial⟩;have hvl:∀z∈([(w.heap.size,0,.int .i64 t.facts),(w.heap.size,1,.slice Ai t.init.length ci),(w.heap.size,2,.slice Ag t.goal.length cg),(w.heap.size,3,.slice Ao t.ops.length co),(w.heap.size+1,0,.int .i64 0),(w.heap.size+1,1,.int .i64 0),(w1.heap.size,0,.int .i64 0),(w1.heap.size,1,.int .i64 0)]:List (Nat×Nat×Value)) ++ [(b,0,.int .i64 x)],u5.ownBlock≠some z.1:=fun z hz e=>by
   have h1:=(OwnI.lt_ hown _ e).1;rcases vJn.1 hz with hz|hz
   ·simp at hz;rcases hz with rfl|rfl|rfl|rfl|rfl|rfl|rfl|rfl<;>simp at h1<;>omega
   ·simp at hz;subst hz;exact hvb e
  simp only[List.cons_append,List.nil_append] at hC2 hvl
  by_cases hlt:0<x
  ·obtain⟨G,hG⟩:∃G,Hid (uXp x n=G):=⟨_,lHd rfl⟩;have HGS:Hid (SetP G (n:Int)):=lHd (by rw[<- hG.out];exact uXx x n);obtain⟨A5,c5,hv5,hn5,hI5⟩:=hown.form;have hwl2:ws.length<=1024:=by have:=hwl.out;omega
   have HNX:=lHd (show ws.length+(x-1).toNat<=1024/\(x-1).toNat<gk/\ws.length+1+(x-1).toNat<=1024 by have:=hwl.out;have:=hx.out;omega);have HX1:=lHd (show x-1=(((x-1).toNat:Nat):Int) by omega);have hlen:ws.length<1000000000000:=by omega
   subst hv5;clear hn5;have Fq:=hC2.f;have yqb0:=hC2.blk (b:=b) (k:=0) (v:=.int .i64 x) (by simp);have yqw1:=hC2.blk (b:=w.heap.size+1) (k:=0) (v:=.int .i64 0) (by simp);have yqw10:=hC2.blk (b:=w1.heap.size) (k:=0) (v:=.int .i64 0) (by simp)
   go_wp2_with fail
   refine(uQd _ hG.out HN.out hx0 (by omega) (by omega)).mono ?_;rintro e w3 ⟨⟨A3,c3,rfl,hI3,-⟩,hB3⟩;have D3:=xJ3 w1 hB3 bch;have Ew2_3:=xJ3 w2 hB3 bch;have C3:=Cls.below (l:=[(w.heap.size,0,.int .i64 t.facts),(w.heap.size,1,.slice Ai t.init.length ci),(w.heap.size,2,.slice Ag t.goal.length cg),(w.heap.size,3,.slice Ao t.ops.length co),(w.heap.size+1,0,.int .i64 0),(w.heap.size+1,1,.int .i64 0),(w1.heap.size,0,.int .i64 0),(w1.heap.size,1,.int .i64 0),(b,0,.int .i64 x)]) hB3 (by simp[Cls,go_sem,Fq]);have F3:=C3.f;have y3b0:=C3.b 8;have y3w1:=C3.b 4;have y3w0:w.heap.size<w3.heap.size:=(by omega);have y3w10:=C3.b 6
   by_cases hg2:2<=G.length
   case' neg=>
    have dg:decide ((G.length:Int)>=2)=false:=zVa (by omega);go_wp2
    go_roundg ((x-1).toNat)
    case measure=>exact HNX.out.2.1
    case rel=>
     exact⟨w3.heap.size,x-1,ws,rfl,HX1,by omega,by omega,(hown.below bch).below bch,fun e=>by have:=(OwnI.lt_ (hown.below bch) _ e).2;omega,by omega,by simp[go_sem],by simp[go_sem],lHd HNX.out.1,hws,bch,(by simp[Cls,go_sem,F3,y3w1,y3w0,y3w10])⟩
   case' pos=>
    have dg:decide ((G.length:Int)>=2)=true:=zWo (by omega)
    cases hh:uXo t G with
    |false=>
     have HH:=lHd hh;clear hh
     go_wp2_with fail
     go_at_call 52;refine(uZr _ t Ai Ag Ao ci cg co (hT1.below bch) A3 c3 (hI3.below bch) HN.out HV.out HGS.out HH.out).mono ?_;rintro e w4 ⟨rfl,hB4⟩;have D4:=xJ3 w1 hB4 bch;have d4s:=D4.size;have Ew2_4:=xJ3 w2 hB4 bch;have Ew3_4:=xJ3 w3 hB4 bch;have C4:=Cls.below (l:=[(w.heap.size,0,.int .i64 t.facts),(w.heap.size,1,.slice Ai t.init.length ci),(w.heap.size,2,.slice Ag t.goal.length cg),(w.heap.size,3,.slice Ao t.ops.length co),(w.heap.size+1,0,.int .i64 0),(w.heap.size+1,1,.int .i64 0),(w1.heap.size,0,.int .i64 0),(w1.heap.size,1,.int .i64 0),(b,0,.int .i64 x)]) hB4 (by simp[Cls,go_sem,F3]);have F4:=C4.f;have y4b0:=C4.b 8;have y4w1:=C4.b 4;have y4w0:w.heap.size<w4.heap.size:=(by omega);have y4w10:=C4.b 6;go_wp2
     go_roundg ((x-1).toNat)
     case measure=>exact HNX.out.2.1
     case rel=>
      exact⟨w4.heap.size,x-1,ws,rfl,HX1,by omega,by omega,(hown.below bch).below bch,fun e=>by have:=(OwnI.lt_ (hown.below bch) _ e).2;omega,by omega,by simp[go_sem],by simp[go_sem],lHd HNX.out.1,hws,bch,(by simp[Cls,go_sem,F4,y4w1,y4w0,y4w10])⟩
    |true=>
     have HH:=lHd hh;clear hh
     go_wp2_with fail
     go_at_call 52;refine(uZr _ t Ai Ag Ao ci cg co (hT1.below bch) A3 c3 (hI3.below bch) HN.out HV.out HGS.out HH.out).mono ?_;rintro e w4 ⟨rfl,hB4⟩;have D4:=xJ3 w1 hB4 bch;have d4s:=D4.size;have Ew2_4:=xJ3 w2 hB4 bch;have Ew3_4:=xJ3 w3 hB4 bch;have C4:=Cls.below (l:=[(w.heap.size,0,.int .i64 t.facts),(w.heap.size,1,.slice Ai t.init.length ci),(w.heap.size,2,.slice Ag t.goal.length cg),(w.heap.size,3,.slice Ao t.ops.length co),(w.heap.size+1,0,.int .i64 0),(w.heap.size+1,1,.int .i64 0),(w1.heap.size,0,.int .i64 0),(w1.heap.size,1,.int .i64 0),(b,0,.int .i64 x)]) hB4 (by simp[Cls,go_sem,F3]);have F4:=C4.f;have y4b0:=C4.b 8;have y4w1:=C4.b 4;have y4w0:w.heap.size<w4.heap.size:=(by omega);have y4w10:=C4.b 6;have HTS:Hid (yV8 51 (.pointer (some ⟨b,0,none⟩)) ws (inB x) w4):=lHd (fun y hy wr hbr=>uZq wr b x y ((hbr.cell (p:=⟨b,0,none⟩) (by show b<_;omega)).trans (by have q:=C4;simp only[Cls,and_true] at q;simp[q])))
     cases hc:decide (∃y∈ws,inB x y=true) with
     |true=>
      have HCC:=lHd hc;clear hc
      go_wp2_with fail
      go_at_call 53;refine(uQt _ _ ws _ _ _ _ (hI5.below bch) (by omega) uXr HTS.out HCC.out).mono ?_;rintro e w5 ⟨rfl,hB5⟩;have D5:=xJ3 w1 hB5 bch;have d5s:=D5.size;have Ew2_5:=xJ3 w2 hB5 bch;have C5:=Cls.below (l:=[(w.heap.size,0,.int .i64 t.facts),(w.heap.size,1,.slice Ai t.init.length ci),(w.heap.size,2,.slice Ag t.goal.length cg),(w.heap.size,3,.slice Ao t.ops.length co),(w.heap.size+1,0,.int .i64 0),(w.heap.size+1,1,.int .i64 0),(w1.heap.size,0,.int .i64 0),(w1.heap.size,1,.int .i64 0),(b,0,.int .i64 x)]) hB5 (by simp[Cls,go_sem,F4]);have F5:=C5.f;have y5b0:=C5.b 8;have y5w1:=C5.b 4;have y5w0:w.heap.size<w5.heap.size:=(by omega);have y5w10:=C5.b 6;go_wp2
      go_roundg ((x-1).toNat)
      case measure=>exact HNX.out.2.1
      case rel=>
       exact⟨w5.heap.size,x-1,ws,rfl,HX1,by omega,by omega,(hown.below bch).below bch,fun e=>by have:=(OwnI.lt_ (hown.below bch) _ e).2;omega,by omega,by simp[go_sem],by simp[go_sem],lHd HNX.out.1,hws,bch,(by simp[Cls,go_sem,F5,y5w1,y5w0,y5w10])⟩
     |false=>
      have HCC:=lHd hc;clear hc
      go_wp2_with fail
      go_at_call 53;refine(uQt _ _ ws _ _ _ _ (hI5.below bch) (by omega) uXr HTS.out HCC.out).mono ?_;rintro e w5 ⟨rfl,hB5⟩;have D5:=xJ3 w1 hB5 bch;have d5s:=D5.size;have Ew2_5:=xJ3 w2 hB5 bch;have C5:=Cls.below (l:=[(w.heap.size,0,.int .i64 t.facts),(w.heap.size,1,.slice Ai t.init.length ci),(w.heap.size,2,.slice Ag t.goal.length cg),(w.heap.size,3,.slice Ao t.ops.length co),(w.heap.size+1,0,.int .i64 0),(w.heap.size+1,1,.int .i64 0),(w1.heap.size,0,.int .i64 0),(w1.heap.size,1,.int .i64 0),(b,0,.int .i64 x)]) hB5 (by simp[Cls,go_sem,F4]);have F5:=C5.f;have y5b0:=C5.b 8;have y5w1:=C5.b 4;have y5w0:w.heap.size<w5.heap.size:=(by omega);have y5w10:=C5.b 6;have hown5:=hown.below bch;have HGOOD:Hid (∀y∈ws ++ [x],0<=y/\y<1024/\uXo t (uXp y n)=true):=lHd (fun y hy=>by
       rcases vJn.1 hy with hy|hy
       ·exact hws.out y hy
       ·simp at hy;subst hy;exact⟨hx0,hx1,by rw[hG.out];exact HH.out⟩)
      go_wp2_with (at_builtin;go_must (refine uZ5 rfl (.tmp 49) (.tmp 51) rfl w1 [(w.heap.size,0,.int .i64 t.facts),(w.heap.size,1,.slice Ai t.init.length ci),(w.heap.size,2,.slice Ag t.goal.length cg),(w.heap.size,3,.slice Ao t.ops.length co),(w.heap.size+1,0,.int .i64 0),(w.heap.size+1,1,.int .i64 0),(w1.heap.size,0,.int .i64 0),(w1.heap.size,1,.int .i64 0),(b,0,.int .i64 x)] (w1.heap.size+1) _ ws x rfl (OwnI.below hown5 ?p1) ⟨w5.heap.size,0,none⟩ 1 rfl ?p2 hlen ?p3 ?p4 ?p5 ?p6 ?p7 ?_;(case p1=>exact bch);(case p2=>(simp[go_sem]));(case p3=>(simp<;>omega));(case p4=>(simp<;>omega));(case p5=>exact bch);(case p6=>exact Cls.below (w:=w5) bch C5);(case p7=>exact hvl);intro v6 w6 o6 D6 C6 sz6 nb6;have d6s:=D6.size;have F6:=C6;simp only[Cls,and_true] at F6;have y6b0:b<w6.heap.size:=C6.blk (b:=b) (k:=0) (v:=.int .i64 x) (by simp);have y6bp1:b<w6.heap.size+1:=(by omega);have y6bp2:b<w6.heap.size+1+1:=(by omega);have y6w1:w.heap.size+1<w6.heap.size:=C6.blk (b:=w.heap.size+1) (k:=0) (v:=.int .i64 0) (by simp);have y6w0:w.heap.size<w6.heap.size:=(by omega);have y6wp1:w.heap.size<w6.heap.size+1:=(by omega);have y6wp2:w.heap.size<w6.heap.size+1+1:=(by omega);have y6w10:w1.heap.size<w6.heap.size:=C6.blk (b:=w1.heap.size) (k:=0) (v:=.int .i64 0) (by simp);have y6w1p1:w1.heap.size<w6.heap.size+1:=(by omega);have y6w1p2:w1.heap.size<w6.heap.size+1+1:=(by omega)))
      go_wp2
      go_roundg ((x-1).toNat)
      case measure=>exact HNX.out.2.1
      case rel=>
       exact⟨w6.heap.size,x-1,ws ++ [x],rfl,HX1,by omega,by omega,(o6).below bch,fun e=>by have:=(OwnI.lt_ (o6) _ e).2;omega,by omega,by simp[go_sem],by simp[go_sem],lHd (by rw[List.length_append,List.length_singleton];exact HNX.out.2.2),HGOOD,bch,(by simp[Cls,go_sem,F6,y6w1,y6w0,y6w10])⟩
  ·clear hvl hC2;have Fz:=hCr.f;have yzw1:=hCr.blk (b:=w.heap.size+1) (k:=0) (v:=.int .i64 0) (by simp);have yzw10:=hCr.blk (b:=w1.heap.size) (k:=0) (v:=.int .i64 0) (by simp);obtain⟨A5,c5,hv5,hn5,hI5⟩:=hown.form;have hwl2:ws.length<=1024:=by have:=hwl.out;omega
   subst hv5;clear hn5 hvb;go_wp2
   go_loopw [9,56] (fun v i wr=>∃k:Nat,k<=ws.length/\i=.int .i64 (k:Int)/\OwnLL w2.heap.size wr v ((ws.take k).map fun y=>uXp y n)/\Below w2.heap.size w2 wr/\Cls wr [(w.heap.size,0,.int .i64 t.facts),(w.heap.size,1,.slice Ai t.init.length ci),(w.heap.size,2,.slice Ag t.goal.length cg),(w.heap.size,3,.slice Ao t.ops.length co),(w.heap.size+1,0,.int .i64 0),(w.heap.size+1,1,.int .i64 0),(w1.heap.size,0,.int .i64 0),(w1.heap.size,1,.int .i64 0)]) (fun _ i _=>ws.length-(intOf i).toNat)
   case atStart=>exact⟨0,zKk _,rfl,OwnEs.nil _ _,bch,(by simp[Cls,go_sem,Fz])⟩
   case round=>
    obtain⟨k,hk,rfl,hown2,hBs,hCs⟩:=hrel;obtain⟨w3,rfl⟩:∃wo:World,wo=wr:=⟨_,rfl⟩;have hs3:=hBs.size;have Fs:=hCs.f;have ysw1:=hCs.blk (b:=w.heap.size+1) (k:=0) (v:=.int .i64 0) (by simp);have ysw10:=hCs.blk (b:=w1.heap.size) (k:=0) (v:=.int .i64 0) (by simp)
    by_cases hkl:k<ws.length
    ·obtain⟨ad,y,rfl,hy,hcy⟩:=(hI5.below hBs).at_ hkl;have HY0:=lHd (hws.out y (lMg hy.out));have hy0:=HY0.out.1;have hy1:y<1048576:=by have:=HY0.out.2.1;omega
     have HTK:=lHd (show(ws.take (k+1)).map (fun y=>uXp y n)=(ws.take k).map (fun y=>uXp y n) ++ [uXp y n] by rw[vXd,hy.out];simp);have hlen:((ws.take k).map fun y=>uXp y n).length<1000000000000:=by rw[zQl,List.length_take];omega
     obtain⟨G,hG⟩:∃G,Hid (uXp y n=G):=⟨_,lHd rfl⟩;rw[hG.out] at HTK
     go_wp2_with fail
     go_at_call 50;refine(uQd _ hG.out HN.out hy0 hy1 (by omega)).mono ?_;rintro e w4 ⟨⟨A4,c4,rfl,hI4,hO4⟩,hB4⟩;have D4:=xJ3 w2 hB4 bch;have d4s:=D4.size;have Ew3_4:=xJ3 w3 hB4 bch;have C4:=Cls.below (l:=[(w.heap.size,0,.int .i64 t.facts),(w.heap.size,1,.slice Ai t.init.length ci),(w.heap.size,2,.slice Ag t.goal.length cg),(w.heap.size,3,.slice Ao t.ops.length co),(w.heap.size+1,0,.int .i64 0),(w.heap.size+1,1,.int .i64 0),(w1.heap.size,0,.int .i64 0),(w1.heap.size,1,.int .i64 0)]) hB4 (by simp[Cls,go_sem,Fs]);have F4:=C4.f;have y4w1:=C4.b 4;have y4w0:w.heap.size<w4.heap.size:=(by omega);have y4w10:=C4.b 6;have HYP:=lHd (zJj (B:=w2.heap.size) (row:=u9.ownBlock) hO4 (by first|omega|(simp;omega)) (fun b hb=>by have:=(OwnEs.lt hown2 b hb).2;first|omega|(simp;omega)));have hown4:=hown2.below bch;clear hI4 hO4
     go_wp2_with (at_builtin;go_must (refine xVv (xXc _) 42 24 (.slice none 0 0) underlying42 xZy rfl (by decide) (by decide) rfl (.tmp 60) (.tmp 65) rfl w2 [(w.heap.size,0,.int .i64 t.facts),(w.heap.size,1,.slice Ai t.init.length ci),(w.heap.size,2,.slice Ag t.goal.length cg),(w.heap.size,3,.slice Ao t.ops.length co),(w.heap.size+1,0,.int .i64 0),(w.heap.size+1,1,.int .i64 0),(w1.heap.size,0,.int .i64 0),(w1.heap.size,1,.int .i64 0)] rfl (OwnLL.below hown4 ?p1) ⟨w4.heap.size,0,none⟩ 1 rfl [.slice A4 G.length c4] G rfl (xJa ?p2) ?p8 ((xXc _).below HYP.out ?p9) hlen ?p3 (Nat.le_refl _) ?p5 ?p6 ?p7 ?_;(case p1=>exact bch);(case p2=>simp[go_sem]);(case p3=>(simp<;>omega));(case p5=>exact bch);(case p6=>exact Cls.below (w:=w4) bch C4);(case p7=>(simp<;>omega));(case p8=>intro u hu;simp at hu;subst hu;rfl);(case p9=>exact bch);intro v6 w6 o6 D6 C6 sz6 G6 at6;clear G6 at6;have d6s:=D6.size))
     go_roundw
     case rel=>exact⟨k+1,by omega,by go_num,by rw[HTK.out];exact o6,D6,C6⟩
     case measure=>simp[intOf];omega
    ·have HTK:=lHd (show ws.take k=ws from zQd (by omega));rw[HTK.out] at hown2;have HGS:Hid (∀g∈ws.map (fun y=>uXp y n),SetP g (n:Int)/\uXo t g=true):=lHd (fun g hg=>by
      obtain⟨y,hy,rfl⟩:=vWz.1 hg;exact⟨uXx y n,(hws.out y hy).2.2⟩)
     have hlm:(ws.map fun y=>uXp y n).length<=1000000000000:=by rw[zQl];omega
     have hlr:∀r∈ws.map (fun y=>uXp y n),r.length<=1000000:=fun r hr=>by have:=(HGS.out r hr).1.length (by omega);omega
     have HML:=lHd (show(ws.map fun y=>uXp y n).length<=1024 by rw[zQl];exact hwl2);have HLM:=lHd hlm;have HLR:=lHd hlr;clear hlm hlr
     go_wp2_with fail
     refine(uZw (w0:=w2) (OwnLL.below hown2 bch) bch HLM.out HLR.out).mono ?_;rintro e w5 ⟨rfl,hB5,rs,hp,hO5⟩;have DZ:=D1.trans ((hBr.trans (hB5.mono hBr.size)).mono D1.size);have hCs5:=Cls.below hB5 hCr;have F5:=hCs5.f;have y5w1:=hCs5.blk (b:=w.heap.size+1) (k:=0) (v:=.int .i64 0) (by simp);have y5w0:w.heap.size<w5.heap.size:=(by omega);have y5w10:=hCs5.blk (b:=w1.heap.size) (k:=0) (v:=.int .i64 0) (by simp);go_wp2;refine bodyPost_ret (v:=.tuple #[u9,.agg #[.int .i64 0,.int .i64 0]]) ?_ rfl ⟨?_,u9,rs,rfl,⟨w2.heap.size,by omega,?_⟩,by rw[hp.length_eq];exact HML.out,fun g hg=>HGS.out g (hp.mem_iff.1 hg)⟩
     ·simp[results,results17,go_sem,F5]
     ·exact bch
     ·exact OwnLL.far (OwnLL.far hO5 (p:=⟨w.heap.size+1,0,none⟩) (by simp;omega) _) (p:=⟨w.heap.size+1,1,none⟩) (by simp;omega) _
end
theorem uZh(w:World)(t:TaskV)(Ai Ag Ao:Option Addr)(ci cg co:Nat)(hT:TaskMem w Ai Ag Ao t)(h:¬(xXn t).1=0) :
  Calls prog 15 #[.agg #[.int .i64 t.facts,.slice Ai t.init.length ci,.slice Ag t.goal.length cg,.slice Ao t.ops.length co]] w fun e w'=>e=.returned (.tuple #[.slice none 0 0,.agg #[.int .i64 (xXn t).1,.int .i64 (xXn t).2]])/\Below w.heap.size w w':=by
 have N:=zZf h;have N':=xYp h;go_enter func15,ntmps15
 go_wp2_with fail
 refine(vYc _ _ _ _ _ _ _ _ (hT.below bch) h).mono ?_;rintro e w1 ⟨rfl,hB1⟩;have D1:=xJ3 w hB1 bch;have C1:=Cls.below (l:=[(w.heap.size,0,.int .i64 t.facts),(w.heap.size,1,.slice Ai t.init.length ci),(w.heap.size,2,.slice Ag t.goal.length cg),(w.heap.size,3,.slice Ao t.ops.length co),(w.heap.size+1,0,.int .i64 0),(w.heap.size+1,1,.int .i64 0)]) hB1 (by simp[Cls,go_sem]);have F1:=C1.f;have y1w1:=C1.b 4
 go_wp2_with fail
 refine xJ5 2 (by kernel_rfl) (by kernel_rfl) ?_;simp only[yJx,List.take_zero,List.drop_succ_cons,List.drop_zero]
 repeat still_step
 try refine wpStill_nil ?_
 go_wp2;refine bodyPost_ret ?_ rfl ⟨rfl,bch⟩;simp[results,results15,go_sem,F1,y1w1]
def uQ9(n:Nat)(t:TaskV)(w:World)(e:Ending)(w':World):Prop:=Below w.heap.size w w' /\
 (
   (e=.returned (.tuple #[.slice none 0 0,.agg #[.int .i64 10,.int .i64 (-7)]])/\∃ls:List (List Int),ls.Nodup/\ls.length=2001/\∀l∈ls,∃c,Cst n t.ops t.init l c) \/
   (∃v ls,e=.returned (.tuple #[v,.agg #[.int .i64 0,.int .i64 0]])/\(∃B,w.heap.size<=B/\OwnLL B w' v ls)/\Clos n t.ops t.init ls/\ls.length<=2000))
theorem uZi(w:World)(t:TaskV)(Ai Ag Ao:Option Addr)(ci cg co:Nat)(hT:TaskMem w Ai Ag Ao t)(n:Nat)(hn:t.facts=n)(hv:Valid t) :
  Calls prog 15 #[.agg #[.int .i64 t.facts,.slice Ai t.init.length ci,.slice Ag t.goal.length cg,.slice Ao t.ops.length co]] w ((uQ9 n t w)):=by
 have HS:=lHd (zY6 hv hn);have hn24:=HS.out.n24;have HCK:=fun w0 h=>zQ7 w0 t Ai Ag Ao ci cg co h n hn hv
 clear hv hn;go_enter func15,ntmps15
 go_wp2_with fail
 refine(HCK _ (hT.below bch)).mono ?_;rintro e w1 ⟨hB1,hR1⟩;have D1:=xJ3 w hB1 bch;have C1:=Cls.below (l:=[(w.heap.size,0,.int .i64 t.facts),(w.heap.size,1,.slice Ai t.init.length ci),(w.heap.size,2,.slice Ag t.goal.length cg),(w.heap.size,3,.slice Ao t.ops.length co),(w.heap.size+1,0,.int .i64 0),(w.heap.size+1,1,.int .i64 0)]) hB1 (by simp[Cls,go_sem]);have F1:=C1.f;have y1w1:=C1.b 4;have y1w0:w.heap.size<w1.heap.size:=(by omega);rcases hR1 with⟨rfl,HTOO⟩|⟨g,v,ls,rfl,hW,hO,hC,hl⟩
 ·have HT1:=lHd HTOO;clear HTOO
  go_wp2_with fail
  refine xJ5 2 (by kernel_rfl) (by kernel_rfl) ?_;simp only[yJx,List.take_zero,List.drop_succ_cons,List.drop_zero]
  repeat still_step
  try refine wpStill_nil ?_
  go_wp2;refine bodyPost_ret (v:=.tuple #[.slice none 0 0,.agg #[.int .i64 10,.int .i64 (-7)]]) ?_ rfl ⟨?_,.inl ⟨rfl,HT1.out⟩⟩
  ·simp[results,results15,go_sem,F1,y1w1]
  ·exact mvk
 ·obtain⟨A,c,rfl⟩:=hO.form;have HC:=lHd hC;clear hC hW HCK;have hs1:=D1.size;go_wp2
  go_loopw [7,22] (fun v i wr=>∃k:Nat,k<=ls.length/\i=.int .i64 (k:Int)/\OwnLL w1.heap.size wr v (ls.take k)/\Below w1.heap.size w1 wr/\Cls wr [(w.heap.size,0,.int .i64 t.facts),(w.heap.size,1,.slice Ai t.init.length ci),(w.heap.size,2,.slice Ag t.goal.length cg),(w.heap.size,3,.slice Ao t.ops.length co),(w.heap.size+1,0,.int .i64 0),(w.heap.size+1,1,.int .i64 0)]) (fun _ i _=>ls.length-(intOf i).toNat)
  case atStart=>exact⟨0,zKk _,rfl,OwnEs.nil _ _,mvk,(by simp[Cls,go_sem,F1,y1w1,y1w0])⟩
  case round=>
   obtain⟨k,hk,rfl,hown,hBr,hCr⟩:=hrel;have hsr:=hBr.size
   by_cases hlt:k<ls.length
   ·obtain⟨l,hlk⟩:∃l,ls[k]? = some l:=⟨_,lGe hlt⟩;have hSl:=lHd (HC.out.set l (lMg hlk));obtain⟨g1,rfl,hg1,hg2,hcs⟩:=hO.at_ rfl hlk;have hcr:=(hBr.cell (p:=⟨g1,k,none⟩) hg2).trans hcs;have HTK:=lHd (show ls.take (k+1)=ls.take k ++ [l] by rw[vXd,hlk];rfl);have hlen:(ls.take k).length<1000000000000:=by rw[List.length_take];omega
    go_wp2_with (first|(go_at_call 48;(refine(xWl wr hSl.out hn24).mono ?_);rintro e w3 ⟨hB3,_,v3,rfl,hO3⟩;obtain⟨A3,c3,hv3,hnl3,hI3⟩:=hO3.form;subst hv3;clear hnl3 hI3;have HY:=lHd (zJj (B:=w1.heap.size) (row:=u7.ownBlock) hO3 (by omega) (fun b hb=>(OwnEs.lt hown b hb).2));have hs3:=hB3.size;have hown3:OwnLL w1.heap.size w3 u7 (ls.take k):=hown.below hB3;have hC3:=Cls.below hB3 hCr;have hB13:Below w1.heap.size w1 w3:=hBr.trans (hB3.mono hsr))|(at_builtin;refine xVv (xXc _) 42 24 (.slice none 0 0) underlying42 xZy rfl (by decide) (by decide) rfl (.tmp 26) (.tmp 29) rfl w1 [(w.heap.size,0,.int .i64 t.facts),(w.heap.size,1,.slice Ai t.init.length ci),(w.heap.size,2,.slice Ag t.goal.length cg),(w.heap.size,3,.slice Ao t.ops.length co),(w.heap.size+1,0,.int .i64 0),(w.heap.size+1,1,.int .i64 0)] rfl (OwnLL.below hown3 bl) ⟨w3.heap.size,0,none⟩ 1 rfl [.slice A3 l.length c3] l rfl (xJa (by simp[go_sem])) (by intro u hu;simp at hu;subst hu;rfl) ((xXc _).below HY.out bl) hlen (by simp;omega) (Nat.le_refl _) mvk (Cls.below bl hC3) (by simp;omega) ?_;intro v6 w6 o6 D6 C6 sz6 G6 at6;clear G6 at6))
    go_roundw
    case rel=>exact⟨k+1,by omega,by go_num,by rw[HTK.out];exact o6,D6,C6⟩
    case measure=>simp[intOf];omega
   ·have HTK:=lHd (show ls.take k=ls from zQd (by omega));rw[HTK.out] at hown;have DR:=D1.trans (hBr.mono hs1);have Fr:=hCr.f;have yrw1:=hCr.blk (b:=w.heap.size+1) (k:=0) (v:=.int .i64 0) (by simp);go_wp2;refine bodyPost_ret (v:=.tuple #[u7,.agg #[.int .i64 0,.int .i64 0]]) ?_ rfl ⟨?_,.inr ⟨u7,ls,rfl,?_,HC.out,hl⟩⟩
    ·simp[results,results15,go_sem,Fr]
    ·exact mvk
    ·exact⟨w1.heap.size,by omega,(OwnLL.far (OwnLL.far hown (p:=⟨w.heap.size+1,0,none⟩) (by simp;omega) _) (p:=⟨w.heap.size+1,1,none⟩) (by simp;omega) _)⟩
