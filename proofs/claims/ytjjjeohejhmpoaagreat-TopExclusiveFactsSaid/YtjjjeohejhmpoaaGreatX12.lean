/-
  Lemmas.
-/
import Derived.Test.YtjjjeohejhmpoaaGreatX10
import Derived.Test.YtjjjeohejhmpoaaGreatX11
import Derived.Test.YtjjjeohejhmpoaaGreatX6
set_option linter.unusedVariables false
set_option linter.unusedSimpArgs false
set_option maxRecDepth 100000
set_option maxHeartbeats 4000000
namespace Go.Proofs.YtjjjeohejhmpoaaGreat
open Go.RowKit Go.Proofs.Tryz
section
open Go.Sort Go.Maps
theorem yYb:(prog.info? 77).map (fun i=>(i.zero,i.size,i.bytes))=some (some (.int .u32 0),1,4):=by kernel_rfl
def OwnS(base:Nat)(w:World)(v:Value)(ls:List (List Int)):Prop:=yZf yXv 77 base w v ls
theorem OwnS.below{base:Nat}{w w':World}{v:Value}{ls:List (List Int)}(h:OwnS base w v ls)(hb:Below w.heap.size w w'):OwnS base w' v ls:=OwnEs.below (zXo _) h hb
theorem OwnS.form{base:Nat}{w:World}{v:Value}{ls:List (List Int)}(h:OwnS base w v ls):∃A c,v=.slice A ls.length c:=OwnEs.form h
theorem OwnS.at_{base n c k:Nat}{w:World}{A:Option Addr}{ls:List (List Int)}(h:OwnS base w (.slice A n c) ls)(hk:k<ls.length) :
  ∃g l,A=some ⟨g,0,none⟩/\Hid (ls[k]? = some l)/\w.cell? ⟨g,k,none⟩=some (.int .u32 (wv l)):=by
 obtain⟨g,cs,l,rfl,_,_,hl,_,hc,hP⟩:=OwnEs.at_ h hk;unfold P1 at hP;subst hP;refine⟨g,l,rfl,hl,?_⟩;have h1:=hc 0 _ rfl;rw[Nat.mul_one,Nat.add_zero] at h1;exact h1
theorem OwnS.other{base K:Nat}{w w':World}{v:Value}{ls:List (List Int)}(h:OwnS base w v ls)(hg:w.grownBy w' (some K))(hK:K<base):OwnS base w' v ls:=by
 obtain⟨cells,⟨h1,h2⟩,h3⟩:=h;refine⟨cells,⟨h1,?_⟩,h3⟩;rcases h2 with h2|⟨g,cap,cur,hv,hb,hh,r⟩
 ·exact Or.inl h2
 ·refine Or.inr ⟨g,cap,cur,hv,hb,(hg.block g ?_ (fun e=>?_)).trans hh,r⟩
  ·rcases vVq g w.heap.size with hl|hl
   ·exact hl
   ·rw[yYd hl] at hh;cases hh
  ·injection e with e;omega
theorem OwnS.apart{base K:Nat}{w:World}{v:Value}{ls:List (List Int)}(h:OwnS base w v ls)(hK:K<base):some K≠v.ownBlock:=fun e=>by
 have:=(OwnEs.lt h K e.symm).1;omega
theorem yYc(w:World)(B:Nat)(l:List Int)(hB:B<=w.heap.size):OwnS B (w.alloc (.cells #[.int .u32 (wv l)] 77)) (.slice (some ⟨w.heap.size,0,none⟩) 1 1) [l]:=by
 refine⟨[yXv l],⟨by simp,.inr ⟨w.heap.size,1,#[.int .u32 (wv l)],rfl,hB,Arr.new w _ [.int .u32 (wv l)],by simp,by decide,by simp,by simp[yXv]⟩⟩,fun i a ha=>?_⟩
 cases i with
 |succ i=>simp at ha
 |zero=>simp at ha;subst ha;rfl
theorem Cls.grown_at{w w':World}{l:List (Nat×Nat×Value)}{K:Nat}(hC:Cls w l)(hg:w.grownBy w' (some K))(hl:∀x∈l,x.1≠K):Cls w' l:=by
 induction l with
 |nil=>trivial
 |cons x r ih=>
  obtain⟨b,k,u⟩:=x;obtain⟨⟨h1,h2⟩,h3⟩:=hC;have hlt:=zQ2 w ⟨b,k,none⟩ h1;have hne:w'.heap[b]? = w.heap[b]?:=hg.block b hlt (fun e=>by
   injection e with e
   exact hl _ (vVp ..) e)
  refine⟨⟨?_,?_⟩,ih h3 (fun y hy=>hl y (List.mem_cons_of_mem _ hy))⟩
  ·rw[<- h1];simp only[World.cell?,hne]
  ·rw[<- h2];simp only[World.frozen?,hne]
theorem OwnS.cls{base:Nat}{w w':World}{v:Value}{ls:List (List Int)}{l:List (Nat×Nat×Value)}(h:OwnS base w v ls)(hC:Cls w l)(hg:w.grownBy w' v.ownBlock)(hl:∀x∈l,x.1<base):Cls w' l:=by
 obtain⟨cells,h1,_⟩:=h;exact hC.grown h1 hg hl
theorem xVh{w0 w w':World}{K:Nat}(hB:Below w0.heap.size w0 w)(hg:w.grownBy w' (some K))(hK:w0.heap.size<=K):Below w0.heap.size w0 w':=hB.grown hg (by have:=hB.size;omega) (fun k hk=>by injection hk with hk;omega)
theorem yWv:SWO (ltOf cfW):=by
 have h:∀x y,ltOf cfW x y=decide (xQ4 (wv x)<xQ4 (wv y)):=fun x y=>by
  unfold ltOf cfW;exact decide_eq_decide.2 xYl
 exact⟨fun x=>by rw[h];simp,fun x y z h1 h2=>by rw[h] at *;simp at *;omega,fun x y z h1 h2=>by rw[h] at *;simp at *;omega⟩
theorem yXw{w0 w:World}{base:Nat}{v:Value}{ls:List (List Int)}(h:OwnS base w v ls)(h0:w0.heap.size<=base)(hB:Below w0.heap.size w0 w)(hl:ls.length<=1000000000000) :
  Calls prog 39 #[v,.func (.func 40) #[] #[]] w fun e w'=>e=.returned (.tuple #[])/\∃rs,rs.Perm ls/\(∀(i j:Nat) (a b:List Int),i<j->rs[i]? = some a->rs[j]? = some b->xQ4 (wv a)<=xQ4 (wv b))/\OwnS base w' v rs/\w.grownBy w' v.ownBlock/\Below w0.heap.size w0 w':=by
 have hc:=zKx zZs (enc:=yXv) (e:=77) (fun _=>rfl) (fun _=>rfl) cfW yWv 40 #[] (fun args w=>by kernel_rfl) (fun W x y=>vXc x y W) h h0 hB hl;refine hc.mono ?_;rintro e w' ⟨rfl,rs,h1,h2,h3,h4,h5⟩;refine⟨rfl,rs,h1,fun i j a b hij ha hb=>?_,h3,h4,h5⟩;have:=h2 i j a b hij ha hb;unfold cfW at this;rw[xYl] at this;omega
theorem xQg:Keyed prog 77:=int_keyed underlying77
theorem xXu(w:World):(zeroValue 3).run prog w=.ok (.int .i64 0) w:=by kernel_rfl
def TabM(B m:Nat)(w:World)(D:DataW Unit):Prop:=w.ownsMap prog 77 (plainElem prog 3) B m D
theorem TabM.below{B m:Nat}{w w':World}{D:DataW Unit}(h:TabM B m w D)(hb:Below w.heap.size w w'):TabM B m w' D:=by
 have hlt:=World.ownsMap.lt h;obtain⟨es,clock,h1,h2⟩:=h;exact⟨es,clock,(hb.block B hlt).trans h1,h2⟩
theorem SetP.wf{l:List Int}{n:Nat}(h:SetP l (n:Int))(hn:n<=24):(Lit.int .u32 (xJ0 l)).wf=true:=WalkArith.wf_u32 (by have:=h.word_u32 hn;omega)
theorem SetP.key{l:List Int}{n:Nat}(h:SetP l (n:Int))(hn:n<=24):keyOf prog 77 (.int .u32 (xJ0 l))=some (.int .u32 (xJ0 l)):=keyOf_int_mk underlying77 (h.wf hn)
structure KM(D:DataW Unit)(ls:List (List Int))(n:Nat)(f:List Int->Int):Prop where
 has:∀l,SetP l (n:Int)->Maps.has D (.int .u32 (xJ0 l))=decide (l∈ls)
 val:∀l,SetP l (n:Int)->l∈ls->D.atKey (.int .u32 (xJ0 l)) (.lit (.int .i64 0))=.lit (.int .i64 (f l))
theorem KM.empty(n:Nat)(f:List Int->Int):KM (.map []) [] n f:=⟨fun l _=>rfl,fun l _ h=>by simp at h⟩
theorem KM.put{D:DataW Unit}{ls ls':List (List Int)}{n:Nat}{f f':List Int->Int}(h:KM D ls n f)(hD:IsMap D){r:List Int}(hr:SetP r (n:Int))(hm:∀l,l∈ls'↔l∈ls\/l=r){y:Int}(hy:f' r=y)(hf:∀l∈ls,l≠r->f' l=f l):KM (D.put (.int .u32 (xJ0 r)) (.lit (.int .i64 y))) ls' n f':=by
 have hne:∀l,SetP l (n:Int)->l≠r->(Lit.int .u32 (xJ0 l))≠.int .u32 (xJ0 r):=fun l hl e h1=>e (xJp hl hr (by injection h1))
 refine⟨fun l hl=>?_,fun l hl hin=>?_⟩
 ·by_cases e:l=r
  ·subst e;rw[Maps.has_put_same hD (k:=.int .u32 (xJ0 l)) trivial,zWo ((hm l).2 (.inr rfl))]
  ·rw[Maps.has_put_other (hne l hl e),h.has l hl];refine decide_eq_decide.2 ?_;rw[hm];exact⟨.inl,fun h=>h.resolve_right e⟩
 ·by_cases e:l=r
  ·subst e;rw[Maps.atKey_put_same hD (k:=.int .u32 (xJ0 l)) trivial,hy]
  ·rw[Maps.atKey_put_other (hne l hl e)];have hl2:=((hm l).1 hin).resolve_right e;rw[h.val l hl hl2,hf l hl2 e]
theorem KM.mem{D:DataW Unit}{ls ls':List (List Int)}{n:Nat}{f:List Int->Int}(h:KM D ls n f)(hm:∀l,l∈ls'↔l∈ls):KM D ls' n f:=
 ⟨fun l hl=>by rw[h.has l hl];exact decide_eq_decide.2 (hm l).symm,fun l hl hin=>h.val l hl ((hm l).1 hin)⟩
theorem KM.at_{D:DataW Unit}{ls:List (List Int)}{n:Nat}{f:List Int->Int}(h:KM D ls n f){l:List Int}(hl:SetP l (n:Int))(hin:l∈ls){c:Int}(hat:D.atKey (.int .u32 (xJ0 l)) (.lit (.int .i64 0))=.lit (.int .i64 c)):c=f l:=by
 rw[h.val l hl hin] at hat;injection hat with hat
 injection hat with _ hat
 exact hat.symm
theorem xWw{H:Type}{P:Program}(w:World){ops:Array Oper}{rest:List Oper}{o:Oper}{a:Act}{Q:Exit->Act->World->Prop}
  (hg:o.guard=none) (m x v:Operand) (t:TypeId) (hop:o.op=Op.insert t m x v)
  (k e:TypeId) (K:Keyed P k) (ht:P.underlying t=some (.map k e)) (R:Value->Option (DataW H×List MemPlace)) (b n:Nat) (D:DataW H)
  (hm:a.eval m=.map (some b)) (hown:w.ownsMap P k R b n D) (hn:n<maxLen) (key val:Value) (kl:Lit) (hx:a.eval x=key) (hv:a.eval v=val) (hkey:keyOf P k key=some kl)
  (d:DataW H) (ps:List MemPlace) (hval:R val=some (d,ps))
  (hK:∀w',w'.ownsMap P k R b (n+1) (D.put kl d)->w.grownBy w' (some b)->wpList P ops Q rest (a.put o.dst undef) w') :
  wpList P ops Q (o::rest) a w:=by
 refine wpList_plain hg fun K' hK'=>?_
 obtain⟨w',hrun,r1,r2⟩:=hown.update K ht hn hkey hval;unfold Oper.wp;simp[execOp,hop,hm,hx,hv,hrun,Result.andThen];exact hK' _ _ (hK w' r1 r2)
theorem zJt{c:Int}(h : -9223372036854775808<=c/\c<=9223372036854775807):plainElem (H:=Unit) prog 3 (.int .i64 c)=some (.lit (.int .i64 c),[]):=plainElem_int underlying3 (WalkArith.wf_i64 h)
end
section
open Go.Sort Go.Maps
def RBOut(n:Nat)(ops:List OpV)(goal st:List Int)(d c j:Int):Prop:=
 ((c=0/\j=0)/\RBest n ops goal st d/\∃ls,RSt n ops st ls ls.length 0/\ls.length<=2000)\/((d=0/\c=10/\j = -7)/\∃ls:List (List Int),ls.Nodup/\ls.length=2001/\∀l∈ls,Rch n ops st l)
def f0V(st l:List Int):Int:=if l=st then 0 else 1000000000
theorem yWj{n:Nat}{ops:List OpV}{st:List Int}{ls:List (List Int)}{k p:Nat}(h:RSt n ops st ls k p)(hl:2000<ls.length):∃ls:List (List Int),ls.Nodup/\ls.length=2001/\∀l∈ls,Rch n ops st l:=
 ⟨ls.take 2001,List.Nodup.sublist (List.take_sublist _ _) h.nodup,by rw[List.length_take];omega,fun l hl=>h.rch l (List.mem_of_mem_take hl)⟩
theorem p1_w{w:World}{row:Option Nat}{r:List Int}(h:wv r=xJ0 r):P1 yXv w row [.int .u32 (xJ0 r)] r:=by unfold P1 yXv;rw[h]
theorem zVo{ops:List OpV}{p:Nat}{o:OpV}(h:ops[p]? = some o):(ops.map rxO)[p]? = some (rxO o):=by rw[vQ4,h];rfl
theorem vJv{ops:List OpV}{p:Nat}{o:OpV}(h:ops[p]? = some o):yYz (ops.map rxO) (p:Int)=rxO o:=vX7 (by simpa using zVo h)
theorem yYy{ops:List OpV}{p:Nat}{o:OpV}{l:List Int}(h:ops[p]? = some o):yXc (ops.map rxO) l (p:Int)↔∀q∈o.pre,q∈l:=
 ⟨fun⟨o',h1,h2⟩=>by
  rw[Int.toNat_natCast,zVo h] at h1;injection h1 with h1
  subst h1;exact h2,fun h2=>⟨rxO o,by rw[Int.toNat_natCast];exact zVo h,h2⟩⟩
structure OpW(n:Nat)(o:OpV):Prop where
 pre:SetP o.pre (n:Int)
 add:SetP o.add (n:Int)
 cost:0<=o.cost/\o.cost<=100
theorem uX1{t:TaskV}{n:Nat}(hv:Valid t)(hn:t.facts=n):∀o∈t.ops,OpW n o:=fun o ho=>by
 obtain⟨⟨h1,h2,_,_⟩,h3⟩:=hv.ops o ho;rw[hn] at h1 h2;exact⟨h1,h2,h3⟩
theorem yJr(w:World)(t:TaskV)(Ai Ag Ao:Option Addr)(ci cg co:Nat)(hT:TaskMem w Ai Ag Ao t)(S:Option Addr)(cs:Nat)(st:List Int)(hS:Ints w S st)(hls:lenOk st.length)(n:Nat)(hn:t.facts=n)(hv:Valid t)(h2:SetP st t.facts) :
  Calls prog 12 #[.agg #[.int .i64 t.facts,.slice Ai t.init.length ci,.slice Ag t.goal.length cg,.slice Ao t.ops.length co],.slice S st.length cs] w fun e w'=>∃d c j,e=.returned (.tuple #[.int .i64 d,.agg #[.int .i64 c,.int .i64 j]])/\RBOut n (t.ops.map rxO) t.goal st d c j/\Below w.heap.size w w':=by
 have HV:=lHd hv;have H2:=lHd h2;have hn24:n<=24:=by have:=hv.f1;omega
 have h40:=hv.nops;have HST:=lHd (show SetP st (n:Int) by rw[<- hn];exact h2);have HGO:=lHd (show SetP t.goal (n:Int) by have:=hv.goal;rw[hn] at this;exact this);have HOW:=lHd (uX1 hv hn);clear hv h2 hn;go_enter func12,ntmps12
 go_wp2_with fail
 refine(xZw _ _ _ _ _ _ _ _ (hT.below bch) _ _ _ (hS.below bch) hls HV.out H2.out).mono ?_;rintro e w1 ⟨rfl,hB1⟩;have D1:=xJ3 w hB1 bch;have C1:=Cls.below (l:=[(w.heap.size,0,.int .i64 t.facts),(w.heap.size,1,.slice Ai t.init.length ci),(w.heap.size,2,.slice Ag t.goal.length cg),(w.heap.size,3,.slice Ao t.ops.length co),(w.heap.size+1,0,.int .i64 0),(w.heap.size+1,1,.int .i64 0)]) hB1 (by simp[Cls,go_sem]);have F1:=C1.f;have y1w1:=C1.b 4;have y1w0:w.heap.size<w1.heap.size:=(by omega);have y1wp1:w.heap.size<w1.heap.size+1:=(by omega);have hmm:=@run_makeMap prog
 go_wp2_with fail
 refine(xX6 _ _ _ _ (hS.below bch) n HST.out hn24).mono ?_;rintro e w9 ⟨rfl,hW9⟩;rw[<- hW9];clear hW9 w9
 go_wp2_with (refine xWw _ rfl (.tmp 28) (.tmp 30) _ 75 rfl 77 3 xQg underlying75 (plainElem prog 3) (w1.heap.size+1) 0 (.map []:DataW Unit) rfl ?q1 (by decide) _ _ (.int .u32 (xJ0 st)) rfl rfl (HST.out.key hn24) (.lit (.int .i64 0)) [] (zJt (by omega)) ?_;(case q1=>(have h:=World.ownsMap_made (H:=Unit) (w1.alloc (.cells #[.int .i64 0,.int .i64 0] 28)) prog 77 (plainElem prog 3);simpa using h));intro w2 hown2 hgrow2;have D2:=xVh (w0:=w) bch hgrow2 (by omega);have C2:=Cls.grown_at (l:=[(w.heap.size,0,.int .i64 t.facts),(w.heap.size,1,.slice Ai t.init.length ci),(w.heap.size,2,.slice Ag t.goal.length cg),(w.heap.size,3,.slice Ao t.ops.length co),(w.heap.size+1,0,.int .i64 0),(w.heap.size+1,1,.int .i64 0)]) (by simp[Cls,go_sem,F1,y1w1,y1w0,y1wp1]) hgrow2 (by(simp<;>omega));have sz2:=hgrow2.size;simp at sz2;clear hgrow2)
 have F2:=C2.f;have y2w1:=C2.blk (b:=w.heap.size+1) (k:=0) (v:=.int .i64 0) (by simp);have y2w0:w.heap.size<w2.heap.size:=(by omega);have HKM2:=lHd ((KM.empty n (f0V st)).put isMap_empty HST.out (ls':=[st]) (by simp) (show f0V st st=0 by simp[f0V]) (by simp));have HTM2:TabM (w1.heap.size+1) 1 w2 _:=hown2;clear hown2
 go_wp2_with fail
 refine(xX6 _ _ _ _ (hS.below bch) n HST.out hn24).mono ?_;rintro e w9 ⟨rfl,hW9⟩;rw[<- hW9];clear hW9 w9;have HO2:=lHd (show OwnS (w1.heap.size+1+1) (w2.alloc (.cells #[.int .u32 (xJ0 st)] 77)) (.slice (some ⟨w2.heap.size,0,none⟩) 1 1) [st] by have h:=yYc w2 (w1.heap.size+1+1) st (by omega);rwa [HST.out.wv hn24] at h);have HR2:=lHd (RSt.start (ops:=(t.ops.map rxO)) HST.out)
 go_wp2_with fail
 go_loopw [8,9] (fun a i wr=>∃(ls:List (List Int)) (k:Nat),k<=ls.length/\ls.length<=2000/\i=.int .i64 k/\OwnS (w1.heap.size+1+1) wr a ls/\(∃D,TabM (w1.heap.size+1) ls.length wr D/\Hid (KM D ls n (f0V st)))/\Hid (RSt n (t.ops.map rxO) st ls k 0)/\(w1.heap.size+1+1)<=wr.heap.size/\Below w.heap.size w wr/\Cls wr [(w.heap.size,0,.int .i64 t.facts),(w.heap.size,1,.slice Ai t.init.length ci),(w.heap.size,2,.slice Ag t.goal.length cg),(w.heap.size,3,.slice Ao t.ops.length co),(w.heap.size+1,0,.int .i64 0),(w.heap.size+1,1,.int .i64 0)]) (fun _ i _=>2001-(intOf i).toNat)
 case atStart=>exact⟨[st],0,by simp,by simp,rfl,HO2.out,⟨_,HTM2.kept (row:=none) (World.grownBy_alloc _ _ _) (by simp),HKM2⟩,HR2,(by simp;omega),bch,(by simp[Cls,go_sem,F2,y2w1,y2w0])⟩
 case round=>
  obtain⟨ls,k,hk,hl2,rfl,hO,⟨D,hTM,hKM⟩,hR,hbz,hBr,hCr⟩:=hrel;obtain⟨w3,rfl⟩:∃wo:World,wo=wr:=⟨_,rfl⟩;have Fr:=hCr.f;have yrw1:=hCr.blk (b:=w.heap.size+1) (k:=0) (v:=.int .i64 0) (by simp)
  by_cases hlt:k<ls.length
  ·obtain⟨A1,c1,rfl⟩:=hO.form
   go_wp2_with fail
   go_loopw [8,44] (fun a i wr=>∃(ls:List (List Int)) (p:Nat),k<ls.length/\p<=t.ops.length/\ls.length<=2000+p/\i=.int .i64 p/\OwnS (w1.heap.size+1+1) wr a ls/\(∃D,TabM (w1.heap.size+1) ls.length wr D/\Hid (KM D ls n (f0V st)))/\Hid (RSt n (t.ops.map rxO) st ls k p)/\(w1.heap.size+1+1)<=wr.heap.size/\Below w.heap.size w wr/\Cls wr [(w.heap.size,0,.int .i64 t.facts),(w.heap.size,1,.slice Ai t.init.length ci),(w.heap.size,2,.slice Ag t.goal.length cg),(w.heap.size,3,.slice Ao t.ops.length co),(w.heap.size+1,0,.int .i64 0),(w.heap.size+1,1,.int .i64 0)]) (fun _ i _=>t.ops.length-(intOf i).toNat)
   case atStart=>exact⟨ls,0,hlt,zKk _,by omega,rfl,hO.below bch,⟨D,hTM,hKM⟩,hR,hbz,bch,(Cls.below (w:=w3) bch hCr)⟩
   case round=>
    clear hO hTM hKM hR hk hl2 hlt hbz D;obtain⟨ls,p,hkl,hp,hl2,rfl,hO,⟨D,hTM,hKM⟩,hR,hbz,hBs,hCs⟩:=hrel;obtain⟨w4,rfl⟩:∃wo:World,wo=wr:=⟨_,rfl⟩;have Fs:=hCs.f;have ysw1:=hCs.blk (b:=w.heap.size+1) (k:=0) (v:=.int .i64 0) (by simp);obtain⟨A2,c2,rfl⟩:=hO.form
    by_cases hlp:p<t.ops.length
    ·obtain⟨ad,o,A0,c0,A3,c3,A4,c4,rfl,ho,hc0,hc1,hc2,hc3,hm⟩:=hT.ops.at2 hBs hlp;obtain⟨hpre,hadd,hcost⟩:=HOW.out o (lMg ho.out);have HPRE:=lHd hpre;have HADD:=lHd hadd;clear hpre hadd;obtain⟨g,r,he,hr,hrc⟩:=hO.at_ hkl;subst he;have HRS:=lHd (hR.out.set r (lMg hr.out));rw[HRS.out.wv hn24] at hrc;have hgb:g<w4.heap.size:=zQ2 w4 _ hrc;obtain⟨nx,hnx⟩:∃x,Hid (xJb n r (rxO o)=x):=⟨_,lHd rfl⟩;have HNS:=lHd (show SetP nx (n:Int) by rw[<- hnx.out];exact xJz n r _);have hor:bits .or .u32 (xJ0 r) (xJ0 o.add)=xJ0 nx:=by rw[<- hnx.out];exact vX8 HRS.out HADD.out hn24
     by_cases hsub:∀q∈o.pre,q∈r
     ·have hz:bits .andNot .u32 (xJ0 o.pre) (xJ0 r)=0:=(xQm HPRE.out HRS.out hn24).2 hsub;have HCAN:=lHd ((yYy ho.out).2 hsub);clear hsub
      go_wp2_with fail
      go_quiet (((go_at_call 38;refine(xX6 _ _ _ _ (hm.add.below bch) n HADD.out hn24).mono ?_;rintro e w9 ⟨rfl,rfl⟩;exact⟨rfl,_,rfl⟩)))
      go_wp2_with fail
      go_quiet (((go_at_call 38;refine(xX6 _ _ _ _ (hm.pre.below bch) n HPRE.out hn24).mono ?_;rintro e w9 ⟨rfl,rfl⟩;exact⟨rfl,_,rfl⟩)))
      by_cases hin:nx∈ls
      ·have hhas:Maps.has D (.int .u32 (xJ0 nx))=true:=by rw[hKM.out.has nx HNS.out];exact zWo hin
       have HR2:=lHd (hR.out.skip hr.out (fun _=>by rw[vJv ho.out,hnx.out];exact hin));clear hin
       go_wp2_with (at_lookup;refine wpList_lookup_own_ok_int _ rfl _ _ 75 rfl 77 3 .i64 xQg underlying75 underlying3 (xXu _) (w1.heap.size+1) ls.length D rfl (TabM.below hTM bch) _ _ rfl (HNS.out.key hn24) ?_;intro c hat hwc;rw[hhas];clear hat hwc)
       go_roundw
       case rel=>exact⟨ls,p+1,hkl,by omega,by omega,by go_num,hO.below bch,⟨D,hTM.below bch,hKM⟩,HR2,(by simp;omega),bch,(Cls.below (w:=w4) bch hCs)⟩
       case measure=>simp[intOf];omega
      ·have hhas:Maps.has D (.int .u32 (xJ0 nx))=false:=by rw[hKM.out.has nx HNS.out];exact zVa hin
       have HR2:=lHd (hR.out.add (p:=p) hr.out (by rw[zQl];exact hlp) HCAN.out (by rw[vJv ho.out,hnx.out];exact hin));rw[vJv ho.out,hnx.out] at HR2;have HNE:=lHd (show f0V st nx=1000000000 by
        unfold f0V;rw[if_neg];intro e;rw[e] at hin;exact hin (lMg hR.out.head))
       have HLA:=lHd (show(ls ++ [nx]).length=ls.length+1 by simp);have hlen:ls.length<1000000000000:=by omega
       clear hin;have HKM5:=lHd (hKM.out.put (World.ownsMap.isMap hTM) HNS.out (ls':=ls ++ [nx]) (by simp) HNE.out (fun l _ _=>rfl))
       go_wp2_with (first|(at_lookup;refine wpList_lookup_own_ok_int _ rfl _ _ 75 rfl 77 3 .i64 xQg underlying75 underlying3 (xXu _) (w1.heap.size+1) ls.length D rfl (TabM.below hTM bch) _ _ rfl (HNS.out.key hn24) ?_;intro c hat hwc;rw[hhas];clear hat hwc)|(at_mapUpdate;refine wpList_mapUpdate_own _ rfl _ _ _ 75 rfl 77 3 xQg underlying75 (plainElem prog 3) (w1.heap.size+1) ls.length D rfl (TabM.below hTM bch) (by unfold maxLen;omega) _ _ _ rfl rfl (HNS.out.key hn24) (.lit (.int .i64 1000000000)) [] (zJt (by omega)) ?_;intro w5 hown5 hgrow5;have D5:=xVh (w0:=w) bch hgrow5 (by omega);have C5:=Cls.grown_at (l:=[(w.heap.size,0,.int .i64 t.facts),(w.heap.size,1,.slice Ai t.init.length ci),(w.heap.size,2,.slice Ag t.goal.length cg),(w.heap.size,3,.slice (some ad) t.ops.length co),(w.heap.size+1,0,.int .i64 0),(w.heap.size+1,1,.int .i64 0)]) (Cls.below (w:=w4) bch hCs) hgrow5 (by(simp<;>omega));have sz5:=hgrow5.size;simp at sz5;have HO5:=lHd ((hO.below bch).other hgrow5 (by omega));have HT5:=lHd (show TabM (w1.heap.size+1) (ls.length+1) w5 _ from hown5);clear hgrow5 hown5)|(at_builtin;refine xVv (zXo yXv) 72 4 (.int .u32 0) underlying72 yYb rfl (by decide) (by decide) rfl (.tmp 75) (.tmp 77) rfl w [(w.heap.size,0,.int .i64 t.facts),(w.heap.size,1,.slice Ai t.init.length ci),(w.heap.size,2,.slice Ag t.goal.length cg),(w.heap.size,3,.slice (some ad) t.ops.length co),(w.heap.size+1,0,.int .i64 0),(w.heap.size+1,1,.int .i64 0)] rfl (OwnEs.below (zXo yXv) HO5.out ?p1) ⟨w5.heap.size,0,none⟩ 1 rfl [.int .u32 (xJ0 nx)] nx rfl (xJa ?p2) ?p8 (p1_w (HNS.out.wv hn24)) hlen ?p3 ?p4 ?p5 ?p6 ?p7 ?_;(case p1=>exact bch);(case p2=>simp[go_sem]);(case p3=>(first|omega|(simp<;>omega)));(case p4=>(first|omega|(simp<;>omega)));(case p5=>exact bch);(case p6=>exact Cls.below (w:=w5) bch C5);(case p7=>(simp<;>omega));(case p8=>intro u hu;simp at hu;subst hu;rfl);intro v6 w6 o6 D6 C6 sz6 G6 at6;have HT6:=lHd (World.ownsMap.kept (TabM.below HT5.out bch) G6 (OwnS.apart HO5.out (by omega)));clear G6 at6))
       have sz6':=sz6;simp at sz6'
       go_roundw
       case rel=>exact⟨ls ++ [nx],p+1,by rw[HLA.out];omega,by omega,by rw[HLA.out];omega,by go_num,o6,⟨_,by rw[HLA.out];exact HT6.out,HKM5⟩,HR2,by omega,D6,C6⟩
       case measure=>simp[intOf];omega
     ·obtain⟨z,hz⟩:∃z,bits .andNot .u32 (xJ0 o.pre) (xJ0 r)=z:=⟨_,rfl⟩;have hz0:¬z=0:=fun e=>hsub ((xQm HPRE.out HRS.out hn24).1 (by rw[hz,e]))
      have hz1:(z==0)=false:=by simpa using hz0
      have HR2:=lHd (hR.out.skip hr.out (fun h=>absurd ((yYy ho.out).1 h) hsub));clear hsub
      go_wp2_with fail
      go_quiet (((go_at_call 38;refine(xX6 _ _ _ _ (hm.add.below bch) n HADD.out hn24).mono ?_;rintro e w9 ⟨rfl,rfl⟩;exact⟨rfl,_,rfl⟩)))
      go_wp2_with fail
      go_quiet (((go_at_call 38;refine(xX6 _ _ _ _ (hm.pre.below bch) n HPRE.out hn24).mono ?_;rintro e w9 ⟨rfl,rfl⟩;exact⟨rfl,_,rfl⟩)))
      go_wp2
      go_roundw
      case rel=>exact⟨ls,p+1,hkl,by omega,by omega,by go_num,hO.below bch,⟨D,hTM.below bch,hKM⟩,HR2,(by simp;omega),bch,(Cls.below (w:=w4) bch hCs)⟩
      case measure=>simp[intOf];omega
    ·have HR2:=lHd (hR.out.row (by rw[zQl];omega))
     by_cases hbig:2000<ls.length
     ·have HMA:=lHd (yWj HR2.out hbig);have hb1:(ls.length:Int)>2000:=by omega
      clear hbig;go_wp2;refine bodyPost_ret (v:=.tuple #[.int .i64 0,.agg #[.int .i64 10,.int .i64 (-7)]]) ?_ rfl ⟨0,10,-7,rfl,.inr ⟨⟨rfl,rfl,rfl⟩,HMA.out⟩,bch⟩;simp[results,results12,go_sem,Fs]
     ·have hb1:¬(ls.length:Int)>2000:=by omega
      go_wp2
      go_roundw
      case rel=>exact⟨ls,k+1,by omega,by omega,by go_num,hO,⟨D,hTM,hKM⟩,HR2,hbz,hBs,hCs⟩
      case measure=>simp[intOf];omega
  ·have HE:=lHd (show k=ls.length by omega);have HR3:=lHd (show RSt n (t.ops.map rxO) st ls ls.length 0 by have h:=hR.out;rw[HE.out] at h;exact h);have hl3:ls.length<=1000000000000:=by omega
   clear hR HE;obtain⟨A1,c1,rfl⟩:=hO.form
   go_wp2_with fail
   refine(yXw (w0:=w) (hO.below bch) (by omega) bch hl3).mono ?_;rintro e w5 ⟨rfl,rs,hperm,hsort,hO5,hg5,D5⟩;have C5:=OwnS.cls (hO.below bch) hCr hg5 (by(simp<;>omega));have hT5:TabM (w1.heap.size+1) ls.length w5 D:=World.ownsMap.kept (TabM.below hTM bch) hg5 (OwnS.apart hO (by omega));have sz5:=hg5.size
   try simp at sz5
   have HLEN:=lHd hperm.length_eq;have HMEM:=lHd (fun l=>hperm.mem_iff (a:=l));have HSET:=lHd (fun l (hl:l∈rs)=>HR3.out.set l ((HMEM.out l).1 hl));have HND:=lHd (hperm.nodup_iff.2 HR3.out.nodup);have HORD:=lHd (vVa (ops:=t.ops) hn24 HSET.out HND.out (fun i j a b hij ha hb=>by
    have h:=hsort i j a b hij ha hb
    rwa [(HSET.out a (lMg ha)).wv hn24,(HSET.out b (lMg hb)).wv hn24] at h))
   have HCL:=lHd (fun(l:List Int) (p:Nat) (o:OpV) (hl:l∈rs) (ho:(t.ops.map rxO)[p]? = some o) (hc:∀q∈o.pre,q∈l)=>(HMEM.out _).2 (HR3.out.closed l p o ((HMEM.out l).1 hl) ho hc));have HCO:=lHd (show ∀o∈(t.ops.map rxO),0<=o.cost from fun o ho=>by
    obtain⟨o',h1,rfl⟩:=vWz.1 ho;exact(HOW.out o' h1).cost.1)
   have HSM:=lHd ((HMEM.out st).2 (lMg HR3.out.head));have HK5:=lHd (hKM.out.mem (ls':=rs) HMEM.out);have HD5:=lHd (DPI.init (n:=n) (ops:=(t.ops.map rxO)) (goal:=t.goal) (st:=st) (ls:=rs) (f:=f0V st) (fun l _=>rfl) (by simp[f0V]));clear hperm hsort hg5 hO hTM hKM hCr hBr
   go_wp2_with fail
   go_loopw [15,88] (fun b i wr=>∃(k:Nat) (bv:Int) (f:List Int->Int) (D:DataW Unit) (mm:Nat),k<=ls.length/\i=.int .i64 k/\b=.int .i64 bv/\OwnS (w1.heap.size+1+1) wr (.slice A1 ls.length c1) rs/\TabM (w1.heap.size+1) mm wr D/\mm<=100000+100*k/\Hid (KM D rs n f)/\Hid (DPI n (t.ops.map rxO) t.goal st rs k 0 k f bv)/\(w1.heap.size+1+1)<=wr.heap.size/\Below w.heap.size w wr/\Cls wr [(w.heap.size,0,.int .i64 t.facts),(w.heap.size,1,.slice Ai t.init.length ci),(w.heap.size,2,.slice Ag t.goal.length cg),(w.heap.size,3,.slice Ao t.ops.length co),(w.heap.size+1,0,.int .i64 0),(w.heap.size+1,1,.int .i64 0)]) (fun _ i _=>ls.length-(intOf i).toNat)
   case atStart=>exact⟨0,1000000000,f0V st,D,ls.length,zKk _,rfl,rfl,hO5.below bch,hT5.below bch,by omega,HK5,HD5,by(first|omega|(simp;omega)),bch,(Cls.below (w:=w5) bch C5)⟩
   case round=>
    clear HK5 HD5 C5 hT5 hO5 hk hlt hbz;obtain⟨k,bv,f,D,mm,hk,rfl,rfl,hO,hTM,hmm2,hKM,hD,hbz,hBu,hCu⟩:=hrel;obtain⟨w6,rfl⟩:∃wo:World,wo=wr:=⟨_,rfl⟩;have Fu:=hCu.f;have yuw1:=hCu.blk (b:=w.heap.size+1) (k:=0) (v:=.int .i64 0) (by simp)
    by_cases hlt:k<ls.length
    ·obtain⟨g,l,he,hl,hlc⟩:=hO.at_ (show k<rs.length by rw[HLEN.out];exact hlt);subst he;have hgb:g<w6.heap.size:=zQ2 w6 _ hlc;have HLM:=lHd (lMg hl.out);have HLS:=lHd (HSET.out l HLM.out);rw[HLS.out.wv hn24] at hlc;obtain⟨fl,hfl⟩:∃x,Hid (f l=x):=⟨_,lHd rfl⟩;have hflr:=hD.out.rng l HLM.out;rw[hfl.out] at hflr
     by_cases hgo:∀q∈t.goal,q∈l
     ·have hz:bits .andNot .u32 (xJ0 t.goal) (xJ0 l)=0:=(xQm HGO.out HLS.out hn24).2 hgo;obtain⟨bw,hbw⟩:∃x,min bv fl=x:=⟨_,rfl⟩;have hbw2:(if bv<=fl then bv else fl)=bw:=by rw[<- hbw];split<;>omega
      have HD2:=lHd (show DPI n (t.ops.map rxO) t.goal st rs k 0 (k+1) f bw by rw[<- hbw,<- hfl.out];exact hD.out.goal_yes hl.out hgo);clear hgo
      go_wp2_with fail
      refine(xX6 _ _ _ _ (hT.goal.below bch) n HGO.out hn24).mono ?_;rintro e w9 ⟨rfl,hW9⟩;rw[<- hW9];clear hW9 w9
      go_wp2_with (at_lookup;refine wpList_lookup_own_int _ rfl _ _ 75 rfl 77 3 .i64 xQg underlying75 underlying3 (xXu _) (w1.heap.size+1) mm D rfl (TabM.below hTM bch) _ _ rfl (HLS.out.key hn24) ?_;intro c hat hwc;obtain rfl:c=fl:=(hKM.out.at_ HLS.out HLM.out hat).trans hfl.out;clear hat hwc)
      go_loopw [106] (fun i wr=>∃(p:Nat) (f:List Int->Int) (D:DataW Unit) (mm:Nat),p<=t.ops.length/\i=.int .i64 p/\OwnS (w1.heap.size+1+1) wr (.slice (some ⟨g,0,none⟩) ls.length c1) rs/\TabM (w1.heap.size+1) mm wr D/\mm<=100000+100*k+p/\Hid (KM D rs n f)/\Hid (DPI n (t.ops.map rxO) t.goal st rs k p (k+1) f bw)/\(w1.heap.size+1+1)<=wr.heap.size/\Below w.heap.size w wr/\Cls wr [(w.heap.size,0,.int .i64 t.facts),(w.heap.size,1,.slice Ai t.init.length ci),(w.heap.size,2,.slice Ag t.goal.length cg),(w.heap.size,3,.slice Ao t.ops.length co),(w.heap.size+1,0,.int .i64 0),(w.heap.size+1,1,.int .i64 0)]) (fun i _=>t.ops.length-(intOf i).toNat)
      case atStart=>exact⟨0,f,D,mm,zKk _,rfl,hO.below bch,hTM.below bch,by omega,hKM,HD2,hbz,bch,(Cls.below (w:=w6) bch hCu)⟩
      case round=>
       clear HD2 hD hKM hTM hO hmm2 hfl hflr hbz hlc hgb;obtain⟨p,f,D,mm,hp,rfl,hO,hTM,hmm2,hKM,hD,hbz,hBv,hCv⟩:=hrel;obtain⟨w7,rfl⟩:∃wo:World,wo=wr:=⟨_,rfl⟩;have Fv:=hCv.f;have yvw1:=hCv.blk (b:=w.heap.size+1) (k:=0) (v:=.int .i64 0) (by simp)
       by_cases hlp:p<t.ops.length
       ·obtain⟨ad,o,A0,c0,A3,c3,A4,c4,rfl,ho,hc0,hc1,hc2,hc3,hm⟩:=hT.ops.at2 hBv hlp;obtain⟨hpre,hadd,hcost⟩:=HOW.out o (lMg ho.out);have HPRE:=lHd hpre;have HADD:=lHd hadd;clear hpre hadd
        by_cases hsub:∀q∈o.pre,q∈l
        ·have hz:bits .andNot .u32 (xJ0 o.pre) (xJ0 l)=0:=(xQm HPRE.out HLS.out hn24).2 hsub;have HIN:=lHd (HCL.out l p (rxO o) HLM.out (zVo ho.out) hsub);obtain⟨nx,hnx⟩:∃x,Hid (xJb n l (rxO o)=x):=⟨_,lHd rfl⟩;rw[hnx.out] at HIN;have HNS:=lHd (HSET.out nx HIN.out);have hor:bits .or .u32 (xJ0 l) (xJ0 o.add)=xJ0 nx:=by rw[<- hnx.out];exact vX8 HLS.out HADD.out hn24
         obtain⟨fl,hfl⟩:∃x,Hid (f l=x):=⟨_,lHd rfl⟩;have hflr:=hD.out.rng l HLM.out;rw[hfl.out] at hflr;obtain⟨fn,hfn⟩:∃x,Hid (f nx=x):=⟨_,lHd rfl⟩;have hfnr:=hD.out.rng nx HIN.out;rw[hfn.out] at hfnr;obtain⟨ev,hev⟩:∃x,min fn (fl+o.cost)=x:=⟨_,rfl⟩;have hev2:(if fn<=fl+o.cost then fn else fl+o.cost)=ev:=by rw[<- hev];split<;>omega
         have hevr:0<=ev/\ev<=1000000000:=by rw[<- hev];omega
         have HD7:=lHd (show DPI n (t.ops.map rxO) t.goal st rs k (p+1) (k+1) (fun r=>if r=nx then ev else f r) bw from DPI.use hD.out HORD.out HND.out HCO.out hl.out (zVo ho.out) hsub HCL.out (by rw[hnx.out];simp;rw[hfn.out,hfl.out];exact hev.symm) (fun r _ hr=>by rw[hnx.out] at hr;simp[hr]) HSM.out);have HK7:=lHd (hKM.out.put (World.ownsMap.isMap hTM) HNS.out (ls':=rs) (f':=fun r=>if r=nx then ev else f r) (fun r=>⟨.inl,fun h=>h.elim id fun e=>e ▸ HIN.out⟩) (y:=ev) (by simp) (fun r _ hr=>by simp[hr]));clear hsub
         go_wp2_with fail
         refine(xX6 _ _ _ _ (hm.pre.below bch) n HPRE.out hn24).mono ?_;rintro e w9 ⟨rfl,hW9⟩;rw[<- hW9];clear hW9 w9
         go_wp2_with fail
         refine(xX6 _ _ _ _ (hm.add.below bch) n HADD.out hn24).mono ?_;rintro e w9 ⟨rfl,hW9⟩;rw[<- hW9];clear hW9 w9
         go_wp2_with (first|(at_lookup;refine wpList_lookup_own_int _ rfl _ _ 75 rfl 77 3 .i64 xQg underlying75 underlying3 (xXu _) (w1.heap.size+1) mm D rfl (TabM.below hTM bch) _ _ rfl (HNS.out.key hn24) ?_;intro c hat hwc;obtain rfl:c=fn:=(hKM.out.at_ HNS.out HIN.out hat).trans hfn.out;clear hat hwc)|(at_lookup;refine wpList_lookup_own_int _ rfl _ _ 75 rfl 77 3 .i64 xQg underlying75 underlying3 (xXu _) (w1.heap.size+1) mm D rfl (TabM.below hTM bch) _ _ rfl (HLS.out.key hn24) ?_;intro c hat hwc;obtain rfl:c=fl:=(hKM.out.at_ HLS.out HLM.out hat).trans hfl.out;clear hat hwc)|(at_mapUpdate;refine wpList_mapUpdate_own _ rfl _ _ _ 75 rfl 77 3 xQg underlying75 (plainElem prog 3) (w1.heap.size+1) mm D rfl (TabM.below hTM bch) (by unfold maxLen;omega) _ _ _ rfl rfl (HNS.out.key hn24) _ [] (zJt (by omega)) ?_;intro w8 hown8 hgrow8;have D8:=xVh (w0:=w) bch hgrow8 (by omega);have C8:=Cls.grown_at (l:=[(w.heap.size,0,.int .i64 t.facts),(w.heap.size,1,.slice Ai t.init.length ci),(w.heap.size,2,.slice Ag t.goal.length cg),(w.heap.size,3,.slice (some ad) t.ops.length co),(w.heap.size+1,0,.int .i64 0),(w.heap.size+1,1,.int .i64 0)]) (Cls.below (w:=w7) bch hCv) hgrow8 (by(simp<;>omega));have sz8:=hgrow8.size;simp at sz8;have HO8:=lHd ((hO.below bch).other hgrow8 (by omega));have HT8:=lHd (show TabM (w1.heap.size+1) (mm+1) w8 (D.put (.int .u32 (xJ0 nx)) (.lit (.int .i64 ev))) from hown8);clear hgrow8 hown8))
         go_roundw
         case rel=>exact⟨p+1,_,_,mm+1,by omega,by go_num,HO8.out,HT8.out,by omega,HK7,HD7,by omega,D8,C8⟩
         case measure=>simp[intOf];omega
        ·obtain⟨z,hz⟩:∃z,bits .andNot .u32 (xJ0 o.pre) (xJ0 l)=z:=⟨_,rfl⟩;have hz0:¬z=0:=fun e=>hsub ((xQm HPRE.out HLS.out hn24).1 (by rw[hz,e]))
         have hz1:(z==0)=false:=by simpa using hz0
         have HD7:=lHd (hD.out.skip hl.out (zVo ho.out) hsub);clear hsub
         go_wp2_with fail
         refine(xX6 _ _ _ _ (hm.pre.below bch) n HPRE.out hn24).mono ?_;rintro e w9 ⟨rfl,hW9⟩;rw[<- hW9];clear hW9 w9;go_wp2
         go_roundw
         case rel=>exact⟨p+1,f,D,mm,by omega,by go_num,hO.below bch,hTM.below bch,by omega,hKM,HD7,(by simp;omega),bch,(Cls.below (w:=w7) bch hCv)⟩
         case measure=>simp[intOf];omega
       ·have HD7:=lHd (hD.out.row (by rw[zQl];omega));go_wp2
        go_roundw
        case rel=>exact⟨k+1,bw,f,D,mm,by omega,by go_num,rfl,hO,hTM,by omega,hKM,HD7,hbz,hBv,hCv⟩
        case measure=>simp[intOf];omega
     ·obtain⟨z,hz⟩:∃z,bits .andNot .u32 (xJ0 t.goal) (xJ0 l)=z:=⟨_,rfl⟩;have hz0:¬z=0:=fun e=>hgo ((xQm HGO.out HLS.out hn24).1 (by rw[hz,e]))
      have hz1:(z==0)=false:=by simpa using hz0
      have HD2:=lHd (hD.out.goal_no hl.out hgo);clear hgo
      go_wp2_with fail
      refine(xX6 _ _ _ _ (hT.goal.below bch) n HGO.out hn24).mono ?_;rintro e w9 ⟨rfl,hW9⟩;rw[<- hW9];clear hW9 w9
      go_wp2_with fail
      go_loopw [106] (fun i wr=>∃(p:Nat) (f:List Int->Int) (D:DataW Unit) (mm:Nat),p<=t.ops.length/\i=.int .i64 p/\OwnS (w1.heap.size+1+1) wr (.slice (some ⟨g,0,none⟩) ls.length c1) rs/\TabM (w1.heap.size+1) mm wr D/\mm<=100000+100*k+p/\Hid (KM D rs n f)/\Hid (DPI n (t.ops.map rxO) t.goal st rs k p (k+1) f bv)/\(w1.heap.size+1+1)<=wr.heap.size/\Below w.heap.size w wr/\Cls wr [(w.heap.size,0,.int .i64 t.facts),(w.heap.size,1,.slice Ai t.init.length ci),(w.heap.size,2,.slice Ag t.goal.length cg),(w.heap.size,3,.slice Ao t.ops.length co),(w.heap.size+1,0,.int .i64 0),(w.heap.size+1,1,.int .i64 0)]) (fun i _=>t.ops.length-(intOf i).toNat)
      case atStart=>exact⟨0,f,D,mm,zKk _,rfl,hO.below bch,hTM.below bch,by omega,hKM,HD2,hbz,bch,(Cls.below (w:=w6) bch hCu)⟩
      case round=>
       clear HD2 hD hKM hTM hO hmm2 hfl hflr hbz hlc hgb;obtain⟨p,f,D,mm,hp,rfl,hO,hTM,hmm2,hKM,hD,hbz,hBv,hCv⟩:=hrel;obtain⟨w7,rfl⟩:∃wo:World,wo=wr:=⟨_,rfl⟩;have Fv:=hCv.f;have yvw1:=hCv.blk (b:=w.heap.size+1) (k:=0) (v:=.int .i64 0) (by simp)
       by_cases hlp:p<t.ops.length
       ·obtain⟨ad,o,A0,c0,A3,c3,A4,c4,rfl,ho,hc0,hc1,hc2,hc3,hm⟩:=hT.ops.at2 hBv hlp;obtain⟨hpre,hadd,hcost⟩:=HOW.out o (lMg ho.out);have HPRE:=lHd hpre;have HADD:=lHd hadd;clear hpre hadd
        by_cases hsub:∀q∈o.pre,q∈l
        ·have hz:bits .andNot .u32 (xJ0 o.pre) (xJ0 l)=0:=(xQm HPRE.out HLS.out hn24).2 hsub;have HIN:=lHd (HCL.out l p (rxO o) HLM.out (zVo ho.out) hsub);obtain⟨nx,hnx⟩:∃x,Hid (xJb n l (rxO o)=x):=⟨_,lHd rfl⟩;rw[hnx.out] at HIN;have HNS:=lHd (HSET.out nx HIN.out);have hor:bits .or .u32 (xJ0 l) (xJ0 o.add)=xJ0 nx:=by rw[<- hnx.out];exact vX8 HLS.out HADD.out hn24
         obtain⟨fl,hfl⟩:∃x,Hid (f l=x):=⟨_,lHd rfl⟩;have hflr:=hD.out.rng l HLM.out;rw[hfl.out] at hflr;obtain⟨fn,hfn⟩:∃x,Hid (f nx=x):=⟨_,lHd rfl⟩;have hfnr:=hD.out.rng nx HIN.out;rw[hfn.out] at hfnr;obtain⟨ev,hev⟩:∃x,min fn (fl+o.cost)=x:=⟨_,rfl⟩;have hev2:(if fn<=fl+o.cost then fn else fl+o.cost)=ev:=by rw[<- hev];split<;>omega
         have hevr:0<=ev/\ev<=1000000000:=by rw[<- hev];omega
         have HD7:=lHd (show DPI n (t.ops.map rxO) t.goal st rs k (p+1) (k+1) (fun r=>if r=nx then ev else f r) bv from DPI.use hD.out HORD.out HND.out HCO.out hl.out (zVo ho.out) hsub HCL.out (by rw[hnx.out];simp;rw[hfn.out,hfl.out];exact hev.symm) (fun r _ hr=>by rw[hnx.out] at hr;simp[hr]) HSM.out);have HK7:=lHd (hKM.out.put (World.ownsMap.isMap hTM) HNS.out (ls':=rs) (f':=fun r=>if r=nx then ev else f r) (fun r=>⟨.inl,fun h=>h.elim id fun e=>e ▸ HIN.out⟩) (y:=ev) (by simp) (fun r _ hr=>by simp[hr]));clear hsub
         go_wp2_with fail
         refine(xX6 _ _ _ _ (hm.pre.below bch) n HPRE.out hn24).mono ?_;rintro e w9 ⟨rfl,hW9⟩;rw[<- hW9];clear hW9 w9
         go_wp2_with fail
         refine(xX6 _ _ _ _ (hm.add.below bch) n HADD.out hn24).mono ?_;rintro e w9 ⟨rfl,hW9⟩;rw[<- hW9];clear hW9 w9
         go_wp2_with (first|(at_lookup;refine wpList_lookup_own_int _ rfl _ _ 75 rfl 77 3 .i64 xQg underlying75 underlying3 (xXu _) (w1.heap.size+1) mm D rfl (TabM.below hTM bch) _ _ rfl (HNS.out.key hn24) ?_;intro c hat hwc;obtain rfl:c=fn:=(hKM.out.at_ HNS.out HIN.out hat).trans hfn.out;clear hat hwc)|(at_lookup;refine wpList_lookup_own_int _ rfl _ _ 75 rfl 77 3 .i64 xQg underlying75 underlying3 (xXu _) (w1.heap.size+1) mm D rfl (TabM.below hTM bch) _ _ rfl (HLS.out.key hn24) ?_;intro c hat hwc;obtain rfl:c=fl:=(hKM.out.at_ HLS.out HLM.out hat).trans hfl.out;clear hat hwc)|(at_mapUpdate;refine wpList_mapUpdate_own _ rfl _ _ _ 75 rfl 77 3 xQg underlying75 (plainElem prog 3) (w1.heap.size+1) mm D rfl (TabM.below hTM bch) (by unfold maxLen;omega) _ _ _ rfl rfl (HNS.out.key hn24) _ [] (zJt (by omega)) ?_;intro w8 hown8 hgrow8;have D8:=xVh (w0:=w) bch hgrow8 (by omega);have C8:=Cls.grown_at (l:=[(w.heap.size,0,.int .i64 t.facts),(w.heap.size,1,.slice Ai t.init.length ci),(w.heap.size,2,.slice Ag t.goal.length cg),(w.heap.size,3,.slice (some ad) t.ops.length co),(w.heap.size+1,0,.int .i64 0),(w.heap.size+1,1,.int .i64 0)]) (Cls.below (w:=w7) bch hCv) hgrow8 (by(simp<;>omega));have sz8:=hgrow8.size;simp at sz8;have HO8:=lHd ((hO.below bch).other hgrow8 (by omega));have HT8:=lHd (show TabM (w1.heap.size+1) (mm+1) w8 (D.put (.int .u32 (xJ0 nx)) (.lit (.int .i64 ev))) from hown8);clear hgrow8 hown8))
         go_roundw
         case rel=>exact⟨p+1,_,_,mm+1,by omega,by go_num,HO8.out,HT8.out,by omega,HK7,HD7,by omega,D8,C8⟩
         case measure=>simp[intOf];omega
        ·obtain⟨z,hz⟩:∃z,bits .andNot .u32 (xJ0 o.pre) (xJ0 l)=z:=⟨_,rfl⟩;have hz0:¬z=0:=fun e=>hsub ((xQm HPRE.out HLS.out hn24).1 (by rw[hz,e]))
         have hz1:(z==0)=false:=by simpa using hz0
         have HD7:=lHd (hD.out.skip hl.out (zVo ho.out) hsub);clear hsub
         go_wp2_with fail
         refine(xX6 _ _ _ _ (hm.pre.below bch) n HPRE.out hn24).mono ?_;rintro e w9 ⟨rfl,hW9⟩;rw[<- hW9];clear hW9 w9;go_wp2
         go_roundw
         case rel=>exact⟨p+1,f,D,mm,by omega,by go_num,hO.below bch,hTM.below bch,by omega,hKM,HD7,(by simp;omega),bch,(Cls.below (w:=w7) bch hCv)⟩
         case measure=>simp[intOf];omega
       ·have HD7:=lHd (hD.out.row (by rw[zQl];omega));go_wp2
        go_roundw
        case rel=>exact⟨k+1,bv,f,D,mm,by omega,by go_num,rfl,hO,hTM,by omega,hKM,HD7,hbz,hBv,hCv⟩
        case measure=>simp[intOf];omega
    ·have HE:=lHd (show k=ls.length by omega);have HRB:=lHd (show RBest n (t.ops.map rxO) t.goal st bv from DPI.best (by have h:=hD.out;rw[HE.out,<- HLEN.out] at h;exact h) HSM.out HCL.out);go_wp2;refine bodyPost_ret (v:=.tuple #[.int .i64 bv,.agg #[.int .i64 0,.int .i64 0]]) ?_ rfl ⟨bv,0,0,rfl,.inl ⟨⟨rfl,rfl⟩,HRB.out,ls,HR3.out,by omega⟩,bch⟩;simp[results,results12,go_sem,Fu]
end
