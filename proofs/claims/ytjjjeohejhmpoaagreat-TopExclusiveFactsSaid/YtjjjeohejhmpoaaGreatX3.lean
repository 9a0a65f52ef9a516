/-
  Lemmas.
-/
import Derived.Test.YtjjjeohejhmpoaaGreatX2
set_option linter.unusedVariables false
set_option linter.unusedSimpArgs false
set_option maxRecDepth 100000
set_option maxHeartbeats 4000000
namespace Go.Proofs.YtjjjeohejhmpoaaGreat
open Go.RowKit Go.Proofs.Tryz
section
def Combines(G:FuncId)(s:Bool):Prop:=Enters G/\∀(A B:Option Addr) (c d:Nat) (vs xs:List Int) (w:World),Ints w A vs->Ints w B xs->xs.length<=9223372036854775807->vs.length<=9223372036854775807->(∀x∈xs,0<=x/\x<vs.length)->xV3 vs ->
  Calls prog G #[.slice A vs.length c,.slice B xs.length d] w fun e w'=>e=.returned (.int .i64 (xJf s vs xs))/\w=w'
theorem Combines.at_{G:FuncId}{s:Bool}(h:Combines G s)(A B:Option Addr)(c d m:Nat)(vs xs:List Int)(w:World)(h1:Ints w A vs)(h2:Ints w B xs)(hm:vs.length=m)(h3:lenOk xs.length)(h4:m<=1000000000000)(h5:∀x∈xs,0<=x/\x<(m:Int))(h6:xV3 vs) :
  Calls prog G #[.slice A m c,.slice B xs.length d] w fun e w'=>e=.returned (.int .i64 (xJf s vs xs))/\w'=w:=by
 subst hm;exact(h.2 A B c d vs xs w h1 h2 h3.le (by omega) h5 h6).mono fun _ _ h=>⟨h.1,h.2.symm⟩
theorem xZm:Combines 33 false:=⟨fun args w=>by kernel_rfl,fun A B c d vs xs w h1 h2 h3 h4 h5 h6=>zJ4 A B c d vs xs w h1 h2 h3 h4 h5 h6⟩
theorem vYr(w:World)(t:TaskV)(Ai Ag Ao:Option Addr)(ci cg co:Nat)(hT:TaskMem w Ai Ag Ao t)(n:Nat)(hn:t.facts=n)(hn24:n<=1000000000000)(S:Option Addr)(cs:Nat)(st:List Int)(hS:Ints w S st)(hls:lenOk st.length)(hst:∀p∈st,0<=p/\p<(n:Int))(C:Option Addr)(cc:Nat)(cost:List Int)(hC:Ints w C cost)(hlc:cost.length=t.ops.length)(hcv:xV3 cost)(hops:∀o∈t.ops,(∀p∈o.pre,0<=p/\p<(n:Int))/\∀p∈o.add,0<=p/\p<(n:Int))(G:FuncId)(s:Bool)(hG:Combines G s) :
  Calls prog 85 #[.agg #[.int .i64 t.facts,.slice Ai t.init.length ci,.slice Ag t.goal.length cg,.slice Ao t.ops.length co],.slice S st.length cs,.slice C cost.length cc,.func (.func G) #[] #[]] w fun e w'=>∃g,e=.returned (.slice (some ⟨g,0,none⟩) n n)/\w.heap.size<=g/\IArr w' g (xJ8 s n st t.ops cost)/\Best s n st t.ops cost (xJ8 s n st t.ops cost)/\Below w.heap.size w w':=by
 have hls':=hls.le;have hlo:=hT.lops.le;have hn':=hn;rw[hn];have hmk:=xQu n hn24;have hE:=hG.1;have hE':∀(args:Array Value) (w:World),(callFunc G args).run prog w=.ok (.enter G args) w:=hE;clear hE;have HST:=lHd hst;have HCV:=lHd hcv;have HOPS:=lHd hops;have HLC:=lHd hlc;clear hst hcv hops hlc;go_enter func85,ntmps85
 go_wp2_with fail
 go_loopw [24] (fun i wr=>∃k:Nat,k<=n/\i=.int .i64 k/\IArr wr (w.heap.size+1) (List.replicate k 1000000000++List.replicate (n-k) 0)/\Below w.heap.size w wr/\Cls wr [(w.heap.size,0,.int .i64 (n:Int)),(w.heap.size,1,.slice Ai t.init.length ci),(w.heap.size,2,.slice Ag t.goal.length cg),(w.heap.size,3,.slice Ao t.ops.length co)]) (fun i _=>n-(intOf i).toNat)
 case atStart=>
  refine⟨0,zKk _,rfl,?_,bch,(by simp[Cls,go_sem])⟩;rw[yX8];exact IArr.made _ _ _ (by simp)
 case round=>
  obtain⟨k,hk,rfl,hA,hBr,hCr⟩:=hrel;have drs:=hBr.size;have Fr:=hCr.f;have yrw0:=hCr.blk (b:=w.heap.size) (k:=0) (v:=.int .i64 (n:Int)) (by simp);have yrwp1:w.heap.size<wr.heap.size+1:=(by omega);have yrwp2:w.heap.size<wr.heap.size+1+1:=(by omega)
  by_cases hlt:k<n
  ·obtain⟨x,hx,hc,hf⟩:=hA.cell (i:=k) (by rw[vZy hk];exact hlt);have hlen:=vZy hk (1000000000:Int) 0;go_wp2
   go_roundw
   case rel=>
    refine⟨k+1,by omega,by go_num,?_,bch,(by simp[Cls,go_sem,Fr])⟩;rw[<- yX9 hlt];exact hA.set_ k _
   case measure=>simp[intOf];omega
  ·rw[yY6 hlt hk,<- yX6] at hA;obtain⟨w1,rfl⟩:∃wo:World,wo=wr:=⟨_,rfl⟩
   go_wp2_with fail
   go_loopg [33] (st.length) (fun gk i wr=>∃k:Nat,Hid (k+gk=st.length)/\i=.int .i64 k/\IArr wr (w.heap.size+1) (zVw n (st.take k))/\Below w.heap.size w wr/\Cls wr [(w.heap.size,0,.int .i64 (n:Int)),(w.heap.size,1,.slice Ai t.init.length ci),(w.heap.size,2,.slice Ag t.goal.length cg),(w.heap.size,3,.slice Ao t.ops.length co)])
   case atStart=>exact⟨0,lHd (by omega),rfl,by simpa using hA,bch,(by simp[Cls,go_sem,Fr])⟩
   case round=>
    obtain⟨k,hk,rfl,hA,hBq,hCq⟩:=hrel;have dqs:=hBq.size;have Fq:=hCq.f;have yqw0:=hCq.blk (b:=w.heap.size) (k:=0) (v:=.int .i64 (n:Int)) (by simp);have yqwp1:w.heap.size<wr.heap.size+1:=(by omega);have yqwp2:w.heap.size<wr.heap.size+1+1:=(by omega)
    by_cases hlt:k<st.length
    ·obtain⟨sd,x,rfl,hx,hc⟩:=(hS.below hBq).at_ hlt;obtain⟨x0,x1⟩:=HST.out x (lMg hx.out);have hlen:=zWd n (st.take k);obtain⟨y,hy,hd,hf⟩:=hA.cell (i:=x.toNat) (by omega);have hk1:=lHd (show k+1+(gk-1)=st.length/\gk-1<gk by have:=hk.out;omega);go_wp2
     go_roundg (gk-1)
     case measure=>exact hk1.out.2
     case rel=>
      refine⟨k+1,lHd hk1.out.1,by go_num,?_,bch,(by simp[Cls,go_sem,Fq])⟩;rw[vYo hx.out];exact hA.set_ _ _
    ·rw[zQd (by omega),yY5 HST.out] at hA;obtain⟨w2,rfl⟩:∃wo:World,wo=wr:=⟨_,rfl⟩
     go_wp2_with fail
     go_loopg [13] (2*xV4 (zWc n st)+1) (fun gk ch wr=>∃(V:List Int) (b:Bool),ch=.bool b/\Hid (gk=2*xV4 V+b.toNat)/\IArr wr (w.heap.size+1) V/\Above s n st t.ops cost V/\Hid (b=false->xZt s t.ops cost t.ops.length V)/\Below w.heap.size w wr/\Cls wr [(w.heap.size,0,.int .i64 (n:Int)),(w.heap.size,1,.slice Ai t.init.length ci),(w.heap.size,2,.slice Ag t.goal.length cg),(w.heap.size,3,.slice Ao t.ops.length co)])
     case atStart=>exact⟨_,true,rfl,lHd rfl,hA,zZ0 HST.out,lHd (fun h=>by cases h),bch,(by simp[Cls,go_sem,Fq])⟩
     case round=>
      obtain⟨V0,b,rfl,hgk,hA0,hV0,hcl,hBp,hCp⟩:=hrel;obtain⟨g3,rfl⟩:∃g:Nat,g=gk:=⟨_,rfl⟩;obtain⟨w3,rfl⟩:∃wo:World,wo=wr:=⟨_,rfl⟩
      cases b with
      |false=>
       have hB:=zVu hV0 (hcl.out rfl);have e:=zXx hB;rw[e] at hB hA0;have hB':=lHd hB;clear e hB hV0 hcl
       skip
       have Fp:=hCp.f;have ypw0:=hCp.blk (b:=w.heap.size) (k:=0) (v:=.int .i64 (n:Int)) (by simp);go_wp2;go_ret;exact⟨_,rfl,by omega,hA0,hB'.out,hBp⟩
      |true=>
       have Fp:=hCp.f;have ypw0:=hCp.blk (b:=w.heap.size) (k:=0) (v:=.int .i64 (n:Int)) (by simp)
       go_wp2_with fail
       go_loopg [13,45] (t.ops.length) (fun gk ch i wr=>∃(V:List Int) (b:Bool) (k:Nat),ch=.bool b/\i=.int .i64 k/\Hid (k+gk=t.ops.length)/\IArr wr (w.heap.size+1) V/\Above s n st t.ops cost V/\Hid (b=true->xV4 V<xV4 V0)/\Hid (b=false->xV4 V<=xV4 V0/\xZt s t.ops cost k V)/\Below w.heap.size w wr/\Cls wr [(w.heap.size,0,.int .i64 (n:Int)),(w.heap.size,1,.slice Ai t.init.length ci),(w.heap.size,2,.slice Ag t.goal.length cg),(w.heap.size,3,.slice Ao t.ops.length co)])
       case atStart=>exact⟨V0,false,0,rfl,rfl,lHd (by omega),hA0,hV0,lHd (fun h=>by cases h),lHd (fun _=>⟨Nat.le_refl _,zVy⟩),bch,(by simp[Cls,go_sem,Fp])⟩
       case round=>
        obtain⟨V1,b1,k,rfl,rfl,hk,hA1,hV1,ht1,hf1,hBs,hCs⟩:=hrel;obtain⟨g4,rfl⟩:∃g:Nat,g=gk:=⟨_,rfl⟩;obtain⟨w4,rfl⟩:∃wo:World,wo=wr:=⟨_,rfl⟩;have Fs:=hCs.f;have ysw0:=hCs.blk (b:=w.heap.size) (k:=0) (v:=.int .i64 (n:Int)) (by simp)
        by_cases hlt:k<t.ops.length
        ·obtain⟨ad,o,A0,c0,A1,c1,A2,c2,rfl,ho,hc0,hc1,hc2,hc3,hm⟩:=hT.ops.at2 hBs hlt;have hkc:k<cost.length:=by have:=HLC.out;omega
         obtain⟨cd,cv,rfl,hcx,hcc⟩:=(hC.below hBs).at_ (show k<cost.length by have:=HLC.out;omega);have hcin:=HCV.out cv (lMg hcx.out);have hoo:=lHd (HOPS.out o (lMg ho.out));have hAi:=hA1.ints;have hVl:=hV1.shape.len;have hcomb:=xX8 (s:=s) hV1.shape.all o.pre;obtain⟨v,hv⟩:∃v,Hid (opV s V1 o cv=v):=⟨_,lHd rfl⟩;have hbd:=lHd (vZx hV1 ho.out hcx.out hcin);have hvin:=vZu (s:=s) hV1.shape.all o hcin;rw[hv.out] at hvin hbd;have hcc2:∀ob:Obj,(w4.alloc ob).cell? (cd.add k)=some (.int .i64 cv):=fun ob=>(((Below.refl _ _).alloc (Nat.le_refl _) _).cell (zQ2 w4 _ hcc)).trans hcc
         go_wp2_with fail
         refine zK0 (by kernel_rfl) (by kernel_rfl) ?_
         repeat still_step
         still_call (hG.at_ _ _ _ _ _ _ _ _ (hAi.below ((Below.refl _ _).alloc (Nat.le_refl _) _).drew) (hm.pre.below bch) hVl hm.lpre hn24 hoo.out.1 hV1.shape.all)
         repeat still_step
         still_call ((zQz _ _ _ hcomb hcin).mono fun _ _ h=>⟨h.1,h.2.symm⟩)
         repeat still_step
         refine wpStill_nil ?_;have hv':xXf (xJf s V1 o.pre) cv=v:=hv.out;rw[hv'];have hlc':=hm.ladd.le
         go_wp2_with fail
         go_loopg [13,63] (o.add.length) (fun gk ch i wr=>∃(V:List Int) (b:Bool) (j:Nat),ch=.bool b/\i=.int .i64 j/\Hid (j+gk=o.add.length)/\IArr wr (w.heap.size+1) V/\Above s n st t.ops cost V/\Hid (b=true->xV4 V<xV4 V0)/\Hid (b=false->V=V1/\xV4 V<=xV4 V0/\xZt s t.ops cost k V/\∀p∈o.add.take j,xJ2 V p<=v)/\Below w.heap.size w wr/\Cls wr [(w.heap.size,0,.int .i64 (n:Int)),(w.heap.size,1,.slice Ai t.init.length ci),(w.heap.size,2,.slice Ag t.goal.length cg),(w.heap.size,3,.slice (some ad) t.ops.length co)])
         case atStart=>exact⟨V1,b1,0,rfl,rfl,lHd (by omega),(hA1.below bch),hV1,ht1,lHd (fun h=>⟨rfl,(hf1.out h).1,(hf1.out h).2,by simp⟩),bch,(by simp[Cls,go_sem,Fs,ysw0])⟩
         case round=>
          obtain⟨V2,b2,j,rfl,rfl,hj,hA2,hV2,ht2,hf2,hBu,hCu⟩:=hrel;obtain⟨w5,rfl⟩:∃wo:World,wo=wr:=⟨_,rfl⟩;have Fu:=hCu.f;have yuw0:=hCu.blk (b:=w.heap.size) (k:=0) (v:=.int .i64 (n:Int)) (by simp)
          by_cases hlj:j<o.add.length
          ·obtain⟨pd,p,rfl,hp,hpc⟩:=(hm.add.below hBu).at_ hlj;obtain⟨p0,p1⟩:=hoo.out.2 p (lMg hp.out);have hl2:=hV2.shape.len;obtain⟨y,hy,hyc,hyf⟩:=hA2.cell (i:=p.toNat) (by omega);have hj1:=lHd (show j+1+(gk-1)=o.add.length/\gk-1<gk by have:=hj.out;omega);have hpm:=lMg hp.out;have hva:=lHd (xJl hy.out);have hab:=fun hlt:v<y=>zWb hV2 hbd.out hpm hvin hy.out hlt
           have hsm:=fun hlt:v<y=>zVv hy.out hvin.1 hlt
           have hab':=lHd hab;have hsm':=lHd hsm;have hpm':=lHd hpm;have hV2':=lHd hV2;clear hab hsm hpm hV2
           by_cases hvy:v<y
           ·have hvy':=lHd hvy;go_wp2
            go_roundg (gk-1)
            case measure=>exact hj1.out.2
            case rel=>
             refine⟨V2.set p.toNat v,true,j+1,rfl,by go_num,lHd hj1.out.1,hA2.set_ _ _,hab'.out hvy'.out,lHd (fun _=>?_),lHd (fun h=>by cases h),bch,(by simp[Cls,go_sem,Fu])⟩;have h1:=hsm'.out hvy'.out
             cases b2 with
             |true=>have:=ht2.out rfl;omega
             |false=>have:=(hf2.out rfl).2.1;omega
           ·have hvy':=lHd hvy;go_wp2
            go_roundg (gk-1)
            case measure=>exact hj1.out.2
            case rel=>
             refine⟨V2,b2,j+1,rfl,by go_num,lHd hj1.out.1,hA2,hV2'.out,ht2,lHd (fun h=>⟨(hf2.out h).1,(hf2.out h).2.1,(hf2.out h).2.2.1,xJe hp.out (hf2.out h).2.2.2 ?_⟩),bch,(by simp[Cls,go_sem,Fu])⟩;rw[hva.out];have:=hvy'.out;omega
          ·have hend:=hj.out;have hk1:=lHd (show k+1+(g4-1)=t.ops.length/\g4-1<g4 by have:=hk.out;omega);go_wp2
           go_roundg (g4-1)
           case measure=>exact hk1.out.2
           case rel=>
            refine⟨V2,b2,k+1,rfl,by go_num,lHd hk1.out.1,hA2,hV2,ht2,lHd (fun h=>⟨(hf2.out h).2.1,?_⟩),bch,(by simp[Cls,go_sem,Fu])⟩;obtain⟨rfl,h2,h3,h4⟩:=hf2.out h;refine zVx h3 ho.out hcx.out ?_;rw[hv.out];exact xJu hlj h4
        ·have hkk:=lHd (show k=t.ops.length by have:=hk.out;omega);go_wp2
         go_roundg (2*xV4 V1+b1.toNat)
         case measure=>
          rw[hgk.out]
          cases b1 with
          |true=>have:=ht1.out rfl;simp;omega
          |false=>have:=(hf1.out rfl).1;simp;omega
         case rel=>exact⟨V1,b1,rfl,lHd rfl,hA1,hV1,lHd (fun h=>by rw[<- hkk.out];exact(hf1.out h).2),bch,(by simp[Cls,go_sem,Fs])⟩
theorem ints_at(A B:Option Addr)(c d m:Nat)(xs ys:List Int)(w:World)(hI:Ints w A xs)(hJ:Ints w B ys)(h1:xs.length=m)(h2:ys.length=m)(hl:m<=1000000000000)(v:Bool)(hv:v=decide (xs=ys)) :
  Calls prog 28 #[.slice A m c,.slice B m d] w fun e w'=>e=.returned (.bool v)/\Below w.heap.size w w':=by
 have h:=yV7 A B c d xs ys w hI hJ (by omega) (by omega);rw[h1,h2] at h;rw[hv];exact h
theorem OwnI.form_at{base n:Nat}{w:World}{v:Value}{xs:List Int}(h:OwnI base w v xs)(hn:xs.length=n):∃A c,v=.slice A n c/\(A=none->xs=[]/\c=0):=by
 obtain⟨A,c,e,h1,_⟩:=h.form;exact⟨A,c,by rw[e,hn],h1⟩
theorem OwnI.ints_at{base n c:Nat}{w:World}{A:Option Addr}{xs:List Int}(h:OwnI base w (.slice A n c) xs):Ints w A xs:=by
 obtain⟨A',c',e,h1⟩:=h.ints;injection e with e
 rw[e];exact h1
def Lowered(s:Bool)(ops:List OpV)(cs:List Int)(k:Nat)(V V':List Int):Prop:=
 (V'=V\/xV4 V'<xV4 V)/\∀(i:Nat) (o:OpV) (c:Int),i<k->ops[i]? = some o->cs[i]? = some c->∀p∈o.add,xJ2 V' p<=opV s V o c
section
variable {s:Bool}{n:Nat}{st:List Int}{ops:List OpV}{cs V V':List Int}
theorem Lowered.set_{k:Nat}(h:Lowered s ops cs k V V'){i:Nat}{x y:Int}(hy:V'[i]? = some y)(h0:0<=x)(hlt:x<y):Lowered s ops cs k V (V'.set i x):=by
 have h1:=zVv hy h0 hlt;refine⟨Or.inr ?_,fun j o c hj ho hc p hp=>Int.le_trans (LeV.set_ hy (Int.le_of_lt hlt) p) (h.2 j o c hj ho hc p hp)⟩;rcases h.1 with e|e
 ·rw[<- e];exact h1
 ·omega
theorem Lowered.succ{k:Nat}{o:OpV}{c:Int}(h:Lowered s ops cs k V V')(ho:ops[k]? = some o)(hc:cs[k]? = some c)(h2:∀p∈o.add,xJ2 V' p<=opV s V o c):Lowered s ops cs (k+1) V V':=by
 refine⟨h.1,fun i o' c' hi ho' hc' p hp=>?_⟩
 by_cases e:i=k
 ·subst e;rw[ho] at ho';injection ho' with ho';subst ho'
  rw[hc] at hc';injection hc' with hc';subst hc'
  exact h2 p hp
 ·exact h.2 i o' c' (by omega) ho' hc' p hp
theorem Lowered.closed(h:Lowered s ops cs ops.length V V):xZt s ops cs ops.length V:=h.2
end
def Uses(F:FuncId)(caps:Array Value)(use:Nat->Bool)(m:Nat)(w:World):Prop:=
 Enters F/\∀(k:Nat) (wr:World),k<m->Below w.heap.size w wr->Calls prog F (#[.int .i64 k]++caps) wr fun e w'=>e=.returned (.bool (use k))/\Below wr.heap.size wr w'
theorem zQc(A B:Option Addr)(c d n:Nat)(bs:List Bool)(xs:List Int)(w:World)(hI:Bools w A bs)(hJ:Ints w B xs)(hn:bs.length=n)(hl:lenOk xs.length)(hb:n<=1000000000000)(hx:∀x∈xs,0<=x/\x<(n:Int))(v:Bool)(hv:v=true↔yJa bs xs) :
  Calls prog 119 #[.slice A n c,.slice B xs.length d] w fun e w'=>e=.returned (.bool v)/\Below w.heap.size w w':=by
 subst hn;exact yW9 A B c d bs xs w hI hJ hl.le (by omega) hx v hv
theorem yXo(w:World)(t:TaskV)(Ai Ag Ao:Option Addr)(ci cg co:Nat)(hT:TaskMem w Ai Ag Ao t)(n:Nat)(hn:t.facts=n)(hn24:n<=1000000000000)(S:Option Addr)(cs:Nat)(st:List Int)(hS:Ints w S st)(hls:lenOk st.length)(hst:∀p∈st,0<=p/\p<(n:Int))(hops:∀o∈t.ops,(∀p∈o.pre,0<=p/\p<(n:Int))/\∀p∈o.add,0<=p/\p<(n:Int))(F:FuncId)(caps:Array Value)(use:Nat->Bool)(hU:Uses F caps use t.ops.length w) :
  Calls prog 175 #[.agg #[.int .i64 t.facts,.slice Ai t.init.length ci,.slice Ag t.goal.length cg,.slice Ao t.ops.length co],.slice S st.length cs,.func (.func F) #[] caps] w fun e w'=>∃g,e=.returned (.slice (some ⟨g,0,none⟩) n n)/\w.heap.size<=g/\BArr w' g (xYv n st t.ops use)/\Below w.heap.size w w':=by
 have hls':=hls.le;have hlo:=hT.lops.le;have hn':=hn;rw[hn];have hmk:=zZw n hn24;have hE:=hU.1;have hE':∀(args:Array Value) (w:World),(callFunc F args).run prog w=.ok (.enter F args) w:=hE;clear hE;have HST:=lHd hst;have HOPS:=lHd hops;clear hst hops;go_enter func175,ntmps175
 go_wp2_with fail
 go_loopg [20] (st.length) (fun gk i wr=>∃k:Nat,Hid (k+gk=st.length)/\i=.int .i64 k/\BArr wr (w.heap.size+1) (xVn n (st.take k))/\Below w.heap.size w wr/\Cls wr [(w.heap.size,0,.int .i64 (n:Int)),(w.heap.size,1,.slice Ai t.init.length ci),(w.heap.size,2,.slice Ag t.goal.length cg),(w.heap.size,3,.slice Ao t.ops.length co)])
 case atStart=>
  refine⟨0,lHd (by omega),rfl,?_,bch,(by simp[Cls,go_sem])⟩;rw[List.take_zero,yXa];exact BArr.made _ _ _ (by simp)
 case round=>
  obtain⟨k,hk,rfl,hA,hBq,hCq⟩:=hrel;have dqs:=hBq.size;have Fq:=hCq.f;have yqw0:=hCq.blk (b:=w.heap.size) (k:=0) (v:=.int .i64 (n:Int)) (by simp);have yqwp1:w.heap.size<wr.heap.size+1:=(by omega);have yqwp2:w.heap.size<wr.heap.size+1+1:=(by omega)
  by_cases hlt:k<st.length
  ·obtain⟨sd,x,rfl,hx,hc⟩:=(hS.below hBq).at_ hlt;obtain⟨x0,x1⟩:=HST.out x (lMg hx.out);have hlen:=xKy n (st.take k);obtain⟨y,hy,hd,hf⟩:=hA.cell (i:=x.toNat) (by omega);have hk1:=lHd (show k+1+(gk-1)=st.length/\gk-1<gk by have:=hk.out;omega);go_wp2
   go_roundg (gk-1)
   case measure=>exact hk1.out.2
   case rel=>
    refine⟨k+1,lHd hk1.out.1,by go_num,?_,bch,(by simp[Cls,go_sem,Fq])⟩;rw[zQ8 hx.out];exact hA.set_ _ _
  ·rw[zQd (by omega)] at hA;obtain⟨w2,rfl⟩:∃wo:World,wo=wr:=⟨_,rfl⟩
   go_wp2_with fail
   go_loopg [10] (2*xJk (xVn n st)+1) (fun gk ch wr=>∃(V:List Bool) (b:Bool),ch=.bool b/\Hid (gk=2*xJk V+b.toNat)/\BArr wr (w.heap.size+1) V/\Sound n st t.ops use V/\Hid (b=false->xY6 t.ops use t.ops.length V)/\Below w.heap.size w wr/\Cls wr [(w.heap.size,0,.int .i64 (n:Int)),(w.heap.size,1,.slice Ai t.init.length ci),(w.heap.size,2,.slice Ag t.goal.length cg),(w.heap.size,3,.slice Ao t.ops.length co)])
   case atStart=>exact⟨_,true,rfl,lHd rfl,hA,zZ1 HST.out,lHd (fun h=>by cases h),bch,(by simp[Cls,go_sem,Fq])⟩
   case round=>
    obtain⟨V0,b,rfl,hgk,hA0,hV0,hcl,hBp,hCp⟩:=hrel;obtain⟨g3,rfl⟩:∃g:Nat,g=gk:=⟨_,rfl⟩;obtain⟨w3,rfl⟩:∃wo:World,wo=wr:=⟨_,rfl⟩
    cases b with
    |false=>
     have e:=hV0.eq (hcl.out rfl);rw[e] at hA0;clear e hV0 hcl;have Fp:=hCp.f;have ypw0:=hCp.blk (b:=w.heap.size) (k:=0) (v:=.int .i64 (n:Int)) (by simp);go_wp2;go_ret;exact⟨_,rfl,by omega,hA0,hBp⟩
    |true=>
     have Fp:=hCp.f;have ypw0:=hCp.blk (b:=w.heap.size) (k:=0) (v:=.int .i64 (n:Int)) (by simp)
     go_wp2_with fail
     go_loopg [10,32] (t.ops.length) (fun gk ch i wr=>∃(V:List Bool) (b:Bool) (k:Nat),ch=.bool b/\i=.int .i64 k/\Hid (k+gk=t.ops.length)/\BArr wr (w.heap.size+1) V/\Sound n st t.ops use V/\Hid (b=true->xJk V<xJk V0)/\Hid (b=false->xJk V<=xJk V0/\xY6 t.ops use k V)/\Below w.heap.size w wr/\Cls wr [(w.heap.size,0,.int .i64 (n:Int)),(w.heap.size,1,.slice Ai t.init.length ci),(w.heap.size,2,.slice Ag t.goal.length cg),(w.heap.size,3,.slice Ao t.ops.length co)])
     case atStart=>exact⟨V0,false,0,rfl,rfl,lHd (by omega),hA0,hV0,lHd (fun h=>by cases h),lHd (fun _=>⟨Nat.le_refl _,zWe⟩),bch,(by simp[Cls,go_sem,Fp])⟩
     case round=>
      obtain⟨V1,b1,k,rfl,rfl,hk,hA1,hV1,ht1,hf1,hBs,hCs⟩:=hrel;obtain⟨g4,rfl⟩:∃g:Nat,g=gk:=⟨_,rfl⟩;obtain⟨w4,rfl⟩:∃wo:World,wo=wr:=⟨_,rfl⟩;have Fs:=hCs.f;have ysw0:=hCs.blk (b:=w.heap.size) (k:=0) (v:=.int .i64 (n:Int)) (by simp)
      by_cases hlt:k<t.ops.length
      ·obtain⟨ad,o,A0,c0,A1,c1,A2,c2,rfl,ho,hc0,hc1,hc2,hc3,hm⟩:=hT.ops.at2 hBs hlt;have hoo:=lHd (HOPS.out o (lMg ho.out));have hVl:=lHd hV1.len;have hk1:=lHd (show k+1+(g4-1)=t.ops.length/\g4-1<g4 by have:=hk.out;omega)
       cases hu:use k with
       |false=>
        have HU:=lHd hu;clear hu
        go_wp2_with fail
        refine(hU.2 k _ hlt bch).mono ?_;rintro e w6 ⟨he,hB6⟩;rw[HU.out] at he;subst he;have D6:=xJ3 w hB6 bch;have C6:=Cls.below (l:=[(w.heap.size,0,.int .i64 (n:Int)),(w.heap.size,1,.slice Ai t.init.length ci),(w.heap.size,2,.slice Ag t.goal.length cg),(w.heap.size,3,.slice (some ad) t.ops.length co),(w4.heap.size,0,.slice A0 o.pre.length c0),(w4.heap.size,1,.slice A1 o.add.length c1),(w4.heap.size,2,.slice A2 o.del.length c2),(w4.heap.size,3,.int .i64 o.cost)]) hB6 (by simp[Cls,go_sem,Fs,ysw0]);have F6:=C6.f;have y6w0:=C6.b 0;have y6w40:=C6.b 4;have E6:=xJ3 w4 hB6 bch;go_wp2
        go_roundg (g4-1)
        case measure=>exact hk1.out.2
        case rel=>
         refine⟨V1,b1,k+1,rfl,by go_num,lHd hk1.out.1,BArr.below hA1 E6,hV1,ht1,lHd (fun h=>⟨(hf1.out h).1,xY7 (hf1.out h).2 ho.out (fun hh hp=>absurd hh (by rw[HU.out];simp))⟩),bch,(by simp[Cls,go_sem,F6])⟩
       |true=>
        have HU:=lHd hu;clear hu
        by_cases hall:yJa V1 o.pre
        ·skip
         have HAll:=lHd hall;clear hall
         go_wp2_with fail
         refine(hU.2 k _ hlt bch).mono ?_;rintro e w6 ⟨he,hB6⟩;rw[HU.out] at he;subst he;have D6:=xJ3 w hB6 bch;have C6:=Cls.below (l:=[(w.heap.size,0,.int .i64 (n:Int)),(w.heap.size,1,.slice Ai t.init.length ci),(w.heap.size,2,.slice Ag t.goal.length cg),(w.heap.size,3,.slice (some ad) t.ops.length co),(w4.heap.size,0,.slice A0 o.pre.length c0),(w4.heap.size,1,.slice A1 o.add.length c1),(w4.heap.size,2,.slice A2 o.del.length c2),(w4.heap.size,3,.int .i64 o.cost)]) hB6 (by simp[Cls,go_sem,Fs,ysw0]);have F6:=C6.f;have y6w0:=C6.b 0;have y6w40:=C6.b 4;have E6:=xJ3 w4 hB6 bch
         go_wp2_with fail
         refine(zQc _ _ _ _ _ _ _ _ (BArr.below hA1 bch).bools (hm.pre.below bch) hVl.out hm.lpre hn24 hoo.out.1 true (by simp[HAll.out])).mono ?_;rintro e w7 ⟨rfl,hB7⟩;have D7:=xJ3 w hB7 bch;have C7:=C6.st hB7;have F7:=C7.f;have y7w0:=C7.b 0;have y7w40:=C7.b 4;have E7:=xJ3 w4 hB7 bch;have hlc':=hm.ladd.le;have hA7:=BArr.below hA1 E7;have hpreR:=lHd (hV1.pre HAll.out (fun q hq=>(hoo.out.1 q hq).1))
         go_wp2_with fail
         go_loopg [10,51] (o.add.length) (fun gk ch i wr=>∃(V:List Bool) (b:Bool) (j:Nat),ch=.bool b/\i=.int .i64 j/\Hid (j+gk=o.add.length)/\BArr wr (w.heap.size+1) V/\Sound n st t.ops use V/\Hid (b=true->xJk V<xJk V0)/\Hid (b=false->xJk V<=xJk V0/\xY6 t.ops use k V/\∀p∈o.add.take j,V[p.toNat]? = some true)/\Below w.heap.size w wr/\Cls wr [(w.heap.size,0,.int .i64 (n:Int)),(w.heap.size,1,.slice Ai t.init.length ci),(w.heap.size,2,.slice Ag t.goal.length cg),(w.heap.size,3,.slice (some ad) t.ops.length co)])
         case atStart=>exact⟨V1,b1,0,rfl,rfl,lHd (by omega),hA7,hV1,ht1,lHd (fun h=>⟨(hf1.out h).1,(hf1.out h).2,by simp⟩),bch,(by simp[Cls,go_sem,F7])⟩
         case round=>
          obtain⟨V2,b2,j,rfl,rfl,hj,hA2,hV2,ht2,hf2,hBu,hCu⟩:=hrel;obtain⟨w8,rfl⟩:∃wo:World,wo=wr:=⟨_,rfl⟩;have Fu:=hCu.f;have yuw0:=hCu.blk (b:=w.heap.size) (k:=0) (v:=.int .i64 (n:Int)) (by simp)
          by_cases hlj:j<o.add.length
          ·obtain⟨pd,p,rfl,hp,hpc⟩:=(hm.add.below hBu).at_ hlj;obtain⟨p0,p1⟩:=hoo.out.2 p (lMg hp.out);have hl2:=hV2.len;obtain⟨y,hy,hyc,hyf⟩:=hA2.cell (i:=p.toNat) (by omega);have hj1:=lHd (show j+1+(gk-1)=o.add.length/\gk-1<gk by have:=hj.out;omega);have hset:=lHd (hV2.set_ ho.out HU.out hpreR.out (lMg hp.out) p0);have hfal:=lHd (fun e:y=false=>xWs (bs:=V2) (i:=p.toNat) (by rw[hy.out,e]));have hsame:y=true->V2.set p.toNat true=V2:=fun e=>by
            apply List.ext_getElem?;intro q;rw[List.getElem?_set]
            split
            ·rename_i e2;subst e2;rw[if_pos (by omega),hy.out,e]
            ·rfl
           have hsame':=lHd hsame;clear hsame hV2
           cases b2 with
           |true=>
            go_wp2
            go_roundg (gk-1)
            case measure=>exact hj1.out.2
            case rel=>
             refine⟨V2.set p.toNat true,true,j+1,rfl,by go_num,lHd hj1.out.1,hA2.set_ _ _,hset.out,lHd (fun _=>?_),lHd (fun h=>by cases h),bch,(by simp[Cls,go_sem,Fu])⟩;have h2:=ht2.out (by simp)
             cases y with
             |true=>rw[hsame'.out (by simp)];exact h2
             |false=>have:=hfal.out (by simp);omega
           |false=>
            cases y with
            |true=>
             go_wp2
             go_roundg (gk-1)
             case measure=>exact hj1.out.2
             case rel=>
              refine⟨V2.set p.toNat true,false,j+1,rfl,by go_num,lHd hj1.out.1,hA2.set_ _ _,hset.out,lHd (fun h=>by cases h),lHd (fun _=>?_),bch,(by simp[Cls,go_sem,Fu])⟩;rw[hsame'.out (by simp)];exact⟨(hf2.out (by simp)).1,(hf2.out (by simp)).2.1,xJe (P:=fun p:Int=>V2[p.toNat]? = some true) hp.out (hf2.out (by simp)).2.2 hy.out⟩
            |false=>
             go_wp2
             go_roundg (gk-1)
             case measure=>exact hj1.out.2
             case rel=>
              refine⟨V2.set p.toNat true,true,j+1,rfl,by go_num,lHd hj1.out.1,hA2.set_ _ _,hset.out,lHd (fun _=>?_),lHd (fun h=>by cases h),bch,(by simp[Cls,go_sem,Fu])⟩;have:=hfal.out (by simp);have:=(hf2.out (by simp)).1;omega
          ·go_wp2
           go_roundg (g4-1)
           case measure=>exact hk1.out.2
           case rel=>
            refine⟨V2,b2,k+1,rfl,by go_num,lHd hk1.out.1,hA2,hV2,ht2,lHd (fun h=>⟨(hf2.out h).1,xY7 (hf2.out h).2.1 ho.out (fun _ _=>xJu hlj (hf2.out h).2.2)⟩),bch,(by simp[Cls,go_sem,Fu])⟩
        ·skip
         have HAll:=lHd hall;clear hall
         go_wp2_with fail
         refine(hU.2 k _ hlt bch).mono ?_;rintro e w6 ⟨he,hB6⟩;rw[HU.out] at he;subst he;have D6:=xJ3 w hB6 bch;have C6:=Cls.below (l:=[(w.heap.size,0,.int .i64 (n:Int)),(w.heap.size,1,.slice Ai t.init.length ci),(w.heap.size,2,.slice Ag t.goal.length cg),(w.heap.size,3,.slice (some ad) t.ops.length co),(w4.heap.size,0,.slice A0 o.pre.length c0),(w4.heap.size,1,.slice A1 o.add.length c1),(w4.heap.size,2,.slice A2 o.del.length c2),(w4.heap.size,3,.int .i64 o.cost)]) hB6 (by simp[Cls,go_sem,Fs,ysw0]);have F6:=C6.f;have y6w0:=C6.b 0;have y6w40:=C6.b 4;have E6:=xJ3 w4 hB6 bch
         go_wp2_with fail
         refine(zQc _ _ _ _ _ _ _ _ (BArr.below hA1 bch).bools (hm.pre.below bch) hVl.out hm.lpre hn24 hoo.out.1 false (by simp[HAll.out])).mono ?_;rintro e w7 ⟨rfl,hB7⟩;have D7:=xJ3 w hB7 bch;have C7:=C6.st hB7;have F7:=C7.f;have y7w0:=C7.b 0;have y7w40:=C7.b 4;have E7:=xJ3 w4 hB7 bch;go_wp2
         go_roundg (g4-1)
         case measure=>exact hk1.out.2
         case rel=>
          refine⟨V1,b1,k+1,rfl,by go_num,lHd hk1.out.1,BArr.below hA1 E7,hV1,ht1,lHd (fun h=>⟨(hf1.out h).1,xY7 (hf1.out h).2 ho.out (fun hh hp=>absurd (show yJa V1 o.pre from hp) HAll.out)⟩),bch,(by simp[Cls,go_sem,F7])⟩
      ·have hkk:=lHd (show k=t.ops.length by have:=hk.out;omega);go_wp2
       go_roundg (2*xJk V1+b1.toNat)
       case measure=>
        rw[hgk.out]
        cases b1 with
        |true=>have:=ht1.out rfl;simp;omega
        |false=>have:=(hf1.out rfl).1;simp;omega
       case rel=>exact⟨V1,b1,rfl,lHd rfl,hA1,hV1,lHd (fun h=>by rw[<- hkk.out];exact(hf1.out h).2),bch,(by simp[Cls,go_sem,Fs])⟩
theorem zZ6(w:World)(t:TaskV)(Ai Ag Ao:Option Addr)(ci cg co:Nat)(hT:TaskMem w Ai Ag Ao t)(n:Nat)(hn:t.facts=n)(hn24:n<=1000000000000)(S:Option Addr)(cs:Nat)(st:List Int)(hS:Ints w S st)(hls:lenOk st.length)(hst:∀p∈st,0<=p/\p<(n:Int))(C:Option Addr)(cc m:Nat)(cost:List Int)(hC:Ints w C cost)(hm:m=t.ops.length)(hlc:cost.length=t.ops.length)(hcv:xV3 cost)(hops:∀o∈t.ops,(∀p∈o.pre,0<=p/\p<(n:Int))/\∀p∈o.add,0<=p/\p<(n:Int))(G:FuncId)(s:Bool)(hG:Combines G s) :
  Calls prog 85 #[.agg #[.int .i64 t.facts,.slice Ai t.init.length ci,.slice Ag t.goal.length cg,.slice Ao t.ops.length co],.slice S st.length cs,.slice C m cc,.func (.func G) #[] #[]] w fun e w'=>∃g,e=.returned (.slice (some ⟨g,0,none⟩) n n)/\w.heap.size<=g/\IArr w' g (xJ8 s n st t.ops cost)/\Best s n st t.ops cost (xJ8 s n st t.ops cost)/\Below w.heap.size w w':=by
 obtain rfl:m=cost.length:=by rw[hm,hlc]
 exact vYr w t Ai Ag Ao ci cg co hT n hn hn24 S cs st hS hls hst C cc cost hC hlc hcv hops G s hG
theorem xYx{t:TaskV}{n:Nat}(hv:Valid t)(hn:t.facts=n):∀o∈t.ops,(∀p∈o.pre,0<=p/\p<(n:Int))/\∀p∈o.add,0<=p/\p<(n:Int):=fun o ho=>by
 have:=(hv.ops o ho).1;rw[hn] at this;exact⟨this.1.1,this.2.1.1⟩
theorem zZ7{t:TaskV}{n:Nat}(hv:Valid t)(hn:t.facts=n):∀p∈t.goal,0<=p/\p<(n:Int):=fun p hp=>by
 have:=hv.goal.1 p hp;rw[hn] at this;exact this
end
def xJ0:List Int->Int
 | []=>0
 |x::l=>2^x.toNat+xJ0 l
theorem xYc(l:List Int):0<=xJ0 l:=by
 induction l with
 |nil=>exact Int.le_refl _
 |cons x l ih=>
  have:(0:Int)<=2^x.toNat:=Int.pow_nonneg (by decide);simp only[xJ0];omega
theorem xQa{n:Nat}:∀ {l:List Int},l.Nodup->(∀x∈l,0<=x/\x<=(n:Int))->xJ0 l=xJ0 (l.filter fun x=>decide (x<(n:Int)))+(if(n:Int)∈l then 2^n else 0)
 | [],_,_=>by simp[xJ0]
 |x::l,hd,hx=>by
  obtain⟨hd1,hd2⟩:=List.nodup_cons.1 hd;have ih:=xQa (n:=n) hd2 (fun y hy=>hx y (List.mem_cons_of_mem _ hy));have h0:=hx x (vVp ..)
  by_cases e:x=(n:Int)
  ·subst e;rw[if_neg hd1] at ih;rw[List.filter_cons_of_neg (by simp),if_pos (vVp ..)];simp only[xJ0,Int.toNat_natCast];omega
  ·rw[List.filter_cons_of_pos (by simp;omega)];have e2:((n:Int)∈x::l)↔(n:Int)∈l:=⟨fun h=>by rcases yQ6.1 h with h|h;exact absurd h.symm e;exact h,fun h=>List.mem_cons_of_mem _ h⟩;simp only[xJ0,e2];omega
theorem xYd:∀(n:Nat) {l:List Int},l.Nodup->(∀x∈l,0<=x/\x<(n:Int))->xJ0 l<2^n
 |0,l,_,hx=>by
  cases l with
  |nil=>simp[xJ0]
  |cons x l=>have:=hx x (vVp ..);omega
 |n+1,l,hd,hx=>by
  have h1:=xQa (n:=n) hd (fun x h=>by have:=hx x h;omega);have h2:=xYd n (l:=l.filter fun x=>decide (x<(n:Int))) (hd.filter _) (fun x h=>by
   have h3:=List.mem_filter.1 h;have:=hx x h3.1;simp at h3;omega)
  have h3:(2:Int)^(n+1)=2^n+2^n:=by rw[Int.pow_succ];omega
  have h4:(0:Int)<2^n:=Int.pow_pos (by decide);rw[h1,h3]
  split<;>omega
theorem zYk:∀(n:Nat) {a b:List Int},a.Nodup->b.Nodup->(∀x∈a,0<=x/\x<(n:Int))->(∀x∈b,0<=x/\x<(n:Int))->xJ0 a=xJ0 b->∀x,x∈a↔x∈b
 |0,a,b,_,_,ha,hb,_,x=>⟨fun h=>by have:=ha x h;omega,fun h=>by have:=hb x h;omega⟩
 |n+1,a,b,da,db,ha,hb,he,x=>by
  have fa:∀x∈a.filter (fun x=>decide (x<(n:Int))),0<=x/\x<(n:Int):=fun x h=>by
   have h3:=List.mem_filter.1 h;have:=ha x h3.1;simp at h3;omega
  have fb:∀x∈b.filter (fun x=>decide (x<(n:Int))),0<=x/\x<(n:Int):=fun x h=>by
   have h3:=List.mem_filter.1 h;have:=hb x h3.1;simp at h3;omega
  have h1:=xQa (n:=n) da (fun x h=>by have:=ha x h;omega);have h2:=xQa (n:=n) db (fun x h=>by have:=hb x h;omega);have l1:=xYd n (da.filter _) fa;have l2:=xYd n (db.filter _) fb;have n1:=xYc (a.filter fun x=>decide (x<(n:Int)));have n2:=xYc (b.filter fun x=>decide (x<(n:Int)));have key:((n:Int)∈a↔(n:Int)∈b)/\xJ0 (a.filter fun x=>decide (x<(n:Int)))=xJ0 (b.filter fun x=>decide (x<(n:Int))):=by
   by_cases ea:(n:Int)∈a<;>by_cases eb:(n:Int)∈b<;>simp only[ea,eb,if_true,if_false,iff_true,iff_false,true_and,not_true_eq_false,false_and] at h1 h2 ⊢ <;> omega
  have ih:=zYk n (da.filter _) (db.filter _) fa fb key.2 x;rcases Int.lt_trichotomy x (n:Int) with h|h|h
  ·simp only[List.mem_filter,decide_eq_true_eq,h,and_true] at ih;exact ih
  ·rw[h];exact key.1
  ·exact⟨fun k=>by have:=ha x k;omega,fun k=>by have:=hb x k;omega⟩
theorem SetP.nodup{l:List Int}{n:Int}(h:SetP l n):l.Nodup:=(SetP.pairwise h).imp (fun h=>by omega)
theorem xJp{a b:List Int}{n:Nat}(ha:SetP a (n:Int))(hb:SetP b (n:Int))(h:xJ0 a=xJ0 b):a=b:=
 ha.ext hb (zYk n ha.nodup hb.nodup ha.1 hb.1 h)
section
def xJ1:TaskV:=⟨2,[],[1],[⟨[],[0],[],2⟩,⟨[0],[1],[],3⟩]⟩
theorem zJp{w:World}{g:Nat}{x:Int}(h0:w.cell? ⟨g,0,none⟩=some (.int .i64 x)):Ints w (some ⟨g,0,none⟩) [x]:=fun j u hu=>by
 cases j with
 |zero=>simp at hu;subst hu;exact⟨_,rfl,h0⟩
 |succ j=>simp at hu
theorem yVm{w:World}{g:Nat}{x y:Int}(h0:w.cell? ⟨g,0,none⟩=some (.int .i64 x))(h1:w.cell? ⟨g,1,none⟩=some (.int .i64 y)):Ints w (some ⟨g,0,none⟩) [x,y]:=fun j u hu=>by
 cases j with
 |zero=>simp at hu;subst hu;exact⟨_,rfl,h0⟩
 |succ j=>
  cases j with
  |zero=>simp at hu;subst hu;exact⟨_,rfl,h1⟩
  |succ j=>simp at hu
theorem yWh{w:World}{g:Nat}{o p:OpV}{A0 A1 A2 B0 B1 B2:Option Addr}{c0 c1 c2 d0 d1 d2:Nat}(h0:w.cell? ⟨g,0,none⟩=some (.slice A0 o.pre.length c0))(h1:w.cell? ⟨g,1,none⟩=some (.slice A1 o.add.length c1))(h2:w.cell? ⟨g,2,none⟩=some (.slice A2 o.del.length c2))(h3:w.cell? ⟨g,3,none⟩=some (.int .i64 o.cost))(hm:OpMem w A0 A1 A2 o)
  (k0:w.cell? ⟨g,4,none⟩=some (.slice B0 p.pre.length d0)) (k1:w.cell? ⟨g,5,none⟩=some (.slice B1 p.add.length d1)) (k2:w.cell? ⟨g,6,none⟩=some (.slice B2 p.del.length d2)) (k3:w.cell? ⟨g,7,none⟩=some (.int .i64 p.cost)) (km:OpMem w B0 B1 B2 p):OpsAt w (some ⟨g,0,none⟩) [o,p]:=fun j u hu=>by
 cases j with
 |zero=>simp at hu;subst hu;exact⟨_,_,_,_,_,_,_,rfl,h0,h1,h2,h3,hm⟩
 |succ j=>
  cases j with
  |zero=>simp at hu;subst hu;exact⟨_,_,_,_,_,_,_,rfl,k0,k1,k2,k3,km⟩
  |succ j=>simp at hu
end
section
def xZe(ops:List OpV)(p:Int)(k:Nat):Bool:=match ops[k]? with|some o=>!decide (p∈o.add)|none=>true
theorem zK7{ops:List OpV}{p:Int}{k:Nat}{o:OpV}(h:ops[k]? = some o):xZe ops p k = !decide (p∈o.add):=by unfold xZe;rw[h]
def uXe(n:Nat)(t:TaskV)(p:Int):Prop:=p∈t.init\/¬ ∀q∈t.goal,Reach t.init t.ops (xZe t.ops p) q
noncomputable def xVl(n:Nat)(t:TaskV)(k:Nat):List Int:=((List.range k).filter fun(p:Nat)=>@decide (uXe n t (p:Int)) (Classical.propDecidable _)).map fun(p:Nat)=>(p:Int)
noncomputable def xXd(n:Nat)(t:TaskV):List Int:=xVl n t n
theorem zZz(n:Nat)(t:TaskV)(k:Nat):(xVl n t k).length<=k:=by
 unfold xVl;rw[zQl];exact yJ1 (List.length_filter_le _ _) (by simp)
theorem zQ0{n:Nat}{t:TaskV}{k:Nat}(h:uXe n t (k:Int)):xVl n t k ++ [(k:Int)]=xVl n t (k+1):=by
 unfold xVl;rw[List.range_succ,List.filter_append,vQu];simp[h]
theorem vWn{n:Nat}{t:TaskV}{k:Nat}(h:¬uXe n t (k:Int)):xVl n t (k+1)=xVl n t k:=by
 unfold xVl;rw[List.range_succ,List.filter_append,vQu];simp[h]
theorem xKm{n:Nat}{t:TaskV}{x:Int}:x∈xXd n t↔0<=x/\x<(n:Int)/\uXe n t x:=by
 unfold xXd xVl;rw[vWz];constructor
 ·rintro⟨p,hp,rfl⟩;rw[List.mem_filter,yYq] at hp;exact⟨by omega,by omega,(@decide_eq_true_iff _ (Classical.propDecidable _)).1 hp.2⟩
 ·rintro⟨h0,h1,h2⟩;refine⟨x.toNat,?_,by omega⟩;rw[List.mem_filter,yYq];exact⟨by omega,(@decide_eq_true_iff _ (Classical.propDecidable _)).2 (by rw[yZx h0];exact h2)⟩
theorem vWo{n:Nat}{t:TaskV}:SetP (xXd n t) (n:Int):=by
 refine SetP.of_pairwise (fun x hx=>⟨(xKm.1 hx).1,(xKm.1 hx).2.1⟩) ?_;unfold xXd xVl;rw[List.pairwise_map];exact(List.pairwise_lt_range.filter _).imp (fun h=>by omega)
theorem zK8(n:Nat)(t:TaskV):(xXd n t).length<=n:=zZz n t n
theorem yKp{t:TaskV}{n:Nat}(hv:Valid t)(hn:t.facts=n):∀p∈t.init,0<=p/\p<(n:Int):=fun p hp=>by
 have:=hv.init.1 p hp;rw[hn] at this;exact this
theorem xV9{n:Nat}{st:List Int}{ops:List OpV}{use:Nat->Bool}{xs:List Int}(h:∀x∈xs,0<=x/\x<(n:Int)):yJa (xYv n st ops use) xs↔∀x∈xs,Reach st ops use x:=by
 constructor
 ·intro ha x hx;have h1:=h x hx;have h2:=(xWr (n:=n) (st:=st) (ops:=ops) (use:=use) (p:=x.toNat) (by omega)).1 (ha x hx);rw[yZx h1.1] at h2;exact h2
 ·intro ha x hx;have h1:=h x hx;refine(xWr (n:=n) (p:=x.toNat) (by omega)).2 ?_;rw[yZx h1.1];exact ha x hx
theorem zK9(w:World)(t:TaskV)(Ai Ag Ao:Option Addr)(ci cg co:Nat)(hT:TaskMem w Ai Ag Ao t)(b d:Nat)(p:Int)(k:Nat)(hk:k<t.ops.length)(hb3:w.cell? ⟨b,3,none⟩=some (.slice Ao t.ops.length co))(hd0:w.cell? ⟨d,0,none⟩=some (.int .i64 p)) :
  Calls prog 176 #[.int .i64 k,.pointer (some ⟨b,0,none⟩),.pointer (some ⟨d,0,none⟩)] w fun e w'=>e=.returned (.bool (xZe t.ops p k))/\Below w.heap.size w w':=by
 have hki:(k:Int)<(t.ops.length:Int):=by omega
 have hk0:(0:Int)<=(k:Int):=by omega
 obtain⟨ad,o,A0,c0,A1,c1,A2,c2,rfl,ho,hc0,hc1,hc2,hc3,hm⟩:=hT.ops.at_ hk;have hla:=hm.ladd.le;have HU:=lHd (zK7 (p:=p) ho.out)
 cases hd2:decide (p∈o.add)
 all_goals
  have HD:=lHd hd2;clear hd2;go_enter func176,ntmps176
  go_wp2_with fail
  go_region_held3 (fun W=>W.cell? ⟨b,3,none⟩=some (.slice (some ad) t.ops.length co)/\W.cell? ⟨d,0,none⟩=some (.int .i64 p)/\W.cell? ⟨(ad.add (k*4)).block,(ad.add (k*4)).off+1,none⟩=some (.slice A1 o.add.length c1)) (first|exact hK|go_keep) (first|(go_at_call 67;refine(zKv _ _ _ _ _ (hm.add.below bch) hla).mono ?_;rintro e w1 ⟨he,hB⟩;rw[HD.out] at he;subst he;have D1:=xJ3 w hB bch;have hK:w1.cell? ⟨b,3,none⟩=some (.slice (some ad) t.ops.length co)/\w1.cell? ⟨d,0,none⟩=some (.int .i64 p)/\w1.cell? ⟨(ad.add (k*4)).block,(ad.add (k*4)).off+1,none⟩=some (.slice A1 o.add.length c1):=⟨(D1.cell (zQ2 w _ hb3)).trans hb3,(D1.cell (zQ2 w _ hd0)).trans hd0,(D1.cell (zQ2 w _ hc1)).trans hc1⟩))
  go_wp2;go_ret;exact⟨xX0 (by rw[HU.out,HD.out];rfl),D1⟩
theorem zV8(w:World)(t:TaskV)(Ai Ag Ao:Option Addr)(ci cg co:Nat)(hT:TaskMem w Ai Ag Ao t)(b d:Nat)(p:Int)(hb3:w.cell? ⟨b,3,none⟩=some (.slice Ao t.ops.length co))(hd0:w.cell? ⟨d,0,none⟩=some (.int .i64 p)) :
  Uses 176 #[.pointer (some ⟨b,0,none⟩),.pointer (some ⟨d,0,none⟩)] (xZe t.ops p) t.ops.length w:=
 ⟨fun args w=>by kernel_rfl,fun k wr hk hB=>zK9 wr t Ai Ag Ao ci cg co (hT.below hB) b d p k hk ((hB.cell (zQ2 w _ hb3)).trans hb3) ((hB.cell (zQ2 w _ hd0)).trans hd0)⟩
theorem xK6(w:World)(t:TaskV)(Ai Ag Ao:Option Addr)(ci cg co:Nat)(hT:TaskMem w Ai Ag Ao t)(n:Nat)(hn:t.facts=n)(hv:Valid t)(p:Int) :
  Calls prog 120 #[.agg #[.int .i64 t.facts,.slice Ai t.init.length ci,.slice Ag t.goal.length cg,.slice Ao t.ops.length co],.int .i64 p] w fun e w'=>∃g,e=.returned (.slice (some ⟨g,0,none⟩) n n)/\w.heap.size<=g/\BArr w' g (xYv n t.init t.ops (xZe t.ops p))/\Below w.heap.size w w':=by
 have HN:=lHd hn;have hn24:n<=1000000000000:=by have:=hv.f1;omega
 have HST:=lHd (yKp hv hn);have HOPS:=lHd (xYx hv hn);clear hv hn;go_enter func120,ntmps120
 go_wp2_with fail
 refine(yXo _ _ _ _ _ _ _ _ (hT.below bch) n HN.out hn24 _ _ _ (hT.init.below bch) hT.linit HST.out HOPS.out _ _ _ (zV8 _ t Ai Ag Ao ci cg co (hT.below bch) w.heap.size (w.heap.size+1) p (by simp[go_sem]) (by simp[go_sem]))).mono ?_;rintro e w1 ⟨g1,rfl,hg1,hA1,hB1⟩;have D1:=xJ3 w hB1 bch;have C1:=Cls.below (l:=[(w.heap.size,0,.int .i64 t.facts),(w.heap.size,1,.slice Ai t.init.length ci),(w.heap.size,2,.slice Ag t.goal.length cg),(w.heap.size,3,.slice Ao t.ops.length co),(w.heap.size+1,0,.int .i64 p)]) hB1 (by simp[Cls,go_sem]);have y1w1:=C1.b 4;go_wp2;go_ret;exact⟨_,rfl,by simp at hg1;omega,hA1,bch⟩
def zXe(l:List Int)(k:Nat):Bool:=!decide ((k:Int)∈l)
theorem zKa(w:World)(t:TaskV)(Ai Ag Ao:Option Addr)(ci cg co:Nat)(hT:TaskMem w Ai Ag Ao t)(n:Nat)(hn:t.facts=n)(hv:Valid t) :
  Calls prog 63 #[.agg #[.int .i64 t.facts,.slice Ai t.init.length ci,.slice Ag t.goal.length cg,.slice Ao t.ops.length co]] w fun e w'=>∃v,e=.returned v/\OwnI w.heap.size w' v (xXd n t)/\Below w.heap.size w w':=by
 have HV:=lHd hv;have HN:=lHd hn;have hn24:n<=24:=by have:=hv.f1;omega
 have HGOAL:=lHd (zZ7 hv hn);have hli:=hT.linit.le;have hlg:=hT.lgoal;have hn12:n<=1000000000000:=by omega
 clear hv hn;go_enter func63,ntmps63
 go_wp2_with fail
 go_loopw [3,7] (fun v i wr=>∃k:Nat,k<=n/\i=.int .i64 k/\OwnI (w.heap.size+1) wr v (xVl n t k)/\Below w.heap.size w wr/\Cls wr [(w.heap.size,0,.int .i64 t.facts),(w.heap.size,1,.slice Ai t.init.length ci),(w.heap.size,2,.slice Ag t.goal.length cg),(w.heap.size,3,.slice Ao t.ops.length co)]) (fun _ i _=>n-(intOf i).toNat)
 case atStart=>exact⟨0,zKk _,rfl,OwnI.nil _ _,bch,(by simp[Cls,go_sem])⟩
 case round=>
  obtain⟨k,hk,rfl,hown,hBr,hCr⟩:=hrel;obtain⟨w2,rfl⟩:∃wo:World,wo=wr:=⟨_,rfl⟩;have drs:=hBr.size;have Fr:=hCr.f;have yrw0:=hCr.blk (b:=w.heap.size) (k:=0) (v:=.int .i64 t.facts) (by simp)
  by_cases hlt:k<n
  ·have hltf:(k:Int)<t.facts:=by have:=HN.out;omega
   have hlen:=Nat.lt_of_le_of_lt (zZz n t k) (show k<1000000000000 by omega)
   cases hd:decide ((k:Int)∈t.init) with
   |true=>
    have HD:=lHd hd;have HL:=lHd (zQ0 (n:=n) (t:=t) (k:=k) (.inl (by simpa using hd)));clear hd
    go_wp2_with fail
    go_quiet ((go_at_call 67;exact Calls.quiet_of_same (xJ9 _ _ _ _ _ true (hT.init.below bch) hli HD.out)))
    go_wp2_with (at_builtin;go_must (refine xXr rfl (.tmp 23) (.tmp 25) rfl w [(w.heap.size,0,.int .i64 t.facts),(w.heap.size,1,.slice Ai t.init.length ci),(w.heap.size,2,.slice Ag t.goal.length cg),(w.heap.size,3,.slice Ao t.ops.length co)] (w.heap.size+1) u3 _ ((k:Int)) rfl (OwnI.below hown ?p1) ⟨w2.heap.size,0,none⟩ 1 rfl ?p2 hlen ?p3 ?p4 ?p5 ?p6 ?p7 ?_;(case p1=>exact bch);(case p2=>(first|simp[Cls,go_sem,Fr,yrw0]|exact xQe _ _ _ _ rfl));(case p3=>(first|omega|(simp<;>omega)));(case p4=>(first|omega|(simp<;>omega)));(case p5=>exact bch);(case p6=>exact Cls.below (w:=w2) bch hCr);(case p7=>(simp<;>omega));intro v1 w1 o1 D1 C1 sz1;have d1s:=D1.size;have F1:=C1;simp only[Cls,and_true] at F1;have y1w0:w.heap.size<w1.heap.size:=C1.blk (b:=w.heap.size) (k:=0) (v:=.int .i64 t.facts) (by simp);have y1wp1:w.heap.size<w1.heap.size+1:=(by omega);have y1wp2:w.heap.size<w1.heap.size+1+1:=(by omega)))
    go_roundw
    case rel=>exact⟨k+1,by omega,by go_num,by rw[<- HL.out];exact o1,bch,(by simp[Cls,go_sem,F1])⟩
    case measure=>simp[intOf];omega
   |false=>
    have HD:=lHd hd;have HNI:=lHd (show ¬(k:Int)∈t.init by simpa using hd);clear hd;have hcl:=xYk n t.init t.ops (xZe t.ops k)
    by_cases hall:∀q∈t.goal,Reach t.init t.ops (xZe t.ops k) q
    ·have HAll:=lHd hall;clear hall;have HL:=lHd (vWn (n:=n) (t:=t) (k:=k) (fun h=>h.elim HNI.out (fun h=>h HAll.out)))
     go_wp2_with fail
     go_region_held3 (fun W=>W.cell? ⟨w.heap.size,0,none⟩=some (.int .i64 t.facts)/\W.cell? ⟨w.heap.size,1,none⟩=some (.slice Ai t.init.length ci)/\W.cell? ⟨w.heap.size,2,none⟩=some (.slice Ag t.goal.length cg)/\W.cell? ⟨w.heap.size,3,none⟩=some (.slice Ao t.ops.length co)) (first|exact hK|go_keep) (first|(go_at_call 67;refine(xJ9 _ _ _ _ _ false (hT.init.below bch) hli HD.out).mono ?_;rintro e w9 ⟨rfl,rfl⟩)|(go_at_call 120;refine(xK6 _ t Ai Ag Ao ci cg co (hT.below bch) n HN.out HV.out (k:Int)).mono ?_;rintro e w3 ⟨g3,rfl,hg3,hA3,hB3⟩;have D3:=xJ3 w hB3 bch;have E3:=xJ3 w2 hB3 bch;have C3:=Cls.below (l:=[(w.heap.size,0,.int .i64 t.facts),(w.heap.size,1,.slice Ai t.init.length ci),(w.heap.size,2,.slice Ag t.goal.length cg),(w.heap.size,3,.slice Ao t.ops.length co)]) hB3 (by simp[Cls,go_sem,Fr]);have F3:=C3;simp only[Cls,and_true] at F3;have hK:w3.cell? ⟨w.heap.size,0,none⟩=some (.int .i64 t.facts)/\w3.cell? ⟨w.heap.size,1,none⟩=some (.slice Ai t.init.length ci)/\w3.cell? ⟨w.heap.size,2,none⟩=some (.slice Ag t.goal.length cg)/\w3.cell? ⟨w.heap.size,3,none⟩=some (.slice Ao t.ops.length co):=(by simp[F3]))|(go_at_call 119;refine(zQc _ _ _ _ n _ _ _ hA3.bools (hT.goal.below D3) hcl hlg hn12 HGOAL.out true (by rw[xV9 HGOAL.out];exact⟨fun _=>HAll.out,fun _=>rfl⟩)).mono ?_;rintro e w4 ⟨rfl,hB4⟩;have D4:=xJ3 w hB4 bch;have E4:=xJ3 w2 hB4 bch;have C4:=C3.below hB4;have F4:=C4;simp only[Cls,and_true] at F4;have hK:w4.cell? ⟨w.heap.size,0,none⟩=some (.int .i64 t.facts)/\w4.cell? ⟨w.heap.size,1,none⟩=some (.slice Ai t.init.length ci)/\w4.cell? ⟨w.heap.size,2,none⟩=some (.slice Ag t.goal.length cg)/\w4.cell? ⟨w.heap.size,3,none⟩=some (.slice Ao t.ops.length co):=(by simp[F4])))
     have F4:=C4.f;have y4w0:=C4.blk (b:=w.heap.size) (k:=0) (v:=.int .i64 t.facts) (by simp);go_wp2
     go_roundw
     case rel=>exact⟨k+1,by omega,by go_num,by rw[HL.out];exact hown.below bch,bch,(by simp[Cls,go_sem,F4])⟩
     case measure=>simp[intOf];omega
    ·have HAll:=lHd hall;clear hall;have HL:=lHd (zQ0 (n:=n) (t:=t) (k:=k) (.inr HAll.out))
     go_wp2_with fail
     go_region_held3 (fun W=>W.cell? ⟨w.heap.size,0,none⟩=some (.int .i64 t.facts)/\W.cell? ⟨w.heap.size,1,none⟩=some (.slice Ai t.init.length ci)/\W.cell? ⟨w.heap.size,2,none⟩=some (.slice Ag t.goal.length cg)/\W.cell? ⟨w.heap.size,3,none⟩=some (.slice Ao t.ops.length co)) (first|exact hK|go_keep) (first|(go_at_call 67;refine(xJ9 _ _ _ _ _ false (hT.init.below bch) hli HD.out).mono ?_;rintro e w9 ⟨rfl,rfl⟩)|(go_at_call 120;refine(xK6 _ t Ai Ag Ao ci cg co (hT.below bch) n HN.out HV.out (k:Int)).mono ?_;rintro e w3 ⟨g3,rfl,hg3,hA3,hB3⟩;have D3:=xJ3 w hB3 bch;have E3:=xJ3 w2 hB3 bch;have C3:=Cls.below (l:=[(w.heap.size,0,.int .i64 t.facts),(w.heap.size,1,.slice Ai t.init.length ci),(w.heap.size,2,.slice Ag t.goal.length cg),(w.heap.size,3,.slice Ao t.ops.length co)]) hB3 (by simp[Cls,go_sem,Fr]);have F3:=C3;simp only[Cls,and_true] at F3;have hK:w3.cell? ⟨w.heap.size,0,none⟩=some (.int .i64 t.facts)/\w3.cell? ⟨w.heap.size,1,none⟩=some (.slice Ai t.init.length ci)/\w3.cell? ⟨w.heap.size,2,none⟩=some (.slice Ag t.goal.length cg)/\w3.cell? ⟨w.heap.size,3,none⟩=some (.slice Ao t.ops.length co):=(by simp[F3]))|(go_at_call 119;refine(zQc _ _ _ _ n _ _ _ hA3.bools (hT.goal.below D3) hcl hlg hn12 HGOAL.out false (by rw[xV9 HGOAL.out];exact⟨fun h=>(by cases h),fun h=>absurd h HAll.out⟩)).mono ?_;rintro e w4 ⟨rfl,hB4⟩;have D4:=xJ3 w hB4 bch;have E4:=xJ3 w2 hB4 bch;have C4:=C3.below hB4;have F4:=C4;simp only[Cls,and_true] at F4;have hK:w4.cell? ⟨w.heap.size,0,none⟩=some (.int .i64 t.facts)/\w4.cell? ⟨w.heap.size,1,none⟩=some (.slice Ai t.init.length ci)/\w4.cell? ⟨w.heap.size,2,none⟩=some (.slice Ag t.goal.length cg)/\w4.cell? ⟨w.heap.size,3,none⟩=some (.slice Ao t.ops.length co):=(by simp[F4])))
     have F4:=C4.f;have y4w0:=C4.blk (b:=w.heap.size) (k:=0) (v:=.int .i64 t.facts) (by simp);have hown4:=hown.below E4
     go_wp2_with (at_builtin;go_must (refine xXr rfl (.tmp 23) (.tmp 25) rfl w [(w.heap.size,0,.int .i64 t.facts),(w.heap.size,1,.slice Ai t.init.length ci),(w.heap.size,2,.slice Ag t.goal.length cg),(w.heap.size,3,.slice Ao t.ops.length co)] (w.heap.size+1) u3 _ ((k:Int)) rfl (OwnI.below hown4 ?p1) ⟨w4.heap.size,0,none⟩ 1 rfl ?p2 hlen ?p3 ?p4 ?p5 ?p6 ?p7 ?_;(case p1=>exact bch);(case p2=>simp[go_sem]);(case p3=>(first|omega|(simp<;>omega)));(case p4=>(first|omega|(simp<;>omega)));(case p5=>exact bch);(case p6=>simp[Cls,go_sem,F4,y4w0]);(case p7=>(simp<;>omega));intro v5 w5 o5 D5 C5 sz5;have d5s:=D5.size;have F5:=C5;simp only[Cls,and_true] at F5;have y5w0:w.heap.size<w5.heap.size:=C5.blk (b:=w.heap.size) (k:=0) (v:=.int .i64 t.facts) (by simp);have y5wp1:w.heap.size<w5.heap.size+1:=(by omega);have y5wp2:w.heap.size<w5.heap.size+1+1:=(by omega)))
     go_roundw
     case rel=>exact⟨k+1,by omega,by go_num,by rw[<- HL.out];exact o5,bch,(by simp[Cls,go_sem,F5])⟩
     case measure=>simp[intOf];omega
  ·have hltf:¬(k:Int)<t.facts:=by have:=HN.out;omega
   obtain rfl:k=n:=by omega
   go_wp2;go_ret;exact⟨_,rfl,OwnI.mono hown (by omega),bch⟩
theorem yQp(w:World)(t:TaskV)(Ai Ag Ao:Option Addr)(ci cg co:Nat)(hT:TaskMem w Ai Ag Ao t)(n:Nat)(hn:t.facts=n)(hv:Valid t) :
  Calls prog 21 #[.agg #[.int .i64 t.facts,.slice Ai t.init.length ci,.slice Ag t.goal.length cg,.slice Ao t.ops.length co]] w fun e w'=>∃v,e=.returned (.tuple #[v,.agg #[.int .i64 0,.int .i64 0]])/\OwnI w.heap.size w' v (xXd n t)/\Below w.heap.size w w':=by
 have HT0:=lHd (xZ9 hv);have HN:=lHd hn;have HV:=lHd hv;clear hv hn;go_enter func21,ntmps21
 go_wp2_with fail
 refine(xXq _ _ _ _ _ _ _ _ (hT.below bch)).mono ?_;rintro e w1 ⟨he,hB1⟩;rw[HT0.out] at he;subst he;have D1:=xJ3 w hB1 bch;have d1s:=D1.size;have C1:=Cls.below (l:=[(w.heap.size,0,.int .i64 t.facts),(w.heap.size,1,.slice Ai t.init.length ci),(w.heap.size,2,.slice Ag t.goal.length cg),(w.heap.size,3,.slice Ao t.ops.length co),(w.heap.size+1,0,.int .i64 0),(w.heap.size+1,1,.int .i64 0)]) hB1 (by simp[Cls,go_sem]);have F1:=C1.f;have y1w1:=C1.b 4;have y1w0:w.heap.size<w1.heap.size:=(by omega);have hne1:¬w.heap.size+1=w1.heap.size:=by omega
 go_wp2_with fail
 go_region_held3 (fun W=>W.cell? ⟨w.heap.size,0,none⟩=some (.int .i64 t.facts)/\W.cell? ⟨w.heap.size,1,none⟩=some (.slice Ai t.init.length ci)/\W.cell? ⟨w.heap.size,2,none⟩=some (.slice Ag t.goal.length cg)/\W.cell? ⟨w.heap.size,3,none⟩=some (.slice Ao t.ops.length co)/\W.cell? ⟨w1.heap.size,0,none⟩=some (.int .i64 0)/\W.cell? ⟨w1.heap.size,1,none⟩=some (.int .i64 0)) (first|exact hK|go_keep) (first|(go_at_call 63;refine(zKa _ t Ai Ag Ao ci cg co (hT.below bch) n HN.out HV.out).mono ?_;rintro e w2 ⟨v2,rfl,ho2,hB2⟩;have D2:=xJ3 w hB2 bch;have C2:=Cls.below (l:=[(w.heap.size,0,.int .i64 t.facts),(w.heap.size,1,.slice Ai t.init.length ci),(w.heap.size,2,.slice Ag t.goal.length cg),(w.heap.size,3,.slice Ao t.ops.length co),(w.heap.size+1,0,.int .i64 0),(w.heap.size+1,1,.int .i64 0),(w1.heap.size,0,.int .i64 0),(w1.heap.size,1,.int .i64 0)]) hB2 (by simp[Cls,go_sem,F1,y1w1,y1w0]);have F2:=C2;simp only[Cls,and_true] at F2;have hK:w2.cell? ⟨w.heap.size,0,none⟩=some (.int .i64 t.facts)/\w2.cell? ⟨w.heap.size,1,none⟩=some (.slice Ai t.init.length ci)/\w2.cell? ⟨w.heap.size,2,none⟩=some (.slice Ag t.goal.length cg)/\w2.cell? ⟨w.heap.size,3,none⟩=some (.slice Ao t.ops.length co)/\w2.cell? ⟨w1.heap.size,0,none⟩=some (.int .i64 0)/\w2.cell? ⟨w1.heap.size,1,none⟩=some (.int .i64 0):=(by simp[F2]);have hq2:=C2.blk (b:=w1.heap.size) (k:=0) (v:=.int .i64 0) (by simp)))
 all_goals
  go_wp2;refine bodyPost_ret (v:=.tuple #[v2,.agg #[.int .i64 0,.int .i64 0]]) ?_ rfl ⟨_,rfl,?_,bch⟩
  ·simp[results,results21,go_sem,F2]
  ·refine OwnI.mono (base:=w1.heap.size) ?_ (by omega);have ho3:=OwnI.mono (base':=w1.heap.size) ho2 (by simp)
   repeat (first|with_reducible exact ho3|(with_reducible refine OwnI.far ?_ ?_ _;rotate_left;(first|omega|(simp;omega))))
end
