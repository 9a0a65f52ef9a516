/-
  Lemmas for the law: ME, Bf1, MF, MG.
-/
import Derived.Test.YtpeipeljmapkmaaGreatU3
import Derived.Test.YtpeipeljmapkmaaGreatU1
set_option linter.unusedVariables false
set_option linter.unusedSimpArgs false
set_option maxRecDepth 100000
set_option maxHeartbeats 4000000
namespace Go.Proofs.YtpeipeljmapkmaaGreat
open Go.RowKit
section
def Combines(G:FuncId)(s:Bool):Prop:=xY9 G/\∀ (A B:Option Addr) (c d:Nat) (vs xs:List Int) (w:World),Ints w A vs->Ints w B xs->xs.length<=9223372036854775807->vs.length<=9223372036854775807->(∀ x∈xs,0<=x/\x < vs.length)->xZr vs ->
  Calls Tryz.prog G #[.slice A vs.length c,.slice B xs.length d] w fun e w'=>e=.returned (.int .i64 (xJp s vs xs))/\w=w'
theorem Combines.at_{G:FuncId}{s:Bool}(h:Combines G s)(A B:Option Addr)(c d m:Nat)(vs xs:List Int)(w:World)(h1:Ints w A vs)(h2:Ints w B xs)(hm:vs.length=m)(h3:lenOk xs.length)(h4:m<=1000000000000)(h5:∀ x∈xs,0<=x/\x < (m:Int))(h6:xZr vs) :
  Calls Tryz.prog G #[.slice A m c,.slice B xs.length d] w fun e w'=>e=.returned (.int .i64 (xJp s vs xs))/\w'=w:=by
 subst hm;exact (h.2 A B c d vs xs w h1 h2 h3.le (by omega) h5 h6).mono fun _ _ h=>⟨h.1,h.2.symm⟩
theorem xZe:Combines 154 false:=⟨fun args w=>by kernel_rfl,fun A B c d vs xs w h1 h2 h3 h4 h5 h6=>xY2 A B c d vs xs w h1 h2 h3 h4 h5 h6⟩
theorem zK5(w:World)(t:TaskV)(Ai Ag Ao:Option Addr)(ci cg co:Nat)(hT:TaskMem w Ai Ag Ao t)(n:Nat)(hn:t.facts=n)(hn24:n<=1000000000000)(S:Option Addr)(cs:Nat)(st:List Int)(hS:Ints w S st)(hls:lenOk st.length)(hst:∀ p∈st,0<=p/\p < (n:Int))(C:Option Addr)(cc:Nat)(cost:List Int)(hC:Ints w C cost)(hlc:cost.length=t.ops.length)(hcv:xZr cost)(hops:∀ o∈t.ops,(∀ p∈o.pre,0<=p/\p < (n:Int))/\∀ p∈o.add,0<=p/\p < (n:Int))(G:FuncId)(s:Bool)(hG:Combines G s) :
  Calls Tryz.prog 173 #[.agg #[.int .i64 t.facts,.slice Ai t.init.length ci,.slice Ag t.goal.length cg,.slice Ao t.ops.length co],.slice S st.length cs,.slice C cost.length cc,.func (.func G) #[] #[]] w fun e w'=>∃ g,e=.returned (.slice (some ⟨g,0,none⟩) n n)/\w.heap.size<=g/\IArr w' g (xJg s n st t.ops cost)/\Best s n st t.ops cost (xJg s n st t.ops cost)/\Below w.heap.size w w':=by
 have hls':=hls.le;have hlo:=hT.lops.le;have hn':=hn;rw[hn];have hmk:=vJv n hn24;have hE:=hG.1;have hE':∀ (args:Array Value) (w:World),(callFunc G args).run Tryz.prog w=.ok (.enter G args) w:=hE;clear hE;have HST:=lHd hst;have HCV:=lHd hcv;have HOPS:=lHd hops;have HLC:=lHd hlc;clear hst hcv hops hlc;go_enter Tryz.func173,Tryz.ntmps173
 go_wp2_with fail
 go_loopw [24] (fun i wr=>∃ k:Nat,k<=n/\i=.int .i64 k/\IArr wr (w.heap.size+1) (List.replicate k 1000000000 ++ List.replicate (n - k) 0)/\Below w.heap.size w wr/\Cls wr [(w.heap.size,0,.int .i64 (n:Int)),(w.heap.size,1,.slice Ai t.init.length ci),(w.heap.size,2,.slice Ag t.goal.length cg),(w.heap.size,3,.slice Ao t.ops.length co)]) (fun i _=>n - (intOf i).toNat)
 case atStart=>
  refine⟨0,Nat.zero_le _,rfl,?_,bch,(by simp[Cls,go_sem])⟩;rw[vXb];exact IArr.made _ _ _ (by simp)
 case round=>
  obtain⟨k,hk,rfl,hA,hBr,hCr⟩:=hrel;have drs:=hBr.size;have Fr:=hCr;simp only[Cls,and_true] at Fr;have yrw0:w.heap.size < wr.heap.size:=hCr.blk (b:=w.heap.size) (k:=0) (v:=.int .i64 (n:Int)) (by simp);have yrwp1:w.heap.size < wr.heap.size+1:=(by omega);have yrwp2:w.heap.size < wr.heap.size+1+1:=(by omega)
  by_cases hlt:k < n
  ·obtain⟨x,hx,hc,hf⟩:=hA.cell (i:=k) (by rw[zVo hk];exact hlt);have hlen:=zVo hk (1000000000:Int) 0;go_wp2
   go_roundw
   case rel=>
    refine⟨k+1,by omega,by go_num,?_,bch,(by simp[Cls,go_sem,Fr,yrw0,yrwp1,yrwp2])⟩;rw[<- vXc hlt];exact hA.set_ k _
   case measure=>simp[intOf];omega
  ·rw[vQm hlt hk,<- vX9] at hA;obtain⟨w1,rfl⟩:∃ wo:World,wo=wr:=⟨_,rfl⟩
   go_wp2_with fail
   go_loopg [33] (st.length) (fun gk i wr=>∃ k:Nat,Hid (k+gk=st.length)/\i=.int .i64 k/\IArr wr (w.heap.size+1) (zJu n (st.take k))/\Below w.heap.size w wr/\Cls wr [(w.heap.size,0,.int .i64 (n:Int)),(w.heap.size,1,.slice Ai t.init.length ci),(w.heap.size,2,.slice Ag t.goal.length cg),(w.heap.size,3,.slice Ao t.ops.length co)])
   case atStart=>exact⟨0,lHd (by omega),rfl,by simpa using hA,bch,(by simp[Cls,go_sem,Fr,yrw0,yrwp1,yrwp2])⟩
   case round=>
    obtain⟨k,hk,rfl,hA,hBq,hCq⟩:=hrel;have dqs:=hBq.size;have Fq:=hCq;simp only[Cls,and_true] at Fq;have yqw0:w.heap.size < wr.heap.size:=hCq.blk (b:=w.heap.size) (k:=0) (v:=.int .i64 (n:Int)) (by simp);have yqwp1:w.heap.size < wr.heap.size+1:=(by omega);have yqwp2:w.heap.size < wr.heap.size+1+1:=(by omega)
    by_cases hlt:k < st.length
    ·obtain⟨sd,x,rfl,hx,hc⟩:=(hS.below hBq).at_ hlt;obtain⟨x0,x1⟩:=HST.out x (lMg hx.out);have hlen:=zZk n (st.take k);obtain⟨y,hy,hd,hf⟩:=hA.cell (i:=x.toNat) (by omega);have hk1:=lHd (show k+1+(gk - 1)=st.length/\gk - 1 < gk by have:=hk.out;omega);go_wp2
     go_roundg (gk - 1)
     case measure=>exact hk1.out.2
     case rel=>
      refine⟨k+1,lHd hk1.out.1,by go_num,?_,bch,(by simp[Cls,go_sem,Fq,yqw0,yqwp1,yqwp2])⟩;rw[zKi hx.out];exact hA.set_ _ _
    ·rw[List.take_of_length_le (by omega),vQl HST.out] at hA;obtain⟨w2,rfl⟩:∃ wo:World,wo=wr:=⟨_,rfl⟩
     go_wp2_with fail
     go_loopg [13] (2 * xZg (zZj n st)+1) (fun gk ch wr=>∃ (V:List Int) (b:Bool),ch=.bool b/\Hid (gk=2 * xZg V+b.toNat)/\IArr wr (w.heap.size+1) V/\Above s n st t.ops cost V/\Hid (b=false->xXp s t.ops cost t.ops.length V)/\Below w.heap.size w wr/\Cls wr [(w.heap.size,0,.int .i64 (n:Int)),(w.heap.size,1,.slice Ai t.init.length ci),(w.heap.size,2,.slice Ag t.goal.length cg),(w.heap.size,3,.slice Ao t.ops.length co)])
     case atStart=>exact⟨_,true,rfl,lHd rfl,hA,xKn HST.out,lHd (fun h=>by cases h),bch,(by simp[Cls,go_sem,Fq,yqw0,yqwp1,yqwp2])⟩
     case round=>
      obtain⟨V0,b,rfl,hgk,hA0,hV0,hcl,hBp,hCp⟩:=hrel;obtain⟨g3,rfl⟩:∃ g:Nat,g=gk:=⟨_,rfl⟩;obtain⟨w3,rfl⟩:∃ wo:World,wo=wr:=⟨_,rfl⟩
      cases b with
      | false=>
       have hB:=zQj hV0 (hcl.out rfl);have e:=zJs hB;rw[e] at hB hA0;have hB':=lHd hB;clear e hB hV0 hcl
       skip
       have Fp:=hCp;simp only[Cls,and_true] at Fp;have ypw0:w.heap.size < w3.heap.size:=hCp.blk (b:=w.heap.size) (k:=0) (v:=.int .i64 (n:Int)) (by simp);go_wp2;go_ret;exact⟨_,rfl,by omega,hA0,hB'.out,hBp⟩
      | true=>
       have Fp:=hCp;simp only[Cls,and_true] at Fp;have ypw0:w.heap.size < w3.heap.size:=hCp.blk (b:=w.heap.size) (k:=0) (v:=.int .i64 (n:Int)) (by simp)
       go_wp2_with fail
       go_loopg [13,45] (t.ops.length) (fun gk ch i wr=>∃ (V:List Int) (b:Bool) (k:Nat),ch=.bool b/\i=.int .i64 k/\Hid (k+gk=t.ops.length)/\IArr wr (w.heap.size+1) V/\Above s n st t.ops cost V/\Hid (b=true->xZg V < xZg V0)/\Hid (b=false->xZg V<=xZg V0/\xXp s t.ops cost k V)/\Below w.heap.size w wr/\Cls wr [(w.heap.size,0,.int .i64 (n:Int)),(w.heap.size,1,.slice Ai t.init.length ci),(w.heap.size,2,.slice Ag t.goal.length cg),(w.heap.size,3,.slice Ao t.ops.length co)])
       case atStart=>exact⟨V0,false,0,rfl,rfl,lHd (by omega),hA0,hV0,lHd (fun h=>by cases h),lHd (fun _=>⟨Nat.le_refl _,zJw⟩),bch,(by simp[Cls,go_sem,Fp,ypw0])⟩
       case round=>
        obtain⟨V1,b1,k,rfl,rfl,hk,hA1,hV1,ht1,hf1,hBs,hCs⟩:=hrel;obtain⟨g4,rfl⟩:∃ g:Nat,g=gk:=⟨_,rfl⟩;obtain⟨w4,rfl⟩:∃ wo:World,wo=wr:=⟨_,rfl⟩;have Fs:=hCs;simp only[Cls,and_true] at Fs;have ysw0:w.heap.size < w4.heap.size:=hCs.blk (b:=w.heap.size) (k:=0) (v:=.int .i64 (n:Int)) (by simp)
        by_cases hlt:k < t.ops.length
        ·obtain⟨ad,o,A0,c0,A1,c1,A2,c2,rfl,ho,hc0,hc1,hc2,hc3,hm⟩:=hT.ops.at2 hBs hlt;have hkc:k < cost.length:=by have:=HLC.out;omega
         obtain⟨cd,cv,rfl,hcx,hcc⟩:=(hC.below hBs).at_ (show k < cost.length by have:=HLC.out;omega);have hcin:=HCV.out cv (lMg hcx.out);have hoo:=lHd (HOPS.out o (lMg ho.out));have hAi:=hA1.ints;have hVl:=hV1.shape.len;have hcomb:=xXc (s:=s) hV1.shape.all o.pre;obtain⟨v,hv⟩:∃ v,Hid (opV s V1 o cv=v):=⟨_,lHd rfl⟩;have hbd:=lHd (zVn hV1 ho.out hcx.out hcin);have hvin:=zVk (s:=s) hV1.shape.all o hcin;rw[hv.out] at hvin hbd;have hcc2:∀ ob:Obj,(w4.alloc ob).cell? (cd.add k)=some (.int .i64 cv):=fun ob=>(((Below.refl _ _).alloc (Nat.le_refl _) _).cell (World.block_lt_of_cell? w4 _ hcc)).trans hcc
         go_wp2_with fail
         refine zZb (by kernel_rfl) (by kernel_rfl) ?_
         repeat still_step
         still_call (hG.at_ _ _ _ _ _ _ _ _ (hAi.below ((Below.refl _ _).alloc (Nat.le_refl _) _).drew) (hm.pre.below bch) hVl hm.lpre hn24 hoo.out.1 hV1.shape.all)
         repeat still_step
         still_call ((vXo _ _ _ hcomb hcin).mono fun _ _ h=>⟨h.1,h.2.symm⟩)
         repeat still_step
         refine wpStill_nil ?_;have hv':xZ7 (xJp s V1 o.pre) cv=v:=hv.out;rw[hv'];have hlc':=hm.ladd.le
         go_wp2_with fail
         go_loopg [13,63] (o.add.length) (fun gk ch i wr=>∃ (V:List Int) (b:Bool) (j:Nat),ch=.bool b/\i=.int .i64 j/\Hid (j+gk=o.add.length)/\IArr wr (w.heap.size+1) V/\Above s n st t.ops cost V/\Hid (b=true->xZg V < xZg V0)/\Hid (b=false->V=V1/\xZg V<=xZg V0/\xXp s t.ops cost k V/\∀ p∈o.add.take j,xJ2 V p<=v)/\Below w.heap.size w wr/\Cls wr [(w.heap.size,0,.int .i64 (n:Int)),(w.heap.size,1,.slice Ai t.init.length ci),(w.heap.size,2,.slice Ag t.goal.length cg),(w.heap.size,3,.slice (some ad) t.ops.length co)])
         case atStart=>exact⟨V1,b1,0,rfl,rfl,lHd (by omega),(hA1.below bch),hV1,ht1,lHd (fun h=>⟨rfl,(hf1.out h).1,(hf1.out h).2,by simp⟩),bch,(by simp[Cls,go_sem,Fs,ysw0])⟩
         case round=>
          obtain⟨V2,b2,j,rfl,rfl,hj,hA2,hV2,ht2,hf2,hBu,hCu⟩:=hrel;obtain⟨w5,rfl⟩:∃ wo:World,wo=wr:=⟨_,rfl⟩;have Fu:=hCu;simp only[Cls,and_true] at Fu;have yuw0:w.heap.size < w5.heap.size:=hCu.blk (b:=w.heap.size) (k:=0) (v:=.int .i64 (n:Int)) (by simp)
          by_cases hlj:j < o.add.length
          ·obtain⟨pd,p,rfl,hp,hpc⟩:=(hm.add.below hBu).at_ hlj;obtain⟨p0,p1⟩:=hoo.out.2 p (lMg hp.out);have hl2:=hV2.shape.len;obtain⟨y,hy,hyc,hyf⟩:=hA2.cell (i:=p.toNat) (by omega);have hj1:=lHd (show j+1+(gk - 1)=o.add.length/\gk - 1 < gk by have:=hj.out;omega);have hpm:=lMg hp.out;have hva:=lHd (xJ9 hy.out);have hab:=fun hlt:v < y=>zZi hV2 hbd.out hpm hvin hy.out hlt
           have hsm:=fun hlt:v < y=>zJt hy.out hvin.1 hlt
           have hab':=lHd hab;have hsm':=lHd hsm;have hpm':=lHd hpm;have hV2':=lHd hV2;clear hab hsm hpm hV2
           by_cases hvy:v < y
           ·have hvy':=lHd hvy;go_wp2
            go_roundg (gk - 1)
            case measure=>exact hj1.out.2
            case rel=>
             refine⟨V2.set p.toNat v,true,j+1,rfl,by go_num,lHd hj1.out.1,hA2.set_ _ _,hab'.out hvy'.out,lHd (fun _=>?_),lHd (fun h=>by cases h),bch,(by simp[Cls,go_sem,Fu,yuw0])⟩;have h1:=hsm'.out hvy'.out
             cases b2 with
             | true=>have:=ht2.out rfl;omega
             | false=>have:=(hf2.out rfl).2.1;omega
           ·have hvy':=lHd hvy;go_wp2
            go_roundg (gk - 1)
            case measure=>exact hj1.out.2
            case rel=>
             refine⟨V2,b2,j+1,rfl,by go_num,lHd hj1.out.1,hA2,hV2'.out,ht2,lHd (fun h=>⟨(hf2.out h).1,(hf2.out h).2.1,(hf2.out h).2.2.1,xJh hp.out (hf2.out h).2.2.2 ?_⟩),bch,(by simp[Cls,go_sem,Fu,yuw0])⟩;rw[hva.out];have:=hvy'.out;omega
          ·have hend:=hj.out;have hk1:=lHd (show k+1+(g4 - 1)=t.ops.length/\g4 - 1 < g4 by have:=hk.out;omega);go_wp2
           go_roundg (g4 - 1)
           case measure=>exact hk1.out.2
           case rel=>
            refine⟨V2,b2,k+1,rfl,by go_num,lHd hk1.out.1,hA2,hV2,ht2,lHd (fun h=>⟨(hf2.out h).2.1,?_⟩),bch,(by simp[Cls,go_sem,Fu,yuw0])⟩;obtain⟨rfl,h2,h3,h4⟩:=hf2.out h;refine zJv h3 ho.out hcx.out ?_;rw[hv.out];exact xJy hlj h4
        ·have hkk:=lHd (show k=t.ops.length by have:=hk.out;omega);go_wp2
         go_roundg (2 * xZg V1+b1.toNat)
         case measure=>
          rw[hgk.out]
          cases b1 with
          | true=>have:=ht1.out rfl;simp;omega
          | false=>have:=(hf1.out rfl).1;simp;omega
         case rel=>exact⟨V1,b1,rfl,lHd rfl,hA1,hV1,lHd (fun h=>by rw[<- hkk.out];exact (hf1.out h).2),bch,(by simp[Cls,go_sem,Fs,ysw0])⟩
theorem ints_at(A B:Option Addr)(c d m:Nat)(xs ys:List Int)(w:World)(hI:Ints w A xs)(hJ:Ints w B ys)(h1:xs.length=m)(h2:ys.length=m)(hl:m<=1000000000000)(v:Bool)(hv:v=decide (xs=ys)) :
  Calls Tryz.prog 32 #[.slice A m c,.slice B m d] w fun e w'=>e=.returned (.bool v)/\Below w.heap.size w w':=by
 have h:=vZy A B c d xs ys w hI hJ (by omega) (by omega);rw[h1,h2] at h;rw[hv];exact h
theorem OwnI.form_at{base n:Nat}{w:World}{v:Value}{xs:List Int}(h:OwnI base w v xs)(hn:xs.length=n):∃ A c,v=.slice A n c/\(A=none->xs=[]/\c=0):=by
 obtain⟨A,c,e,h1,_⟩:=h.form;exact⟨A,c,by rw[e,hn],h1⟩
theorem OwnI.ints_at{base n c:Nat}{w:World}{A:Option Addr}{xs:List Int}(h:OwnI base w (.slice A n c) xs):Ints w A xs:=by
 obtain⟨A',c',e,h1⟩:=h.ints;injection e with e
 rw[e];exact h1
def Lowered(s:Bool)(ops:List OpV)(cs:List Int)(k:Nat)(V V':List Int):Prop:=
 (V'=V\/xZg V' < xZg V)/\∀ (i:Nat) (o:OpV) (c:Int),i < k->ops[i]? = some o->cs[i]? = some c->∀ p∈o.add,xJ2 V' p<=opV s V o c
section
variable {s:Bool}{n:Nat}{st:List Int}{ops:List OpV}{cs V V':List Int}
theorem Lowered.start:Lowered s ops cs 0 V V:=⟨Or.inl rfl,fun i o c hi=>absurd hi (by omega)⟩
theorem Lowered.set_{k:Nat}(h:Lowered s ops cs k V V'){i:Nat}{x y:Int}(hy:V'[i]? = some y)(h0:0<=x)(hlt:x < y):Lowered s ops cs k V (V'.set i x):=by
 have h1:=zJt hy h0 hlt;refine⟨Or.inr ?_,fun j o c hj ho hc p hp=>Int.le_trans (LeV.set_ hy (Int.le_of_lt hlt) p) (h.2 j o c hj ho hc p hp)⟩;rcases h.1 with e | e
 ·rw[<- e];exact h1
 ·omega
theorem Lowered.succ{k:Nat}{o:OpV}{c:Int}(h:Lowered s ops cs k V V')(ho:ops[k]? = some o)(hc:cs[k]? = some c)(h2:∀ p∈o.add,xJ2 V' p<=opV s V o c):Lowered s ops cs (k+1) V V':=by
 refine⟨h.1,fun i o' c' hi ho' hc' p hp=>?_⟩
 by_cases e:i=k
 ·subst e;rw[ho] at ho';injection ho' with ho';subst ho'
  rw[hc] at hc';injection hc' with hc';subst hc'
  exact h2 p hp
 ·exact h.2 i o' c' (by omega) ho' hc' p hp
theorem Lowered.closed(h:Lowered s ops cs ops.length V V):xXp s ops cs ops.length V:=h.2
theorem Lowered.less{k:Nat}(h:Lowered s ops cs k V V')(hne:¬ V'=V):xZg V' < xZg V:=h.1.resolve_left hne
end
theorem zZ8(w:World)(t:TaskV)(Ai Ag Ao:Option Addr)(ci cg co:Nat)(hT:TaskMem w Ai Ag Ao t)(n:Nat)(hn:t.facts=n)(hn24:n<=1000000000000)(S:Option Addr)(cs:Nat)(st:List Int)(hS:Ints w S st)(hls:lenOk st.length)(hst:∀ p∈st,0<=p/\p < (n:Int))(C:Option Addr)(cc m:Nat)(cost:List Int)(hC:Ints w C cost)(hm:m=t.ops.length)(hlc:cost.length=t.ops.length)(hcv:xZr cost)(hops:∀ o∈t.ops,(∀ p∈o.pre,0<=p/\p < (n:Int))/\∀ p∈o.add,0<=p/\p < (n:Int))(G:FuncId)(s:Bool)(hG:Combines G s) :
  Calls Tryz.prog 173 #[.agg #[.int .i64 t.facts,.slice Ai t.init.length ci,.slice Ag t.goal.length cg,.slice Ao t.ops.length co],.slice S st.length cs,.slice C m cc,.func (.func G) #[] #[]] w fun e w'=>∃ g,e=.returned (.slice (some ⟨g,0,none⟩) n n)/\w.heap.size<=g/\IArr w' g (xJg s n st t.ops cost)/\Best s n st t.ops cost (xJg s n st t.ops cost)/\Below w.heap.size w w':=by
 obtain rfl:m=cost.length:=by rw[hm,hlc]
 exact zK5 w t Ai Ag Ao ci cg co hT n hn hn24 S cs st hS hls hst C cc cost hC hlc hcv hops G s hG
theorem vJn{t:TaskV}{n:Nat}(hv:Valid t)(hn:t.facts=n):∀ o∈t.ops,(∀ p∈o.pre,0<=p/\p < (n:Int))/\∀ p∈o.add,0<=p/\p < (n:Int):=fun o ho=>by
 have:=(hv.ops o ho).1;rw[hn] at this;exact⟨this.1.1,this.2.1.1⟩
theorem vJo{t:TaskV}{n:Nat}(hv:Valid t)(hn:t.facts=n):∀ p∈t.goal,0<=p/\p < (n:Int):=fun p hp=>by
 have:=hv.goal.1 p hp;rw[hn] at this;exact this
end
def xJ0:List Int->Int
 | []=>0
 | x :: l=>2 ^ x.toNat+xJ0 l
theorem xQm(l:List Int):0<=xJ0 l:=by
 induction l with
 | nil=>exact Int.le_refl _
 | cons x l ih=>
  have:(0:Int)<=2 ^ x.toNat:=Int.pow_nonneg (by decide);simp only[xJ0];omega
theorem xZ2{n:Nat}:∀ {l:List Int},l.Nodup->(∀ x∈l,0<=x/\x<=(n:Int))->xJ0 l=xJ0 (l.filter fun x=>decide (x < (n:Int)))+(if (n:Int)∈l then 2 ^ n else 0)
 | [],_,_=>by simp[xJ0]
 | x :: l,hd,hx=>by
  obtain⟨hd1,hd2⟩:=List.nodup_cons.1 hd;have ih:=xZ2 (n:=n) hd2 (fun y hy=>hx y (List.mem_cons_of_mem _ hy));have h0:=hx x (List.mem_cons_self ..)
  by_cases e:x=(n:Int)
  ·subst e;rw[if_neg hd1] at ih;rw[List.filter_cons_of_neg (by simp),if_pos (List.mem_cons_self ..)];simp only[xJ0,Int.toNat_natCast];omega
  ·rw[List.filter_cons_of_pos (by simp;omega)];have e2:((n:Int)∈x :: l)↔(n:Int)∈l:=⟨fun h=>by rcases List.mem_cons.1 h with h | h;exact absurd h.symm e;exact h,fun h=>List.mem_cons_of_mem _ h⟩;simp only[xJ0,e2];omega
theorem xQn:∀ (n:Nat) {l:List Int},l.Nodup->(∀ x∈l,0<=x/\x < (n:Int))->xJ0 l < 2 ^ n
 | 0,l,_,hx=>by
  cases l with
  | nil=>simp[xJ0]
  | cons x l=>have:=hx x (List.mem_cons_self ..);omega
 | n+1,l,hd,hx=>by
  have h1:=xZ2 (n:=n) hd (fun x h=>by have:=hx x h;omega);have h2:=xQn n (l:=l.filter fun x=>decide (x < (n:Int))) (hd.filter _) (fun x h=>by
   have h3:=List.mem_filter.1 h;have:=hx x h3.1;simp at h3;omega)
  have h3:(2:Int) ^ (n+1)=2 ^ n+2 ^ n:=by rw[Int.pow_succ];omega
  have h4:(0:Int) < 2 ^ n:=Int.pow_pos (by decide);rw[h1,h3]
  split <;> omega
theorem zZ1:∀ (n:Nat) {a b:List Int},a.Nodup->b.Nodup->(∀ x∈a,0<=x/\x < (n:Int))->(∀ x∈b,0<=x/\x < (n:Int))->xJ0 a=xJ0 b->∀ x,x∈a↔x∈b
 | 0,a,b,_,_,ha,hb,_,x=>⟨fun h=>by have:=ha x h;omega,fun h=>by have:=hb x h;omega⟩
 | n+1,a,b,da,db,ha,hb,he,x=>by
  have fa:∀ x∈a.filter (fun x=>decide (x < (n:Int))),0<=x/\x < (n:Int):=fun x h=>by
   have h3:=List.mem_filter.1 h;have:=ha x h3.1;simp at h3;omega
  have fb:∀ x∈b.filter (fun x=>decide (x < (n:Int))),0<=x/\x < (n:Int):=fun x h=>by
   have h3:=List.mem_filter.1 h;have:=hb x h3.1;simp at h3;omega
  have h1:=xZ2 (n:=n) da (fun x h=>by have:=ha x h;omega);have h2:=xZ2 (n:=n) db (fun x h=>by have:=hb x h;omega);have l1:=xQn n (da.filter _) fa;have l2:=xQn n (db.filter _) fb;have n1:=xQm (a.filter fun x=>decide (x < (n:Int)));have n2:=xQm (b.filter fun x=>decide (x < (n:Int)));have key:((n:Int)∈a↔(n:Int)∈b)/\xJ0 (a.filter fun x=>decide (x < (n:Int)))=xJ0 (b.filter fun x=>decide (x < (n:Int))):=by
   by_cases ea:(n:Int)∈a <;> by_cases eb:(n:Int)∈b <;> simp only[ea,eb,if_true,if_false,true_iff,iff_true,false_iff,iff_false,true_and,not_true_eq_false,not_false_eq_true,false_and] at h1 h2 ⊢ <;> omega
  have ih:=zZ1 n (da.filter _) (db.filter _) fa fb key.2 x;rcases Int.lt_trichotomy x (n:Int) with h | h | h
  ·simp only[List.mem_filter,decide_eq_true_eq,h,and_true] at ih;exact ih
  ·rw[h];exact key.1
  ·exact⟨fun k=>by have:=ha x k;omega,fun k=>by have:=hb x k;omega⟩
theorem SetP.nodup{l:List Int}{n:Int}(h:SetP l n):l.Nodup:=(SetP.pairwise h).imp (fun h=>by omega)
theorem xJi{a b:List Int}{n:Nat}(ha:SetP a (n:Int))(hb:SetP b (n:Int))(h:xJ0 a=xJ0 b):a=b:=
 ha.ext hb (zZ1 n ha.nodup hb.nodup ha.1 hb.1 h)
section
theorem xQi{w:World}{g:Nat}{x:Int}(h0:w.cell? ⟨g,0,none⟩=some (.int .i64 x)):Ints w (some ⟨g,0,none⟩) [x]:=fun j u hu=>by
 cases j with
 | zero=>simp at hu;subst hu;exact⟨_,rfl,h0⟩
 | succ j=>simp at hu
end
section
def xK3(l:List Int)(k:Nat):Bool:=!decide ((k:Int)∈l)
end
end Go.Proofs.YtpeipeljmapkmaaGreat
