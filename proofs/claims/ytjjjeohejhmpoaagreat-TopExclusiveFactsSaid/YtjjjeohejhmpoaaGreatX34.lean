/-
  Lemmas.
-/
import Derived.Test.YtjjjeohejhmpoaaGreatX25
import Derived.Test.YtjjjeohejhmpoaaGreatX33
import Derived.Test.YtjjjeohejhmpoaaGreatX19
set_option linter.unusedVariables false
set_option linter.unusedSimpArgs false
set_option maxRecDepth 100000
set_option maxHeartbeats 4000000
namespace Go.Proofs.YtjjjeohejhmpoaaGreat
open Go.RowKit Go.Proofs.Tryz
section
open Go.Shelf
def unF(ls:List (List Int))(f:Int->Option Value):Nat:=(ls.map fun l=>if(f (xJ0 l)).isSome then 0 else 1).sum
theorem xKw(ls:List (List Int)):unF ls (fun _=>none)=ls.length:=by
 unfold unF
 induction ls with
 |nil=>rfl
 |cons a ls ih=>simp only[List.map_cons,List.sum_cons,List.length_cons,ih];simp;omega
theorem yJs{ls:List (List Int)}{f:Int->Option Value}{l:List Int}{v:Value}(h:∀x∈ls,xJ0 x≠xJ0 l):unF ls (upd f (xJ0 l) v)=unF ls f:=by
 unfold unF;congr 1;refine List.map_congr_left fun x hx=>?_
 rw[xJq f v (h x hx)]
theorem xWm{n:Nat}{ls:List (List Int)}{f:Int->Option Value}{l:List Int}{v:Value}(hn:ls.Nodup)(hs:∀x∈ls,SetP x (n:Int))(hl:l∈ls)(m:Nat):up1 f (xJ0 l) m+unF ls (upd f (xJ0 l) v)=m+unF ls f:=by
 induction ls with
 |nil=>cases hl
 |cons a ls ih=>
  obtain⟨h1,h2⟩:=List.nodup_cons.1 hn;show up1 f (xJ0 l) m+((if(upd f (xJ0 l) v (xJ0 a)).isSome then 0 else 1)+unF ls (upd f (xJ0 l) v))=m+((if(f (xJ0 a)).isSome then 0 else 1)+unF ls f)
  by_cases e:l=a
  ·subst e;rw[yJs (fun x hx e2=>h1 (xJp (hs x (List.mem_cons_of_mem _ hx)) (hs l (vVp ..)) e2 ▸ hx)),xXo];unfold up1
   split<;>simp<;>omega
  ·have h3:=ih h2 (fun x hx=>hs x (List.mem_cons_of_mem _ hx)) (by rcases yQ6.1 hl with h|h;exact absurd h e;exact h);rw[xJq f v (fun e2=>e (xJp (hs a (vVp ..)) (hs l hl) e2).symm)];omega
inductive Fp(n:Nat)(ops:List OpV)(goal:List Int):List Int->List Nat->Prop
 |nil {l:List Int}:(∀q∈goal,q∈l)->Fp n ops goal l []
 |cons {l:List Int} {p:Nat} {o:OpV} {ps:List Nat}:ops[p]? = some o->(∀q∈o.pre,q∈l)->Fp n ops goal (xJb n l o) ps->Fp n ops goal l (p::ps)
theorem Pth.front{n:Nat}{ops:List OpV}{goal st l:List Int}{ps:List Nat}(h:Pth n ops st l ps):∀ {qs},Fp n ops goal l qs->Fp n ops goal st (ps++qs):=by
 induction h with
 |init=>exact fun h=>h
 | @step l ps p o _ h2 h3 ih=>
  intro qs hq;rw[List.append_assoc];exact ih (.cons h2 h3 hq)
theorem xZ2(cs:List Int)(p:Nat)(ps:List Nat):xJ6 cs (p::ps)=xJ2 cs (p:Int)+xJ6 cs ps:=by
 unfold xJ6;rw[List.map_cons,List.sum_cons]
theorem xQ1{ops:List OpV}{p:Nat}{o:OpV}(h:ops[p]? = some o):xJ2 (ops.map (·.cost)) (p:Int)=o.cost:=xJl (by simp[h])
theorem Fp.nn{n:Nat}{ops:List OpV}{goal l:List Int}{ps:List Nat}(hc:∀o∈ops,0<=o.cost)(h:Fp n ops goal l ps):0<=xJ6 (ops.map (·.cost)) ps:=by
 induction h with
 |nil _=>simp[xJ6]
 |cons h1 _ _ ih=>
  rw[xZ2,xQ1 h1];have:=hc _ (lMg h1);omega
theorem yJt{ops:List OpV}{l:List Int}{p:Nat}{o:OpV}(h1:ops[p]? = some o)(h2:∀q∈o.pre,q∈l):yXc ops l (p:Int):=⟨o,by simpa using h1,h2⟩
theorem Fp.low{n:Nat}{t:TaskV}{l:List Int}{ps:List Nat}(hv:Valid t)(hn:t.facts=n)(h:Fp n t.ops t.goal l ps):SetP l (n:Int)->xJ6 (t.ops.map (·.cost)) ps<1000000000->vKm n (t.ops.map rxO) t.goal l<=xJ6 (t.ops.map (·.cost)) ps:=by
 have hH:=zX3 hv hn;have hc0:=fun o ho=>(hv.ops o ho).2.1
 induction h with
 |nil hg=>intro hs _;have:=hH.goal _ hg hs;simpa[xJ6] using this
 | @cons l p o ps h1 h2 h3 ih=>
  intro hs hc;rw[xZ2,xQ1 h1] at hc ⊢;have ho:=hc0 o (lMg h1);have h4:=ih (xJz n l o) (by omega);have h5:=hH.step l p o hs h1 (yJt h1 h2) (by omega);omega
structure AB(n:Nat)(ops:List OpV)(st:List Int)(ls:List (List Int))(D:List Int->Int)(Pa:Int->Option Value)(fh fq:Int->Option Int):Prop where
 d0:D st=0
 lo:∀l∈ls,0<=D l/\D l<=1000000000
 par:∀l∈ls,D l<1000000000->l≠st->∃(s:List Int) (p:Nat) (o:OpV),s∈ls/\ops[p]? = some o/\(∀q∈o.pre,q∈s)/\xJb n s o=l/\D s+(o.cost*4096+1)<=D l/\Pa (xJ0 l)=some (.agg #[.int .u32 (xJ0 s),.int .i64 (p:Int)])
 q:∀x k,fq x=some k->∃l∈ls,xJ0 l=x/\D l<1000000000/\∃h,fh x=some h/\k=D l+4096*h
def OkTo(D:List Int->Int)(fh:Int->Option Int)(d:Int)(o:OpV)(l':List Int):Prop:=(∃h,fh (xJ0 l')=some h/\1000000000<=h)\/D l'<=d+(o.cost*4096+1)
def DoneA(n:Nat)(ops:List OpV)(goal:List Int)(D:List Int->Int)(fh:Int->Option Int)(l:List Int):Prop:=
 (¬ ∀q∈goal,q∈l)/\∀(p:Nat) (o:OpV),ops[p]? = some o->(∀q∈o.pre,q∈l)->OkTo D fh (D l) o (xJb n l o)
structure ASt(n:Nat)(ops:List OpV)(goal st:List Int)(ls:List (List Int))(D:List Int->Int)(Pa:Int->Option Value)(fh fq:Int->Option Int):Prop extends AB n ops st ls D Pa fh fq where
 cl:∀l∈ls,D l<1000000000->fq (xJ0 l)=none->DoneA n ops goal D fh l
structure AS1(n:Nat)(ops:List OpV)(goal st:List Int)(ls:List (List Int))(D:List Int->Int)(Pa:Int->Option Value)(fh fq:Int->Option Int)(s:List Int)(d:Int)(pre:List (Nat×OpV×List Int)):Prop extends AB n ops st ls D Pa fh fq where
 hs:s∈ls
 cur:D s=d
 hd:d<1000000000
 out:fq (xJ0 s)=none
 ng:¬ ∀q∈goal,q∈s
 cl:∀l∈ls,l≠s->D l<1000000000->fq (xJ0 l)=none->DoneA n ops goal D fh l
 dn:∀y∈pre,OkTo D fh d y.2.1 y.2.2
def ExtH(f g:Int->Option Int):Prop:=∀x h,f x=some h->g x=some h
theorem ExtH.refl(f:Int->Option Int):ExtH f f:=fun _ _ h=>h
theorem ExtH.trans{f g k:Int->Option Int}(h1:ExtH f g)(h2:ExtH g k):ExtH f k:=fun x h e=>h2 x h (h1 x h e)
section
variable {n:Nat}{ops:List OpV}{goal st:List Int}{ls:List (List Int)}{D:List Int->Int}{Pa:Int->Option Value}{fh fq:Int->Option Int}{s:List Int}{d:Int}{pre:List (Nat×OpV×List Int)}
theorem OkTo.ext{g:Int->Option Int}{o:OpV}{l':List Int}(hx:ExtH fh g)(h:OkTo D fh d o l'):OkTo D g d o l':=by
 rcases h with⟨k,h1,h2⟩|h
 ·exact .inl ⟨k,hx _ _ h1,h2⟩
 ·exact .inr h
theorem DoneA.ext{g:Int->Option Int}{l:List Int}(hx:ExtH fh g)(h:DoneA n ops goal D fh l):DoneA n ops goal D g l:=⟨h.1,fun p o h1 h2=>(h.2 p o h1 h2).ext hx⟩
theorem AB.ext{g:Int->Option Int}(hx:ExtH fh g)(h:AB n ops st ls D Pa fh fq):AB n ops st ls D Pa g fq:=
 ⟨h.d0,h.lo,h.par,fun x k hk=>by obtain⟨l,h1,h2,h3,v,h4,h5⟩:=h.q x k hk;exact⟨l,h1,h2,h3,v,hx _ _ h4,h5⟩⟩
theorem AS1.ext{g:Int->Option Int}(hx:ExtH fh g)(h:AS1 n ops goal st ls D Pa fh fq s d pre):AS1 n ops goal st ls D Pa g fq s d pre:=
 ⟨h.toAB.ext hx,h.hs,h.cur,h.hd,h.out,h.ng,fun l h1 h2 h3 h4=>(h.cl l h1 h2 h3 h4).ext hx,fun y hy=>(h.dn y hy).ext hx⟩
theorem yJu{f:Int->Option Int}{y x k:Int}(h:zZd f y x=some k):f x=some k/\x≠y:=by
 unfold zZd at h
 split at h
 ·cases h
 ·exact⟨h,by assumption⟩
theorem AB.del(h:AB n ops st ls D Pa fh fq)(y:Int):AB n ops st ls D Pa fh (zZd fq y):=⟨h.d0,h.lo,h.par,fun x k hk=>h.q x k (yJu hk).1⟩
theorem ASt.take(h:ASt n ops goal st ls D Pa fh fq)(hset:∀l∈ls,SetP l (n:Int))(hs:s∈ls){k:Int}(hk:fq (xJ0 s)=some k)(hg:¬ ∀q∈goal,q∈s):AS1 n ops goal st ls D Pa fh (zZd fq (xJ0 s)) s (D s) []:=by
 obtain⟨l,h1,h2,h3,_⟩:=h.q _ _ hk;have e:=xJp (hset l h1) (hset s hs) h2;subst e;refine⟨h.toAB.del _,hs,rfl,h3,by unfold zZd;rw[if_pos rfl],hg,fun l' h4 h5 h6 h7=>h.cl l' h4 h6 ?_,by simp⟩;unfold zZd at h7;rw[if_neg (fun e=>h5 (xJp (hset l' h4) (hset l hs) e))] at h7;exact h7
theorem AS1.skip(h:AS1 n ops goal st ls D Pa fh fq s d pre){y:Nat×OpV×List Int}(hy:OkTo D fh d y.2.1 y.2.2):AS1 n ops goal st ls D Pa fh fq s d (pre ++ [y]):=
 ⟨h.toAB,h.hs,h.cur,h.hd,h.out,h.ng,h.cl,fun z hz=>by
  rcases vJn.1 hz with hz|hz
  ·exact h.dn z hz
  ·simp at hz;subst hz;exact hy⟩
theorem AS1.relax(h:AS1 n ops goal st ls D Pa fh fq s d pre)(hset:∀l∈ls,SetP l (n:Int))(hst:st∈ls){p:Nat}{o:OpV}{l':List Int}(hl':l'∈ls)(ho:ops[p]? = some o)(hp:∀q∈o.pre,q∈s)(hx:xJb n s o=l')(hc0:0<=o.cost)
  {N k:Int} (hN:N=d+(o.cost*4096+1)) (hlt:N<D l') (hb:N<1000000000) {hv:Int} (hh:fh (xJ0 l')=some hv) (hk:k=N+4096*hv) :
  AS1 n ops goal st ls (xKf D l' N) (upd Pa (xJ0 l') (.agg #[.int .u32 (xJ0 s),.int .i64 (p:Int)])) fh (xQi fq (xJ0 l') k) s d (pre ++ [(p,o,l')]):=by
 have hlo:=h.lo s h.hs;rw[h.cur] at hlo;have hsl:s≠l':=fun e=>by rw[<- e,h.cur] at hlt;omega
 have hstl:st≠l':=fun e=>by rw[<- e,h.d0] at hlt;omega
 have hother:∀ {x},x≠l'->xKf D l' N x=D x:=fun {x} e=>if_neg e
 have hself:xKf D l' N l'=N:=if_pos rfl;have hle:∀x,xKf D l' N x<=D x:=fun x=>by
  by_cases e:x=l'
  ·subst e;rw[hself];omega
  ·rw[hother e];exact Int.le_refl _
 have hw:∀ {x},x∈ls->x≠l'->xJ0 x≠xJ0 l':=fun {x} hx e e2=>e (xJp (hset x hx) (hset l' hl') e2)
 have hqo:∀ {x},x∈ls->x≠l'->xQi fq (xJ0 l') k (xJ0 x)=fq (xJ0 x):=fun {x} hx e=>by unfold xQi;rw[if_neg (hw hx e)]
 have hqs:xQi fq (xJ0 l') k (xJ0 l')=some k:=by unfold xQi;rw[if_pos rfl]
 have hok:∀ {d':Int} {o':OpV} {x:List Int},OkTo D fh d' o' x->OkTo (xKf D l' N) fh d' o' x:=fun {d' o' x} h1=>by
  rcases h1 with h1|h1
  ·exact .inl h1
  ·exact .inr (by have:=hle x;omega)
 refine⟨⟨by rw[hother hstl];exact h.d0,fun x hx=>?_,fun x hx hlt2 hne=>?_,fun x k' hk'=>?_⟩,h.hs,by rw[hother hsl];exact h.cur,h.hd,by rw[hqo h.hs hsl];exact h.out,h.ng,fun x hx hne hlt2 hq=>?_,fun y hy=>?_⟩
 ·have:=h.lo x hx
  by_cases e:x=l'
  ·subst e;rw[hself];omega
  ·rw[hother e];exact this
 ·by_cases e:x=l'
  ·subst e;refine⟨s,p,o,h.hs,ho,hp,hx.trans rfl,?_,xXo _ _ _⟩;rw[hself,hother hsl,h.cur];omega
  ·rw[hother e] at hlt2 ⊢;obtain⟨s',p',o',h1,h2,h3,h4,h5,h6⟩:=h.par x hx hlt2 hne;refine⟨s',p',o',h1,h2,h3,h4,?_,by rw[xJq _ _ (hw hx e)];exact h6⟩;have:=hle s';omega
 ·unfold xQi at hk'
  split at hk'
  ·rename_i e
   injection hk' with hk'
   exact⟨l',hl',e.symm,by rw[hself];exact hb,hv,by rw[e];exact hh,by rw[hself,<- hk',hk]⟩
  ·rename_i e
   obtain⟨l,h1,h2,h3,v,h4,h5⟩:=h.q x k' hk';have hne:l≠l':=fun e2=>e (by rw[<- h2,e2])
   exact⟨l,h1,h2,by rw[hother hne];exact h3,v,h4,by rw[hother hne];exact h5⟩
 ·by_cases e:x=l'
  ·subst e;rw[hqs] at hq;cases hq
  ·rw[hother e] at hlt2;rw[hqo hx e] at hq;have h1:=h.cl x hx hne hlt2 hq;exact⟨h1.1,fun p' o' h2 h3=>by rw[hother e];exact hok (h1.2 p' o' h2 h3)⟩
 ·rcases vJn.1 hy with hy|hy
  ·exact hok (h.dn y hy)
  ·simp at hy;subst hy;refine .inr ?_;show xKf D l' N l'<=d+(o.cost*4096+1);rw[hself];omega
theorem AS1.fin(h:AS1 n ops goal st ls D Pa fh fq s d pre)(hp:pre=xJy n ops s ops.length):ASt n ops goal st ls D Pa fh fq:=
 ⟨h.toAB,fun l h1 h2 h3=>by
  by_cases e:l=s
  ·subst e;refine⟨h.ng,fun p o h4 h5=>?_⟩;rw[h.cur];exact h.dn (p,o,xJb n l o) (by rw[hp];exact xXj.2 ⟨(zQ1.1 h4).1,h4,h5,rfl⟩)
  ·exact h.cl l h1 e h2 h3⟩
def D0(st:List Int):List Int->Int:=fun l=>if l=st then 0 else 1000000000
theorem ASt.start(hset:∀l∈ls,SetP l (n:Int))(hst:st∈ls){h:Int}(hh:fh (xJ0 st)=some h):ASt n ops goal st ls (D0 st) Pa fh (xQi (fun _=>none) (xJ0 st) (4096*h)):=by
 have h0:D0 st st=0:=if_pos rfl;have h1:∀ {l},l≠st->D0 st l=1000000000:=fun e=>if_neg e
 refine⟨⟨h0,fun l hl=>?_,fun l hl hlt hne=>?_,fun x k hk=>?_⟩,fun l hl hlt hq=>?_⟩
 ·by_cases e:l=st
  ·subst e;rw[h0];omega
  ·rw[h1 e];omega
 ·rw[h1 hne] at hlt;omega
 ·unfold xQi at hk
  split at hk
  ·rename_i e
   injection hk with hk
   exact⟨st,hst,e.symm,by rw[h0];omega,h,by rw[e];exact hh,by rw[h0,<- hk];omega⟩
  ·cases hk
 ·by_cases e:l=st
  ·subst e;unfold xQi at hq;rw[if_pos rfl] at hq;cases hq
  ·rw[h1 e] at hlt;omega
theorem AB.trail(h:AB n ops st ls D Pa fh fq)(hset:∀l∈ls,SetP l (n:Int))(hn24:n<=24)(hst:st∈ls)(hc0:∀o∈ops,0<=o.cost):∀(m:Nat) (l:List Int),l∈ls->D l<1000000000->(D l).toNat<=m ->
  ∃(ps:List Nat) (sts:List (List Int)),Trail Pa (xJ0 st) (xJ0 l) (ps.map Int.ofNat)/\Pth n ops st l ps/\4096*xJ6 (ops.map (·.cost)) ps+ps.length<=D l/\sts.Nodup/\(∀x∈sts,x∈ls/\D x<=D l)/\sts.length=ps.length+1:=by
 intro m
 induction m with
 |zero=>
  intro l hl hlt hm
  by_cases e:l=st
  ·subst e;exact⟨[],[l],.nil,.init,by rw[h.d0];simp[xJ6],by simp,fun x hx=>by simp at hx;subst hx;exact⟨hl,Int.le_refl _⟩,rfl⟩
  ·obtain⟨s,p,o,h1,h2,h3,h4,h5,h6⟩:=h.par l hl hlt e;have:=h.lo s h1;have:=hc0 o (lMg h2);omega
 |succ m ih=>
  intro l hl hlt hm
  by_cases e:l=st
  ·subst e;exact⟨[],[l],.nil,.init,by rw[h.d0];simp[xJ6],by simp,fun x hx=>by simp at hx;subst hx;exact⟨hl,Int.le_refl _⟩,rfl⟩
  ·obtain⟨s,p,o,h1,h2,h3,h4,h5,h6⟩:=h.par l hl hlt e;have hs0:=h.lo s h1;have ho:=hc0 o (lMg h2);obtain⟨ps,sts,i1,i2,i3,i4,i5,i6⟩:=ih s h1 (by omega) (by omega);refine⟨ps ++ [p],l::sts,?_,h4 ▸ .step i2 h2 h3,?_,List.nodup_cons.2 ⟨fun hm=>?_,i4⟩,fun x hx=>?_,by simp;omega⟩
   ·rw[vQu];exact .step i1 h6 (fun e2=>e (xJp (hset l hl) (hset st hst) e2)) ((hset l hl).wrd hn24)
   ·rw[xV5,xQ1 h2];simp;omega
   ·have:=(i5 l hm).2;omega
   ·rcases yQ6.1 hx with hx|hx
    ·subst hx;exact⟨hl,Int.le_refl _⟩
    ·have:=i5 x hx;exact⟨this.1,by omega⟩
end
theorem ASt.queued{n:Nat}{t:TaskV}{ls:List (List Int)}{D:List Int->Int}{Pa:Int->Option Value}{fh fq:Int->Option Int}(h:ASt n t.ops t.goal t.init ls D Pa fh fq)(hC:Clos n t.ops t.init ls)(hv:Valid t)(hn:t.facts=n)(hb:∀l∈ls,D l<1000000000->D l<900000000)
  (hH:∀l,SetP l (n:Int)->∀v,fh (xJ0 l)=some v->xYu n t l v) {l:List Int} {ps:List Nat} (hp:Fp n t.ops t.goal l ps):l∈ls->D l<1000000000->xJ6 (t.ops.map (·.cost)) ps<1000000000->∀c,D l<=c->∃x k,fq x=some k/\k<=c+4096*xJ6 (t.ops.map (·.cost)) ps+ps.length:=by
 have hc0:∀o∈t.ops,0<=o.cost/\o.cost<=100:=fun o ho=>⟨(hv.ops o ho).2.1,(hv.ops o ho).2.2⟩
 have key:∀ {l:List Int} {ps:List Nat},Fp n t.ops t.goal l ps->l∈ls->xJ6 (t.ops.map (·.cost)) ps<1000000000->∀c k,D l<=c->fq (xJ0 l)=some k->k<=c+4096*xJ6 (t.ops.map (·.cost)) ps:=fun {l ps} hp hl hc c k hd hq=>by
  obtain⟨l',h1,h2,h3,v,h4,h5⟩:=h.q _ _ hq;have e:=xJp (hC.set l' h1) (hC.set l hl) h2;subst e;have h6:=(hH l' (hC.set l' h1) v h4).2.2;have h7:=hp.low hv hn (hC.set l' h1) hc;omega
 induction hp with
 | @nil l hg=>
  intro hl hlt hc c hd
  cases hq:fq (xJ0 l) with
  |some k=>exact⟨_,k,hq,by have:=key (.nil hg) hl hc c k hd hq;simp;omega⟩
  |none=>exact absurd hg (h.cl l hl hlt hq).1
 | @cons l p o ps h1 h2 h3 ih=>
  intro hl hlt hc c hd
  cases hq:fq (xJ0 l) with
  |some k=>exact⟨_,k,hq,by have:=key (.cons h1 h2 h3) hl hc c k hd hq;omega⟩
  |none=>
   have ho:=hc0 o (lMg h1);have hnl:=hC.closed l hl p o h1 h2;rw[xZ2,xQ1 h1] at hc ⊢;have hnn:=h3.nn (fun o ho=>(hc0 o ho).1);rcases (h.cl l hl hlt hq).2 p o h1 h2 with⟨v,h4,h5⟩|h4
   ·have h6:=(hH _ (hC.set _ hnl) v h4).2.2;have h7:=h3.low hv hn (hC.set _ hnl) (by omega);omega
   ·have h8:=hb l hl hlt;obtain⟨x,k,h5,h6⟩:=ih hnl (by omega) (by omega) (c+(o.cost*4096+1)) (by omega);exact⟨x,k,h5,by simp;omega⟩
end
section
open Go.Shelf
def hF(fh:Int->Option Int):Int->Option Value:=fun x=>(fh x).map (Value.int .i64)
theorem yYp(fh:Int->Option Int)(x h:Int):hF (xQi fh x h)=upd (hF fh) x (.int .i64 h):=by
 funext y;unfold hF xQi upd
 split<;>rfl
theorem yKe{fh:Int->Option Int}{x h:Int}(e:fh x=some h):upd (hF fh) x (.int .i64 h)=hF fh:=by
 funext y;unfold upd hF
 split
 ·rename_i e2;rw[e2,e];rfl
 ·rfl
theorem yQ4{fh:Int->Option Int}{x h:Int}(e:fh x=none):ExtH fh (xQi fh x h):=fun y v hy=>by
 unfold xQi
 split
 ·rename_i e2;rw[e2,e] at hy;cases hy
 ·exact hy
def HeuOk(n:Nat)(t:TaskV)(fh:Int->Option Int):Prop:=∀l,SetP l (n:Int)->∀v,fh (xJ0 l)=some v->xYu n t l v
theorem HeuOk.nil(n:Nat)(t:TaskV):HeuOk n t (fun _=>none):=fun _ _ _ h=>by cases h
theorem HeuOk.put{n:Nat}{t:TaskV}{fh:Int->Option Int}{l:List Int}{h:Int}(hk:HeuOk n t fh)(hl:SetP l (n:Int))(hv:xYu n t l h):HeuOk n t (xQi fh (xJ0 l) h):=fun l' hl' v e=>by
 unfold xQi at e
 split at e
 ·rename_i e2
  injection e with e
  rw[<- e,xJp hl' hl e2];exact hv
 ·exact hk l' hl' v e
def HBox(hb:Nat)(W:World)(t:TaskV)(Ai Ag Ao:Option Addr)(ci cg co:Nat):Prop:=Arr W hb 25 [.int .i64 t.facts,.slice Ai t.init.length ci,.slice Ag t.goal.length cg,.slice Ao t.ops.length co]/\Arr W (hb+1) 3 [.int .i64 4]/\Arr W (hb+1+1+1) 75 [.map (some (hb+1+1))]
section
variable {hb:Nat}{w w':World}{t:TaskV}{Ai Ag Ao:Option Addr}{ci cg co:Nat}
theorem HBox.alloc(h:HBox hb w t Ai Ag Ao ci cg co)(o:Obj):HBox hb (w.alloc o) t Ai Ag Ao ci cg co:=⟨h.1.alloc o,h.2.1.alloc o,h.2.2.alloc o⟩
theorem HBox.drew(h:HBox hb w t Ai Ag Ao ci cg co):HBox hb w.drew t Ai Ag Ao ci cg co:=h
theorem HBox.drewN(h:HBox hb w t Ai Ag Ao ci cg co)(d:Nat):HBox hb (w.drewN d) t Ai Ag Ao ci cg co:=h
theorem HBox.below{B:Nat}(h:HBox hb w t Ai Ag Ao ci cg co)(hB:Below w.heap.size w w'):HBox hb w' t Ai Ag Ao ci cg co:=⟨h.1.below hB,h.2.1.below hB,h.2.2.below hB⟩
theorem HBox.by_map{b n:Nat}{f:Int->Option Value}(hM:MapF w b n f)(hg:w.grownBy w' (some b))(h:HBox hb w t Ai Ag Ao ci cg co):HBox hb w' t Ai Ag Ao ci cg co:=⟨h.1.by_map hM hg,h.2.1.by_map hM hg,h.2.2.by_map hM hg⟩
theorem HBox.turn{B:Nat}(h:HBox hb w t Ai Ag Ao ci cg co)(ht:Turn B w w'):HBox hb w' t Ai Ag Ao ci cg co:=⟨h.1.turn ht,h.2.1.turn ht,h.2.2.turn ht⟩
theorem HBox.qup{base' m:Nat}(h:HBox hb w t Ai Ag Ao ci cg co)(hq:QUp base' m w w')(hm:∃es cl,w.heap[m]? = some (.map es cl)):HBox hb w' t Ai Ag Ao ci cg co:=by
 obtain⟨h1,h2,h3⟩:=h;exact⟨h1.qup (hq:=hq) hm (by decide),h2.qup (hq:=hq) hm (by decide),h3.qup (hq:=hq) hm (by decide)⟩
theorem HBox.set_(h:HBox hb w t Ai Ag Ao ci cg co){p:Addr}(u:Value){g:Nat}{T:TypeId}{xs:List Value}(hA:Arr w g T xs)(hp:p.block=g)(h1:T≠25)(h2:T≠3)(h3:T≠75):HBox hb (w.setCell p u) t Ai Ag Ao ci cg co:=
 ⟨h.1.far2 u hA hp h1,h.2.1.far2 u hA hp h2,h.2.2.far2 u hA hp h3⟩
theorem HBox.lt(h:HBox hb w t Ai Ag Ao ci cg co):(hb+1+1+1)<w.heap.size:=h.2.2.lt
end
theorem mvh{p:Prop}(h:p:=by repeat' (with_reducible first|assumption|apply HBox.alloc|apply HBox.drew|apply HBox.drewN|(apply HBox.by_map;case hg=>assumption)|(apply HBox.qup;case hq=>assumption)|assumption|apply Que.alloc|apply Que.drew|apply Que.drewN|(apply Que.set_;(case hp=>rfl);(case hA=>assumption);(case hT=>decide))|(apply Que.by_row;(case hg=>assumption);(case hT=>decide))|(apply Que.by_map;(case hg=>assumption);(case hne=>omega))|apply Back.alloc|apply Back.drew|apply Back.drewN|apply Arr.drewN|apply MapF.drewN|apply zKg|apply MarksOk.drewN|(apply Arr.qup;(case hq=>assumption);(case he=>decide))|(apply MapF.qup;(case hq=>assumption);(case hb=>omega))|(apply vXh;(case hq=>assumption);(case he=>decide))|(apply Back.qup;(case hq=>assumption);(case hb=>omega))|(apply MarksOk.qup;case hq=>assumption)|(refine Below.trans ?_ (QUp.below_of (by assumption) ?_);rotate_left;omega)|(apply Back.set_;(case hp=>rfl);(case hA=>assumption);(case hT=>decide))|(apply Back.by_map;(case hg=>assumption);(case hne=>omega))|(apply Back.by_row;(case hg=>assumption);(case hT=>decide))|assumption|exact Below.refl _ _|apply Arr.alloc|apply Arr.drew|(apply Arr.far;(case hp=>(first|(simp;done)|(simp;omega)|omega)))|apply World.ownsRow.alloc|apply World.ownsRow.drew|apply MapF.alloc|apply MapF.drew|(apply MapF.setCell;(case hp=>(first|(simp;done)|(simp;omega)|omega)))|apply MarksOk.alloc|apply MarksOk.drew|apply MarksOk.set_|apply xK3|apply xVr|apply xVs|(apply Below.alloc;(case hB=>(first|omega|(simp;done)|(simp;omega)|(dsimp only[World.drewN];omega))))|(apply Below.setCell;(case hp=>(first|omega|(simp;done)|(simp;omega))))|((refine Arr.by_row ?_ (by assumption) ?_ ?_);rotate_right;decide)|refine MapF.by_row ?_ (by assumption) ?_|refine MarksOk.by_row ?_ ?_ (by assumption)|(apply xY0;(case hp=>rfl);(case hA=>assumption);(case hT=>decide))|(apply Arr.by_row;case hg=>assumption)|(apply MapF.by_row;case hg=>assumption)|(apply MarksOk.by_row;case hg=>assumption)|(apply xXi;case hg=>assumption)|(apply Arr.by_map;case hg=>assumption)|(apply xQ9;case hg=>assumption)|(apply MarksOk.by_map;case hg=>assumption)|(apply MapF.by_map;(case hg=>assumption);(case hne=>omega))|(apply Below.by_map;(case hg=>assumption);(case hB=>(first|omega|(simp;done)|(simp;omega)|(dsimp only[World.drewN];omega)));(case hb=>omega))|(apply Below.by_row;(case hg=>assumption);(case hB=>(first|omega|(simp;done)|(simp;omega)|(dsimp only[World.drewN];omega)));(case hb=>exact Nat.le_refl _))|decide)):p:=h
theorem yQ5(w:World)(t:TaskV)(Ai Ag Ao:Option Addr)(ci cg co:Nat) :
  Calls prog 59 #[.agg #[.int .i64 t.facts,.slice Ai t.init.length ci,.slice Ag t.goal.length cg,.slice Ao t.ops.length co],.int .i64 4] w fun e w'=>∃hb,hb=w.heap.size/\e=.returned (.func (.func 115) #[] #[.pointer (some ⟨(hb+1+1+1),0,none⟩),.pointer (some ⟨hb,0,none⟩),.pointer (some ⟨(hb+1),0,none⟩)])/\HBox hb w' t Ai Ag Ao ci cg co/\MapF w' (hb+1+1) 0 (hF fun _=>none)/\Below w.heap.size w w':=by
 have hmm:=@run_makeMap prog;go_enter func59,ntmps59;go_wp2;refine bodyPost_ret (v:=.func (.func 115) #[] #[.pointer (some ⟨(w.heap.size+1+1+1),0,none⟩),.pointer (some ⟨w.heap.size,0,none⟩),.pointer (some ⟨(w.heap.size+1),0,none⟩)]) ?_ rfl ⟨w.heap.size,rfl,rfl,⟨?_,?_,?_⟩,?_,?_⟩
 ·simp[results,results59,go_sem]
 ·exact(((Arr.new w _ [.int .i64 t.facts,.slice Ai t.init.length ci,.slice Ag t.goal.length cg,.slice Ao t.ops.length co]).alloc _).alloc _).alloc _
 ·exact((Arr.new_at (w.alloc _) (w.heap.size+1) (by simp) 3 [.int .i64 4]).alloc _).alloc _
 ·exact Arr.new_at (((w.alloc _).alloc _).alloc _) (w.heap.size+1+1+1) (by simp) 75 [.map (some (w.heap.size+1+1))]
 ·have h:∀W:World,∀g,g=W.heap.size->MapF (W.alloc (.map #[] 0)) g 0 (hF fun _=>none):=fun W g e=>by subst e;exact MapF.made W
  exact(h _ _ (by simp)).alloc _
 ·exact mvh
theorem xQs{w0 W:World}{hb nh n:Nat}{fh:Int->Option Int}{l:List Int}{t:TaskV}{Ai Ag Ao:Option Addr}{ci cg co:Nat}(hT:TaskMem w0 Ai Ag Ao t)(hB:Below w0.heap.size w0 W)(hX:HBox hb W t Ai Ag Ao ci cg co)(hM:MapF W (hb+1+1) nh (hF fh))(hnh:nh<1000000000000)
  (hn:t.facts=n) (hv:Valid t) (hl:SetP l (n:Int)) (hk:HeuOk n t fh) (hsz:w0.heap.size<=W.heap.size) :
  Calls prog 115 #[.int .u32 (xJ0 l),.pointer (some ⟨(hb+1+1+1),0,none⟩),.pointer (some ⟨hb,0,none⟩),.pointer (some ⟨(hb+1),0,none⟩)] W (fun e W'=>∃(h:Int) (fh':Int->Option Int),e=.returned (.int .i64 h)/\xYu n t l h/\fh' (xJ0 l)=some h/\ExtH fh fh'/\HeuOk n t fh'/\hF fh'=upd (hF fh) (xJ0 l) (.int .i64 h)/\MapF W' (hb+1+1) (up1 (hF fh) (xJ0 l) nh) (hF fh')/\W.grownBy W' (some (hb+1+1))):=by
 have hn24:n<=24:=by have:=hv.f1;omega
 have hwl:=hl.wrd hn24;have hc0:W.cell? ⟨(hb+1+1+1),0,none⟩=some (.map (some (hb+1+1))):=hX.2.2.cell 0
 cases hf:fh (xJ0 l) with
 |some h=>
  have hy:(hF fh (xJ0 l)).getD (.int .i64 0)=.int .i64 h:=by unfold hF;rw[hf];rfl
  have hy2:(hF fh (xJ0 l)).isSome=true:=by unfold hF;rw[hf];rfl
  have hcv:=hk l hl h hf;have hlk:=hM.look_ok underlying75 (xXu _) hwl;rw[hy,hy2] at hlk;have HR:Hid (up1 (hF fh) (xJ0 l) nh=nh):=by show _=_;unfold up1;rw[if_pos hy2]
  have HF:=lHd hf;have HK:=lHd hk;have HM:=lHd hM;have HC:=lHd hcv;clear hy hy2 hf hk hM hcv hv hn hT;go_enter func115,ntmps115;go_wp2;go_ret;exact⟨h,fh,rfl,HC.out,HF.out,ExtH.refl _,HK.out,(yKe HF.out).symm,by rw[HR.out];exact HM.out,World.grownBy.refl _ _⟩
 |none=>
  have hy:(hF fh (xJ0 l)).getD (.int .i64 0)=.int .i64 0:=by unfold hF;rw[hf];rfl
  have hy2:(hF fh (xJ0 l)).isSome=false:=by unfold hF;rw[hf];rfl
  have hlk:=hM.look_ok underlying75 (xXu _) hwl;rw[hy,hy2] at hlk;have HF:=lHd hf;have HK:=lHd hk;have HN:=lHd hn;have HV:=lHd hv;have H2:Hid (SetP l t.facts):=by show SetP l t.facts;rw[hn];exact hl
  have hll:Hid (l.length<=n):=by have h:=hl.length (by omega);show l.length<=n;omega
  clear hy hy2 hf hk hv hn;have hSS0:W.drew.cell? ⟨hb,0,none⟩=some (.int .i64 t.facts)/\W.drew.cell? ⟨hb,1,none⟩=some (.slice Ai t.init.length ci)/\W.drew.cell? ⟨hb,2,none⟩=some (.slice Ag t.goal.length cg)/\W.drew.cell? ⟨hb,3,none⟩=some (.slice Ao t.ops.length co)/\W.drew.cell? ⟨(hb+1),0,none⟩=some (.int .i64 4):=⟨hX.1.cell 0,hX.1.cell 1,hX.1.cell 2,hX.1.cell 3,hX.2.1.cell 0⟩;go_enter func115,ntmps115;go_wp2;refine xZ3 (fun W=>W.cell? ⟨hb,0,none⟩=some (.int .i64 t.facts)/\W.cell? ⟨hb,1,none⟩=some (.slice Ai t.init.length ci)/\W.cell? ⟨hb,2,none⟩=some (.slice Ag t.goal.length cg)/\W.cell? ⟨hb,3,none⟩=some (.slice Ao t.ops.length co)/\W.cell? ⟨(hb+1),0,none⟩=some (.int .i64 4)) [5] (by kernel_rfl) ?_;have hSS:=hSS0;refine tkK 0 ?_;refine tkK 1 ?_;refine tkK 2 ?_;refine kdo 3 (fun K hK=>?_);go_simp;go_at_call 48;refine(xWl _ hl hn24).mono ?_;rintro e w3 ⟨hB3x,_,v3,rfl,hO3⟩;have hB3:Below W.heap.size W w3:=Below.trans (b:=W.drew) mvh hB3x;obtain⟨A3,c3,rfl,hnl3,hI3⟩:=hO3.form;have hX3:=HBox.below (B:=0) hX hB3;have hBW3:=hB.trans (hB3.mono hsz);have hs3:=hB3.size
  go_wp2_with fail
  have hSS:w3.cell? ⟨hb,0,none⟩=some (.int .i64 t.facts)/\w3.cell? ⟨hb,1,none⟩=some (.slice Ai t.init.length ci)/\w3.cell? ⟨hb,2,none⟩=some (.slice Ag t.goal.length cg)/\w3.cell? ⟨hb,3,none⟩=some (.slice Ao t.ops.length co)/\w3.cell? ⟨(hb+1),0,none⟩=some (.int .i64 4):=⟨hX3.1.cell 0,hX3.1.cell 1,hX3.1.cell 2,hX3.1.cell 3,hX3.2.1.cell 0⟩;refine hK.out _ _ hSS ?_;clear hK K
  try simp only[ap]
  refine kdo 4 (fun K hK=>?_);go_simp;go_at_call 116;refine(yVu _ t Ai Ag Ao ci cg co (hT.below hBW3) A3 c3 l hI3 (by have:=hll.out;simp only[lenOk];omega) n HN.out HV.out H2.out).mono ?_;rintro e w4 ⟨hB4,hv4,rfl,hC4⟩;have hX4:=HBox.below (B:=0) hX3 hB4;have hB5:=hB3.trans (hB4.mono hs3)
  go_wp2_with fail
  have hSS:w4.cell? ⟨hb,0,none⟩=some (.int .i64 t.facts)/\w4.cell? ⟨hb,1,none⟩=some (.slice Ai t.init.length ci)/\w4.cell? ⟨hb,2,none⟩=some (.slice Ag t.goal.length cg)/\w4.cell? ⟨hb,3,none⟩=some (.slice Ao t.ops.length co)/\w4.cell? ⟨(hb+1),0,none⟩=some (.int .i64 4):=⟨hX4.1.cell 0,hX4.1.cell 1,hX4.1.cell 2,hX4.1.cell 3,hX4.2.1.cell 0⟩;refine hK.out _ _ hSS ?_;clear hK K
  try simp only[ap]
  refine kla 5 (fun K hK=>?_);go_simp
  go_wp2_with fail
  refine hK.out _ _ ?_;clear hK K
  try simp only[ap]
  refine kdn ?_ _;have hM4:=hM.below hB5 hM.lt;have hc4:w4.cell? ⟨(hb+1+1+1),0,none⟩=some (.map (some (hb+1+1))):=hX4.2.2.cell 0;have hg4:W.grownBy w4 (some (hb+1+1)):=⟨hB5.os,hB5.tape,hB5.output,hB5.size,fun i hi _=>hB5.block i hi⟩
  go_wp2_with (at_mapUpdate;refine xXs rfl (.tmp 21) (.tmp 22) (.tmp 23) 75 rfl 3 underlying75 rfl hM4 hnh (xJ0 l) (.int .i64 hv4) rfl rfl hwl ?_;intro w6 hM6 hg6)
  refine bodyPost_ret (v:=.int .i64 hv4) ?_ rfl ⟨hv4,xQi fh (xJ0 l) hv4,rfl,hC4,by unfold xQi;rw[if_pos rfl],yQ4 HF.out,HK.out.put hl hC4,yYp _ _ _,by rw[yYp];exact hM6,hg4.trans hg6⟩;simp[results,results115,go_sem]
end
section
open Go.Shelf
structure Blk where
 hb:Nat
 b0:Nat
 mp:Nat
 bp:Nat
 ma:Nat
 ba:Nat
 m:Nat
 q:Nat
 bq:Nat
 me:Nat
structure BlkOk(k:Blk)(w0 w:World):Prop where
 o1:w0.heap.size<=k.hb
 o2:k.hb+1+1+1<w.heap.size
 o3:k.b0=w.heap.size
 o4:k.b0<k.mp
 o5:k.mp<k.bp
 o6:k.bp<k.ma
 o7:k.ma<k.ba
 o8:k.ba<k.m
 o9:k.m<k.q
 o10:k.q<k.bq
 o11:k.bq<k.me
structure BM(k:Blk)(w0 w:World)(t:TaskV)(Ai Ag Ao:Option Addr)(ci cg co:Nat)(ds:List Deferred)(nh nP nB nE nq:Nat)(fh:Int->Option Int)(fP fB fE:Int->Option Value)(fq:Int->Option Int)(W:World):Prop where
 ok:BlkOk k w0 w
 hx:HBox k.hb W t Ai Ag Ao ci cg co
 hm:MapF W (k.hb+1+1) nh (hF fh)
 b0:Arr W k.b0 93 [.func (.func 115) #[] #[.pointer (some ⟨(k.hb+1+1+1),0,none⟩),.pointer (some ⟨k.hb,0,none⟩),.pointer (some ⟨(k.hb+1),0,none⟩)]]
 mp:MapF W k.mp nP fP
 bp:Arr W k.bp 75 [.map (some k.mp)]
 ma:MapF W k.ma nB fB
 ba:Arr W k.ba 181 [.map (some k.ma)]
 q:Que k.m k.q k.m W nq fq
 bq:Arr W k.bq 132 [.pointer (some ⟨k.q,0,none⟩)]
 me:MapF W k.me nE fE
 mks:MarksOk w.heap.size ds W
 bel:Below w0.heap.size w0 W
section
variable {k:Blk}{w0 w W W':World}{t:TaskV}{Ai Ag Ao:Option Addr}{ci cg co:Nat}{ds:List Deferred}{nh nP nB nE nq:Nat}{fh:Int->Option Int}{fP fB fE:Int->Option Value}{fq:Int->Option Int}
theorem BM.lt(h:BM k w0 w t Ai Ag Ao ci cg co ds nh nP nB nE nq fh fP fB fE fq W):k.me<W.heap.size:=h.me.lt
theorem BM.alloc(h:BM k w0 w t Ai Ag Ao ci cg co ds nh nP nB nE nq fh fP fB fE fq W)(o:Obj):BM k w0 w t Ai Ag Ao ci cg co ds nh nP nB nE nq fh fP fB fE fq (W.alloc o):=by
 obtain⟨h0,h1,h2,h3,h4,h5,h6,h7,h8,h9,h10,h11,h12⟩:=h;exact⟨h0,mvh,mvh,mvh,mvh,mvh,mvh,mvh,mvh,mvh,mvh,mvh,mvh⟩
theorem BM.drew(h:BM k w0 w t Ai Ag Ao ci cg co ds nh nP nB nE nq fh fP fB fE fq W):BM k w0 w t Ai Ag Ao ci cg co ds nh nP nB nE nq fh fP fB fE fq W.drew:=by
 obtain⟨h0,h1,h2,h3,h4,h5,h6,h7,h8,h9,h10,h11,h12⟩:=h;exact⟨h0,mvh,mvh,mvh,mvh,mvh,mvh,mvh,mvh,mvh,mvh,mvh,mvh⟩
theorem BM.drewN(h:BM k w0 w t Ai Ag Ao ci cg co ds nh nP nB nE nq fh fP fB fE fq W)(d:Nat):BM k w0 w t Ai Ag Ao ci cg co ds nh nP nB nE nq fh fP fB fE fq (W.drewN d):=by
 obtain⟨h0,h1,h2,h3,h4,h5,h6,h7,h8,h9,h10,h11,h12⟩:=h;exact⟨h0,mvh,mvh,mvh,mvh,mvh,mvh,mvh,mvh,mvh,mvh,mvh,mvh⟩
theorem BM.turn{W0:World}(hk0:MarksOk w.heap.size ds W0)(hM0:k.me<W0.heap.size)(h:BM k w0 w t Ai Ag Ao ci cg co ds nh nP nB nE nq fh fP fB fE fq W)(ht:Turn W0.heap.size W W'):BM k w0 w t Ai Ag Ao ci cg co ds nh nP nB nE nq fh fP fB fE fq W':=by
 obtain⟨h0,h1,h2,h3,h4,h5,h6,h7,h8,h9,h10,h11,h12⟩:=h;obtain⟨o1,o2,o3,o4,o5,o6,o7,o8,o9,o10,o11⟩:=h0;have h13:=h12.size;exact⟨⟨o1,o2,o3,o4,o5,o6,o7,o8,o9,o10,o11⟩,h1.turn ht,h2.turn ht (by omega),h3.turn ht,h4.turn ht (by omega),h5.turn ht,h6.turn ht (by omega),h7.turn ht,h8.turn ht (by omega),h9.turn ht,h10.turn ht (by omega),h11.turn hk0 (Nat.le_refl _) ht,xWg h12 ht (by omega) (by omega)⟩
theorem BM.byH(h:BM k w0 w t Ai Ag Ao ci cg co ds nh nP nB nE nq fh fP fB fE fq W){nh':Nat}{fh':Int->Option Int}(hg:W.grownBy W' (some (k.hb+1+1)))(hM:MapF W' (k.hb+1+1) nh' (hF fh')):BM k w0 w t Ai Ag Ao ci cg co ds nh' nP nB nE nq fh' fP fB fE fq W':=by
 obtain⟨h0,h1,h2,h3,h4,h5,h6,h7,h8,h9,h10,h11,h12⟩:=h;obtain⟨o1,o2,o3,o4,o5,o6,o7,o8,o9,o10,o11⟩:=h0;have h13:=h12.size;exact⟨⟨o1,o2,o3,o4,o5,o6,o7,o8,o9,o10,o11⟩,mvh,hM,mvh,mvh,mvh,mvh,mvh,mvh,mvh,mvh,mvh,mvh⟩
theorem BM.byP(h:BM k w0 w t Ai Ag Ao ci cg co ds nh nP nB nE nq fh fP fB fE fq W){nP':Nat}{fP':Int->Option Value}(hg:W.grownBy W' (some k.mp))(hM:MapF W' k.mp nP' fP'):BM k w0 w t Ai Ag Ao ci cg co ds nh nP' nB nE nq fh fP' fB fE fq W':=by
 obtain⟨h0,h1,h2,h3,h4,h5,h6,h7,h8,h9,h10,h11,h12⟩:=h;obtain⟨o1,o2,o3,o4,o5,o6,o7,o8,o9,o10,o11⟩:=h0;have h13:=h12.size;exact⟨⟨o1,o2,o3,o4,o5,o6,o7,o8,o9,o10,o11⟩,mvh,mvh,mvh,hM,mvh,mvh,mvh,mvh,mvh,mvh,mvh,mvh⟩
theorem BM.byB(h:BM k w0 w t Ai Ag Ao ci cg co ds nh nP nB nE nq fh fP fB fE fq W){nB':Nat}{fB':Int->Option Value}(hg:W.grownBy W' (some k.ma))(hM:MapF W' k.ma nB' fB'):BM k w0 w t Ai Ag Ao ci cg co ds nh nP nB' nE nq fh fP fB' fE fq W':=by
 obtain⟨h0,h1,h2,h3,h4,h5,h6,h7,h8,h9,h10,h11,h12⟩:=h;obtain⟨o1,o2,o3,o4,o5,o6,o7,o8,o9,o10,o11⟩:=h0;have h13:=h12.size;exact⟨⟨o1,o2,o3,o4,o5,o6,o7,o8,o9,o10,o11⟩,mvh,mvh,mvh,mvh,mvh,hM,mvh,mvh,mvh,mvh,mvh,mvh⟩
theorem BM.byE(h:BM k w0 w t Ai Ag Ao ci cg co ds nh nP nB nE nq fh fP fB fE fq W){nE':Nat}{fE':Int->Option Value}(hg:W.grownBy W' (some k.me))(hM:MapF W' k.me nE' fE'):BM k w0 w t Ai Ag Ao ci cg co ds nh nP nB nE' nq fh fP fB fE' fq W':=by
 obtain⟨h0,h1,h2,h3,h4,h5,h6,h7,h8,h9,h10,h11,h12⟩:=h;obtain⟨o1,o2,o3,o4,o5,o6,o7,o8,o9,o10,o11⟩:=h0;have h13:=h12.size;exact⟨⟨o1,o2,o3,o4,o5,o6,o7,o8,o9,o10,o11⟩,mvh,mvh,mvh,mvh,mvh,mvh,mvh,mvh,mvh,hM,mvh,mvh⟩
theorem BM.byQ(h:BM k w0 w t Ai Ag Ao ci cg co ds nh nP nB nE nq fh fP fB fE fq W){nq':Nat}{fq':Int->Option Int}(hg:QUp k.m k.m W W')(hQ:Que k.m k.q k.m W' nq' fq'):BM k w0 w t Ai Ag Ao ci cg co ds nh nP nB nE nq' fh fP fB fE fq' W':=by
 obtain⟨h0,h1,h2,h3,h4,h5,h6,h7,h8,h9,h10,h11,h12⟩:=h;obtain⟨o1,o2,o3,o4,o5,o6,o7,o8,o9,o10,o11⟩:=h0;have hqm:=h8.obj;exact⟨⟨o1,o2,o3,o4,o5,o6,o7,o8,o9,o10,o11⟩,mvh,mvh,mvh,mvh,mvh,mvh,mvh,hQ,mvh,mvh,mvh,mvh⟩
theorem BM.cells(h:BM k w0 w t Ai Ag Ao ci cg co ds nh nP nB nE nq fh fP fB fE fq W):W.cell? ⟨k.b0,0,none⟩=some (.func (.func 115) #[] #[.pointer (some ⟨(k.hb+1+1+1),0,none⟩),.pointer (some ⟨k.hb,0,none⟩),.pointer (some ⟨(k.hb+1),0,none⟩)])/\W.cell? ⟨k.bp,0,none⟩=some (.map (some k.mp))/\W.cell? ⟨k.ba,0,none⟩=some (.map (some k.ma))/\W.cell? ⟨k.bq,0,none⟩=some (.pointer (some ⟨k.q,0,none⟩)):=⟨h.b0.cell 0,h.bp.cell 0,h.ba.cell 0,h.bq.cell 0⟩
end
def KpB(B n0 b2:Nat)(W W':World):Prop:=KeepsFrom B W W'/\KpS n0 b2 W W'
section
variable {B n0 b2:Nat}{W W' W'':World}
theorem KpB.refl(B n0 b2:Nat)(W:World):KpB B n0 b2 W W:=⟨(KeepsOthers.refl W).from B,Below.refl _ _,rfl⟩
theorem KpB.trans(h:KpB B n0 b2 W W')(k:KpB B n0 b2 W' W''):KpB B n0 b2 W W'':=⟨h.1.trans k.1,uX9 h.2 k.2⟩
theorem KpB.drew(h:KpB B n0 b2 W W'):KpB B n0 b2 W W'.drew:=h.trans ⟨(KeepsOthers.drew _).from _,xK3 (Below.refl _ _),rfl⟩
theorem KpB.map(h:KpB B n0 b2 W W'){r:Nat}(hg:W'.grownBy W'' (some r))(h0:n0<=r)(hs:n0<=W'.heap.size)(hr:r<B)(hb:b2<W'.heap.size)(hne:r≠b2):KpB B n0 b2 W W'':=
 h.trans ⟨KeepsFrom.of_grownBy hg (fun j e=>by injection e with e;omega),(Below.refl _ _).grown hg hs (fun j e=>by injection e with e;omega),hg.block b2 hb (fun e=>by injection e with e;omega)⟩
theorem KpB.q(h:KpB B n0 b2 W W'){base m:Nat}(hq:QUp base m W' W'')(h0:n0<=base)(hm:m<B){xs:List Value}(hA:Arr W' b2 77 xs)(hne:b2≠m):KpB B n0 b2 W W'':=
 h.trans ⟨⟨hq.below.size,fun k o hk ho hc=>hq.same k o ho (by cases o<;>first|rfl|(cases hc)) (by omega)⟩,hq.below.mono h0,(hq.same b2 _ hA rfl hne).trans hA.symm⟩
end
theorem zQs{base q m n:Nat}{w:World}{f:Int->Option Int}(h:Que base q m w n f)(x k:Int)(hx:Wrd x)(hnn:n<1000000000) :
  Calls prog 81 #[.pointer (some ⟨q,0,none⟩),.int .u32 x,.int .i64 k] w (uXd base q m w (upN f x n) (xQi f x k)):=by
 cases hf:f x with
 |none=>
  have e:upN f x n=n+1:=by unfold upN;rw[hf];rfl
  rw[e];exact zV4 h x k hx hf hnn
 |some v=>
  have e:upN f x n=n:=by unfold upN;rw[hf];rfl
  rw[e];exact vZ0 h x k hx (by rw[hf];rfl)
end
section
open Go.Shelf
attribute [local go_sem] Oper.semAt_some
theorem zJx(x:Int)(h : -9223372036854775808<=x)(h':x<=9223372036854775807):IntKind.i64.wrap x=x:=by
 simp[IntKind.wrap,IntKind.bits,IntKind.signed];omega
theorem zYe{fn:Func}{t u s:Tmp}(h:fn.results = #[.tmp t,.tmp u,.tmp s])(tmps:Array Value)(P:Program)(w:World) :
  (results fn tmps).run P w=.ok (.tuple #[tmps.getD t undef,tmps.getD u undef,tmps.getD s undef]) w:=by
 simp[results,h]
theorem xYz{P:Program}{fn:Func}{R:Ending->World->Prop}{n B:Nat}{t u s:Tmp}{a:Act}{W:World}(h:fn.results = #[.tmp t,.tmp u,.tmp s])(hm:MarksOk B a.defers W)(hR:∀W',MTurn B W W'->R (.returned (.tuple #[a.tmps.getD t undef,a.tmps.getD u undef,a.tmps.getD s undef])) W'):bodyPostM Fence.wide n P fn R .ret a W:=
 xVy hm fun W' h'=>⟨zYe h _ _ _,hR W' h'⟩
def zYf(n:Nat)(t:TaskV):Prop:=∀qs,Fp n t.ops t.goal t.init qs->1000000000<=xJ6 (t.ops.map (·.cost)) qs
def yZh(n:Nat)(t:TaskV)(ps:List Nat):Prop:=∀qs,Fp n t.ops t.goal t.init qs->xJ6 (t.ops.map (·.cost)) qs<1000000000->4096*xJ6 (t.ops.map (·.cost)) ps+ps.length<=4096*xJ6 (t.ops.map (·.cost)) qs+qs.length
def BestP(n:Nat)(t:TaskV)(w0 w:World)(ls:List (List Int))(e:Ending)(w':World):Prop:=Below w0.heap.size w0 w' /\
 (
   (∃ne:Nat,e=.returned (.tuple #[.slice none 0 0,.int .i64 ne,.bool false])/\zYf n t) \/
   (∃(v:Value) (ne:Nat) (l:List Int) (ps:List Nat),e=.returned (.tuple #[v,.int .i64 ne,.bool true])/\(∃B,w0.heap.size<=B/\OwnI B w' v (ps.map Int.ofNat))/\Pth n t.ops t.init l ps/\(∀q∈t.goal,q∈l)/\ps.length+1<=ls.length/\yZh n t ps))
def CntA(ls:List (List Int))(nh nP nB:Nat)(fh:Int->Option Int)(fP fB:Int->Option Value):Prop:=nh+unF ls (hF fh)<=ls.length/\nP+unF ls fP<=ls.length/\nB+unF ls fB<=ls.length
def PMem(ls:List (List Int))(D:List Int->Int)(fP:Int->Option Value):Prop:=∀l∈ls,(D l=1000000000/\fP (xJ0 l)=none)\/(D l<1000000000/\D l+409601*(unF ls fP:Int)<=409601*(ls.length:Int)/\fP (xJ0 l)=some (.int .i64 (D l)))
theorem PMem.start{n:Nat}{ls:List (List Int)}{st:List Int}(hn:ls.Nodup)(hs:∀x∈ls,SetP x (n:Int))(hst:st∈ls):PMem ls (D0 st) (upd (fun _=>none) (xJ0 st) (.int .i64 0)):=fun l hl=>by
 have h1:=xWm (f:=fun _=>none) (v:=.int .i64 0) hn hs hst 0;rw[xKw] at h1
 by_cases e:l=st
 ·subst e;right;have e2:D0 l l=0:=if_pos rfl;rw[e2,xXo];refine⟨by omega,by omega,rfl⟩
 ·left;exact⟨if_neg e,by rw[xJq _ _ (fun e2=>e (xJp (hs l hl) (hs st hst) e2))]⟩
theorem PMem.put{n:Nat}{ls:List (List Int)}{D:List Int->Int}{fP:Int->Option Value}{s l':List Int}{N c:Int}(h:PMem ls D fP)(hn:ls.Nodup)(hset:∀x∈ls,SetP x (n:Int))(hs:s∈ls)(hsD:D s<1000000000)(hl:l'∈ls)(hN:N=D s+(c*4096+1))(hc:0<=c/\c<=100)(hlt:N<D l')(hls:ls.length<=2000) :
  PMem ls (xKf D l' N) (upd fP (xJ0 l') (.int .i64 N)):=by
 have h1:=xWm (f:=fP) (v:=.int .i64 N) hn hset hl 0;have hP:=h s hs;have hsb:D s+409601*(unF ls fP:Int)<=409601*(ls.length:Int):=by rcases hP with h2|h2<;>omega
 intro x hx
 by_cases e:x=l'
 ·subst e;right;have e2:xKf D x N x=N:=if_pos rfl;rw[e2,xXo];rcases h x hx with⟨h2,h3⟩|⟨h2,h3,h4⟩
  ·have h5:up1 fP (xJ0 x) 0=1:=by unfold up1;rw[h3];rfl
   refine⟨by omega,by omega,rfl⟩
  ·have h5:up1 fP (xJ0 x) 0=0:=by unfold up1;rw[h4];rfl
   refine⟨by omega,by omega,rfl⟩
 ·have e2:xKf D l' N x=D x:=if_neg e;rw[e2,xJq _ _ (fun e3=>e (xJp (hset x hx) (hset l' hl) e3))];rcases h x hx with h2|⟨h2,h3,h4⟩
  ·exact .inl h2
  ·refine .inr ⟨h2,by omega,h4⟩
theorem CntA.h{n:Nat}{ls:List (List Int)}{nh nP nB:Nat}{fh fh':Int->Option Int}{fP fB:Int->Option Value}(h:CntA ls nh nP nB fh fP fB)(hn:ls.Nodup)(hset:∀x∈ls,SetP x (n:Int)){l:List Int}(hl:l∈ls){v:Int}(e:hF fh'=upd (hF fh) (xJ0 l) (.int .i64 v)):CntA ls (up1 (hF fh) (xJ0 l) nh) nP nB fh' fP fB:=by
 refine⟨?_,h.2⟩;rw[e,xWm hn hset hl];exact h.1
theorem CntA.pb{n:Nat}{ls:List (List Int)}{nh nP nB:Nat}{fh:Int->Option Int}{fP fB:Int->Option Value}(h:CntA ls nh nP nB fh fP fB)(hn:ls.Nodup)(hset:∀x∈ls,SetP x (n:Int)){l:List Int}(hl:l∈ls)(u v:Value):CntA ls nh (up1 fP (xJ0 l) nP) (up1 fB (xJ0 l) nB) fh (upd fP (xJ0 l) u) (upd fB (xJ0 l) v):=
 ⟨h.1,by rw[xWm hn hset hl];exact h.2.1,by rw[xWm hn hset hl];exact h.2.2⟩
def IBest(k:Blk)(w0 w:World)(t:TaskV)(Ai Ag Ao:Option Addr)(ci cg co:Nat)(ds:List Deferred)(nE:Nat)(fE:Int->Option Value)(n:Nat)(ls:List (List Int))(b9 b2 M:Nat)(s:List Int)(d:Int)(pre:List (xQk n t.ops s))(W:World):Prop:=
 ∃(nh nP nB nq:Nat) (fh:Int->Option Int) (fP fB:Int->Option Value) (fq:Int->Option Int) (D:List Int->Int),BM k w0 w t Ai Ag Ao ci cg co ds nh nP nB nE nq fh fP fB fE fq W/\Hid (AS1 n t.ops t.goal t.init ls D fB fh fq s d (pre.map (·.1)))/\Hid (HeuOk n t fh)/\Hid (CntA ls nh nP nB fh fP fB)/\Hid (PMem ls D fP)/\Hid (2*zZb ls D+nq<=M)/\Arr W b9 77 [.int .u32 (xJ0 s)]/\Arr W b2 77 [.int .u32 (xJ0 s)]/\b2+1<=W.heap.size
theorem IBest.turn{k:Blk}{w0 w W0 W W':World}{t:TaskV}{Ai Ag Ao:Option Addr}{ci cg co:Nat}{ds:List Deferred}{nE:Nat}{fE:Int->Option Value}{n:Nat}{ls:List (List Int)}{b9 b2 M:Nat}{s:List Int}{d:Int}{pre:List (xQk n t.ops s)}(hk0:MarksOk w.heap.size ds W0)(hM0:k.me<W0.heap.size)
  (h:IBest k w0 w t Ai Ag Ao ci cg co ds nE fE n ls b9 b2 M s d pre W) (ht:Turn W0.heap.size W W'):IBest k w0 w t Ai Ag Ao ci cg co ds nE fE n ls b9 b2 M s d pre W':=by
 obtain⟨nh,nP,nB,nq,fh,fP,fB,fq,D,h1,h2,h3,h4,h5,h6,h7,h8,h9⟩:=h;have hsz:W.heap.size<=W'.heap.size:=by obtain⟨row,hg,_⟩:=ht;exact hg.size
 exact⟨nh,nP,nB,nq,fh,fP,fB,fq,D,h1.turn hk0 hM0 ht,h2,h3,h4,h5,h6,h7.turn ht,h8.turn ht,yJ1 h9 hsz⟩
theorem vK3{n:Nat}{t:TaskV}{ls:List (List Int)}{D:List Int->Int}{Pa fP:Int->Option Value}{fh fq:Int->Option Int}(h:ASt n t.ops t.goal t.init ls D Pa fh fq)(hC:Clos n t.ops t.init ls)(hv:Valid t)(hn:t.facts=n)(hH:HeuOk n t fh)(hP:PMem ls D fP)(hl:ls.length<=2000)(he:∀x,fq x=none):zYf n t:=fun qs hq=>by
 refine vXe fun hc=>?_
 have hb:∀l∈ls,D l<1000000000->D l<900000000:=fun l h1 h2=>by rcases hP l h1 with h3|h3<;>omega
 obtain⟨x,k,h1,_⟩:=h.queued hC hv hn hb hH hq hC.hst (by rw[h.d0];omega) (by omega) 0 (by rw[h.d0];omega);rw[he] at h1;cases h1
theorem yZi{n:Nat}{t:TaskV}{ls:List (List Int)}{D:List Int->Int}{Pa fP:Int->Option Value}{fh fq:Int->Option Int}(h:ASt n t.ops t.goal t.init ls D Pa fh fq)(hC:Clos n t.ops t.init ls)(hv:Valid t)(hn:t.facts=n)(hH:HeuOk n t fh)(hP:PMem ls D fP)(hl:ls.length<=2000){l:List Int}{k:Int}{ps:List Nat}(hlm:l∈ls)(hk:fq (xJ0 l)=some k)(hmin:∀y k',fq y=some k'->k<=k')(hps:4096*xJ6 (t.ops.map (·.cost)) ps+ps.length<=D l):yZh n t ps:=fun qs hq hc=>by
 have hb:∀l∈ls,D l<1000000000->D l<900000000:=fun l h1 h2=>by rcases hP l h1 with h3|h3<;>omega
 obtain⟨x,k',h1,h2⟩:=h.queued hC hv hn hb hH hq hC.hst (by rw[h.d0];omega) hc 0 (by rw[h.d0];omega);have h3:=hmin _ _ h1;obtain⟨l',h4,h5,h6,v,h7,h8⟩:=h.q _ _ hk;have e:=xJp (hC.set l' h4) (hC.set l hlm) h5;subst e;have h9:=(hH l' (hC.set l' h4) v h7).1;omega
theorem vQj{n:Nat}{t:TaskV}(hv:Valid t)(hn:t.facts=n)(hs:SetP t.init (n:Int)){h:Int}(hc:xYu n t t.init h)(hi:1000000000<=h):zYf n t:=fun qs hq=>by
 refine vXe fun hc2=>?_
 have:=hq.low hv hn hs (by omega);have:=hc.2.2;omega
theorem vK4{B b:Nat}{w w':World}{v:Value}{xs:List Int}(h:OwnI B w v xs)(hm:MTurn b w w'):OwnI B w' v xs:=zKb h hm
theorem vK5{base g n hb:Nat}{w0 w:World}{t:TaskV}{Ai Ag Ao:Option Addr}{ci cg co:Nat}{ls:List (List Int)}(hW:WMem base w0 g t)(hT:TaskMem w0 Ai Ag Ao t)(hB0:Below w0.heap.size w0 w)(hX:HBox hb w t Ai Ag Ao ci cg co)(hMh:MapF w (hb+1+1) 0 (hF fun _=>none))(hhb:w0.heap.size<=hb)(hn:t.facts=n)(hv:Valid t)(hC:Clos n t.ops t.init ls)(hl:ls.length<=2000) :
  Calls prog 58 #[.iface 71 (.pointer (some ⟨g,0,none⟩)),.func (.func 115) #[] #[.pointer (some ⟨(hb+1+1+1),0,none⟩),.pointer (some ⟨hb,0,none⟩),.pointer (some ⟨(hb+1),0,none⟩)]] w (BestP n t w0 w ls):=by
 have hvs:=zY6 hv hn;have hn24:=hvs.n24;have hSi:=hvs.init;have hwi:=hSi.wrd hn24;have HVS:=lHd hvs;have HV:=lHd hv;have HC:=lHd hC;have hs1:=fun n w=>vKa ⟨g,0,none⟩ n w
 have hs2:=fun n w=>vKb ⟨g,0,none⟩ n w
 have hs3:=fun n w=>uJ4 ⟨g,0,none⟩ n w
 have hmm:=@run_makeMap prog;have hz0:=hB0.size;have hxl:=hX.lt;clear hvs hv hC;refine xQq func58 rfl ?_;simp only[ntmps58,List.size_toArray,List.length_cons,List.length_nil,Nat.reduceAdd,Nat.reduceSub,Array.replicate_succ,Array.replicate_zero,List.push_toArray,List.append_toArray,List.nil_append,List.cons_append];have hB1:Below w0.heap.size w0 (w.alloc (.cells #[.func (.func 115) #[] #[.pointer (some ⟨(hb+1+1+1),0,none⟩),.pointer (some ⟨hb,0,none⟩),.pointer (some ⟨(hb+1),0,none⟩)]] 93)):=mvh;have hX1:HBox hb (w.alloc (.cells #[.func (.func 115) #[] #[.pointer (some ⟨(hb+1+1+1),0,none⟩),.pointer (some ⟨hb,0,none⟩),.pointer (some ⟨(hb+1),0,none⟩)]] 93)) t Ai Ag Ao ci cg co:=mvh;have hM1:MapF (w.alloc (.cells #[.func (.func 115) #[] #[.pointer (some ⟨(hb+1+1+1),0,none⟩),.pointer (some ⟨hb,0,none⟩),.pointer (some ⟨(hb+1),0,none⟩)]] 93)) (hb+1+1) 0 (hF fun _=>none):=mvh;have hb1:Arr (w.alloc (.cells #[.func (.func 115) #[] #[.pointer (some ⟨(hb+1+1+1),0,none⟩),.pointer (some ⟨hb,0,none⟩),.pointer (some ⟨(hb+1),0,none⟩)]] 93)) w.heap.size 93 [.func (.func 115) #[] #[.pointer (some ⟨(hb+1+1+1),0,none⟩),.pointer (some ⟨hb,0,none⟩),.pointer (some ⟨(hb+1),0,none⟩)]]:=Arr.new_at w _ rfl _ _;have hc1:=hb1.cell 0
 go_wp2_with (go_at_call 31;refine(xWx (WMem.below hW hB1)).mono ?_;rintro e w' ⟨rfl,rfl⟩)
 refine(xQs hT hB1 hX1 hM1 (by omega) hn HV.out hSi (HeuOk.nil n t) (by simp;omega)).mono ?_;rintro e w2 ⟨h0,fh,rfl,hcv,hfh,hext,hok,hFe,hM2,hg2⟩;have hX2:HBox hb w2 t Ai Ag Ao ci cg co:=mvh;have hb2:Arr w2 w.heap.size 93 [.func (.func 115) #[] #[.pointer (some ⟨(hb+1+1+1),0,none⟩),.pointer (some ⟨hb,0,none⟩),.pointer (some ⟨(hb+1),0,none⟩)]]:=mvh;have hB2:Below w0.heap.size w0 w2:=mvh;have hz2:=hg2.size;simp only[World.size_alloc] at hz2;have hk2:MarksOk w.heap.size [] w2:=MarksOk.nil _ _;have HI:=lHd (vQj HV.out hn hSi hcv);have HH:=lHd hok;have HFE:=lHd hFe;have hnh1:up1 (hF fun _=>none) (xJ0 t.init) 0<=1:=zYx _ _ _;clear hX1 hM1 hb1 hc1 hB1 hcv hok hfh hFe hext hMh
 by_cases hinf:1000000000<=h0
 ·have HI2:=lHd (HI.out hinf);go_wp2
  (try simp only[Exit.inBlock,Exit.then])
  refine xYz rfl hk2 ?_;intro W' hW';exact⟨hB2.trans (hW'.below.mono (by omega)),.inl ⟨0,rfl,HI2.out⟩⟩
 ·have hlt0:h0<1000000000:=by omega
  have hMm:=MapF.made w2;have hMh2:=hM2
  go_wp2_with (first|(refine xVx rfl (.tmp 25) (.tmp 26) (.const (.int .i64 0)) 75 rfl 3 underlying75 rfl (MapF.made w2) (by omega) (xJ0 t.init) (.int .i64 0) rfl rfl hwi ?_;intro w3 hM3 hg3;have hz3:=hg3.size;simp only[World.size_alloc] at hz3;have hMn:=MapF.made_at (w3.alloc (.cells #[.map (some w2.heap.size)] 75)) (w3.heap.size+1) (by simp))|(refine xVx rfl (.tmp 28) (.tmp 29) (.tmp 31) 181 rfl 180 underlying181 rfl hMn (by omega) (xJ0 t.init) (.agg #[.int .u32 (xJ0 t.init),.int .i64 0]) rfl rfl hwi ?_;intro w4 hM4 hg4;have hz4:=hg4.size;simp only[World.size_alloc] at hz4)|(go_at_call 79;(refine(vQh _).mono ?_);rintro e w5 ⟨rfl,hQ5,hB5⟩))
  have hz5:=hB5.size;simp only[World.size_alloc] at hQ5 hz5;have hX3:HBox hb w3 t Ai Ag Ao ci cg co:=mvh;have hMh3:MapF w3 (hb+1+1) (up1 (hF fun _=>none) (xJ0 t.init) 0) (hF fh):=mvh;have hb3:Arr w3 w.heap.size 93 [.func (.func 115) #[] #[.pointer (some ⟨(hb+1+1+1),0,none⟩),.pointer (some ⟨hb,0,none⟩),.pointer (some ⟨(hb+1),0,none⟩)]]:=mvh;have hB3:Below w0.heap.size w0 w3:=mvh;have hX4:HBox hb w4 t Ai Ag Ao ci cg co:=mvh;have hMh4:MapF w4 (hb+1+1) (up1 (hF fun _=>none) (xJ0 t.init) 0) (hF fh):=mvh;have hb4:Arr w4 w.heap.size 93 [.func (.func 115) #[] #[.pointer (some ⟨(hb+1+1+1),0,none⟩),.pointer (some ⟨hb,0,none⟩),.pointer (some ⟨(hb+1),0,none⟩)]]:=mvh;have hB4:Below w0.heap.size w0 w4:=mvh;have hMp4:MapF w4 w2.heap.size (up1 (fun _=>none) (xJ0 t.init) 0) (upd (fun _=>none) (xJ0 t.init) (.int .i64 0)):=mvh;have hbp0:Arr ((w3.alloc (.cells #[.map (some w2.heap.size)] 75)).alloc (.map #[] 0)) w3.heap.size 75 [.map (some w2.heap.size)]:=(Arr.new_at w3 _ rfl _ _).alloc _;have hbp4:Arr w4 w3.heap.size 75 [.map (some w2.heap.size)]:=mvh;have hba0:Arr (w4.alloc (.cells #[.map (some (w3.heap.size+1))] 181)) w4.heap.size 181 [.map (some (w3.heap.size+1))]:=Arr.new_at w4 _ rfl _ _;have hX5:=HBox.below (B:=0) (hX4.alloc _) hB5;have hMh5:=(hMh4.alloc _).below hB5 (by simp;omega);have hb5:=(hb4.alloc _).below hB5;have hB50:=(hB4.alloc (by omega) _).trans (hB5.mono (by simp;omega));have hMp5:=(hMp4.alloc _).below hB5 (by simp;omega);have hbp5:=(hbp4.alloc _).below hB5;have hMa5:=(hM4.alloc _).below hB5 (by simp;omega);have hba5:=hba0.below hB5;have hql:=hQ5.qlt;obtain⟨W5,hW5⟩:∃x,Hid (x=(w5.alloc (.cells #[.pointer (some ⟨w4.heap.size+1+1,0,none⟩)] 132)).drew):=⟨_,rfl⟩;have hbq5:=har hW5 ((Arr.new_at w5 _ rfl _ _).drew);have gX5:HBox hb W5 t Ai Ag Ao ci cg co:=by rw[hW5.out];exact mvh
  have gM5:MapF W5 (hb+1+1) (up1 (hF fun _=>none) (xJ0 t.init) 0) (hF fh):=by rw[hW5.out];exact mvh
  have gb5:Arr W5 w.heap.size 93 [.func (.func 115) #[] #[.pointer (some ⟨(hb+1+1+1),0,none⟩),.pointer (some ⟨hb,0,none⟩),.pointer (some ⟨(hb+1),0,none⟩)]]:=by rw[hW5.out];exact mvh
  have gB5:Below w0.heap.size w0 W5:=by rw[hW5.out];exact mvh
  have gMp5:MapF W5 w2.heap.size (up1 (fun _=>none) (xJ0 t.init) 0) (upd (fun _=>none) (xJ0 t.init) (.int .i64 0)):=by rw[hW5.out];exact mvh
  have gbp5:Arr W5 w3.heap.size 75 [.map (some w2.heap.size)]:=by rw[hW5.out];exact mvh
  have gMa5:MapF W5 (w3.heap.size+1) (up1 (fun _=>none) (xJ0 t.init) 0) (upd (fun _=>none) (xJ0 t.init) (.agg #[.int .u32 (xJ0 t.init),.int .i64 0])):=by rw[hW5.out];exact mvh
  have gba5:Arr W5 w4.heap.size 181 [.map (some (w3.heap.size+1))]:=by rw[hW5.out];exact mvh
  have gQ5:Que (w4.heap.size+1) (w4.heap.size+1+1) (w4.heap.size+1) W5 0 (fun _=>none):=by rw[hW5.out];exact mvh
  have gz5:w5.heap.size+1<=W5.heap.size:=by rw[hW5.out];exact Nat.le_of_eq (World.size_alloc _ _).symm
  clear hX2 hb2 hB2 hk2 hX3 hMh3 hb3 hB3 hX4 hMh4 hb4 hB4 hMp4 hbp0 hbp4 hba0 hX5 hMh5 hb5 hB50 hMp5 hbp5 hMa5 hba5 hM3 hg3 hM4 hg4 hMm hMn hQ5 hMh2 hM2 hg2 hB5;have hSS0:(w5.alloc (.cells #[.pointer (some ⟨w4.heap.size+1+1,0,none⟩)] 132)).drew.cell? ⟨w5.heap.size,0,none⟩=some (.pointer (some ⟨w4.heap.size+1+1,0,none⟩))/\(w5.alloc (.cells #[.pointer (some ⟨w4.heap.size+1+1,0,none⟩)] 132)).drew.cell? ⟨w.heap.size,0,none⟩=some (.func (.func 115) #[] #[.pointer (some ⟨(hb+1+1+1),0,none⟩),.pointer (some ⟨hb,0,none⟩),.pointer (some ⟨(hb+1),0,none⟩)]):=by rw[<- hW5.out];exact⟨hbq5.cell 0,gb5.cell 0⟩
  go_wp2;refine xZ4 (fun W=>W.cell? ⟨w5.heap.size,0,none⟩=some (.pointer (some ⟨w4.heap.size+1+1,0,none⟩))/\W.cell? ⟨w.heap.size,0,none⟩=some (.func (.func 115) #[] #[.pointer (some ⟨(hb+1+1+1),0,none⟩),.pointer (some ⟨hb,0,none⟩),.pointer (some ⟨(hb+1),0,none⟩)])) [] (by kernel_rfl) ?_;have hSS:=hSS0;refine tkK 0 ?_;refine tkK 1 ?_;refine tkK 2 ?_;refine tkK 3 ?_;refine kdo 4 (fun K hK=>?_);go_simp;go_at_call 115;rw[<- hW5.out];refine(xQs hT gB5 gX5 gM5 (by omega) hn HV.out hSi HH.out (by omega)).mono ?_;rintro e w6 ⟨h1,fh1,rfl,hcv1,hfh1,hext1,hok1,hFe1,hM6,hg6⟩;have hb6:Arr w6 w.heap.size 93 [.func (.func 115) #[] #[.pointer (some ⟨(hb+1+1+1),0,none⟩),.pointer (some ⟨hb,0,none⟩),.pointer (some ⟨(hb+1),0,none⟩)]]:=mvh;have hq6:Arr w6 w5.heap.size 132 [.pointer (some ⟨w4.heap.size+1+1,0,none⟩)]:=mvh;have hQ6:Que (w4.heap.size+1) (w4.heap.size+1+1) (w4.heap.size+1) w6 0 (fun _=>none):=mvh;have hcvb:=hcv1.1;have hcvb2:=hcv1.2.1
  go_wp2_with fail
  have hSS:w6.cell? ⟨w5.heap.size,0,none⟩=some (.pointer (some ⟨w4.heap.size+1+1,0,none⟩))/\w6.cell? ⟨w.heap.size,0,none⟩=some (.func (.func 115) #[] #[.pointer (some ⟨(hb+1+1+1),0,none⟩),.pointer (some ⟨hb,0,none⟩),.pointer (some ⟨(hb+1),0,none⟩)]):=⟨hq6.cell 0,hb6.cell 0⟩;refine hK.out _ _ hSS ?_;clear hK K
  try simp only[ap]
  refine kdo 5 (fun K hK=>?_);go_simp
  go_wp2_with fail
  rw[zJx _ (by omega) (by omega)];have hSS:w6.cell? ⟨w5.heap.size,0,none⟩=some (.pointer (some ⟨w4.heap.size+1+1,0,none⟩))/\w6.cell? ⟨w.heap.size,0,none⟩=some (.func (.func 115) #[] #[.pointer (some ⟨(hb+1+1+1),0,none⟩),.pointer (some ⟨hb,0,none⟩),.pointer (some ⟨(hb+1),0,none⟩)]):=⟨hq6.cell 0,hb6.cell 0⟩;refine hK.out _ _ hSS ?_;clear hK K
  try simp only[ap]
  refine kdo 6 (fun K hK=>?_);go_simp;go_at_call 81;refine(zQs hQ6 (xJ0 t.init) (4096*h1) hwi (by omega)).mono ?_;rintro e w7 ⟨rfl,hQ7,hU7⟩;have hqm6:=hQ6.obj;have hb7:Arr w7 w.heap.size 93 [.func (.func 115) #[] #[.pointer (some ⟨(hb+1+1+1),0,none⟩),.pointer (some ⟨hb,0,none⟩),.pointer (some ⟨(hb+1),0,none⟩)]]:=mvh;have hq7:Arr w7 w5.heap.size 132 [.pointer (some ⟨w4.heap.size+1+1,0,none⟩)]:=mvh
  go_wp2_with fail
  have hSS:w7.cell? ⟨w5.heap.size,0,none⟩=some (.pointer (some ⟨w4.heap.size+1+1,0,none⟩))/\w7.cell? ⟨w.heap.size,0,none⟩=some (.func (.func 115) #[] #[.pointer (some ⟨(hb+1+1+1),0,none⟩),.pointer (some ⟨hb,0,none⟩),.pointer (some ⟨(hb+1),0,none⟩)]):=⟨hq7.cell 0,hb7.cell 0⟩;refine hK.out _ _ hSS ?_;clear hK K
  try simp only[ap]
  refine kdn ?_ _;dsimp only[zVt];obtain⟨k,hk⟩:∃k:Blk,k=⟨hb,w.heap.size,w2.heap.size,w3.heap.size,w3.heap.size+1,w4.heap.size,w4.heap.size+1,w4.heap.size+1+1,w5.heap.size,w7.heap.size⟩:=⟨_,rfl⟩;have hz6:=hg6.size;have hz7:=hU7.below.size;have gX6:HBox hb w6 t Ai Ag Ao ci cg co:=mvh;have gB6:Below w0.heap.size w0 w6:=mvh;have gMp6:MapF w6 w2.heap.size (up1 (fun _=>none) (xJ0 t.init) 0) (upd (fun _=>none) (xJ0 t.init) (.int .i64 0)):=mvh;have gbp6:Arr w6 w3.heap.size 75 [.map (some w2.heap.size)]:=mvh;have gMa6:MapF w6 (w3.heap.size+1) (up1 (fun _=>none) (xJ0 t.init) 0) (upd (fun _=>none) (xJ0 t.init) (.agg #[.int .u32 (xJ0 t.init),.int .i64 0])):=mvh;have gba6:Arr w6 w4.heap.size 181 [.map (some (w3.heap.size+1))]:=mvh;have gX7:HBox hb w7 t Ai Ag Ao ci cg co:=mvh;have gM7:MapF w7 (hb+1+1) (up1 (hF fh) (xJ0 t.init) (up1 (hF fun _=>none) (xJ0 t.init) 0)) (hF fh1):=mvh;have gb7:Arr w7 w.heap.size 93 [.func (.func 115) #[] #[.pointer (some ⟨(hb+1+1+1),0,none⟩),.pointer (some ⟨hb,0,none⟩),.pointer (some ⟨(hb+1),0,none⟩)]]:=mvh;have gbq7:Arr w7 w5.heap.size 132 [.pointer (some ⟨w4.heap.size+1+1,0,none⟩)]:=mvh;have gMp7:MapF w7 w2.heap.size (up1 (fun _=>none) (xJ0 t.init) 0) (upd (fun _=>none) (xJ0 t.init) (.int .i64 0)):=mvh;have gbp7:Arr w7 w3.heap.size 75 [.map (some w2.heap.size)]:=mvh;have gMa7:MapF w7 (w3.heap.size+1) (up1 (fun _=>none) (xJ0 t.init) 0) (upd (fun _=>none) (xJ0 t.init) (.agg #[.int .u32 (xJ0 t.init),.int .i64 0])):=mvh;have gba7:Arr w7 w4.heap.size 181 [.map (some (w3.heap.size+1))]:=mvh;have gB7:Below w0.heap.size w0 w7:=mvh;have hBM:BM k w0 w t Ai Ag Ao ci cg co [] (up1 (hF fh) (xJ0 t.init) (up1 (hF fun _=>none) (xJ0 t.init) 0)) (up1 (fun _=>none) (xJ0 t.init) 0) (up1 (fun _=>none) (xJ0 t.init) 0) 0 (upN (fun _=>none) (xJ0 t.init) 0) fh1 (upd (fun _=>none) (xJ0 t.init) (.int .i64 0)) (upd (fun _=>none) (xJ0 t.init) (.agg #[.int .u32 (xJ0 t.init),.int .i64 0])) (fun _=>none) (xQi (fun _=>none) (xJ0 t.init) (4096*h1)) (w7.alloc (.map #[] 0)):=by
   subst hk;exact⟨⟨hhb,hxl,rfl,by dsimp only;omega,by dsimp only;omega,by dsimp only;omega,by dsimp only;omega,by dsimp only;omega,by dsimp only;omega,by dsimp only;omega,by dsimp only;omega⟩,gX7.alloc _,gM7.alloc _,gb7.alloc _,gMp7.alloc _,gbp7.alloc _,gMa7.alloc _,gba7.alloc _,hQ7.alloc _,gbq7.alloc _,MapF.made w7,MarksOk.nil _ _,gB7.alloc (by omega) _⟩
  have hk0:k.b0=w.heap.size/\k.bp=w3.heap.size/\k.ba=w4.heap.size/\k.bq=w5.heap.size/\k.me=w7.heap.size:=by subst hk;exact⟨rfl,rfl,rfl,rfl,rfl⟩
  have hcnt:CntA ls (up1 (hF fh) (xJ0 t.init) (up1 (hF fun _=>none) (xJ0 t.init) 0)) (up1 (fun _=>none) (xJ0 t.init) 0) (up1 (fun _=>none) (xJ0 t.init) 0) fh1 (upd (fun _=>none) (xJ0 t.init) (.int .i64 0)) (upd (fun _=>none) (xJ0 t.init) (.agg #[.int .u32 (xJ0 t.init),.int .i64 0])):=by
   have e0:CntA ls 0 0 0 (fun _=>none) (fun _=>none) (fun _=>none):=by
    have e:hF (fun _=>none)=fun _=>none:=rfl
    refine⟨?_,?_,?_⟩
    ·rw[e,xKw];omega
    ·rw[xKw];omega
    ·rw[xKw];omega
   exact((e0.h HC.out.nd HC.out.set HC.out.hst HFE.out).h HC.out.nd HC.out.set HC.out.hst hFe1).pb HC.out.nd HC.out.set HC.out.hst _ _
  have HCN:=lHd hcnt;have HPM:=lHd (PMem.start HC.out.nd HC.out.set HC.out.hst);have HAS:=lHd (ASt.start (n:=n) (ops:=t.ops) (goal:=t.goal) (Pa:=upd (fun _=>none) (xJ0 t.init) (.agg #[.int .u32 (xJ0 t.init),.int .i64 0])) HC.out.set HC.out.hst hfh1);have HOK:=lHd hok1;clear hcnt hfh1 hok1 hFe1 hext1 hcv1 gX5 gM5 gb5 gB5 gMp5 gbp5 gMa5 gba5 gQ5 gz5 hbq5 gX6 gB6 gMp6 gbp6 gMa6 gba6 gX7 gM7 gb7 gbq7 gMp7 gbp7 gMa7 gba7 gB7 hQ7 hU7 hQ6 hqm6 hb6 hq6 hM6 hg6 hSS0 hW5;go_wp2;rw[<- hk0.1,<- hk0.2.1,<- hk0.2.2.1,<- hk0.2.2.2.1,<- hk0.2.2.2.2];refine wp_loop_ghost_k (fun gk a wr=>∃(ds:List Deferred) (F:Array Value),(∃(nh nP nB nE nq:Nat) (fh:Int->Option Int) (fP fB fE:Int->Option Value) (fq:Int->Option Int) (D:List Int->Int),BM k w0 w t Ai Ag Ao ci cg co ds nh nP nB nE nq fh fP fB fE fq wr/\Hid (ASt n t.ops t.goal t.init ls D fB fh fq)/\Hid (HeuOk n t fh)/\Hid (CntA ls nh nP nB fh fP fB)/\nE+unF ls fE<=ls.length/\Hid (PMem ls D fP)/\Hid (gk=2*zZb ls D+nq))/\a={ tmps:=#[.iface 71 (.pointer (some ⟨g,0,none⟩)),fr F 1,fr F 2,.pointer (some ⟨k.b0,0,none⟩),fr F 4,fr F 5,fr F 6,.int .u32 (xJ0 t.init),.pointer (some ⟨k.bp,0,none⟩),.pointer (some ⟨k.ba,0,none⟩),.pointer (some ⟨k.bq,0,none⟩),.map (some k.me),fr F 12,fr F 13,fr F 14,fr F 15,fr F 16,fr F 17,fr F 18,fr F 19,fr F 20,fr F 21,fr F 22,fr F 23,fr F 24,fr F 25,fr F 26,fr F 27,fr F 28,fr F 29,fr F 30,fr F 31,fr F 32,fr F 33,fr F 34,fr F 35,fr F 36,fr F 37,fr F 38,fr F 39,fr F 40,fr F 41,fr F 42,fr F 43,fr F 44,fr F 45,fr F 46,fr F 47,fr F 48,fr F 49,fr F 50,fr F 51,fr F 52,fr F 53,fr F 54,fr F 55,fr F 56,fr F 57,fr F 58,fr F 59,fr F 60,fr F 61,fr F 62,fr F 63,fr F 64,fr F 65,fr F 66,fr F 67,fr F 68,fr F 69,fr F 70,fr F 71,fr F 72,fr F 73,fr F 74,fr F 75,fr F 76,fr F 77,fr F 78,fr F 79,fr F 80,fr F 81,fr F 82,fr F 83,fr F 84,fr F 85,fr F 86,fr F 87,fr F 88,fr F 89,fr F 90,fr F 91,fr F 92,fr F 93,fr F 94,fr F 95,fr F 96,fr F 97,fr F 98,fr F 99,fr F 100,fr F 101,fr F 102,fr F 103,fr F 104,fr F 105,fr F 106,fr F 107,fr F 108,fr F 109,fr F 110,fr F 111,fr F 112,fr F 113,fr F 114,fr F 115,fr F 116,fr F 117],defers:=ds }) (2*zZb ls (D0 t.init)+upN (fun _=>none) (xJ0 t.init) 0) ?start ?round
  case start=>exact⟨[],zQv ⟨_,_,_,_,_,_,_,_,_,_,_,hBM,HAS.out,HOK.out,HCN.out,by rw[xKw];omega,HPM.out,rfl⟩ rfl⟩
  case round=>
   clear hBM HAS HOK HCN HPM hcvb hcvb2 HI HH HFE hnh1 hk hk0 hX hB0;intro gk a wr hinv;obtain⟨ds,F,⟨nh,nP,nB,nE,nq,fh,fP,fB,fE,fq,D,hBM,hA,hH,hCn,hnE,hP,hgk⟩,rfl⟩:=hinv;intro J K hJ hK;obtain⟨c1,c2,c3,c4⟩:=hBM.cells;have hQ:=hBM.q;obtain⟨o1,o2,o3,o4,o5,o6,o7,o8,o9,o10,o11⟩:=hBM.ok;have o3a:w.heap.size<=k.b0:=by omega
   have o3b:k.b0<=w.heap.size:=by omega
   clear o3
   by_cases hq0:nq=0
   ·subst hq0;have HN:=lHd (vK3 hA.out HC.out HV.out hn hH.out hP.out hl hQ.empty);have HM:=lHd hBM.mks;have HB:=lHd hBM.bel;have hlen:=hBM.me.len underlying182 3;clear hA hH hCn hP hgk hBM hJ
    go_wp2_with (go_at_call 83;(refine(zJv hQ).mono ?_);rintro e w9 ⟨rfl,rfl⟩)
    (try simp only[Exit.inBlock,Exit.then])
    refine xYz rfl HM.out ?_;intro W' hW';exact⟨HB.out.trans (hW'.below.mono (by omega)),.inl ⟨nE,rfl,HN.out⟩⟩
   ·have hnn:0<nq:=by omega
    go_wp2_with (first|(go_at_call 83;(refine(zJv hQ).mono ?_);rintro e w9 ⟨rfl,rfl⟩)|(go_at_call 84;(refine(zW1 hQ hnn).mono ?_);rintro e w2 ⟨x,d0,hx,hfx,hmin,rfl,hQ2,hU2⟩;obtain⟨l,hlm,rfl,hlD,v1,hv1,hv2⟩:=hA.out.q _ _ hfx;have hBM2:=hBM.byQ hU2 hQ2;obtain⟨d1,d2,d3,d4⟩:=hBM2.cells))
    have hSl:=HC.out.set l hlm;have hwl:=hSl.wrd hn24;have hB2:=hBM2.bel;have hz2:=hBM2.lt
    by_cases hg:∀q∈t.goal,q∈l
    ·obtain⟨ps,sts,i1,i2,i3,i4,i5,i6⟩:=hA.out.toAB.trail HC.out.set hn24 HC.out.hst (fun o ho=>(HV.out.ops o ho).2.1) (D l).toNat l hlm hlD (Nat.le_refl _);have hlen1:ps.length+1<=ls.length:=by have:=xWh i4 (fun x hx=>(i5 x hx).1);omega
     have HCH:=lHd (yZi hA.out HC.out HV.out hn hH.out hP.out hl hlm hfx hmin i3);have HTR:=lHd i1;have HPT:=lHd i2;have HG:=lHd hg;clear hA hH hCn hP hgk hJ hmin hfx hlD i1 i2 i3 i4 i5 i6 hg hv1 hv2 hU2 hQ2 hQ hBM;refine(zWq (WMem.below hW (hB2.alloc (by omega) _)) HVS.out hSl HG.out).mono ?_;rintro e w' ⟨rfl,dd,rfl⟩;obtain⟨W3,hW3⟩:∃x,Hid (x=(w2.alloc (.cells #[.int .u32 (xJ0 l)] 77)).drewN dd):=⟨_,rfl⟩;rw[<- hW3.out];have hBM3:BM k w0 w t Ai Ag Ao ci cg co ds nh nP nB nE (nq-1) fh fP fB fE (zZd fq (xJ0 l)) W3:=by rw[hW3.out];exact(hBM2.alloc _).drewN _
     have hx3:=har hW3 ((Arr.new_at w2 _ rfl _ _).drewN _);have hxc3:=hx3.cell 0;obtain⟨e1,e2,e3,e4⟩:=hBM3.cells;have hz3:=hBM3.bel.size;clear hBM2 d1 d2 d3 d4 hB2 hW3
     go_wp2_with (go_at_call 113;refine(yXy hBM3.ma HTR.out (by simp;omega)).mono ?_;rintro e w5 ⟨hB5,v,rfl,hO5⟩;have hlen:=(hBM3.me.below hB5 hBM3.me.lt).len underlying182 3)
     (try simp only[Exit.inBlock,Exit.then])
     refine xYz rfl (hBM3.mks.below hB5) ?_;intro W' hW';exact⟨(hBM3.bel.trans (hB5.mono (by omega))).trans (hW'.below.mono (by omega)),.inr ⟨v,nE,l,ps,rfl,⟨W3.heap.size,by omega,vK4 hO5 hW'⟩,HPT.out,HG.out,hlen1,HCH.out⟩⟩
    ·have hAS1:=lHd (hA.out.take HC.out.set hlm hfx hg);obtain⟨dl,hdl⟩:∃x,Hid (x=D l):=⟨_,rfl⟩;rw[<- hdl.out] at hAS1;have HG:=lHd hg;have HHJ:=lHd hJ;clear hA hmin hfx hg hv1 hv2 hU2 hQ2 hQ hBM hJ;refine(vQe (WMem.below hW (hB2.alloc (by omega) _)) HVS.out hSl HG.out).mono ?_;rintro e w' ⟨rfl,dd,rfl⟩;obtain⟨W3,hW3⟩:∃x,Hid (x=(w2.alloc (.cells #[.int .u32 (xJ0 l)] 77)).drewN dd):=⟨_,rfl⟩;rw[<- hW3.out];have hBM3:BM k w0 w t Ai Ag Ao ci cg co ds nh nP nB nE (nq-1) fh fP fB fE (zZd fq (xJ0 l)) W3:=by rw[hW3.out];exact(hBM2.alloc _).drewN _
     have hx3:=har hW3 ((Arr.new_at w2 _ rfl _ _).drewN _);have hxc3:=hx3.cell 0;have hMe3:=hBM3.me;have hz3:w2.heap.size+1<=W3.heap.size:=hx3.lt;clear hBM2 d1 d2 d3 d4 hB2 hW3
     go_wp2_with (first|(at_mapUpdate;refine xXs rfl (.tmp 60) (.tmp 61) (.tmp 62) 182 rfl 184 underlying182 rfl hMe3 (by omega) (xJ0 l) (.agg #[]) rfl rfl hwl ?_;intro w4 hM4 hg4;have hx4:Arr w4 w2.heap.size 77 [.int .u32 (xJ0 l)]:=mvh;have hxc4:=hx4.cell 0)|(go_at_call 82;refine(xYn _ _ _).mono ?_;rintro e w' ⟨rfl,rfl⟩))
     have hBM4:=hBM3.byE hg4 hM4;have hz4:=hg4.size;have hz5:=hBM4.lt;have hnE4:up1 fE (xJ0 l) nE+unF ls (upd fE (xJ0 l) (.agg #[]))<=ls.length:=by rw[xWm HC.out.nd HC.out.set hlm];exact hnE
     have hB4:=hBM4.bel;have hm4:=hBM4.mks;clear hBM3 hx3 hxc3 hMe3 hM4 hg4;refine xVz (b1:=w4.heap.size) (b2:=w4.heap.size+1) (es:=15) hW HVS.out hSl ?hB ?hc1 ?hc2 ?hb2 rfl rfl (IBest k w0 w t Ai Ag Ao ci cg co ds (up1 fE (xJ0 l) nE) (upd fE (xJ0 l) (.agg #[])) n ls w2.heap.size (w4.heap.size+1) (2*zZb ls D+(nq-1)) l dl) ?hI ?hIs ?h0 ?hassign ?hbody ?hdone
     case hB=>exact mvh
     case hc1=>exact((Arr.new_at w4 _ rfl _ _).alloc _).cell 0
     case hc2=>exact(Arr.new_at (w4.alloc _) _ (by simp) _ [.int .u32 (xJ0 l)]).cell 0
     case hb2=>omega
     case hI=>exact fun pre W W' h ht=>h.turn ((hm4.alloc _).alloc _) (by simp;omega) ht
     case hIs=>rintro pre W ⟨_,_,_,_,_,_,_,_,_,_,_,_,_,_,_,_,_,h⟩;simpa using h
     case h0=>exact⟨nh,nP,nB,nq-1,fh,fP,fB,_,D,(hBM4.alloc _).alloc _,hAS1.out,hH.out,hCn.out,hP.out,Nat.le_refl _,mvh,Arr.new_at (w4.alloc _) _ (by simp) _ _,by simp⟩
     case hassign=>
      intro y x W K hK;simp only[xXl,List.setIfInBounds_toArray,List.set_cons_succ,List.set_cons_zero] at hK ⊢
      gi_wp2
      rfl
     case hdone=>
      intro D' xs W hD hxs hi hDh;obtain⟨nh',nP',nB',nq',fh',fP',fB',fq',D2,h1,h2,h3,h4,h5,h6,h7,h8,h9⟩:=hi;have HMK:=lHd (h1.mks.cons hDh (by simp at hD;omega) (((hm4.alloc _).alloc _).lt hD));have HA2:=lHd (h2.out.fin hxs);have HBM2:={ h1 with mks:=HMK.out };have HB2:=lHd HBM2;clear h1 h2 hDh hBM4 hm4 HBM2 h7 h8 hx4 hxc4;go_wp2;refine Handed.intro (2*zZb ls D2+nq') ?measure (HHJ.out _ _ _ ⟨vZ5 D'::ds,zQv ⟨nh',nP',nB',_,nq',fh',fP',fB',_,fq',D2,HB2.out,HA2.out,h3.out,h4.out,hnE4,h5.out,rfl⟩ rfl⟩)
      case measure=>
       have h:=h6.out;have h':=hgk.out;omega
     case hbody=>
      obtain⟨M,hM⟩:∃x,x=2*zZb ls D+(nq-1):=⟨_,rfl⟩;rw[<- hM];clear hM hdl hlD hBM4 hB4 hm4 hx4 hxc4 hAS1 hH hCn hP hgk HHJ hq0 hnn;intro y pre x Bx W hlt hi hx hBx a' ha';obtain⟨⟨p,o,l2⟩,hmem⟩:=x;obtain⟨nh,nP,nB,nq,fh,fP,fB,fq,D,h1,hA,hH,hCn,hP,hMe,h9,h11,h12⟩:=hi;obtain⟨hplt,hop,hpre,hnx⟩:=xXj.1 hmem;dsimp only at hop hpre hnx;have hl2m:l2∈ls:=by rw[hnx];exact HC.out.closed l hlm p o hop hpre
      have hB9:((w4.alloc (.cells #[.pointer (some ⟨g,0,none⟩)] 71)).alloc (.cells #[.int .u32 (xJ0 l)] 77)).heap.size=w4.heap.size+1+1:=by simp
      have HNX:=lHd hnx;clear hnx;have hSl2:=HC.out.set l2 hl2m;have hwl2:=hSl2.wrd hn24;have hoc:=(HV.out.ops o (lMg hop)).2;have hcur:=hA.out.cur;have hd1:=hA.out.hd;have hPl:fP (xJ0 l)=some (.int .i64 dl)/\dl+409601*(unF ls fP:Int)<=409601*(ls.length:Int):=by
       rcases hP.out l hlm with⟨u1,u2⟩|⟨u1,u2,u3⟩
       ·omega
       ·rw[hcur] at u2 u3;exact⟨u3,u2⟩
      have hd0:0<=dl:=by have:=hA.out.lo l hlm;omega
      have hd9:dl<=819202000:=by omega
      have hlk1:(Instr.lookup 75 (.map (some k.mp)) (.int .u32 (xJ0 l)) false).run prog W.drew=.ok (.int .i64 dl) W.drew:=by
       have h:=h1.mp.drew.look underlying75 (xXu _) hwl;rw[hPl.1] at h;exact h
      have hPl2:=hP.out l2 hl2m;obtain⟨c1,c2,c3,c4⟩:=h1.cells;have hsW:=h1.bel.size;have hxs1:=hx.cell 1;have hxs2:=hx.cell 2;have h9c:=h9.cell 0;have hnn:nh<1000000000000/\nP<1000000000000/\nB<1000000000000:=by have h:=hCn.out;unfold CntA at h;omega
      have hqn:nq<1000000000:=by
       have h:=h1.q.count (ls:=ls) (fun x hx=>by cases hk:fq x with
        |none=>exact absurd hk hx
        |some v=>obtain⟨l',e1,e2,_⟩:=hA.out.q x v hk;exact⟨l',e1,e2⟩)
       omega
      simp only[xXl,List.setIfInBounds_toArray,List.set_cons_succ,List.set_cons_zero] at ha';subst ha';have hSS0:W.drew.cell? ⟨k.bp,0,none⟩=some (.map (some k.mp))/\W.drew.cell? ⟨w2.heap.size,0,none⟩=some (.int .u32 (xJ0 l))/\W.drew.cell? ⟨Bx,1,none⟩=some (.int .i64 o.cost)/\(Instr.lookup 75 (.map (some k.mp)) (.int .u32 (xJ0 l)) false).run prog W.drew=.ok (.int .i64 dl) W.drew:=⟨c2,h9c,hxs1,hlk1⟩
      gi_wp2
      refine xVe (fun W=>W.cell? ⟨k.bp,0,none⟩=some (.map (some k.mp))/\W.cell? ⟨w2.heap.size,0,none⟩=some (.int .u32 (xJ0 l))/\W.cell? ⟨Bx,1,none⟩=some (.int .i64 o.cost)/\(Instr.lookup 75 (.map (some k.mp)) (.int .u32 (xJ0 l)) false).run prog W=.ok (.int .i64 dl) W) [] (by kernel_rfl) (by kernel_rfl) (fun _ _ h=>h) ?_;have hSS:=hSS0;refine tkK 0 ?_;refine tkK 1 ?_;refine tkK 2 ?_;refine tkK 3 ?_;refine tkK 4 ?_;refine kdo 5 (fun K hK=>?_);go_simp;go_at_call 114;refine(vYk _ hoc _).mono ?_;rintro e w9 ⟨rfl,rfl⟩
      go_wp2_with fail
      have hSS:=hSS0;refine hK.out _ _ hSS ?_;clear hK K
      try simp only[ap]
      refine kdo 6 (fun K hK=>?_);go_simp
      go_wp2_with fail
      rw[zJx _ (by omega) (by omega)];have hSS:=hSS0;refine hK.out _ _ hSS ?_;clear hK K
      try simp only[ap]
      refine kdo 7 (fun K hK=>?_);go_simp
      go_wp2_with fail
      have hSS:=hSS0;refine hK.out _ _ hSS ?_;clear hK K
      try simp only[ap]
      refine kdn ?_ _;obtain⟨N,hNH⟩:∃x,Hid (x=dl+(o.cost*4096+1)):=⟨_,rfl⟩;rw[<- hNH.out];have hNb:0<=N/\N<1000000000:=by have:=hNH.out;omega
      have hBM1:=h1.drew;have hzd:W.drew.heap.size=W.heap.size:=rfl;have hx1:=hx.drew;have h91:=h9.drew;have h111:=h11.drew;have hkp1:KpB (w4.heap.size+1+1) w0.heap.size (w4.heap.size+1) W W.drew:=(KpB.refl _ _ _ _).drew;have hlk2:=hBM1.mp.look_ok underlying75 (xXu _) hwl2;rcases hPl2 with⟨u1,u2⟩|⟨u1,u2,u3⟩
      case' inl=>
       rw[u2] at hlk2;simp only[Option.getD_none,Option.isSome_none] at hlk2;have hDl:N<D l2:=by have:=hNH.out;omega
       gi_wp2
       refine⟨trivial,CallsIn.mono (CallsIn.inRound y (callsIn_wide.2 (xQs hT hBM1.bel hBM1.hx hBM1.hm hnn.1 hn HV.out hSl2 hH.out (by omega)))) ?_⟩;rintro e w5 ⟨hv,fh1,rfl,hcv,hfh1,hext,hok,hFe,hM5,hg5⟩;have hm1:=hBM1.hm;have hBM5:=hBM1.byH hg5 hM5;have hx5:Arr w5 Bx 140 [.int .i64 (p:Int),.int .i64 o.cost,.int .u32 (xJ0 l2)]:=mvh;have h95:Arr w5 w2.heap.size 77 [.int .u32 (xJ0 l)]:=mvh;have h115:Arr w5 (w4.heap.size+1) 77 [.int .u32 (xJ0 l)]:=mvh;have hz5:=hg5.size;have hxc5:=hx5.cell 2;have ok5:=hBM5.bel.size;obtain⟨a51,a52,a53,a54⟩:=hBM5.cells;have hkp5:=hkp1.map hg5 (by omega) (by omega) (by omega) (by omega) (by omega);have hcvb1:=hcv.1;have hcvb2:=hcv.2.1;have hnh5:up1 (hF fh) (xJ0 l2) nh<1000000000000:=by have h:=(hCn.out.h HC.out.nd HC.out.set hl2m hFe).1;omega
       by_cases hinf:1000000000<=hv
       ·gi_wp2
        refine⟨by rw[hB9];exact hkp5.1,hkp5.2,_,nP,nB,nq,fh1,fP,fB,fq,D,hBM5,?_,hok,hCn.out.h HC.out.nd HC.out.set hl2m hFe,hP,hMe,h95,h115,by omega⟩;rw[vQu];exact(hA.out.ext hext).skip (.inl ⟨hv,hfh1,hinf⟩)
       ·have hfin:hv<1000000000:=by omega
        have hmp5:=hBM5.mp
        gi_wp2_with (first|(gi_at_mapUpdate;refine xXz rfl (.tmp 94) (.tmp 96) (.tmp 97) 75 rfl 3 underlying75 rfl hmp5 hnn.2.1 (xJ0 l2) (.int .i64 N) rfl rfl hwl2 ?_;intro w6 hM6 hg6;have hBM6:=hBM5.byP hg6 hM6;have hx6:Arr w6 Bx 140 [.int .i64 (p:Int),.int .i64 o.cost,.int .u32 (xJ0 l2)]:=mvh;have h96:Arr w6 w2.heap.size 77 [.int .u32 (xJ0 l)]:=mvh;have h116:Arr w6 (w4.heap.size+1) 77 [.int .u32 (xJ0 l)]:=mvh;have hz6:=hg6.size;have hxa6:=hx6.cell 0;have hxb6:=hx6.cell 1;have hxc6:=hx6.cell 2;have h9c6:=h96.cell 0;have ok6:=hBM6.bel.size;obtain⟨a61,a62,a63,a64⟩:=hBM6.cells;have hma6:=hBM6.ma)|(gi_at_mapUpdate;refine xXz rfl (.tmp 98) (.tmp 100) (.tmp 104) 181 rfl 180 underlying181 rfl hma6 hnn.2.2 (xJ0 l2) (.agg #[.int .u32 (xJ0 l),.int .i64 (p:Int)]) rfl rfl hwl2 ?_;intro w7 hM7 hg7;have hBM7:=hBM6.byB hg7 hM7;have hx7:Arr w7 Bx 140 [.int .i64 (p:Int),.int .i64 o.cost,.int .u32 (xJ0 l2)]:=mvh;have h97:Arr w7 w2.heap.size 77 [.int .u32 (xJ0 l)]:=mvh;have h117:Arr w7 (w4.heap.size+1) 77 [.int .u32 (xJ0 l)]:=mvh;have hz7:=hg7.size;have hxa7:=hx7.cell 0;have hxb7:=hx7.cell 1;have hxc7:=hx7.cell 2;have h9c7:=h97.cell 0;have ok7:=hBM7.bel.size;obtain⟨a71,a72,a73,a74⟩:=hBM7.cells))
        have hkp6:=hkp5.map hg6 (by omega) (by omega) (by omega) (by omega) (by omega);have hkp7:=hkp6.map hg7 (by omega) (by omega) (by omega) (by omega) (by omega);obtain⟨w8,hw8⟩:∃x,Hid (x=w7.drew):=⟨_,rfl⟩;have hBM8:BM k w0 w t Ai Ag Ao ci cg co ds (up1 (hF fh) (xJ0 l2) nh) (up1 fP (xJ0 l2) nP) (up1 fB (xJ0 l2) nB) (up1 fE (xJ0 l) nE) nq fh1 (upd fP (xJ0 l2) (.int .i64 N)) (upd fB (xJ0 l2) (.agg #[.int .u32 (xJ0 l),.int .i64 (p:Int)])) (upd fE (xJ0 l) (.agg #[])) fq w8:=by rw[hw8.out];exact hBM7.drew
        have hx8:=har hw8 (hx7);have h98:=har hw8 (h97);have h118:=har hw8 (h117);have hkp8:KpB (w4.heap.size+1+1) w0.heap.size (w4.heap.size+1) W w8:=by rw[hw8.out];exact hkp7.drew
        have hz8:w8.heap.size=w7.heap.size:=by rw[hw8.out];rfl
        have hSS0:w7.drew.cell? ⟨k.bq,0,none⟩=some (.pointer (some ⟨k.q,0,none⟩))/\w7.drew.cell? ⟨Bx,2,none⟩=some (.int .u32 (xJ0 l2))/\w7.drew.cell? ⟨k.b0,0,none⟩=some (.func (.func 115) #[] #[.pointer (some ⟨(k.hb+1+1+1),0,none⟩),.pointer (some ⟨k.hb,0,none⟩),.pointer (some ⟨(k.hb+1),0,none⟩)]):=⟨a74,hxc7,a71⟩;clear hM6 hM7 hmp5 hma6;refine xVe (fun W=>W.cell? ⟨k.bq,0,none⟩=some (.pointer (some ⟨k.q,0,none⟩))/\W.cell? ⟨Bx,2,none⟩=some (.int .u32 (xJ0 l2))/\W.cell? ⟨k.b0,0,none⟩=some (.func (.func 115) #[] #[.pointer (some ⟨(k.hb+1+1+1),0,none⟩),.pointer (some ⟨k.hb,0,none⟩),.pointer (some ⟨(k.hb+1),0,none⟩)])) [] (by kernel_rfl) (by kernel_rfl) (fun _ _ h=>h) ?_;have hSS:=hSS0;refine tkK 0 ?_;refine tkK 1 ?_;refine tkK 2 ?_;refine tkK 3 ?_;refine tkK 4 ?_;refine tkK 5 ?_;refine tkK 6 ?_;refine kdo 7 (fun K hK=>?_);go_simp;go_at_call 115;rw[<- hw8.out];refine(xQs hT hBM8.bel hBM8.hx hBM8.hm hnh5 hn HV.out hSl2 hok (by omega)).mono ?_;rintro e w9 ⟨hv2,fh2,rfl,hcv2,hfh2,hext2,hok2,hFe2,hM9,hg9⟩;have hme:hv2=hv:=by have h:=hext2 _ _ hfh1;rw[hfh2] at h;injection h
        subst hme;have hm8:=hBM8.hm;have hBM9:=hBM8.byH hg9 hM9;have hx9:Arr w9 Bx 140 [.int .i64 (p:Int),.int .i64 o.cost,.int .u32 (xJ0 l2)]:=mvh;have h99:Arr w9 w2.heap.size 77 [.int .u32 (xJ0 l)]:=mvh;have h119:Arr w9 (w4.heap.size+1) 77 [.int .u32 (xJ0 l)]:=mvh;have hz9:=hg9.size;have hxc9:=hx9.cell 2;obtain⟨a91,a92,a93,a94⟩:=hBM9.cells;have hQ9:=hBM9.q
        go_wp2_with fail
        have hSS:w9.cell? ⟨k.bq,0,none⟩=some (.pointer (some ⟨k.q,0,none⟩))/\w9.cell? ⟨Bx,2,none⟩=some (.int .u32 (xJ0 l2))/\w9.cell? ⟨k.b0,0,none⟩=some (.func (.func 115) #[] #[.pointer (some ⟨(k.hb+1+1+1),0,none⟩),.pointer (some ⟨k.hb,0,none⟩),.pointer (some ⟨(k.hb+1),0,none⟩)]):=⟨a94,hxc9,a91⟩;refine hK.out _ _ hSS ?_;clear hK K
        try simp only[ap]
        refine kdo 8 (fun K hK=>?_);go_simp
        go_wp2_with fail
        rw[zJx _ (by omega) (by omega)];have hSS:w9.cell? ⟨k.bq,0,none⟩=some (.pointer (some ⟨k.q,0,none⟩))/\w9.cell? ⟨Bx,2,none⟩=some (.int .u32 (xJ0 l2))/\w9.cell? ⟨k.b0,0,none⟩=some (.func (.func 115) #[] #[.pointer (some ⟨(k.hb+1+1+1),0,none⟩),.pointer (some ⟨k.hb,0,none⟩),.pointer (some ⟨(k.hb+1),0,none⟩)]):=⟨a94,hxc9,a91⟩;refine hK.out _ _ hSS ?_;clear hK K
        try simp only[ap]
        refine kdo 9 (fun K hK=>?_);go_simp
        go_wp2_with fail
        rw[zJx _ (by omega) (by omega)];have hSS:w9.cell? ⟨k.bq,0,none⟩=some (.pointer (some ⟨k.q,0,none⟩))/\w9.cell? ⟨Bx,2,none⟩=some (.int .u32 (xJ0 l2))/\w9.cell? ⟨k.b0,0,none⟩=some (.func (.func 115) #[] #[.pointer (some ⟨(k.hb+1+1+1),0,none⟩),.pointer (some ⟨k.hb,0,none⟩),.pointer (some ⟨(k.hb+1),0,none⟩)]):=⟨a94,hxc9,a91⟩;refine hK.out _ _ hSS ?_;clear hK K
        try simp only[ap]
        refine kdo 10 (fun K hK=>?_);go_simp;go_at_call 81;refine(zQs hQ9 (xJ0 l2) (N+4096*hv2) hwl2 hqn).mono ?_;rintro e w10 ⟨rfl,hQ10,hU10⟩;have hqm9:=hQ9.obj;have hBM10:=hBM9.byQ hU10 hQ10;have hx10:Arr w10 Bx 140 [.int .i64 (p:Int),.int .i64 o.cost,.int .u32 (xJ0 l2)]:=mvh;obtain⟨aa1,aa2,aa3,aa4⟩:=hBM10.cells;have hxc10:=hx10.cell 2
        go_wp2_with fail
        have hSS:w10.cell? ⟨k.bq,0,none⟩=some (.pointer (some ⟨k.q,0,none⟩))/\w10.cell? ⟨Bx,2,none⟩=some (.int .u32 (xJ0 l2))/\w10.cell? ⟨k.b0,0,none⟩=some (.func (.func 115) #[] #[.pointer (some ⟨(k.hb+1+1+1),0,none⟩),.pointer (some ⟨k.hb,0,none⟩),.pointer (some ⟨(k.hb+1),0,none⟩)]):=⟨aa4,hxc10,aa1⟩;refine hK.out _ _ hSS ?_;clear hK K
        try simp only[ap]
        refine kdn ?_ _;have hz10:=hU10.below.size;have hkp9:=hkp8.map hg9 (by omega) (by omega) (by omega) (by omega) (by omega);have hkp10:=hkp9.q hU10 (by omega) (by omega) h119 (by omega);have h910:Arr w10 w2.heap.size 77 [.int .u32 (xJ0 l)]:=mvh;have h1110:Arr w10 (w4.heap.size+1) 77 [.int .u32 (xJ0 l)]:=mvh
        gi_wp2
        refine⟨by rw[hB9];exact hkp10.1,hkp10.2,_,_,_,_,fh2,_,_,_,xKf D l2 N,hBM10,?_,hok2,((hCn.out.h HC.out.nd HC.out.set hl2m hFe).h HC.out.nd HC.out.set hl2m hFe2).pb HC.out.nd HC.out.set hl2m _ _,?_,?_,h910,h1110,by omega⟩
        ·rw[vQu];exact((hA.out.ext hext).ext hext2).relax HC.out.set HC.out.hst hl2m hop hpre HNX.out.symm hoc.1 hNH.out hDl (by omega) hfh2 rfl
        ·exact hP.out.put HC.out.nd HC.out.set hlm (by omega) hl2m (by rw[hcur];exact hNH.out) hoc hDl hl
        ·have h:=hMe.out;have h':=vJ4 (v:=N) HC.out.nd hl2m (by omega) hDl;have h'':upN fq (xJ0 l2) nq<=nq+1:=by unfold upN;split<;>omega
         show 2*zZb ls (xKf D l2 N)+upN fq (xJ0 l2) nq<=M;omega
      case' inr=>
       rw[u3] at hlk2;simp only[Option.getD_some,Option.isSome_some] at hlk2
       by_cases hle:D l2<=N
       ·gi_wp2
        refine⟨(fun f _=>trivial),?_⟩
        gi_wp2
        refine⟨by rw[hB9];exact hkp1.1,hkp1.2,nh,nP,nB,nq,fh,fP,fB,fq,D,hBM1,?_,hH,hCn,hP,hMe,h91,h111,by simpa using h12⟩;rw[vQu];exact hA.out.skip (.inr (by have:=hNH.out;dsimp only;omega))
       ·have hDl:N<D l2:=by have:=hNH.out;omega
        gi_wp2
        refine⟨trivial,CallsIn.mono (CallsIn.inRound y (callsIn_wide.2 (xQs hT hBM1.bel hBM1.hx hBM1.hm hnn.1 hn HV.out hSl2 hH.out (by omega)))) ?_⟩;rintro e w5 ⟨hv,fh1,rfl,hcv,hfh1,hext,hok,hFe,hM5,hg5⟩;have hm1:=hBM1.hm;have hBM5:=hBM1.byH hg5 hM5;have hx5:Arr w5 Bx 140 [.int .i64 (p:Int),.int .i64 o.cost,.int .u32 (xJ0 l2)]:=mvh;have h95:Arr w5 w2.heap.size 77 [.int .u32 (xJ0 l)]:=mvh;have h115:Arr w5 (w4.heap.size+1) 77 [.int .u32 (xJ0 l)]:=mvh;have hz5:=hg5.size;have hxc5:=hx5.cell 2;have ok5:=hBM5.bel.size;obtain⟨a51,a52,a53,a54⟩:=hBM5.cells;have hkp5:=hkp1.map hg5 (by omega) (by omega) (by omega) (by omega) (by omega);have hcvb1:=hcv.1;have hcvb2:=hcv.2.1;have hnh5:up1 (hF fh) (xJ0 l2) nh<1000000000000:=by have h:=(hCn.out.h HC.out.nd HC.out.set hl2m hFe).1;omega
        by_cases hinf:1000000000<=hv
        ·gi_wp2
         refine⟨by rw[hB9];exact hkp5.1,hkp5.2,_,nP,nB,nq,fh1,fP,fB,fq,D,hBM5,?_,hok,hCn.out.h HC.out.nd HC.out.set hl2m hFe,hP,hMe,h95,h115,by omega⟩;rw[vQu];exact(hA.out.ext hext).skip (.inl ⟨hv,hfh1,hinf⟩)
        ·have hfin:hv<1000000000:=by omega
         have hmp5:=hBM5.mp
         gi_wp2_with (first|(gi_at_mapUpdate;refine xXz rfl (.tmp 94) (.tmp 96) (.tmp 97) 75 rfl 3 underlying75 rfl hmp5 hnn.2.1 (xJ0 l2) (.int .i64 N) rfl rfl hwl2 ?_;intro w6 hM6 hg6;have hBM6:=hBM5.byP hg6 hM6;have hx6:Arr w6 Bx 140 [.int .i64 (p:Int),.int .i64 o.cost,.int .u32 (xJ0 l2)]:=mvh;have h96:Arr w6 w2.heap.size 77 [.int .u32 (xJ0 l)]:=mvh;have h116:Arr w6 (w4.heap.size+1) 77 [.int .u32 (xJ0 l)]:=mvh;have hz6:=hg6.size;have hxa6:=hx6.cell 0;have hxb6:=hx6.cell 1;have hxc6:=hx6.cell 2;have h9c6:=h96.cell 0;have ok6:=hBM6.bel.size;obtain⟨a61,a62,a63,a64⟩:=hBM6.cells;have hma6:=hBM6.ma)|(gi_at_mapUpdate;refine xXz rfl (.tmp 98) (.tmp 100) (.tmp 104) 181 rfl 180 underlying181 rfl hma6 hnn.2.2 (xJ0 l2) (.agg #[.int .u32 (xJ0 l),.int .i64 (p:Int)]) rfl rfl hwl2 ?_;intro w7 hM7 hg7;have hBM7:=hBM6.byB hg7 hM7;have hx7:Arr w7 Bx 140 [.int .i64 (p:Int),.int .i64 o.cost,.int .u32 (xJ0 l2)]:=mvh;have h97:Arr w7 w2.heap.size 77 [.int .u32 (xJ0 l)]:=mvh;have h117:Arr w7 (w4.heap.size+1) 77 [.int .u32 (xJ0 l)]:=mvh;have hz7:=hg7.size;have hxa7:=hx7.cell 0;have hxb7:=hx7.cell 1;have hxc7:=hx7.cell 2;have h9c7:=h97.cell 0;have ok7:=hBM7.bel.size;obtain⟨a71,a72,a73,a74⟩:=hBM7.cells))
         have hkp6:=hkp5.map hg6 (by omega) (by omega) (by omega) (by omega) (by omega);have hkp7:=hkp6.map hg7 (by omega) (by omega) (by omega) (by omega) (by omega);obtain⟨w8,hw8⟩:∃x,Hid (x=w7.drew):=⟨_,rfl⟩;have hBM8:BM k w0 w t Ai Ag Ao ci cg co ds (up1 (hF fh) (xJ0 l2) nh) (up1 fP (xJ0 l2) nP) (up1 fB (xJ0 l2) nB) (up1 fE (xJ0 l) nE) nq fh1 (upd fP (xJ0 l2) (.int .i64 N)) (upd fB (xJ0 l2) (.agg #[.int .u32 (xJ0 l),.int .i64 (p:Int)])) (upd fE (xJ0 l) (.agg #[])) fq w8:=by rw[hw8.out];exact hBM7.drew
         have hx8:=har hw8 (hx7);have h98:=har hw8 (h97);have h118:=har hw8 (h117);have hkp8:KpB (w4.heap.size+1+1) w0.heap.size (w4.heap.size+1) W w8:=by rw[hw8.out];exact hkp7.drew
         have hz8:w8.heap.size=w7.heap.size:=by rw[hw8.out];rfl
         have hSS0:w7.drew.cell? ⟨k.bq,0,none⟩=some (.pointer (some ⟨k.q,0,none⟩))/\w7.drew.cell? ⟨Bx,2,none⟩=some (.int .u32 (xJ0 l2))/\w7.drew.cell? ⟨k.b0,0,none⟩=some (.func (.func 115) #[] #[.pointer (some ⟨(k.hb+1+1+1),0,none⟩),.pointer (some ⟨k.hb,0,none⟩),.pointer (some ⟨(k.hb+1),0,none⟩)]):=⟨a74,hxc7,a71⟩;clear hM6 hM7 hmp5 hma6;refine xVe (fun W=>W.cell? ⟨k.bq,0,none⟩=some (.pointer (some ⟨k.q,0,none⟩))/\W.cell? ⟨Bx,2,none⟩=some (.int .u32 (xJ0 l2))/\W.cell? ⟨k.b0,0,none⟩=some (.func (.func 115) #[] #[.pointer (some ⟨(k.hb+1+1+1),0,none⟩),.pointer (some ⟨k.hb,0,none⟩),.pointer (some ⟨(k.hb+1),0,none⟩)])) [] (by kernel_rfl) (by kernel_rfl) (fun _ _ h=>h) ?_;have hSS:=hSS0;refine tkK 0 ?_;refine tkK 1 ?_;refine tkK 2 ?_;refine tkK 3 ?_;refine tkK 4 ?_;refine tkK 5 ?_;refine tkK 6 ?_;refine kdo 7 (fun K hK=>?_);go_simp;go_at_call 115;rw[<- hw8.out];refine(xQs hT hBM8.bel hBM8.hx hBM8.hm hnh5 hn HV.out hSl2 hok (by omega)).mono ?_;rintro e w9 ⟨hv2,fh2,rfl,hcv2,hfh2,hext2,hok2,hFe2,hM9,hg9⟩;have hme:hv2=hv:=by have h:=hext2 _ _ hfh1;rw[hfh2] at h;injection h
         subst hme;have hm8:=hBM8.hm;have hBM9:=hBM8.byH hg9 hM9;have hx9:Arr w9 Bx 140 [.int .i64 (p:Int),.int .i64 o.cost,.int .u32 (xJ0 l2)]:=mvh;have h99:Arr w9 w2.heap.size 77 [.int .u32 (xJ0 l)]:=mvh;have h119:Arr w9 (w4.heap.size+1) 77 [.int .u32 (xJ0 l)]:=mvh;have hz9:=hg9.size;have hxc9:=hx9.cell 2;obtain⟨a91,a92,a93,a94⟩:=hBM9.cells;have hQ9:=hBM9.q
         go_wp2_with fail
         have hSS:w9.cell? ⟨k.bq,0,none⟩=some (.pointer (some ⟨k.q,0,none⟩))/\w9.cell? ⟨Bx,2,none⟩=some (.int .u32 (xJ0 l2))/\w9.cell? ⟨k.b0,0,none⟩=some (.func (.func 115) #[] #[.pointer (some ⟨(k.hb+1+1+1),0,none⟩),.pointer (some ⟨k.hb,0,none⟩),.pointer (some ⟨(k.hb+1),0,none⟩)]):=⟨a94,hxc9,a91⟩;refine hK.out _ _ hSS ?_;clear hK K
         try simp only[ap]
         refine kdo 8 (fun K hK=>?_);go_simp
         go_wp2_with fail
         rw[zJx _ (by omega) (by omega)];have hSS:w9.cell? ⟨k.bq,0,none⟩=some (.pointer (some ⟨k.q,0,none⟩))/\w9.cell? ⟨Bx,2,none⟩=some (.int .u32 (xJ0 l2))/\w9.cell? ⟨k.b0,0,none⟩=some (.func (.func 115) #[] #[.pointer (some ⟨(k.hb+1+1+1),0,none⟩),.pointer (some ⟨k.hb,0,none⟩),.pointer (some ⟨(k.hb+1),0,none⟩)]):=⟨a94,hxc9,a91⟩;refine hK.out _ _ hSS ?_;clear hK K
         try simp only[ap]
         refine kdo 9 (fun K hK=>?_);go_simp
         go_wp2_with fail
         rw[zJx _ (by omega) (by omega)];have hSS:w9.cell? ⟨k.bq,0,none⟩=some (.pointer (some ⟨k.q,0,none⟩))/\w9.cell? ⟨Bx,2,none⟩=some (.int .u32 (xJ0 l2))/\w9.cell? ⟨k.b0,0,none⟩=some (.func (.func 115) #[] #[.pointer (some ⟨(k.hb+1+1+1),0,none⟩),.pointer (some ⟨k.hb,0,none⟩),.pointer (some ⟨(k.hb+1),0,none⟩)]):=⟨a94,hxc9,a91⟩;refine hK.out _ _ hSS ?_;clear hK K
         try simp only[ap]
         refine kdo 10 (fun K hK=>?_);go_simp;go_at_call 81;refine(zQs hQ9 (xJ0 l2) (N+4096*hv2) hwl2 hqn).mono ?_;rintro e w10 ⟨rfl,hQ10,hU10⟩;have hqm9:=hQ9.obj;have hBM10:=hBM9.byQ hU10 hQ10;have hx10:Arr w10 Bx 140 [.int .i64 (p:Int),.int .i64 o.cost,.int .u32 (xJ0 l2)]:=mvh;obtain⟨aa1,aa2,aa3,aa4⟩:=hBM10.cells;have hxc10:=hx10.cell 2
         go_wp2_with fail
         have hSS:w10.cell? ⟨k.bq,0,none⟩=some (.pointer (some ⟨k.q,0,none⟩))/\w10.cell? ⟨Bx,2,none⟩=some (.int .u32 (xJ0 l2))/\w10.cell? ⟨k.b0,0,none⟩=some (.func (.func 115) #[] #[.pointer (some ⟨(k.hb+1+1+1),0,none⟩),.pointer (some ⟨k.hb,0,none⟩),.pointer (some ⟨(k.hb+1),0,none⟩)]):=⟨aa4,hxc10,aa1⟩;refine hK.out _ _ hSS ?_;clear hK K
         try simp only[ap]
         refine kdn ?_ _;have hz10:=hU10.below.size;have hkp9:=hkp8.map hg9 (by omega) (by omega) (by omega) (by omega) (by omega);have hkp10:=hkp9.q hU10 (by omega) (by omega) h119 (by omega);have h910:Arr w10 w2.heap.size 77 [.int .u32 (xJ0 l)]:=mvh;have h1110:Arr w10 (w4.heap.size+1) 77 [.int .u32 (xJ0 l)]:=mvh
         gi_wp2
         refine⟨by rw[hB9];exact hkp10.1,hkp10.2,_,_,_,_,fh2,_,_,_,xKf D l2 N,hBM10,?_,hok2,((hCn.out.h HC.out.nd HC.out.set hl2m hFe).h HC.out.nd HC.out.set hl2m hFe2).pb HC.out.nd HC.out.set hl2m _ _,?_,?_,h910,h1110,by omega⟩
         ·rw[vQu];exact((hA.out.ext hext).ext hext2).relax HC.out.set HC.out.hst hl2m hop hpre HNX.out.symm hoc.1 hNH.out hDl (by omega) hfh2 rfl
         ·exact hP.out.put HC.out.nd HC.out.set hlm (by omega) hl2m (by rw[hcur];exact hNH.out) hoc hDl hl
         ·have h:=hMe.out;have h':=vJ4 (v:=N) HC.out.nd hl2m (by omega) hDl;have h'':upN fq (xJ0 l2) nq<=nq+1:=by unfold upN;split<;>omega
          show 2*zZb ls (xKf D l2 N)+upN fq (xJ0 l2) nq<=M;omega
end
