/-
  Lemmas for the law: Taq, Pjb, Mu6, Mu7, Mu8, Mu9, Mqa.
-/
import Derived.Test.YtpeipeljmapkmaaGreatW18
import Derived.Test.YtpeipeljmapkmaaGreatW23
import Derived.Test.YtpeipeljmapkmaaGreatW2
import Derived.Test.YtpeipeljmapkmaaGreatW3
import Derived.Test.YtpeipeljmapkmaaGreatW20
import Derived.ArgAppend
import Derived.Test.YtpeipeljmapkmaaGreatW1
import Derived.Test.YtpeipeljmapkmaaGreatW6
set_option linter.unusedVariables false
set_option linter.unusedSimpArgs false
set_option maxRecDepth 100000
set_option maxHeartbeats 4000000
namespace Go.Proofs.YtpeipeljmapkmaaGreat
open Go.RowKit
section
open Go.Shelf
def unF(ls:List (List Int))(f:Int->Option Value):Nat:=(ls.map fun l=>if (f (xJ1 l)).isSome then 0 else 1).sum
theorem xY0(ls:List (List Int)):unF ls (fun _=>none)=ls.length:=by
 unfold unF
 induction ls with
 | nil=>rfl
 | cons a ls ih=>simp only[List.map_cons,List.sum_cons,List.length_cons,ih];simp;omega
theorem vZp{ls:List (List Int)}{f:Int->Option Value}{l:List Int}{v:Value}(h:∀ x∈ls,xJ1 x≠xJ1 l):unF ls (upd f (xJ1 l) v)=unF ls f:=by
 unfold unF;congr 1;refine List.map_congr_left fun x hx=>?_
 rw[xJp f v (h x hx)]
theorem xYg{n:Nat}{ls:List (List Int)}{f:Int->Option Value}{l:List Int}{v:Value}(hn:ls.Nodup)(hs:∀ x∈ls,SetP x (n:Int))(hl:l∈ls)(m:Nat):up1 f (xJ1 l) m+unF ls (upd f (xJ1 l) v)=m+unF ls f:=by
 induction ls with
 | nil=>cases hl
 | cons a ls ih=>
  obtain⟨h1,h2⟩:=List.nodup_cons.1 hn;show up1 f (xJ1 l) m+((if (upd f (xJ1 l) v (xJ1 a)).isSome then 0 else 1)+unF ls (upd f (xJ1 l) v))=m+((if (f (xJ1 a)).isSome then 0 else 1)+unF ls f)
  by_cases e:l=a
  ·subst e;rw[vZp (fun x hx e2=>h1 (xJq (hs x (List.mem_cons_of_mem _ hx)) (hs l (List.mem_cons_self ..)) e2 ▸ hx)),xXb];unfold up1
   split <;> simp <;> omega
  ·have h3:=ih h2 (fun x hx=>hs x (List.mem_cons_of_mem _ hx)) (by rcases List.mem_cons.1 hl with h | h;exact absurd h e;exact h);rw[xJp f v (fun e2=>e (xJq (hs a (List.mem_cons_self ..)) (hs l hl) e2).symm)];omega
inductive Fp(n:Nat)(ops:List OpV)(goal:List Int):List Int->List Nat->Prop
 | nil {l:List Int}:(∀ q∈goal,q∈l)->Fp n ops goal l []
 | cons {l:List Int} {p:Nat} {o:OpV} {ps:List Nat}:ops[p]? = some o->(∀ q∈o.pre,q∈l)->Fp n ops goal (xJe n l o) ps->Fp n ops goal l (p :: ps)
theorem Pth.front{n:Nat}{ops:List OpV}{goal st l:List Int}{ps:List Nat}(h:Pth n ops st l ps):∀ {qs},Fp n ops goal l qs->Fp n ops goal st (ps ++ qs):=by
 induction h with
 | init=>exact fun h=>h
 | @step l ps p o _ h2 h3 ih=>
  intro qs hq;rw[List.append_assoc];exact ih (.cons h2 h3 hq)
theorem xJi(cs:List Int)(p:Nat)(ps:List Nat):xJ9 cs (p :: ps)=xJ2 cs (p:Int)+xJ9 cs ps:=by
 unfold xJ9;rw[List.map_cons,List.sum_cons]
theorem xJx{ops:List OpV}{p:Nat}{o:OpV}(h:ops[p]? = some o):xJ2 (ops.map (·.cost)) (p:Int)=o.cost:=xJ5 (by simp[h])
theorem Fp.nn{n:Nat}{ops:List OpV}{goal l:List Int}{ps:List Nat}(hc:∀ o∈ops,0<=o.cost)(h:Fp n ops goal l ps):0<=xJ9 (ops.map (·.cost)) ps:=by
 induction h with
 | nil _=>simp[xJ9]
 | cons h1 _ _ ih=>
  rw[xJi,xJx h1];have:=hc _ (lMg h1);omega
theorem vW2{ops:List OpV}{l:List Int}{p:Nat}{o:OpV}(h1:ops[p]? = some o)(h2:∀ q∈o.pre,q∈l):zVi ops l (p:Int):=⟨o,by simpa using h1,h2⟩
theorem Fp.low{n:Nat}{t:TaskV}{l:List Int}{ps:List Nat}(hv:Valid t)(hn:t.facts=n)(h:Fp n t.ops t.goal l ps):SetP l (n:Int)->xJ9 (t.ops.map (·.cost)) ps < 1000000000->vQu n (t.ops.map rxO) t.goal l<=xJ9 (t.ops.map (·.cost)) ps:=by
 have hH:=zQx hv hn;have hc0:∀ o∈t.ops,0<=o.cost:=fun o ho=>(hv.ops o ho).2.1
 induction h with
 | nil hg=>intro hs _;have:=hH.goal _ hg hs;simpa[xJ9] using this
 | @cons l p o ps h1 h2 h3 ih=>
  intro hs hc;rw[xJi,xJx h1] at hc ⊢;have ho:=hc0 o (lMg h1);have h4:=ih (xX0 n l o) (by omega);have h5:=hH.step l p o hs h1 (vW2 h1 h2) (by omega);omega
structure AB(n:Nat)(ops:List OpV)(st:List Int)(ls:List (List Int))(D:List Int->Int)(Pa:Int->Option Value)(fh fq:Int->Option Int):Prop where
 d0:D st=0
 lo:∀ l∈ls,0<=D l/\D l<=1000000000
 par:∀ l∈ls,D l < 1000000000->l≠st->∃ (s:List Int) (p:Nat) (o:OpV),s∈ls/\ops[p]? = some o/\(∀ q∈o.pre,q∈s)/\xJe n s o=l/\D s+(o.cost * 4096+1)<=D l/\Pa (xJ1 l)=some (.agg #[.int .u32 (xJ1 s),.int .i64 (p:Int)])
 q:∀ x k,fq x=some k->∃ l∈ls,xJ1 l=x/\D l < 1000000000/\∃ h,fh x=some h/\k=D l+4096 * h
def OkTo(D:List Int->Int)(fh:Int->Option Int)(d:Int)(o:OpV)(l':List Int):Prop:=(∃ h,fh (xJ1 l')=some h/\1000000000<=h)\/D l'<=d+(o.cost * 4096+1)
def DoneA(n:Nat)(ops:List OpV)(goal:List Int)(D:List Int->Int)(fh:Int->Option Int)(l:List Int):Prop:=
 (¬ ∀ q∈goal,q∈l)/\∀ (p:Nat) (o:OpV),ops[p]? = some o->(∀ q∈o.pre,q∈l)->OkTo D fh (D l) o (xJe n l o)
structure ASt(n:Nat)(ops:List OpV)(goal st:List Int)(ls:List (List Int))(D:List Int->Int)(Pa:Int->Option Value)(fh fq:Int->Option Int):Prop extends AB n ops st ls D Pa fh fq where
 cl:∀ l∈ls,D l < 1000000000->fq (xJ1 l)=none->DoneA n ops goal D fh l
structure AS1(n:Nat)(ops:List OpV)(goal st:List Int)(ls:List (List Int))(D:List Int->Int)(Pa:Int->Option Value)(fh fq:Int->Option Int)(s:List Int)(d:Int)(pre:List (Nat×OpV×List Int)):Prop extends AB n ops st ls D Pa fh fq where
 hs:s∈ls
 cur:D s=d
 hd:d < 1000000000
 out:fq (xJ1 s)=none
 ng:¬ ∀ q∈goal,q∈s
 cl:∀ l∈ls,l≠s->D l < 1000000000->fq (xJ1 l)=none->DoneA n ops goal D fh l
 dn:∀ y∈pre,OkTo D fh d y.2.1 y.2.2
def ExtH(f g:Int->Option Int):Prop:=∀ x h,f x=some h->g x=some h
theorem ExtH.refl(f:Int->Option Int):ExtH f f:=fun _ _ h=>h
theorem ExtH.trans{f g k:Int->Option Int}(h1:ExtH f g)(h2:ExtH g k):ExtH f k:=fun x h e=>h2 x h (h1 x h e)
section
variable {n:Nat}{ops:List OpV}{goal st:List Int}{ls:List (List Int)}{D:List Int->Int}{Pa:Int->Option Value}{fh fq:Int->Option Int}{s:List Int}{d:Int}{pre:List (Nat×OpV×List Int)}
theorem OkTo.ext{g:Int->Option Int}{o:OpV}{l':List Int}(hx:ExtH fh g)(h:OkTo D fh d o l'):OkTo D g d o l':=by
 rcases h with ⟨k,h1,h2⟩ | h
 ·exact .inl ⟨k,hx _ _ h1,h2⟩
 ·exact .inr h
theorem DoneA.ext{g:Int->Option Int}{l:List Int}(hx:ExtH fh g)(h:DoneA n ops goal D fh l):DoneA n ops goal D g l:=⟨h.1,fun p o h1 h2=>(h.2 p o h1 h2).ext hx⟩
theorem AB.ext{g:Int->Option Int}(hx:ExtH fh g)(h:AB n ops st ls D Pa fh fq):AB n ops st ls D Pa g fq:=
 ⟨h.d0,h.lo,h.par,fun x k hk=>by obtain⟨l,h1,h2,h3,v,h4,h5⟩:=h.q x k hk;exact⟨l,h1,h2,h3,v,hx _ _ h4,h5⟩⟩
theorem AS1.ext{g:Int->Option Int}(hx:ExtH fh g)(h:AS1 n ops goal st ls D Pa fh fq s d pre):AS1 n ops goal st ls D Pa g fq s d pre:=
 ⟨h.toAB.ext hx,h.hs,h.cur,h.hd,h.out,h.ng,fun l h1 h2 h3 h4=>(h.cl l h1 h2 h3 h4).ext hx,fun y hy=>(h.dn y hy).ext hx⟩
theorem vZq{f:Int->Option Int}{y x k:Int}(h:xWd f y x=some k):f x=some k/\x≠y:=by
 unfold xWd at h
 split at h
 ·cases h
 ·exact⟨h,by assumption⟩
theorem AB.del(h:AB n ops st ls D Pa fh fq)(y:Int):AB n ops st ls D Pa fh (xWd fq y):=⟨h.d0,h.lo,h.par,fun x k hk=>h.q x k (vZq hk).1⟩
theorem ASt.take(h:ASt n ops goal st ls D Pa fh fq)(hset:∀ l∈ls,SetP l (n:Int))(hs:s∈ls){k:Int}(hk:fq (xJ1 s)=some k)(hg:¬ ∀ q∈goal,q∈s):AS1 n ops goal st ls D Pa fh (xWd fq (xJ1 s)) s (D s) []:=by
 obtain⟨l,h1,h2,h3,_⟩:=h.q _ _ hk;have e:=xJq (hset l h1) (hset s hs) h2;subst e;refine⟨h.toAB.del _,hs,rfl,h3,by unfold xWd;rw[if_pos rfl],hg,fun l' h4 h5 h6 h7=>h.cl l' h4 h6 ?_,by simp⟩;unfold xWd at h7;rw[if_neg (fun e=>h5 (xJq (hset l' h4) (hset l hs) e))] at h7;exact h7
theorem AS1.skip(h:AS1 n ops goal st ls D Pa fh fq s d pre){y:Nat×OpV×List Int}(hy:OkTo D fh d y.2.1 y.2.2):AS1 n ops goal st ls D Pa fh fq s d (pre ++ [y]):=
 ⟨h.toAB,h.hs,h.cur,h.hd,h.out,h.ng,h.cl,fun z hz=>by
  rcases List.mem_append.1 hz with hz | hz
  ·exact h.dn z hz
  ·simp at hz;subst hz;exact hy⟩
theorem AS1.relax(h:AS1 n ops goal st ls D Pa fh fq s d pre)(hset:∀ l∈ls,SetP l (n:Int))(hst:st∈ls){p:Nat}{o:OpV}{l':List Int}(hl':l'∈ls)(ho:ops[p]? = some o)(hp:∀ q∈o.pre,q∈s)(hx:xJe n s o=l')(hc0:0<=o.cost)
  {N k:Int} (hN:N=d+(o.cost * 4096+1)) (hlt:N < D l') (hb:N < 1000000000) {hv:Int} (hh:fh (xJ1 l')=some hv) (hk:k=N+4096 * hv) :
  AS1 n ops goal st ls (xVs D l' N) (upd Pa (xJ1 l') (.agg #[.int .u32 (xJ1 s),.int .i64 (p:Int)])) fh (xZi fq (xJ1 l') k) s d (pre ++ [(p,o,l')]):=by
 have hlo:=h.lo s h.hs;rw[h.cur] at hlo;have hsl:s≠l':=fun e=>by rw[<- e,h.cur] at hlt;omega
 have hstl:st≠l':=fun e=>by rw[<- e,h.d0] at hlt;omega
 have hother:∀ {x},x≠l'->xVs D l' N x=D x:=fun {x} e=>if_neg e
 have hself:xVs D l' N l'=N:=if_pos rfl;have hle:∀ x,xVs D l' N x<=D x:=fun x=>by
  by_cases e:x=l'
  ·subst e;rw[hself];omega
  ·rw[hother e];exact Int.le_refl _
 have hw:∀ {x},x∈ls->x≠l'->xJ1 x≠xJ1 l':=fun {x} hx e e2=>e (xJq (hset x hx) (hset l' hl') e2)
 have hqo:∀ {x},x∈ls->x≠l'->xZi fq (xJ1 l') k (xJ1 x)=fq (xJ1 x):=fun {x} hx e=>by unfold xZi;rw[if_neg (hw hx e)]
 have hqs:xZi fq (xJ1 l') k (xJ1 l')=some k:=by unfold xZi;rw[if_pos rfl]
 have hok:∀ {d':Int} {o':OpV} {x:List Int},OkTo D fh d' o' x->OkTo (xVs D l' N) fh d' o' x:=fun {d' o' x} h1=>by
  rcases h1 with h1 | h1
  ·exact .inl h1
  ·exact .inr (by have:=hle x;omega)
 refine⟨⟨by rw[hother hstl];exact h.d0,fun x hx=>?_,fun x hx hlt2 hne=>?_,fun x k' hk'=>?_⟩,h.hs,by rw[hother hsl];exact h.cur,h.hd,by rw[hqo h.hs hsl];exact h.out,h.ng,fun x hx hne hlt2 hq=>?_,fun y hy=>?_⟩
 ·have:=h.lo x hx
  by_cases e:x=l'
  ·subst e;rw[hself];omega
  ·rw[hother e];exact this
 ·by_cases e:x=l'
  ·subst e;refine⟨s,p,o,h.hs,ho,hp,hx.trans rfl,?_,xXb _ _ _⟩;rw[hself,hother hsl,h.cur];omega
  ·rw[hother e] at hlt2 ⊢;obtain⟨s',p',o',h1,h2,h3,h4,h5,h6⟩:=h.par x hx hlt2 hne;refine⟨s',p',o',h1,h2,h3,h4,?_,by rw[xJp _ _ (hw hx e)];exact h6⟩;have:=hle s';omega
 ·unfold xZi at hk'
  split at hk'
  ·rename_i e
   injection hk' with hk'
   exact⟨l',hl',e.symm,by rw[hself];exact hb,hv,by rw[e];exact hh,by rw[hself,<- hk',hk]⟩
  ·rename_i e
   obtain⟨l,h1,h2,h3,v,h4,h5⟩:=h.q x k' hk';have hne:l≠l':=fun e2=>e (by rw[<- h2,e2])
   exact⟨l,h1,h2,by rw[hother hne];exact h3,v,h4,by rw[hother hne];exact h5⟩
 ·by_cases e:x=l'
  ·subst e;rw[hqs] at hq;cases hq
  ·rw[hother e] at hlt2;rw[hqo hx e] at hq;have h1:=h.cl x hx hne hlt2 hq;exact⟨h1.1,fun p' o' h2 h3=>by rw[hother e];exact hok (h1.2 p' o' h2 h3)⟩
 ·rcases List.mem_append.1 hy with hy | hy
  ·exact hok (h.dn y hy)
  ·simp at hy;subst hy;refine .inr ?_;show xVs D l' N l'<=d+(o.cost * 4096+1);rw[hself];omega
theorem AS1.fin(h:AS1 n ops goal st ls D Pa fh fq s d pre)(hp:pre=xJs n ops s ops.length):ASt n ops goal st ls D Pa fh fq:=
 ⟨h.toAB,fun l h1 h2 h3=>by
  by_cases e:l=s
  ·subst e;refine⟨h.ng,fun p o h4 h5=>?_⟩;rw[h.cur];exact h.dn (p,o,xJe n l o) (by rw[hp];exact xX8.2 ⟨(List.getElem?_eq_some_iff.1 h4).1,h4,h5,rfl⟩)
  ·exact h.cl l h1 e h2 h3⟩
def D0(st:List Int):List Int->Int:=fun l=>if l=st then 0 else 1000000000
theorem ASt.start(hset:∀ l∈ls,SetP l (n:Int))(hst:st∈ls){h:Int}(hh:fh (xJ1 st)=some h):ASt n ops goal st ls (D0 st) Pa fh (xZi (fun _=>none) (xJ1 st) (4096 * h)):=by
 have h0:D0 st st=0:=if_pos rfl;have h1:∀ {l},l≠st->D0 st l=1000000000:=fun e=>if_neg e
 refine⟨⟨h0,fun l hl=>?_,fun l hl hlt hne=>?_,fun x k hk=>?_⟩,fun l hl hlt hq=>?_⟩
 ·by_cases e:l=st
  ·subst e;rw[h0];omega
  ·rw[h1 e];omega
 ·rw[h1 hne] at hlt;omega
 ·unfold xZi at hk
  split at hk
  ·rename_i e
   injection hk with hk
   exact⟨st,hst,e.symm,by rw[h0];omega,h,by rw[e];exact hh,by rw[h0,<- hk];omega⟩
  ·cases hk
 ·by_cases e:l=st
  ·subst e;unfold xZi at hq;rw[if_pos rfl] at hq;cases hq
  ·rw[h1 e] at hlt;omega
theorem AB.trail(h:AB n ops st ls D Pa fh fq)(hset:∀ l∈ls,SetP l (n:Int))(hn24:n<=24)(hst:st∈ls)(hc0:∀ o∈ops,0<=o.cost):∀ (m:Nat) (l:List Int),l∈ls->D l < 1000000000->(D l).toNat<=m ->
  ∃ (ps:List Nat) (sts:List (List Int)),Trail Pa (xJ1 st) (xJ1 l) (ps.map Int.ofNat)/\Pth n ops st l ps/\4096 * xJ9 (ops.map (·.cost)) ps+ps.length<=D l/\sts.Nodup/\(∀ x∈sts,x∈ls/\D x<=D l)/\sts.length=ps.length+1:=by
 intro m
 induction m with
 | zero=>
  intro l hl hlt hm
  by_cases e:l=st
  ·subst e;exact⟨[],[l],.nil,.init,by rw[h.d0];simp[xJ9],by simp,fun x hx=>by simp at hx;subst hx;exact⟨hl,Int.le_refl _⟩,rfl⟩
  ·obtain⟨s,p,o,h1,h2,h3,h4,h5,h6⟩:=h.par l hl hlt e;have:=h.lo s h1;have:=hc0 o (lMg h2);omega
 | succ m ih=>
  intro l hl hlt hm
  by_cases e:l=st
  ·subst e;exact⟨[],[l],.nil,.init,by rw[h.d0];simp[xJ9],by simp,fun x hx=>by simp at hx;subst hx;exact⟨hl,Int.le_refl _⟩,rfl⟩
  ·obtain⟨s,p,o,h1,h2,h3,h4,h5,h6⟩:=h.par l hl hlt e;have hs0:=h.lo s h1;have ho:=hc0 o (lMg h2);obtain⟨ps,sts,i1,i2,i3,i4,i5,i6⟩:=ih s h1 (by omega) (by omega);refine⟨ps ++ [p],l :: sts,?_,h4 ▸ .step i2 h2 h3,?_,List.nodup_cons.2 ⟨fun hm=>?_,i4⟩,fun x hx=>?_,by simp;omega⟩
   ·rw[List.map_append];exact .step i1 h6 (fun e2=>e (xJq (hset l hl) (hset st hst) e2)) ((hset l hl).wrd hn24)
   ·rw[xZf,xJx h2];simp;omega
   ·have:=(i5 l hm).2;omega
   ·rcases List.mem_cons.1 hx with hx | hx
    ·subst hx;exact⟨hl,Int.le_refl _⟩
    ·have:=i5 x hx;exact⟨this.1,by omega⟩
end
theorem ASt.queued{n:Nat}{t:TaskV}{ls:List (List Int)}{D:List Int->Int}{Pa:Int->Option Value}{fh fq:Int->Option Int}(h:ASt n t.ops t.goal t.init ls D Pa fh fq)(hC:Clos n t.ops t.init ls)(hv:Valid t)(hn:t.facts=n)(hb:∀ l∈ls,D l < 1000000000->D l < 900000000)
  (hH:∀ l,SetP l (n:Int)->∀ v,fh (xJ1 l)=some v->xVf n t l v) {l:List Int} {ps:List Nat} (hp:Fp n t.ops t.goal l ps):l∈ls->D l < 1000000000->xJ9 (t.ops.map (·.cost)) ps < 1000000000->∀ c,D l<=c->∃ x k,fq x=some k/\k<=c+4096 * xJ9 (t.ops.map (·.cost)) ps+ps.length:=by
 have hc0:∀ o∈t.ops,0<=o.cost/\o.cost<=100:=fun o ho=>⟨(hv.ops o ho).2.1,(hv.ops o ho).2.2⟩
 have key:∀ {l:List Int} {ps:List Nat},Fp n t.ops t.goal l ps->l∈ls->xJ9 (t.ops.map (·.cost)) ps < 1000000000->∀ c k,D l<=c->fq (xJ1 l)=some k->k<=c+4096 * xJ9 (t.ops.map (·.cost)) ps:=fun {l ps} hp hl hc c k hd hq=>by
  obtain⟨l',h1,h2,h3,v,h4,h5⟩:=h.q _ _ hq;have e:=xJq (hC.set l' h1) (hC.set l hl) h2;subst e;have h6:=(hH l' (hC.set l' h1) v h4).2.2;have h7:=hp.low hv hn (hC.set l' h1) hc;omega
 induction hp with
 | @nil l hg=>
  intro hl hlt hc c hd
  cases hq:fq (xJ1 l) with
  | some k=>exact⟨_,k,hq,by have:=key (.nil hg) hl hc c k hd hq;simp;omega⟩
  | none=>exact absurd hg (h.cl l hl hlt hq).1
 | @cons l p o ps h1 h2 h3 ih=>
  intro hl hlt hc c hd
  cases hq:fq (xJ1 l) with
  | some k=>exact⟨_,k,hq,by have:=key (.cons h1 h2 h3) hl hc c k hd hq;omega⟩
  | none=>
   have ho:=hc0 o (lMg h1);have hnl:=hC.closed l hl p o h1 h2;rw[xJi,xJx h1] at hc ⊢;have hnn:=h3.nn (fun o ho=>(hc0 o ho).1);rcases (h.cl l hl hlt hq).2 p o h1 h2 with ⟨v,h4,h5⟩ | h4
   ·have h6:=(hH _ (hC.set _ hnl) v h4).2.2;have h7:=h3.low hv hn (hC.set _ hnl) (by omega);omega
   ·have h8:=hb l hl hlt;obtain⟨x,k,h5,h6⟩:=ih hnl (by omega) (by omega) (c+(o.cost * 4096+1)) (by omega);exact⟨x,k,h5,by simp;omega⟩
end
def xJ6:Int->List Int->List Int
 | _,[]=>[]
 | n,s :: r=>n :: xJ6 (n+s) r
theorem zJx(n:Int)(sizes:List Int):(xJ6 n sizes).length=sizes.length:=by
 induction sizes generalizing n with
 | nil=>rfl
 | cons s r ih=>show (xJ6 (n+s) r).length+1=_;rw[ih];rfl
theorem vXi(n:Int)(xs:List Int)(x:Int):xJ6 n (xs ++ [x])=xJ6 n xs ++ [n+xs.sum]:=by
 induction xs generalizing n with
 | nil=>simp[xJ6]
 | cons s r ih=>
  show n :: xJ6 (n+s) (r ++ [x])=n :: (xJ6 (n+s) r ++ [n+(s :: r).sum]);rw[ih,List.sum_cons,Int.add_assoc]
theorem vXj{xs:List Int}(h:∀ x∈xs,1<=x):0<=xs.sum:=by
 induction xs with
 | nil=>simp
 | cons x xs ih=>
  rw[List.sum_cons];have:=h x (List.mem_cons_self ..);have:=ih (fun y hy=>h y (List.mem_cons_of_mem _ hy));omega
theorem zV6{n:Int}{xs:List Int}{i:Nat}(h:i < xs.length):xJ2 (xJ6 n xs) (i:Int)=n+(xs.take i).sum:=by
 induction xs generalizing n i with
 | nil=>simp at h
 | cons s r ih=>
  cases i with
  | zero=>simp[xJ6,xJ2]
  | succ i=>
   have h1:=ih (n:=n+s) (i:=i) (by simpa using h);have e:xJ2 (xJ6 n (s :: r)) ((i+1:Nat):Int)=xJ2 (xJ6 (n+s) r) (i:Int):=by
    unfold xJ2;show ((n :: xJ6 (n+s) r)[((i+1:Nat):Int).toNat]?).getD 0=_;rw[Int.toNat_natCast,Int.toNat_natCast,List.getElem?_cons_succ]
   rw[e,h1,List.take_succ_cons,List.sum_cons];omega
theorem vXk{xs:List Int}(h1:∀ x∈xs,1<=x){i j:Nat}(hij:i < j)(hj:j < xs.length):xJ2 (xJ6 0 xs) (i:Int)+xJ2 xs (i:Int)<=xJ2 (xJ6 0 xs) (j:Int):=by
 rw[zV6 (by omega),zV6 hj];have e:(xs.take j).sum=(xs.take i).sum+xJ2 xs (i:Int)+((xs.take j).drop (i+1)).sum:=by
  have hi:i < (xs.take j).length:=by rw[List.length_take];omega
  have e1:(xs.take j).take i=xs.take i:=by rw[List.take_take];congr 1;omega
  have e2:(xs.take j).sum=((xs.take j).take i).sum+((xs.take j).drop i).sum:=by rw[<- List.sum_append,List.take_append_drop]
  rw[e2,e1,List.drop_eq_getElem_cons hi,List.sum_cons];have e3:(xs.take j)[i]=xJ2 xs (i:Int):=by
   rw[List.getElem_take];exact (xJ5 (by rw[Int.toNat_natCast];exact lGe (by omega))).symm
  rw[e3];omega
 have h2:0<=((xs.take j).drop (i+1)).sum:=vXj (fun x hx=>h1 x (List.mem_of_mem_take (List.mem_of_mem_drop hx)));omega
theorem zJy{xs:List Int}(h1:∀ x∈xs,1<=x){i:Nat}(hi:i < xs.length):0<=xJ2 (xJ6 0 xs) (i:Int)/\xJ2 (xJ6 0 xs) (i:Int)+xJ2 xs (i:Int)<=xs.sum:=by
 rw[zV6 hi];have e2:xs.sum=(xs.take i).sum+(xs.drop i).sum:=by rw[<- List.sum_append,List.take_append_drop]
 rw[e2,List.drop_eq_getElem_cons hi,List.sum_cons];have e3:xs[i]=xJ2 xs (i:Int):=(xJ5 (by rw[Int.toNat_natCast];exact lGe (by omega))).symm;rw[e3];have h2:0<=(xs.drop (i+1)).sum:=vXj (fun x hx=>h1 x (List.mem_of_mem_drop hx));have h3:0<=(xs.take i).sum:=vXj (fun x hx=>h1 x (List.mem_of_mem_take hx));omega
theorem zJz{xs:List Int}(h1:∀ x∈xs,1<=x){v u x y:Int}(hv:(0<=v/\v < xs.length)/\0<=x/\x < xJ2 xs v)(hu:(0<=u/\u < xs.length)/\0<=y/\y < xJ2 xs u)(e:xJ2 (xJ6 0 xs) v+x=xJ2 (xJ6 0 xs) u+y):v=u/\x=y:=by
 obtain⟨i,rfl⟩:=Int.eq_ofNat_of_zero_le hv.1.1;obtain⟨j,rfl⟩:=Int.eq_ofNat_of_zero_le hu.1.1;rcases Nat.lt_trichotomy i j with h | h | h
 ·have:=vXk h1 h (by omega);omega
 ·subst h;exact⟨rfl,by omega⟩
 ·have:=vXk h1 h (by omega);omega
def xJb(base:List Int)(l:List (Int×Int)):List Int:=l.map fun a=>xJ2 base a.1+a.2
def xXu(sizes base:List Int)(a:Int×Int):List Int:=((List.range (xJ2 sizes a.1).toNat).filter fun (x:Nat)=>decide ((x:Int)≠a.2)).map fun (x:Nat)=>xJ2 base a.1+(x:Int)
def vYh(sizes base:List Int)(o:MopV):OpV:=⟨xJb base o.pre,xJb base o.post,o.post.flatMap (xXu sizes base),o.cost⟩
def xX5(base init:List Int):List Int:=(List.range init.length).map fun (i:Nat)=>xJ2 base (i:Int)+xJ2 init (i:Int)
def stV(m:MtV):TaskV:=⟨m.sizes.sum,xX5 (xJ6 0 m.sizes) m.init,xJb (xJ6 0 m.sizes) m.goal,m.ops.map (vYh m.sizes (xJ6 0 m.sizes))⟩
def Enc(sizes s l:List Int):Prop:=∀ v x:Int,(0<=v/\v < sizes.length)/\0<=x/\x < xJ2 sizes v->(xJ2 (xJ6 0 sizes) v+x∈l↔xJ2 s v=x)
theorem vVr{sizes s:List Int}(h1:∀ x∈sizes,1<=x)(hs:StM sizes s):Enc sizes s (xX5 (xJ6 0 sizes) s):=fun v x hv=>by
 unfold xX5;rw[List.mem_map];constructor
 ·rintro ⟨i,hi,e⟩;rw[List.mem_range,hs.len] at hi;have hr:=hs.rng i hi;obtain⟨e1,e2⟩:=zJz h1 (v:=(i:Int)) (u:=v) (x:=xJ2 s (i:Int)) (y:=x) ⟨by omega,hr⟩ hv e;rw[<- e1];exact e2
 ·intro e;obtain⟨i,rfl⟩:=Int.eq_ofNat_of_zero_le hv.1.1;exact⟨i,List.mem_range.2 (by rw[hs.len];omega),by rw[e]⟩
theorem zZh{sizes s l:List Int}{al:List (Int×Int)}(he:Enc sizes s l)(ha:AsOk sizes al)(h:∀ q∈xJb (xJ6 0 sizes) al,q∈l):HoldsV s al:=fun a hm=>
 (he a.1 a.2 (ha.rng a hm)).1 (h _ (List.mem_map.2 ⟨a,hm,rfl⟩))
theorem vVs{sizes s l:List Int}{o:MopV}{n:Nat}(h1:∀ x∈sizes,1<=x)(hn:sizes.sum=n)(hs:StM sizes s)(ha:AsOk sizes o.post)(he:Enc sizes s l):Enc sizes (xXh s o.post) (xJe n l (vYh sizes (xJ6 0 sizes) o)):=fun v x hv=>by
 rw[xJn];have hadd:xJ2 (xJ6 0 sizes) v+x∈(vYh sizes (xJ6 0 sizes) o).add↔(v,x)∈o.post:=by
  show _∈xJb _ _↔_;unfold xJb;rw[List.mem_map];constructor
  ·rintro ⟨a,hm,e⟩;obtain⟨e1,e2⟩:=zJz h1 (ha.rng a hm) hv e;have:a=(v,x):=by rw[<- e1,<- e2]
   rw[<- this];exact hm
  ·exact fun h=>⟨_,h,rfl⟩
 have hdel:xJ2 (xJ6 0 sizes) v+x∈(vYh sizes (xJ6 0 sizes) o).del↔∃ y,(v,y)∈o.post/\x≠y:=by
  show _∈o.post.flatMap _↔_;rw[List.mem_flatMap];constructor
  ·rintro ⟨a,hm,h⟩;unfold xXu at h;rw[List.mem_map] at h;obtain⟨z,hz,e⟩:=h;rw[List.mem_filter,List.mem_range,decide_eq_true_eq] at hz;have hr:=ha.rng a hm;obtain⟨e1,e2⟩:=zJz h1 (v:=a.1) (x:=(z:Int)) ⟨hr.1,by omega,by omega⟩ hv e;exact⟨a.2,by rw[<- e1];exact hm,by rw[<- e2];exact hz.2⟩
  ·rintro ⟨y,hm,hne⟩;refine⟨_,hm,?_⟩;unfold xXu;rw[List.mem_map];refine⟨x.toNat,?_,by show _+((x.toNat:Nat):Int)=_;rw[Int.toNat_of_nonneg hv.2.1]⟩;rw[List.mem_filter,List.mem_range,decide_eq_true_eq,Int.toNat_of_nonneg hv.2.1];exact⟨by have:=hv.2;show x.toNat < (xJ2 sizes v).toNat;omega,hne⟩
 obtain⟨i,hi⟩:=Int.eq_ofNat_of_zero_le hv.1.1;have hb:=zJy h1 (i:=i) (by omega);rw[<- hi] at hb;have hrng:0<=xJ2 (xJ6 0 sizes) v+x/\xJ2 (xJ6 0 sizes) v+x < (n:Int):=by rw[<- hn];omega
 rw[hadd,hdel,he v x hv]
 by_cases hx:∃ a∈o.post,a.1=v
 ·obtain⟨a,hm,e⟩:=hx;have h2:=xVw hs.len ha hm;rw[e] at h2;rw[h2];constructor
  ·rintro ⟨_,h | ⟨_,h⟩⟩
   ·have h3:=xVw hs.len ha h;exact h2.symm.trans h3
   ·apply Classical.byContradiction;intro hne;exact h ⟨a.2,by rw[<- e];exact hm,fun k=>hne k.symm⟩
  ·intro h3;exact⟨hrng,.inl (by rw[<- h3,<- e];exact hm)⟩
 ·have h2:xJ2 (xXh s o.post) v=xJ2 s v:=by
   rw[hi];exact xZv (fun a hm=>⟨(ha.rng a hm).1.1,fun e=>hx ⟨a,hm,by rw[e,<- hi]⟩⟩)
  rw[h2];constructor
  ·rintro ⟨_,h | ⟨h,_⟩⟩
   ·exact absurd ⟨_,h,rfl⟩ hx
   ·exact h
  ·exact fun h=>⟨hrng,.inr ⟨h,fun ⟨y,hm,_⟩=>hx ⟨_,hm,rfl⟩⟩⟩
theorem fp_mp{m:MtV}{n:Nat}(hm:MValid m)(hn:m.sizes.sum=n){l:List Int}{ps:List Nat}(h:Fp n (stV m).ops (stV m).goal l ps):∀ {s},StM m.sizes s->Enc m.sizes s l->MP m.goal m.ops s ps:=by
 have h1:∀ x∈m.sizes,1<=x:=fun x hx=>(hm.sz x hx).1
 induction h with
 | nil hg=>exact fun hs he=>.nil (zZh he hm.goal hg)
 | @cons l p o ps h2 h3 h4 ih=>
  intro s hs he;have h5:(m.ops.map (vYh m.sizes (xJ6 0 m.sizes)))[p]? = some o:=h2;rw[List.getElem?_map] at h5;obtain⟨o',h6,h7⟩:=Option.map_eq_some_iff.1 h5;subst h7;have ho:=hm.ops o' (lMg h6);exact .cons h6 (zZh he ho.1.1 h3) (ih (hs.next ho.1.2) (vVs h1 hn hs ho.1.2 he))
theorem vKm(m:MtV)(ps:List Nat):xJ9 ((stV m).ops.map (·.cost)) ps=xQo m.ops ps:=by
 unfold xJ9 xQo;have:(stV m).ops.map (·.cost)=m.ops.map (·.cost):=by
  show (m.ops.map _).map _=_;rw[List.map_map];rfl
 rw[this]
theorem zJl{x:Int}(h : -9223372036854775808<=x/\x<=9223372036854775807):IntKind.i64.wrap x=x:=by
 obtain⟨h1,h2⟩:=h;simp[IntKind.wrap,IntKind.bits,IntKind.signed];omega
theorem vV5{s vars:List Int}{k:Nat}{v:Int}(hv:vars[k]? = some v):xXq s (vars.take k) ++ [xJ2 s v]=xXq s (vars.take (k+1)):=by
 unfold xXq;rw[List.take_add_one,hv,List.map_append];rfl
def prV(sizes vars:List Int):Nat->Int
 | 0=>1
 | k+1=>prV sizes vars k * xJ2 sizes (xJ2 vars (k:Int))
theorem vK3{a b c:Int}(ha:1<=a/\a<=c)(hb:1<=b/\b<=6):1<=a * b/\a * b<=6 * c:=by
 have h1:a * 1<=a * b:=Int.mul_le_mul_of_nonneg_left hb.1 (by omega);have h2:a * b<=a * 6:=Int.mul_le_mul_of_nonneg_left hb.2 (by omega);omega
theorem vJs{k:Nat}(h:k<=8):(6:Int) ^ k<=1679616:=by
 match k,h with
 | 0,_=>decide
 | 1,_=>decide
 | 2,_=>decide
 | 3,_=>decide
 | 4,_=>decide
 | 5,_=>decide
 | 6,_=>decide
 | 7,_=>decide
 | 8,_=>decide
 | k+9,h=>omega
theorem VarsOk.vlen{m:MtV}{vars:List Int}(hm:MValid m)(h:VarsOk m vars):vars.length<=8:=by
 have hS:SetP vars (m.sizes.length:Int):=⟨h.rng,fun i x y hx hy=>by
  obtain⟨h1,rfl⟩:=List.getElem?_eq_some_iff.1 hx;obtain⟨h2,rfl⟩:=List.getElem?_eq_some_iff.1 hy;exact List.pairwise_iff_getElem.1 h.inc i (i+1) h1 h2 (by omega)⟩
 have h1:=hS.length (by omega);have:=hm.v1;omega
theorem VarsOk.size{m:MtV}{vars:List Int}(hm:MValid m)(h:VarsOk m vars){v:Int}(hv:v∈vars):1<=xJ2 m.sizes v/\xJ2 m.sizes v<=6:=by
 obtain⟨k,hk⟩:=Int.eq_ofNat_of_zero_le (h.rng v hv).1;have h2:=(h.rng v hv).2;rw[hk] at h2 ⊢;have h3:m.sizes[k]? = some (m.sizes[k]'(by omega)):=lGe _;rw[xJ5 (v:=m.sizes[k]'(by omega)) (by rw[Int.toNat_natCast];exact h3)];exact hm.sz _ (lMg h3)
theorem vK4{m:MtV}{vars:List Int}(hm:MValid m)(h:VarsOk m vars):∀ {k:Nat},k<=vars.length->1<=prV m.sizes vars k/\prV m.sizes vars k<=(6:Int) ^ k:=by
 intro k
 induction k with
 | zero=>intro _;exact⟨Int.le_refl _,Int.le_refl _⟩
 | succ k ih=>
  intro hk;have h1:=ih (by omega);have h2:=h.size hm (zX8 (vars:=vars) (i:=(k:Int)) (by omega) (by omega));have h3:=vK3 h1 h2;rw[prV];have e:(6:Int) ^ (k+1)=6 * 6 ^ k:=by rw[Int.pow_succ,Int.mul_comm]
  rw[e];exact h3
theorem vWk{m:MtV}{vars:List Int}(hm:MValid m)(h:VarsOk m vars){k:Nat}(hk:k<=vars.length):1<=prV m.sizes vars k/\prV m.sizes vars k<=1679616:=by
 have h1:=vK4 hm h hk;have h2:=vJs (k:=k) (by have:=h.vlen hm;omega);omega
theorem xXt(w:World)(S A:Option Addr)(c1 c:Nat)(s vars:List Int)(hS:Ints w S s)(hls:s.length<=9223372036854775807)(hI:Ints w A vars)(hl:vars.length<=1000000)(hr:Hid (∀ v∈vars,0<=v/\v < (s.length:Int))) :
  Calls Tryz.prog 47 #[.slice S s.length c1,.slice A vars.length c] w fun e w'=>∃ v,e=.returned v/\OwnI w.heap.size w' v (xXq s vars)/\Below w.heap.size w w':=by
 go_enter Tryz.func47,Tryz.ntmps47
 go_wp2_with fail
 go_loopw [5,10] (fun v i wr=>∃ k:Nat,k<=vars.length/\i=.int .i64 k/\OwnI (w.heap.size) wr v (xXq s (vars.take k))/\Below w.heap.size w wr) (fun _ i _=>vars.length - (intOf i).toNat)
 case atStart=>exact⟨0,Nat.zero_le _,rfl,OwnI.nil _ _,Below.refl _ _⟩
 case round=>
  obtain⟨k,hk,rfl,hown,hBr⟩:=hrel;obtain⟨w2,rfl⟩:∃ wo:World,wo=wr:=⟨_,rfl⟩;have dRs:=hBr.size;have hlen:(xXq s (vars.take k)).length < 1000000000000:=by rw[xXv,List.length_take];omega
  by_cases hlt:k < vars.length
  ·obtain⟨ad,x,rfl,hx,hcx⟩:=(hI.below hBr).at_ (k:=k) hlt;have hxr:=hr.out x (lMg hx.out);obtain⟨j,hj⟩:=Int.eq_ofNat_of_zero_le hxr.1;subst hj;have hjl:j < s.length:=by omega
   obtain⟨bd,y,rfl,hy,hd⟩:=(hS.below hBr).at_ (k:=j) hjl;have HVY:=lHd (show xJ2 s (j:Int)=y from xJ5 (by rw[Int.toNat_natCast];exact hy.out));have HSU:=lHd (vV5 (s:=s) hx.out)
   go_wp2_with (at_builtin;go_must (refine xZk rfl (.tmp 14) (.tmp 19) rfl w [] (w.heap.size) u5 _ (y) rfl (OwnI.below hown ?p1) ⟨w2.heap.size,0,none⟩ 1 rfl ?p2 hlen ?p3 ?p4 ?p5 ?p6 ?p7 ?_;(case p1=>exact bch);(case p2=>(first | simp[Cls,go_sem] | exact xZh _ _ _ _ rfl));(case p3=>(first | omega | (simp <;> omega)));(case p4=>(first | omega | (simp <;> omega)));(case p5=>exact bch);(case p6=>exact Cls.below (w:=w2) bch trivial);(case p7=>(simp <;> omega));intro v1 w1 o1 D1 C1 sz1;have d1s:=D1.size))
   go_roundw
   case rel=>exact⟨k+1,by omega,by go_num,by rw[<- HSU.out,HVY.out];exact o1,bch⟩
   case measure=>simp[intOf];omega
  ·have hke:vars.take k=vars:=List.take_of_length_le (by omega);rw[hke] at hown;go_wp2;go_ret;exact⟨_,rfl,hown,hBr⟩
theorem xWt(w:World)(m:MtV)(As Ai Ag Ao:Option Addr)(cs ci cg co:Nat)(hM:MMem w As Ai Ag Ao m)(A:Option Addr)(c:Nat)(vars:List Int)(hI:Ints w A vars)(hl:vars.length<=9223372036854775807)(hm:MValid m)(hv:VarsOk m vars) :
  Calls Tryz.prog 43 #[.agg #[.slice As m.sizes.length cs,.slice Ai m.init.length ci,.slice Ag m.goal.length cg,.slice Ao m.ops.length co],.slice A vars.length c] w fun e w'=>e=.returned (.bool (decide (2000 < prV m.sizes vars vars.length)))/\Below w.heap.size w w':=by
 have HM:=lHd hM;have HMV:=lHd hm;have HVO:=lHd hv;clear hM hm hv;go_enter Tryz.func43,Tryz.ntmps43;go_wp2
 go_loopw [5,10] (fun n i wr=>∃ k:Nat,k<=vars.length/\i=.int .i64 k/\n=.int .i64 (prV m.sizes vars k)/\Below w.heap.size w wr/\Cls wr [(w.heap.size,0,.slice As m.sizes.length cs),(w.heap.size,1,.slice Ai m.init.length ci),(w.heap.size,2,.slice Ag m.goal.length cg),(w.heap.size,3,.slice Ao m.ops.length co)]) (fun _ i _=>vars.length - (intOf i).toNat)
 case atStart=>exact⟨0,Nat.zero_le _,rfl,rfl,bch,(by simp[Cls,go_sem])⟩
 case round=>
  obtain⟨k,hk,rfl,rfl,hBr,hCr⟩:=hrel;obtain⟨wk,rfl⟩:∃ wo:World,wo=wr:=⟨_,rfl⟩;have Fr:=hCr;simp only[Cls,and_true] at Fr;have yrw0:w.heap.size < wk.heap.size:=hCr.blk (b:=w.heap.size) (k:=0) (v:=.slice As m.sizes.length cs) (by simp)
  by_cases hlt:k < vars.length
  ·obtain⟨ad,x,rfl,hx,hcx⟩:=(hI.below hBr).at_ (k:=k) hlt;have hxr:=HVO.out.rng x (lMg hx.out);have HXK:=lHd (show xJ2 vars (k:Int)=x from xJ5 (by rw[Int.toNat_natCast];exact hx.out));obtain⟨j,hj⟩:=Int.eq_ofNat_of_zero_le hxr.1;subst hj;have hjl:j < m.sizes.length:=by omega
   obtain⟨bd,y,rfl,hy,hd⟩:=(HM.out.sizes.below hBr).at_ (k:=j) hjl;have HVY:=lHd (show xJ2 m.sizes (j:Int)=y from xJ5 (by rw[Int.toNat_natCast];exact hy.out));have HST:=lHd (show prV m.sizes vars k * y=prV m.sizes vars (k+1) by rw[prV,HXK.out,HVY.out]);have hwr:IntKind.i64.wrap (prV m.sizes vars k * y)=prV m.sizes vars k * y:=zJl (by rw[HST.out];have:=vWk HMV.out HVO.out (k:=k+1) (by omega);omega);go_wp2
   go_roundw
   case rel=>exact⟨k+1,by omega,by go_num,by rw[HST.out],bch,(Cls.below (w:=wk) bch hCr)⟩
   case measure=>simp[intOf];omega
  ·obtain rfl:k=vars.length:=by omega
   go_wp2;go_ret;exact⟨rfl,bch⟩
theorem vJt{sizes s:List Int}(h6:∀ j:Nat,j < sizes.length->xJ2 sizes (j:Int)<=6)(hs:StM sizes s):∀ {k:Nat},k<=sizes.length->0<=rkV sizes s k/\rkV sizes s k < (6:Int) ^ k:=by
 intro k
 induction k with
 | zero=>intro _;exact⟨Int.le_refl _,by show (0:Int) < 6 ^ 0;decide⟩
 | succ k ih=>
  intro hk;obtain⟨i1,i2⟩:=ih (by omega);have h1:=hs.rng k (by omega);have h2:=h6 k (by omega);rw[rkV];have h3:0<=rkV sizes s k * xJ2 sizes (k:Int):=Int.mul_nonneg i1 (by omega);have h4:(rkV sizes s k+1) * xJ2 sizes (k:Int)<=(6:Int) ^ k * xJ2 sizes (k:Int):=Int.mul_le_mul_of_nonneg_right (by omega) (by omega);have h5:(6:Int) ^ k * xJ2 sizes (k:Int)<=(6:Int) ^ k * 6:=Int.mul_le_mul_of_nonneg_left h2 (by omega);rw[Int.add_mul,Int.one_mul] at h4;have e:(6:Int) ^ (k+1)=6 ^ k * 6:=by rw[Int.pow_succ]
  rw[e];omega
theorem zZ0(w:World)(Z A:Option Addr)(c1 c:Nat)(sizes s:List Int)(hZ:Ints w Z sizes)(hI:Ints w A s)(hl8:sizes.length<=8)(hs:StM sizes s)(h6:∀ j:Nat,j < sizes.length->xJ2 sizes (j:Int)<=6) :
  Calls Tryz.prog 46 #[.slice Z sizes.length c1,.slice A s.length c] w fun e w'=>e=.returned (.int .i64 (rkA sizes s))/\w=w':=by
 have HS:=lHd hs;have H6:=lHd h6;have hsl:=hs.len;clear hs h6;go_enter Tryz.func46,Tryz.ntmps46;go_wp2
 go_loop [5,10] (fun n i=>∃ k:Nat,k<=s.length/\i=.int .i64 k/\n=.int .i64 (rkV sizes s k)) (fun _ i=>s.length - (intOf i).toNat)
 case atStart=>exact⟨0,Nat.zero_le _,rfl,rfl⟩
 case round=>
  obtain⟨k,hk,rfl,rfl⟩:=hrel
  by_cases hlt:k < s.length
  ·obtain⟨ad,x,rfl,hx,hcx⟩:=hI.at_ (k:=k) hlt;have hjl:k < sizes.length:=by omega
   have hjl2:(k:Int) < (sizes.length:Int):=by omega
   obtain⟨bd,y,rfl,hy,hd⟩:=hZ.at_ (k:=k) hjl;have HVX:=lHd (show xJ2 s (k:Int)=x from xJ5 (by rw[Int.toNat_natCast];exact hx.out));have HVY:=lHd (show xJ2 sizes (k:Int)=y from xJ5 (by rw[Int.toNat_natCast];exact hy.out));have HST:=lHd (show rkV sizes s k * y+x=rkV sizes s (k+1) by rw[rkV,HVX.out,HVY.out]);have hb1:=vJt H6.out HS.out (k:=k+1) (by omega);have hb2:=vJs (k:=k+1) (by omega);have hb3:=HS.out.rng k hjl;rw[HVX.out,HVY.out] at hb3;rw[<- HST.out] at hb1;have hb4:0<=rkV sizes s k * y:=Int.mul_nonneg (vJt H6.out HS.out (k:=k) (by omega)).1 (by omega);have hwr:IntKind.i64.wrap (rkV sizes s k * y)=rkV sizes s k * y:=zJl (by omega);have hwr2:IntKind.i64.wrap (rkV sizes s k * y+x)=rkV sizes s k * y+x:=zJl (by omega);go_wp2
   go_round
   case rel=>exact⟨k+1,by omega,by go_num,by rw[HST.out]⟩
   case measure=>simp[intOf];omega
  ·have hke:Hid (rkV sizes s k=rkA sizes s):=lHd (by unfold rkA;rw[<- hsl];congr 1;omega);go_wp2;go_ret;exact⟨xYd hke.out,rfl⟩
theorem zV0{sizes:List Int}(h:∀ j:Nat,j < sizes.length->1<=xJ2 sizes (j:Int)/\xJ2 sizes (j:Int)<=6):∀ {k:Nat},k<=sizes.length->(xY4 sizes k).length<=6 ^ k:=by
 intro k
 induction k with
 | zero=>intro _;exact Nat.le_refl _
 | succ k ih=>
  intro hk;rw[xY4,zVu (xKf sizes k),Nat.pow_succ];exact Nat.mul_le_mul (ih (by omega)) (by have:=h k (by omega);omega)
theorem zJn{k:Nat}(h:k<=8):(6:Nat) ^ k<=1679616:=Nat.le_trans (Nat.pow_le_pow_right (by omega) h) (by decide)
theorem zYa(A:Option Addr)(n c:Nat)(hc:n<=c)(hc2:c<=9223372036854775807)(w:World):(Instr.slice 22 (.slice A n c) none (some (.int .i64 (n:Int))) (some (.int .i64 (n:Int)))).run Tryz.prog w=.ok (.slice A n n) w:=by
 have h0:(0:Int)<=n:=by omega
 have h1:(n:Int)<=c:=by omega
 simp[go_sem,Tryz.underlying22,h0,h1,hc]
theorem vX3(w:World):OwnLL w.heap.size (w.alloc (.cells #[.slice none 0 0] 22)) (.slice (some ⟨w.heap.size,0,none⟩) 1 1) [[]]:=by
 refine⟨[.slice none 0 0],⟨rfl,.inr ⟨w.heap.size,1,#[.slice none 0 0],rfl,Nat.le_refl _,heap_alloc_new w _,Nat.le_refl _,by decide,rfl,rfl⟩⟩,fun i a ha=>?_⟩
 match i,ha with
 | 0,ha=>simp at ha;subst ha;exact⟨none,0,rfl,Ints.nil _ _,fun _=>⟨rfl,rfl⟩,Nat.le_refl _,by omega,fun ad e=>by cases e⟩
 | i+1,ha=>simp at ha
theorem OwnLL.monoB{base base':Nat}{w:World}{v:Value}{rows:List (List Int)}(h:OwnLL base w v rows)(hb:base'<=base):OwnLL base' w v rows:=by
 obtain⟨cells,h1,h2⟩:=OwnEs.mono h hb;exact⟨cells,h1,fun i a ha=>by
  obtain⟨A,c,e,hI,hn,h3,h4,h5⟩:=h2 i a ha;exact⟨A,c,e,hI,hn,h3,h4,fun ad he=>⟨(h5 ad he).1,(h5 ad he).2.1,by have:=(h5 ad he).2.2;omega⟩⟩⟩
theorem zV1{ops:Array Oper}{rest:List Oper}{o:Oper}{a:Act}{w:World}{Q:Exit->Act->World->Prop}(hgd:o.guard=none)(s x:Operand)
  (ho:o.op=.call { callee:=.builtin .append,args:=#[s,x],argTypes:=#[22,22] })
  (A:Option Addr) (n:Nat) (r:List Int) (hr:r.length=n) (hs:a.eval s=.slice A n n) (hI:Ints w A r) (hnil:A=none->r=[]) (ad:Addr) (m:Nat) (y:Int) (hx:a.eval x=.slice (some ad) 1 m) (hc:w.cell? ad=some (.int .i64 y)) (hlen:n < 1000000)
  (h:∀ v' w',OwnI w.heap.size w' v' (r ++ [y])->Below w.heap.size w w'->wpList Tryz.prog ops Q rest (a.put o.dst v') w'):wpList Tryz.prog ops Q (o :: rest) a w:=by
 obtain⟨i0,hi0,hz⟩:=Option.map_eq_some_iff.1 xXx;simp only[Prod.mk.injEq] at hz;refine wpList_append_grows w hgd s x 22 ho 3 i0 (.int .i64 0) 1 8 Tryz.underlying22 hi0 hz.1 hz.2.1 hz.2.2 rfl (by decide) A n n (r.map (Value.int .i64)) hs (fun e=>by have:=hnil e;subst this;simp at hr;exact⟨hr.symm,hr.symm⟩) (by simp[hr]) (fun b e j u hu=>?_) ad 1 m [.int .i64 y] hx rfl (fun j u hu=>?_) (fun u hu=>by simp at hu;subst hu;rfl) (by omega) (by simp only[maxLen];omega) (by omega) ?_
 ·obtain⟨ad',e',hc'⟩:=hI j u hu;rw[e] at e';injection e' with e'
  rw[e'];exact hc'
 ·cases j with
  | zero=>simp at hu;subst hu;rw[add_zero];exact hc
  | succ j=>simp at hu
 ·intro v' w' h1 h2;refine h v' w' ?_ ((Below.refl _ _).grown h2 (Nat.le_refl _) (fun k hk=>by cases hk));unfold OwnI;rw[List.length_append,List.map_append];subst hr;exact h1
theorem zV2(w:World)(Z:Option Addr)(c:Nat)(sizes:List Int)(hZ:Ints w Z sizes)(hl8:sizes.length<=8)(h68:∀ j:Nat,j < sizes.length->1<=xJ2 sizes (j:Int)/\xJ2 sizes (j:Int)<=6) :
  Calls Tryz.prog 93 #[.slice Z sizes.length c] w fun e w'=>∃ v,e=.returned v/\OwnLL w.heap.size w' v (xWg sizes)/\Below w.heap.size w w':=by
 have H68:=lHd h68;clear h68;go_enter Tryz.func93,Tryz.ntmps93;have HO1:=vX3 w;go_wp2
 go_loopw [3,13] (fun v i wr=>∃ k:Nat,k<=sizes.length/\i=.int .i64 (k:Int)/\OwnLL w.heap.size wr v (xY4 sizes k)/\Below w.heap.size w wr) (fun _ i _=>sizes.length - (intOf i).toNat)
 case atStart=>exact⟨0,Nat.zero_le _,rfl,HO1,bch⟩
 case round=>
  clear HO1;obtain⟨k,hk,rfl,hown,hBr⟩:=hrel;obtain⟨wk,rfl⟩:∃ wo:World,wo=wr:=⟨_,rfl⟩;have hsr:=hBr.size
  by_cases hlt:k < sizes.length
  ·obtain⟨ad,x,rfl,hx,hcx⟩:=(hZ.below hBr).at_ (k:=k) hlt;have hxk:=H68.out k hlt;have HXK:=lHd (show xJ2 sizes (k:Int)=x from xJ5 (by rw[Int.toNat_natCast];exact hx.out));rw[HXK.out] at hxk;obtain⟨N,hN⟩:=Int.eq_ofNat_of_zero_le (show 0<=x by omega);subst hN;have HST:=lHd (show xY4 sizes (k+1)=(xY4 sizes k).flatMap fun s=>(List.range N).map fun (v:Nat)=>s ++ [(v:Int)] by rw[xY4,HXK.out,Int.toNat_natCast]);have HLN:=lHd (fun (j:Nat) (hj:j<=(xY4 sizes k).length) (v:Nat) (hv:v<=N)=>show (((xY4 sizes k).take j).flatMap (fun s=>(List.range N).map fun (v:Nat)=>s ++ [(v:Int)])).length+v < 100000000 by
    rw[zVu (c:=N) (fun x _=>by simp),List.length_take];have h1:=zV0 H68.out (k:=k) (by omega);have h2:=zJn (k:=k) (by omega);have h3:min j (xY4 sizes k).length * N<=1679616 * 6:=Nat.mul_le_mul (by omega) (by omega);omega)
   have HSR:=lHd (fun (j:Nat) s (h:(xY4 sizes k)[j]? = some s)=>(vYa (sizes:=sizes) (k:=k) (fun j hj=>(H68.out j (by omega)).1) h).1);obtain⟨L,hL⟩:∃ L,Hid (xY4 sizes k=L):=⟨_,lHd rfl⟩;rw[hL.out] at hown HST HLN HSR;obtain⟨A,c,rfl⟩:=OwnEs.form hown;have hLl:L.length<=1679616:=by
    rw[<- hL.out];exact Nat.le_trans (zV0 H68.out (k:=k) (by omega)) (zJn (by omega))
   go_wp2
   go_loopw [6,19] (fun v i wr=>∃ j:Nat,j<=L.length/\i=.int .i64 (j:Int)/\OwnLL wk.heap.size wr v ((L.take j).flatMap fun s=>(List.range N).map fun (v:Nat)=>s ++ [(v:Int)])/\Below wk.heap.size wk wr) (fun _ i _=>L.length - (intOf i).toNat)
   case atStart=>exact⟨0,Nat.zero_le _,rfl,OwnEs.nil _ _,bch⟩
   case round=>
    obtain⟨j,hj,rfl,hownN,hBj⟩:=hrel;obtain⟨wj,rfl⟩:∃ wo:World,wo=wr:=⟨_,rfl⟩
    by_cases hjl:j < L.length
    ·obtain⟨g,cs,r,rfl,hg1,hg2,hr,hcl,hgc,B1,c1,hcs,hI1,hn1,hle1,hmx1,hbl1⟩:=OwnEs.at_ hown (i:=j) hjl;subst hcs;have z1:=hgc 0 _ rfl;simp only[Nat.add_zero,Nat.mul_one] at z1;have z0:=(hBj.cell (p:=⟨g,j,none⟩) hg2).trans z1;have hrl:=HSR.out j r hr.out;have hr8:r.length < 1000000:=by omega
     have HCUT:=lHd (zYa B1 r.length c1 hle1 hmx1);have hcut:=HCUT.out;clear hgc hrl;go_wp2
     go_loopw [6,24] (fun v i wr=>∃ x:Nat,x<=N/\i=.int .i64 (x:Int)/\OwnLL wk.heap.size wr v (((L.take j).flatMap fun s=>(List.range N).map fun (v:Nat)=>s ++ [(v:Int)]) ++ (List.range x).map fun (v:Nat)=>r ++ [(v:Int)])/\Below wk.heap.size wk wr) (fun _ i _=>N - (intOf i).toNat)
     case atStart=>exact⟨0,Nat.zero_le _,rfl,by simpa using hownN,hBj⟩
     case round=>
      obtain⟨x,hx,rfl,hownX,hBx⟩:=hrel;obtain⟨wx,rfl⟩:∃ wo:World,wo=wr:=⟨_,rfl⟩;have hsx:=hBx.size
      by_cases hxl:x < N
      ·have hIx:=hI1.below hBx;have HLX:=lHd (HLN.out j (by omega) x (by omega));have hlen:(((L.take j).flatMap fun s=>(List.range N).map fun (v:Nat)=>s ++ [(v:Int)]) ++ (List.range x).map fun (v:Nat)=>r ++ [(v:Int)]).length < 1000000000000:=by
        rw[List.length_append,List.length_map,List.length_range];have:=HLX.out;omega
       have HTK:=lHd (show (List.range (x+1)).map (fun (v:Nat)=>r ++ [(v:Int)])=(List.range x).map (fun (v:Nat)=>r ++ [(v:Int)]) ++ [r ++ [(x:Int)]] by rw[List.range_succ,List.map_append];rfl)
       go_wp2_with (at_builtin;first | (refine zV1 rfl (.tmp 33) (.tmp 35) rfl B1 r.length r rfl rfl (hIx.below bch) (fun e=>(hn1 e).1) ⟨wx.heap.size,0,none⟩ 1 (x:Int) rfl (by simp[go_sem]) hr8 ?_;intro v3 w3 hO3 hB3;have hs3:=hB3.size;simp only[World.size_alloc] at hs3;have D3:=xJ4 wk hB3 bch;have hown3:OwnLL wk.heap.size w3 u6 _:=(OwnLL.below hownX bch).below hB3;have HY:=lHd (zXc (B:=wk.heap.size) (row:=u6.ownBlock) hO3 (by simp;omega) (fun b hb=>by have:=(OwnEs.lt hownX b hb).2;simp;omega));obtain⟨A3,c3,hv3,hnl3,hI3⟩:=hO3.form;subst hv3;clear hnl3 hI3 hO3) | (refine xW0 (xJ8 _) 44 24 (.slice none 0 0) Tryz.underlying44 vZl rfl (by decide) (by decide) rfl (.tmp 27) (.tmp 37) rfl wk [] rfl (OwnLL.below hown3 bch) ⟨w3.heap.size,0,none⟩ 1 rfl [.slice A3 (r ++ [(x:Int)]).length c3] (r ++ [(x:Int)]) rfl (xQv (by simp[go_sem])) (by intro u hu;simp at hu;subst hu;rfl) ((xJ8 _).below HY.out bch) hlen (by simp;omega) (Nat.le_refl _) bch trivial (by simp) ?_;intro v6 w6 o6 D6 C6 sz6 G6 at6;clear G6 at6))
       go_roundw
       case rel=>exact⟨x+1,by omega,by go_num,by rw[HTK.out,<- List.append_assoc];exact o6,D6⟩
       case measure=>simp[intOf];omega
      ·obtain rfl:x=N:=by omega
       have HTJ:=lHd (show (L.take (j+1)).flatMap (fun s=>(List.range x).map fun (v:Nat)=>s ++ [(v:Int)])=(L.take j).flatMap (fun s=>(List.range x).map fun (v:Nat)=>s ++ [(v:Int)]) ++ (List.range x).map fun (v:Nat)=>r ++ [(v:Int)] by rw[List.take_add_one,hr.out,List.flatMap_append];simp);go_wp2
       go_roundw
       case rel=>exact⟨j+1,by omega,by go_num,by rw[HTJ.out];exact hownX,hBx⟩
       case measure=>simp[intOf];omega
    ·have hje:L.take j=L:=List.take_of_length_le (by omega);rw[hje,<- HST.out] at hownN;go_wp2
     go_roundw
     case rel=>exact⟨k+1,by omega,by go_num,OwnLL.monoB hownN hsr,hBr.trans (hBj.mono hsr)⟩
     case measure=>simp[intOf];omega
  ·obtain rfl:k=sizes.length:=by omega
   go_wp2;go_ret;exact⟨_,rfl,hown,hBr⟩
theorem Cls.grown1{w w':World}{l:List (Nat×Nat×Value)}{row:Option Nat}(hC:Cls w l)(hg:w.grownBy w' row)(hl:∀ x∈l,row≠some x.1):Cls w' l:=by
 induction l with
 | nil=>trivial
 | cons x r ih=>
  obtain⟨b,k,u⟩:=x;obtain⟨⟨h1,h2⟩,h3⟩:=hC;have hlt:=World.block_lt_of_cell? w ⟨b,k,none⟩ h1;have hne:w'.heap[b]? = w.heap[b]?:=hg.block b hlt (fun e=>hl (b,k,u) (by simp) e.symm);exact⟨⟨(World.cell?_of_block (w:=w) hne).trans h1,(World.frozen?_of_block (w:=w) hne).trans h2⟩,ih h3 (fun x hx=>hl x (by simp[hx]))⟩
def OwnAs(base:Nat)(w:World)(v:Value)(l:List (Int×Int)):Prop:=OwnEs yJ2 154 2 base w v l
theorem OwnAs.below{base:Nat}{w w':World}{v:Value}{l:List (Int×Int)}(h:OwnAs base w v l)(hb:Below w.heap.size w w'):OwnAs base w' v l:=OwnEs.below xYx h hb
theorem OwnAs.far{base:Nat}{w:World}{v:Value}{l:List (Int×Int)}(h:OwnAs base w v l){p:Addr}(hp:p.block < base)(u:Value):OwnAs base (w.setCell p u) v l:=OwnEs.far h (fun h _=>h) hp u
theorem vYo:(Tryz.prog.info? 154).map (fun i=>(i.zero,i.size,i.bytes))=some (some (.agg #[.int .i64 0,.int .i64 0]),2,16):=by kernel_rfl
theorem OwnAs.at{base n c:Nat}{w:World}{A:Option Addr}{l:List (Int×Int)}(h:OwnAs base w (.slice A n c) l):AsAt w A l:=fun k a hk=>by
 have hlt:=(List.getElem?_eq_some_iff.1 hk).1;obtain⟨g,cs,b,rfl,_,_,hb,hcl,hc,e⟩:=OwnEs.at_ h (i:=k) hlt;have:a=b:=by have:=hb.out;rw[hk] at this;exact Option.some.inj this
 subst this;subst e;have hadd:(⟨g,0,none⟩:Addr).add (k * 2)=⟨g,k * 2,none⟩:=by
  unfold Addr.add
  split
  ·rename_i hj;rw[hj]
  ·simp
 refine⟨⟨g,0,none⟩,rfl,?_,?_⟩
 ·rw[hadd];exact hc 0 _ rfl
 ·rw[hadd];exact hc 1 _ rfl
def rsF(vars:List Int)(v x:Int)(i:Nat):Option (Int×Int):=if xJ2 vars (i:Int)=v then some ((i:Int),x) else none
theorem zK4{l:List (Int×Int)}{vars:List Int}{k:Nat}{v x:Int}(h:l[k]? = some (v,x)):xJd (l.take (k+1)) vars=xJd (l.take k) vars ++ (List.range vars.length).filterMap (rsF vars v x):=by
 unfold xJd;rw[List.take_add_one,h,List.flatMap_append];simp only[Option.toList,List.flatMap_cons,List.flatMap_nil,List.append_nil];rfl
theorem xVq(l:List (Int×Int))(vars:List Int):(xJd l vars).length<=l.length * vars.length:=by
 unfold xJd
 induction l with
 | nil=>simp
 | cons a l ih=>
  rw[List.flatMap_cons,List.length_append,List.length_cons,Nat.succ_mul];have:=List.length_filterMap_le (fun (i:Nat)=>if xJ2 vars (i:Int)=a.1 then some ((i:Int),a.2) else none) (List.range vars.length);rw[List.length_range] at this;omega
theorem vYp{vars:List Int}{v x:Int}{j:Nat}(h:xJ2 vars (j:Int)=v):(List.range (j+1)).filterMap (rsF vars v x)=(List.range j).filterMap (rsF vars v x) ++ [((j:Int),x)]:=by
 rw[List.range_succ,List.filterMap_append];simp[rsF,h]
theorem vWb{vars:List Int}{v x:Int}{j:Nat}(h:¬ xJ2 vars (j:Int)=v):(List.range (j+1)).filterMap (rsF vars v x)=(List.range j).filterMap (rsF vars v x):=by
 rw[List.range_succ,List.filterMap_append];simp[rsF,h]
theorem vYq(vars:List Int)(v x:Int)(j:Nat):((List.range j).filterMap (rsF vars v x)).length<=j:=by
 have:=List.length_filterMap_le (rsF vars v x) (List.range j);rw[List.length_range] at this;exact this
theorem xXg(w:World)(A:Option Addr)(c:Nat)(l:List (Int×Int))(hL:AsAt w A l)(hll:l.length<=100)(V:Option Addr)(c1:Nat)(vars:List Int)(hI:Ints w V vars)(hlv:vars.length<=100) :
  Calls Tryz.prog 92 #[.slice A l.length c,.slice V vars.length c1] w fun e w'=>∃ v,e=.returned v/\OwnAs w.heap.size w' v (xJd l vars)/\Below w.heap.size w w':=by
 go_enter Tryz.func92,Tryz.ntmps92;go_wp2
 go_loopw [5,12] (fun vo i wr=>∃ k:Nat,k<=l.length/\i=.int .i64 (k:Int)/\OwnAs w.heap.size wr vo (xJd (l.take k) vars)/\Below w.heap.size w wr) (fun _ i _=>l.length - (intOf i).toNat)
 case atStart=>exact⟨0,Nat.zero_le _,rfl,OwnEs.nil _ _,bch⟩
 case round=>
  obtain⟨k,hk,rfl,hown,hBr⟩:=hrel;obtain⟨wk,rfl⟩:∃ wo:World,wo=wr:=⟨_,rfl⟩
  by_cases hlt:k < l.length
  ·obtain⟨ad,v,x,rfl,hx,hc0,hc1⟩:=(hL.below hBr).at_ (k:=k) hlt;have HSU:=lHd (zK4 (vars:=vars) hx.out);have hol:=fun b hb=>(OwnEs.lt hown b hb).2
   have HLE:=lHd (xVq (l.take k) vars);have HLM:=lHd (show (l.take k).length * vars.length<=100 * 100 from Nat.mul_le_mul (by rw[List.length_take];omega) hlv);go_wp2
   go_loopw [5,18] (fun vo i wr=>∃ j:Nat,j<=vars.length/\i=.int .i64 (j:Int)/\OwnAs w.heap.size wr vo (xJd (l.take k) vars ++ (List.range j).filterMap (rsF vars v x))/\Below w.heap.size w wr/\wk.heap.size < wr.heap.size/\Hid (vo.ownBlock≠some wk.heap.size)/\Cls wr [(wk.heap.size,0,.int .i64 v),(wk.heap.size,1,.int .i64 x)]) (fun _ i _=>vars.length - (intOf i).toNat)
   case atStart=>exact⟨0,Nat.zero_le _,rfl,by simpa using OwnAs.below hown bch,bch,(by simp),lHd (fun e=>by have:=hol _ e;omega),(by simp[Cls,go_sem])⟩
   case round=>
    obtain⟨j,hj,rfl,hownJ,hBj,hwj,HNB,hCj⟩:=hrel;obtain⟨wj,rfl⟩:∃ wo:World,wo=wr:=⟨_,rfl⟩;have hsj:=hBj.size;have Fj:=hCj;simp only[Cls,and_true] at Fj
    by_cases hjl:j < vars.length
    ·obtain⟨bd,y,rfl,hy,hd⟩:=(hI.below hBj).at_ (k:=j) hjl;have HVY:=lHd (show xJ2 vars (j:Int)=y from xJ5 (by rw[Int.toNat_natCast];exact hy.out))
     by_cases hyv:v=y
     ·have HYV:=lHd (vYp (vars:=vars) (x:=x) (j:=j) (show xJ2 vars (j:Int)=v by rw[HVY.out,hyv]));have hyv':(v == y)=true:=by simp[hyv]
      have hlen:(xJd (l.take k) vars ++ (List.range j).filterMap (rsF vars v x)).length < 1000000000000:=by
       rw[List.length_append];have:=HLE.out;have:=HLM.out;have:=vYq vars v x j;omega
      subst hyv
      go_wp2_with (at_builtin;refine xW0 xYx 40 16 (.agg #[.int .i64 0,.int .i64 0]) Tryz.underlying40 vYo rfl (by decide) (by decide) rfl (.tmp 27) (.tmp 32) rfl w [] rfl (OwnAs.below hownJ bch) ⟨wj.heap.size,0,none⟩ 1 rfl [.int .i64 (j:Int),.int .i64 x] ((j:Int),x) rfl (zQ1 (by simp[go_sem]) (by simp[go_sem])) (by intro u hu;simp at hu;rcases hu with rfl | rfl <;> rfl) rfl hlen (by simp;omega) (Nat.le_refl _) bch trivial (by simp) ?_;intro v6 w6 o6 D6 C6 sz6 G6 at6;have hs6:=sz6;simp only[World.size_alloc] at hs6)
      go_roundw
      case rel=>exact⟨j+1,by omega,by go_num,by rw[HYV.out,<- List.append_assoc];exact o6,D6,(by omega),lHd (fun e=>by rcases at6 with h | h <;> rw[h] at e;exact HNB.out e;simp at e;omega),Cls.grown1 (Cls.below bch hCj) G6 (fun z hz=>by simp at hz;rcases hz with rfl | rfl <;> exact HNB.out)⟩
      case measure=>simp[intOf];omega
     ·have HYV:=lHd (vWb (vars:=vars) (x:=x) (j:=j) (show ¬ xJ2 vars (j:Int)=v by rw[HVY.out];exact fun e=>hyv e.symm));have hyv':(v == y)=false:=by simp[hyv]
      go_wp2
      go_roundw
      case rel=>exact⟨j+1,by omega,by go_num,by rw[HYV.out];exact hownJ,hBj,hwj,HNB,hCj⟩
      case measure=>simp[intOf];omega
    ·obtain rfl:j=vars.length:=by omega
     rw[<- HSU.out] at hownJ;go_wp2
     go_roundw
     case rel=>exact⟨k+1,by omega,by go_num,hownJ,hBj⟩
     case measure=>simp[intOf];omega
  ·have hke:l.take k=l:=List.take_of_length_le (by omega);rw[hke] at hown;go_wp2;go_ret;exact⟨_,rfl,hown,hBr⟩
theorem zWz{sizes:List Int}{k:Nat}{x:Int}(h:sizes[k]? = some x):xJ6 0 (sizes.take k) ++ [(sizes.take k).sum]=xJ6 0 (sizes.take (k+1))/\(sizes.take k).sum+x=(sizes.take (k+1)).sum:=by
 rw[List.take_add_one,h];refine⟨?_,by simp⟩;rw[show (some x).toList=[x] from rfl,vXi,Int.zero_add]
theorem vJ0{sizes:List Int}(h:∀ x∈sizes,1<=x/\x<=6):0<=sizes.sum/\sizes.sum<=6 * sizes.length:=by
 induction sizes with
 | nil=>simp
 | cons x xs ih=>
  rw[List.sum_cons,List.length_cons];have:=h x (List.mem_cons_self ..);have:=ih (fun y hy=>h y (List.mem_cons_of_mem _ hy));omega
theorem zK5{base:List Int}{l:List (Int×Int)}{k:Nat}{v x:Int}(h:l[k]? = some (v,x)):xJb base (l.take (k+1))=xJb base (l.take k) ++ [xJ2 base v+x]:=by
 unfold xJb;rw[List.take_add_one,h,List.map_append];rfl
theorem zXs(w:World)(Z:Option Addr)(c:Nat)(sizes:List Int)(hZ:Ints w Z sizes)(hl8:sizes.length<=8)(h6:∀ x∈sizes,1<=x/\x<=6) :
  Calls Tryz.prog 85 #[.slice Z sizes.length c] w fun e w'=>∃ v,e=.returned (.tuple #[v,.int .i64 sizes.sum])/\OwnI w.heap.size w' v (xJ6 0 sizes)/\Below w.heap.size w w':=by
 go_enter Tryz.func85,Tryz.ntmps85
 go_wp2_with fail
 go_loopw [4,5,10] (fun v n i wr=>∃ k:Nat,k<=sizes.length/\i=.int .i64 k/\n=.int .i64 (sizes.take k).sum/\OwnI w.heap.size wr v (xJ6 0 (sizes.take k))/\Below w.heap.size w wr) (fun _ _ i _=>sizes.length - (intOf i).toNat)
 case atStart=>exact⟨0,Nat.zero_le _,rfl,rfl,OwnI.nil _ _,Below.refl _ _⟩
 case round=>
  obtain⟨k,hk,rfl,rfl,hown,hBr⟩:=hrel;obtain⟨w2,rfl⟩:∃ wo:World,wo=wr:=⟨_,rfl⟩;have dRs:=hBr.size;have hlen:(xJ6 0 (sizes.take k)).length < 1000000000000:=by rw[zJx,List.length_take];omega
  by_cases hlt:k < sizes.length
  ·obtain⟨ad,x,rfl,hx,hcx⟩:=(hZ.below hBr).at_ (k:=k) hlt;have HSU:=lHd (zWz hx.out);have hs1:=vJ0 (sizes:=sizes.take (k+1)) (fun y hy=>h6 y (List.mem_of_mem_take hy));rw[List.length_take,<- HSU.out.2] at hs1;have hwr:IntKind.i64.wrap ((sizes.take k).sum+x)=(sizes.take k).sum+x:=zJl (by omega)
   go_wp2_with (at_builtin;go_must (refine xZk rfl (.tmp 14) (.tmp 16) rfl w [] (w.heap.size) u4 _ ((sizes.take k).sum) rfl (OwnI.below hown ?p1) ⟨w2.heap.size,0,none⟩ 1 rfl ?p2 hlen ?p3 ?p4 ?p5 ?p6 ?p7 ?_;(case p1=>exact bch);(case p2=>(first | simp[Cls,go_sem] | exact xZh _ _ _ _ rfl));(case p3=>(first | omega | (simp <;> omega)));(case p4=>(first | omega | (simp <;> omega)));(case p5=>exact bch);(case p6=>exact Cls.below (w:=w2) bch trivial);(case p7=>(simp <;> omega));intro v1 w1 o1 D1 C1 sz1;have d1s:=D1.size))
   go_roundw
   case rel=>exact⟨k+1,by omega,by go_num,by rw[<- HSU.out.2],by rw[<- HSU.out.1];exact o1,bch⟩
   case measure=>simp[intOf];omega
  ·have hke:sizes.take k=sizes:=List.take_of_length_le (by omega);rw[hke] at hown ⊢;go_wp2
   go_ret2
   exact⟨_,rfl,hown,hBr⟩
theorem xYf{ops:Array Oper}{o:Oper}{a:Act}{w:World}{K:Act->World->Prop}{Q:Exit->Act->World->Prop}{E:Prop}(hgd:o.guard=none)(s x:Operand)
  (ho:o.op=.call { callee:=.builtin .append,args:=#[s,x],argTypes:=#[22,22] })
  (base:Nat) (v:Value) (xs:List Int) (y:Int) (hs:a.eval s=v) (hown:OwnI base w v xs) (ad:Addr) (m:Nat) (hx:a.eval x=.slice (some ad) 1 m) (hc:w.cell? ad=some (.int .i64 y))
  (hlen:xs.length < 1000000000000) (hbase:base<=w.heap.size)
  (h:∀ g cap w',OwnI base w' (.slice (some ⟨g,0,none⟩) (xs.length+1) cap) (xs ++ [y])->w.grownBy w' v.ownBlock->(v.ownBlock=some g\/g=w.heap.size)->g < w'.heap.size->K (a.put o.dst (.slice (some ⟨g,0,none⟩) (xs.length+1) cap)) w') :
  if Region.wanted o (yielded ops a.tmps)=true then Oper.wp Tryz.prog o a w K Q else E:=by
 obtain⟨i0,hi0,hz⟩:=Option.map_eq_some_iff.1 xXx;simp only[Prod.mk.injEq] at hz;refine step_append_lies w hgd s x 22 ho base 3 i0 (.int .i64 0) 1 8 Tryz.underlying22 hi0 hz.1 hz.2.1 hz.2.2 rfl (by decide) v xs.length (xs.map (Value.int .i64)) hs hown ad 1 m [.int .i64 y] hx rfl ?_ ?_ (by decide) ?_ ?_ hbase _ rfl ?_
 ·intro j u hu
  cases j with
  | zero=>simp at hu;subst hu;rw[add_zero];exact hc
  | succ j=>simp at hu
 ·intro u hu;simp at hu;subst hu;rfl
 ·simp only[maxLen];omega
 ·omega
 ·intro g cap w' h1 h2 h3 h4;refine h g cap w' ?_ h2 h3 h4;unfold OwnI;rw[List.length_append,List.map_append];exact h1
theorem xZa(w:World)(B:Option Addr)(c1:Nat)(bs:List Int)(hB:Ints w B bs)(hlb:bs.length<=100)(A:Option Addr)(c:Nat)(l:List (Int×Int))(hL:AsAt w A l)(hll:l.length<=100)(hr:Hid (∀ v x,(v,x)∈l->(0<=v/\v < (bs.length:Int))/\(0<=x/\x<=6)/\0<=xJ2 bs v/\xJ2 bs v<=100)) :
  Calls Tryz.prog 86 #[.slice B bs.length c1,.slice A l.length c] w fun e w'=>∃ v,e=.returned v/\OwnI w.heap.size w' v (xJb bs l)/\Below w.heap.size w w':=by
 go_enter Tryz.func86,Tryz.ntmps86;go_wp2
 go_loopw [5,10] (fun v i wr=>∃ k:Nat,k<=l.length/\i=.int .i64 (k:Int)/\OwnI w.heap.size wr v (xJb bs (l.take k))/\Below w.heap.size w wr) (fun _ i _=>l.length - (intOf i).toNat)
 case atStart=>exact⟨0,Nat.zero_le _,rfl,OwnI.nil _ _,bch⟩
 case round=>
  obtain⟨k,hk,rfl,hown,hBr⟩:=hrel;obtain⟨wk,rfl⟩:∃ wo:World,wo=wr:=⟨_,rfl⟩;have hsr:=hBr.size;have hlen:(xJb bs (l.take k)).length < 1000000000000:=by unfold xJb;rw[List.length_map,List.length_take];omega
  by_cases hlt:k < l.length
  ·obtain⟨ad,v,x,rfl,hx,hc0,hc1⟩:=(hL.below hBr).at_ (k:=k) hlt;have hvr:=hr.out v x (lMg hx.out);obtain⟨j,hj⟩:=Int.eq_ofNat_of_zero_le hvr.1.1;subst hj;have hjl:j < bs.length:=by omega
   obtain⟨bd,y,rfl,hy,hdw⟩:=hB.at_ (k:=j) hjl;have hbw:=World.block_lt_of_cell? w _ hdw;have hd:=(hBr.cell hbw).trans hdw;have hbd:=World.block_lt_of_cell? wk _ hd;have hol:=fun b hb=>(World.ownsRow.lt hown b hb).2
   have HVY:=lHd (show xJ2 bs (j:Int)=y from xJ5 (by rw[Int.toNat_natCast];exact hy.out));have HSU:=lHd (zK5 (base:=bs) hx.out);have hwr:IntKind.i64.wrap (y+x)=y+x:=zJl (by have:=hvr.2.2;rw[HVY.out] at this;omega)
   go_wp2_with fail
   have hSS0:(wk.alloc (.cells #[.int .i64 (j:Int),.int .i64 x] 154)).drew.cell? ⟨wk.heap.size,0,none⟩=some (.int .i64 (j:Int))/\(wk.alloc (.cells #[.int .i64 (j:Int),.int .i64 x] 154)).drew.cell? ⟨wk.heap.size,1,none⟩=some (.int .i64 x)/\(wk.alloc (.cells #[.int .i64 (j:Int),.int .i64 x] 154)).drew.cell? (bd.add j)=some (.int .i64 y):=by simp[go_sem,hbd,hd]
   refine xJg (fun W=>W.cell? ⟨wk.heap.size,0,none⟩=some (.int .i64 (j:Int))/\W.cell? ⟨wk.heap.size,1,none⟩=some (.int .i64 x)/\W.cell? (bd.add j)=some (.int .i64 y)) [11] (by kernel_rfl) ?_;have hSS:=hSS0;refine xJ0 (i:=0) (v:=?vz10) rfl (by kernel_rfl) (by kernel_rfl) (by kernel_rfl) (by kernel_rfl) (by kernel_rfl) (fun _ _ _ h=>h) (Or.inl ⟨by rfl,?hz10⟩) (by assumption) ?rz10
   case hz10=>(intro w hSw;(try dsimp only at hSw);go_simp;(try with_reducible rfl))
   try simp only[ap]
   refine xJ0 (i:=1) (v:=?vz11) rfl (by kernel_rfl) (by kernel_rfl) (by kernel_rfl) (by kernel_rfl) (by kernel_rfl) (fun _ _ _ h=>h) (Or.inl ⟨by rfl,?hz11⟩) (by assumption) ?rz11
   case hz11=>(intro w hSw;(try dsimp only at hSw);go_simp;(try with_reducible rfl))
   try simp only[ap]
   refine xJ0 (i:=2) (v:=?vz12) rfl (by kernel_rfl) (by kernel_rfl) (by kernel_rfl) (by kernel_rfl) (by kernel_rfl) (fun _ _ _ h=>h) (Or.inl ⟨by rfl,?hz12⟩) (by assumption) ?rz12
   case hz12=>(intro w hSw;(try dsimp only at hSw);go_simp;(try with_reducible rfl))
   try simp only[ap]
   refine xJ0 (i:=3) (v:=?vz13) rfl (by kernel_rfl) (by kernel_rfl) (by kernel_rfl) (by kernel_rfl) (by kernel_rfl) (fun _ _ _ h=>h) (Or.inl ⟨by rfl,?hz13⟩) (by assumption) ?rz13
   case hz13=>(intro w hSw;(try dsimp only at hSw);go_simp;(try with_reducible rfl))
   try simp only[ap]
   refine xJ0 (i:=4) (v:=?vz14) rfl (by kernel_rfl) (by kernel_rfl) (by kernel_rfl) (by kernel_rfl) (by kernel_rfl) (fun _ _ _ h=>h) (Or.inl ⟨by rfl,?hz14⟩) (by assumption) ?rz14
   case hz14=>(intro w hSw;(try dsimp only at hSw);go_simp;(try with_reducible rfl))
   try simp only[ap]
   refine xJ0 (i:=5) (v:=?vz15) rfl (by kernel_rfl) (by kernel_rfl) (by kernel_rfl) (by kernel_rfl) (by kernel_rfl) (fun _ _ _ h=>h) (Or.inl ⟨by rfl,?hz15⟩) (by assumption) ?rz15
   case hz15=>(intro w hSw;(try dsimp only at hSw);go_simp;(try with_reducible rfl))
   try simp only[ap]
   refine xJ0 (i:=6) (v:=?vz16) rfl (by kernel_rfl) (by kernel_rfl) (by kernel_rfl) (by kernel_rfl) (by kernel_rfl) (fun _ _ _ h=>h) (Or.inl ⟨by rfl,?hz16⟩) (by assumption) ?rz16
   case hz16=>(intro w hSw;(try dsimp only at hSw);go_simp;(try with_reducible rfl))
   try simp only[ap]
   refine xJ0 (i:=7) (v:=?vz17) rfl (by kernel_rfl) (by kernel_rfl) (by kernel_rfl) (by kernel_rfl) (by kernel_rfl) (fun _ _ _ h=>h) (Or.inl ⟨by rfl,?hz17⟩) (by assumption) ?rz17
   case hz17=>(intro w hSw;(try dsimp only at hSw);go_simp;(try with_reducible rfl))
   try simp only[ap]
   refine xJ3 (i:=8) (by kernel_rfl) rfl (fun K hK=>?_);go_simp
   go_wp2_with fail
   have hSS:(wk.alloc (.cells #[.int .i64 (j:Int),.int .i64 x] 154)).drew.cell? ⟨wk.heap.size,0,none⟩=some (.int .i64 (j:Int))/\(wk.alloc (.cells #[.int .i64 (j:Int),.int .i64 x] 154)).drew.cell? ⟨wk.heap.size,1,none⟩=some (.int .i64 x)/\(wk.alloc (.cells #[.int .i64 (j:Int),.int .i64 x] 154)).drew.cell? (bd.add j)=some (.int .i64 y):=hSS0;refine hK.out _ _ hSS ?_;clear hK K
   try simp only[ap]
   refine xJ3 (i:=9) (by kernel_rfl) rfl (fun K hK=>?_);go_simp
   go_wp2_with fail
   have hSS:((wk.alloc (.cells #[.int .i64 (j:Int),.int .i64 x] 154)).drew.alloc (.cells #[.int .i64 (y+x)] 3)).cell? ⟨wk.heap.size,0,none⟩=some (.int .i64 (j:Int))/\((wk.alloc (.cells #[.int .i64 (j:Int),.int .i64 x] 154)).drew.alloc (.cells #[.int .i64 (y+x)] 3)).cell? ⟨wk.heap.size,1,none⟩=some (.int .i64 x)/\((wk.alloc (.cells #[.int .i64 (j:Int),.int .i64 x] 154)).drew.alloc (.cells #[.int .i64 (y+x)] 3)).cell? (bd.add j)=some (.int .i64 y):=(by simp[go_sem,hbd,hd]);refine hK.out _ _ hSS ?_;clear hK K
   try simp only[ap]
   refine xJ3 (i:=10) (by kernel_rfl) rfl (fun K hK=>?_);refine xYf rfl (.tmp 14) (.tmp 23) rfl w.heap.size u5 _ (y+x) rfl (hown.below bch) ⟨wk.heap.size+1,0,none⟩ 1 rfl (by simp[go_sem]) hlen (by simp;omega) ?_;intro g6 c6 w6 o6 G6 g6or g6lt;have D6:Below w.heap.size w w6:=xQ0 (w:=((wk.alloc (.cells #[.int .i64 (j:Int),.int .i64 x] 154)).drew.alloc (.cells #[.int .i64 (y+x)] 3))) bch (hown.below bch) G6 (by simp;omega);have hbx:∀ (q:Nat) (u:Value),((wk.alloc (.cells #[.int .i64 (j:Int),.int .i64 x] 154)).drew.alloc (.cells #[.int .i64 (y+x)] 3)).cell? ⟨wk.heap.size,q,none⟩=some u->w6.cell? ⟨wk.heap.size,q,none⟩=some u:=fun q u hh=>(G6.cell_far ⟨wk.heap.size,q,none⟩ (by simp;omega) (fun e=>by have:=hol _ e.symm;simp at this)).trans hh
   have hSS:w6.cell? ⟨wk.heap.size,0,none⟩=some (.int .i64 (j:Int))/\w6.cell? ⟨wk.heap.size,1,none⟩=some (.int .i64 x)/\w6.cell? (bd.add j)=some (.int .i64 y):=⟨hbx 0 _ (by simp[go_sem]),hbx 1 _ (by simp[go_sem]),(D6.cell hbw).trans hdw⟩;refine hK.out _ _ hSS ?_;clear hK K
   try simp only[ap]
   refine xJc (i:=11) (by kernel_rfl) rfl (by kernel_rfl) (fun K hK=>?_);go_simp
   go_wp2_with fail
   refine hK.out _ _ ?_;clear hK K
   try simp only[ap]
   refine xJ7 (by kernel_rfl) ?_ _;go_wp2
   go_roundw
   case rel=>exact⟨k+1,by omega,by go_num,by rw[HSU.out,HVY.out];exact o6,D6⟩
   case measure=>simp[intOf];omega
  ·have hke:l.take k=l:=List.take_of_length_le (by omega);rw[hke] at hown;go_wp2;go_ret;exact⟨_,rfl,hown,hBr⟩
section
variable {P:Program}{ops:Array Oper}{Q:Exit->Act->World->Prop}{md:Region.Mode}{S:World->Prop}{X:List Nat}
theorem xXs{i j:Nat}{oi oj:Oper}{fuel:Nat}{listed:Array Bool}{a:Act}{w:World}(hr:Region.ready md ops listed=[i,j])(hi:ops[i]? = some oi)(hj:ops[j]? = some oj)
  (h1:∀ K':Act->World->Prop,Shut (∀ a w,S w->xX3 P md ops Q S X fuel (listed.setIfInBounds i true) a w->K' a w)->if Region.wanted oi (yielded ops a.tmps)=true then Oper.wp P oi a w K' Q else K' (a.put oi.dst undef) w)
  (h2:∀ K':Act->World->Prop,Shut (∀ a w,S w->xX3 P md ops Q S X fuel (listed.setIfInBounds j true) a w->K' a w)->if Region.wanted oj (yielded ops a.tmps)=true then Oper.wp P oj a w K' Q else K' (a.put oj.dst undef) w) :
  xX3 P md ops Q S X (fuel+1) listed a w:=by
 refine⟨fun h0=>absurd (hr ▸ h0) (by simp),fun k hk=>?_⟩;rw[hr] at hk;rcases List.mem_cons.1 hk with rfl | hk
 ·exact wpOp_step hi (fun K' hK=>h1 K' (fun a w hS hW=>hK a w ⟨fun _=>hS,hW⟩))
 ·obtain rfl:=List.mem_singleton.1 hk;exact wpOp_step hj (fun K' hK=>h2 K' (fun a w hS hW=>hK a w ⟨fun _=>hS,hW⟩))
end
theorem AsAt.far{w:World}{A:Option Addr}{l:List (Int×Int)}(h:AsAt w A l){p:Addr}(hp:∀ ad,A=some ad->ad.block≠p.block)(u:Value):AsAt (w.setCell p u) A l:=fun k a hk=>by
 obtain⟨ad,e,h0,h1⟩:=h k a hk;have hb:=hp ad e;refine⟨ad,e,?_,?_⟩
 ·rw[World.cell?_setCell_other w p _ u (fun k=>hb (by rw[k,xZ4]))];exact h0
 ·rw[World.cell?_setCell_other w p _ u (fun k=>hb (by rw[k];exact (xZ4 ad _).symm))];exact h1
theorem AsAt.grown{w w':World}{A:Option Addr}{l:List (Int×Int)}{row:Option Nat}(h:AsAt w A l)(hg:w.grownBy w' row)(hne:∀ ad,A=some ad->some ad.block≠row):AsAt w' A l:=fun k a hk=>by
 obtain⟨ad,e,h0,h1⟩:=h k a hk;exact⟨ad,e,hg.cell h0 (by rw[xZ4];exact hne ad e),hg.cell h1 (by show some (ad.add (k * 2)).block≠row;rw[xZ4];exact hne ad e)⟩
def vK1(B:Nat)(w:World)(row:Option Nat)(cs:List Value)(l:List (Int×Int)):Prop:=
 ∃ A c,cs=[.slice A l.length c]/\AsAt w A l/\∀ ad,A=some ad->some ad.block≠row/\ad.block < w.heap.size/\B<=ad.block
theorem xX6(B:Nat):Stable (vK1 B):=by
 constructor
 ·rintro w w' row cs r ⟨A,c,e,hI,ha⟩ hb;exact⟨A,c,e,hI.below hb,fun ad h=>⟨(ha ad h).1,Nat.lt_of_lt_of_le (ha ad h).2.1 hb.size,(ha ad h).2.2⟩⟩
 ·rintro w w' row cs r ⟨A,c,e,hI,ha⟩ hg;have hI':=hI.grown hg (fun ad h=>(ha ad h).1);exact⟨⟨A,c,e,hI',fun ad h=>⟨(ha ad h).1,Nat.lt_of_lt_of_le (ha ad h).2.1 hg.size,(ha ad h).2.2⟩⟩,
   ⟨A,c,e,hI',fun ad h=>⟨fun e=>by injection e with e;have:=(ha ad h).2.1;omega,Nat.lt_of_lt_of_le (ha ad h).2.1 hg.size,(ha ad h).2.2⟩⟩⟩
theorem vJq{B base:Nat}{w:World}{v:Value}{l:List (Int×Int)}{row:Option Nat}(h:OwnAs base w v l)(hB:B<=base)(hr:∀ k,row=some k->k < base):vK1 B w row [v] l:=by
 obtain⟨A,c,rfl⟩:=OwnEs.form h;refine⟨A,c,rfl,h.at,fun ad e=>?_⟩;subst e;have:=OwnEs.lt h ad.block rfl;exact⟨fun e=>by have:=hr _ e.symm;omega,this.2,by omega⟩
theorem zY6{B:Nat}{w:World}{row:Option Nat}{cs:List Value}{l:List (Int×Int)}{p:Addr}{u:Value}(h:vK1 B w row cs l)(hp:p.block < B):vK1 B (w.setCell p u) row cs l:=by
 obtain⟨A,c,e,hI,ha⟩:=h;exact⟨A,c,e,hI.far (fun ad h=>by have:=(ha ad h).2.2;omega) u,fun ad h=>⟨(ha ad h).1,by have:=(ha ad h).2.1;simpa using this,(ha ad h).2.2⟩⟩
def PMop(B:Nat)(w:World)(row:Option Nat)(cs:List Value)(o:MopV):Prop:=
 ∃ A0 c0 A1 c1,cs=[.slice A0 o.pre.length c0,.slice A1 o.post.length c1,.int .i64 o.cost]/\vK1 B w row [.slice A0 o.pre.length c0] o.pre/\vK1 B w row [.slice A1 o.post.length c1] o.post
theorem xKl(B:Nat):Stable (PMop B):=by
 constructor
 ·rintro w w' row cs o ⟨A0,c0,A1,c1,e,h0,h1⟩ hb;exact⟨A0,c0,A1,c1,e,(xX6 B).below h0 hb,(xX6 B).below h1 hb⟩
 ·rintro w w' row cs o ⟨A0,c0,A1,c1,e,h0,h1⟩ hg;exact⟨⟨A0,c0,A1,c1,e,((xX6 B).grown h0 hg).1,((xX6 B).grown h1 hg).1⟩,⟨A0,c0,A1,c1,e,((xX6 B).grown h0 hg).2,((xX6 B).grown h1 hg).2⟩⟩
def OwnMs(base:Nat)(w:World)(v:Value)(ops:List MopV):Prop:=OwnEs (PMop base) 156 3 base w v ops
theorem OwnMs.below{base:Nat}{w w':World}{v:Value}{ops:List MopV}(h:OwnMs base w v ops)(hb:Below w.heap.size w w'):OwnMs base w' v ops:=OwnEs.below (xKl _) h hb
theorem OwnMs.far{base:Nat}{w:World}{v:Value}{ops:List MopV}(h:OwnMs base w v ops){p:Addr}(hp:p.block < base)(u:Value):OwnMs base (w.setCell p u) v ops:=
 OwnEs.far h (fun h hp=>by obtain⟨A0,c0,A1,c1,e,h0,h1⟩:=h;exact⟨A0,c0,A1,c1,e,zY6 h0 hp,zY6 h1 hp⟩) hp u
theorem vV2:(Tryz.prog.info? 156).map (fun i=>(i.zero,i.size,i.bytes))=some (some (.agg #[.slice none 0 0,.slice none 0 0,.int .i64 0]),3,56):=by kernel_rfl
theorem OwnMs.at{base n c:Nat}{w:World}{A:Option Addr}{ops:List MopV}(h:OwnMs base w (.slice A n c) ops)(hl:∀ o∈ops,lenOk o.pre.length/\lenOk o.post.length):MopsAt w A ops:=fun k o hk=>by
 have hlt:=(List.getElem?_eq_some_iff.1 hk).1;obtain⟨g,cs,a,rfl,_,_,ha,hcl,hc,A0,c0,A1,c1,e,h0,h1⟩:=OwnEs.at_ h (i:=k) hlt;have:o=a:=by have:=ha.out;rw[hk] at this;injection this
 subst this;subst e;have hadd:(⟨g,0,none⟩:Addr).add (k * 3)=⟨g,k * 3,none⟩:=by
  unfold Addr.add
  split
  ·rename_i hj;rw[hj]
  ·simp
 have hf:∀ {A:Option Addr} {c:Nat} {l:List (Int×Int)},vK1 base w (some g) [.slice A l.length c] l->AsAt w A l:=fun h=>by
  obtain⟨A',c',e,hI,_⟩:=h;injection e with e
  injection e with e1 e2 e3
  rw[e1];exact hI
 refine⟨⟨g,0,none⟩,A0,c0,A1,c1,rfl,?_,?_,?_,⟨hf h0,hf h1⟩,hl o (lMg hk)⟩
 ·rw[hadd];exact hc 0 _ rfl
 ·rw[hadd];exact hc 1 _ rfl
 ·rw[hadd];exact hc 2 _ rfl
end Go.Proofs.YtpeipeljmapkmaaGreat
