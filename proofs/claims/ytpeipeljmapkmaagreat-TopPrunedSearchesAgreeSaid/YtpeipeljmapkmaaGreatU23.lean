/-
  Lemmas for the law: Taq, Thh, Tbm.
-/
import Derived.Test.YtpeipeljmapkmaaGreatU17
import Derived.Test.YtpeipeljmapkmaaGreatU22
import Derived.Test.YtpeipeljmapkmaaGreatU15
set_option linter.unusedVariables false
set_option linter.unusedSimpArgs false
set_option maxRecDepth 100000
set_option maxHeartbeats 4000000
namespace Go.Proofs.YtpeipeljmapkmaaGreat
open Go.RowKit
section
open Go.Shelf
def unF(ls:List (List Int))(f:Int->Option Value):Nat:=(ls.map fun l=>if (f (xJ0 l)).isSome then 0 else 1).sum
theorem xVk(ls:List (List Int)):unF ls (fun _=>none)=ls.length:=by
 unfold unF
 induction ls with
 | nil=>rfl
 | cons a ls ih=>simp only[List.map_cons,List.sum_cons,List.length_cons,ih];simp;omega
theorem vX2{ls:List (List Int)}{f:Int->Option Value}{l:List Int}{v:Value}(h:∀ x∈ls,xJ0 x≠xJ0 l):unF ls (upd f (xJ0 l) v)=unF ls f:=by
 unfold unF;congr 1;refine List.map_congr_left fun x hx=>?_
 rw[xJe f v (h x hx)]
theorem xVy{n:Nat}{ls:List (List Int)}{f:Int->Option Value}{l:List Int}{v:Value}(hn:ls.Nodup)(hs:∀ x∈ls,SetP x (n:Int))(hl:l∈ls)(m:Nat):up1 f (xJ0 l) m+unF ls (upd f (xJ0 l) v)=m+unF ls f:=by
 induction ls with
 | nil=>cases hl
 | cons a ls ih=>
  obtain⟨h1,h2⟩:=List.nodup_cons.1 hn;show up1 f (xJ0 l) m+((if (upd f (xJ0 l) v (xJ0 a)).isSome then 0 else 1)+unF ls (upd f (xJ0 l) v))=m+((if (f (xJ0 a)).isSome then 0 else 1)+unF ls f)
  by_cases e:l=a
  ·subst e;rw[vX2 (fun x hx e2=>h1 (xJi (hs x (List.mem_cons_of_mem _ hx)) (hs l (List.mem_cons_self ..)) e2 ▸ hx)),xX1];unfold up1
   split <;> simp <;> omega
  ·have h3:=ih h2 (fun x hx=>hs x (List.mem_cons_of_mem _ hx)) (by rcases List.mem_cons.1 hl with h | h;exact absurd h e;exact h);rw[xJe f v (fun e2=>e (xJi (hs a (List.mem_cons_self ..)) (hs l hl) e2).symm)];omega
inductive Fp(n:Nat)(ops:List OpV)(goal:List Int):List Int->List Nat->Prop
 | nil {l:List Int}:(∀ q∈goal,q∈l)->Fp n ops goal l []
 | cons {l:List Int} {p:Nat} {o:OpV} {ps:List Nat}:ops[p]? = some o->(∀ q∈o.pre,q∈l)->Fp n ops goal (xJ5 n l o) ps->Fp n ops goal l (p :: ps)
theorem Pth.front{n:Nat}{ops:List OpV}{goal st l:List Int}{ps:List Nat}(h:Pth n ops st l ps):∀ {qs},Fp n ops goal l qs->Fp n ops goal st (ps ++ qs):=by
 induction h with
 | init=>exact fun h=>h
 | @step l ps p o _ h2 h3 ih=>
  intro qs hq;rw[List.append_assoc];exact ih (.cons h2 h3 hq)
theorem xJf(cs:List Int)(p:Nat)(ps:List Nat):xJ6 cs (p :: ps)=xJ2 cs (p:Int)+xJ6 cs ps:=by
 unfold xJ6;rw[List.map_cons,List.sum_cons]
theorem xJw{ops:List OpV}{p:Nat}{o:OpV}(h:ops[p]? = some o):xJ2 (ops.map (·.cost)) (p:Int)=o.cost:=xJ9 (by simp[h])
theorem Fp.nn{n:Nat}{ops:List OpV}{goal l:List Int}{ps:List Nat}(hc:∀ o∈ops,0<=o.cost)(h:Fp n ops goal l ps):0<=xJ6 (ops.map (·.cost)) ps:=by
 induction h with
 | nil _=>simp[xJ6]
 | cons h1 _ _ ih=>
  rw[xJf,xJw h1];have:=hc _ (lMg h1);omega
theorem vYg{ops:List OpV}{l:List Int}{p:Nat}{o:OpV}(h1:ops[p]? = some o)(h2:∀ q∈o.pre,q∈l):xWo ops l (p:Int):=⟨o,by simpa using h1,h2⟩
theorem Fp.low{n:Nat}{t:TaskV}{l:List Int}{ps:List Nat}(hv:Valid t)(hn:t.facts=n)(h:Fp n t.ops t.goal l ps):SetP l (n:Int)->xJ6 (t.ops.map (·.cost)) ps < 1000000000->vZa n (t.ops.map rxO) t.goal l<=xJ6 (t.ops.map (·.cost)) ps:=by
 have hH:=zQ3 hv hn;have hc0:∀ o∈t.ops,0<=o.cost:=fun o ho=>(hv.ops o ho).2.1
 induction h with
 | nil hg=>intro hs _;have:=hH.goal _ hg hs;simpa[xJ6] using this
 | @cons l p o ps h1 h2 h3 ih=>
  intro hs hc;rw[xJf,xJw h1] at hc ⊢;have ho:=hc0 o (lMg h1);have h4:=ih (xJj n l o) (by omega);have h5:=hH.step l p o hs h1 (vYg h1 h2) (by omega);omega
structure AB(n:Nat)(ops:List OpV)(st:List Int)(ls:List (List Int))(D:List Int->Int)(Pa:Int->Option Value)(fh fq:Int->Option Int):Prop where
 d0:D st=0
 lo:∀ l∈ls,0<=D l/\D l<=1000000000
 par:∀ l∈ls,D l < 1000000000->l≠st->∃ (s:List Int) (p:Nat) (o:OpV),s∈ls/\ops[p]? = some o/\(∀ q∈o.pre,q∈s)/\xJ5 n s o=l/\D s+(o.cost * 4096+1)<=D l/\Pa (xJ0 l)=some (.agg #[.int .u32 (xJ0 s),.int .i64 (p:Int)])
 q:∀ x k,fq x=some k->∃ l∈ls,xJ0 l=x/\D l < 1000000000/\∃ h,fh x=some h/\k=D l+4096 * h
def OkTo(D:List Int->Int)(fh:Int->Option Int)(d:Int)(o:OpV)(l':List Int):Prop:=(∃ h,fh (xJ0 l')=some h/\1000000000<=h)\/D l'<=d+(o.cost * 4096+1)
def DoneA(n:Nat)(ops:List OpV)(goal:List Int)(D:List Int->Int)(fh:Int->Option Int)(l:List Int):Prop:=
 (¬ ∀ q∈goal,q∈l)/\∀ (p:Nat) (o:OpV),ops[p]? = some o->(∀ q∈o.pre,q∈l)->OkTo D fh (D l) o (xJ5 n l o)
structure ASt(n:Nat)(ops:List OpV)(goal st:List Int)(ls:List (List Int))(D:List Int->Int)(Pa:Int->Option Value)(fh fq:Int->Option Int):Prop extends AB n ops st ls D Pa fh fq where
 cl:∀ l∈ls,D l < 1000000000->fq (xJ0 l)=none->DoneA n ops goal D fh l
structure AS1(n:Nat)(ops:List OpV)(goal st:List Int)(ls:List (List Int))(D:List Int->Int)(Pa:Int->Option Value)(fh fq:Int->Option Int)(s:List Int)(d:Int)(pre:List (Nat×OpV×List Int)):Prop extends AB n ops st ls D Pa fh fq where
 hs:s∈ls
 cur:D s=d
 hd:d < 1000000000
 out:fq (xJ0 s)=none
 ng:¬ ∀ q∈goal,q∈s
 cl:∀ l∈ls,l≠s->D l < 1000000000->fq (xJ0 l)=none->DoneA n ops goal D fh l
 dn:∀ y∈pre,OkTo D fh d y.2.1 y.2.2
def ExtH(f g:Int->Option Int):Prop:=∀ x h,f x=some h->g x=some h
theorem ExtH.refl(f:Int->Option Int):ExtH f f:=fun _ _ h=>h
theorem ExtH.trans{f g k:Int->Option Int}(h1:ExtH f g)(h2:ExtH g k):ExtH f k:=fun x h e=>h2 x h (h1 x h e)
section
variable {n:Nat}{ops:List OpV}{goal st:List Int}{ls:List (List Int)}{D:List Int->Int}{Pa:Int->Option Value}{fh fq:Int->Option Int}{s:List Int}{d:Int}{pre:List (Nat×OpV×List Int)}
theorem OkTo.ext{g:Int->Option Int}{o:OpV}{l':List Int}(hx:ExtH fh g)(h:OkTo D fh d o l'):OkTo D g d o l':=by
 rcases h with ⟨k,h1,h2⟩ | h
 ·exact .inl ⟨k,hx _ _ h1,h2⟩
 ·exact .inr h
theorem DoneA.ext{g:Int->Option Int}{l:List Int}(hx:ExtH fh g)(h:DoneA n ops goal D fh l):DoneA n ops goal D g l:=⟨h.1,fun p o h1 h2=>(h.2 p o h1 h2).ext hx⟩
theorem AB.ext{g:Int->Option Int}(hx:ExtH fh g)(h:AB n ops st ls D Pa fh fq):AB n ops st ls D Pa g fq:=
 ⟨h.d0,h.lo,h.par,fun x k hk=>by obtain⟨l,h1,h2,h3,v,h4,h5⟩:=h.q x k hk;exact⟨l,h1,h2,h3,v,hx _ _ h4,h5⟩⟩
theorem AS1.ext{g:Int->Option Int}(hx:ExtH fh g)(h:AS1 n ops goal st ls D Pa fh fq s d pre):AS1 n ops goal st ls D Pa g fq s d pre:=
 ⟨h.toAB.ext hx,h.hs,h.cur,h.hd,h.out,h.ng,fun l h1 h2 h3 h4=>(h.cl l h1 h2 h3 h4).ext hx,fun y hy=>(h.dn y hy).ext hx⟩
theorem vX3{f:Int->Option Int}{y x k:Int}(h:xKu f y x=some k):f x=some k/\x≠y:=by
 unfold xKu at h
 split at h
 ·cases h
 ·exact⟨h,by assumption⟩
theorem AB.del(h:AB n ops st ls D Pa fh fq)(y:Int):AB n ops st ls D Pa fh (xKu fq y):=⟨h.d0,h.lo,h.par,fun x k hk=>h.q x k (vX3 hk).1⟩
theorem ASt.take(h:ASt n ops goal st ls D Pa fh fq)(hset:∀ l∈ls,SetP l (n:Int))(hs:s∈ls){k:Int}(hk:fq (xJ0 s)=some k)(hg:¬ ∀ q∈goal,q∈s):AS1 n ops goal st ls D Pa fh (xKu fq (xJ0 s)) s (D s) []:=by
 obtain⟨l,h1,h2,h3,_⟩:=h.q _ _ hk;have e:=xJi (hset l h1) (hset s hs) h2;subst e;refine⟨h.toAB.del _,hs,rfl,h3,by unfold xKu;rw[if_pos rfl],hg,fun l' h4 h5 h6 h7=>h.cl l' h4 h6 ?_,by simp⟩;unfold xKu at h7;rw[if_neg (fun e=>h5 (xJi (hset l' h4) (hset l hs) e))] at h7;exact h7
theorem AS1.skip(h:AS1 n ops goal st ls D Pa fh fq s d pre){y:Nat×OpV×List Int}(hy:OkTo D fh d y.2.1 y.2.2):AS1 n ops goal st ls D Pa fh fq s d (pre ++ [y]):=
 ⟨h.toAB,h.hs,h.cur,h.hd,h.out,h.ng,h.cl,fun z hz=>by
  rcases List.mem_append.1 hz with hz | hz
  ·exact h.dn z hz
  ·simp at hz;subst hz;exact hy⟩
theorem AS1.relax(h:AS1 n ops goal st ls D Pa fh fq s d pre)(hset:∀ l∈ls,SetP l (n:Int))(hst:st∈ls){p:Nat}{o:OpV}{l':List Int}(hl':l'∈ls)(ho:ops[p]? = some o)(hp:∀ q∈o.pre,q∈s)(hx:xJ5 n s o=l')(hc0:0<=o.cost)
  {N k:Int} (hN:N=d+(o.cost * 4096+1)) (hlt:N < D l') (hb:N < 1000000000) {hv:Int} (hh:fh (xJ0 l')=some hv) (hk:k=N+4096 * hv) :
  AS1 n ops goal st ls (xV9 D l' N) (upd Pa (xJ0 l') (.agg #[.int .u32 (xJ0 s),.int .i64 (p:Int)])) fh (xZ1 fq (xJ0 l') k) s d (pre ++ [(p,o,l')]):=by
 have hlo:=h.lo s h.hs;rw[h.cur] at hlo;have hsl:s≠l':=fun e=>by rw[<- e,h.cur] at hlt;omega
 have hstl:st≠l':=fun e=>by rw[<- e,h.d0] at hlt;omega
 have hother:∀ {x},x≠l'->xV9 D l' N x=D x:=fun {x} e=>if_neg e
 have hself:xV9 D l' N l'=N:=if_pos rfl;have hle:∀ x,xV9 D l' N x<=D x:=fun x=>by
  by_cases e:x=l'
  ·subst e;rw[hself];omega
  ·rw[hother e];exact Int.le_refl _
 have hw:∀ {x},x∈ls->x≠l'->xJ0 x≠xJ0 l':=fun {x} hx e e2=>e (xJi (hset x hx) (hset l' hl') e2)
 have hqo:∀ {x},x∈ls->x≠l'->xZ1 fq (xJ0 l') k (xJ0 x)=fq (xJ0 x):=fun {x} hx e=>by unfold xZ1;rw[if_neg (hw hx e)]
 have hqs:xZ1 fq (xJ0 l') k (xJ0 l')=some k:=by unfold xZ1;rw[if_pos rfl]
 have hok:∀ {d':Int} {o':OpV} {x:List Int},OkTo D fh d' o' x->OkTo (xV9 D l' N) fh d' o' x:=fun {d' o' x} h1=>by
  rcases h1 with h1 | h1
  ·exact .inl h1
  ·exact .inr (by have:=hle x;omega)
 refine⟨⟨by rw[hother hstl];exact h.d0,fun x hx=>?_,fun x hx hlt2 hne=>?_,fun x k' hk'=>?_⟩,h.hs,by rw[hother hsl];exact h.cur,h.hd,by rw[hqo h.hs hsl];exact h.out,h.ng,fun x hx hne hlt2 hq=>?_,fun y hy=>?_⟩
 ·have:=h.lo x hx
  by_cases e:x=l'
  ·subst e;rw[hself];omega
  ·rw[hother e];exact this
 ·by_cases e:x=l'
  ·subst e;refine⟨s,p,o,h.hs,ho,hp,hx.trans rfl,?_,xX1 _ _ _⟩;rw[hself,hother hsl,h.cur];omega
  ·rw[hother e] at hlt2 ⊢;obtain⟨s',p',o',h1,h2,h3,h4,h5,h6⟩:=h.par x hx hlt2 hne;refine⟨s',p',o',h1,h2,h3,h4,?_,by rw[xJe _ _ (hw hx e)];exact h6⟩;have:=hle s';omega
 ·unfold xZ1 at hk'
  split at hk'
  ·rename_i e
   injection hk' with hk'
   exact⟨l',hl',e.symm,by rw[hself];exact hb,hv,by rw[e];exact hh,by rw[hself,<- hk',hk]⟩
  ·rename_i e
   obtain⟨l,h1,h2,h3,v,h4,h5⟩:=h.q x k' hk';have hne:l≠l':=fun e2=>e (by rw[<- h2,e2])
   exact⟨l,h1,h2,by rw[hother hne];exact h3,v,h4,by rw[hother hne];exact h5⟩
 ·by_cases e:x=l'
  ·subst e;rw[hqs] at hq;cases hq
  ·rw[hother e] at hlt2;rw[hqo hx e] at hq;have h1:=h.cl x hx hne hlt2 hq;exact⟨h1.1,fun p' o' h2 h3=>by rw[hother e];exact hok (h1.2 p' o' h2 h3)⟩
 ·rcases List.mem_append.1 hy with hy | hy
  ·exact hok (h.dn y hy)
  ·simp at hy;subst hy;refine .inr ?_;show xV9 D l' N l'<=d+(o.cost * 4096+1);rw[hself];omega
theorem AS1.fin(h:AS1 n ops goal st ls D Pa fh fq s d pre)(hp:pre=xJm n ops s ops.length):ASt n ops goal st ls D Pa fh fq:=
 ⟨h.toAB,fun l h1 h2 h3=>by
  by_cases e:l=s
  ·subst e;refine⟨h.ng,fun p o h4 h5=>?_⟩;rw[h.cur];exact h.dn (p,o,xJ5 n l o) (by rw[hp];exact xJz.2 ⟨(List.getElem?_eq_some_iff.1 h4).1,h4,h5,rfl⟩)
  ·exact h.cl l h1 e h2 h3⟩
def D0(st:List Int):List Int->Int:=fun l=>if l=st then 0 else 1000000000
theorem ASt.start(hset:∀ l∈ls,SetP l (n:Int))(hst:st∈ls){h:Int}(hh:fh (xJ0 st)=some h):ASt n ops goal st ls (D0 st) Pa fh (xZ1 (fun _=>none) (xJ0 st) (4096 * h)):=by
 have h0:D0 st st=0:=if_pos rfl;have h1:∀ {l},l≠st->D0 st l=1000000000:=fun e=>if_neg e
 refine⟨⟨h0,fun l hl=>?_,fun l hl hlt hne=>?_,fun x k hk=>?_⟩,fun l hl hlt hq=>?_⟩
 ·by_cases e:l=st
  ·subst e;rw[h0];omega
  ·rw[h1 e];omega
 ·rw[h1 hne] at hlt;omega
 ·unfold xZ1 at hk
  split at hk
  ·rename_i e
   injection hk with hk
   exact⟨st,hst,e.symm,by rw[h0];omega,h,by rw[e];exact hh,by rw[h0,<- hk];omega⟩
  ·cases hk
 ·by_cases e:l=st
  ·subst e;unfold xZ1 at hq;rw[if_pos rfl] at hq;cases hq
  ·rw[h1 e] at hlt;omega
theorem AB.trail(h:AB n ops st ls D Pa fh fq)(hset:∀ l∈ls,SetP l (n:Int))(hn24:n<=24)(hst:st∈ls)(hc0:∀ o∈ops,0<=o.cost):∀ (m:Nat) (l:List Int),l∈ls->D l < 1000000000->(D l).toNat<=m ->
  ∃ (ps:List Nat) (sts:List (List Int)),Trail Pa (xJ0 st) (xJ0 l) (ps.map Int.ofNat)/\Pth n ops st l ps/\4096 * xJ6 (ops.map (·.cost)) ps+ps.length<=D l/\sts.Nodup/\(∀ x∈sts,x∈ls/\D x<=D l)/\sts.length=ps.length+1:=by
 intro m
 induction m with
 | zero=>
  intro l hl hlt hm
  by_cases e:l=st
  ·subst e;exact⟨[],[l],.nil,.init,by rw[h.d0];simp[xJ6],by simp,fun x hx=>by simp at hx;subst hx;exact⟨hl,Int.le_refl _⟩,rfl⟩
  ·obtain⟨s,p,o,h1,h2,h3,h4,h5,h6⟩:=h.par l hl hlt e;have:=h.lo s h1;have:=hc0 o (lMg h2);omega
 | succ m ih=>
  intro l hl hlt hm
  by_cases e:l=st
  ·subst e;exact⟨[],[l],.nil,.init,by rw[h.d0];simp[xJ6],by simp,fun x hx=>by simp at hx;subst hx;exact⟨hl,Int.le_refl _⟩,rfl⟩
  ·obtain⟨s,p,o,h1,h2,h3,h4,h5,h6⟩:=h.par l hl hlt e;have hs0:=h.lo s h1;have ho:=hc0 o (lMg h2);obtain⟨ps,sts,i1,i2,i3,i4,i5,i6⟩:=ih s h1 (by omega) (by omega);refine⟨ps ++ [p],l :: sts,?_,h4 ▸ .step i2 h2 h3,?_,List.nodup_cons.2 ⟨fun hm=>?_,i4⟩,fun x hx=>?_,by simp;omega⟩
   ·rw[List.map_append];exact .step i1 h6 (fun e2=>e (xJi (hset l hl) (hset st hst) e2)) ((hset l hl).wrd hn24)
   ·rw[xZj,xJw h2];simp;omega
   ·have:=(i5 l hm).2;omega
   ·rcases List.mem_cons.1 hx with hx | hx
    ·subst hx;exact⟨hl,Int.le_refl _⟩
    ·have:=i5 x hx;exact⟨this.1,by omega⟩
end
theorem ASt.queued{n:Nat}{t:TaskV}{ls:List (List Int)}{D:List Int->Int}{Pa:Int->Option Value}{fh fq:Int->Option Int}(h:ASt n t.ops t.goal t.init ls D Pa fh fq)(hC:Clos n t.ops t.init ls)(hv:Valid t)(hn:t.facts=n)(hb:∀ l∈ls,D l < 1000000000->D l < 900000000)
  (hH:∀ l,SetP l (n:Int)->∀ v,fh (xJ0 l)=some v->xQt n t l v) {l:List Int} {ps:List Nat} (hp:Fp n t.ops t.goal l ps):l∈ls->D l < 1000000000->xJ6 (t.ops.map (·.cost)) ps < 1000000000->∀ c,D l<=c->∃ x k,fq x=some k/\k<=c+4096 * xJ6 (t.ops.map (·.cost)) ps+ps.length:=by
 have hc0:∀ o∈t.ops,0<=o.cost/\o.cost<=100:=fun o ho=>⟨(hv.ops o ho).2.1,(hv.ops o ho).2.2⟩
 have key:∀ {l:List Int} {ps:List Nat},Fp n t.ops t.goal l ps->l∈ls->xJ6 (t.ops.map (·.cost)) ps < 1000000000->∀ c k,D l<=c->fq (xJ0 l)=some k->k<=c+4096 * xJ6 (t.ops.map (·.cost)) ps:=fun {l ps} hp hl hc c k hd hq=>by
  obtain⟨l',h1,h2,h3,v,h4,h5⟩:=h.q _ _ hq;have e:=xJi (hC.set l' h1) (hC.set l hl) h2;subst e;have h6:=(hH l' (hC.set l' h1) v h4).2.2;have h7:=hp.low hv hn (hC.set l' h1) hc;omega
 induction hp with
 | @nil l hg=>
  intro hl hlt hc c hd
  cases hq:fq (xJ0 l) with
  | some k=>exact⟨_,k,hq,by have:=key (.nil hg) hl hc c k hd hq;simp;omega⟩
  | none=>exact absurd hg (h.cl l hl hlt hq).1
 | @cons l p o ps h1 h2 h3 ih=>
  intro hl hlt hc c hd
  cases hq:fq (xJ0 l) with
  | some k=>exact⟨_,k,hq,by have:=key (.cons h1 h2 h3) hl hc c k hd hq;omega⟩
  | none=>
   have ho:=hc0 o (lMg h1);have hnl:=hC.closed l hl p o h1 h2;rw[xJf,xJw h1] at hc ⊢;have hnn:=h3.nn (fun o ho=>(hc0 o ho).1);rcases (h.cl l hl hlt hq).2 p o h1 h2 with ⟨v,h4,h5⟩ | h4
   ·have h6:=(hH _ (hC.set _ hnl) v h4).2.2;have h7:=h3.low hv hn (hC.set _ hnl) (by omega);omega
   ·have h8:=hb l hl hlt;obtain⟨x,k,h5,h6⟩:=ih hnl (by omega) (by omega) (c+(o.cost * 4096+1)) (by omega);exact⟨x,k,h5,by simp;omega⟩
end
section
open Go.Shelf
def hF(fh:Int->Option Int):Int->Option Value:=fun x=>(fh x).map (Value.int .i64)
theorem vQs(fh:Int->Option Int)(x h:Int):hF (xZ1 fh x h)=upd (hF fh) x (.int .i64 h):=by
 funext y;unfold hF xZ1 upd
 split <;> rfl
theorem vVj{fh:Int->Option Int}{x h:Int}(e:fh x=some h):upd (hF fh) x (.int .i64 h)=hF fh:=by
 funext y;unfold upd hF
 split
 ·rename_i e2;rw[e2,e];rfl
 ·rfl
theorem vZl{fh:Int->Option Int}{x h:Int}(e:fh x=none):ExtH fh (xZ1 fh x h):=fun y v hy=>by
 unfold xZ1
 split
 ·rename_i e2;rw[e2,e] at hy;cases hy
 ·exact hy
def HeuOk(n:Nat)(t:TaskV)(fh:Int->Option Int):Prop:=∀ l,SetP l (n:Int)->∀ v,fh (xJ0 l)=some v->xQt n t l v
theorem HeuOk.nil(n:Nat)(t:TaskV):HeuOk n t (fun _=>none):=fun _ _ _ h=>by cases h
theorem HeuOk.put{n:Nat}{t:TaskV}{fh:Int->Option Int}{l:List Int}{h:Int}(hk:HeuOk n t fh)(hl:SetP l (n:Int))(hv:xQt n t l h):HeuOk n t (xZ1 fh (xJ0 l) h):=fun l' hl' v e=>by
 unfold xZ1 at e
 split at e
 ·rename_i e2
  injection e with e
  rw[<- e,xJi hl' hl e2];exact hv
 ·exact hk l' hl' v e
def HBox(hb:Nat)(W:World)(t:TaskV)(Ai Ag Ao:Option Addr)(ci cg co:Nat):Prop:=Arr W hb 25 [.int .i64 t.facts,.slice Ai t.init.length ci,.slice Ag t.goal.length cg,.slice Ao t.ops.length co]/\Arr W (hb+1) 3 [.int .i64 4]/\Arr W (hb+1+1+1) 54 [.map (some (hb+1+1))]
section
variable {hb:Nat}{w w':World}{t:TaskV}{Ai Ag Ao:Option Addr}{ci cg co:Nat}
theorem HBox.alloc(h:HBox hb w t Ai Ag Ao ci cg co)(o:Obj):HBox hb (w.alloc o) t Ai Ag Ao ci cg co:=⟨h.1.alloc o,h.2.1.alloc o,h.2.2.alloc o⟩
theorem HBox.drew(h:HBox hb w t Ai Ag Ao ci cg co):HBox hb w.drew t Ai Ag Ao ci cg co:=h
theorem HBox.drewN(h:HBox hb w t Ai Ag Ao ci cg co)(d:Nat):HBox hb (w.drewN d) t Ai Ag Ao ci cg co:=h
theorem HBox.below{B:Nat}(h:HBox hb w t Ai Ag Ao ci cg co)(hB:Below w.heap.size w w'):HBox hb w' t Ai Ag Ao ci cg co:=⟨h.1.below hB,h.2.1.below hB,h.2.2.below hB⟩
theorem HBox.by_map{b n:Nat}{f:Int->Option Value}(hM:MapF w b n f)(hg:w.grownBy w' (some b))(h:HBox hb w t Ai Ag Ao ci cg co):HBox hb w' t Ai Ag Ao ci cg co:=⟨h.1.by_map hM hg,h.2.1.by_map hM hg,h.2.2.by_map hM hg⟩
theorem HBox.turn{B:Nat}(h:HBox hb w t Ai Ag Ao ci cg co)(ht:Turn B w w'):HBox hb w' t Ai Ag Ao ci cg co:=⟨h.1.turn ht,h.2.1.turn ht,h.2.2.turn ht⟩
theorem HBox.qup{base' m:Nat}(h:HBox hb w t Ai Ag Ao ci cg co)(hq:QUp base' m w w')(hm:∃ es cl,w.heap[m]? = some (.map es cl)):HBox hb w' t Ai Ag Ao ci cg co:=by
 obtain⟨h1,h2,h3⟩:=h;exact⟨h1.qup (hq:=hq) hm (by decide),h2.qup (hq:=hq) hm (by decide),h3.qup (hq:=hq) hm (by decide)⟩
theorem HBox.set_(h:HBox hb w t Ai Ag Ao ci cg co){p:Addr}(u:Value){g:Nat}{T:TypeId}{xs:List Value}(hA:Arr w g T xs)(hp:p.block=g)(h1:T≠25)(h2:T≠3)(h3:T≠54):HBox hb (w.setCell p u) t Ai Ag Ao ci cg co:=
 ⟨h.1.far2 u hA hp h1,h.2.1.far2 u hA hp h2,h.2.2.far2 u hA hp h3⟩
theorem HBox.lt(h:HBox hb w t Ai Ag Ao ci cg co):(hb+1+1+1) < w.heap.size:=h.2.2.lt
end
theorem mvh{p:Prop}(h:p:=by repeat' (with_reducible first  | assumption | apply HBox.alloc | apply HBox.drew | apply HBox.drewN | (apply HBox.by_map;case hg=>assumption) | (apply HBox.qup;case hq=>assumption)  | assumption | apply Que.alloc | apply Que.drew | apply Que.drewN | (apply Que.set_;(case hp=>rfl);(case hA=>assumption);(case hT=>decide)) | (apply Que.by_row;(case hg=>assumption);(case hT=>decide)) | (apply Que.by_map;(case hg=>assumption);(case hne=>omega)) | apply Back.alloc | apply Back.drew | apply Back.drewN | apply Arr.drewN | apply MapF.drewN | apply zXg | apply MarksOk.drewN | (apply Arr.qup;(case hq=>assumption);(case he=>decide)) | (apply MapF.qup;(case hq=>assumption);(case hb=>omega)) | (apply zQd;(case hq=>assumption);(case he=>decide)) | (apply Back.qup;(case hq=>assumption);(case hb=>omega)) | (apply MarksOk.qup;case hq=>assumption) | (refine Below.trans ?_ (QUp.below_of (by assumption) ?_);rotate_left;omega) | (apply Back.set_;(case hp=>rfl);(case hA=>assumption);(case hT=>decide)) | (apply Back.by_map;(case hg=>assumption);(case hne=>omega)) | (apply Back.by_row;(case hg=>assumption);(case hT=>decide))  | assumption | exact Below.refl _ _ | apply Arr.alloc | apply Arr.drew | (apply Arr.far;(case hp=>(first | (simp;done) | (simp;omega) | omega))) | apply World.ownsRow.alloc | apply World.ownsRow.drew | apply MapF.alloc | apply MapF.drew | (apply MapF.setCell;(case hp=>(first | (simp;done) | (simp;omega) | omega))) | apply MarksOk.alloc | apply MarksOk.drew | apply MarksOk.set_ | apply xKh | apply xYd | apply xVf | (apply Below.alloc;(case hB=>(first | omega | (simp;done) | (simp;omega) | (dsimp only[World.drewN];omega)))) | (apply Below.setCell;(case hp=>(first | omega | (simp;done) | (simp;omega)))) | ((refine Arr.by_row ?_ (by assumption) ?_ ?_);rotate_right;decide) | refine MapF.by_row ?_ (by assumption) ?_ | refine MarksOk.by_row ?_ ?_ (by assumption) | (apply zJr;(case hp=>rfl);(case hA=>assumption);(case hT=>decide)) | (apply Arr.by_row;case hg=>assumption) | (apply MapF.by_row;case hg=>assumption) | (apply MarksOk.by_row;case hg=>assumption) | (apply xXx;case hg=>assumption) | (apply Arr.by_map;case hg=>assumption) | (apply xXy;case hg=>assumption) | (apply MarksOk.by_map;case hg=>assumption) | (apply MapF.by_map;(case hg=>assumption);(case hne=>omega)) | (apply Below.by_map;(case hg=>assumption);(case hB=>(first | omega | (simp;done) | (simp;omega) | (dsimp only[World.drewN];omega)));(case hb=>omega)) | (apply Below.by_row;(case hg=>assumption);(case hB=>(first | omega | (simp;done) | (simp;omega) | (dsimp only[World.drewN];omega)));(case hb=>exact Nat.le_refl _)) | decide)):p:=h
theorem vZm(w:World)(t:TaskV)(Ai Ag Ao:Option Addr)(ci cg co:Nat) :
  Calls Tryz.prog 29 #[.agg #[.int .i64 t.facts,.slice Ai t.init.length ci,.slice Ag t.goal.length cg,.slice Ao t.ops.length co],.int .i64 4] w fun e w'=>∃ hb,hb=w.heap.size/\e=.returned (.func (.func 81) #[] #[.pointer (some ⟨(hb+1+1+1),0,none⟩),.pointer (some ⟨hb,0,none⟩),.pointer (some ⟨(hb+1),0,none⟩)])/\HBox hb w' t Ai Ag Ao ci cg co/\MapF w' (hb+1+1) 0 (hF fun _=>none)/\Below w.heap.size w w':=by
 have hmm:=@run_makeMap Tryz.prog;go_enter Tryz.func29,Tryz.ntmps29;go_wp2;refine bodyPost_ret (v:=.func (.func 81) #[] #[.pointer (some ⟨(w.heap.size+1+1+1),0,none⟩),.pointer (some ⟨w.heap.size,0,none⟩),.pointer (some ⟨(w.heap.size+1),0,none⟩)]) ?_ rfl ⟨w.heap.size,rfl,rfl,⟨?_,?_,?_⟩,?_,?_⟩
 ·simp[results,Tryz.results29,go_sem]
 ·exact (((Arr.new w _ [.int .i64 t.facts,.slice Ai t.init.length ci,.slice Ag t.goal.length cg,.slice Ao t.ops.length co]).alloc _).alloc _).alloc _
 ·exact ((Arr.new_at (w.alloc _) (w.heap.size+1) (by simp) 3 [.int .i64 4]).alloc _).alloc _
 ·exact Arr.new_at (((w.alloc _).alloc _).alloc _) (w.heap.size+1+1+1) (by simp) 54 [.map (some (w.heap.size+1+1))]
 ·have h:∀ W:World,∀ g,g=W.heap.size->MapF (W.alloc (.map #[] 0)) g 0 (hF fun _=>none):=fun W g e=>by subst e;exact MapF.made W
  exact (h _ _ (by simp)).alloc _
 ·exact mvh
theorem xZd{w0 W:World}{hb nh n:Nat}{fh:Int->Option Int}{l:List Int}{t:TaskV}{Ai Ag Ao:Option Addr}{ci cg co:Nat}(hT:TaskMem w0 Ai Ag Ao t)(hB:Below w0.heap.size w0 W)(hX:HBox hb W t Ai Ag Ao ci cg co)(hM:MapF W (hb+1+1) nh (hF fh))(hnh:nh < 1000000000000)
  (hn:t.facts=n) (hv:Valid t) (hl:SetP l (n:Int)) (hk:HeuOk n t fh) (hsz:w0.heap.size<=W.heap.size) :
  Calls Tryz.prog 81 #[.int .u32 (xJ0 l),.pointer (some ⟨(hb+1+1+1),0,none⟩),.pointer (some ⟨hb,0,none⟩),.pointer (some ⟨(hb+1),0,none⟩)] W (fun e W'=>∃ (h:Int) (fh':Int->Option Int),e=.returned (.int .i64 h)/\xQt n t l h/\fh' (xJ0 l)=some h/\ExtH fh fh'/\HeuOk n t fh'/\hF fh'=upd (hF fh) (xJ0 l) (.int .i64 h)/\MapF W' (hb+1+1) (up1 (hF fh) (xJ0 l) nh) (hF fh')/\W.grownBy W' (some (hb+1+1))):=by
 have hn24:n<=24:=by have:=hv.f1;omega
 have hwl:=hl.wrd hn24;have hc0:W.cell? ⟨(hb+1+1+1),0,none⟩=some (.map (some (hb+1+1))):=hX.2.2.cell 0
 cases hf:fh (xJ0 l) with
 | some h=>
  have hy:(hF fh (xJ0 l)).getD (.int .i64 0)=.int .i64 h:=by unfold hF;rw[hf];rfl
  have hy2:(hF fh (xJ0 l)).isSome=true:=by unfold hF;rw[hf];rfl
  have hcv:=hk l hl h hf;have hlk:=hM.look_ok Tryz.underlying54 (xQq _) hwl;rw[hy,hy2] at hlk;have HR:Hid (up1 (hF fh) (xJ0 l) nh=nh):=by show _=_;unfold up1;rw[if_pos hy2]
  have HF:=lHd hf;have HK:=lHd hk;have HM:=lHd hM;have HC:=lHd hcv;clear hy hy2 hf hk hM hcv hv hn hT;go_enter Tryz.func81,Tryz.ntmps81;go_wp2;go_ret;exact⟨h,fh,rfl,HC.out,HF.out,ExtH.refl _,HK.out,(vVj HF.out).symm,by rw[HR.out];exact HM.out,World.grownBy.refl _ _⟩
 | none=>
  have hy:(hF fh (xJ0 l)).getD (.int .i64 0)=.int .i64 0:=by unfold hF;rw[hf];rfl
  have hy2:(hF fh (xJ0 l)).isSome=false:=by unfold hF;rw[hf];rfl
  have hlk:=hM.look_ok Tryz.underlying54 (xQq _) hwl;rw[hy,hy2] at hlk;have HF:=lHd hf;have HK:=lHd hk;have HN:=lHd hn;have HV:=lHd hv;have H2:Hid (SetP l t.facts):=by show SetP l t.facts;rw[hn];exact hl
  have hll:Hid (l.length<=n):=by have h:=hl.length (by omega);show l.length<=n;omega
  clear hy hy2 hf hk hv hn;have hSS0:W.drew.cell? ⟨hb,0,none⟩=some (.int .i64 t.facts)/\W.drew.cell? ⟨hb,1,none⟩=some (.slice Ai t.init.length ci)/\W.drew.cell? ⟨hb,2,none⟩=some (.slice Ag t.goal.length cg)/\W.drew.cell? ⟨hb,3,none⟩=some (.slice Ao t.ops.length co)/\W.drew.cell? ⟨(hb+1),0,none⟩=some (.int .i64 4):=⟨hX.1.cell 0,hX.1.cell 1,hX.1.cell 2,hX.1.cell 3,hX.2.1.cell 0⟩;go_enter Tryz.func81,Tryz.ntmps81;go_wp2;refine xJk (fun W=>W.cell? ⟨hb,0,none⟩=some (.int .i64 t.facts)/\W.cell? ⟨hb,1,none⟩=some (.slice Ai t.init.length ci)/\W.cell? ⟨hb,2,none⟩=some (.slice Ag t.goal.length cg)/\W.cell? ⟨hb,3,none⟩=some (.slice Ao t.ops.length co)/\W.cell? ⟨(hb+1),0,none⟩=some (.int .i64 4)) [5] (by kernel_rfl) ?_;have hSS:=hSS0;refine xJ1 (i:=0) (v:=?vz10) rfl (by kernel_rfl) (by kernel_rfl) (by kernel_rfl) (by kernel_rfl) (by kernel_rfl) (fun _ _ _ h=>h) (Or.inl ⟨by rfl,?hz10⟩) (by assumption) ?rz10
  case hz10=>(intro w hSw;(try dsimp only at hSw);go_simp;(try with_reducible rfl))
  try simp only[ap]
  refine xJ1 (i:=1) (v:=?vz11) rfl (by kernel_rfl) (by kernel_rfl) (by kernel_rfl) (by kernel_rfl) (by kernel_rfl) (fun _ _ _ h=>h) (Or.inl ⟨by rfl,?hz11⟩) (by assumption) ?rz11
  case hz11=>(intro w hSw;(try dsimp only at hSw);go_simp;(try with_reducible rfl))
  try simp only[ap]
  refine xJ1 (i:=2) (v:=?vz12) rfl (by kernel_rfl) (by kernel_rfl) (by kernel_rfl) (by kernel_rfl) (by kernel_rfl) (fun _ _ _ h=>h) (Or.inl ⟨by rfl,?hz12⟩) (by assumption) ?rz12
  case hz12=>(intro w hSw;(try dsimp only at hSw);go_simp;(try with_reducible rfl))
  try simp only[ap]
  refine xJ4 (i:=3) (by kernel_rfl) rfl (fun K hK=>?_);go_simp;go_at_call 53;refine (xVr _ hl hn24).mono ?_;rintro e w3 ⟨hB3x,_,v3,rfl,hO3⟩;have hB3:Below W.heap.size W w3:=Below.trans (b:=W.drew) mvh hB3x;obtain⟨A3,c3,rfl,hnl3,hI3⟩:=hO3.form;have hX3:HBox hb w3 t Ai Ag Ao ci cg co:=HBox.below (B:=0) hX hB3;have hBW3:Below w0.heap.size w0 w3:=hB.trans (hB3.mono hsz);have hs3:=hB3.size
  go_wp2_with fail
  have hSS:w3.cell? ⟨hb,0,none⟩=some (.int .i64 t.facts)/\w3.cell? ⟨hb,1,none⟩=some (.slice Ai t.init.length ci)/\w3.cell? ⟨hb,2,none⟩=some (.slice Ag t.goal.length cg)/\w3.cell? ⟨hb,3,none⟩=some (.slice Ao t.ops.length co)/\w3.cell? ⟨(hb+1),0,none⟩=some (.int .i64 4):=⟨hX3.1.cell 0,hX3.1.cell 1,hX3.1.cell 2,hX3.1.cell 3,hX3.2.1.cell 0⟩;refine hK.out _ _ hSS ?_;clear hK K
  try simp only[ap]
  refine xJ4 (i:=4) (by kernel_rfl) rfl (fun K hK=>?_);go_simp;go_at_call 82;refine (vXq _ t Ai Ag Ao ci cg co (hT.below hBW3) A3 c3 l hI3 (by have:=hll.out;simp only[lenOk];omega) n HN.out HV.out H2.out).mono ?_;rintro e w4 ⟨hB4,hv4,rfl,hC4⟩;have hX4:HBox hb w4 t Ai Ag Ao ci cg co:=HBox.below (B:=0) hX3 hB4;have hB5:Below W.heap.size W w4:=hB3.trans (hB4.mono hs3)
  go_wp2_with fail
  have hSS:w4.cell? ⟨hb,0,none⟩=some (.int .i64 t.facts)/\w4.cell? ⟨hb,1,none⟩=some (.slice Ai t.init.length ci)/\w4.cell? ⟨hb,2,none⟩=some (.slice Ag t.goal.length cg)/\w4.cell? ⟨hb,3,none⟩=some (.slice Ao t.ops.length co)/\w4.cell? ⟨(hb+1),0,none⟩=some (.int .i64 4):=⟨hX4.1.cell 0,hX4.1.cell 1,hX4.1.cell 2,hX4.1.cell 3,hX4.2.1.cell 0⟩;refine hK.out _ _ hSS ?_;clear hK K
  try simp only[ap]
  refine xJd (i:=5) (by kernel_rfl) rfl (by kernel_rfl) (fun K hK=>?_);go_simp
  go_wp2_with fail
  refine hK.out _ _ ?_;clear hK K
  try simp only[ap]
  refine xJ8 (by kernel_rfl) ?_ _;have hM4:MapF w4 (hb+1+1) nh (hF fh):=hM.below hB5 hM.lt;have hc4:w4.cell? ⟨(hb+1+1+1),0,none⟩=some (.map (some (hb+1+1))):=hX4.2.2.cell 0;have hg4:W.grownBy w4 (some (hb+1+1)):=⟨hB5.os,hB5.tape,hB5.output,hB5.size,fun i hi _=>hB5.block i hi⟩
  go_wp2_with (at_mapUpdate;refine xX7 rfl (.tmp 21) (.tmp 22) (.tmp 23) 54 rfl 3 Tryz.underlying54 rfl hM4 hnh (xJ0 l) (.int .i64 hv4) rfl rfl hwl ?_;intro w6 hM6 hg6)
  refine bodyPost_ret (v:=.int .i64 hv4) ?_ rfl ⟨hv4,xZ1 fh (xJ0 l) hv4,rfl,hC4,by unfold xZ1;rw[if_pos rfl],vZl HF.out,HK.out.put hl hC4,vQs _ _ _,by rw[vQs];exact hM6,hg4.trans hg6⟩;simp[results,Tryz.results81,go_sem]
end
section
open Go.Shelf
structure Blk where
 hb:Nat
 b0:Nat
 mp:Nat
 bp:Nat
 ma:Nat
 ba:Nat
 m:Nat
 q:Nat
 bq:Nat
 me:Nat
structure BlkOk(k:Blk)(w0 w:World):Prop where
 o1:w0.heap.size<=k.hb
 o2:k.hb+1+1+1 < w.heap.size
 o3:k.b0=w.heap.size
 o4:k.b0 < k.mp
 o5:k.mp < k.bp
 o6:k.bp < k.ma
 o7:k.ma < k.ba
 o8:k.ba < k.m
 o9:k.m < k.q
 o10:k.q < k.bq
 o11:k.bq < k.me
structure BM(k:Blk)(w0 w:World)(t:TaskV)(Ai Ag Ao:Option Addr)(ci cg co:Nat)(ds:List Deferred)(nh nP nB nE nq:Nat)(fh:Int->Option Int)(fP fB fE:Int->Option Value)(fq:Int->Option Int)(W:World):Prop where
 ok:BlkOk k w0 w
 hx:HBox k.hb W t Ai Ag Ao ci cg co
 hm:MapF W (k.hb+1+1) nh (hF fh)
 b0:Arr W k.b0 73 [.func (.func 81) #[] #[.pointer (some ⟨(k.hb+1+1+1),0,none⟩),.pointer (some ⟨k.hb,0,none⟩),.pointer (some ⟨(k.hb+1),0,none⟩)]]
 mp:MapF W k.mp nP fP
 bp:Arr W k.bp 54 [.map (some k.mp)]
 ma:MapF W k.ma nB fB
 ba:Arr W k.ba 147 [.map (some k.ma)]
 q:Que k.m k.q k.m W nq fq
 bq:Arr W k.bq 102 [.pointer (some ⟨k.q,0,none⟩)]
 me:MapF W k.me nE fE
 mks:MarksOk w.heap.size ds W
 bel:Below w0.heap.size w0 W
section
variable {k:Blk}{w0 w W W':World}{t:TaskV}{Ai Ag Ao:Option Addr}{ci cg co:Nat}{ds:List Deferred}{nh nP nB nE nq:Nat}{fh:Int->Option Int}{fP fB fE:Int->Option Value}{fq:Int->Option Int}
theorem BM.lt(h:BM k w0 w t Ai Ag Ao ci cg co ds nh nP nB nE nq fh fP fB fE fq W):k.me < W.heap.size:=h.me.lt
theorem BM.alloc(h:BM k w0 w t Ai Ag Ao ci cg co ds nh nP nB nE nq fh fP fB fE fq W)(o:Obj):BM k w0 w t Ai Ag Ao ci cg co ds nh nP nB nE nq fh fP fB fE fq (W.alloc o):=by
 obtain⟨h0,h1,h2,h3,h4,h5,h6,h7,h8,h9,h10,h11,h12⟩:=h;exact⟨h0,mvh,mvh,mvh,mvh,mvh,mvh,mvh,mvh,mvh,mvh,mvh,mvh⟩
theorem BM.drew(h:BM k w0 w t Ai Ag Ao ci cg co ds nh nP nB nE nq fh fP fB fE fq W):BM k w0 w t Ai Ag Ao ci cg co ds nh nP nB nE nq fh fP fB fE fq W.drew:=by
 obtain⟨h0,h1,h2,h3,h4,h5,h6,h7,h8,h9,h10,h11,h12⟩:=h;exact⟨h0,mvh,mvh,mvh,mvh,mvh,mvh,mvh,mvh,mvh,mvh,mvh,mvh⟩
theorem BM.drewN(h:BM k w0 w t Ai Ag Ao ci cg co ds nh nP nB nE nq fh fP fB fE fq W)(d:Nat):BM k w0 w t Ai Ag Ao ci cg co ds nh nP nB nE nq fh fP fB fE fq (W.drewN d):=by
 obtain⟨h0,h1,h2,h3,h4,h5,h6,h7,h8,h9,h10,h11,h12⟩:=h;exact⟨h0,mvh,mvh,mvh,mvh,mvh,mvh,mvh,mvh,mvh,mvh,mvh,mvh⟩
theorem BM.turn{W0:World}(hk0:MarksOk w.heap.size ds W0)(hM0:k.me < W0.heap.size)(h:BM k w0 w t Ai Ag Ao ci cg co ds nh nP nB nE nq fh fP fB fE fq W)(ht:Turn W0.heap.size W W'):BM k w0 w t Ai Ag Ao ci cg co ds nh nP nB nE nq fh fP fB fE fq W':=by
 obtain⟨h0,h1,h2,h3,h4,h5,h6,h7,h8,h9,h10,h11,h12⟩:=h;obtain⟨o1,o2,o3,o4,o5,o6,o7,o8,o9,o10,o11⟩:=h0;have h13:=h12.size;exact⟨⟨o1,o2,o3,o4,o5,o6,o7,o8,o9,o10,o11⟩,h1.turn ht,h2.turn ht (by omega),h3.turn ht,h4.turn ht (by omega),h5.turn ht,h6.turn ht (by omega),h7.turn ht,h8.turn ht (by omega),h9.turn ht,h10.turn ht (by omega),h11.turn hk0 (Nat.le_refl _) ht,xVm h12 ht (by omega) (by omega)⟩
theorem BM.byH(h:BM k w0 w t Ai Ag Ao ci cg co ds nh nP nB nE nq fh fP fB fE fq W){nh':Nat}{fh':Int->Option Int}(hg:W.grownBy W' (some (k.hb+1+1)))(hM:MapF W' (k.hb+1+1) nh' (hF fh')):BM k w0 w t Ai Ag Ao ci cg co ds nh' nP nB nE nq fh' fP fB fE fq W':=by
 obtain⟨h0,h1,h2,h3,h4,h5,h6,h7,h8,h9,h10,h11,h12⟩:=h;obtain⟨o1,o2,o3,o4,o5,o6,o7,o8,o9,o10,o11⟩:=h0;have h13:=h12.size;exact⟨⟨o1,o2,o3,o4,o5,o6,o7,o8,o9,o10,o11⟩,mvh,hM,mvh,mvh,mvh,mvh,mvh,mvh,mvh,mvh,mvh,mvh⟩
theorem BM.byP(h:BM k w0 w t Ai Ag Ao ci cg co ds nh nP nB nE nq fh fP fB fE fq W){nP':Nat}{fP':Int->Option Value}(hg:W.grownBy W' (some k.mp))(hM:MapF W' k.mp nP' fP'):BM k w0 w t Ai Ag Ao ci cg co ds nh nP' nB nE nq fh fP' fB fE fq W':=by
 obtain⟨h0,h1,h2,h3,h4,h5,h6,h7,h8,h9,h10,h11,h12⟩:=h;obtain⟨o1,o2,o3,o4,o5,o6,o7,o8,o9,o10,o11⟩:=h0;have h13:=h12.size;exact⟨⟨o1,o2,o3,o4,o5,o6,o7,o8,o9,o10,o11⟩,mvh,mvh,mvh,hM,mvh,mvh,mvh,mvh,mvh,mvh,mvh,mvh⟩
theorem BM.byB(h:BM k w0 w t Ai Ag Ao ci cg co ds nh nP nB nE nq fh fP fB fE fq W){nB':Nat}{fB':Int->Option Value}(hg:W.grownBy W' (some k.ma))(hM:MapF W' k.ma nB' fB'):BM k w0 w t Ai Ag Ao ci cg co ds nh nP nB' nE nq fh fP fB' fE fq W':=by
 obtain⟨h0,h1,h2,h3,h4,h5,h6,h7,h8,h9,h10,h11,h12⟩:=h;obtain⟨o1,o2,o3,o4,o5,o6,o7,o8,o9,o10,o11⟩:=h0;have h13:=h12.size;exact⟨⟨o1,o2,o3,o4,o5,o6,o7,o8,o9,o10,o11⟩,mvh,mvh,mvh,mvh,mvh,hM,mvh,mvh,mvh,mvh,mvh,mvh⟩
theorem BM.byE(h:BM k w0 w t Ai Ag Ao ci cg co ds nh nP nB nE nq fh fP fB fE fq W){nE':Nat}{fE':Int->Option Value}(hg:W.grownBy W' (some k.me))(hM:MapF W' k.me nE' fE'):BM k w0 w t Ai Ag Ao ci cg co ds nh nP nB nE' nq fh fP fB fE' fq W':=by
 obtain⟨h0,h1,h2,h3,h4,h5,h6,h7,h8,h9,h10,h11,h12⟩:=h;obtain⟨o1,o2,o3,o4,o5,o6,o7,o8,o9,o10,o11⟩:=h0;have h13:=h12.size;exact⟨⟨o1,o2,o3,o4,o5,o6,o7,o8,o9,o10,o11⟩,mvh,mvh,mvh,mvh,mvh,mvh,mvh,mvh,mvh,hM,mvh,mvh⟩
theorem BM.byQ(h:BM k w0 w t Ai Ag Ao ci cg co ds nh nP nB nE nq fh fP fB fE fq W){nq':Nat}{fq':Int->Option Int}(hg:QUp k.m k.m W W')(hQ:Que k.m k.q k.m W' nq' fq'):BM k w0 w t Ai Ag Ao ci cg co ds nh nP nB nE nq' fh fP fB fE fq' W':=by
 obtain⟨h0,h1,h2,h3,h4,h5,h6,h7,h8,h9,h10,h11,h12⟩:=h;obtain⟨o1,o2,o3,o4,o5,o6,o7,o8,o9,o10,o11⟩:=h0;have hqm:=h8.obj;exact⟨⟨o1,o2,o3,o4,o5,o6,o7,o8,o9,o10,o11⟩,mvh,mvh,mvh,mvh,mvh,mvh,mvh,hQ,mvh,mvh,mvh,mvh⟩
theorem BM.cells(h:BM k w0 w t Ai Ag Ao ci cg co ds nh nP nB nE nq fh fP fB fE fq W):W.cell? ⟨k.b0,0,none⟩=some (.func (.func 81) #[] #[.pointer (some ⟨(k.hb+1+1+1),0,none⟩),.pointer (some ⟨k.hb,0,none⟩),.pointer (some ⟨(k.hb+1),0,none⟩)])/\W.cell? ⟨k.bp,0,none⟩=some (.map (some k.mp))/\W.cell? ⟨k.ba,0,none⟩=some (.map (some k.ma))/\W.cell? ⟨k.bq,0,none⟩=some (.pointer (some ⟨k.q,0,none⟩)):=⟨h.b0.cell 0,h.bp.cell 0,h.ba.cell 0,h.bq.cell 0⟩
end
def KpB(B n0 b2:Nat)(W W':World):Prop:=KeepsFrom B W W'/\KpS n0 b2 W W'
section
variable {B n0 b2:Nat}{W W' W'':World}
theorem KpB.refl(B n0 b2:Nat)(W:World):KpB B n0 b2 W W:=⟨(KeepsOthers.refl W).from B,Below.refl _ _,rfl⟩
theorem KpB.trans(h:KpB B n0 b2 W W')(k:KpB B n0 b2 W' W''):KpB B n0 b2 W W'':=⟨h.1.trans k.1,vKb h.2 k.2⟩
theorem KpB.drew(h:KpB B n0 b2 W W'):KpB B n0 b2 W W'.drew:=h.trans ⟨(KeepsOthers.drew _).from _,xKh (Below.refl _ _),rfl⟩
theorem KpB.map(h:KpB B n0 b2 W W'){r:Nat}(hg:W'.grownBy W'' (some r))(h0:n0<=r)(hs:n0<=W'.heap.size)(hr:r < B)(hb:b2 < W'.heap.size)(hne:r≠b2):KpB B n0 b2 W W'':=
 h.trans ⟨KeepsFrom.of_grownBy hg (fun j e=>by injection e with e;omega),(Below.refl _ _).grown hg hs (fun j e=>by injection e with e;omega),hg.block b2 hb (fun e=>by injection e with e;omega)⟩
theorem KpB.q(h:KpB B n0 b2 W W'){base m:Nat}(hq:QUp base m W' W'')(h0:n0<=base)(hm:m < B){xs:List Value}(hA:Arr W' b2 56 xs)(hne:b2≠m):KpB B n0 b2 W W'':=
 h.trans ⟨⟨hq.below.size,fun k o hk ho hc=>hq.same k o ho (by cases o <;> first | rfl | (cases hc)) (by omega)⟩,hq.below.mono h0,(hq.same b2 _ hA rfl hne).trans hA.symm⟩
end
theorem zJ1{base q m n:Nat}{w:World}{f:Int->Option Int}(h:Que base q m w n f)(x k:Int)(hx:Wrd x)(hnn:n < 1000000000) :
  Calls Tryz.prog 56 #[.pointer (some ⟨q,0,none⟩),.int .u32 x,.int .i64 k] w (vKy base q m w (upN f x n) (xZ1 f x k)):=by
 cases hf:f x with
 | none=>
  have e:upN f x n=n+1:=by unfold upN;rw[hf];rfl
  rw[e];exact xWw h x k hx hf hnn
 | some v=>
  have e:upN f x n=n:=by unfold upN;rw[hf];rfl
  rw[e];exact zQw h x k hx (by rw[hf];rfl)
end
end Go.Proofs.YtpeipeljmapkmaaGreat
