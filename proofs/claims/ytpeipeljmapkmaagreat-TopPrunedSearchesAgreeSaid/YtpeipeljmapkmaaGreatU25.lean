/-
  Lemmas for the law: Tms, Tks, Tkw, Pra, Prb, Prc, Prd, Va, Vb, Vc, Mu6, Vd, Ve, Vq.
-/
import Derived.Test.YtpeipeljmapkmaaGreatU24
import Derived.Test.YtpeipeljmapkmaaGreatU15
import Derived.Test.YtpeipeljmapkmaaGreatU4
import Derived.Test.YtpeipeljmapkmaaGreatU9
import Derived.Test.YtpeipeljmapkmaaGreatU23
import Derived.Test.YtpeipeljmapkmaaGreatU3
import Derived.Test.YtpeipeljmapkmaaGreatU27
import Derived.Test.YtpeipeljmapkmaaGreatU19
import Derived.Test.YtpeipeljmapkmaaGreatU11
import Derived.Test.YtpeipeljmapkmaaGreatU5
set_option linter.unusedVariables false
set_option linter.unusedSimpArgs false
set_option maxRecDepth 100000
set_option maxHeartbeats 4000000
namespace Go.Proofs.YtpeipeljmapkmaaGreat
open Go.RowKit
section
open Go.Shelf
theorem xWa:∀ {m:Nat} {l:List Int},l.Nodup->(∀ x∈l,0<=x/\x < (m:Int))->l.length<=m
 | 0,l,_,hr=>by
  cases l with
  | nil=>exact Nat.le_refl _
  | cons x l=>have:=hr x (List.mem_cons_self ..);omega
 | m+1,l,hn,hr=>by
  have h1:∀ x∈l.erase (m:Int),0<=x/\x < (m:Int):=fun x hx=>by
   obtain⟨h2,h3⟩:=(List.Nodup.mem_erase_iff hn).1 hx;have:=hr x h3;omega
  have h2:=xWa (hn.erase _) h1;have h3:=List.length_erase (a:=(m:Int)) (l:=l)
  split at h3 <;> omega
theorem vKd{n:Nat}{ops:List OpV}{st:List Int}{ls:List (List Int)}(hst:SetP st (n:Int))(hn:ls.Nodup)(hr:∀ l∈ls,Rch n ops st l):ls.length<=2 ^ n:=by
 have hset:∀ l∈ls,SetP l (n:Int):=fun l hl=>by
  have h:=hr l hl
  cases h with
  | init=>exact hst
  | step _ _ _=>exact xJj n _ _
 have h1:(ls.map xJ0).Nodup:=by
  refine List.pairwise_map.2 (List.Pairwise.imp_of_mem (fun {a b} ha hb hab=>?_) hn);exact fun e=>hab (xJi (hset a ha) (hset b hb) e)
 have h2:=xWa (m:=2 ^ n) h1 (fun x hx=>by
  obtain⟨l,hl,rfl⟩:=List.mem_map.1 hx;have h3:=xQn n (hset l hl).nodup (hset l hl).1;have h4:=xQm l;have h5:((2 ^ n:Nat):Int)=2 ^ n:=by simp
  omega)
 simpa using h2
end
def xJb:TaskV:=⟨2,[0],[1],[⟨[0],[1],[0],3⟩]⟩
theorem vQj{w:World}{g:Nat}{o:OpV}{A0 A1 A2:Option Addr}{c0 c1 c2:Nat}(h0:w.cell? ⟨g,0,none⟩=some (.slice A0 o.pre.length c0))(h1:w.cell? ⟨g,1,none⟩=some (.slice A1 o.add.length c1))(h2:w.cell? ⟨g,2,none⟩=some (.slice A2 o.del.length c2))(h3:w.cell? ⟨g,3,none⟩=some (.int .i64 o.cost))(hm:OpMem w A0 A1 A2 o)
  (n0:xZq A0 o.pre c0) (n1:xZq A1 o.add c1) (n2:xZq A2 o.del c2) (n3:vYc o.cost):OpsRead w (some ⟨g,0,none⟩) [o]:=fun j u hu=>by
 cases j with
 | zero=>simp at hu;subst hu;exact⟨_,_,_,_,_,_,_,rfl,h0,h1,h2,h3,hm,n0,n1,n2,n3⟩
 | succ j=>simp at hu
def vKv(w:World)(e:Ending)(w':World):Prop:=∃ g h k,e=.returned (.agg #[.int .i64 2,.slice (some ⟨g,0,none⟩) 1 1,.slice (some ⟨h,0,none⟩) 1 1,.slice (some ⟨k,0,none⟩) 1 1])/\TaskMem w' (some ⟨g,0,none⟩) (some ⟨h,0,none⟩) (some ⟨k,0,none⟩) xJb/\OpsRead w' (some ⟨k,0,none⟩) xJb.ops/\Below w.heap.size w w'
theorem vX4{w w':World}{g h k:Nat}(h1:Ints w' (some ⟨g,0,none⟩) [0])(h2:Ints w' (some ⟨h,0,none⟩) [1])(h3:OpsRead w' (some ⟨k,0,none⟩) [⟨[0],[1],[0],3⟩])(hb:Below w.heap.size w w') :
  vKv w (.returned (.agg #[.int .i64 2,.slice (some ⟨g,0,none⟩) 1 1,.slice (some ⟨h,0,none⟩) 1 1,.slice (some ⟨k,0,none⟩) 1 1])) w':=
 ⟨g,h,k,rfl,⟨h1,h2,h3.at_,by simp[lenOk,xJb],by simp[lenOk,xJb],by simp[lenOk,xJb]⟩,h3,hb⟩
theorem zZh(w:World)  :
  Calls Tryz.prog 19 #[] w (vKv w):=by
 go_enter Tryz.func19,Tryz.ntmps19;go_wp2;refine bodyPost_ret (v:=.agg #[.int .i64 2,.slice (some ⟨w.heap.size+1,0,none⟩) 1 1,.slice (some ⟨w.heap.size+1+1,0,none⟩) 1 1,.slice (some ⟨w.heap.size+1+1+1+1+1+1,0,none⟩) 1 1]) ?_ rfl ?_
 ·simp[results,Tryz.results19,go_sem]
 ·refine vX4 (xQi ?_) (xQi ?_) (vQj (A0:=some ⟨w.heap.size+1+1+1,0,none⟩) (c0:=1) (A1:=some ⟨w.heap.size+1+1+1+1,0,none⟩) (c1:=1) (A2:=some ⟨w.heap.size+1+1+1+1+1,0,none⟩) (c2:=1) ?_ ?_ ?_ ?_ ⟨xQi ?_,xQi ?_,xQi ?_,by simp[lenOk],by simp[lenOk],by simp[lenOk]⟩ (by simp[xZq]) (by simp[xZq]) (by simp[xZq]) (by simp[vYc])) bch
  all_goals simp[go_sem]
theorem xV2:Valid xJb:=by
 refine⟨by decide,by decide,SetP.of_pairwise (by simp[xJb]) (by simp[xJb]),SetP.of_pairwise (by simp[xJb]) (by simp[xJb]),by decide,?_⟩;intro o ho;simp only[xJb,List.mem_cons,List.not_mem_nil,or_false] at ho;subst ho;exact⟨⟨SetP.of_pairwise (by simp[xJb]) (by simp),SetP.of_pairwise (by simp[xJb]) (by simp),SetP.of_pairwise (by simp[xJb]) (by simp),by simp⟩,by decide,by decide⟩
theorem zKc{ls:List (List Int)}(h1:ls.Nodup)(h2:ls.length=2001)(h3:∀ l∈ls,∃ c,Cst 2 xJb.ops xJb.init l c):False:=by
 have h:=vKd (n:=2) (ops:=xJb.ops) (st:=xJb.init) xV2.init h1 (fun l hl=>by obtain⟨c,hc⟩:=h3 l hl;exact hc.rch);omega
theorem zKd{d:Int}(h:RBest 2 xJb.ops xJb.goal xJb.init d):d=3:=by
 have hs0:xJ5 2 [0] (⟨[0],[1],[0],3⟩:OpV)=[1]:=by decide
 have hc:Cst 2 xJb.ops xJb.init [1] (0+3):=by
  have h1:Cst 2 xJb.ops xJb.init (xJ5 2 [0] ⟨[0],[1],[0],3⟩) (0+3):=.step (p:=0) .init rfl (by simp[xJb])
  rwa [hs0] at h1
 have hle:=h.2.2 _ _ hc (by simp[xJb]);have key:∀ {l:List Int} {c:Int},Cst 2 xJb.ops xJb.init l c->(0<=c)/\(1∈l->3<=c):=fun {l c} hc=>by
  induction hc with
  | init=>exact⟨by omega,fun h=>by simp[xJb] at h⟩
  | step h1 h2 h3 ih=>
   rename_i l c p o
   obtain⟨i0,i1⟩:=ih
   match p,h2 with
   | 0,h2=>
    cases h2
    dsimp only;exact⟨by omega,fun _=>by omega⟩
 rcases h.1 with h1 | ⟨l,h1,h2⟩
 ·rw[h1] at hle;omega
 ·have h3:=(key h1).2 (h2 1 (by simp[xJb]));omega
theorem zVa:xYq 2 xJb.ops xJb.init [0]=[[0],[1]]:=by
 have hc:xWo xJb.ops [0] 0:=⟨⟨[0],[1],[0],3⟩,rfl,by simp⟩;have hn:xJ5 2 [0] (xZ4 xJb.ops 0)=[1]:=by
  show xJ5 2 [0] (⟨[0],[1],[0],3⟩:OpV)=[1];decide
 show xYq 2 xJb.ops [0] [0]=_;rw[zJz hc,hn,zJy]
theorem vVu:xV0 xJb.ops.length [0]:=by
 unfold xV0;simp[xJb]
theorem zWv:(∃ r,(xYq 2 xJb.ops xJb.init [0])[[(0:Int)].length]? = some r/\∀ q∈xJb.goal,q∈r)↔true=true:=by
 rw[zVa];simp[xJb]
theorem xXi(w:World)  :
  Calls Tryz.prog 6 #[] w fun e w'=>e=.returned (.bool true)/\Below w.heap.size w w':=by
 go_enter Tryz.func6,Tryz.ntmps6
 go_wp2_with fail
 refine (zZh _).mono ?_;rintro e w1 ⟨g,h,k,rfl,hT1,hO1,hB1⟩;have D1:=xJ3 w hB1 bch;have HT1:=lHd hT1;clear hT1 hO1
 go_wp2_with fail
 refine (xW2 _ xJb (some ⟨g,0,none⟩) (some ⟨h,0,none⟩) (some ⟨k,0,none⟩) 1 1 1 (HT1.out.below bl) 2 rfl xV2).mono ?_;rintro e w2 ⟨hB2,hR2⟩;have D2:=xJ3 w hB2 bch;have hR3:∃ d,e=.returned (.tuple #[.int .i64 d,.agg #[.int .i64 0,.int .i64 0]])/\d=3:=by
  rcases hR2 with ⟨_,ls,h1,h2,h3⟩ | ⟨d,h1,h2,_⟩
  ·exact (zKc h1 h2 h3).elim
  ·exact⟨d,h1,zKd h2⟩
 obtain⟨d,rfl,rfl⟩:=hR3;clear hR2
 go_wp2_with fail
 refine (zZh _).mono ?_;rintro e w3 ⟨g3,h3,k3,rfl,hT3,hO3,hB3⟩;have D3:=xJ3 w hB3 bch;have C3:=Cls.below (l:=[(w2.heap.size,0,.int .i64 0),(w2.heap.size,1,.int .i64 0)]) hB3 (by simp[Cls,go_sem]);have F3:=C3;simp only[Cls,and_true] at F3;have y3w20:w2.heap.size < w3.heap.size:=C3.blk (b:=w2.heap.size) (k:=0) (v:=.int .i64 0) (by simp);have HT3:=lHd hT3;have HO3:=lHd hO3;clear hT3 hO3
 go_wp2_with fail
 refine (vZt _ xJb (some ⟨g3,0,none⟩) (some ⟨h3,0,none⟩) (some ⟨k3,0,none⟩) 1 1 1 (HT3.out.below bl) (HO3.out.below bl) (some ⟨w3.heap.size,0,none⟩) 1 [0] (xQi (by simp[go_sem])) 2 rfl xV2 vVu (by rw[zVa];rfl) true zWv).mono ?_;rintro e w4 ⟨rfl,hB4⟩;have D4:=xJ3 w hB4 bch;have C4:=Cls.below (l:=[(w2.heap.size,0,.int .i64 0),(w2.heap.size,1,.int .i64 0),(w3.heap.size,0,.int .i64 0)]) hB4 (by simp[Cls,go_sem,F3,y3w20]);have F4:=C4;simp only[Cls,and_true] at F4;have y4w20:w2.heap.size < w4.heap.size:=C4.blk (b:=w2.heap.size) (k:=0) (v:=.int .i64 0) (by simp);have y4w30:w3.heap.size < w4.heap.size:=C4.blk (b:=w3.heap.size) (k:=0) (v:=.int .i64 0) (by simp);go_wp2;refine bodyPost_ret (v:=.bool true) ?_ rfl ⟨rfl,bch⟩;simp[results,Tryz.results6,go_sem,F4,y4w20,y4w30]
def zKu(x y:OpV):Prop:=(∀ q∈x.add,q∉y.pre)/\(∀ q∈x.del,q∉y.pre)/\∀ q∈x.add,q∉y.del
def vYx(a b:OpV):Prop:=zKu a b/\zKu b a
theorem zKv{n:Nat}{l:List Int}{a b:OpV}(h:vYx a b):xJ5 n (xJ5 n l a) b=xJ5 n (xJ5 n l b) a:=by
 obtain⟨⟨_,_,h1⟩,⟨_,_,h2⟩⟩:=h;have key:∀ (l:List Int) (o:OpV) (x:Int),(x∈(List.range n).map fun (p:Nat)=>(p:Int))->(x∈xJ5 n l o↔x∈o.add\/(x∈l/\x∉o.del)):=fun l o x hx=>by
  rw[xJq];obtain⟨k,hk,rfl⟩:=List.mem_map.1 hx;rw[List.mem_range] at hk;constructor
  ·exact fun h=>h.2
  ·exact fun h=>⟨by omega,h⟩
 show List.filter _ _=List.filter _ _;refine List.filter_congr fun x hx=>?_
 rw[decide_eq_decide];rw[key l a x hx,key l b x hx];have:=h1 x;have:=h2 x
 by_cases ha:x∈a.add <;> by_cases hb:x∈b.add <;> by_cases hda:x∈a.del <;> by_cases hdb:x∈b.del <;> by_cases hl:x∈l <;> simp_all
theorem zQu{n:Nat}{l:List Int}{a o:OpV}(h:zKu a o)(hr:∀ q∈o.pre,0<=q/\q < (n:Int))(hp:∀ q∈o.pre,q∈l):∀ q∈o.pre,q∈xJ5 n l a:=fun q hq=>
 xJq.2 ⟨hr q hq,.inr ⟨hp q hq,fun hd=>h.2.1 q hd hq⟩⟩
theorem Fp.move{n:Nat}{ops:List OpV}{goal:List Int}(hr:∀ o∈ops,∀ q∈o.pre,0<=q/\q < (n:Int)){k:Nat}{o:OpV}(hk:ops[k]? = some o){B:List Nat} :
  ∀ {A:List Nat} {s:List Int},(∀ q∈o.pre,q∈s)->(∀ a∈A,∀ oa,ops[a]? = some oa->vYx o oa)->Fp n ops goal s (A ++ k :: B)->Fp n ops goal s (k :: (A ++ B)):=by
 intro A
 induction A with
 | nil=>intro s _ _ h;exact h
 | cons a A ih=>
  intro s hp hi h
  cases h with
  | @cons _ _ oa _ h1 h2 h3=>
   have hia:=hi a (List.mem_cons_self ..) oa h1;have h4:=ih (zQu hia.2 (hr o (lMg hk)) hp) (fun b hb=>hi b (List.mem_cons_of_mem _ hb)) h3
   cases h4 with
   | @cons _ _ o' _ h5 h6 h7=>
    rw[hk] at h5;obtain rfl:=Option.some.inj h5;refine .cons hk hp (.cons h1 (zQu hia.1 (hr oa (lMg h1)) h2) ?_);rw[zKv hia];exact h7
theorem Fp.adds{n:Nat}{ops:List OpV}{goal:List Int}{s:List Int}{ps:List Nat}(h:Fp n ops goal s ps){g:Int}(hg:g∈goal):g∉s->∃ p∈ps,∃ o,ops[p]? = some o/\g∈o.add:=by
 induction h with
 | nil h=>exact fun hn=>absurd (h g hg) hn
 | @cons l p o ps h1 h2 h3 ih=>
  intro hn
  by_cases e:g∈xJ5 n l o
  ·rcases (xJq.1 e).2 with h4 | h4
   ·exact⟨p,List.mem_cons_self ..,o,h1,h4⟩
   ·exact absurd h4.1 hn
  ·obtain⟨q,hq,r⟩:=ih e;exact⟨q,List.mem_cons_of_mem _ hq,r⟩
theorem Fp.adds2{n:Nat}{ops:List OpV}{goal:List Int}{k:Nat}{o:OpV}(hk:ops[k]? = some o){B:List Nat}{g:Int}(hg:g∈o.pre):∀ {A:List Nat} {s:List Int},Fp n ops goal s (A ++ k :: B)->g∉s->∃ p∈A,∃ o,ops[p]? = some o/\g∈o.add:=by
 intro A
 induction A with
 | nil=>
  intro s h hn
  cases h with
  | cons h1 h2 _=>
   rw[hk] at h1;obtain rfl:=Option.some.inj h1;exact absurd (h2 g hg) hn
 | cons a A ih=>
  intro s h hn
  cases h with
  | @cons _ _ oa _ h1 h2 h3=>
   by_cases e:g∈xJ5 n s oa
   ·rcases (xJq.1 e).2 with h4 | h4
    ·exact⟨a,List.mem_cons_self ..,oa,h1,h4⟩
    ·exact absurd h4.1 hn
   ·obtain⟨q,hq,r⟩:=ih h3 e;exact⟨q,List.mem_cons_of_mem _ hq,r⟩
theorem vZ1{S:Nat->Prop}:∀ {ps:List Nat},(∃ p∈ps,S p)->∃ A k B,ps=A ++ k :: B/\S k/\∀ a∈A,¬ S a:=by
 intro ps
 induction ps with
 | nil=>rintro ⟨p,hp,_⟩;cases hp
 | cons a ps ih=>
  rintro ⟨p,hp,hs⟩
  by_cases ha:S a
  ·exact⟨[],a,ps,rfl,ha,by simp⟩
  ·rcases List.mem_cons.1 hp with e | e
   ·subst e;exact absurd hs ha
   ·obtain⟨A,k,B,h1,h2,h3⟩:=ih ⟨p,e,hs⟩;refine⟨a :: A,k,B,by rw[h1];rfl,h2,fun b hb=>?_⟩;rcases List.mem_cons.1 hb with e | e
    ·subst e;exact ha
    ·exact h3 b e
structure Stub(ops:List OpV)(goal s:List Int)(S:Nat->Prop):Prop where
 goal:∃ g∈goal,g∉s/\∀ i o,ops[i]? = some o->g∈o.add->S i
 step:∀ i o,S i->ops[i]? = some o->(∃ q∈o.pre,q∉s/\∀ j o',ops[j]? = some o'->q∈o'.add->S j)\/((∀ q∈o.pre,q∈s)/\∀ j o',ops[j]? = some o'->¬ vYx o o'->S j)
theorem Stub.path{n:Nat}{ops:List OpV}{goal s:List Int}{S:Nat->Prop}(h:Stub ops goal s S)(hr:∀ o∈ops,∀ q∈o.pre,0<=q/\q < (n:Int)){ps:List Nat}(hp:Fp n ops goal s ps) :
  ∃ k o ps',S k/\ops[k]? = some o/\(∀ q∈o.pre,q∈s)/\Fp n ops goal (xJ5 n s o) ps'/\(k :: ps').Perm ps:=by
 obtain⟨g,hg,hn,hS⟩:=h.goal;obtain⟨p,hpm,o,h1,h2⟩:=hp.adds hg hn;obtain⟨A,k,B,rfl,hk,hA⟩:=vZ1 (S:=S) ⟨p,hpm,hS p o h1 h2⟩;have hko:∃ o,ops[k]? = some o:=by
  clear hpm;have:∀ {A:List Nat} {s:List Int},Fp n ops goal s (A ++ k :: B)->∃ o,ops[k]? = some o:=by
   intro A
   induction A with
   | nil=>intro s h;cases h with | cons h1 _ _=>exact⟨_,h1⟩
   | cons a A ih=>intro s h;cases h with | cons _ _ h3=>exact ih h3
  exact this hp
 obtain⟨o,ho⟩:=hko;rcases h.step k o hk ho with ⟨q,hq,hqs,hadd⟩ | ⟨hpre,hind⟩
 ·obtain⟨a,ha,oa,h3,h4⟩:=Fp.adds2 ho hq hp hqs;exact absurd (hadd a oa h3 h4) (hA a ha)
 ·have h5:=Fp.move hr ho hpre (fun a ha oa hoa=>Classical.byContradiction fun hni=>hA a ha (hind a oa hoa hni)) hp
  cases h5 with
  | @cons _ _ o' _ h6 h7 h8=>
   rw[ho] at h6;obtain rfl:=Option.some.inj h6;exact⟨k,o,A ++ B,hk,ho,hpre,h8,List.perm_middle.symm⟩
theorem zZw{cs:List Int}{a b:List Nat}(h:a.Perm b):xJ6 cs a=xJ6 cs b:=by
 unfold xJ6
 induction h with
 | nil=>rfl
 | cons x _ ih=>rw[List.map_cons,List.sum_cons,List.map_cons,List.sum_cons,ih]
 | swap x y l=>simp only[List.map_cons,List.sum_cons];omega
 | trans _ _ h1 h2=>rw[h1,h2]
structure NodeV where
 state:List Int
 cost:Int
 parent:Int
 op:Int
structure DN(n:Nat)(ops:List OpV)(st:List Int)(N:List NodeV):Prop where
 n0:∃ nd,N[0]? = some nd/\nd.state=st/\nd.cost=0/\nd.parent = -1
 par:∀ (j:Nat) (nd:NodeV),N[j]? = some nd->0 < j->∃ (p k:Nat) (np:NodeV) (o:OpV),nd.parent=(p:Int)/\p < j/\N[p]? = some np/\nd.op=(k:Int)/\ops[k]? = some o/\(∀ q∈o.pre,q∈np.state)/\nd.state=xJ5 n np.state o/\nd.cost=np.cost+o.cost
inductive Up(N:List NodeV):Nat->List Nat->Prop
 | nil {j:Nat} {nd:NodeV}:N[j]? = some nd->nd.parent = -1->Up N j []
 | snoc {j p k:Nat} {nd:NodeV} {ps:List Nat}:N[j]? = some nd->nd.parent=(p:Int)->nd.op=(k:Int)->p < j->Up N p ps->Up N j (ps ++ [k])
theorem DN.up{n:Nat}{ops:List OpV}{st:List Int}{N:List NodeV}(h:DN n ops st N):∀ (m j:Nat),j<=m->∀ nd,N[j]? = some nd->∃ ps,Up N j ps/\Pth n ops st nd.state ps/\xJ6 (ops.map (·.cost)) ps=nd.cost/\ps.length<=j:=by
 have base:∀ nd,N[0]? = some nd->∃ ps,Up N 0 ps/\Pth n ops st nd.state ps/\xJ6 (ops.map (·.cost)) ps=nd.cost/\ps.length<=0:=fun nd hn=>by
  obtain⟨nd',h1,h2,h3,h4⟩:=h.n0;rw[hn] at h1;obtain rfl:=Option.some.inj h1;exact⟨[],.nil hn h4,by rw[h2];exact .init,by rw[h3];rfl,Nat.le_refl _⟩
 intro m
 induction m with
 | zero=>
   intro j hj nd hn;obtain rfl:j=0:=by omega
   exact base nd hn
 | succ m ih=>
  intro j hj nd hn
  by_cases hj0:j=0
  ·subst hj0;exact base nd hn
  ·obtain⟨p,k,np,o,h1,h2,h3,h4,h5,h6,h7,h8⟩:=h.par j nd hn (by omega);obtain⟨ps,i1,i2,i3,i4⟩:=ih p (by omega) np h3;refine⟨ps ++ [k],.snoc hn h1 h4 h2 i1,by rw[h7];exact .step i2 h5 h6,?_,by rw[List.length_append];simp;omega⟩;rw[xZj,xJw h5,i3,h8]
theorem xV8{ops:List OpV}(hc:∀ o∈ops,0<=o.cost)(ps:List Nat):0<=xJ6 (ops.map (·.cost)) ps:=by
 induction ps with
 | nil=>simp[xJ6]
 | cons p ps ih=>
  rw[xJf];have:0<=xJ2 (ops.map (·.cost)) (p:Int):=by
   unfold xJ2
   cases e:(ops.map (·.cost))[((p:Int)).toNat]? with
   | none=>simp
   | some v=>
    obtain⟨o,h1,h2⟩:=List.mem_map.1 (lMg e);rw[<- h2];exact hc o h1
  omega
structure DS(n:Nat)(ops:List OpV)(goal st:List Int)(N:List NodeV)(hp:List Nat)(cl:List Int->Option Int):Prop where
 lt:∀ j∈hp,j < N.length
 start:(∃ c,cl st=some c/\c<=0)\/0∈hp
 mono:∀ x c,cl x=some c->∀ j∈hp,∀ nd,N[j]? = some nd->c<=nd.cost
 step:∀ x c,cl x=some c->∃ S,Stub ops goal x S/\∀ k o,S k->ops[k]? = some o->(∀ q∈o.pre,q∈x)->(∃ c',cl (xJ5 n x o)=some c'/\c'<=c+o.cost)\/∃ j∈hp,∃ nd,N[j]? = some nd/\nd.state=xJ5 n x o/\nd.cost<=c+o.cost
section
variable {n:Nat}{ops:List OpV}{goal st:List Int}{N:List NodeV}{hp rest:List Nat}{cl:List Int->Option Int}
theorem DS.perm{hp':List Nat}(h:DS n ops goal st N hp cl)(hq:hp'.Perm hp):DS n ops goal st N hp' cl:=
 ⟨fun j hj=>h.lt j (hq.mem_iff.1 hj),h.start.imp id (fun h=>hq.mem_iff.2 h),fun x c hx j hj=>h.mono x c hx j (hq.mem_iff.1 hj),fun x c hx=>by
  obtain⟨S,h1,h2⟩:=h.step x c hx;refine⟨S,h1,fun k o a b c=>(h2 k o a b c).imp id ?_⟩;rintro ⟨j,hj,r⟩;exact⟨j,hq.mem_iff.2 hj,r⟩⟩
theorem DS.front(h:DS n ops goal st N hp cl)(hr:∀ o∈ops,∀ q∈o.pre,0<=q/\q < (n:Int))(hc0:∀ o∈ops,0<=o.cost):∀ (m:Nat) (ps:List Nat) (x:List Int) (c:Int),ps.length<=m->cl x=some c->Fp n ops goal x ps->∃ j∈hp,∃ nd,N[j]? = some nd/\nd.cost<=c+xJ6 (ops.map (·.cost)) ps:=by
 intro m
 induction m with
 | zero=>
  intro ps x c hl hx hf;obtain⟨S,h1,h2⟩:=h.step x c hx;obtain⟨k,o,ps',_,_,_,_,hq⟩:=h1.path hr hf;have:=hq.length_eq;rw[List.length_cons] at this;omega
 | succ m ih=>
  intro ps x c hl hx hf;obtain⟨S,h1,h2⟩:=h.step x c hx;obtain⟨k,o,ps',h3,h4,h5,h6,hq⟩:=h1.path hr hf;have hlen:=hq.length_eq;rw[List.length_cons] at hlen;have hc:=zZw (cs:=ops.map (·.cost)) hq;rw[xJf,xJw h4] at hc;rcases h2 k o h3 h4 h5 with ⟨c',h7,h8⟩ | ⟨j,hj,nd,h7,h8,h9⟩
  ·obtain⟨j,hj,nd,h10,h11⟩:=ih ps' _ c' (by omega) h7 h6;exact⟨j,hj,nd,h10,by omega⟩
  ·refine⟨j,hj,nd,h7,?_⟩;have:=xV8 hc0 ps';omega
theorem DS.skip{k:Nat}{nd:NodeV}{c:Int}(h:DS n ops goal st N (k :: rest) cl)(h0:∃ nd,N[0]? = some nd/\nd.state=st/\nd.cost=0/\nd.parent = -1)(hk:N[k]? = some nd)(hc:cl nd.state=some c):DS n ops goal st N rest cl:=by
 have hck:=h.mono _ c hc k (List.mem_cons_self ..) nd hk;refine⟨fun j hj=>h.lt j (List.mem_cons_of_mem _ hj),?_,fun x c hx j hj=>h.mono x c hx j (List.mem_cons_of_mem _ hj),fun x c' hx=>?_⟩
 ·rcases h.start with h1 | h1
  ·exact .inl h1
  ·rcases List.mem_cons.1 h1 with e | e
   ·subst e;obtain⟨nd',e1,e2,e3,_⟩:=h0;rw[hk] at e1;obtain rfl:=Option.some.inj e1;exact .inl ⟨c,by rw[<- e2];exact hc,by omega⟩
   ·exact .inr e
 ·obtain⟨S,h1,h2⟩:=h.step x c' hx;refine⟨S,h1,fun q o a b d=>?_⟩;rcases h2 q o a b d with h3 | ⟨j,hj,nj,h3,h4,h5⟩
  ·exact .inl h3
  ·rcases List.mem_cons.1 hj with e | e
   ·subst e;rw[hk] at h3;obtain rfl:=Option.some.inj h3;exact .inl ⟨c,by rw[<- h4];exact hc,by omega⟩
   ·exact .inr ⟨j,e,nj,h3,h4,h5⟩
theorem DS.best{k:Nat}{nd:NodeV}(h:DS n ops goal st N (k :: rest) cl)(hr:∀ o∈ops,∀ q∈o.pre,0<=q/\q < (n:Int))(hc0:∀ o∈ops,0<=o.cost)(h0:∃ nd,N[0]? = some nd/\nd.state=st/\nd.cost=0/\nd.parent = -1)(hk:N[k]? = some nd)(hmin:∀ j∈rest,∀ nj,N[j]? = some nj->nd.cost<=nj.cost){ps:List Nat}(hf:Fp n ops goal st ps):nd.cost<=xJ6 (ops.map (·.cost)) ps:=by
 have key:∃ j∈k :: rest,∃ nj,N[j]? = some nj/\nj.cost<=xJ6 (ops.map (·.cost)) ps:=by
  rcases h.start with ⟨c,h1,h2⟩ | h1
  ·obtain⟨j,hj,nj,h3,h4⟩:=h.front hr hc0 ps.length ps st c (Nat.le_refl _) h1 hf;exact⟨j,hj,nj,h3,by omega⟩
  ·obtain⟨n0,e1,e2,e3,_⟩:=h0;exact⟨0,h1,n0,e1,by have:=xV8 hc0 ps;omega⟩
 obtain⟨j,hj,nj,h3,h4⟩:=key;rcases List.mem_cons.1 hj with e | e
 ·subst e;rw[hk] at h3;obtain rfl:=Option.some.inj h3;exact h4
 ·have:=hmin j e nj h3;omega
theorem DS.noplan(h:DS n ops goal st N [] cl)(hr:∀ o∈ops,∀ q∈o.pre,0<=q/\q < (n:Int))(hc0:∀ o∈ops,0<=o.cost){ps:List Nat}(hf:Fp n ops goal st ps):False:=by
 rcases h.start with ⟨c,h1,h2⟩ | h1
 ·obtain⟨j,hj,_⟩:=h.front hr hc0 ps.length ps st c (Nat.le_refl _) h1 hf
  cases hj
 ·cases h1
def vXm(cl:List Int->Option Int)(x:List Int)(c:Int):List Int->Option Int:=fun y=>if y=x then some c else cl y
theorem DS.expand{k:Nat}{nd:NodeV}{M:List NodeV}{new:List Nat}(h:DS n ops goal st N (k :: rest) cl)(h0:∃ nd,N[0]? = some nd/\nd.state=st/\nd.cost=0/\nd.parent = -1)(hk:N[k]? = some nd)(hcl:cl nd.state=none)(hmin:∀ j∈rest,∀ nj,N[j]? = some nj->nd.cost<=nj.cost)
  {S:Nat->Prop} (hS:Stub ops goal nd.state S) (hnew:∀ j∈new,j < (N ++ M).length/\∀ nj,(N ++ M)[j]? = some nj->nd.cost<=nj.cost)
  (hall:∀ q o,S q->ops[q]? = some o->(∀ z∈o.pre,z∈nd.state)->∃ j∈new,∃ nj,(N ++ M)[j]? = some nj/\nj.state=xJ5 n nd.state o/\nj.cost=nd.cost+o.cost) :
  DS n ops goal st (N ++ M) (rest ++ new) (vXm cl nd.state nd.cost):=by
 have old:∀ {j:Nat} {nj:NodeV},N[j]? = some nj->(N ++ M)[j]? = some nj:=fun {j nj} e=>by
  rw[List.getElem?_append_left (List.getElem?_eq_some_iff.1 e).1];exact e
 have back:∀ {j:Nat} {nj:NodeV},j∈k :: rest->(N ++ M)[j]? = some nj->N[j]? = some nj:=fun {j nj} hj e=>by
  rw[List.getElem?_append_left (h.lt j hj)] at e;exact e
 refine⟨fun j hj=>?_,?_,fun x c hx j hj nj hn=>?_,fun x c hx=>?_⟩
 ·rcases List.mem_append.1 hj with e | e
  ·have:=h.lt j (List.mem_cons_of_mem _ e);rw[List.length_append];omega
  ·exact (hnew j e).1
 ·rcases h.start with ⟨c,h1,h2⟩ | h1
  ·refine .inl ⟨c,?_,h2⟩;unfold vXm;rw[if_neg (fun e=>by rw[e,hcl] at h1;cases h1)];exact h1
  ·rcases List.mem_cons.1 h1 with e | e
   ·subst e;obtain⟨nd',e1,e2,e3,_⟩:=h0;rw[hk] at e1;obtain rfl:=Option.some.inj e1;exact .inl ⟨nd.cost,by unfold vXm;rw[if_pos e2.symm],by omega⟩
   ·exact .inr (List.mem_append_left _ e)
 ·unfold vXm at hx
  split at hx
  ·injection hx with hx
   rcases List.mem_append.1 hj with e | e
   ·have:=hmin j e nj (back (List.mem_cons_of_mem _ e) hn);omega
   ·have:=(hnew j e).2 nj hn;omega
  ·rcases List.mem_append.1 hj with e | e
   ·exact h.mono x c hx j (List.mem_cons_of_mem _ e) nj (back (List.mem_cons_of_mem _ e) hn)
   ·have:=(hnew j e).2 nj hn;have:=h.mono x c hx k (List.mem_cons_self ..) nd hk;omega
 ·unfold vXm at hx
  split at hx
  ·rename_i e
   injection hx with hx
   subst hx;subst e;refine⟨S,hS,fun q o a b d=>?_⟩;obtain⟨j,hj,nj,h1,h2,h3⟩:=hall q o a b d;exact .inr ⟨j,List.mem_append_right _ hj,nj,h1,h2,by omega⟩
  ·obtain⟨S',h1,h2⟩:=h.step x c hx;refine⟨S',h1,fun q o a b d=>?_⟩
   by_cases e0:xJ5 n x o=nd.state
   ·refine .inl ⟨nd.cost,by unfold vXm;rw[if_pos e0],?_⟩;rcases h2 q o a b d with ⟨c',h3,_⟩ | ⟨j,hj,nj,h3,h4,h5⟩
    ·rw[e0,hcl] at h3;cases h3
    ·rcases List.mem_cons.1 hj with e | e
     ·subst e;rw[hk] at h3;obtain rfl:=Option.some.inj h3;exact h5
     ·have:=hmin j e nj h3;omega
   ·rcases h2 q o a b d with ⟨c',h3,h4⟩ | ⟨j,hj,nj,h3,h4,h5⟩
    ·exact .inl ⟨c',by unfold vXm;rw[if_neg e0];exact h3,h4⟩
    ·rcases List.mem_cons.1 hj with e | e
     ·subst e;rw[hk] at h3;obtain rfl:=Option.some.inj h3;exact absurd h4.symm e0
     ·exact .inr ⟨j,List.mem_append_left _ e,nj,old h3,h4,h5⟩
end
inductive FpA(n:Nat)(ops:List OpV)(goal:List Int)(A:List (List Int)):List Int->List Nat->Prop
 | nil {l:List Int}:l∈A->(∀ q∈goal,q∈l)->FpA n ops goal A l []
 | cons {l:List Int} {p:Nat} {o:OpV} {ps:List Nat}:l∈A->ops[p]? = some o->(∀ q∈o.pre,q∈l)->FpA n ops goal A (xJ5 n l o) ps->FpA n ops goal A l (p :: ps)
section
variable {n:Nat}{ops:List OpV}{goal:List Int}{A:List (List Int)}
theorem FpA.mem{x:List Int}{ps:List Nat}(h:FpA n ops goal A x ps):x∈A:=by cases h <;> assumption
theorem Fp.all(hA:∀ l∈A,∀ (p:Nat) (o:OpV),ops[p]? = some o->(∀ q∈o.pre,q∈l)->xJ5 n l o∈A){x:List Int}{ps:List Nat}(h:Fp n ops goal x ps):x∈A->FpA n ops goal A x ps:=by
 induction h with
 | nil h=>exact fun hx=>.nil hx h
 | cons h1 h2 _ ih=>exact fun hx=>.cons hx h1 h2 (ih (hA _ hx _ _ h1 h2))
theorem FpA.last(hc0:∀ o∈ops,0<=o.cost)(l:List Int){x:List Int}{ps:List Nat}(h:FpA n ops goal A x ps):FpA n ops goal (A.filter (fun y=>decide (y≠l))) x ps \/
  ((∀ q∈goal,q∈l)\/∃ p o ps',ops[p]? = some o/\(∀ q∈o.pre,q∈l)/\FpA n ops goal (A.filter (fun y=>decide (y≠l))) (xJ5 n l o) ps'/\xJ6 (ops.map (·.cost)) (p :: ps')<=xJ6 (ops.map (·.cost)) ps):=by
 induction h with
 | @nil x hx hg=>
  by_cases e:x=l
  ·subst e;exact .inr (.inl hg)
  ·exact .inl (.nil (List.mem_filter.2 ⟨hx,by simpa using e⟩) hg)
 | @cons x p o ps hx h1 h2 h3 ih=>
  have hcp:=hc0 o (lMg h1);rcases ih with h4 | h4 | ⟨p',o',ps',h5,h6,h7,h8⟩
  ·by_cases e:x=l
   ·subst e;exact .inr (.inr ⟨p,o,ps,h1,h2,h4,Int.le_refl _⟩)
   ·exact .inl (.cons (List.mem_filter.2 ⟨hx,by simpa using e⟩) h1 h2 h4)
  ·exact .inr (.inl h4)
  ·refine .inr (.inr ⟨p',o',ps',h5,h6,h7,?_⟩);rw[xJf _ p ps,xJw h1];omega
theorem FpA.short(hc0:∀ o∈ops,0<=o.cost):∀ (k:Nat) {A:List (List Int)} {x:List Int} {ps:List Nat},A.length<=k->FpA n ops goal A x ps->∃ ps',Fp n ops goal x ps'/\xJ6 (ops.map (·.cost)) ps'<=xJ6 (ops.map (·.cost)) ps/\ps'.length < A.length:=by
 intro k
 induction k with
 | zero=>
  intro A x ps hk h;have:=h.mem;have:A=[]:=List.eq_nil_of_length_eq_zero (by omega);subst this
  cases h.mem
 | succ k ih=>
  intro A x ps hk h;have hx:=h.mem;have hpos:0 < A.length:=List.length_pos_of_mem hx;rcases h.last hc0 x with h1 | h1 | ⟨p,o,ps',h1,h2,h3,h4⟩
  ·have:=h1.mem;rw[List.mem_filter] at this;simp at this
  ·exact⟨[],.nil h1,by have:=xV8 hc0 ps;simpa[xJ6] using this,by simpa using hpos⟩
  ·have hlen:(A.filter (fun y=>decide (y≠x))).length < A.length:=by
    rcases Nat.lt_or_ge (A.filter (fun y=>decide (y≠x))).length A.length with h5 | h5
    ·exact h5
    ·exfalso;have h6:(A.filter (fun y=>decide (y≠x))).length=A.length:=Nat.le_antisymm (List.length_filter_le ..) h5;have:=List.length_filter_eq_length_iff.1 h6 x hx;simp at this
   obtain⟨qs,i1,i2,i3⟩:=ih (by omega) h3;refine⟨p :: qs,.cons h1 h2 i1,?_,by rw[List.length_cons];omega⟩;rw[xJf] at h4 ⊢;omega
end
theorem zX5{ops:List OpV}{c:Int}(hc:∀ o∈ops,o.cost<=c)(h0:0<=c)(ps:List Nat):xJ6 (ops.map (·.cost)) ps<=c * (ps.length:Int):=by
 induction ps with
 | nil=>simp[xJ6]
 | cons p ps ih=>
  rw[xJf,List.length_cons];have:xJ2 (ops.map (·.cost)) (p:Int)<=c:=by
   unfold xJ2
   cases e:(ops.map (·.cost))[((p:Int)).toNat]? with
   | none=>simpa using h0
   | some v=>
    obtain⟨o,h1,h2⟩:=List.mem_map.1 (lMg e);rw[<- h2];exact hc o h1
  have e:((ps.length+1:Nat):Int)=(ps.length:Int)+1:=by omega
  rw[e,Int.mul_add,Int.mul_one];omega
def rsV(F s:List Int):List Int:=s.filterMap fun p=>if p∈F then some ((F.idxOf p:Nat):Int) else none
def xYh(F:List Int)(o:OpV):OpV:=⟨rsV F o.pre,rsV F o.add,rsV F o.del,o.cost⟩
def opN(ops:List OpV)(i:Nat):OpV:=(ops[i]?).getD ⟨[],[],[],0⟩
def xJl(t:TaskV)(F:List Int)(R:List Nat):TaskV:=⟨F.length,rsV F t.init,rsV F t.goal,R.map fun i=>xYh F (opN t.ops i)⟩
structure RelV(t:TaskV)(F:List Int)(R:List Nat):Prop where
 set:SetP F t.facts
 goal:∀ q∈t.goal,q∈F
 pre:∀ i∈R,∀ q∈(opN t.ops i).pre,q∈F
 out:∀ (i:Nat) (o:OpV),t.ops[i]? = some o->i∉R->∀ q∈o.add,q∉F
 lt:∀ i∈R,i < t.ops.length
 inc:R.Pairwise (· < ·)
theorem SetP.pw{l:List Int}{n:Int}(h:SetP l n):l.Pairwise (· < ·):=by
 have h2:=h.2;clear h
 induction l with
 | nil=>exact List.Pairwise.nil
 | cons a l ih=>
  have h3:=ih (fun i x y hx hy=>h2 (i+1) x y (by simpa using hx) (by simpa using hy));refine List.pairwise_cons.2 ⟨fun b hb=>?_,h3⟩
  cases l with
  | nil=>cases hb
  | cons c l=>
   have h4:=h2 0 a c rfl rfl;rcases List.mem_cons.1 hb with e | e
   ·subst e;exact h4
   ·have:=(List.pairwise_cons.1 h3).1 b e;omega
theorem SetP.of_pw{l:List Int}{n:Int}(hr:∀ x∈l,0<=x/\x < n)(h:l.Pairwise (· < ·)):SetP l n:=
 ⟨hr,fun i x y hx hy=>by
  obtain⟨h1,rfl⟩:=List.getElem?_eq_some_iff.1 hx;obtain⟨h2,rfl⟩:=List.getElem?_eq_some_iff.1 hy;exact List.pairwise_iff_getElem.1 h i (i+1) h1 h2 (by omega)⟩
theorem xZi{l:List Int}(h:l.Pairwise (· < ·)):l.Nodup:=h.imp (fun h=>by omega)
theorem vYq{F:List Int}(hF:F.Nodup){i:Nat}{x:Int}(h:F[i]? = some x):F.idxOf x=i:=by
 obtain⟨h1,rfl⟩:=List.getElem?_eq_some_iff.1 h;exact hF.idxOf_getElem i h1
theorem zQr{F:List Int}{x:Int}(h:x∈F):F[F.idxOf x]? = some x:=by
 rw[lGe (List.idxOf_lt_length_iff.2 h)];congr 1;exact List.getElem_idxOf (List.idxOf_lt_length_iff.2 h)
theorem xQs{F s:List Int}(hF:F.Nodup){i:Nat}{x:Int}(hi:F[i]? = some x):(i:Int)∈rsV F s↔x∈s:=by
 unfold rsV;rw[List.mem_filterMap];constructor
 ·rintro ⟨y,hy,h⟩
  split at h
  ·rename_i hyF
   injection h with h
   have h1:=zQr hyF;have h2:F.idxOf y=i:=by omega
   rw[h2,hi] at h1;rw[Option.some.inj h1];exact hy
  ·cases h
 ·intro h;refine⟨x,h,?_⟩;rw[if_pos (lMg hi),vYq hF hi]
theorem zKm{F s:List Int}{z:Int}(h:z∈rsV F s):∃ (i:Nat) (x:Int),z=(i:Int)/\F[i]? = some x/\x∈s:=by
 unfold rsV at h;rw[List.mem_filterMap] at h;obtain⟨y,hy,h⟩:=h
 split at h
 ·rename_i hyF
  injection h with h
  exact⟨_,y,h.symm,zQr hyF,hy⟩
 ·cases h
theorem xYu{F s:List Int}{n:Int}(hF:SetP F n)(hs:SetP s n):SetP (rsV F s) (F.length:Int):=by
 refine SetP.of_pw (fun z hz=>?_) ?_
 ·obtain⟨i,x,rfl,h1,_⟩:=zKm hz;have:=(List.getElem?_eq_some_iff.1 h1).1;omega
 ·unfold rsV;rw[List.pairwise_filterMap];refine hs.pw.imp ?_;intro a b hab x hx y hy
  split at hx
  ·rename_i ha
   split at hy
   ·rename_i hb
    injection hx with hx;injection hy with hy
    subst hx;subst hy;have h1:=zQr ha;have h2:=zQr hb;obtain⟨l1,e1⟩:=List.getElem?_eq_some_iff.1 h1;obtain⟨l2,e2⟩:=List.getElem?_eq_some_iff.1 h2;have hlt:F.idxOf a < F.idxOf b:=by
     rcases Nat.lt_trichotomy (F.idxOf a) (F.idxOf b) with h | h | h
     ·exact h
     ·exfalso;have:F[F.idxOf a]? = F[F.idxOf b]?:=by rw[h]
      rw[h1,h2] at this;injection this with this
      omega
     ·have:=List.pairwise_iff_getElem.1 hF.pw _ _ l2 l1 h;omega
    omega
   ·cases hy
  ·cases hx
theorem xV6{ops:List OpV}{i:Nat}{o:OpV}(h:ops[i]? = some o):opN ops i=o:=by unfold opN;rw[h];rfl
section
variable {t:TaskV}{F:List Int}{R:List Nat}{n:Nat}
theorem RelV.sop(h:RelV t F R){r:Nat}{o':OpV}(hr:(xJl t F R).ops[r]? = some o'):∃ i o,i∈R/\R[r]? = some i/\t.ops[i]? = some o/\o'=xYh F o:=by
 have h1:(R.map fun i=>xYh F (opN t.ops i))[r]? = some o':=hr;rw[List.getElem?_map] at h1;obtain⟨i,h2,h3⟩:=Option.map_eq_some_iff.1 h1;have hi:=lMg h2;have h4:t.ops[i]? = some (t.ops[i]'(h.lt i hi)):=lGe _;refine⟨i,_,hi,h2,h4,?_⟩;rw[<- h3,xV6 h4]
theorem RelV.at_(h:RelV t F R){i:Nat}{o:OpV}(hi:i∈R)(ho:t.ops[i]? = some o):∃ r:Nat,(xJl t F R).ops[r]? = some (xYh F o):=by
 obtain⟨r,hr⟩:=List.getElem?_of_mem hi;refine⟨r,?_⟩;show (R.map fun i=>xYh F (opN t.ops i))[r]? = _;rw[List.getElem?_map,hr];show some (xYh F (opN t.ops i))=_;rw[xV6 ho]
theorem RelV.down(h:RelV t F R)(hn:t.facts=n)(hc0:∀ o∈t.ops,0<=o.cost){l:List Int}{ps:List Nat}(hp:Fp n t.ops t.goal l ps):∀ {l':List Int},(∀ (i:Nat) (x:Int),F[i]? = some x->x∈l->(i:Int)∈l') ->
  ∃ ps',Fp F.length (xJl t F R).ops (xJl t F R).goal l' ps'/\xJ6 ((xJl t F R).ops.map (·.cost)) ps'<=xJ6 (t.ops.map (·.cost)) ps:=by
 have hF:F.Nodup:=xZi h.set.pw
 induction hp with
 | @nil l hg=>
  intro l' hl;refine⟨[],.nil fun z hz=>?_,Int.le_refl _⟩;obtain⟨i,x,rfl,h1,h2⟩:=zKm hz;exact hl i x h1 (hg x h2)
 | @cons l p o ps h1 h2 h3 ih=>
  intro l' hl;have hcp:=hc0 o (lMg h1)
  by_cases hR:p∈R
  ·obtain⟨r,hr⟩:=h.at_ hR h1;obtain⟨ps',i1,i2⟩:=ih (l':=xJ5 F.length l' (xYh F o)) (fun i x hi hx=>by
    have hlt:=(List.getElem?_eq_some_iff.1 hi).1;rw[xJq] at hx ⊢;refine⟨by omega,?_⟩;rcases hx.2 with h4 | ⟨h4,h5⟩
    ·exact .inl ((xQs hF hi).2 h4)
    ·exact .inr ⟨hl i x hi h4,fun h6=>h5 ((xQs hF hi).1 h6)⟩)
   refine⟨r :: ps',.cons hr (fun z hz=>?_) i1,?_⟩
   ·obtain⟨i,x,rfl,h4,h5⟩:=zKm hz;exact hl i x h4 (h2 x h5)
   ·rw[xJf,xJf,xJw hr,xJw h1];show o.cost+_<=_;omega
  ·obtain⟨ps',i1,i2⟩:=ih (l':=l') (fun i x hi hx=>by
    rcases (xJq.1 hx).2 with h4 | h4
    ·exact absurd (lMg hi) (h.out p o h1 hR x h4)
    ·exact hl i x hi h4.1)
   refine⟨ps',i1,?_⟩;rw[xJf,xJw h1];omega
def zX6(F l l':List Int):Prop:=∀ (i:Nat) (x:Int),F[i]? = some x->(x∈l↔(i:Int)∈l')
theorem RelV.same_next(h:RelV t F R)(hn:t.facts=n){l l':List Int}{i:Nat}{o:OpV}(hi:i∈R)(ho:t.ops[i]? = some o)(hs:zX6 F l l'):zX6 F (xJ5 n l o) (xJ5 F.length l' (xYh F o)):=fun k x hk=>by
 have hF:F.Nodup:=xZi h.set.pw;have hlt:=(List.getElem?_eq_some_iff.1 hk).1;have hx:=h.set.1 x (lMg hk);rw[hn] at hx;rw[xJq,xJq];have h1:(k:Int)∈(xYh F o).add↔x∈o.add:=xQs hF hk;have h2:(k:Int)∈(xYh F o).del↔x∈o.del:=xQs hF hk;rw[h1,h2,hs k x hk];constructor
 ·exact fun h=>⟨by omega,h.2⟩
 ·exact fun h=>⟨hx,h.2⟩
theorem RelV.can(h:RelV t F R){l l':List Int}{i:Nat}{o:OpV}(hi:i∈R)(ho:t.ops[i]? = some o)(hs:zX6 F l l')(hp:∀ z∈(xYh F o).pre,z∈l'):∀ q∈o.pre,q∈l:=fun q hq=>by
 have hF:F.Nodup:=xZi h.set.pw;have hqF:q∈F:=h.pre i hi q (by rw[xV6 ho];exact hq);obtain⟨k,hk⟩:=List.getElem?_of_mem hqF;exact (hs k q hk).2 (hp _ ((xQs hF hk).2 hq))
theorem RelV.up(h:RelV t F R)(hn:t.facts=n){l':List Int}{qs:List Nat}(hp:Fp F.length (xJl t F R).ops (xJl t F R).goal l' qs):∀ {l:List Int},zX6 F l l' ->
  ∃ ps,Fp n t.ops t.goal l ps/\xJ6 (t.ops.map (·.cost)) ps=xJ6 ((xJl t F R).ops.map (·.cost)) qs:=by
 have hF:F.Nodup:=xZi h.set.pw
 induction hp with
 | @nil l' hg=>
  intro l hs;refine⟨[],.nil fun q hq=>?_,rfl⟩;obtain⟨k,hk⟩:=List.getElem?_of_mem (h.goal q hq);exact (hs k q hk).2 (hg _ ((xQs hF hk).2 hq))
 | @cons l' r o' qs h1 h2 h3 ih=>
  intro l hs;obtain⟨i,o,hi,_,ho,rfl⟩:=h.sop h1;obtain⟨ps,i1,i2⟩:=ih (h.same_next hn hi ho hs);refine⟨i :: ps,.cons ho (h.can hi ho hs h2) i1,?_⟩;rw[xJf,xJf,xJw h1,xJw ho,i2];rfl
theorem RelV.init(h:RelV t F R):zX6 F t.init (xJl t F R).init:=fun k x hk=>(xQs (xZi h.set.pw) hk).symm
end
theorem Cst.pth3{n:Nat}{ops:List OpV}{st l:List Int}{c:Int}(h:Cst n ops st l c):∃ ps,Pth n ops st l ps/\c=xJ6 (ops.map (·.cost)) ps:=by
 induction h with
 | init=>exact⟨[],.init,rfl⟩
 | @step l c p o _ hp hq ih=>
  obtain⟨ps,h1,h2⟩:=ih;exact⟨ps ++ [p],.step h1 hp hq,by rw[xZj,xJw hp,h2]⟩
theorem Fp.cst{n:Nat}{ops:List OpV}{goal st l:List Int}{qs:List Nat}(h:Fp n ops goal l qs):∀ {c:Int},Cst n ops st l c->∃ l',Cst n ops st l' (c+xJ6 (ops.map (·.cost)) qs)/\∀ q∈goal,q∈l':=by
 induction h with
 | @nil l hg=>intro c h;exact⟨l,by simpa[xJ6] using h,hg⟩
 | @cons l p o ps h1 h2 h3 ih=>
  intro c h;obtain⟨l',h4,h5⟩:=ih (h.step h1 h2);refine⟨l',?_,h5⟩;rw[xJf,xJw h1,<- Int.add_assoc];exact h4
theorem RBest.le_fp{n:Nat}{ops:List OpV}{goal st:List Int}{d:Int}(h:RBest n ops goal st d){qs:List Nat}(hq:Fp n ops goal st qs):d<=xJ6 (ops.map (·.cost)) qs:=by
 obtain⟨l,h1,h2⟩:=hq.cst .init;rw[Int.zero_add] at h1;exact h.2.2 l _ h1 h2
theorem RBest.fp{n:Nat}{ops:List OpV}{goal st:List Int}{d:Int}(h:RBest n ops goal st d)(hd:d≠1000000000):∃ qs,Fp n ops goal st qs/\xJ6 (ops.map (·.cost)) qs=d:=by
 rcases h.1 with e | ⟨l,h1,h2⟩
 ·exact absurd e hd
 ·obtain⟨ps,h3,h4⟩:=h1.pth3;have h5:=h3.front (goal:=goal) (.nil h2);rw[List.append_nil] at h5;exact⟨ps,h5,h4.symm⟩
theorem Clos.short{n:Nat}{t:TaskV}{ls:List (List Int)}(hv:Valid t)(hC:Clos n t.ops t.init ls)(hl:ls.length<=2000){qs:List Nat}(hq:Fp n t.ops t.goal t.init qs) :
  ∃ ps,Fp n t.ops t.goal t.init ps/\xJ6 (t.ops.map (·.cost)) ps<=xJ6 (t.ops.map (·.cost)) qs/\ps.length < 2000/\xJ6 (t.ops.map (·.cost)) ps<=200000:=by
 obtain⟨ps,h1,h2,h3⟩:=FpA.short (fun o ho=>(hv.ops o ho).2.1) ls.length (Nat.le_refl _) (hq.all hC.closed hC.hst);have h4:=zX5 (fun o ho=>(hv.ops o ho).2.2) (by decide) ps;exact⟨ps,h1,h2,by omega,by omega⟩
theorem xWi{n:Nat}{t:TaskV}{ls:List (List Int)}(hv:Valid t)(hC:Clos n t.ops t.init ls)(hl:ls.length<=2000)(h:RBest n t.ops t.goal t.init 1000000000){qs:List Nat}(hq:Fp n t.ops t.goal t.init qs):False:=by
 obtain⟨ps,h1,_,_,h4⟩:=Clos.short hv hC hl hq;have:=h.le_fp h1;omega
section
variable {t:TaskV}{F:List Int}{R:List Nat}{n:Nat}
theorem RelV.flen(h:RelV t F R)(hv:Valid t):(F.length:Int)<=24:=Int.le_trans (h.set.length hv.f0) hv.f1
theorem RelV.valid(h:RelV t F R)(hv:Valid t):Valid (xJl t F R):=by
 have hF:F.Nodup:=xZi h.set.pw;refine⟨by show (0:Int)<=(F.length:Int);omega,h.flen hv,xYu h.set hv.init,xYu h.set hv.goal,?_,fun o' ho'=>?_⟩
 ·show (R.map _).length<=40;rw[List.length_map];have h1:R.length<=(List.range t.ops.length).length:=xX8 (h.inc.imp (fun h=>by omega)) (fun x hx=>List.mem_range.2 (h.lt x hx));rw[List.length_range] at h1;have:=hv.nops;omega
 ·obtain⟨r,hr⟩:=List.getElem?_of_mem ho';obtain⟨i,o,_,_,ho,rfl⟩:=h.sop hr;obtain⟨⟨h1,h2,h3,h4⟩,h5,h6⟩:=hv.ops o (lMg ho);refine⟨⟨xYu h.set h1,xYu h.set h2,xYu h.set h3,fun z hz hd=>?_⟩,h5,h6⟩;obtain⟨k,x,rfl,hk,hx⟩:=zKm hz;exact h4 x hx ((xQs hF hk).1 hd)
theorem RelV.reach(h:RelV t F R)(hn:t.facts=n){ls:List (List Int)}(hC:Clos n t.ops t.init ls){l':List Int}{c:Int}(hc:Cst F.length (xJl t F R).ops (xJl t F R).init l' c):∃ l∈ls,zX6 F l l':=by
 induction hc with
 | init=>exact⟨_,hC.hst,h.init⟩
 | @step l' c r o' _ hr hp ih=>
  obtain⟨l,hl,hs⟩:=ih;obtain⟨i,o,hi,_,ho,rfl⟩:=h.sop hr;exact⟨_,hC.closed l hl i o ho (h.can hi ho hs hp),h.same_next hn hi ho hs⟩
theorem RelV.few(h:RelV t F R)(hv:Valid t)(hn:t.facts=n){ls:List (List Int)}(hC:Clos n t.ops t.init ls){L:List (List Int)}(hL:L.Nodup)(hr:∀ l'∈L,∃ c,Cst F.length (xJl t F R).ops (xJl t F R).init l' c):L.length<=ls.length:=by
 have hset:∀ l'∈L,SetP l' (F.length:Int):=fun l' hl'=>by
  obtain⟨c,hc⟩:=hr l' hl'
  cases hc with
  | init=>exact xYu h.set hv.init
  | step _ _ _=>exact xJj ..
 have each:∀ l':List Int,∃ l:List Int,l'∈L->l∈ls/\zX6 F l l':=fun l'=>by
  by_cases hl':l'∈L
  ·obtain⟨c,hc⟩:=hr l' hl';obtain⟨l,h1,h2⟩:=h.reach hn hC hc;exact⟨l,fun _=>⟨h1,h2⟩⟩
  ·exact⟨[],fun h=>absurd h hl'⟩
 obtain⟨f,hf⟩:=Classical.axiomOfChoice each;have hnd:(L.map f).Nodup:=by
  unfold List.Nodup;rw[List.pairwise_map];refine List.Pairwise.imp_of_mem ?_ hL;intro a b ha hb hab e;refine hab ((hset a ha).ext (hset b hb) fun z=>?_);have h1:=(hf a ha).2;have h2:=(hf b hb).2;rw[<- e] at h2;constructor
  ·intro hz;have hzr:=(hset a ha).1 z hz;obtain⟨k,rfl⟩:=Int.eq_ofNat_of_zero_le hzr.1;have hk:F[k]? = some (F[k]'(by omega)):=lGe _;exact (h2 k _ hk).1 ((h1 k _ hk).2 hz)
  ·intro hz;have hzr:=(hset b hb).1 z hz;obtain⟨k,rfl⟩:=Int.eq_ofNat_of_zero_le hzr.1;have hk:F[k]? = some (F[k]'(by omega)):=lGe _;exact (h1 k _ hk).1 ((h2 k _ hk).2 hz)
 have:=xX8 hnd (b:=ls) (fun x hx=>by
  obtain⟨l',hl',rfl⟩:=List.mem_map.1 hx;exact (hf l' hl').1)
 rw[List.length_map] at this;exact this
theorem RelV.cost(h:RelV t F R)(hv:Valid t)(hn:t.facts=n){ls:List (List Int)}(hC:Clos n t.ops t.init ls)(hl:ls.length<=2000){d:Int}(hd:RBest n t.ops t.goal t.init d)(hne:d≠1000000000){l':List Int}{ps:List Nat}(hp:Pth F.length (xJl t F R).ops (xJl t F R).init l' ps)(hg:∀ q∈(xJl t F R).goal,q∈l')(hch:vZu F.length (xJl t F R) ps) :
  xJ6 ((xJl t F R).ops.map (·.cost)) ps=d:=by
 have hc0:∀ o∈t.ops,0<=o.cost:=fun o ho=>(hv.ops o ho).2.1
 have h1:=hp.front (goal:=(xJl t F R).goal) (.nil hg);rw[List.append_nil] at h1;obtain⟨qs,h2,h3⟩:=h.up hn h1 h.init;have h4:=hd.le_fp h2;obtain⟨rs,h5,h6⟩:=hd.fp hne;obtain⟨us,h7,h8,h9,h10⟩:=Clos.short hv hC hl h5;have h11:=hd.le_fp h7;obtain⟨vs,h12,h13⟩:=h.down hn hc0 h7 (l':=(xJl t F R).init) (fun i x hi hx=>(h.init i x hi).1 hx);have hvs:=h.valid hv;have hlen:∃ ws,Fp F.length (xJl t F R).ops (xJl t F R).goal (xJl t F R).init ws/\xJ6 ((xJl t F R).ops.map (·.cost)) ws<=d/\ws.length < 4096:=by
  obtain⟨A,hA,hAl,hAi⟩:∃ A:List (List Int),(∀ l∈A,∀ (p:Nat) (o:OpV),(xJl t F R).ops[p]? = some o->(∀ q∈o.pre,q∈l)->xJ5 F.length l o∈A)/\A.length<=2000/\(xJl t F R).init∈A:=by
   refine⟨ls.map (rsV F),fun l' hl' p o' hr hp=>?_,by rw[List.length_map];exact hl,List.mem_map.2 ⟨_,hC.hst,rfl⟩⟩;obtain⟨l,hl1,rfl⟩:=List.mem_map.1 hl';obtain⟨i,o,hi,_,ho,rfl⟩:=h.sop hr;have hF:F.Nodup:=xZi h.set.pw;have hs:zX6 F l (rsV F l):=fun k x hk=>(xQs hF hk).symm
   have h20:=hC.closed l hl1 i o ho (h.can hi ho hs hp);refine List.mem_map.2 ⟨_,h20,?_⟩;have h21:=h.same_next hn hi ho hs;have h22:SetP (rsV F (xJ5 n l o)) (F.length:Int):=xYu h.set (by rw[hn];exact hC.set _ h20);refine h22.ext (xJj F.length (rsV F l) (xYh F o)) fun z=>?_
   constructor
   ·intro hz;obtain⟨k,x,rfl,hk,hx⟩:=zKm hz;exact (h21 k x hk).1 hx
   ·intro hz;have hzr:=(xJj F.length (rsV F l) (xYh F o)).1 z hz;obtain⟨k,rfl⟩:=Int.eq_ofNat_of_zero_le hzr.1;have hk:F[k]? = some (F[k]'(by omega)):=lGe _;exact (xQs hF hk).2 ((h21 k _ hk).2 hz)
  obtain⟨ws,w1,w2,w3⟩:=FpA.short (fun o ho=>(hvs.ops o ho).2.1) A.length (Nat.le_refl _) (h12.all hA hAi);exact⟨ws,w1,by omega,by omega⟩
 obtain⟨ws,w1,w2,w3⟩:=hlen;have h14:=hch ws w1 (by omega);omega
end
def xKy(s need:List Int):Int:=(need.find? fun q=>!decide (q∈s)).getD (-1)
theorem vQ9{s need:List Int}{k:Nat}{q:Int}(h:∀ x∈need.take k,x∈s)(hq:need[k]? = some q)(hn:decide (q∈s)=false):xKy s need=q:=by
 unfold xKy;have hk:=(List.getElem?_eq_some_iff.1 hq).1;have e:need.find? (fun q=>!decide (q∈s))=some q:=by
  rw[<- List.take_append_drop k need,List.find?_append];have h1:(need.take k).find? (fun q=>!decide (q∈s))=none:=List.find?_eq_none.2 (fun x hx=>by simp[h x hx]);rw[h1,List.drop_eq_getElem_cons hk];rw[lGe hk] at hq;rw[Option.some.inj hq];simp only[Option.none_or,List.find?_cons,hn,Bool.not_false]
 rw[e];rfl
theorem zVe{s need:List Int}(h:∀ x∈need,x∈s):xKy s need = -1:=by
 unfold xKy;rw[List.find?_eq_none.2 (fun x hx=>by simp[h x hx])];rfl
theorem xQz(w:World)(S:Option Addr)(c:Nat)(st:List Int)(hS:Ints w S st)(hls:st.length<=1000000000000)(HSO:Hid (st.Pairwise (· < ·)))(N:Option Addr)(d:Nat)(need:List Int)(hN:Ints w N need)(hln:need.length<=9223372036854775807) :
  Calls Tryz.prog 108 #[.slice S st.length c,.slice N need.length d] w fun e w'=>e=.returned (.int .i64 (xKy st need))/\Below w.heap.size w w':=by
 go_enter Tryz.func108,Tryz.ntmps108
 go_wp2_with fail
 go_loopw [11] (fun i wr=>∃ k:Nat,k<=need.length/\i=.int .i64 (k:Int)/\(∀ x∈need.take k,x∈st)/\Below w.heap.size w wr) (fun i _=>need.length - (intOf i).toNat)
 case atStart=>exact⟨0,Nat.zero_le _,rfl,(fun x hx=>by simp at hx),bch⟩
 case round=>
  obtain⟨k,hk,rfl,hin,hBr⟩:=hrel;obtain⟨wk,rfl⟩:∃ wo:World,wo=wr:=⟨_,rfl⟩;have HIN:=lHd hin;clear hin
  by_cases hlt:k < need.length
  ·obtain⟨ad,q,rfl,hq,hqc⟩:=(hN.below hBr).at_ (k:=k) hlt
   cases hd:decide (q∈st) with
   | false=>
    have HD:=lHd hd;have HV:=lHd (vQ9 HIN.out hq.out hd);clear hd
    go_wp2_with fail
    refine (vZs _ _ _ _ _ false HD.out (hS.below bch) hls HSO.out).mono ?_;rintro e w1 ⟨kf,rfl,hB1⟩;have D1:=xJ3 w hB1 bch;go_wp2;go_ret;exact⟨by rw[HV.out];first | done | rfl,bch⟩
   | true=>
    have HD:=lHd hd;have HI2:=lHd (show ∀ x∈need.take (k+1),x∈st from fun x hx=>by
     rw[List.take_add_one,hq.out] at hx;rcases List.mem_append.1 hx with h | h
     ·exact HIN.out x h
     ·simp at h;subst h;exact of_decide_eq_true HD.out)
    clear hd
    go_wp2_with fail
    refine (vZs _ _ _ _ _ true HD.out (hS.below bch) hls HSO.out).mono ?_;rintro e w1 ⟨kf,rfl,hB1⟩;have D1:=xJ3 w hB1 bch;go_wp2
    go_roundw
    case rel=>exact⟨k+1,by omega,by go_num,HI2.out,bch⟩
    case measure=>simp[intOf];omega
  ·have hke:need.take k=need:=List.take_of_length_le (by omega);have HV:=lHd (zVe (s:=st) (need:=need) (by have:=HIN.out;rw[hke] at this;exact this));go_wp2;go_ret;exact⟨by rw[HV.out];first | done | rfl,hBr⟩
def xXh(a b:OpV):Bool:=!decide (∃ x∈a.add,x∈b.pre) && !decide (∃ x∈a.del,x∈b.pre) && !decide (∃ x∈a.add,x∈b.del)
theorem xW7{a b:OpV}:xXh a b=true↔zKu a b:=by
 unfold xXh zKu;simp only[Bool.and_eq_true,Bool.not_eq_true',decide_eq_false_iff_not,not_exists,not_and];exact⟨fun ⟨⟨h1,h2⟩,h3⟩=>⟨h1,h2,h3⟩,fun ⟨h1,h2,h3⟩=>⟨⟨h1,h2⟩,h3⟩⟩
def vQt(o:OpV):Prop:=o.pre.Pairwise (· < ·)/\o.add.Pairwise (· < ·)/\o.del.Pairwise (· < ·)
theorem zJ6(w:World)(o:OpV)(A0 A1 A2:Option Addr)(a0 a1 a2:Nat)(hA:OpMem w A0 A1 A2 o)(u:OpV)(B0 B1 B2:Option Addr)(b0 b1 b2:Nat)(hB:OpMem w B0 B1 B2 u)(hlo:o.pre.length<=24/\o.add.length<=24/\o.del.length<=24)(hlu:u.pre.length<=24/\u.add.length<=24/\u.del.length<=24)(hsu:Hid (vQt u)) :
  Calls Tryz.prog 143 #[.agg #[.slice A0 o.pre.length a0,.slice A1 o.add.length a1,.slice A2 o.del.length a2,.int .i64 o.cost],.agg #[.slice B0 u.pre.length b0,.slice B1 u.add.length b1,.slice B2 u.del.length b2,.int .i64 u.cost]] w fun e w'=>e=.returned (.bool (xXh o u))/\Below w.heap.size w w':=by
 obtain⟨hl1,hl2,hl3⟩:=hlo;obtain⟨hu1,hu2,hu3⟩:=hlu
 cases h1:decide (∃ x∈o.add,x∈u.pre) with
 | true=>
  have HF:=lHd (show xXh o u=false from by unfold xXh;rw[h1];simp);have H1:=lHd h1;clear h1;go_enter Tryz.func143,Tryz.ntmps143
  go_wp2_with fail
  refine (xJt _ _ _ _ _ _ _ (hA.add.below bch) (hB.pre.below bch) (by omega) (by omega) hsu.out.1).mono ?_;rintro e w1 ⟨he,hB1⟩;rw[H1.out] at he;subst he;have D1:=xJ3 w hB1 bch;have C1:=Cls.below (l:=[(w.heap.size,0,.slice A0 o.pre.length a0),(w.heap.size,1,.slice A1 o.add.length a1),(w.heap.size,2,.slice A2 o.del.length a2),(w.heap.size,3,.int .i64 o.cost),(w.heap.size+1,0,.slice B0 u.pre.length b0),(w.heap.size+1,1,.slice B1 u.add.length b1),(w.heap.size+1,2,.slice B2 u.del.length b2),(w.heap.size+1,3,.int .i64 u.cost)]) hB1 (by simp[Cls,go_sem]);have F1:=C1;simp only[Cls,and_true] at F1;have y1w1:w.heap.size+1 < w1.heap.size:=C1.blk (b:=w.heap.size+1) (k:=0) (v:=.slice B0 u.pre.length b0) (by simp);go_wp2;go_ret;exact⟨by rw[HF.out];first | done | rfl,bch⟩
 | false=>
  cases h2:decide (∃ x∈o.del,x∈u.pre) with
  | true=>
   have HF:=lHd (show xXh o u=false from by unfold xXh;rw[h1,h2];simp);have H1:=lHd h1;have H2:=lHd h2;clear h1 h2;go_enter Tryz.func143,Tryz.ntmps143
   go_wp2_with fail
   refine (xJt _ _ _ _ _ _ _ (hA.add.below bch) (hB.pre.below bch) (by omega) (by omega) hsu.out.1).mono ?_;rintro e w1 ⟨he,hB1⟩;rw[H1.out] at he;subst he;have D1:=xJ3 w hB1 bch;have C1:=Cls.below (l:=[(w.heap.size,0,.slice A0 o.pre.length a0),(w.heap.size,1,.slice A1 o.add.length a1),(w.heap.size,2,.slice A2 o.del.length a2),(w.heap.size,3,.int .i64 o.cost),(w.heap.size+1,0,.slice B0 u.pre.length b0),(w.heap.size+1,1,.slice B1 u.add.length b1),(w.heap.size+1,2,.slice B2 u.del.length b2),(w.heap.size+1,3,.int .i64 u.cost)]) hB1 (by simp[Cls,go_sem]);have F1:=C1;simp only[Cls,and_true] at F1;have y1w1:w.heap.size+1 < w1.heap.size:=C1.blk (b:=w.heap.size+1) (k:=0) (v:=.slice B0 u.pre.length b0) (by simp)
   go_wp2_with fail
   refine (xJt _ _ _ _ _ _ _ (hA.del.below bch) (hB.pre.below bch) (by omega) (by omega) hsu.out.1).mono ?_;rintro e w2 ⟨he,hB2⟩;rw[H2.out] at he;subst he;have D2:=xJ3 w hB2 bch;have C2:=Cls.below (l:=[(w.heap.size,0,.slice A0 o.pre.length a0),(w.heap.size,1,.slice A1 o.add.length a1),(w.heap.size,2,.slice A2 o.del.length a2),(w.heap.size,3,.int .i64 o.cost),(w.heap.size+1,0,.slice B0 u.pre.length b0),(w.heap.size+1,1,.slice B1 u.add.length b1),(w.heap.size+1,2,.slice B2 u.del.length b2),(w.heap.size+1,3,.int .i64 u.cost)]) hB2 (by simp[Cls,go_sem,F1,y1w1]);have F2:=C2;simp only[Cls,and_true] at F2;have y2w1:w.heap.size+1 < w2.heap.size:=C2.blk (b:=w.heap.size+1) (k:=0) (v:=.slice B0 u.pre.length b0) (by simp);go_wp2;go_ret;exact⟨by rw[HF.out];first | done | rfl,bch⟩
  | false=>
   cases h3:decide (∃ x∈o.add,x∈u.del) with
   | true=>
    have HF:=lHd (show xXh o u=false from by unfold xXh;rw[h1,h2,h3];simp);have H1:=lHd h1;have H2:=lHd h2;have H3:=lHd h3;clear h1 h2 h3;go_enter Tryz.func143,Tryz.ntmps143
    go_wp2_with fail
    refine (xJt _ _ _ _ _ _ _ (hA.add.below bch) (hB.pre.below bch) (by omega) (by omega) hsu.out.1).mono ?_;rintro e w1 ⟨he,hB1⟩;rw[H1.out] at he;subst he;have D1:=xJ3 w hB1 bch;have C1:=Cls.below (l:=[(w.heap.size,0,.slice A0 o.pre.length a0),(w.heap.size,1,.slice A1 o.add.length a1),(w.heap.size,2,.slice A2 o.del.length a2),(w.heap.size,3,.int .i64 o.cost),(w.heap.size+1,0,.slice B0 u.pre.length b0),(w.heap.size+1,1,.slice B1 u.add.length b1),(w.heap.size+1,2,.slice B2 u.del.length b2),(w.heap.size+1,3,.int .i64 u.cost)]) hB1 (by simp[Cls,go_sem]);have F1:=C1;simp only[Cls,and_true] at F1;have y1w1:w.heap.size+1 < w1.heap.size:=C1.blk (b:=w.heap.size+1) (k:=0) (v:=.slice B0 u.pre.length b0) (by simp)
    go_wp2_with fail
    refine (xJt _ _ _ _ _ _ _ (hA.del.below bch) (hB.pre.below bch) (by omega) (by omega) hsu.out.1).mono ?_;rintro e w2 ⟨he,hB2⟩;rw[H2.out] at he;subst he;have D2:=xJ3 w hB2 bch;have C2:=Cls.below (l:=[(w.heap.size,0,.slice A0 o.pre.length a0),(w.heap.size,1,.slice A1 o.add.length a1),(w.heap.size,2,.slice A2 o.del.length a2),(w.heap.size,3,.int .i64 o.cost),(w.heap.size+1,0,.slice B0 u.pre.length b0),(w.heap.size+1,1,.slice B1 u.add.length b1),(w.heap.size+1,2,.slice B2 u.del.length b2),(w.heap.size+1,3,.int .i64 u.cost)]) hB2 (by simp[Cls,go_sem,F1,y1w1]);have F2:=C2;simp only[Cls,and_true] at F2;have y2w1:w.heap.size+1 < w2.heap.size:=C2.blk (b:=w.heap.size+1) (k:=0) (v:=.slice B0 u.pre.length b0) (by simp)
    go_wp2_with fail
    refine (xJt _ _ _ _ _ _ _ (hA.add.below bch) (hB.del.below bch) (by omega) (by omega) hsu.out.2.2).mono ?_;rintro e w3 ⟨he,hB3⟩;rw[H3.out] at he;subst he;have D3:=xJ3 w hB3 bch;have C3:=Cls.below (l:=[(w.heap.size,0,.slice A0 o.pre.length a0),(w.heap.size,1,.slice A1 o.add.length a1),(w.heap.size,2,.slice A2 o.del.length a2),(w.heap.size,3,.int .i64 o.cost),(w.heap.size+1,0,.slice B0 u.pre.length b0),(w.heap.size+1,1,.slice B1 u.add.length b1),(w.heap.size+1,2,.slice B2 u.del.length b2),(w.heap.size+1,3,.int .i64 u.cost)]) hB3 (by simp[Cls,go_sem,F2,y2w1]);have y3w1:w.heap.size+1 < w3.heap.size:=C3.blk (b:=w.heap.size+1) (k:=0) (v:=.slice B0 u.pre.length b0) (by simp);go_wp2;go_ret;exact⟨by rw[HF.out];first | done | rfl,bch⟩
   | false=>
    have HF:=lHd (show xXh o u=true from by unfold xXh;rw[h1,h2,h3];simp);have H1:=lHd h1;have H2:=lHd h2;have H3:=lHd h3;clear h1 h2 h3;go_enter Tryz.func143,Tryz.ntmps143
    go_wp2_with fail
    refine (xJt _ _ _ _ _ _ _ (hA.add.below bch) (hB.pre.below bch) (by omega) (by omega) hsu.out.1).mono ?_;rintro e w1 ⟨he,hB1⟩;rw[H1.out] at he;subst he;have D1:=xJ3 w hB1 bch;have C1:=Cls.below (l:=[(w.heap.size,0,.slice A0 o.pre.length a0),(w.heap.size,1,.slice A1 o.add.length a1),(w.heap.size,2,.slice A2 o.del.length a2),(w.heap.size,3,.int .i64 o.cost),(w.heap.size+1,0,.slice B0 u.pre.length b0),(w.heap.size+1,1,.slice B1 u.add.length b1),(w.heap.size+1,2,.slice B2 u.del.length b2),(w.heap.size+1,3,.int .i64 u.cost)]) hB1 (by simp[Cls,go_sem]);have F1:=C1;simp only[Cls,and_true] at F1;have y1w1:w.heap.size+1 < w1.heap.size:=C1.blk (b:=w.heap.size+1) (k:=0) (v:=.slice B0 u.pre.length b0) (by simp)
    go_wp2_with fail
    refine (xJt _ _ _ _ _ _ _ (hA.del.below bch) (hB.pre.below bch) (by omega) (by omega) hsu.out.1).mono ?_;rintro e w2 ⟨he,hB2⟩;rw[H2.out] at he;subst he;have D2:=xJ3 w hB2 bch;have C2:=Cls.below (l:=[(w.heap.size,0,.slice A0 o.pre.length a0),(w.heap.size,1,.slice A1 o.add.length a1),(w.heap.size,2,.slice A2 o.del.length a2),(w.heap.size,3,.int .i64 o.cost),(w.heap.size+1,0,.slice B0 u.pre.length b0),(w.heap.size+1,1,.slice B1 u.add.length b1),(w.heap.size+1,2,.slice B2 u.del.length b2),(w.heap.size+1,3,.int .i64 u.cost)]) hB2 (by simp[Cls,go_sem,F1,y1w1]);have F2:=C2;simp only[Cls,and_true] at F2;have y2w1:w.heap.size+1 < w2.heap.size:=C2.blk (b:=w.heap.size+1) (k:=0) (v:=.slice B0 u.pre.length b0) (by simp)
    go_wp2_with fail
    refine (xJt _ _ _ _ _ _ _ (hA.add.below bch) (hB.del.below bch) (by omega) (by omega) hsu.out.2.2).mono ?_;rintro e w3 ⟨he,hB3⟩;rw[H3.out] at he;subst he;have D3:=xJ3 w hB3 bch;have C3:=Cls.below (l:=[(w.heap.size,0,.slice A0 o.pre.length a0),(w.heap.size,1,.slice A1 o.add.length a1),(w.heap.size,2,.slice A2 o.del.length a2),(w.heap.size,3,.int .i64 o.cost),(w.heap.size+1,0,.slice B0 u.pre.length b0),(w.heap.size+1,1,.slice B1 u.add.length b1),(w.heap.size+1,2,.slice B2 u.del.length b2),(w.heap.size+1,3,.int .i64 u.cost)]) hB3 (by simp[Cls,go_sem,F2,y2w1]);have y3w1:w.heap.size+1 < w3.heap.size:=C3.blk (b:=w.heap.size+1) (k:=0) (v:=.slice B0 u.pre.length b0) (by simp);go_wp2;go_ret;exact⟨by rw[HF.out];first | done | rfl,bch⟩
theorem zWg(w:World)(o:OpV)(A0 A1 A2:Option Addr)(a0 a1 a2:Nat)(hA:OpMem w A0 A1 A2 o)(u:OpV)(B0 B1 B2:Option Addr)(b0 b1 b2:Nat)(hB:OpMem w B0 B1 B2 u)(hlo:o.pre.length<=24/\o.add.length<=24/\o.del.length<=24)(hlu:u.pre.length<=24/\u.add.length<=24/\u.del.length<=24)(hso:Hid (vQt o))(hsu:Hid (vQt u)) :
  Calls Tryz.prog 113 #[.agg #[.slice A0 o.pre.length a0,.slice A1 o.add.length a1,.slice A2 o.del.length a2,.int .i64 o.cost],.agg #[.slice B0 u.pre.length b0,.slice B1 u.add.length b1,.slice B2 u.del.length b2,.int .i64 u.cost]] w fun e w'=>e=.returned (.bool (xXh o u && xXh u o))/\Below w.heap.size w w':=by
 cases h1:xXh o u with
 | false=>
  have H1:=lHd h1;clear h1;go_enter Tryz.func113,Tryz.ntmps113
  go_wp2_with fail
  refine (zJ6 _ _ _ _ _ _ _ _ (hA.below bch) _ _ _ _ _ _ _ (hB.below bch) hlo hlu hsu).mono ?_;rintro e w1 ⟨he,hB1⟩;rw[H1.out] at he;subst he;have D1:=xJ3 w hB1 bch;have C1:=Cls.below (l:=[(w.heap.size,0,.slice A0 o.pre.length a0),(w.heap.size,1,.slice A1 o.add.length a1),(w.heap.size,2,.slice A2 o.del.length a2),(w.heap.size,3,.int .i64 o.cost),(w.heap.size+1,0,.slice B0 u.pre.length b0),(w.heap.size+1,1,.slice B1 u.add.length b1),(w.heap.size+1,2,.slice B2 u.del.length b2),(w.heap.size+1,3,.int .i64 u.cost)]) hB1 (by simp[Cls,go_sem]);have F1:=C1;simp only[Cls,and_true] at F1;have y1w1:w.heap.size+1 < w1.heap.size:=C1.blk (b:=w.heap.size+1) (k:=0) (v:=.slice B0 u.pre.length b0) (by simp);go_wp2;go_ret;exact⟨by simp,bch⟩
 | true=>
  have H1:=lHd h1;clear h1;obtain⟨z,hz⟩:∃ z,Hid (xXh u o=z):=⟨_,lHd rfl⟩;rw[hz.out];go_enter Tryz.func113,Tryz.ntmps113
  go_wp2_with fail
  refine (zJ6 _ _ _ _ _ _ _ _ (hA.below bch) _ _ _ _ _ _ _ (hB.below bch) hlo hlu hsu).mono ?_;rintro e w1 ⟨he,hB1⟩;rw[H1.out] at he;subst he;have D1:=xJ3 w hB1 bch;have C1:=Cls.below (l:=[(w.heap.size,0,.slice A0 o.pre.length a0),(w.heap.size,1,.slice A1 o.add.length a1),(w.heap.size,2,.slice A2 o.del.length a2),(w.heap.size,3,.int .i64 o.cost),(w.heap.size+1,0,.slice B0 u.pre.length b0),(w.heap.size+1,1,.slice B1 u.add.length b1),(w.heap.size+1,2,.slice B2 u.del.length b2),(w.heap.size+1,3,.int .i64 u.cost)]) hB1 (by simp[Cls,go_sem]);have F1:=C1;simp only[Cls,and_true] at F1;have y1w1:w.heap.size+1 < w1.heap.size:=C1.blk (b:=w.heap.size+1) (k:=0) (v:=.slice B0 u.pre.length b0) (by simp)
  go_wp2_with fail
  refine (zJ6 _ _ _ _ _ _ _ _ (hB.below bch) _ _ _ _ _ _ _ (hA.below bch) hlu hlo hso).mono ?_;rintro e w2 ⟨he,hB2⟩;rw[hz.out] at he;subst he;have D2:=xJ3 w hB2 bch;have C2:=Cls.below (l:=[(w.heap.size,0,.slice A0 o.pre.length a0),(w.heap.size,1,.slice A1 o.add.length a1),(w.heap.size,2,.slice A2 o.del.length a2),(w.heap.size,3,.int .i64 o.cost),(w.heap.size+1,0,.slice B0 u.pre.length b0),(w.heap.size+1,1,.slice B1 u.add.length b1),(w.heap.size+1,2,.slice B2 u.del.length b2),(w.heap.size+1,3,.int .i64 u.cost)]) hB2 (by simp[Cls,go_sem,F1,y1w1]);have y2w1:w.heap.size+1 < w2.heap.size:=C2.blk (b:=w.heap.size+1) (k:=0) (v:=.slice B0 u.pre.length b0) (by simp);go_wp2;go_ret;exact⟨by simp,bch⟩
theorem vXr:xY9 111:=fun args w=>by kernel_rfl
theorem vV3:xY9 112:=fun args w=>by kernel_rfl
theorem vXs(w:World)(t:TaskV)(Ao:Option Addr)(co:Nat)(hO:OpsAt w Ao t.ops)(bt bp:Nat)(ht3:w.cell? ⟨bt,3,none⟩=some (.slice Ao t.ops.length co))(p:Int)(hp:w.cell? ⟨bp,0,none⟩=some (.int .i64 p))(k:Nat)(hk:k < t.ops.length)(o:OpV)(ho:Hid (t.ops[k]? = some o)) :
  Calls Tryz.prog 111 #[.int .i64 (k:Int),.pointer (some ⟨bt,0,none⟩),.pointer (some ⟨bp,0,none⟩)] w fun e w'=>e=.returned (.bool (decide (p∈o.add)))/\Below w.heap.size w w':=by
 obtain⟨ad,o',A0,c0,A1,c1,A2,c2,rfl,ho',h0,h1,h2,h3,hm⟩:=hO.at_ (k:=k) hk;obtain rfl:o'=o:=by have h:=ho'.out;rw[ho.out] at h;exact (Option.some.inj h).symm
 have hk2:(k:Int) < (t.ops.length:Int):=by omega
 go_enter Tryz.func111,Tryz.ntmps111
 go_wp2_with fail
 have hSS0:w.drew.cell? ⟨bt,3,none⟩=some (.slice (some ad) t.ops.length co)/\w.drew.cell? ⟨(ad.add (k * 4)).block,(ad.add (k * 4)).off+1,none⟩=some (.slice A1 o'.add.length c1)/\w.drew.cell? ⟨bp,0,none⟩=some (.int .i64 p):=⟨ht3,h1,hp⟩;refine xJk (fun W=>W.cell? ⟨bt,3,none⟩=some (.slice (some ad) t.ops.length co)/\W.cell? ⟨(ad.add (k * 4)).block,(ad.add (k * 4)).off+1,none⟩=some (.slice A1 o'.add.length c1)/\W.cell? ⟨bp,0,none⟩=some (.int .i64 p)) [8] (by kernel_rfl) ?_;have hSS:=hSS0;refine xJ1 (i:=0) (v:=?vz10) rfl (by kernel_rfl) (by kernel_rfl) (by kernel_rfl) (by kernel_rfl) (by kernel_rfl) (fun _ _ _ h=>h) (Or.inl ⟨by rfl,?hz10⟩) (by assumption) ?rz10
 case hz10=>(intro w hSw;(try dsimp only at hSw);go_simp;(try with_reducible rfl))
 try simp only[ap]
 refine xJ1 (i:=1) (v:=?vz11) rfl (by kernel_rfl) (by kernel_rfl) (by kernel_rfl) (by kernel_rfl) (by kernel_rfl) (fun _ _ _ h=>h) (Or.inl ⟨by rfl,?hz11⟩) (by assumption) ?rz11
 case hz11=>(intro w hSw;(try dsimp only at hSw);go_simp;(try with_reducible rfl))
 try simp only[ap]
 refine xJ1 (i:=2) (v:=?vz12) rfl (by kernel_rfl) (by kernel_rfl) (by kernel_rfl) (by kernel_rfl) (by kernel_rfl) (fun _ _ _ h=>h) (Or.inl ⟨by rfl,?hz12⟩) (by assumption) ?rz12
 case hz12=>(intro w hSw;(try dsimp only at hSw);go_simp;(try with_reducible rfl))
 try simp only[ap]
 refine xJ1 (i:=3) (v:=?vz13) rfl (by kernel_rfl) (by kernel_rfl) (by kernel_rfl) (by kernel_rfl) (by kernel_rfl) (fun _ _ _ h=>h) (Or.inl ⟨by rfl,?hz13⟩) (by assumption) ?rz13
 case hz13=>(intro w hSw;(try dsimp only at hSw);go_simp;(try with_reducible rfl))
 try simp only[ap]
 refine xJ1 (i:=4) (v:=?vz14) rfl (by kernel_rfl) (by kernel_rfl) (by kernel_rfl) (by kernel_rfl) (by kernel_rfl) (fun _ _ _ h=>h) (Or.inl ⟨by rfl,?hz14⟩) (by assumption) ?rz14
 case hz14=>(intro w hSw;(try dsimp only at hSw);go_simp;(try with_reducible rfl))
 try simp only[ap]
 refine xJ1 (i:=5) (v:=?vz15) rfl (by kernel_rfl) (by kernel_rfl) (by kernel_rfl) (by kernel_rfl) (by kernel_rfl) (fun _ _ _ h=>h) (Or.inl ⟨by rfl,?hz15⟩) (by assumption) ?rz15
 case hz15=>(intro w hSw;(try dsimp only at hSw);go_simp;(try with_reducible rfl))
 try simp only[ap]
 refine xJ1 (i:=6) (v:=?vz16) rfl (by kernel_rfl) (by kernel_rfl) (by kernel_rfl) (by kernel_rfl) (by kernel_rfl) (fun _ _ _ h=>h) (Or.inl ⟨by rfl,?hz16⟩) (by assumption) ?rz16
 case hz16=>(intro w hSw;(try dsimp only at hSw);go_simp;(try with_reducible rfl))
 try simp only[ap]
 refine xJ4 (i:=7) (by kernel_rfl) rfl (fun K hK=>?_);go_simp;refine (zXr _ _ _ _ _ (hm.add.below bch) hm.ladd.le).mono ?_;rintro e w1 ⟨rfl,hB1⟩;have D1:=xJ3 w hB1 bch;have key:∀ {q:Addr} {x:Value},w.cell? q=some x->w1.cell? q=some x:=fun {q x} hc=>(D1.cell (World.block_lt_of_cell? w _ hc)).trans hc
 have hSS:w1.cell? ⟨bt,3,none⟩=some (.slice (some ad) t.ops.length co)/\w1.cell? ⟨(ad.add (k * 4)).block,(ad.add (k * 4)).off+1,none⟩=some (.slice A1 o'.add.length c1)/\w1.cell? ⟨bp,0,none⟩=some (.int .i64 p):=⟨key ht3,key h1,key hp⟩
 go_wp2_with fail
 refine hK.out _ _ hSS ?_;clear hK K
 try simp only[ap]
 refine xJd (i:=8) (by kernel_rfl) rfl (by kernel_rfl) (fun K hK=>?_);go_simp
 go_wp2_with fail
 refine hK.out _ _ ?_;clear hK K
 try simp only[ap]
 refine xJ8 (by kernel_rfl) ?_ _;go_wp2;go_ret;exact⟨by simp,D1⟩
theorem vV4(w:World)(t:TaskV)(Ao:Option Addr)(co:Nat)(hO:OpsAt w Ao t.ops)(bt bo:Nat)(ht3:w.cell? ⟨bt,3,none⟩=some (.slice Ao t.ops.length co))(o:OpV)(A0 A1 A2:Option Addr)(a0 a1 a2:Nat)(hA:OpMem w A0 A1 A2 o)(hb0:w.cell? ⟨bo,0,none⟩=some (.slice A0 o.pre.length a0))(hb1:w.cell? ⟨bo,1,none⟩=some (.slice A1 o.add.length a1))(hb2:w.cell? ⟨bo,2,none⟩=some (.slice A2 o.del.length a2))(hb3:w.cell? ⟨bo,3,none⟩=some (.int .i64 o.cost))(hlo:o.pre.length<=24/\o.add.length<=24/\o.del.length<=24)(hlu:∀ u∈t.ops,u.pre.length<=24/\u.add.length<=24/\u.del.length<=24)(hso:Hid (vQt o))(hsu:∀ u∈t.ops,vQt u)(k:Nat)(hk:k < t.ops.length)(u:OpV)(hu:Hid (t.ops[k]? = some u)) :
  Calls Tryz.prog 112 #[.int .i64 (k:Int),.pointer (some ⟨bo,0,none⟩),.pointer (some ⟨bt,0,none⟩)] w fun e w'=>e=.returned (.bool (!(xXh o u && xXh u o)))/\Below w.heap.size w w':=by
 obtain⟨ad,u',B0,b0,B1,b1,B2,b2,rfl,ho',h0,h1,h2,h3,hm⟩:=hO.at_ (k:=k) hk;obtain rfl:u'=u:=by have h:=ho'.out;rw[hu.out] at h;exact (Option.some.inj h).symm
 have hk2:(k:Int) < (t.ops.length:Int):=by omega
 obtain⟨z,hz⟩:∃ z,Hid ((xXh o u' && xXh u' o)=z):=⟨_,lHd rfl⟩;rw[hz.out];go_enter Tryz.func112,Tryz.ntmps112
 go_wp2_with fail
 have hSS0:w.drew.cell? ⟨bo,0,none⟩=some (.slice A0 o.pre.length a0)/\w.drew.cell? ⟨bo,1,none⟩=some (.slice A1 o.add.length a1)/\w.drew.cell? ⟨bo,2,none⟩=some (.slice A2 o.del.length a2)/\w.drew.cell? ⟨bo,3,none⟩=some (.int .i64 o.cost)/\w.drew.cell? ⟨bt,3,none⟩=some (.slice (some ad) t.ops.length co)/\w.drew.cell? (ad.add (k * 4))=some (.slice B0 u'.pre.length b0)/\w.drew.cell? (⟨(ad.add (k * 4)).block,(ad.add (k * 4)).off+1,none⟩)=some (.slice B1 u'.add.length b1)/\w.drew.cell? (⟨(ad.add (k * 4)).block,(ad.add (k * 4)).off+2,none⟩)=some (.slice B2 u'.del.length b2)/\w.drew.cell? (⟨(ad.add (k * 4)).block,(ad.add (k * 4)).off+3,none⟩)=some (.int .i64 u'.cost):=⟨hb0,hb1,hb2,hb3,ht3,h0,h1,h2,h3⟩;refine xJk (fun W=>W.cell? ⟨bo,0,none⟩=some (.slice A0 o.pre.length a0)/\W.cell? ⟨bo,1,none⟩=some (.slice A1 o.add.length a1)/\W.cell? ⟨bo,2,none⟩=some (.slice A2 o.del.length a2)/\W.cell? ⟨bo,3,none⟩=some (.int .i64 o.cost)/\W.cell? ⟨bt,3,none⟩=some (.slice (some ad) t.ops.length co)/\W.cell? (ad.add (k * 4))=some (.slice B0 u'.pre.length b0)/\W.cell? (⟨(ad.add (k * 4)).block,(ad.add (k * 4)).off+1,none⟩)=some (.slice B1 u'.add.length b1)/\W.cell? (⟨(ad.add (k * 4)).block,(ad.add (k * 4)).off+2,none⟩)=some (.slice B2 u'.del.length b2)/\W.cell? (⟨(ad.add (k * 4)).block,(ad.add (k * 4)).off+3,none⟩)=some (.int .i64 u'.cost)) [8] (by kernel_rfl) ?_;have hSS:=hSS0;refine xJ1 (i:=0) (v:=?vz20) rfl (by kernel_rfl) (by kernel_rfl) (by kernel_rfl) (by kernel_rfl) (by kernel_rfl) (fun _ _ _ h=>h) (Or.inl ⟨by rfl,?hz20⟩) (by assumption) ?rz20
 case hz20=>(intro w hSw;(try dsimp only at hSw);go_simp;(try with_reducible rfl))
 try simp only[ap]
 refine xJ1 (i:=1) (v:=?vz21) rfl (by kernel_rfl) (by kernel_rfl) (by kernel_rfl) (by kernel_rfl) (by kernel_rfl) (fun _ _ _ h=>h) (Or.inl ⟨by rfl,?hz21⟩) (by assumption) ?rz21
 case hz21=>(intro w hSw;(try dsimp only at hSw);go_simp;(try with_reducible rfl))
 try simp only[ap]
 refine xJ1 (i:=2) (v:=?vz22) rfl (by kernel_rfl) (by kernel_rfl) (by kernel_rfl) (by kernel_rfl) (by kernel_rfl) (fun _ _ _ h=>h) (Or.inl ⟨by rfl,?hz22⟩) (by assumption) ?rz22
 case hz22=>(intro w hSw;(try dsimp only at hSw);go_simp;(try with_reducible rfl))
 try simp only[ap]
 refine xJ1 (i:=3) (v:=?vz23) rfl (by kernel_rfl) (by kernel_rfl) (by kernel_rfl) (by kernel_rfl) (by kernel_rfl) (fun _ _ _ h=>h) (Or.inl ⟨by rfl,?hz23⟩) (by assumption) ?rz23
 case hz23=>(intro w hSw;(try dsimp only at hSw);go_simp;(try with_reducible rfl))
 try simp only[ap]
 refine xJ1 (i:=4) (v:=?vz24) rfl (by kernel_rfl) (by kernel_rfl) (by kernel_rfl) (by kernel_rfl) (by kernel_rfl) (fun _ _ _ h=>h) (Or.inl ⟨by rfl,?hz24⟩) (by assumption) ?rz24
 case hz24=>(intro w hSw;(try dsimp only at hSw);go_simp;(try with_reducible rfl))
 try simp only[ap]
 refine xJ1 (i:=5) (v:=?vz25) rfl (by kernel_rfl) (by kernel_rfl) (by kernel_rfl) (by kernel_rfl) (by kernel_rfl) (fun _ _ _ h=>h) (Or.inl ⟨by rfl,?hz25⟩) (by assumption) ?rz25
 case hz25=>(intro w hSw;(try dsimp only at hSw);go_simp;(try with_reducible rfl))
 try simp only[ap]
 refine xJ4 (i:=6) (by kernel_rfl) rfl (fun K hK=>?_);go_simp;refine (zWg _ _ _ _ _ _ _ _ (hA.below bch) _ _ _ _ _ _ _ (hm.below bch) hlo (hlu _ (lMg ho'.out)) hso (lHd (hsu _ (lMg ho'.out)))).mono ?_;rintro e w1 ⟨he,hB1⟩;rw[hz.out] at he;subst he;have D1:=xJ3 w hB1 bch;have key:∀ {q:Addr} {x:Value},w.cell? q=some x->w1.cell? q=some x:=fun {q x} hc=>(D1.cell (World.block_lt_of_cell? w _ hc)).trans hc
 have hSS:w1.cell? ⟨bo,0,none⟩=some (.slice A0 o.pre.length a0)/\w1.cell? ⟨bo,1,none⟩=some (.slice A1 o.add.length a1)/\w1.cell? ⟨bo,2,none⟩=some (.slice A2 o.del.length a2)/\w1.cell? ⟨bo,3,none⟩=some (.int .i64 o.cost)/\w1.cell? ⟨bt,3,none⟩=some (.slice (some ad) t.ops.length co)/\w1.cell? (ad.add (k * 4))=some (.slice B0 u'.pre.length b0)/\w1.cell? (⟨(ad.add (k * 4)).block,(ad.add (k * 4)).off+1,none⟩)=some (.slice B1 u'.add.length b1)/\w1.cell? (⟨(ad.add (k * 4)).block,(ad.add (k * 4)).off+2,none⟩)=some (.slice B2 u'.del.length b2)/\w1.cell? (⟨(ad.add (k * 4)).block,(ad.add (k * 4)).off+3,none⟩)=some (.int .i64 u'.cost):=⟨key hb0,key hb1,key hb2,key hb3,key ht3,key h0,key h1,key h2,key h3⟩
 go_wp2_with fail
 refine hK.out _ _ hSS ?_;clear hK K
 try simp only[ap]
 refine xX0 (i:=7) (v:=?vz27) rfl (by kernel_rfl) (by kernel_rfl) (by kernel_rfl) (by kernel_rfl) (by kernel_rfl) (fun _ _ _ h=>h) (Or.inl ⟨by rfl,?hz27⟩) (by assumption) ?rz27
 case hz27=>(intro w hSw;(try dsimp only at hSw);go_simp;(try with_reducible rfl))
 try simp only[ap]
 refine xJd (i:=8) (by kernel_rfl) rfl (by kernel_rfl) (fun K hK=>?_);go_simp
 go_wp2_with fail
 refine hK.out _ _ ?_;clear hK K
 try simp only[ap]
 refine xJ8 (by kernel_rfl) ?_ _;go_wp2;go_ret;exact⟨by simp,D1⟩
theorem vVf{x:Int}(h : -9223372036854775808<=x/\x<=9223372036854775807):IntKind.i64.wrap x=x:=by
 obtain⟨h1,h2⟩:=h;simp[IntKind.wrap,IntKind.bits,IntKind.signed];omega
theorem VarsOk.size{m:MtV}{vars:List Int}(hm:MValid m)(h:VarsOk m vars){v:Int}(hv:v∈vars):1<=xJ2 m.sizes v/\xJ2 m.sizes v<=6:=by
 obtain⟨k,hk⟩:=Int.eq_ofNat_of_zero_le (h.rng v hv).1;have h2:=(h.rng v hv).2;rw[hk] at h2 ⊢;have h3:m.sizes[k]? = some (m.sizes[k]'(by omega)):=lGe _;rw[xJ9 (v:=m.sizes[k]'(by omega)) (by rw[Int.toNat_natCast];exact h3)];exact hm.sz _ (lMg h3)
theorem vYz(a b:Int)(h1:0<=a)(h2:a < 4294967296)(h3:0<=b)(h4:b < 4294967296):bits .or .i64 a b=((a.toNat ||| b.toNat:Nat):Int):=by
 obtain⟨A,rfl⟩:=Int.eq_ofNat_of_zero_le h1;obtain⟨B,rfl⟩:=Int.eq_ofNat_of_zero_le h3;have hx:A ||| B < 2 ^ 32:=Nat.or_lt_two_pow (by omega) (by omega)
 have k:∀ a:Nat,a < 4294967296->(BitVec.ofInt 64 (a:Int)).toNat=a:=fun a ha=>by
  rw[BitVec.ofInt_natCast,BitVec.toNat_ofNat];exact Nat.mod_eq_of_lt (by omega)
 show IntKind.i64.wrap ((BitVec.ofInt 64 (A:Int) ||| BitVec.ofInt 64 (B:Int)).toNat:Int)=_;rw[BitVec.toNat_or,k A (by omega),k B (by omega),vVf (by omega)];simp
theorem zQ4{s:List Int}{n:Nat}(h:SetP s (n:Int))(hn:n<=24){k:Nat}{x:Int}(hx:s[k]? = some x):bits .or .i64 (xJ0 (s.take k)) (2 ^ x.toNat)=xJ0 (s.take (k+1)):=by
 have hsub:SetP (s.take k) (n:Int):=SetP.of_pairwise (fun y hy=>h.1 y (List.mem_of_mem_take hy)) (List.Pairwise.sublist (List.take_sublist _ _) h.pairwise);have h1:=hsub.word_u32 hn;have h2:=zQg (h.1 x (lMg hx)) hn;rw[<- zZe h hn hx,vYz _ _ h1.1 h1.2 h2.1 h2.2,u32_or _ _ h1.1 h1.2 h2.1 h2.2]
theorem xK1(A:Option Addr)(c:Nat)(s:List Int)(w:World)(hI:Ints w A s)(n:Nat)(hs:SetP s (n:Int))(hn:n<=24) :
  Calls Tryz.prog 64 #[.slice A s.length c] w fun e w'=>e=.returned (.int .i64 (xJ0 s))/\w=w':=by
 have HX:=lHd hs.1;have HS:=lHd hs;have hl:s.length<=9223372036854775807:=by have:=SetP.length hs (by omega);omega
 clear hs;go_enter Tryz.func64,Tryz.ntmps64;go_wp2
 go_loop [3,8] (fun a i=>∃ k:Nat,k<=s.length/\i=.int .i64 k/\a=.int .i64 (xJ0 (s.take k))) (fun _ i=>s.length - (intOf i).toNat)
 case atStart=>exact⟨0,Nat.zero_le _,rfl,rfl⟩
 case round=>
  obtain⟨k,hk,rfl,rfl⟩:=hrel
  by_cases hlt:k < s.length
  ·obtain⟨ad,x,rfl,hx,hc⟩:=hI.at_ hlt;obtain⟨x0,x1⟩:=HX.out x (lMg hx.out);have HP:=lHd (zQ4 HS.out hn hx.out);have x32:x<=32:=by omega
   have hp:=zQg ⟨x0,x1⟩ hn;have hmod:IntKind.i64.wrap ((2:Int) ^ x.toNat)=2 ^ x.toNat:=vVf (by omega);go_wp2
   go_round
   case rel=>
    refine⟨k+1,by omega,by go_num,?_⟩;rw[<- HP.out]
    try simp[hmod]
   case measure=>simp[intOf];omega
  ·have hall:=lHd (show s.take k=s from List.take_of_length_le (by omega));rw[hall.out];go_wp2;go_ret;exact⟨rfl,rfl⟩
theorem vVz{F:List Int}{x:Int}{k:Nat}(hm:x∈F)(h1:∀ (j:Nat) (y:Int),j < k->F[j]? = some y->y < x)(h2:∀ (j:Nat) (y:Int),k<=j->F[j]? = some y->x<=y)(hs:F.Pairwise (· < ·)):F.idxOf x=k:=by
 have hi:F.idxOf x < F.length:=List.idxOf_lt_length_iff.2 hm;have e:F[F.idxOf x]? = some x:=by rw[lGe hi,List.getElem_idxOf hi]
 rcases Nat.lt_trichotomy (F.idxOf x) k with h | h | h
 ·have:=h1 _ _ h e;omega
 ·exact h
 ·have hk:k < F.length:=by omega
  have h3:=h2 k _ (Nat.le_refl _) (lGe hk);have h4:=List.pairwise_iff_getElem.1 hs k (F.idxOf x) hk hi h;rw[List.getElem_idxOf hi] at h4;omega
theorem vKp{F s:List Int}{k:Nat}{x:Int}(hx:s[k]? = some x)(hm:x∈F):rsV F (s.take (k+1))=rsV F (s.take k) ++ [((F.idxOf x:Nat):Int)]:=by
 unfold rsV;rw[List.take_add_one,hx,List.filterMap_append];simp[hm]
theorem rs_no{F s:List Int}{k:Nat}{x:Int}(hx:s[k]? = some x)(hm:¬ x∈F):rsV F (s.take (k+1))=rsV F (s.take k):=by
 unfold rsV;rw[List.take_add_one,hx,List.filterMap_append];simp[hm]
theorem vJ9(F s:List Int):(rsV F s).length<=s.length:=List.length_filterMap_le _ _
theorem xJs(w:World)(P:Option Addr)(c:Nat)(fs:List Int)(hF:Ints w P fs)(hlf:fs.length<=1000000000000)(HS:Hid (fs.Pairwise (· < ·)))(A:Option Addr)(d:Nat)(s:List Int)(hA:Ints w A s)(hls:s.length<=1000000) :
  Calls Tryz.prog 25 #[.slice P fs.length c,.slice A s.length d] w fun e w'=>∃ v,e=.returned v/\OwnI w.heap.size w' v (rsV fs s)/\Below w.heap.size w w':=by
 go_enter Tryz.func25,Tryz.ntmps25
 go_wp2_with fail
 go_loopw [5,12] (fun v i wr=>∃ k:Nat,k<=s.length/\i=.int .i64 k/\OwnI w.heap.size wr v (rsV fs (s.take k))/\Below w.heap.size w wr) (fun _ i _=>s.length - (intOf i).toNat)
 case atStart=>exact⟨0,Nat.zero_le _,rfl,OwnI.nil _ _,Below.refl _ _⟩
 case round=>
  obtain⟨k,hk,rfl,hown,hBr⟩:=hrel;obtain⟨w2,rfl⟩:∃ wo:World,wo=wr:=⟨_,rfl⟩;have hlen:(rsV fs (s.take k)).length < 1000000000000:=by
   have h1:=vJ9 fs (s.take k);rw[List.length_take] at h1;omega
  by_cases hlt:k < s.length
  ·obtain⟨ad,x,rfl,hx,hcx⟩:=(hA.below hBr).at_ hlt
   go_wp2_with fail
   refine (zQb _ _ _ _ _ (hF.below bch) hlf HS.out).mono ?_;rintro e w1 ⟨kf,rfl,hk0,hk1,hk2,hB1⟩;have D1:=xJ3 w hB1 bch;have d1s:=D1.size;have Ew2_1:=xJ3 w2 hB1 bch;have HK:=lHd (And.intro hk1 hk2);clear hk1 hk2;have hown1:=hown.below bch
   cases hd:decide (x∈fs) with
   | false=>
    have HF:=lHd (rs_no (F:=fs) hx.out (of_decide_eq_false hd));clear hd;go_wp2
    go_roundw
    case rel=>exact⟨k+1,by omega,by go_num,by rw[HF.out];exact hown1,bch⟩
    case measure=>simp[intOf];omega
   | true=>
    have HF:=lHd (vKp (F:=fs) hx.out (of_decide_eq_true hd));have HI:=lHd (vVz (of_decide_eq_true hd) HK.out.1 HK.out.2 HS.out);clear hd
    go_wp2_with (at_builtin;go_must (refine xXl rfl (.tmp 23) (.tmp 25) rfl w [] (w.heap.size) u5 _ ((kf:Int)) rfl (OwnI.below hown1 ?p1) ⟨w1.heap.size,0,none⟩ 1 rfl ?p2 hlen ?p3 ?p4 ?p5 ?p6 ?p7 ?_;(case p1=>exact bch);(case p2=>simp[Cls,go_sem]);(case p3=>(first | omega | (simp <;> omega)));(case p4=>(first | omega | (simp <;> omega)));(case p5=>exact bch);(case p6=>simp[Cls,go_sem]);(case p7=>(simp <;> omega));intro v2 w2 o2 D2 C2 sz2;have d2s:=D2.size))
    go_roundw
    case rel=>exact⟨k+1,by omega,by go_num,by rw[HF.out,HI.out];exact o2,bch⟩
    case measure=>simp[intOf];omega
  ·have hke:s.take k=s:=List.take_of_length_le (by omega);rw[hke] at hown;go_wp2;go_ret;exact⟨_,rfl,hown,hBr⟩
section
open Go.Shelf Go.Sort
theorem zYp(w:World)(A B:Option Addr)(c d:Nat)(l k:List Int)(hA:Ints w A l)(hB:Ints w B k)(hl:l.length<=100000000000)(hk:k.length<=100000000000)(hnil:B=none->d=0) :
  Calls Tryz.prog 76 #[.slice A l.length c,.slice B k.length d] w fun e w'=>∃ v,e=.returned v/\OwnI w.heap.size w' v (zWk l k [])/\Below w.heap.size w w':=by
 go_enter Tryz.func76,Tryz.ntmps76
 go_wp2_with fail
 refine (xW9 _ A B none c d 0 l k [] hA hB (Ints.nil _ _) hl hk (by simp) (by simp) hnil).mono ?_;rintro e w9 ⟨v9,rfl,ho9,hB9⟩;go_wp2;go_ret;exact⟨_,rfl,ho9,hB9⟩
theorem vJ0{P:Program}{ρ:Go.Shelf.Ren}(Ly:Go.Proofs.Lays.n189 P ρ){w:World}{base:Nat}{v:Value}{xs:List Int}(h:OwnI base w v xs)(hl:xs.length<=1000000000000) :
  Calls P (ρ.f 189) #[v] w fun e w'=>e=.returned (.tuple #[])/\OwnI base w' v (xZ6 xs)/\w.grownBy w' v.ownBlock:=by
 obtain⟨A,c,rfl,-⟩:=h.form
 cases A with
 | none=>
  have hx:xs=[]:=by
   cases xs with
   | nil=>rfl
   | cons x xs=>
    unfold OwnI at h;rcases h.2 with ⟨h2,h4⟩ | ⟨g',cap',cur,hv,_⟩
    ·simp at h4
    ·cases hv
  subst hx;refine (Any.slices_Sort_int_none Ly none c w).mono ?_;rintro e w' ⟨rfl,rfl⟩;exact⟨rfl,by unfold xZ6;simpa using h,⟨rfl,rfl,rfl,Nat.le_refl _,fun k _ _=>rfl⟩⟩
 | some ad=>
  have hf:∃ g,ad=⟨g,0,none⟩:=by
   unfold OwnI at h;rcases h.2 with ⟨h2,h4⟩ | ⟨g',cap',cur,hv,_⟩
   ·cases h2
   ·injection hv with e1 e2 e3
    injection e1 with e1
    exact⟨g',e1⟩
  obtain⟨g,rfl⟩:=hf;obtain⟨hH,hlt,hb,hn,hnc,hcm,_⟩:=xK5 h;refine (Any.slices_Sort_int Ly g 0 c xs w hH hlt (by omega)).mono ?_;rintro e w' ⟨rfl,m,os,rfl⟩;obtain⟨h5,h6⟩:=zQ9 (m:=m) (os:=os) (ts:=xZ6 xs) h (xZv xs);exact⟨rfl,h5,h6⟩
structure RI(t:TaskV)(F R:List Int):Prop where
 set:SetP F t.facts
 goal:∀ q∈t.goal,q∈F
 pre:∀ x∈R,∀ q∈(xZ4 t.ops x).pre,q∈F
 rng:∀ x∈R,0<=x/\x < (t.ops.length:Int)
 nd:R.Nodup
theorem RI.start{t:TaskV}(hv:Valid t):RI t t.goal []:=⟨hv.goal,fun q h=>h,by simp,by simp,List.nodup_nil⟩
theorem RI.few{t:TaskV}{F R:List Int}(h:RI t F R):R.length<=t.ops.length:=by
 have h1:=xX8 h.nd (b:=(List.range t.ops.length).map Int.ofNat) (fun x hx=>by
  have:=h.rng x hx;exact List.mem_map.2 ⟨x.toNat,List.mem_range.2 (by omega),by simp;omega⟩)
 rw[List.length_map,List.length_range] at h1;exact h1
theorem RI.add{t:TaskV}(hv:Valid t){F R:List Int}(h:RI t F R){k:Nat}{o:OpV}(ho:t.ops[k]? = some o)(hk:¬ (k:Int)∈R):RI t (zWk F o.pre []) (R ++ [(k:Int)]):=by
 have hs:=(hv.ops o (lMg ho)).1.1;have mem:∀ x,x∈zWk F o.pre []↔x∈o.pre\/x∈F:=fun x=>by rw[zV5];simp
 refine⟨SetP.of_pw (fun x hx=>?_) (zWl _ _ _),fun q hq=>(mem q).2 (.inr (h.goal q hq)),fun x hx q hq=>(mem q).2 ?_,fun x hx=>?_,?_⟩
 ·rcases (mem x).1 hx with h1 | h1
  ·exact hs.1 x h1
  ·exact h.set.1 x h1
 ·rcases List.mem_append.1 hx with h1 | h1
  ·exact .inr (h.pre x h1 q hq)
  ·simp at h1;subst h1;rw[xV4 (o:=o) (by rw[Int.toNat_natCast];exact ho)] at hq;exact .inl hq
 ·rcases List.mem_append.1 hx with h1 | h1
  ·exact h.rng x h1
  ·simp at h1;subst h1;have:=(List.getElem?_eq_some_iff.1 ho).1;omega
 ·rw[List.nodup_append];exact⟨h.nd,by simp,fun a ha b hb e=>by simp at hb;subst hb;subst e;exact hk ha⟩
def vKk(t:TaskV)(F R:List Int)(k:Nat):Prop:=∀ (j:Nat) (o:OpV),j < k->t.ops[j]? = some o->¬ (j:Int)∈R->∀ q∈o.add,q∉F
theorem RI.fin{t:TaskV}{F R:List Int}(h:RI t F R)(hc:vKk t F R t.ops.length):RelV t F ((xZ6 R).map Int.toNat)/\((xZ6 R).map Int.toNat).map Int.ofNat=xZ6 R:=by
 have hr:∀ x∈xZ6 R,0<=x/\x < (t.ops.length:Int):=fun x hx=>h.rng x (xVa.1 hx)
 have back:((xZ6 R).map Int.toNat).map Int.ofNat=xZ6 R:=by
  rw[List.map_map];refine (List.map_congr_left (fun x hx=>?_)).trans (List.map_id _);have:=hr x hx;simp;omega
 have memN:∀ i:Nat,i∈(xZ6 R).map Int.toNat↔(i:Int)∈R:=fun i=>by
  constructor
  ·intro hi;obtain⟨x,hx,rfl⟩:=List.mem_map.1 hi;have:=hr x hx;rw[show ((x.toNat:Nat):Int)=x by omega];exact xVa.1 hx
  ·intro hi;exact List.mem_map.2 ⟨_,xVa.2 hi,by simp⟩
 refine⟨⟨h.set,h.goal,fun i hi q hq=>?_,fun i o ho hi=>hc i o (List.getElem?_eq_some_iff.1 ho).1 ho (fun e=>hi ((memN i).2 e)),fun i hi=>?_,?_⟩,back⟩
 ·refine h.pre _ ((memN i).1 hi) q ?_;unfold xZ4;unfold opN at hq;rw[Int.toNat_natCast];exact hq
 ·have:=h.rng _ ((memN i).1 hi);omega
 ·rw[List.pairwise_map];have hnd:(xZ6 R).Nodup:=((List.mergeSort_perm R fun x y=>decide (x<=y)).nodup_iff).2 h.nd;refine List.Pairwise.imp_of_mem ?_ ((zJ8 R).and hnd);intro a b ha hb hab;have:=hr a ha;have:=hr b hb;have h2:a≠b:=hab.2;omega
def RelP(t:TaskV)(w:World)(e:Ending)(w':World):Prop:=Below w.heap.size w w'/\∃ (A A':Option Addr) (c c':Nat) (F:List Int) (R:List Nat),e=.returned (.tuple #[.slice A F.length c,.slice A' R.length c'])/\Ints w' A F/\Ints w' A' (R.map Int.ofNat)/\RelV t F R
theorem OpsRead.atP{w w':World}{A:Option Addr}{ops:List OpV}{k:Nat}(h:OpsRead w A ops)(hb:Below w.heap.size w w')(hk:k < ops.length):∃ ad o A0 c0 A1 c1 A2 c2,A=some ad/\Hid (ops[k]? = some o)/\w'.cell? (ad.add (k * 4))=some (.slice A0 o.pre.length c0)/\w'.cell? ⟨(ad.add (k * 4)).block,(ad.add (k * 4)).off+1,none⟩=some (.slice A1 o.add.length c1) /\
  w'.cell? ⟨(ad.add (k * 4)).block,(ad.add (k * 4)).off+2,none⟩=some (.slice A2 o.del.length c2)/\w'.cell? ⟨(ad.add (k * 4)).block,(ad.add (k * 4)).off+3,none⟩=some (.int .i64 o.cost)/\OpMem w A0 A1 A2 o/\Hid (A0=none->c0=0):=by
 obtain⟨ad,A0,c0,A1,c1,A2,c2,e,h0,h1,h2,h3,hm,hr⟩:=h k _ (lGe hk);exact⟨ad,ops[k],A0,c0,A1,c1,A2,c2,e,lHd (lGe hk),(hb.cell (World.block_lt_of_cell? w _ h0)).trans h0,(hb.cell (World.block_lt_of_cell? w _ h1)).trans h1,(hb.cell (World.block_lt_of_cell? w _ h2)).trans h2,(hb.cell (World.block_lt_of_cell? w _ h3)).trans h3,hm,lHd (fun e=>(hr.1.1 e).2)⟩
theorem zXt(w:World)(t:TaskV)(Ai Ag Ao:Option Addr)(ci cg co:Nat)(hT:TaskMem w Ai Ag Ao t)(hR:OpsRead w Ao t.ops)(hv:Valid t) :
  Calls Tryz.prog 24 #[.agg #[.int .i64 t.facts,.slice Ai t.init.length ci,.slice Ag t.goal.length cg,.slice Ao t.ops.length co]] w (RelP t w):=by
 have HV:=lHd hv;have HT:=lHd hT;have HR:=lHd hR;have hn40:=hv.nops;have hlg:t.goal.length<=1000000000000:=by have:=hv.goal.length hv.f0;have:=hv.f1;omega
 clear hv hT hR;go_enter Tryz.func24,Tryz.ntmps24
 go_wp2_with fail
 go_at_call 73;refine (zZd _ _ _ _ (HT.out.goal.below bch) hlg).mono ?_;rintro e w1 ⟨Af,cf,rfl,hFr,hB1⟩;have D1:=xJ3 w hB1 bch;have C1:=Cls.below (l:=[(w.heap.size,0,.int .i64 t.facts),(w.heap.size,1,.slice Ai t.init.length ci),(w.heap.size,2,.slice Ag t.goal.length cg),(w.heap.size,3,.slice Ao t.ops.length co)]) hB1 (by simp[Cls,go_sem]);have F1:=C1;simp only[Cls,and_true] at F1;have y1w0:w.heap.size < w1.heap.size:=C1.blk (b:=w.heap.size) (k:=0) (v:=.int .i64 t.facts) (by simp);have hFr1:Fresh (w.heap.size+1) w1 Af cf t.goal:=by simpa using hFr
 clear hFr
 go_wp2_with fail
 go_loopg [2,3,4] (2 * t.ops.length+1) (fun gk vF vR vA wr=>(∃ (A:Option Addr) (c:Nat) (F R:List Int) (b:Bool),vF=.slice A F.length c/\vA=.bool b/\Fresh (w.heap.size+1) wr A c F/\OwnI (w.heap.size+1) wr vR R/\Hid (∀ ad,A=some ad->vR.ownBlock≠some ad.block)/\Hid (RI t F R)/\Hid (b=false->vKk t F R t.ops.length)/\Hid (gk=2 * (t.ops.length - R.length)+(if b then 1 else 0)))/\Below w.heap.size w wr/\Cls wr [(w.heap.size,0,.int .i64 t.facts),(w.heap.size,1,.slice Ai t.init.length ci),(w.heap.size,2,.slice Ag t.goal.length cg),(w.heap.size,3,.slice Ao t.ops.length co)])
 case atStart=>exact⟨⟨Af,cf,t.goal,[],true,rfl,rfl,hFr1,OwnI.nil _ _,(fun ad _ h=>by cases h),RI.start HV.out,(fun h=>by cases h),rfl⟩,bch,(by simp[Cls,go_sem,F1,y1w0])⟩
 case round=>
  clear hFr1;obtain⟨⟨A,c,F,R,b,rfl,rfl,hF,hO,hne,hRI,hcl,hgk⟩,hBr,hCr⟩:=hrel;obtain⟨wk,rfl⟩:∃ wo:World,wo=wr:=⟨_,rfl⟩;have Fr:=hCr;simp only[Cls,and_true] at Fr;have yrw0:w.heap.size < wk.heap.size:=hCr.blk (b:=w.heap.size) (k:=0) (v:=.int .i64 t.facts) (by simp);have hfew:=hRI.out.few;have hFl:F.length<=24:=by have:=hRI.out.set.length HV.out.f0;have:=HV.out.f1;omega
  cases b with
  | false=>
   have hfin:=hRI.out.fin (hcl.out rfl);have HFIN:=lHd hfin;clear hfin;obtain⟨A2,c2,rfl,-,-⟩:=hO.form;have hFi:=hF.ints;have hRl:R.length<=1000000000000:=by omega
   go_wp2_with fail
   go_at_call 77;refine (vJ0 zXh (base:=(w.heap.size+1)) (hO.below bch) hRl).mono ?_;rintro e w2 ⟨rfl,hO2,hg2⟩;obtain⟨A3,c3,hv3,-,hI3⟩:=hO2.form;injection hv3 with e1 e2 e3
   subst e1;subst e3;have hI2:Ints w2 A F:=Ints.grown2 (hFi.below bch) hg2 (fun hr ad e e2=>hne.out ad e (by exact e2.symm));go_wp2;have hBw:Below w.heap.size w wk:=bch;refine bodyPost_ret (v:=.tuple #[.slice A F.length c,.slice A2 R.length c2]) ?_ rfl ⟨hBw.grown hg2 (by have:=hBr.size;simp;omega) (fun k hk=>by have:=(hO.lt k hk).1;omega),A,A2,c,c2,F,_,?_,hI2,by rw[HFIN.out.2];exact hI3,HFIN.out.1⟩
   ·simp[results,Tryz.results24,go_sem,Fr,yrw0,xZv]
   ·rw[show ((xZ6 R).map Int.toNat).length=R.length by rw[List.length_map,xZv]]
  | true=>
   obtain⟨m0,hm0⟩:∃ m0,Hid (R.length=m0):=⟨_,lHd rfl⟩;clear hcl
   go_wp2_with fail
   go_loopw [2,3,4,14] (fun vF vR vA i wr=>∃ k:Nat,k<=t.ops.length/\i=.int .i64 (k:Int)/\(∃ (A:Option Addr) (c:Nat) (F R:List Int) (b:Bool),vF=.slice A F.length c/\vA=.bool b/\Fresh (w.heap.size+1) wr A c F/\OwnI (w.heap.size+1) wr vR R/\Hid (∀ ad,A=some ad->vR.ownBlock≠some ad.block)/\Hid (RI t F R)/\Hid (m0+(if b then 1 else 0)<=R.length)/\Hid (b=false->vKk t F R k))/\Below w.heap.size w wr/\Cls wr [(w.heap.size,0,.int .i64 t.facts),(w.heap.size,1,.slice Ai t.init.length ci),(w.heap.size,2,.slice Ag t.goal.length cg),(w.heap.size,3,.slice Ao t.ops.length co)]) (fun _ _ _ i _=>t.ops.length - (intOf i).toNat)
   case atStart=>exact⟨0,Nat.zero_le _,rfl,⟨A,c,F,R,false,rfl,rfl,hF.below bch,hO.below bch,hne,hRI,(by show _<=_;have:=hm0.out;simp;omega),(fun _ j o hj=>absurd hj (by omega))⟩,bch,(by simp[Cls,go_sem,Fr,yrw0])⟩
   case round=>
    clear hF hO hne hRI hfew hFl;obtain⟨k,hk,rfl,⟨A,c,F,R,b,rfl,rfl,hF,hO,hne,hRI,hm1,hcl⟩,hBs,hCs⟩:=hrel;obtain⟨wj,rfl⟩:∃ wo:World,wo=wr:=⟨_,rfl⟩;have Fs:=hCs;simp only[Cls,and_true] at Fs;have ysw0:w.heap.size < wj.heap.size:=hCs.blk (b:=w.heap.size) (k:=0) (v:=.int .i64 t.facts) (by simp);have hfew:=hRI.out.few;have hFl:F.length<=24:=by have:=hRI.out.set.length HV.out.f0;have:=HV.out.f1;omega
    have hFi:=lHd hF.ints
    by_cases hlt:k < t.ops.length
    ·obtain⟨ad,o,A0,c0,A1,c1,A2,c2,rfl,ho,hc0,hc1,hc2,hc3,hm,hnil⟩:=HR.out.atP (w':=wj) bch hlt;have hms:=lHd (HV.out.ops o (lMg ho.out)).1;obtain⟨A3,c3,rfl,-,hIR⟩:=hO.form;have hHIR:=lHd hIR;clear hIR
     by_cases hkR:(k:Int)∈R
     ·have HK:=lHd (show decide ((k:Int)∈R)=true from decide_eq_true hkR);have HC2:Hid (b=false->vKk t F R (k+1)):=fun hb j o2 hj ho2 hn=>by
       by_cases e:j < k
       ·exact hcl.out hb j o2 e ho2 hn
       ·obtain rfl:j=k:=by omega
        exact absurd hkR hn
      clear hkR
      go_wp2_with fail
      refine (xVs _ _ _ _ _ true (hHIR.out.below bch) (by omega) HK.out).mono ?_;rintro e w' ⟨rfl,rfl⟩;go_wp2
      go_roundw
      case rel=>exact⟨k+1,by omega,by go_num,⟨A,c,F,R,b,rfl,rfl,hF.below bch,hO.below bch,hne,hRI,hm1,HC2⟩,bch,(by simp[Cls,go_sem,Fs,ysw0])⟩
      case measure=>simp[intOf];omega
     ·have HK:=lHd (show decide ((k:Int)∈R)=false from decide_eq_false hkR);have HNR:=lHd hkR;clear hkR
      by_cases hmt:∃ x∈o.add,x∈F
      ·have HM:=lHd (show decide (∃ x∈o.add,x∈F)=true from decide_eq_true hmt);clear hmt
       go_wp2_with fail
       refine (xVs _ _ _ _ _ false (hHIR.out.below bch) (by omega) HK.out).mono ?_;rintro e w' ⟨rfl,rfl⟩
       go_wp2_with fail
       refine (xJt _ _ _ _ _ _ _ (hm.add.below bch) (hFi.out.below bch) hm.ladd.le (by omega) hRI.out.set.pairwise).mono ?_;rintro e w2 ⟨he,hB2⟩;rw[HM.out] at he;subst he;have D2:=xJ3 w hB2 bch;have d2s:=D2.size;have Ewj_2:=xJ3 wj hB2 bch;have C2:=Cls.below (l:=[(w.heap.size,0,.int .i64 t.facts),(w.heap.size,1,.slice Ai t.init.length ci),(w.heap.size,2,.slice Ag t.goal.length cg),(w.heap.size,3,.slice (some ad) t.ops.length co),(wj.heap.size,0,.slice A0 o.pre.length c0),(wj.heap.size,1,.slice A1 o.add.length c1),(wj.heap.size,2,.slice A2 o.del.length c2),(wj.heap.size,3,.int .i64 o.cost)]) hB2 (by simp[Cls,go_sem,Fs,ysw0]);have F2:=C2;simp only[Cls,and_true] at F2;have y2w0:w.heap.size < w2.heap.size:=C2.blk (b:=w.heap.size) (k:=0) (v:=.int .i64 t.facts) (by simp);have y2wj0:wj.heap.size < w2.heap.size:=C2.blk (b:=wj.heap.size) (k:=0) (v:=.slice A0 o.pre.length c0) (by simp);have y2wjp1:wj.heap.size < w2.heap.size+1:=(by omega);have hO2:OwnI (w.heap.size+1) (w2.alloc (.cells #[.int .i64 (k:Int)] 3)) (.slice A3 R.length c3) R:=(hO.below Ewj_2).below bch;have hF2:Ints (w2.alloc (.cells #[.int .i64 (k:Int)] 3)) A F:=(hFi.out.below Ewj_2).below bch;have hbx:w2.cell? ⟨wj.heap.size,0,none⟩=some (.slice A0 o.pre.length c0):=by simp[go_sem,F2,y2w0,y2wj0,y2wjp1]
       have hCA:Cls (w2.alloc (.cells #[.int .i64 (k:Int)] 3)) [(w.heap.size,0,.int .i64 t.facts),(w.heap.size,1,.slice Ai t.init.length ci),(w.heap.size,2,.slice Ag t.goal.length cg),(w.heap.size,3,.slice (some ad) t.ops.length co)]:=by simp[Cls,go_sem,F2,y2w0,y2wj0,y2wjp1]
       have hon:=hO.lt;have HO2:=lHd hO2;have HF2:=lHd hF2;have HON:=lHd hon;have HBX:=lHd hbx;have HCA:=lHd hCA;clear hO2 hF2 hon hbx hCA
       go_wp2_with (at_builtin;go_must (refine xQc rfl (.tmp 29) (.tmp 31) 22 3 (.int .i64 0) 8 Tryz.underlying22 xXo rfl (by decide) rfl (w.heap.size+1) (.slice A3 R.length c3) R.length (R.map (Value.int .i64)) (.int .i64 (k:Int)) rfl rfl HO2.out _ 1 rfl ?p1 (by omega) ?p3 ?_;(case p1=>simp[go_sem]);(case p3=>(simp;omega));intro g3 c4 w3 hO3 hg3 hat3;have hbx3:w3.cell? ⟨wj.heap.size,0,none⟩=some (.slice A0 o.pre.length c0):=(hg3.cell_far ⟨wj.heap.size,0,none⟩ (by simp;omega) (fun e=>by have:=(HON.out _ e.symm).2;simp at this)).trans (by rw[World.cell?_alloc_lt _ _ _ (World.block_lt_of_cell? _ _ HBX.out)];exact HBX.out);have C3:Cls w3 [(w.heap.size,0,.int .i64 t.facts),(w.heap.size,1,.slice Ai t.init.length ci),(w.heap.size,2,.slice Ag t.goal.length cg),(w.heap.size,3,.slice (some ad) t.ops.length co)]:=Cls.grown (base:=(w.heap.size+1)) HCA.out HO2.out hg3 (fun x hx=>by simp at hx;rcases hx with rfl | rfl | rfl | rfl <;> (dsimp only;omega));have D3:Below w.heap.size w w3:=(show Below w.heap.size w (w2.alloc (.cells #[.int .i64 (k:Int)] 3)) from bch).grown hg3 (by have:=D2.size;simp;omega) (fun z hz=>by have:=(HON.out z hz).1;omega);have HF3:Hid (Ints w3 A F):=HF2.out.grown2 hg3 (fun hr ad e e2=>hne.out ad e e2.symm)))
       have hs3:=hg3.size;simp only[World.size_alloc] at hs3;have HO5:Hid (OwnI (w.heap.size+1) w3 (.slice (some ⟨g3,0,none⟩) (R.length+1) c4) (R ++ [(k:Int)])):=by
        show OwnI _ _ _ _;unfold OwnI;rw[List.length_append,List.map_append];exact hO3
       have hg3l:=(HO5.out.lt g3 rfl).2;have hpl:o.pre.length<=100000000000:=by have:=hms.out.1.length HV.out.f0;have:=HV.out.f1;omega
       have HRI2:=lHd (hRI.out.add HV.out ho.out HNR.out);clear hO3 hg3 hat3;refine (zYp _ A A0 c c0 F o.pre HF3.out (hm.pre.below bch) (by omega) hpl hnil.out).mono ?_;rintro e w4 ⟨v4,rfl,hO4,hB4⟩;obtain⟨A4,c5,hv4,-,-⟩:=hO4.form;subst hv4;have D4:=xJ3 w hB4 bch;have C4:=Cls.below hB4 C3;have HFR:=lHd (zVg hO4 (B:=(w.heap.size+1)) (by omega));have HO6:=lHd (HO5.out.below hB4);have HNE:Hid (∀ ad,A4=some ad->(Value.slice (some ⟨g3,0,none⟩) (R.length+1) c4).ownBlock≠some ad.block):=fun ad e e2=>by
        have h1:=(hO4.blk_ ad e).1;have e2:g3=ad.block:=by injection e2
        omega
       have hm2:Hid (m0+(if true then 1 else 0)<=(R ++ [(k:Int)]).length):=by show _<=_;rw[List.length_append];have:=hm1.out;cases b <;> simp_all <;> omega
       clear hO4;go_wp2
       go_roundw
       case rel=>exact⟨k+1,by omega,by go_num,⟨A4,c5,zWk F o.pre [],R ++ [(k:Int)],true,rfl,rfl,HFR.out,HO6.out,HNE,HRI2,hm2,(fun h=>by cases h)⟩,bch,C4⟩
       case measure=>simp[intOf];omega
      ·have HM:=lHd (show decide (∃ x∈o.add,x∈F)=false from decide_eq_false hmt);have HC2:Hid (b=false->vKk t F R (k+1)):=fun hb j o2 hj ho2 hn=>by
        by_cases e:j < k
        ·exact hcl.out hb j o2 e ho2 hn
        ·obtain rfl:j=k:=by omega
         rw[ho.out] at ho2;obtain rfl:=Option.some.inj ho2;exact fun y hy hyF=>hmt ⟨y,hy,hyF⟩
       clear hmt
       go_wp2_with fail
       refine (xVs _ _ _ _ _ false (hHIR.out.below bch) (by omega) HK.out).mono ?_;rintro e w' ⟨rfl,rfl⟩
       go_wp2_with fail
       refine (xJt _ _ _ _ _ _ _ (hm.add.below bch) (hFi.out.below bch) hm.ladd.le (by omega) hRI.out.set.pairwise).mono ?_;rintro e w2 ⟨he,hB2⟩;rw[HM.out] at he;subst he;have D2:=xJ3 w hB2 bch;have d2s:=D2.size;have Ewj_2:=xJ3 wj hB2 bch;have C2:=Cls.below (l:=[(w.heap.size,0,.int .i64 t.facts),(w.heap.size,1,.slice Ai t.init.length ci),(w.heap.size,2,.slice Ag t.goal.length cg),(w.heap.size,3,.slice (some ad) t.ops.length co),(wj.heap.size,0,.slice A0 o.pre.length c0),(wj.heap.size,1,.slice A1 o.add.length c1),(wj.heap.size,2,.slice A2 o.del.length c2),(wj.heap.size,3,.int .i64 o.cost)]) hB2 (by simp[Cls,go_sem,Fs,ysw0]);have F2:=C2;simp only[Cls,and_true] at F2;have y2w0:w.heap.size < w2.heap.size:=C2.blk (b:=w.heap.size) (k:=0) (v:=.int .i64 t.facts) (by simp);have y2wj0:wj.heap.size < w2.heap.size:=C2.blk (b:=wj.heap.size) (k:=0) (v:=.slice A0 o.pre.length c0) (by simp);have y2wjp1:wj.heap.size < w2.heap.size+1:=(by omega);go_wp2
       go_roundw
       case rel=>exact⟨k+1,by omega,by go_num,⟨A,c,F,R,b,rfl,rfl,hF.below bch,hO.below bch,hne,hRI,hm1,HC2⟩,bch,(by simp[Cls,go_sem,F2,y2w0,y2wj0,y2wjp1])⟩
       case measure=>simp[intOf];omega
    ·obtain rfl:k=t.ops.length:=by omega
     go_wp2
     go_roundg (2 * (t.ops.length - R.length)+(if b then 1 else 0))
     case measure=>have:=hgk.out;have:=hm1.out;have:=hm0.out;cases b <;> simp_all <;> omega
     case rel=>exact⟨⟨A,c,F,R,b,rfl,rfl,hF,hO,hne,hRI,hcl,rfl⟩,bch,(by simp[Cls,go_sem,Fs,ysw0])⟩
end
end Go.Proofs.YtpeipeljmapkmaaGreat
