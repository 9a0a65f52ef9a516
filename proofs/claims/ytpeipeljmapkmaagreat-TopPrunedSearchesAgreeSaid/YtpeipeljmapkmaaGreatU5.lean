/-
  Lemmas for the law: Cp2, Lc5, Lc6.
-/
import Derived.Test.YtpeipeljmapkmaaGreatU1
import Derived.Test.YtpeipeljmapkmaaGreatU4
import Derived.Deep.AppendLies
import Derived.Test.YtpeipeljmapkmaaGreatU19
set_option linter.unusedVariables false
set_option linter.unusedSimpArgs false
set_option maxRecDepth 100000
set_option maxHeartbeats 4000000
namespace Go.Proofs.YtpeipeljmapkmaaGreat
open Go.RowKit
def POp(B:Nat)(w:World)(row:Option Nat)(cs:List Value)(o:OpV):Prop:=
 ∃ A0 c0 A1 c1 A2 c2,cs=[.slice A0 o.pre.length c0,.slice A1 o.add.length c1,.slice A2 o.del.length c2,.int .i64 o.cost]/\PList B w row [.slice A0 o.pre.length c0] o.pre/\PList B w row [.slice A1 o.add.length c1] o.add/\PList B w row [.slice A2 o.del.length c2] o.del
theorem xWe(B:Nat):Stable (POp B):=by
 constructor
 ·rintro w w' row cs o ⟨A0,c0,A1,c1,A2,c2,e,h0,h1,h2⟩ hb;exact⟨A0,c0,A1,c1,A2,c2,e,(xJ7 B).below h0 hb,(xJ7 B).below h1 hb,(xJ7 B).below h2 hb⟩
 ·rintro w w' row cs o ⟨A0,c0,A1,c1,A2,c2,e,h0,h1,h2⟩ hg;exact⟨⟨A0,c0,A1,c1,A2,c2,e,((xJ7 B).grown h0 hg).1,((xJ7 B).grown h1 hg).1,((xJ7 B).grown h2 hg).1⟩,⟨A0,c0,A1,c1,A2,c2,e,((xJ7 B).grown h0 hg).2,((xJ7 B).grown h1 hg).2,((xJ7 B).grown h2 hg).2⟩⟩
def OwnOps(base:Nat)(w:World)(v:Value)(ops:List OpV):Prop:=OwnEs (POp base) 68 4 base w v ops
theorem OwnOps.far{base:Nat}{w:World}{v:Value}{ops:List OpV}(h:OwnOps base w v ops){p:Addr}(hp:p.block < base)(u:Value):OwnOps base (w.setCell p u) v ops:=
 OwnEs.far h (fun h hp=>by obtain⟨A0,c0,A1,c1,A2,c2,e,h0,h1,h2⟩:=h;exact⟨A0,c0,A1,c1,A2,c2,e,xQa h0 hp,xQa h1 hp,xQa h2 hp⟩) hp u
theorem OwnOps.below{base:Nat}{w w':World}{v:Value}{ops:List OpV}(h:OwnOps base w v ops)(hb:Below w.heap.size w w'):OwnOps base w' v ops:=OwnEs.below (xWe _) h hb
theorem vVx:(Tryz.prog.info? 68).map (fun i=>(i.zero,i.size,i.bytes))=some (some (.agg #[.slice none 0 0,.slice none 0 0,.slice none 0 0,.int .i64 0]),4,80):=by kernel_rfl
theorem OwnOps.at_{base n c:Nat}{w:World}{A:Option Addr}{ops:List OpV}(h:OwnOps base w (.slice A n c) ops)(hl:∀ o∈ops,lenOk o.pre.length/\lenOk o.add.length/\lenOk o.del.length):OpsAt w A ops:=fun k o hk=>by
 have hlt:=(List.getElem?_eq_some_iff.1 hk).1;obtain⟨g,cs,a,rfl,_,_,ha,hcl,hc,A0,c0,A1,c1,A2,c2,e,h0,h1,h2⟩:=OwnEs.at_ h (i:=k) hlt;have:o=a:=by have:=ha.out;rw[hk] at this;injection this
 subst this;subst e;have hadd:(⟨g,0,none⟩:Addr).add (k * 4)=⟨g,k * 4,none⟩:=by
  unfold Addr.add
  split
  ·rename_i hj;rw[hj]
  ·simp
 have hf:∀ {A:Option Addr} {c:Nat} {xs:List Int},PList base w (some g) [.slice A xs.length c] xs->Ints w A xs:=fun h=>by
  obtain⟨A',c',e,hI,_⟩:=h;injection e with e
  injection e with e1 e2 e3
  rw[e1];exact hI
 have hlo:=hl o (lMg hk);refine⟨⟨g,0,none⟩,A0,c0,A1,c1,A2,c2,rfl,?_,?_,?_,?_,⟨hf h0,hf h1,hf h2,hlo.1,hlo.2.1,hlo.2.2⟩⟩
 ·rw[hadd];exact hc 0 _ rfl
 ·rw[hadd];exact hc 1 _ rfl
 ·rw[hadd];exact hc 2 _ rfl
 ·rw[hadd];exact hc 3 _ rfl
section
variable {α:Type}{P:World->Option Nat->List Value->α->Prop}{e:TypeId}{size base:Nat}{w:World}{v:Value}{els:List α}
theorem vVy(hP:Stable P)(T:TypeId)(bytes:Nat)(z:Value)(hT:Tryz.prog.underlying T=some (.slice e))(hinf:(Tryz.prog.info? e).map (fun i=>(i.zero,i.size,i.bytes))=some (some z,size,bytes))(hzs:z.cells.size=size)(hsz:0 < size)(hby:bytes<=128)
  {ops:Array Oper} {o:Oper} {a:Act} {K:Act->World->Prop} {Q:Exit->Act->World->Prop} {E:Prop} (hgd:o.guard=none) (s x:Operand)
  (ho:o.op=.call { callee:=.builtin .append,args:=#[s,x],argTypes:=#[T,T] })
  (w0:World) (l:List (Nat×Nat×Value)) (hs:a.eval s=v) (hown:OwnEs P e size base w v els) (ad:Addr) (m:Nat) (hx:a.eval x=.slice (some ad) 1 m) (news:List Value) (y:α) (hnl:news.length=size) (hnews:∀ j u,news[j]? = some u->w.cell? (ad.add j)=some u) (h1:∀ u∈news,u.oneCell'=true) (hy:P w v.ownBlock news y)
  (hlen:els.length < 1000000000000) (hbase:base<=w.heap.size) (h0:w0.heap.size<=base) (hB:Below w0.heap.size w0 w) (hC:Cls w l) (hl:∀ x∈l,x.1 < base)
  (h:∀ g cap w',OwnEs P e size base w' (.slice (some ⟨g,0,none⟩) (els.length+1) cap) (els ++ [y])->Below w0.heap.size w0 w'->Cls w' l->w.heap.size<=w'.heap.size->w.grownBy w' v.ownBlock->K (a.put o.dst (.slice (some ⟨g,0,none⟩) (els.length+1) cap)) w') :
  if Region.wanted o (yielded ops a.tmps)=true then Oper.wp Tryz.prog o a w K Q else E:=by
 obtain⟨i0,hi0,hz⟩:=Option.map_eq_some_iff.1 hinf;simp only[Prod.mk.injEq] at hz;obtain⟨cells,hr,hcs⟩:=hown;have hcl:=hr.1;refine step_append_lies w hgd s x T ho base e i0 z size bytes hT hi0 hz.1 hz.2.1 hz.2.2 hzs hsz v els.length cells hs hr ad 1 m news hx (by omega) hnews h1 (by decide) ?_ ?_ hbase _ rfl ?_
 ·simp only[maxLen];omega
 ·have:=Nat.mul_le_mul_left (els.length+1) hby;omega
 ·intro g cap w' h2 h3 h4 h5;refine h g cap w' ⟨cells ++ news,by rw[List.length_append];exact h2,fun i a ha=>?_⟩ ?_ ?_ h3.size h3
  ·have key:∀ {cs:List Value} {a:α},P w v.ownBlock cs a->P w' (some g) cs a:=fun hp=>by
    rcases h4 with h4 | h4
    ·rw[<- h4];exact (hP.grown hp h3).1
    ·rw[h4];exact (hP.grown hp h3).2
   rcases Nat.lt_or_ge i els.length with hi | hi
   ·rw[List.getElem?_append_left hi] at ha;have hle:i * size+size<=els.length * size:=by
     have:=Nat.mul_le_mul_right size (show i+1<=els.length from hi);rw[Nat.succ_mul] at this;exact this
    have e1:((cells ++ news).drop (i * size)).take size=(cells.drop (i * size)).take size:=by
     rw[List.drop_append_of_le_length (by omega),List.take_append_of_le_length (by rw[List.length_drop];omega)]
    rw[e1];exact key (hcs i a ha)
   ·have hie:i=els.length:=by
     have:=(List.getElem?_eq_some_iff.1 ha).1;rw[List.length_append] at this;simp at this;omega
    subst hie;rw[List.getElem?_append_right (Nat.le_refl _)] at ha;simp at ha;subst ha;have e1:((cells ++ news).drop (els.length * size)).take size=news:=by
     rw[<- hcl,List.drop_left,List.take_of_length_le (by omega)]
    rw[e1];exact key hy
  ·exact hB.grown h3 (Nat.le_trans h0 hbase) (fun k hk=>Nat.le_trans h0 (hr.lt k hk).1)
  ·exact hC.grown hr h3 hl
end
theorem Fresh.blk{B:Nat}{w:World}{A:Option Addr}{c:Nat}{xs:List Int}(h:Fresh B w A c xs):∀ ad,A=some ad->B<=ad.block/\ad.block < w.heap.size:=by
 obtain⟨A',c',e,hI,hn,h1,h2,h3⟩:=h;injection e with e
 injection e with e1 e2 e3
 subst e1;exact fun ad he=>⟨(h3 ad he).2.2,(h3 ad he).2.1⟩
def PCut(B:Nat)(w:World)(row:Option Nat)(cs:List Value)(x:List Int×Int):Prop:=∃ v,cs=[v,.int .i64 x.2]/\PList B w row [v] x.1
theorem xQx(B:Nat):Stable (PCut B):=by
 constructor
 ·rintro w w' row cs x ⟨v,e,h⟩ hb;exact⟨v,e,(xJ7 B).below h hb⟩
 ·rintro w w' row cs x ⟨v,e,h⟩ hg;exact⟨⟨v,e,((xJ7 B).grown h hg).1⟩,⟨v,e,((xJ7 B).grown h hg).2⟩⟩
def OwnCs(base:Nat)(w:World)(v:Value)(xs:List (List Int×Int)):Prop:=OwnEs (PCut base) 257 2 base w v xs
theorem OwnCs.far{base:Nat}{w:World}{v:Value}{xs:List (List Int×Int)}(h:OwnCs base w v xs){p:Addr}(hp:p.block < base)(u:Value):OwnCs base (w.setCell p u) v xs:=
 OwnEs.far h (fun h hp=>by obtain⟨v,e,h⟩:=h;exact⟨v,e,xQa h hp⟩) hp u
theorem OwnCs.below{base:Nat}{w w':World}{v:Value}{xs:List (List Int×Int)}(h:OwnCs base w v xs)(hb:Below w.heap.size w w'):OwnCs base w' v xs:=OwnEs.below (xQx _) h hb
theorem OwnCs.drew{base:Nat}{w:World}{v:Value}{xs:List (List Int×Int)}(h:OwnCs base w v xs):OwnCs base w.drew v xs:=h.below (xKh (Below.refl _ _))
theorem vZn:(Tryz.prog.info? 257).map (fun i=>(i.zero,i.size,i.bytes))=some (some (.agg #[.slice none 0 0,.int .i64 0]),2,32):=by kernel_rfl
theorem OwnI.grown{base:Nat}{w w':World}{v:Value}{xs:List Int}{row:Option Nat}(h:OwnI base w v xs)(hg:w.grownBy w' row)(hne:∀ k,row=some k->v.ownBlock≠some k):OwnI base w' v xs:=by
 obtain⟨h1,h2⟩:=h;refine⟨h1,?_⟩;rcases h2 with h2 | ⟨g,cap,cur,hv,hb,hh,r⟩
 ·exact Or.inl h2
 ·refine Or.inr ⟨g,cap,cur,hv,hb,(hg.block g ?_ (fun e=>hne g e.symm (by rw[hv];rfl))).trans hh,r⟩;rcases Nat.lt_or_ge g w.heap.size with hl | hl
  ·exact hl
  ·rw[Array.getElem?_eq_none hl] at hh;cases hh
theorem IArr.own{w:World}{g base n:Nat}{xs:List Int}(h:IArr w g xs)(hn:xs.length=n)(hb:base<=g)(hm:n<=1000000000000):OwnI base w (.slice (some ⟨g,0,none⟩) n n) xs:=by
 subst hn;refine⟨by simp,.inr ⟨g,xs.length,(xs.map (Value.int .i64)).toArray,rfl,hb,h,Nat.le_refl _,by simp only[maxLen];omega,by simp,?_⟩⟩;rw[Nat.mul_one];exact List.take_of_length_le (by simp)
theorem zXf{ops:Array Oper}{o:Oper}{a:Act}{w:World}{K:Act->World->Prop}{Q:Exit->Act->World->Prop}{E:Prop}(hgd:o.guard=none)(s x:Operand)
  (ho:o.op=.call { callee:=.builtin .append,args:=#[s,x],argTypes:=#[22,22] })
  (w0:World) (l:List (Nat×Nat×Value)) (base:Nat) (v:Value) (xs:List Int) (y:Int) (hs:a.eval s=v) (hown:OwnI base w v xs) (ad:Addr) (m:Nat) (hx:a.eval x=.slice (some ad) 1 m) (hc:w.cell? ad=some (.int .i64 y))
  (hlen:xs.length < 1000000000000) (hbase:base<=w.heap.size) (h0:w0.heap.size<=base) (hB:Below w0.heap.size w0 w) (hC:Cls w l) (hl:∀ x∈l,x.1 < base)
  (h:∀ v' w',OwnI base w' v' (xs ++ [y])->Below w0.heap.size w0 w'->Cls w' l->w.heap.size<=w'.heap.size->K (a.put o.dst v') w') :
  if Region.wanted o (yielded ops a.tmps)=true then Oper.wp Tryz.prog o a w K Q else E:=by
 obtain⟨i0,hi0,hz⟩:=Option.map_eq_some_iff.1 xXo;simp only[Prod.mk.injEq] at hz;refine step_append_lies w hgd s x 22 ho base 3 i0 (.int .i64 0) 1 8 Tryz.underlying22 hi0 hz.1 hz.2.1 hz.2.2 rfl (by decide) v xs.length (xs.map (Value.int .i64)) hs hown ad 1 m [.int .i64 y] hx rfl ?_ ?_ (by decide) ?_ ?_ hbase _ rfl ?_
 ·intro j u hu
  cases j with
  | zero=>simp at hu;subst hu;rw[add_zero];exact hc
  | succ j=>simp at hu
 ·intro u hu;simp at hu;subst hu;rfl
 ·simp only[maxLen];omega
 ·omega
 ·intro g cap w' h1 h2 h3 h4;have h5:OwnI base w' (.slice (some ⟨g,0,none⟩) (xs.length+1) cap) (xs ++ [y]):=by
   unfold OwnI;rw[List.length_append,List.map_append];exact h1
  exact h _ _ h5 (xVi hB (OwnI.mono hown h0) h2 (Nat.le_trans h0 hbase)) (hC.grown hown h2 hl) h2.size
theorem zV4(w:World)(o:Obj):w.heap.size < (w.alloc o).heap.size:=by simp
theorem zJ2{s:Bool}{V:List Int}{n:Nat}(hl:V.length=n){xs:List Int}(hx:∀ x∈xs,0<=x/\x < (n:Int)):xJp s (V ++ [0]) xs=xJp s V xs:=by
 unfold xJp
 suffices h:∀ (ys:List Int) (o:Int),(∀ x∈ys,0<=x/\x < (n:Int))->ys.foldl (fun o p=>xXg s o (xJ2 (V ++ [0]) p)) o=ys.foldl (fun o p=>xXg s o (xJ2 V p)) o from h xs 0 hx
 intro ys
 induction ys with
 | nil=>intro o _;rfl
 | cons y ys ih=>
  intro o h;have hy:=h y (List.mem_cons_self ..);rw[List.foldl_cons,List.foldl_cons,xYy hl hy.1 hy.2];exact ih _ (fun x hx=>h x (List.mem_cons_of_mem _ hx))
theorem zJ3{V:List Int}(h:xZr V):xZr (V ++ [0]):=fun v hv=>by
 rcases List.mem_append.1 hv with e | e
 ·exact h v e
 ·simp at e;subst e;exact InV.zero
def zJ4(t:TaskV)(st:List Int):Prop:=∀ q∈t.goal,Reach st t.ops (fun _=>true) q
theorem xY8{n:Nat}{st goal:List Int}{ops:List OpV}{cs V:List Int}(hV:Best false n st ops cs V)(hlc:cs.length=ops.length)(hc:∀ c∈cs,0<=c/\c<=100)(hst:∀ p∈st,0<=p/\p < (n:Int))
  (hops:∀ o∈ops,(∀ p∈o.pre,0<=p/\p < (n:Int))/\∀ p∈o.add,0<=p/\p < (n:Int)) (hg:∀ p∈goal,0<=p/\p < (n:Int)):xJp false V goal=1000000000↔¬ ∀ q∈goal,Reach st ops (fun _=>true) q:=by
 rw[xKs hV.fix.shape.all];have key:=fun q (h:q∈goal)=>zX8 hV hlc (fun c h=>by have:=hc c h;unfold InV;omega) (fun c h=>by have:=hc c h;omega) (fun p h=>(hst p h).1) hops (hg q h).1 (hg q h).2
 constructor
 ·rintro ⟨x,hx,h⟩ hall;exact (key x hx).1 h (hall x hx)
 ·intro h;exact Classical.byContradiction fun hn=>h fun q hq=>Classical.byContradiction fun hr=>hn ⟨q,hq,(key q hq).2 hr⟩
theorem zJ5(A B:Option Addr)(c d m:Nat)(vs xs:List Int)(w:World)(v:Int)(h1:Ints w A vs)(h2:Ints w B xs)(hm:vs.length=m)(h3:lenOk xs.length)(h4:m<=1000000000000)(h5:∀ x∈xs,0<=x/\x < (m:Int))(h6:xZr vs)(hv:xJp false vs xs=v) :
  Calls Tryz.prog 154 #[.slice A m c,.slice B xs.length d] w fun e w'=>e=.returned (.int .i64 v)/\w=w':=by
 subst hm;subst hv;exact xY2 A B c d vs xs w h1 h2 h3.le (by omega) h5 h6
theorem OwnI.away{base:Nat}{w:World}{v:Value}{xs:List Int}(h:OwnI base w v xs){p:Addr}(hp:v.ownBlock≠some p.block)(u:Value):OwnI base (w.setCell p u) v xs:=by
 obtain⟨h1,h2⟩:=h;refine⟨h1,?_⟩;rcases h2 with h2 | ⟨g,cap,cur,hv,hg,hh,r⟩
 ·exact Or.inl h2
 ·exact Or.inr ⟨g,cap,cur,hv,hg,(Below.heap_setCell w p u g (fun e=>hp (by rw[hv,e];rfl))).trans hh,r⟩
theorem vKa(w:World)(b:Nat)(n:Nat)(t:TaskV)(Ai Ag Ao S C Q:Option Addr)(ci cg co cs cc cq:Nat)(st left W:List Int)(hX:SBox w b n t Ai Ag Ao S C Q ci cg co cs cc cq st left W)(h40:t.ops.length<=100000000)(V:List Int)(hW:W=V ++ [0])(Cl:List Int)(cm:Int)(h1:xZ5 n st t.goal t.ops left V=Cl)(h2:xZp left Cl=cm) :
  Calls Tryz.prog 176 #[.pointer (some ⟨b,0,none⟩)] w fun e w'=>∃ v,e=.returned (.agg #[v,.int .i64 cm])/\OwnI w.heap.size w' v Cl/\Below w.heap.size w w':=by
 subst hW;subst h1;subst h2;exact vVb w b n t Ai Ag Ao S C Q ci cg co cs cc cq st left (V ++ [0]) hX h40
theorem zWf{C:Option Addr}{n c k B:Nat}(h:∀ ad,C=some ad->ad.block < B)(hk:B<=k):(Value.slice C n c).ownBlock≠some k:=fun e=>by
 cases C with
 | none=>cases e
 | some ad=>injection e with e;have:=h ad rfl;omega
theorem vZo(w:World)(t:TaskV)(Ai Ag Ao:Option Addr)(ci cg co:Nat)(hT:TaskMem w Ai Ag Ao t)(S:Option Addr)(cs:Nat)(st:List Int)(hS:Ints w S st)(hls:lenOk st.length)(n:Nat)(hn:t.facts=n)(hv:Valid t)(h2:SetP st t.facts)(hre:zJ4 t st) :
  Calls Tryz.prog 161 #[.agg #[.int .i64 t.facts,.slice Ai t.init.length ci,.slice Ag t.goal.length cg,.slice Ao t.ops.length co],.slice S st.length cs] w fun e w'=>∃ (v:Value) (xs:List (List Int×Int)) (bs:Nat),e=.returned (.tuple #[v,.int .i64 (xJr xs)])/\w.heap.size<=bs/\OwnCs bs w' v xs/\CutsOk n st t.goal t.ops (t.ops.map (·.cost)) xs/\Best false n st t.ops (xJo (t.ops.map (·.cost)) xs) (xJg false n st t.ops (xJo (t.ops.map (·.cost)) xs))/\xJp false (xJg false n st t.ops (xJo (t.ops.map (·.cost)) xs)) t.goal=0/\Below w.heap.size w w':=by
 have hls':=hls.le;have hn24:n<=1000000000000:=by have:=hv.f1;omega
 have hn6:n<=1000000:=by have:=hv.f1;omega
 have hm40:=hv.nops;have HST:=lHd (fun p hp=>by have:=h2.1 p hp;rw[hn] at this;exact this:∀ p∈st,0<=p/\p < (n:Int));have HOPS:=lHd (vJn hv hn);have HGO:=lHd (vJo hv hn);have HC0:=lHd (show ∀ c∈t.ops.map (·.cost),0<=c/\c<=100 from fun c hc=>by obtain⟨o,ho,rfl⟩:=List.mem_map.1 hc;exact (hv.ops o ho).2);have HL0:=lHd (show (t.ops.map (·.cost)).length=t.ops.length by simp);have HS0:=lHd (zQ1 HC0.out);have HRE:=lHd hre;rw[hn];have HCO:∀ (w0:World),TaskMem w0 Ai Ag Ao t->Calls Tryz.prog 174 #[.agg #[.int .i64 (n:Int),.slice Ai t.init.length ci,.slice Ag t.goal.length cg,.slice Ao t.ops.length co]] w0 fun e w'=>∃ v,e=.returned v/\OwnI w0.heap.size w' v (t.ops.map (·.cost))/\Below w0.heap.size w0 w':=fun w0 h=>by
  have:=zX4 w0 t Ai Ag Ao ci cg co h hm40;rw[hn] at this;exact this
 have HVA:∀ (w0:World),TaskMem w0 Ai Ag Ao t->∀ (Cx:Option Addr) (ccx:Nat) (left:List Int),Ints w0 Cx left->Ints w0 S st->left.length=t.ops.length->xZr left->Calls Tryz.prog 173 #[.agg #[.int .i64 (n:Int),.slice Ai t.init.length ci,.slice Ag t.goal.length cg,.slice Ao t.ops.length co],.slice S st.length cs,.slice Cx t.ops.length ccx,.func (.func 154) #[] #[]] w0 fun e w'=>∃ g,e=.returned (.slice (some ⟨g,0,none⟩) n n)/\w0.heap.size<=g/\IArr w' g (xJg false n st t.ops left)/\Best false n st t.ops left (xJg false n st t.ops left)/\Below w0.heap.size w0 w':=fun w0 h Cx ccx left hC hS' hl hall=>by
  have:=zZ8 w0 t Ai Ag Ao ci cg co h n hn hn24 S cs st hS' hls HST.out Cx ccx t.ops.length left hC rfl hl hall HOPS.out _ false xZe;rw[hn] at this;exact this
 have HCO':=lHd HCO;have HVA':=lHd HVA;clear HCO HVA hre hv h2 hn;go_enter Tryz.func161,Tryz.ntmps161
 go_wp2_with fail
 go_region_held3 (fun W=>W.cell? ⟨w.heap.size,0,none⟩=some (.int .i64 (n:Int))/\W.cell? ⟨w.heap.size,1,none⟩=some (.slice Ai t.init.length ci)/\W.cell? ⟨w.heap.size,2,none⟩=some (.slice Ag t.goal.length cg)/\W.cell? ⟨w.heap.size,3,none⟩=some (.slice Ao t.ops.length co)) (first | exact hK | go_keep) (first | (go_at_call 174;refine (HCO'.out _ (hT.below bch)).mono ?_;rintro e w2 ⟨v2,rfl,ho2,hB2⟩;have D2:=xJ3 w hB2 bch;have d2s:=D2.size;have C2:=Cls.below (l:=[(w.heap.size,0,.int .i64 (n:Int)),(w.heap.size,1,.slice Ai t.init.length ci),(w.heap.size,2,.slice Ag t.goal.length cg),(w.heap.size,3,.slice Ao t.ops.length co)]) hB2 (by simp[Cls,go_sem]);have F2:=C2;simp only[Cls,and_true] at F2;have y2w0:w.heap.size < w2.heap.size:=C2.blk (b:=w.heap.size) (k:=0) (v:=.int .i64 (n:Int)) (by simp);have y2wp1:w.heap.size < w2.heap.size+1:=(by omega);have y2wp2:w.heap.size < w2.heap.size+1+1:=(by omega);have hK:w2.cell? ⟨w.heap.size,0,none⟩=some (.int .i64 (n:Int))/\w2.cell? ⟨w.heap.size,1,none⟩=some (.slice Ai t.init.length ci)/\w2.cell? ⟨w.heap.size,2,none⟩=some (.slice Ag t.goal.length cg)/\w2.cell? ⟨w.heap.size,3,none⟩=some (.slice Ao t.ops.length co):=(by simp[F2]);have ho2':=(OwnI.mono (base':=w.heap.size+1) ho2 (by simp));obtain⟨C,cc,rfl,-⟩:=ho2'.form_at HL0.out))
 have hC1:=ho2'.blk_
 go_wp2_with fail
 go_loopg [7,8] (xZg (t.ops.map (·.cost))) (fun gk s7 s8 wr=>∃ (xs:List (List Int×Int)) (sQ:Value) (tt:Int),Hid (tt=xJr xs)/\s8=.int .i64 tt/\Hid (gk=xZg (xJo (t.ops.map (·.cost)) xs))/\Hid (CutsOk n st t.goal t.ops (t.ops.map (·.cost)) xs)/\OwnCs (w2.heap.size+1) wr s7 xs/\OwnI (w.heap.size+1) wr (.slice C t.ops.length cc) (xJo (t.ops.map (·.cost)) xs)/\Below w.heap.size w wr/\Cls wr [(w.heap.size,0,.int .i64 (n:Int)),(w.heap.size,1,.slice Ai t.init.length ci),(w.heap.size,2,.slice Ag t.goal.length cg),(w.heap.size,3,.slice Ao t.ops.length co),(w2.heap.size,0,.int .i64 (n:Int)),(w2.heap.size,1,.slice Ai t.init.length ci),(w2.heap.size,2,.slice Ag t.goal.length cg),(w2.heap.size,3,.slice Ao t.ops.length co),(w2.heap.size,4,.slice S st.length cs),(w2.heap.size,5,.slice C t.ops.length cc),(w2.heap.size,6,sQ)])
 case atStart=>exact⟨[],.slice none 0 0,0,lHd rfl,rfl,lHd rfl,lHd CutsOk.nil,OwnEs.nil _ _,ho2'.below bch,bch,(by simp[Cls,go_sem,F2,y2w0,y2wp1,y2wp2])⟩
 case round=>
  obtain⟨xs,sQ,tt,htt,rfl,hgk,hok,hcs,hco,hBr,hCr⟩:=hrel;obtain⟨g3,rfl⟩:∃ g:Nat,g=gk:=⟨_,rfl⟩;obtain⟨w3,rfl⟩:∃ wo:World,wo=wr:=⟨_,rfl⟩;obtain⟨left,hle⟩:∃ left,Hid (xJo (t.ops.map (·.cost)) xs=left):=⟨_,lHd rfl⟩;rw[hle.out] at hco;have HLL:=lHd (show left.length=t.ops.length by rw[<- hle.out,xXk];exact HL0.out);have HLV:=lHd (show ∀ c∈left,0<=c/\c<=100 by rw[<- hle.out];have:=hok.out.left_in HL0.out HC0.out xs.length;rwa [List.take_length] at this);have HLA:=lHd (show xZr left from fun c hc=>by have:=HLV.out c hc;unfold InV;omega);have htb:0<=tt/\tt<=4000:=by
   have h1:=hok.out.total HL0.out xs.length (Nat.le_refl _);rw[List.take_length] at h1;have h3:=HS0.out;have h4:=HL0.out;have h5:=htt.out;omega
  obtain⟨htb0,htb1⟩:=htb;have Fr:=hCr;simp only[Cls,and_true] at Fr;have yrw0:w.heap.size < w3.heap.size:=hCr.blk (b:=w.heap.size) (k:=0) (v:=.int .i64 (n:Int)) (by simp);have yrw20:w2.heap.size < w3.heap.size:=hCr.blk (b:=w2.heap.size) (k:=0) (v:=.int .i64 (n:Int)) (by simp)
  go_upto_region 4 with (fail)
  go_cut [18] (fun s18 wx=>∃ A5 c5,s18=.pointer (some ⟨w2.heap.size,0,none⟩)/\Hid (Best false n st t.ops left (xJg false n st t.ops left))/\Ints wx A5 (xJg false n st t.ops left ++ [0])/\OwnI (w.heap.size+1) wx (.slice C t.ops.length cc) left/\OwnCs (w2.heap.size+1) wx u7 xs/\Below w.heap.size w wx/\Cls wx [(w.heap.size,0,.int .i64 (n:Int)),(w.heap.size,1,.slice Ai t.init.length ci),(w.heap.size,2,.slice Ag t.goal.length cg),(w.heap.size,3,.slice Ao t.ops.length co),(w2.heap.size,0,.int .i64 (n:Int)),(w2.heap.size,1,.slice Ai t.init.length ci),(w2.heap.size,2,.slice Ag t.goal.length cg),(w2.heap.size,3,.slice Ao t.ops.length co),(w2.heap.size,4,.slice S st.length cs),(w2.heap.size,5,.slice C t.ops.length cc),(w2.heap.size,6,.slice A5 (n+1) c5)])
  case first=>
   have HB:=hBr;have HE:=Below.refl w3.heap.size w3
   go_region_held3 (fun W=>W.cell? ⟨w.heap.size,0,none⟩=some (.int .i64 (n:Int))/\W.cell? ⟨w.heap.size,1,none⟩=some (.slice Ai t.init.length ci)/\W.cell? ⟨w.heap.size,2,none⟩=some (.slice Ag t.goal.length cg)/\W.cell? ⟨w.heap.size,3,none⟩=some (.slice Ao t.ops.length co)/\W.cell? ⟨w2.heap.size,5,none⟩=some (.slice C t.ops.length cc)) (first | exact hK | go_keep | simp[go_sem,F5,y2w0]) (first | (go_at_call 173;refine (HVA'.out _ (hT.below bch) _ _ left ((OwnI.ints_at hco).below bch) (hS.below bch) HLL.out HLA.out).mono ?_;rintro e w4 ⟨gv,rfl,hgv,hAv,hbest,hB4⟩;have hbest':=lHd hbest;clear hbest;(first | (have hZ:w4.cell? ⟨w3.heap.size,0,none⟩=some (.int .i64 0):=(hB4.cell (p:=⟨w3.heap.size,0,none⟩) (zV4 w3.drew _)).trans (xK7 w3.drew _ _ _ rfl)) | skip);have hgv':w3.heap.size<=gv:=(by simp at hgv;omega);have HB':=xJ3 w hB4 bch;clear HB;have HB:=HB';clear HB';have HE':=xJ3 w3 hB4 bch;clear HE;have HE:=HE';clear HE';have d4s:=HE.size;have C4:=Cls.below (w:=w3) HE hCr;have F4:=C4;simp only[Cls,and_true] at F4;have hK:w4.cell? ⟨w.heap.size,0,none⟩=some (.int .i64 (n:Int))/\w4.cell? ⟨w.heap.size,1,none⟩=some (.slice Ai t.init.length ci)/\w4.cell? ⟨w.heap.size,2,none⟩=some (.slice Ag t.goal.length cg)/\w4.cell? ⟨w.heap.size,3,none⟩=some (.slice Ao t.ops.length co)/\w4.cell? ⟨w2.heap.size,5,none⟩=some (.slice C t.ops.length cc):=(by simp[F4]);clear hB4 hgv) | ((refine zXf (by rfl) _ _ (by rfl) w3 [(w.heap.size,0,.int .i64 (n:Int)),(w.heap.size,1,.slice Ai t.init.length ci),(w.heap.size,2,.slice Ag t.goal.length cg),(w.heap.size,3,.slice Ao t.ops.length co),(w2.heap.size,0,.int .i64 (n:Int)),(w2.heap.size,1,.slice Ai t.init.length ci),(w2.heap.size,2,.slice Ag t.goal.length cg),(w2.heap.size,3,.slice Ao t.ops.length co),(w2.heap.size,4,.slice S st.length cs),(w2.heap.size,5,.slice C t.ops.length cc),(w2.heap.size,6,sQ)] w3.heap.size _ (xJg false n st t.ops left) 0 (by rfl) (OwnI.below (IArr.own hAv hbest'.out.fix.shape.len hgv' hn24) bch) _ _ (by rfl) (by first | exact hZ | simp) (by have:=hbest'.out.fix.shape.len;omega) (by first | omega | (simp <;> omega)) (Nat.le_refl _) bch (by first | exact C4 | exact Cls.below C4 bch | (exact Cls.below (w:=w4) bch C4)) (by simp <;> omega) ?_;intro v5 w5 ho5 D5 C5 sz5;have F5:=C5;simp only[Cls,and_true] at F5;obtain⟨A5,c5,rfl,-⟩:=OwnI.form_at ho5 (show _=n+1 by have:=hbest'.out.fix.shape.len;simp;omega);have hK:w5.cell? ⟨w.heap.size,0,none⟩=some (.int .i64 (n:Int))/\w5.cell? ⟨w.heap.size,1,none⟩=some (.slice Ai t.init.length ci)/\w5.cell? ⟨w.heap.size,2,none⟩=some (.slice Ag t.goal.length cg)/\w5.cell? ⟨w.heap.size,3,none⟩=some (.slice Ao t.ops.length co)/\w5.cell? ⟨w2.heap.size,5,none⟩=some (.slice C t.ops.length cc):=(by simp[F5]);have d5s:=D5.size)))
   all_goals
    go_wp2_with fail
    go_meet
    exact⟨A5,c5,rfl,hbest',(OwnI.far ho5 (by (first | omega | (simp <;> omega))) _).ints_at,OwnI.away (OwnI.below hco D5) (zWf (B:=w2.heap.size) (fun ad h=>(hC1 ad h).2) (Nat.le_refl _)) _,OwnCs.far (OwnCs.below hcs D5) (Nat.lt_succ_self _) _,by repeat (first | with_reducible exact (hBr.trans (D5.mono hBr.size)) | with_reducible apply xKh | with_reducible apply xYd | with_reducible apply xVf | ((with_reducible refine vKu ?_ ?_ _);rotate_left;(first | omega | (simp <;> omega)))),by simp[Cls,go_sem,F5,yrw0,yrw20]⟩
  case rest=>
   obtain⟨w6,rfl⟩:∃ wo:World,wo=wc:=⟨_,rfl⟩;obtain⟨A5,c5,rfl,hbest,hW,hco6,hcs6,D6,hC6⟩:=hcut;obtain⟨V,hVe⟩:∃ V,Hid (xJg false n st t.ops left=V):=⟨_,lHd rfl⟩;rw[hVe.out] at hbest hW;have HVL:=lHd hbest.out.fix.shape.len;have HVA:=lHd hbest.out.fix.shape.all;obtain⟨G,hG⟩:∃ G,Hid (xJp false V t.goal=G):=⟨_,lHd rfl⟩;have HGI:=lHd (xY8 hbest.out HLL.out HLV.out HST.out HOPS.out HGO.out);have hGn:=xXc (s:=false) HVA.out t.goal;rw[hG.out] at hGn;have HGn:=lHd hGn;clear hGn;have F6:=hC6;simp only[Cls,and_true] at F6;have y6w0:w.heap.size < w6.heap.size:=hC6.blk (b:=w.heap.size) (k:=0) (v:=.int .i64 (n:Int)) (by simp);have y6w20:w2.heap.size < w6.heap.size:=hC6.blk (b:=w2.heap.size) (k:=0) (v:=.int .i64 (n:Int)) (by simp);have HN1:=lHd (show ¬ G=1000000000 from fun e=>HGI.out.1 (hG.out.trans e) HRE.out)
   by_cases hG0:G=0
   ·subst hG0
    go_wp2_with fail
    go_quiet ((go_at_call 154;exact Calls.quiet_of_same ((zJ5 _ _ _ _ (n+1) (V ++ [0]) _ _ 0 (hW.below bch) (hT.goal.below bch) (by simp[HVL.out]) hT.lgoal (by omega) (fun x hx=>by have:=HGO.out x hx;omega) (zJ3 HVA.out) (by rw[zJ2 HVL.out HGO.out];exact hG.out)).mono fun _ _ h=>⟨h.1,h.2.symm⟩)))
    go_wp2
    go_ret2
    exact⟨u7,xs,w2.heap.size+1,(show Ending.returned (.tuple #[u7,.int .i64 tt])=_ by rw[htt.out]),by omega,hcs6.below bch,hok.out,by rw[hle.out,hVe.out];exact hbest.out,by rw[hle.out,hVe.out];exact hG.out,bch⟩
   ·have hg1:(G == 0)=false:=by simpa using hG0
    have hg2:(G == 1000000000)=false:=by simpa using HN1.out
    have hat:=lHd (show AtCut n st t.goal t.ops left V from ⟨hbest.out,HLL.out,HLV.out,HST.out,HGO.out,HOPS.out,by rw[hG.out];exact hG0,by rw[hG.out];exact HN1.out⟩);clear hG0;obtain⟨Cl,hCl⟩:∃ Cl,Hid (xZ5 n st t.goal t.ops left V=Cl):=⟨_,lHd rfl⟩;obtain⟨cm,hcm⟩:∃ cm,Hid (xZp left Cl=cm):=⟨_,lHd rfl⟩;have hcp:=lHd (show CutP n st t.goal t.ops left Cl cm by have:=hat.out.proper;rw[hCl.out,hcm.out] at this;exact this);have hcm0:=hcp.out.pos;have hcm1:=hcp.out.le;have hSB:SBox w6 w2.heap.size n t Ai Ag Ao S C A5 ci cg co cs cc c5 st left (V ++ [0]):=by
     have q:=hC6;simp only[Cls,and_true] at q;exact⟨by simp[q],by simp[q],by simp[q],by simp[q],by simp[q],by simp[q,HLL.out],by simp[q],hT.below D6,hS.below D6,hco6.ints_at,hW,by simp[HVL.out],hn6,HLL.out,hls,HST.out,HGO.out,HOPS.out⟩
    go_wp2_with fail
    go_quiet ((go_at_call 154;exact Calls.quiet_of_same ((zJ5 _ _ _ _ (n+1) (V ++ [0]) _ _ G (hW.below bch) (hT.goal.below bch) (by simp[HVL.out]) hT.lgoal (by omega) (fun x hx=>by have:=HGO.out x hx;omega) (zJ3 HVA.out) (by rw[zJ2 HVL.out HGO.out];exact hG.out)).mono fun _ _ h=>⟨h.1,h.2.symm⟩)))
    go_wp2_with fail
    refine (vKa _ w2.heap.size n t Ai Ag Ao S C A5 ci cg co cs cc c5 st left (V ++ [0]) (hSB.below bch) (by omega) V rfl Cl cm hCl.out hcm.out).mono ?_;rintro e w7 ⟨v7,rfl,ho7,hB7⟩;have D7:=xJ3 w hB7 bch;have C7:=Cls.below (l:=[(w.heap.size,0,.int .i64 (n:Int)),(w.heap.size,1,.slice Ai t.init.length ci),(w.heap.size,2,.slice Ag t.goal.length cg),(w.heap.size,3,.slice Ao t.ops.length co),(w2.heap.size,0,.int .i64 (n:Int)),(w2.heap.size,1,.slice Ai t.init.length ci),(w2.heap.size,2,.slice Ag t.goal.length cg),(w2.heap.size,3,.slice Ao t.ops.length co),(w2.heap.size,4,.slice S st.length cs),(w2.heap.size,5,.slice C t.ops.length cc),(w2.heap.size,6,.slice A5 (n+1) c5)]) hB7 (by simp[Cls,go_sem,F6,y6w0,y6w20]);have F7:=C7;simp only[Cls,and_true] at F7;have y7w0:w.heap.size < w7.heap.size:=C7.blk (b:=w.heap.size) (k:=0) (v:=.int .i64 (n:Int)) (by simp);have y7w20:w2.heap.size < w7.heap.size:=C7.blk (b:=w2.heap.size) (k:=0) (v:=.int .i64 (n:Int)) (by simp);have E7:=xJ3 w6 hB7 bch;have ho7':=OwnI.mono (base':=w6.heap.size) ho7 (by simp);have e7s:=E7.size;have hcll:Cl.length<=40:=by have:=hcp.out.set.length (by omega);omega
    obtain⟨A7,c7,rfl,-⟩:=ho7'.form_at rfl;clear ho7;have hcs7:=hcs6.below E7;have hco7:=hco6.below E7
    go_wp2_with fail
    go_loopg [48] (Cl.length) (fun gk i wr=>∃ j:Nat,i=.int .i64 j/\Hid (j+gk=Cl.length)/\OwnI (w.heap.size+1) wr (.slice C t.ops.length cc) (xXd left (Cl.take j) cm)/\OwnI w6.heap.size wr (.slice A7 Cl.length c7) Cl/\OwnCs (w2.heap.size+1) wr u7 xs/\Below w.heap.size w wr/\Cls wr [(w.heap.size,0,.int .i64 (n:Int)),(w.heap.size,1,.slice Ai t.init.length ci),(w.heap.size,2,.slice Ag t.goal.length cg),(w.heap.size,3,.slice Ao t.ops.length co),(w2.heap.size,0,.int .i64 (n:Int)),(w2.heap.size,1,.slice Ai t.init.length ci),(w2.heap.size,2,.slice Ag t.goal.length cg),(w2.heap.size,3,.slice Ao t.ops.length co),(w2.heap.size,4,.slice S st.length cs),(w2.heap.size,5,.slice C t.ops.length cc),(w2.heap.size,6,.slice A5 (n+1) c5),(w7.heap.size,0,.slice A7 Cl.length c7),(w7.heap.size,1,.int .i64 cm)])
    case atStart=>exact⟨0,rfl,lHd (by omega),hco7.below bch,ho7'.below bch,hcs7.below bch,bch,(by simp[Cls,go_sem,F7,y7w0,y7w20])⟩
    case round=>
     obtain⟨j,rfl,hj,hcoj,hclj,hcsj,hBs,hCs⟩:=hrel;obtain⟨w8,rfl⟩:∃ wo:World,wo=wr:=⟨_,rfl⟩;have Fs:=hCs;simp only[Cls,and_true] at Fs;have ysw0:w.heap.size < w8.heap.size:=hCs.blk (b:=w.heap.size) (k:=0) (v:=.int .i64 (n:Int)) (by simp);have ysw20:w2.heap.size < w8.heap.size:=hCs.blk (b:=w2.heap.size) (k:=0) (v:=.int .i64 (n:Int)) (by simp);have ysw70:w7.heap.size < w8.heap.size:=hCs.blk (b:=w7.heap.size) (k:=0) (v:=.slice A7 Cl.length c7) (by simp)
     by_cases hlj:j < Cl.length
     ·have hj1:=lHd (show j+1+(gk - 1)=Cl.length/\gk - 1 < gk by have:=hj.out;omega);obtain⟨a7,x,rfl,hx,hxc⟩:=hclj.ints_at.at_ hlj;obtain⟨x0,x1⟩:=hcp.out.set.1 x (lMg hx.out);have HLJ:=lHd (show (xXd left (Cl.take j) cm).length=t.ops.length by rw[xYz];exact HLL.out);obtain⟨gc,y,rfl,hgc,hgc2,hy,hyc,hyw⟩:=hcoj.at_ (k:=x.toNat) (by rw[HLJ.out];omega);have hyb:cm<=y/\y<=100:=by
       have h1:=hcp.out.not_yet HLL.out hx.out;have h3:=hcp.out.lower_in HLL.out HLV.out j y (lMg hy.out);rw[xJ9 hy.out] at h1;omega
      obtain⟨hyb0,hyb1⟩:=hyb;have HLS:=lHd (show xXd left (Cl.take (j+1)) cm=(xXd left (Cl.take j) cm).set x.toNat (y - cm) by rw[zY4 hx.out,xJ9 hy.out]);have hgb:=hC1 _ rfl;have hgb2:gc < w2.heap.size:=hgb.2;have hgb3:gc < w6.heap.size:=by omega
      have hgb4:gc < w7.heap.size:=by omega
      go_wp2_with fail
      refine xJa 11 (by kernel_rfl) (by kernel_rfl) ?_;simp only[List.take_succ_cons,List.take_zero,List.drop_succ_cons,List.drop_zero]
      repeat still_step
      refine wpStill_nil ?_;go_wp2
      go_roundg (gk - 1)
      case measure=>exact hj1.out.2
      case rel=>
       refine⟨j+1,by go_num,lHd hj1.out.1,?_,?_,?_,bch,(by simp[Cls,go_sem,Fs,ysw0,ysw20,ysw70])⟩
       ·rw[HLS.out];exact OwnI.drew' (OwnI.set_ hcoj HLJ.out _ _)
       ·exact OwnI.drew' (OwnI.far hclj hgb3 _)
       ·exact OwnCs.drew (OwnCs.far hcsj (Nat.lt_succ_of_lt hgb2) _)
     ·rw[List.take_of_length_le (by omega)] at hcoj;have hcs6l:=hcs6.lt;have HY:=lHd (show PCut (w2.heap.size+1) w8 u7.ownBlock [.slice A7 Cl.length c7,.int .i64 cm] (Cl,cm) from ⟨_,rfl,xQo hclj (by omega) (fun k hk=>(hcs6l k hk).2)⟩);have hlen:xs.length < 1000000000000:=by
       have h1:=hok.out.total HL0.out xs.length (Nat.le_refl _);have h3:=HS0.out;have h4:=HL0.out;omega
      have HSN:=lHd (hok.out.snoc (x:=(Cl,cm)) (by rw[hle.out];exact hcp.out));have HTS:=lHd (xY5 xs (Cl,cm));have HLS:=lHd (xK0 (t.ops.map (·.cost)) xs (Cl,cm));have HME:=lHd (show xZg (xXd left Cl cm) < xZg left by
       have h1:=xY4 (c:=cm) (by omega) Cl left hcp.out.set.pairwise (fun x hx=>by rw[HLL.out];exact hcp.out.set.1 x hx) hcp.out.fit;have h3:0 < Cl.length:=List.length_pos_iff.2 hcp.out.ne;have h5:cm.toNat<=Cl.length * cm.toNat:=Nat.le_mul_of_pos_left _ h3;omega)
      go_wp2_with (at_builtin;go_must (refine zZc (xQx _) 213 32 (.agg #[.slice none 0 0,.int .i64 0]) Tryz.underlying213 vZn rfl (by decide) (by decide) rfl (.tmp 64) (.tmp 66) rfl w [(w.heap.size,0,.int .i64 (n:Int)),(w.heap.size,1,.slice Ai t.init.length ci),(w.heap.size,2,.slice Ag t.goal.length cg),(w.heap.size,3,.slice Ao t.ops.length co),(w2.heap.size,0,.int .i64 (n:Int)),(w2.heap.size,1,.slice Ai t.init.length ci),(w2.heap.size,2,.slice Ag t.goal.length cg),(w2.heap.size,3,.slice Ao t.ops.length co),(w2.heap.size,4,.slice S st.length cs),(w2.heap.size,5,.slice C t.ops.length cc),(w2.heap.size,6,.slice A5 (n+1) c5)] rfl (OwnCs.below hcsj ?p1) ⟨w8.heap.size,0,none⟩ 1 rfl [.slice A7 Cl.length c7,.int .i64 cm] (Cl,cm) rfl (vJw ?p2 ?p10) ?p8 ((xQx _).below HY.out ?p9) hlen ?p3 (by omega) ?p5 ?p6 ?p7 ?_;(case p1=>exact bch);(case p2=>simp[go_sem]);(case p10=>simp[go_sem]);(case p3=>(simp <;> omega));(case p5=>exact bch);(case p6=>simp[Cls,go_sem,Fs,ysw0,ysw20,ysw70]);(case p7=>(simp <;> omega));(case p8=>intro u hu;simp at hu;rcases hu with rfl | rfl <;> rfl);(case p9=>exact bch);intro v9 w9 o9 D9 C9 sz9 G9 at9;have d9s:=D9.size;have hc9:w9.cell? ⟨w7.heap.size,1,none⟩=some (.int .i64 cm):=G9.cell (by simp[Cls,go_sem,Fs,ysw0,ysw20,ysw70]) (fun e=>by have h1:w7.heap.size < w6.heap.size:=(hcs6l _ e.symm).2;omega)))
      have hco9:OwnI (w.heap.size+1) w9 (.slice C t.ops.length cc) (xXd left Cl cm):=(OwnI.below hcoj bch).grown G9 (fun k hk=>zWf (B:=w2.heap.size) (fun ad h=>(hC1 ad h).2) (by have:=hcs6l k hk;omega))
      go_roundg (xZg (xXd left Cl cm))
      case measure=>rw[hgk.out,hle.out];exact HME.out
      case rel=>
       exact⟨xs ++ [(Cl,cm)],_,tt+cm,lHd (by rw[HTS.out,htt.out]),rfl,lHd (by rw[HLS.out,hle.out]),HSN,o9,by rw[HLS.out,hle.out];exact hco9,D9,C9⟩
theorem vVl(w:World)(t:TaskV)(Ai Ag Ao:Option Addr)(ci cg co:Nat)(hT:TaskMem w Ai Ag Ao t)(S:Option Addr)(cs:Nat)(st:List Int)(hS:Ints w S st)(hls:lenOk st.length)(n:Nat)(hn:t.facts=n)(hv:Valid t)(h2:SetP st t.facts)(hre:¬ zJ4 t st) :
  Calls Tryz.prog 161 #[.agg #[.int .i64 t.facts,.slice Ai t.init.length ci,.slice Ag t.goal.length cg,.slice Ao t.ops.length co],.slice S st.length cs] w fun e w'=>e=.returned (.tuple #[.slice none 0 0,.int .i64 1000000000])/\Below w.heap.size w w':=by
 have hls':=hls.le;have hn24:n<=1000000000000:=by have:=hv.f1;omega
 have hn6:n<=1000000:=by have:=hv.f1;omega
 have hm40:=hv.nops;have HST:=lHd (fun p hp=>by have:=h2.1 p hp;rw[hn] at this;exact this:∀ p∈st,0<=p/\p < (n:Int));have HOPS:=lHd (vJn hv hn);have HGO:=lHd (vJo hv hn);have HC0:=lHd (show ∀ c∈t.ops.map (·.cost),0<=c/\c<=100 from fun c hc=>by obtain⟨o,ho,rfl⟩:=List.mem_map.1 hc;exact (hv.ops o ho).2);have HL0:=lHd (show (t.ops.map (·.cost)).length=t.ops.length by simp);have HS0:=lHd (zQ1 HC0.out);have HRE:=lHd hre;rw[hn];have HCO:∀ (w0:World),TaskMem w0 Ai Ag Ao t->Calls Tryz.prog 174 #[.agg #[.int .i64 (n:Int),.slice Ai t.init.length ci,.slice Ag t.goal.length cg,.slice Ao t.ops.length co]] w0 fun e w'=>∃ v,e=.returned v/\OwnI w0.heap.size w' v (t.ops.map (·.cost))/\Below w0.heap.size w0 w':=fun w0 h=>by
  have:=zX4 w0 t Ai Ag Ao ci cg co h hm40;rw[hn] at this;exact this
 have HVA:∀ (w0:World),TaskMem w0 Ai Ag Ao t->∀ (Cx:Option Addr) (ccx:Nat) (left:List Int),Ints w0 Cx left->Ints w0 S st->left.length=t.ops.length->xZr left->Calls Tryz.prog 173 #[.agg #[.int .i64 (n:Int),.slice Ai t.init.length ci,.slice Ag t.goal.length cg,.slice Ao t.ops.length co],.slice S st.length cs,.slice Cx t.ops.length ccx,.func (.func 154) #[] #[]] w0 fun e w'=>∃ g,e=.returned (.slice (some ⟨g,0,none⟩) n n)/\w0.heap.size<=g/\IArr w' g (xJg false n st t.ops left)/\Best false n st t.ops left (xJg false n st t.ops left)/\Below w0.heap.size w0 w':=fun w0 h Cx ccx left hC hS' hl hall=>by
  have:=zZ8 w0 t Ai Ag Ao ci cg co h n hn hn24 S cs st hS' hls HST.out Cx ccx t.ops.length left hC rfl hl hall HOPS.out _ false xZe;rw[hn] at this;exact this
 have HCO':=lHd HCO;have HVA':=lHd HVA;clear HCO HVA hre hv h2 hn;go_enter Tryz.func161,Tryz.ntmps161
 go_wp2_with fail
 go_region_held3 (fun W=>W.cell? ⟨w.heap.size,0,none⟩=some (.int .i64 (n:Int))/\W.cell? ⟨w.heap.size,1,none⟩=some (.slice Ai t.init.length ci)/\W.cell? ⟨w.heap.size,2,none⟩=some (.slice Ag t.goal.length cg)/\W.cell? ⟨w.heap.size,3,none⟩=some (.slice Ao t.ops.length co)) (first | exact hK | go_keep) (first | (go_at_call 174;refine (HCO'.out _ (hT.below bch)).mono ?_;rintro e w2 ⟨v2,rfl,ho2,hB2⟩;have D2:=xJ3 w hB2 bch;have d2s:=D2.size;have C2:=Cls.below (l:=[(w.heap.size,0,.int .i64 (n:Int)),(w.heap.size,1,.slice Ai t.init.length ci),(w.heap.size,2,.slice Ag t.goal.length cg),(w.heap.size,3,.slice Ao t.ops.length co)]) hB2 (by simp[Cls,go_sem]);have F2:=C2;simp only[Cls,and_true] at F2;have y2w0:w.heap.size < w2.heap.size:=C2.blk (b:=w.heap.size) (k:=0) (v:=.int .i64 (n:Int)) (by simp);have y2wp1:w.heap.size < w2.heap.size+1:=(by omega);have y2wp2:w.heap.size < w2.heap.size+1+1:=(by omega);have hK:w2.cell? ⟨w.heap.size,0,none⟩=some (.int .i64 (n:Int))/\w2.cell? ⟨w.heap.size,1,none⟩=some (.slice Ai t.init.length ci)/\w2.cell? ⟨w.heap.size,2,none⟩=some (.slice Ag t.goal.length cg)/\w2.cell? ⟨w.heap.size,3,none⟩=some (.slice Ao t.ops.length co):=(by simp[F2]);have ho2':=(OwnI.mono (base':=w.heap.size+1) ho2 (by simp));obtain⟨C,cc,rfl,-⟩:=ho2'.form_at HL0.out))
 have hC1:=ho2'.blk_
 go_wp2_with fail
 go_loopg [7,8] (xZg (t.ops.map (·.cost))) (fun gk s7 s8 wr=>∃ (xs:List (List Int×Int)) (sQ:Value) (tt:Int),Hid (tt=xJr xs)/\s8=.int .i64 tt/\Hid (gk=xZg (xJo (t.ops.map (·.cost)) xs))/\Hid (CutsOk n st t.goal t.ops (t.ops.map (·.cost)) xs)/\OwnCs (w2.heap.size+1) wr s7 xs/\OwnI (w.heap.size+1) wr (.slice C t.ops.length cc) (xJo (t.ops.map (·.cost)) xs)/\Below w.heap.size w wr/\Cls wr [(w.heap.size,0,.int .i64 (n:Int)),(w.heap.size,1,.slice Ai t.init.length ci),(w.heap.size,2,.slice Ag t.goal.length cg),(w.heap.size,3,.slice Ao t.ops.length co),(w2.heap.size,0,.int .i64 (n:Int)),(w2.heap.size,1,.slice Ai t.init.length ci),(w2.heap.size,2,.slice Ag t.goal.length cg),(w2.heap.size,3,.slice Ao t.ops.length co),(w2.heap.size,4,.slice S st.length cs),(w2.heap.size,5,.slice C t.ops.length cc),(w2.heap.size,6,sQ)])
 case atStart=>exact⟨[],.slice none 0 0,0,lHd rfl,rfl,lHd rfl,lHd CutsOk.nil,OwnEs.nil _ _,ho2'.below bch,bch,(by simp[Cls,go_sem,F2,y2w0,y2wp1,y2wp2])⟩
 case round=>
  obtain⟨xs,sQ,tt,htt,rfl,hgk,hok,hcs,hco,hBr,hCr⟩:=hrel;obtain⟨g3,rfl⟩:∃ g:Nat,g=gk:=⟨_,rfl⟩;obtain⟨w3,rfl⟩:∃ wo:World,wo=wr:=⟨_,rfl⟩;obtain⟨left,hle⟩:∃ left,Hid (xJo (t.ops.map (·.cost)) xs=left):=⟨_,lHd rfl⟩;rw[hle.out] at hco;have HLL:=lHd (show left.length=t.ops.length by rw[<- hle.out,xXk];exact HL0.out);have HLV:=lHd (show ∀ c∈left,0<=c/\c<=100 by rw[<- hle.out];have:=hok.out.left_in HL0.out HC0.out xs.length;rwa [List.take_length] at this);have HLA:=lHd (show xZr left from fun c hc=>by have:=HLV.out c hc;unfold InV;omega);have htb:0<=tt/\tt<=4000:=by
   have h1:=hok.out.total HL0.out xs.length (Nat.le_refl _);rw[List.take_length] at h1;have h3:=HS0.out;have h4:=HL0.out;have h5:=htt.out;omega
  obtain⟨htb0,htb1⟩:=htb;have Fr:=hCr;simp only[Cls,and_true] at Fr;have yrw0:w.heap.size < w3.heap.size:=hCr.blk (b:=w.heap.size) (k:=0) (v:=.int .i64 (n:Int)) (by simp);have yrw20:w2.heap.size < w3.heap.size:=hCr.blk (b:=w2.heap.size) (k:=0) (v:=.int .i64 (n:Int)) (by simp)
  go_upto_region 4 with (fail)
  go_cut [18] (fun s18 wx=>∃ A5 c5,s18=.pointer (some ⟨w2.heap.size,0,none⟩)/\Hid (Best false n st t.ops left (xJg false n st t.ops left))/\Ints wx A5 (xJg false n st t.ops left ++ [0])/\OwnI (w.heap.size+1) wx (.slice C t.ops.length cc) left/\OwnCs (w2.heap.size+1) wx u7 xs/\Below w.heap.size w wx/\Cls wx [(w.heap.size,0,.int .i64 (n:Int)),(w.heap.size,1,.slice Ai t.init.length ci),(w.heap.size,2,.slice Ag t.goal.length cg),(w.heap.size,3,.slice Ao t.ops.length co),(w2.heap.size,0,.int .i64 (n:Int)),(w2.heap.size,1,.slice Ai t.init.length ci),(w2.heap.size,2,.slice Ag t.goal.length cg),(w2.heap.size,3,.slice Ao t.ops.length co),(w2.heap.size,4,.slice S st.length cs),(w2.heap.size,5,.slice C t.ops.length cc),(w2.heap.size,6,.slice A5 (n+1) c5)])
  case first=>
   have HB:=hBr;have HE:=Below.refl w3.heap.size w3
   go_region_held3 (fun W=>W.cell? ⟨w.heap.size,0,none⟩=some (.int .i64 (n:Int))/\W.cell? ⟨w.heap.size,1,none⟩=some (.slice Ai t.init.length ci)/\W.cell? ⟨w.heap.size,2,none⟩=some (.slice Ag t.goal.length cg)/\W.cell? ⟨w.heap.size,3,none⟩=some (.slice Ao t.ops.length co)/\W.cell? ⟨w2.heap.size,5,none⟩=some (.slice C t.ops.length cc)) (first | exact hK | go_keep | simp[go_sem,F5,y2w0]) (first | (go_at_call 173;refine (HVA'.out _ (hT.below bch) _ _ left ((OwnI.ints_at hco).below bch) (hS.below bch) HLL.out HLA.out).mono ?_;rintro e w4 ⟨gv,rfl,hgv,hAv,hbest,hB4⟩;have hbest':=lHd hbest;clear hbest;(first | (have hZ:w4.cell? ⟨w3.heap.size,0,none⟩=some (.int .i64 0):=(hB4.cell (p:=⟨w3.heap.size,0,none⟩) (zV4 w3.drew _)).trans (xK7 w3.drew _ _ _ rfl)) | skip);have hgv':w3.heap.size<=gv:=(by simp at hgv;omega);have HB':=xJ3 w hB4 bch;clear HB;have HB:=HB';clear HB';have HE':=xJ3 w3 hB4 bch;clear HE;have HE:=HE';clear HE';have d4s:=HE.size;have C4:=Cls.below (w:=w3) HE hCr;have F4:=C4;simp only[Cls,and_true] at F4;have hK:w4.cell? ⟨w.heap.size,0,none⟩=some (.int .i64 (n:Int))/\w4.cell? ⟨w.heap.size,1,none⟩=some (.slice Ai t.init.length ci)/\w4.cell? ⟨w.heap.size,2,none⟩=some (.slice Ag t.goal.length cg)/\w4.cell? ⟨w.heap.size,3,none⟩=some (.slice Ao t.ops.length co)/\w4.cell? ⟨w2.heap.size,5,none⟩=some (.slice C t.ops.length cc):=(by simp[F4]);clear hB4 hgv) | ((refine zXf (by rfl) _ _ (by rfl) w3 [(w.heap.size,0,.int .i64 (n:Int)),(w.heap.size,1,.slice Ai t.init.length ci),(w.heap.size,2,.slice Ag t.goal.length cg),(w.heap.size,3,.slice Ao t.ops.length co),(w2.heap.size,0,.int .i64 (n:Int)),(w2.heap.size,1,.slice Ai t.init.length ci),(w2.heap.size,2,.slice Ag t.goal.length cg),(w2.heap.size,3,.slice Ao t.ops.length co),(w2.heap.size,4,.slice S st.length cs),(w2.heap.size,5,.slice C t.ops.length cc),(w2.heap.size,6,sQ)] w3.heap.size _ (xJg false n st t.ops left) 0 (by rfl) (OwnI.below (IArr.own hAv hbest'.out.fix.shape.len hgv' hn24) bch) _ _ (by rfl) (by first | exact hZ | simp) (by have:=hbest'.out.fix.shape.len;omega) (by first | omega | (simp <;> omega)) (Nat.le_refl _) bch (by first | exact C4 | exact Cls.below C4 bch | (exact Cls.below (w:=w4) bch C4)) (by simp <;> omega) ?_;intro v5 w5 ho5 D5 C5 sz5;have F5:=C5;simp only[Cls,and_true] at F5;obtain⟨A5,c5,rfl,-⟩:=OwnI.form_at ho5 (show _=n+1 by have:=hbest'.out.fix.shape.len;simp;omega);have hK:w5.cell? ⟨w.heap.size,0,none⟩=some (.int .i64 (n:Int))/\w5.cell? ⟨w.heap.size,1,none⟩=some (.slice Ai t.init.length ci)/\w5.cell? ⟨w.heap.size,2,none⟩=some (.slice Ag t.goal.length cg)/\w5.cell? ⟨w.heap.size,3,none⟩=some (.slice Ao t.ops.length co)/\w5.cell? ⟨w2.heap.size,5,none⟩=some (.slice C t.ops.length cc):=(by simp[F5]);have d5s:=D5.size)))
   all_goals
    go_wp2_with fail
    go_meet
    exact⟨A5,c5,rfl,hbest',(OwnI.far ho5 (by (first | omega | (simp <;> omega))) _).ints_at,OwnI.away (OwnI.below hco D5) (zWf (B:=w2.heap.size) (fun ad h=>(hC1 ad h).2) (Nat.le_refl _)) _,OwnCs.far (OwnCs.below hcs D5) (Nat.lt_succ_self _) _,by repeat (first | with_reducible exact (hBr.trans (D5.mono hBr.size)) | with_reducible apply xKh | with_reducible apply xYd | with_reducible apply xVf | ((with_reducible refine vKu ?_ ?_ _);rotate_left;(first | omega | (simp <;> omega)))),by simp[Cls,go_sem,F5,yrw0,yrw20]⟩
  case rest=>
   obtain⟨w6,rfl⟩:∃ wo:World,wo=wc:=⟨_,rfl⟩;obtain⟨A5,c5,rfl,hbest,hW,hco6,hcs6,D6,hC6⟩:=hcut;obtain⟨V,hVe⟩:∃ V,Hid (xJg false n st t.ops left=V):=⟨_,lHd rfl⟩;rw[hVe.out] at hbest hW;have HVL:=lHd hbest.out.fix.shape.len;have HVA:=lHd hbest.out.fix.shape.all;obtain⟨G,hG⟩:∃ G,Hid (xJp false V t.goal=G):=⟨_,lHd rfl⟩;have HGI:=lHd (xY8 hbest.out HLL.out HLV.out HST.out HOPS.out HGO.out);have hGn:=xXc (s:=false) HVA.out t.goal;rw[hG.out] at hGn;have HGn:=lHd hGn;clear hGn;have F6:=hC6;simp only[Cls,and_true] at F6;have y6w0:w.heap.size < w6.heap.size:=hC6.blk (b:=w.heap.size) (k:=0) (v:=.int .i64 (n:Int)) (by simp);have y6w20:w2.heap.size < w6.heap.size:=hC6.blk (b:=w2.heap.size) (k:=0) (v:=.int .i64 (n:Int)) (by simp);obtain rfl:G=1000000000:=hG.out.symm.trans (HGI.out.2 HRE.out)
   go_wp2_with fail
   go_quiet ((go_at_call 154;exact Calls.quiet_of_same ((zJ5 _ _ _ _ (n+1) (V ++ [0]) _ _ 1000000000 (hW.below bch) (hT.goal.below bch) (by simp[HVL.out]) hT.lgoal (by omega) (fun x hx=>by have:=HGO.out x hx;omega) (zJ3 HVA.out) (by rw[zJ2 HVL.out HGO.out];exact hG.out)).mono fun _ _ h=>⟨h.1,h.2.symm⟩)))
   go_wp2
   go_ret2
   exact⟨rfl,bch⟩
theorem vZ2(w:World)(t:TaskV)(Ai Ag Ao:Option Addr)(ci cg co:Nat)(hT:TaskMem w Ai Ag Ao t)(S:Option Addr)(cs:Nat)(st:List Int)(hS:Ints w S st)(hls:lenOk st.length)(n:Nat)(hn:t.facts=n)(hv:Valid t)(h2:SetP st t.facts)(hre:zJ4 t st) :
  Calls Tryz.prog 124 #[.agg #[.int .i64 t.facts,.slice Ai t.init.length ci,.slice Ag t.goal.length cg,.slice Ao t.ops.length co],.slice S st.length cs] w fun e w'=>∃ (v:Value) (xs:List (List Int×Int)) (bs:Nat),e=.returned (.tuple #[v,.int .i64 (xJr xs),.agg #[.int .i64 0,.int .i64 0]])/\w.heap.size<=bs/\OwnCs bs w' v xs/\CutsOk n st t.goal t.ops (t.ops.map (·.cost)) xs/\Best false n st t.ops (xJo (t.ops.map (·.cost)) xs) (xJg false n st t.ops (xJo (t.ops.map (·.cost)) xs))/\xJp false (xJg false n st t.ops (xJo (t.ops.map (·.cost)) xs)) t.goal=0/\Below w.heap.size w w':=by
 have HN:=lHd hn;have HV:=lHd hv;have H2:=lHd h2;have HRE:=lHd hre;clear hv h2 hn hre;go_enter Tryz.func124,Tryz.ntmps124
 go_wp2_with fail
 refine (xY1 _ _ _ _ _ _ _ _ (hT.below bch) _ _ _ (hS.below bch) hls HV.out H2.out).mono ?_;rintro e w1 ⟨rfl,hB1⟩;have D1:=xJ3 w hB1 bch;have C1:=Cls.below (l:=[(w.heap.size,0,.int .i64 t.facts),(w.heap.size,1,.slice Ai t.init.length ci),(w.heap.size,2,.slice Ag t.goal.length cg),(w.heap.size,3,.slice Ao t.ops.length co),(w.heap.size+1,0,.int .i64 0),(w.heap.size+1,1,.int .i64 0)]) hB1 (by simp[Cls,go_sem]);have F1:=C1;simp only[Cls,and_true] at F1;have y1w1:w.heap.size+1 < w1.heap.size:=C1.blk (b:=w.heap.size+1) (k:=0) (v:=.int .i64 0) (by simp);have y1w0:w.heap.size < w1.heap.size:=(by omega)
 go_wp2_with fail
 refine (vZo _ t Ai Ag Ao ci cg co (hT.below bch) S cs st (hS.below bch) hls n HN.out HV.out H2.out HRE.out).mono ?_;rintro e w2 ⟨v2,xs,bs,rfl,hbs,hcs,hok,hbest,hz,hB2⟩;have D2:=xJ3 w hB2 bch;have C2:=Cls.below (l:=[(w.heap.size,0,.int .i64 t.facts),(w.heap.size,1,.slice Ai t.init.length ci),(w.heap.size,2,.slice Ag t.goal.length cg),(w.heap.size,3,.slice Ao t.ops.length co),(w.heap.size+1,0,.int .i64 0),(w.heap.size+1,1,.int .i64 0)]) hB2 (by simp[Cls,go_sem,F1,y1w1,y1w0]);have F2:=C2;simp only[Cls,and_true] at F2;have y2w1:w.heap.size+1 < w2.heap.size:=C2.blk (b:=w.heap.size+1) (k:=0) (v:=.int .i64 0) (by simp);have Hok:=lHd hok;have Hbest:=lHd hbest;have Hz:=lHd hz;clear hok hbest hz;have hbs':w1.heap.size<=bs:=Nat.le_trans (by simp) hbs;clear hbs;go_wp2;refine bodyPost_ret (v:=.tuple #[v2,.int .i64 (xJr xs),.agg #[.int .i64 0,.int .i64 0]]) ?_ rfl ⟨v2,xs,bs,rfl,by omega,?_,Hok.out,Hbest.out,Hz.out,bch⟩
 ·simp[results,Tryz.results124,go_sem,F2,y2w1]
 ·repeat (first | with_reducible exact hcs | (with_reducible refine OwnCs.far ?_ ?_ _;rotate_left;(first | omega | (simp <;> omega))) | with_reducible refine OwnCs.drew ?_)
theorem vV9(w:World)(t:TaskV)(Ai Ag Ao:Option Addr)(ci cg co:Nat)(hT:TaskMem w Ai Ag Ao t)(S:Option Addr)(cs:Nat)(st:List Int)(hS:Ints w S st)(hls:lenOk st.length)(n:Nat)(hn:t.facts=n)(hv:Valid t)(h2:SetP st t.facts)(hre:¬ zJ4 t st) :
  Calls Tryz.prog 124 #[.agg #[.int .i64 t.facts,.slice Ai t.init.length ci,.slice Ag t.goal.length cg,.slice Ao t.ops.length co],.slice S st.length cs] w fun e w'=>e=.returned (.tuple #[.slice none 0 0,.int .i64 1000000000,.agg #[.int .i64 0,.int .i64 0]])/\Below w.heap.size w w':=by
 have HN:=lHd hn;have HV:=lHd hv;have H2:=lHd h2;have HRE:=lHd hre;clear hv h2 hn hre;go_enter Tryz.func124,Tryz.ntmps124
 go_wp2_with fail
 refine (xY1 _ _ _ _ _ _ _ _ (hT.below bch) _ _ _ (hS.below bch) hls HV.out H2.out).mono ?_;rintro e w1 ⟨rfl,hB1⟩;have D1:=xJ3 w hB1 bch;have C1:=Cls.below (l:=[(w.heap.size,0,.int .i64 t.facts),(w.heap.size,1,.slice Ai t.init.length ci),(w.heap.size,2,.slice Ag t.goal.length cg),(w.heap.size,3,.slice Ao t.ops.length co),(w.heap.size+1,0,.int .i64 0),(w.heap.size+1,1,.int .i64 0)]) hB1 (by simp[Cls,go_sem]);have F1:=C1;simp only[Cls,and_true] at F1;have y1w1:w.heap.size+1 < w1.heap.size:=C1.blk (b:=w.heap.size+1) (k:=0) (v:=.int .i64 0) (by simp);have y1w0:w.heap.size < w1.heap.size:=(by omega)
 go_wp2_with fail
 refine (vVl _ t Ai Ag Ao ci cg co (hT.below bch) S cs st (hS.below bch) hls n HN.out HV.out H2.out HRE.out).mono ?_;rintro e w2 ⟨rfl,hB2⟩;have D2:=xJ3 w hB2 bch;have C2:=Cls.below (l:=[(w.heap.size,0,.int .i64 t.facts),(w.heap.size,1,.slice Ai t.init.length ci),(w.heap.size,2,.slice Ag t.goal.length cg),(w.heap.size,3,.slice Ao t.ops.length co),(w.heap.size+1,0,.int .i64 0),(w.heap.size+1,1,.int .i64 0)]) hB2 (by simp[Cls,go_sem,F1,y1w1,y1w0]);have F2:=C2;simp only[Cls,and_true] at F2;have y2w1:w.heap.size+1 < w2.heap.size:=C2.blk (b:=w.heap.size+1) (k:=0) (v:=.int .i64 0) (by simp);go_wp2;refine bodyPost_ret (v:=.tuple #[.slice none 0 0,.int .i64 1000000000,.agg #[.int .i64 0,.int .i64 0]]) ?_ rfl ⟨rfl,bch⟩;simp[results,Tryz.results124,go_sem,F2,y2w1]
end Go.Proofs.YtpeipeljmapkmaaGreat
