/-
  Lemmas.
-/
import Derived.Test.YtjjjeohejhmpoaaGreatX20
import Derived.Test.YtjjjeohejhmpoaaGreatX27
import Derived.Laws.CopyOwn
set_option linter.unusedVariables false
set_option linter.unusedSimpArgs false
set_option maxRecDepth 100000
set_option maxHeartbeats 4000000
namespace Go.Proofs.YtjjjeohejhmpoaaGreat
open Go.RowKit Go.Proofs.Tryz
def chs:List (Int×Int)->List Value
 | []=>[]
 |p::l=>.int .i64 p.1 :: .int .i64 p.2::chs l
theorem zXs:∀l,(chs l).length=l.length*2
 | []=>rfl
 |p::l=>by rw[chs,List.length_cons,List.length_cons,zXs l,List.length_cons];omega
theorem vJx:∀a b,chs (a++b)=chs a++chs b
 | [],b=>rfl
 |p::a,b=>by rw[List.cons_append,chs,chs,vJx a b];rfl
theorem vJy:∀ {l:List (Int×Int)} {k:Nat} {p:Int×Int},l[k]? = some p->(chs l)[k*2]? = some (.int .i64 p.1)
 | [],_,_,h=>by simp at h
 |a::l,0,p,h=>by simp at h;subst h;rfl
 |a::l,k+1,p,h=>by
  rw[show(k+1)*2=k*2+1+1 by omega,chs,List.getElem?_cons_succ,List.getElem?_cons_succ];exact vJy (by simpa using h)
theorem vJz:∀ {l:List (Int×Int)} {k:Nat} {p:Int×Int},l[k]? = some p->(chs l)[k*2+1]? = some (.int .i64 p.2)
 | [],_,_,h=>by simp at h
 |a::l,0,p,h=>by simp at h;subst h;rfl
 |a::l,k+1,p,h=>by
  rw[show(k+1)*2+1=k*2+1+1+1 by omega,chs,List.getElem?_cons_succ,List.getElem?_cons_succ];exact vJz (by simpa using h)
theorem zVp:∀(l:List (Int×Int)) (k:Nat),(chs l).take (k*2)=chs (l.take k)
 |l,0=>by simp[chs]
 | [],k+1=>by simp[chs]
 |p::l,k+1=>by
  rw[show(k+1)*2=k*2+1+1 by omega,chs,yJx,yJx,zVp l k];rfl
theorem vZq:∀(l:List (Int×Int)) (k:Nat),(chs l).drop (k*2)=chs (l.drop k)
 |l,0=>by simp
 | [],k+1=>by simp[chs]
 |p::l,k+1=>by
  rw[show(k+1)*2=k*2+1+1 by omega,chs,List.drop_succ_cons,List.drop_succ_cons,vZq l k];rfl
theorem vX0:∀(l:List (Int×Int)),∀v∈chs l,v.oneCell'=true
 | [],_,h=>by simp[chs] at h
 |p::l,v,h=>by
  rw[chs] at h;rcases yQ6.1 h with rfl|h
  ·rfl
  ·rcases yQ6.1 h with rfl|h
   ·rfl
   ·exact vX0 l v h
theorem vX1:∀(l:List (Int×Int)) (k:Nat) (p:Int×Int),((chs l).set (k*2) (.int .i64 p.1)).set (k*2+1) (.int .i64 p.2)=chs (l.set k p)
 | [],_,_=>by simp[chs]
 |a::l,0,p=>rfl
 |a::l,k+1,p=>by
  rw[show(k+1)*2=k*2+1+1 by omega,List.set_cons_succ,chs,chs,List.set_cons_succ,List.set_cons_succ,List.set_cons_succ,List.set_cons_succ,vX1 l k p]
def CArr(w:World)(g:Nat)(l:List (Int×Int)):Prop:=Arr w g 99 (chs l)
theorem CArr.below{w w':World}{g:Nat}{l:List (Int×Int)}(h:CArr w g l)(hb:Below w.heap.size w w'):CArr w' g l:=Arr.below h hb
theorem CArr.cell{w:World}{g:Nat}{l:List (Int×Int)}(h:CArr w g l){k:Nat}(hk:k<l.length):∃c v:Int,Hid (l[k]? = some (c,v))/\w.cell? ⟨g,k*2,none⟩=some (.int .i64 c)/\w.cell? ⟨g,k*2+1,none⟩=some (.int .i64 v):=by
 have e:=lGe hk;exact⟨l[k].1,l[k].2,lHd e,(Arr.cell h _).trans (vJy e),(Arr.cell h _).trans (vJz e)⟩
theorem CArr.set_{w:World}{g:Nat}{l:List (Int×Int)}(h:CArr w g l)(k:Nat)(c v:Int):CArr ((w.setCell ⟨g,k*2,none⟩ (.int .i64 c)).setCell ⟨g,k*2+1,none⟩ (.int .i64 v)) g (l.set k (c,v)):=by
 have h2:=Arr.set_ (Arr.set_ h (k*2) (.int .i64 c)) (k*2+1) (.int .i64 v);rw[vX1 l k (c,v)] at h2;exact h2
theorem vX2:(prog.info? 99).map (fun i=>(i.zero,i.size,i.bytes))=some (some (.agg #[.int .i64 0,.int .i64 0]),2,16):=by kernel_rfl
theorem yJz:∀n,chs (List.replicate n (0,0))=List.replicate (n*2) (Value.int .i64 0)
 |0=>rfl
 |n+1=>by
  rw[show(n+1)*2=n*2+1+1 by omega,List.replicate_succ,chs,yJz n,List.replicate_succ,List.replicate_succ]
theorem zVq(z:Value)(n:Nat):madeCells #[z,z] n=(List.replicate n z).toArray:=by
 apply Array.ext
 ·simp[madeCells]
 ·intro k h1 h2;simp only[madeCells,Array.getElem_map,Array.getElem_range,List.getElem_toArray,List.getElem_replicate];rcases Nat.mod_two_eq_zero_or_one k with e|e<;>simp[e]
theorem yWm(n:Nat)(hn:n<=1000000000000)(w:World) :
  (Instr.makeSlice 161 (.int .i64 (n:Int)) (.int .i64 (n:Int))).run prog w=.ok (.slice (some ⟨w.heap.size,0,none⟩) n n) (w.alloc (.cells (chs (List.replicate n (0,0))).toArray 99)):=by
 obtain⟨i0,hi0,hz⟩:=vYt.1 vX2;simp only[Prod.mk.injEq] at hz;have h:=run_make (P:=prog) w 161 99 i0 _ underlying161 hi0 hz.1 .i64 .i64 (n:Int) (n:Int) (by omega) (Int.le_refl _) (by rw[hz.2.2];omega) (by omega);rw[h,hz.2.1,Int.toNat_natCast,yJz];have e:(Value.agg #[.int .i64 0,.int .i64 0]).cells = #[.int .i64 0,.int .i64 0]:=rfl;rw[e,zVq]
theorem zXt(w:World)(ty:TypeId)(g o dLen dCap:Nat)(ad:Addr)(sLen sCap:Nat)(cur cs:List (Int×Int))(hg:CArr w g cur)(hn:cs.length=Nat.min sLen dLen)(hsrc:∀j v,(chs cs)[j]? = some v->w.cell? (ad.add j)=some v)(hfit:o+cs.length<=cur.length) :
  (Builtin.copy_ #[161,161] ty #[.slice (some ⟨g,o*2,none⟩) dLen dCap,.slice (some ad) sLen sCap]).run prog w=.ok (goInt cs.length) (w.setRow g (chs (cur.take o++(cs++cur.drop (o+cs.length)))).toArray):=by
 have hl:=run_loadCells_list (P:=prog) w ad (chs cs) hsrc;have hst:=run_storeCells_at prog g (o*2) 99 (chs cs) 0 (chs cur).toArray w hg (by rw[zXs];simp only[List.size_toArray];rw[zXs];omega) (vX0 cs);obtain⟨i0,hi0,hz⟩:=vYt.1 vX2;simp only[Prod.mk.injEq] at hz;rw[zXs] at hl hst;have hrow:List.take (o*2+0) (chs cur)++chs cs++List.drop (o*2+0+cs.length*2) (chs cur)=chs (cur.take o++(cs++cur.drop (o+cs.length))):=by
  rw[Nat.add_zero,show o*2+cs.length*2=(o+cs.length)*2 by omega,zVp,vZq,vJx,vJx,List.append_assoc]
 simp only[hrow] at hst;simp[Builtin.copy_,run_underlying underlying161,Builtin.lenOf,Builtin.firstCells,sizeOf,typeInfo,hi0,hz.2.1,<- hn,hl,hst]
theorem zW3{w:World}{g:Nat}{cur:List (Int×Int)}(hg:CArr w g cur)(l:List (Int×Int)):CArr (w.setRow g (chs l).toArray) g l:=setRow_heap w g _ _ _ _ hg
section
variable {w:World}{ops:Array Oper}{o:Oper}{a:Act}{Q:Exit->Act->World->Prop}
theorem zZm{rest:List Oper}(hgd:o.guard=none)(d s:Operand)
  (ho:o.op=.call { callee:=.builtin .copy,args:=#[d,s],argTypes:=#[161,161] })
  (g off dLen dCap:Nat) (ad:Addr) (sLen sCap:Nat) (hd:a.eval d=.slice (some ⟨g,off*2,none⟩) dLen dCap) (hs:a.eval s=.slice (some ad) sLen sCap)
  (cur cs:List (Int×Int)) (hg:CArr w g cur) (hn:cs.length=Nat.min sLen dLen) (hsrc:∀j v,(chs cs)[j]? = some v->w.cell? (ad.add j)=some v) (hfit:off+cs.length<=cur.length) (B:Nat) (w0:World) (hb:Below B w0 w) (hBg:B<=g)
  (h:∀w',Hid (CArr w' g (cur.take off++(cs++cur.drop (off+cs.length))))->Below B w0 w'->wpList prog ops Q rest (a.put o.dst (goInt cs.length)) w') :
  wpList prog ops Q (o::rest) a w:=by
 refine wpList_plain hgd fun K hK=>?_
 have hrun:=zXt w o.type g off dLen dCap ad sLen sCap cur cs hg hn hsrc hfit;unfold Oper.wp;simp[execOp,ho,resolve,invoke,builtin,hd,hs,hrun,Result.andThen];exact hK _ _ (h _ (lHd (zW3 hg _)) (below_setRow hb hBg _))
theorem zW4{K:Act->World->Prop}{E:Prop}(hgd:o.guard=none)(d s:Operand)
  (ho:o.op=.call { callee:=.builtin .copy,args:=#[d,s],argTypes:=#[161,161] })
  (g off dLen dCap:Nat) (ad:Addr) (sLen sCap:Nat) (hd:a.eval d=.slice (some ⟨g,off*2,none⟩) dLen dCap) (hs:a.eval s=.slice (some ad) sLen sCap)
  (cur cs:List (Int×Int)) (hg:CArr w g cur) (hn:cs.length=Nat.min sLen dLen) (hsrc:∀j v,(chs cs)[j]? = some v->w.cell? (ad.add j)=some v) (hfit:off+cs.length<=cur.length) (B:Nat) (w0:World) (hb:Below B w0 w) (hBg:B<=g)
  (h:∀w',Hid (CArr w' g (cur.take off++(cs++cur.drop (off+cs.length))))->Below B w0 w'->K (a.put o.dst (goInt cs.length)) w') :
  if Region.wanted o (yielded ops a.tmps)=true then Oper.wp prog o a w K Q else E:=by
 have hw:Region.wanted o (yielded ops a.tmps)=true:=by simp[Region.wanted,hgd]
 rw[if_pos hw];have hrun:=zXt w o.type g off dLen dCap ad sLen sCap cur cs hg hn hsrc hfit;unfold Oper.wp;simp[execOp,ho,resolve,invoke,builtin,hd,hs,hrun,Result.andThen];exact h _ (lHd (zW3 hg _)) (below_setRow hb hBg _)
end
theorem CArr.src{w:World}{g:Nat}{l:List (Int×Int)}(h:CArr w g l)(k:Nat)(hk:k<=l.length):∀j v,(chs (l.take k))[j]? = some v->w.cell? ((⟨g,0,none⟩:Addr).add j)=some v:=fun j v hv=>by
 rw[<- zVp] at hv;have hj:j<k*2:=by
  have:=(zQ1.1 hv).1;rw[List.length_take] at this;omega
 rw[List.getElem?_take_of_lt hj] at hv;rw[Addr.add_lit];exact(Arr.cell h _).trans (by simpa using hv)
theorem uX5(g n k:Nat)(hk:k<n)(hn:n<=9223372036854775807)(w:World):(Instr.slice 161 (.slice (some ⟨g,0,none⟩) n n) (some (.int .i64 (k:Int))) none none).run prog w=.ok (.slice (some ⟨g,k*2,none⟩) (n-k) (n-k)) w:=by
 have h0:(0:Int)<=k:=by omega
 have h1:(k:Int)<=n:=by omega
 have e:¬n=k:=by omega
 simp[go_sem,underlying161,sizeOf99,e,h0,h1,Addr.add_lit]
 try omega
theorem to_ch(g n k:Nat)(hk:k<=n)(hk0:0<k)(hn:n<=9223372036854775807)(w:World):(Instr.slice 161 (.slice (some ⟨g,0,none⟩) n n) none (some (.int .i64 (k:Int))) none).run prog w=.ok (.slice (some ⟨g,0,none⟩) k n) w:=by
 have h0:(0:Int)<=k:=by omega
 have h1:(k:Int)<=n:=by omega
 have e:¬n=0:=by omega
 simp[go_sem,underlying161,sizeOf99,e,h0,h1]
 try omega
def CRow(w:World)(g:Nat)(l:List (Int×Int)):Prop:=∃cur:Array Value,w.heap[g]? = some (.cells cur 99 (0,0))/\∀(k:Nat) (x:Value),(chs l)[k]? = some x->cur[k]? = some x
theorem CArr.crow{w:World}{g:Nat}{l:List (Int×Int)}(h:CArr w g l):CRow w g l:=⟨_,h,fun k x hx=>by simpa using hx⟩
theorem yWn{w:World}{base g n c:Nat}{l:List (Int×Int)}(h:w.ownsRow base 99 2 (.slice (some ⟨g,0,none⟩) n c) l.length (chs l)):CRow w g l:=by
 rcases h.2 with⟨h1,_⟩|⟨g',cap,cur,h1,h2,h3,h4,h5,h6,h7⟩
 ·cases h1
 ·injection h1 with e1 e2 e3
  injection e1 with e1
  injection e1 with e1
  subst e1;refine⟨cur,h3,fun k x hx=>?_⟩;rw[<- h7] at hx;have hk:k<l.length*2:=by
   have:=(zQ1.1 hx).1;rw[List.length_take] at this;omega
  rw[List.getElem?_take_of_lt hk] at hx;simpa using hx
theorem CRow.below{w w':World}{g:Nat}{l:List (Int×Int)}(h:CRow w g l)(hb:Below w.heap.size w w'):CRow w' g l:=by
 obtain⟨cur,h1,h2⟩:=h;refine⟨cur,(hb.block g ?_).trans h1,h2⟩;rcases vVq g w.heap.size with h|h
 ·exact h
 ·rw[yYd h] at h1;cases h1
theorem CRow.lt{w:World}{g:Nat}{l:List (Int×Int)}(h:CRow w g l):g<w.heap.size:=by
 obtain⟨cur,h1,h2⟩:=h;rcases vVq g w.heap.size with h|h
 ·exact h
 ·rw[yYd h] at h1;cases h1
theorem CRow.raw{w:World}{g:Nat}{l:List (Int×Int)}(h:CRow w g l)(k:Nat)(x:Value)(hx:(chs l)[k]? = some x):w.cell? ⟨g,k,none⟩=some x:=by
 obtain⟨cur,h1,h2⟩:=h;have:=h2 k x hx;simp[World.cell?,h1,this]
theorem CRow.free{w:World}{g:Nat}{l:List (Int×Int)}(h:CRow w g l)(k:Nat):w.frozen? ⟨g,k,none⟩=false:=by
 obtain⟨cur,h1,h2⟩:=h;simp[World.frozen?,h1]
theorem CRow.cell{w:World}{g:Nat}{l:List (Int×Int)}(h:CRow w g l){k:Nat}(hk:k<l.length):∃c v:Int,Hid (l[k]? = some (c,v))/\w.cell? ⟨g,k*2,none⟩=some (.int .i64 c)/\w.cell? ⟨g,k*2+1,none⟩=some (.int .i64 v):=by
 have e:=lGe hk;exact⟨l[k].1,l[k].2,lHd e,h.raw _ _ (vJy e),h.raw _ _ (vJz e)⟩
theorem CRow.src{w:World}{g:Nat}{l:List (Int×Int)}(h:CRow w g l):∀j v,(chs l)[j]? = some v->w.cell? ((⟨g,0,none⟩:Addr).add j)=some v:=fun j v hv=>by
 rw[Addr.add_lit];have:=h.raw j v hv;simpa using this
theorem vZr{w:World}{g j:Nat}{cs:List Value}{cur:Array Value}(h1:w.heap[g]? = some (.cells cur 99 (0,0)))(h2:∀(k:Nat) (x:Value),cs[k]? = some x->cur[k]? = some x)(u:Value) :
  ∃cur':Array Value,(w.setCell ⟨g,j,none⟩ u).heap[g]? = some (.cells cur' 99 (0,0))/\∀(k:Nat) (x:Value),(cs.set j u)[k]? = some x->cur'[k]? = some x:=by
 refine⟨cur.setIfInBounds j u,?_,fun k x hx=>?_⟩
 ·rw[setCell_eq_setRow w g j cur 99 (0,0) u h1];exact setRow_heap w g cur _ _ _ h1
 ·rw[List.getElem?_set] at hx
  by_cases hj:j=k
  ·subst hj;rw[if_pos rfl] at hx
   by_cases hl:j<cs.length
   ·rw[if_pos hl] at hx;injection hx with hx
    subst hx;have h3:=h2 j _ (lGe hl);have h4:=(vYs.1 h3).1;simp[h4]
   ·rw[if_neg hl] at hx;cases hx
  ·rw[if_neg hj] at hx;have h3:=h2 k x hx;rw[Array.getElem?_setIfInBounds_ne hj];exact h3
theorem CRow.set_{w:World}{g:Nat}{l:List (Int×Int)}(h:CRow w g l)(k:Nat)(c v:Int):CRow ((w.setCell ⟨g,k*2,none⟩ (.int .i64 c)).setCell ⟨g,k*2+1,none⟩ (.int .i64 v)) g (l.set k (c,v)):=by
 obtain⟨cur,h1,h2⟩:=h;obtain⟨cur1,h3,h4⟩:=vZr (j:=k*2) h1 h2 (.int .i64 c);obtain⟨cur2,h5,h6⟩:=vZr (j:=k*2+1) h3 h4 (.int .i64 v);rw[vX1 l k (c,v)] at h6;exact⟨cur2,h5,h6⟩
theorem CRow.far{w:World}{g:Nat}{l:List (Int×Int)}(h:CRow w g l){p:Addr}(hp:p.block≠g)(u:Value):CRow (w.setCell p u) g l:=by
 obtain⟨cur,h1,h2⟩:=h;exact⟨cur,(Below.heap_setCell w p u g (fun e=>hp e.symm)).trans h1,h2⟩
theorem yVs{α:Type}(p z:α)(k n:Nat)(hk:k<=n):(List.replicate k p++List.replicate (n-k) z).take k++(List.replicate (min k (n-k)) p++(List.replicate k p++List.replicate (n-k) z).drop (k+min k (n-k)))=List.replicate (k+min k (n-k)) p++List.replicate (n-(k+min k (n-k))) z:=by
 have h1:(List.replicate k p++List.replicate (n-k) z).take k=List.replicate k p:=by
  rw[List.take_append_of_le_length (by simp),zQd (by simp)]
 have h2:(List.replicate k p++List.replicate (n-k) z).drop (k+min k (n-k))=List.replicate (n-(k+min k (n-k))) z:=by
  rw[List.drop_append,List.drop_of_length_le (by simp),List.nil_append,List.length_replicate,List.drop_replicate];congr 1;omega
 rw[h1,h2,<- List.append_assoc,List.replicate_append_replicate]
theorem vYb(w:World)(ad:Addr)(c n:Nat)(p:Int×Int)(hsrc:∀j v,(chs [p])[j]? = some v->w.cell? (ad.add j)=some v)(hn:1<=n)(hn2:n<=65536) :
  Calls prog 97 #[.slice (some ad) 1 c,.int .i64 (n:Int)] w fun e w'=>∃g,e=.returned (.slice (some ⟨g,0,none⟩) n n)/\w.heap.size<=g/\CArr w' g (List.replicate n p)/\Below w.heap.size w w':=by
 have hmul:∀w:World,Calls prog 156 #[.int .u64 1,.int .u64 (n:Int)] w fun e w'=>e=.returned (.tuple #[.int .u64 0,.int .u64 (n:Int)])/\w=w':=fun w=>by
  refine(Any.bits_Mul yYg 1 n (by omega) (by omega) w).mono ?_;rintro e w' ⟨he,hw⟩;rw[show 1*n/18446744073709551616=0 by omega,show 1*n%18446744073709551616=n by omega] at he;exact⟨he,hw.symm⟩
 have hwn:IntKind.u64.wrap (n:Int)=(n:Int):=by rw[IntKind.wrap_u64];omega
 have hmk:=fun w=>yWm n (by omega) w
 have HS:=lHd hsrc;clear hsrc;go_enter func97,ntmps97
 go_wp2_with fail
 refine(hmul _).mono ?_;rintro e w' ⟨rfl,rfl⟩
 go_wp2_with ((refine zZm rfl (.tmp 31) (.tmp 32) rfl w.heap.size 0 n n ad 1 c rfl rfl (List.replicate n (0,0)) [p] (Arr.new w _ _) (Nat.min_eq_left (by omega)).symm ?p1 (by simp;omega) w.heap.size w bch (Nat.le_refl _) ?_;(case p1=>exact fun j v hv=>by have h:=HS.out j v hv;exact(yW0 bch (zQ2 _ _ h)).trans h);intro w1 hg1 hB1))
 go_wp2_with fail
 go_loopw [8] (fun x wr=>∃k:Nat,1<=k/\k<=n/\x=.int .i64 k/\Hid (CArr wr w.heap.size (List.replicate k p++List.replicate (n-k) (0,0)))/\Below w.heap.size w wr) (fun x _=>n-(intOf x).toNat)
 case atStart=>
  refine⟨1,Nat.le_refl _,hn,rfl,lHd ?_,hB1⟩;have h:=hg1.out;simpa using h
 case round=>
  obtain⟨k,hk1,hk,rfl,hg,hBr⟩:=hrel;obtain⟨w2,rfl⟩:∃wo:World,wo=wr:=⟨_,rfl⟩
  by_cases hlt:k<n
  ·have hc1:=fun w=>uX5 w.heap.size n k hlt (by omega) w
   obtain⟨m,hm⟩:∃m,m=min k (n-k):=⟨_,rfl⟩;have hkm:k+m<=n:=by omega
   have hm1:1<=m:=by omega
   obtain⟨cs,hcs⟩:∃cs,cs=List.replicate m p:=⟨_,rfl⟩;have hcl:cs.length=m:=by rw[hcs,List.length_replicate]
   have HCL:=lHd (show k+cs.length<=(List.replicate k p++List.replicate (n-k) (0,0)).length by rw[List.length_append,List.length_replicate,List.length_replicate];omega);have HSRC:=lHd (show ∀j v,(chs cs)[j]? = some v->w2.cell? ((⟨w.heap.size,0,none⟩:Addr).add j)=some v by
    have h:=CArr.src hg.out m (by rw[List.length_append,List.length_replicate,List.length_replicate];omega);rw[List.take_append_of_le_length (by rw[List.length_replicate];omega),List.take_replicate,Nat.min_eq_left (by omega),<- hcs] at h;exact h)
   have HML:=lHd (show cs.length=Nat.min k (n-k) from hcl.trans hm);have HRS:=lHd (show(List.replicate k p++List.replicate (n-k) (0,0)).take k++(cs++(List.replicate k p++List.replicate (n-k) (0,0)).drop (k+cs.length))=List.replicate (k+m) p++List.replicate (n-(k+m)) (0,0) by
    rw[hcl,hcs,hm];exact yVs p (0,0) k n hk)
   clear hcs hm;have hwkm:IntKind.i64.wrap ((k:Int)+(m:Int))=(k:Int)+(m:Int):=by rw[IntKind.wrap_i64];omega
   go_wp2_with fail
   go_region_law (refine zW4 rfl (.tmp 41) (.tmp 44) rfl w.heap.size k (n-k) (n-k) ⟨w.heap.size,0,none⟩ k n (by first|(simp[Act.eval,Act.put];done)|(simp[Act.eval,Act.put]<;>omega)) (by first|(simp[Act.eval,Act.put];done)|(simp[Act.eval,Act.put]<;>omega)) (List.replicate k p++List.replicate (n-k) (0,0)) cs hg.out HML.out HSRC.out HCL.out w.heap.size w bch (Nat.le_refl _) ?_;intro w3 hg3 hB3)
   go_wp2_with fail
   go_roundw
   case rel=>
    have h:=hg3.out;rw[HRS.out] at h
    first|exact⟨k+m,by omega,by omega,by first|go_num|omega,lHd h,hB3⟩|exact⟨k+m,by omega,by omega,by first|go_num|omega,lHd h⟩
   case measure=>simp[intOf];omega
  ·have hke:n-k=0:=by omega
   have HE:=lHd (show List.replicate k p++List.replicate (n-k) (0,0)=List.replicate n p by rw[hke,show k=n by omega];simp);rw[HE.out] at hg;clear hke
   go_wp2_with fail
   go_ret;exact⟨_,rfl,Nat.le_refl _,hg.out,hBr⟩
theorem vXa(w:World)(g n c:Nat)(l:List (Int×Int))(hI:CRow w g l)(hn:l.length=n)(hn1:1<=n)(hn2:n<=65536) :
  Calls prog 98 #[.slice (some ⟨g,0,none⟩) n c] w fun e w'=>∃g' c',e=.returned (.slice (some ⟨g',0,none⟩) n c')/\w.heap.size<=g'/\CRow w' g' l/\Below w.heap.size w w':=by
 obtain⟨i0,hi0,hz⟩:=vYt.1 vX2;simp only[Prod.mk.injEq] at hz;have hq:=fun(w:World) (a:Option Addr) (n c n' c':Nat)=>Lib.run_eql_slice_nil (P:=prog) w 161 99 a n c n' c' underlying161
 have HII:=lHd (fun j v hv=>CRow.src (hI.below (w':=w.alloc (.cells #[] 99)) bch) j v hv);have HCN:=lHd (show(chs l).length=n*2 by rw[zXs,hn]);clear hI;go_enter func98,ntmps98
 go_wp2_with (at_builtin;go_must (refine wpList_append_own _ rfl (.tmp 5) (.tmp 6) 161 rfl w.heap.size 99 i0 (.agg #[.int .i64 0,.int .i64 0]) 2 16 underlying161 hi0 hz.1 hz.2.1 hz.2.2 rfl (by decide) (.slice (some ⟨w.heap.size,0,none⟩) 0 0) 0 [] rfl (World.ownsRow_made w #[] 0 (Nat.le_refl _) (by decide) rfl) ⟨g,0,none⟩ n c (chs l) rfl HCN.out HII.out (vX0 l) ?p3 ?p4 ?p5 ?_;(case p3=>(simp only[maxLen];omega));(case p4=>omega);(case p5=>(simp<;>omega));intro v1 w1 h1 h2 h3))
 have h4:w1.ownsRow w.heap.size 99 2 v1 n (chs l):=by
  rw[Nat.zero_add,List.nil_append] at h1;exact h1
 have hB1:Below w.heap.size w w1:=xQc (base:=w.heap.size) (w:=w.alloc (.cells #[] 99)) bch (World.ownsRow_made w #[] 0 (Nat.le_refl _) (by decide) rfl:(w.alloc (.cells #[] 99)).ownsRow w.heap.size 99 2 (.slice (some ⟨w.heap.size,0,none⟩) 0 0) 0 []) h2 (by simp);obtain⟨g',c',rfl,hg'⟩:∃g' c',v1=.slice (some ⟨g',0,none⟩) n c'/\w.heap.size<=g':=by
  rcases h4.2 with⟨_,h5⟩|⟨g',cap,cur,e,h5,_⟩
  ·omega
  ·exact⟨g',cap,e,h5⟩
 have h5:CRow w1 g' l:=by
  rw[<- hn] at h4;exact yWn h4
 go_wp2;go_ret;exact⟨g',c',rfl,hg',h5,hB1⟩
