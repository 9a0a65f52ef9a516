/-
  Lemmas for the law: Ng, Nh, Ni, Nj, Nk, No, Np, Nq.
-/
import Derived.Test.YtpeipeljmapkmaaGreatW28
import Derived.Test.YtpeipeljmapkmaaGreatW16
import Derived.Test.YtpeipeljmapkmaaGreatW30
import Derived.BigQuiet
import Derived.Test.YtpeipeljmapkmaaGreatW31
set_option linter.unusedVariables false
set_option linter.unusedSimpArgs false
set_option maxRecDepth 100000
set_option maxHeartbeats 4000000
namespace Go.Proofs.YtpeipeljmapkmaaGreat
open Go.RowKit
def xJk:MtV:=⟨[2,2],[0,0],[(0,1),(1,1)],[⟨[],[(0,1)],2⟩,⟨[],[(1,1)],3⟩]⟩
theorem xKq(w:World)  :
  Calls Tryz.prog 33 #[] w fun e w'=>∃ As Ai Ag Ao cs ci cg co,e=.returned (.agg #[.slice As xJk.sizes.length cs,.slice Ai xJk.init.length ci,.slice Ag xJk.goal.length cg,.slice Ao xJk.ops.length co])/\MMem w' As Ai Ag Ao xJk/\Below w.heap.size w w':=by
 go_enter Tryz.func33,Tryz.ntmps33;go_wp2;refine bodyPost_ret (v:=.agg #[.slice (some ⟨w.heap.size+1+1+1,0,none⟩) 2 2,.slice (some ⟨w.heap.size+1+1+1+1,0,none⟩) 2 2,.slice (some ⟨w.heap.size+1+1+1+1+1,0,none⟩) 2 2,.slice (some ⟨w.heap.size+1+1+1+1+1+1+1+1,0,none⟩) 2 2]) ?_ rfl ⟨some ⟨w.heap.size+1+1+1,0,none⟩,some ⟨w.heap.size+1+1+1+1,0,none⟩,some ⟨w.heap.size+1+1+1+1+1,0,none⟩,some ⟨w.heap.size+1+1+1+1+1+1+1+1,0,none⟩,2,2,2,2,rfl,⟨?_,?_,?_,?_,by unfold lenOk;decide,by unfold lenOk;decide,by unfold lenOk;decide,by unfold lenOk;decide⟩,bch⟩
 ·simp[results,Tryz.results33,go_sem]
 ·intro j u hu;rcases j with _ | _ | j <;> simp[xJk] at hu <;> subst hu <;> exact⟨_,rfl,by simp[go_sem]⟩
 ·intro j u hu;rcases j with _ | _ | j <;> simp[xJk] at hu <;> subst hu <;> exact⟨_,rfl,by simp[go_sem]⟩
 ·intro j u hu;rcases j with _ | _ | j <;> simp[xJk] at hu <;> subst hu <;> exact⟨_,rfl,by simp[go_sem],by simp[go_sem]⟩
 ·intro j u hu;rcases j with _ | _ | j <;> simp[xJk] at hu <;> subst hu
  ·refine⟨_,none,0,some ⟨w.heap.size+1+1+1+1+1+1,0,none⟩,1,rfl,by simp[go_sem],by simp[go_sem],by simp[go_sem],⟨AsAt.nil _ _,?_⟩,by unfold lenOk;decide,by unfold lenOk;decide⟩;intro k x hx;rcases k with _ | k <;> simp at hx <;> subst hx <;> exact⟨_,rfl,by simp[go_sem],by simp[go_sem]⟩
  ·refine⟨_,none,0,some ⟨w.heap.size+1+1+1+1+1+1+1,0,none⟩,1,rfl,by simp[go_sem],by simp[go_sem],by simp[go_sem],⟨AsAt.nil _ _,?_⟩,by unfold lenOk;decide,by unfold lenOk;decide⟩;intro k x hx;rcases k with _ | k <;> simp at hx <;> subst hx <;> exact⟨_,rfl,by simp[go_sem],by simp[go_sem]⟩
def yJ5(w:World)(row:Option Nat)(cs:List Value)(r:Unit):Prop:=True
theorem zQg:Stable yJ5:=⟨fun _ _=>trivial,fun _ _=>⟨trivial,trivial⟩⟩
def OwnT(base:Nat)(w:World)(v:Value)(n:Nat):Prop:=OwnEs yJ5 160 3 base w v (List.replicate n ())
theorem xV0(w:World)(bb:Nat)(atv y:Int)(A:Option Addr)(c:Nat)(l:List (Int×Int))(hA:AsAt w A l)(hll:l.length<=9223372036854775807)(hb:w.cell? ⟨bb,0,none⟩=some (.int .i64 atv)) :
  Calls Tryz.prog 84 #[.slice A l.length c,.int .i64 y,.pointer (some ⟨bb,0,none⟩)] w fun e w'=>∃ x:Int,e=.returned (.int .i64 x)/\Below w.heap.size w w':=by
 have hbl:=World.block_lt_of_cell? w _ hb;go_enter Tryz.func84,Tryz.ntmps84
 go_wp2_with fail
 go_loopw [10] (fun i wr=>∃ k:Nat,k<=l.length/\i=.int .i64 (k:Int)/\Below w.heap.size w wr) (fun i _=>l.length - (intOf i).toNat)
 case atStart=>exact⟨0,Nat.zero_le _,rfl,bch⟩
 case round=>
  obtain⟨k,hk,rfl,hBr⟩:=hrel;obtain⟨wk,rfl⟩:∃ wo:World,wo=wr:=⟨_,rfl⟩;have hbk:=(hBr.cell hbl).trans hb;have hbkl:=World.block_lt_of_cell? wk _ hbk
  by_cases hlt:k < l.length
  ·obtain⟨ad,v,x,rfl,hx,hc0,hc1⟩:=(hA.below hBr).at_ (k:=k) hlt
   by_cases hva:v=atv
   ·have hva':(v == atv)=true:=by simp[hva]
    go_wp2;go_ret;exact⟨⟨x,rfl⟩,bch⟩
   ·have hva':(v == atv)=false:=by simp[hva]
    go_wp2
    go_roundw
    case rel=>exact⟨k+1,by omega,by go_num,bch⟩
    case measure=>simp[intOf];omega
  ·obtain rfl:k=l.length:=by omega
   go_wp2;go_ret;exact⟨⟨y,rfl⟩,hBr⟩
theorem zQh{ops:Array Oper}{rest:List Oper}{o:Oper}{a:Act}{w:World}{Q:Exit->Act->World->Prop}(hgd:o.guard=none)(s x:Operand)
  (ho:o.op=.call { callee:=.builtin .append,args:=#[s,x],argTypes:=#[22,22] })
  (base:Nat) (v:Value) (xs:List Int) (y:Int) (hs:a.eval s=v) (hown:OwnI base w v xs) (ad:Addr) (m:Nat) (hx:a.eval x=.slice (some ad) 1 m) (hc:w.cell? ad=some (.int .i64 y))
  (hlen:xs.length < 1000000000000) (hbase:base<=w.heap.size)
  (h:∀ g cap w',OwnI base w' (.slice (some ⟨g,0,none⟩) (xs.length+1) cap) (xs ++ [y])->w.grownBy w' v.ownBlock->(v.ownBlock=some g\/g=w.heap.size)->g < w'.heap.size->wpList Tryz.prog ops Q rest (a.put o.dst (.slice (some ⟨g,0,none⟩) (xs.length+1) cap)) w') :
  wpList Tryz.prog ops Q (o :: rest) a w:=by
 obtain⟨i0,hi0,hz⟩:=Option.map_eq_some_iff.1 xXx;simp only[Prod.mk.injEq] at hz;refine wpList_append_lies w hgd s x 22 ho base 3 i0 (.int .i64 0) 1 8 Tryz.underlying22 hi0 hz.1 hz.2.1 hz.2.2 rfl (by decide) v xs.length (xs.map (Value.int .i64)) hs hown ad 1 m [.int .i64 y] hx rfl ?_ ?_ (by decide) ?_ ?_ hbase _ rfl ?_
 ·intro j u hu
  cases j with
  | zero=>simp at hu;subst hu;rw[add_zero];exact hc
  | succ j=>simp at hu
 ·intro u hu;simp at hu;subst hu;rfl
 ·simp only[maxLen];omega
 ·omega
 ·intro g cap w' h1 h2 h3 h4;refine h g cap w' ?_ h2 h3 h4;unfold OwnI;rw[List.length_append,List.map_append];exact h1
theorem vQ7:(Tryz.prog.info? 160).map (fun i=>(i.zero,i.size,i.bytes))=some (some (.agg #[.int .i64 0,.int .i64 0,.int .i64 0]),3,24):=by kernel_rfl
theorem OwnT.below{base:Nat}{w w':World}{v:Value}{n:Nat}(h:OwnT base w v n)(hb:Below w.heap.size w w'):OwnT base w' v n:=OwnEs.below zQg h hb
theorem OwnT.far{base:Nat}{w:World}{v:Value}{n:Nat}(h:OwnT base w v n){p:Addr}(hp:p.block < base)(u:Value):OwnT base (w.setCell p u) v n:=OwnEs.far h (fun _ _=>trivial) hp u
theorem OwnT.kept{base:Nat}{w w':World}{v:Value}{n:Nat}{row:Option Nat}(h:OwnT base w v n)(hg:w.grownBy w' row)(hne:v.ownBlock=none\/v.ownBlock≠row):OwnT base w' v n:=by
 obtain⟨cells,h1,h2⟩:=h;exact⟨cells,h1.kept hg hne,fun i a ha=>trivial⟩
theorem OwnI.kept{base:Nat}{w w':World}{v:Value}{xs:List Int}{row:Option Nat}(h:OwnI base w v xs)(hg:w.grownBy w' row)(hne:v.ownBlock=none\/v.ownBlock≠row):OwnI base w' v xs:=World.ownsRow.kept h hg hne
def BlkNe(a b:Value):Prop:=∀ g,a.ownBlock=some g->b.ownBlock≠some g
theorem BlkNe.ne{a b:Value}(h:BlkNe a b):a.ownBlock=none\/a.ownBlock≠b.ownBlock:=by
 cases e:a.ownBlock with
 | none=>exact .inl rfl
 | some g=>exact .inr (fun k=>h g e k.symm)
theorem zJ9{ops:Array Oper}{o:Oper}{a:Act}{w:World}{K:Act->World->Prop}{Q:Exit->Act->World->Prop}{E:Prop}(hgd:o.guard=none)(s x:Operand)
  (ho:o.op=.call { callee:=.builtin .append,args:=#[s,x],argTypes:=#[78,78] })
  (base:Nat) (v:Value) (n:Nat) (hs:a.eval s=v) (hown:OwnT base w v n) (ad:Addr) (m:Nat) (hx:a.eval x=.slice (some ad) 1 m) (news:List Value) (hnl:news.length=3) (hnews:∀ j u,news[j]? = some u->w.cell? (ad.add j)=some u) (h1:∀ u∈news,u.oneCell'=true)
  (hlen:n < 1000000) (hbase:base<=w.heap.size)
  (h:∀ g cap w',OwnT base w' (.slice (some ⟨g,0,none⟩) (n+1) cap) (n+1)->w.grownBy w' v.ownBlock->(v.ownBlock=some g\/g=w.heap.size)->g < w'.heap.size->K (a.put o.dst (.slice (some ⟨g,0,none⟩) (n+1) cap)) w') :
  if Region.wanted o (yielded ops a.tmps)=true then Oper.wp Tryz.prog o a w K Q else E:=by
 obtain⟨i0,hi0,hz⟩:=Option.map_eq_some_iff.1 vQ7;simp only[Prod.mk.injEq] at hz;obtain⟨cells,hr,hcs⟩:=hown;rw[List.length_replicate] at hr;refine step_append_lies w hgd s x 78 ho base 160 i0 (.agg #[.int .i64 0,.int .i64 0,.int .i64 0]) 3 24 Tryz.underlying78 hi0 hz.1 hz.2.1 hz.2.2 rfl (by decide) v n cells hs hr ad 1 m news hx (by omega) hnews h1 (by decide) (by simp only[maxLen];omega) (by omega) hbase _ rfl ?_;intro g cap w' h2 h3 h4 h5;exact h g cap w' ⟨cells ++ news,by rw[List.length_replicate];exact h2,fun i a ha=>trivial⟩ h3 h4 h5
theorem BlkNe.symm{a b:Value}(h:BlkNe a b):BlkNe b a:=fun g e k=>h g k e
theorem zKn(w:World)(m:MtV)(As Ai Ag Ao:Option Addr)(cs ci cg co:Nat)(hM:MMem w As Ai Ag Ao m)(h:MValid m)(a:Nat)(hat:a < m.sizes.length) :
  Calls Tryz.prog 34 #[.agg #[.slice As m.sizes.length cs,.slice Ai m.init.length ci,.slice Ag m.goal.length cg,.slice Ao m.ops.length co],.int .i64 (a:Int)] w fun e w'=>∃ (sz x1 x3:Int) (A2 A4:Option Addr) (n2 c2 n4 c4:Nat),e=.returned (.tuple #[.agg #[.int .i64 sz,.int .i64 x1,.slice A2 n2 c2,.int .i64 x3,.slice A4 n4 c4],.agg #[.int .i64 0,.int .i64 0]])/\m.sizes[a]? = some sz/\Below w.heap.size w w':=by
 have HM:=lHd hM;have hv:=lHd h;have ho40:=h.nops;have hl8:=h.v1;have HOP:=lHd h.ops;have hil:m.init.length=m.sizes.length:=h.init.len;have hai:a < m.init.length:=by omega
 have hg8:=h.goal.len8;have ha1:(a:Int) < (m.sizes.length:Int):=by omega
 have ha2:(a:Int) < (m.init.length:Int):=by omega
 clear hM h hil;go_enter Tryz.func34,Tryz.ntmps34
 go_wp2_with fail
 refine (xXf _ _ _ _ _ _ _ _ _ _ (HM.out.below bch)).mono ?_;rintro e w1 ⟨he,hB1⟩;have D1:=xJ4 w hB1 bch;have C1:=Cls.below (l:=[(w.heap.size,0,.slice As m.sizes.length cs),(w.heap.size,1,.slice Ai m.init.length ci),(w.heap.size,2,.slice Ag m.goal.length cg),(w.heap.size,3,.slice Ao m.ops.length co),(w.heap.size+1,0,.int .i64 ((a:Int))),(w.heap.size+1+1,0,.int .i64 0),(w.heap.size+1+1,1,.int .i64 0),(w.heap.size+1+1,2,.slice none 0 0),(w.heap.size+1+1,3,.int .i64 0),(w.heap.size+1+1,4,.slice none 0 0),(w.heap.size+1+1+1,0,.int .i64 0),(w.heap.size+1+1+1,1,.int .i64 0)]) hB1 (by simp[Cls,go_sem]);have F1:=C1;simp only[Cls,and_true] at F1;have y1w3:w.heap.size+1+1+1 < w1.heap.size:=C1.blk (b:=w.heap.size+1+1+1) (k:=0) (v:=.int .i64 0) (by simp);have y1w2:w.heap.size+1+1 < w1.heap.size:=(by omega);have y1w1:w.heap.size+1 < w1.heap.size:=(by omega);have y1w0:w.heap.size < w1.heap.size:=(by omega);have y1wp1:w.heap.size < w1.heap.size+1:=(by omega);have he:=he.yes hv.out;subst he;obtain⟨sd,sz,hAs,hsz,hsc⟩:=(HM.out.sizes.below D1).at_ (k:=a) hat;subst hAs;obtain⟨idd,x0,hAi,hx0,hic⟩:=(HM.out.init.below D1).at_ (k:=a) hai;subst hAi;have hsl:=World.block_lt_of_cell? w1 _ hsc;have hil:=World.block_lt_of_cell? w1 _ hic;have hszr:=hv.out.sz sz (lMg hsz.out);have HSZ:=lHd hsz.out;obtain⟨zn,hzn⟩:=Int.eq_ofNat_of_zero_le (show 0<=sz by omega)
 go_wp2_with fail
 have hSS0:(w1.alloc (.cells #[.int .i64 0,.int .i64 0] 27)).drew.cell? ⟨w.heap.size,0,none⟩=some (.slice (some sd) m.sizes.length cs)/\(w1.alloc (.cells #[.int .i64 0,.int .i64 0] 27)).drew.cell? ⟨w.heap.size,1,none⟩=some (.slice (some idd) m.init.length ci)/\(w1.alloc (.cells #[.int .i64 0,.int .i64 0] 27)).drew.cell? ⟨w.heap.size,2,none⟩=some (.slice Ag m.goal.length cg)/\(w1.alloc (.cells #[.int .i64 0,.int .i64 0] 27)).drew.cell? ⟨w.heap.size,3,none⟩=some (.slice Ao m.ops.length co)/\(w1.alloc (.cells #[.int .i64 0,.int .i64 0] 27)).drew.cell? ⟨w.heap.size+1,0,none⟩=some (.int .i64 (a:Int))/\(w1.alloc (.cells #[.int .i64 0,.int .i64 0] 27)).drew.cell? (sd.add a)=some (.int .i64 sz)/\(w1.alloc (.cells #[.int .i64 0,.int .i64 0] 27)).drew.cell? (idd.add a)=some (.int .i64 x0):=by simp[go_sem,hsl,hil,hsc,hic,F1,y1w3,y1w2,y1w1,y1w0,y1wp1]
 refine xJg (fun W=>W.cell? ⟨w.heap.size,0,none⟩=some (.slice (some sd) m.sizes.length cs)/\W.cell? ⟨w.heap.size,1,none⟩=some (.slice (some idd) m.init.length ci)/\W.cell? ⟨w.heap.size,2,none⟩=some (.slice Ag m.goal.length cg)/\W.cell? ⟨w.heap.size,3,none⟩=some (.slice Ao m.ops.length co)/\W.cell? ⟨w.heap.size+1,0,none⟩=some (.int .i64 (a:Int))/\W.cell? (sd.add a)=some (.int .i64 sz)/\W.cell? (idd.add a)=some (.int .i64 x0)) [15] (by kernel_rfl) ?_;have hSS:=hSS0;refine xJ0 (i:=0) (v:=?vz10) rfl (by kernel_rfl) (by kernel_rfl) (by kernel_rfl) (by kernel_rfl) (by kernel_rfl) (fun _ _ _ h=>h) (Or.inl ⟨by rfl,?hz10⟩) (by assumption) ?rz10
 case hz10=>(intro w hSw;(try dsimp only at hSw);go_simp;(try with_reducible rfl))
 try simp only[ap]
 refine xJ0 (i:=1) (v:=?vz11) rfl (by kernel_rfl) (by kernel_rfl) (by kernel_rfl) (by kernel_rfl) (by kernel_rfl) (fun _ _ _ h=>h) (Or.inl ⟨by rfl,?hz11⟩) (by assumption) ?rz11
 case hz11=>(intro w hSw;(try dsimp only at hSw);go_simp;(try with_reducible rfl))
 try simp only[ap]
 refine xJ0 (i:=2) (v:=?vz12) rfl (by kernel_rfl) (by kernel_rfl) (by kernel_rfl) (by kernel_rfl) (by kernel_rfl) (fun _ _ _ h=>h) (Or.inl ⟨by rfl,?hz12⟩) (by assumption) ?rz12
 case hz12=>(intro w hSw;(try dsimp only at hSw);go_simp;(try with_reducible rfl))
 try simp only[ap]
 refine xJ0 (i:=3) (v:=?vz13) rfl (by kernel_rfl) (by kernel_rfl) (by kernel_rfl) (by kernel_rfl) (by kernel_rfl) (fun _ _ _ h=>h) (Or.inl ⟨by rfl,?hz13⟩) (by assumption) ?rz13
 case hz13=>(intro w hSw;(try dsimp only at hSw);go_simp;(try with_reducible rfl))
 try simp only[ap]
 refine xJ0 (i:=4) (v:=?vz14) rfl (by kernel_rfl) (by kernel_rfl) (by kernel_rfl) (by kernel_rfl) (by kernel_rfl) (fun _ _ _ h=>h) (Or.inl ⟨by rfl,?hz14⟩) (by assumption) ?rz14
 case hz14=>(intro w hSw;(try dsimp only at hSw);go_simp;(try with_reducible rfl))
 try simp only[ap]
 refine xJ0 (i:=5) (v:=?vz15) rfl (by kernel_rfl) (by kernel_rfl) (by kernel_rfl) (by kernel_rfl) (by kernel_rfl) (fun _ _ _ h=>h) (Or.inl ⟨by rfl,?hz15⟩) (by assumption) ?rz15
 case hz15=>(intro w hSw;(try dsimp only at hSw);go_simp;(try with_reducible rfl))
 try simp only[ap]
 refine xJ0 (i:=6) (v:=?vz16) rfl (by kernel_rfl) (by kernel_rfl) (by kernel_rfl) (by kernel_rfl) (by kernel_rfl) (fun _ _ _ h=>h) (Or.inl ⟨by rfl,?hz16⟩) (by assumption) ?rz16
 case hz16=>(intro w hSw;(try dsimp only at hSw);go_simp;(try with_reducible rfl))
 try simp only[ap]
 refine xJ0 (i:=7) (v:=?vz17) rfl (by kernel_rfl) (by kernel_rfl) (by kernel_rfl) (by kernel_rfl) (by kernel_rfl) (fun _ _ _ h=>h) (Or.inl ⟨by rfl,?hz17⟩) (by assumption) ?rz17
 case hz17=>(intro w hSw;(try dsimp only at hSw);go_simp;(try with_reducible rfl))
 try simp only[ap]
 refine xJ0 (i:=8) (v:=?vz18) rfl (by kernel_rfl) (by kernel_rfl) (by kernel_rfl) (by kernel_rfl) (by kernel_rfl) (fun _ _ _ h=>h) (Or.inl ⟨by rfl,?hz18⟩) (by assumption) ?rz18
 case hz18=>(intro w hSw;(try dsimp only at hSw);go_simp;(try with_reducible rfl))
 try simp only[ap]
 refine xJ0 (i:=9) (v:=?vz19) rfl (by kernel_rfl) (by kernel_rfl) (by kernel_rfl) (by kernel_rfl) (by kernel_rfl) (fun _ _ _ h=>h) (Or.inl ⟨by rfl,?hz19⟩) (by assumption) ?rz19
 case hz19=>(intro w hSw;(try dsimp only at hSw);go_simp;(try with_reducible rfl))
 try simp only[ap]
 refine xJ0 (i:=10) (v:=?vz110) rfl (by kernel_rfl) (by kernel_rfl) (by kernel_rfl) (by kernel_rfl) (by kernel_rfl) (fun _ _ _ h=>h) (Or.inl ⟨by rfl,?hz110⟩) (by assumption) ?rz110
 case hz110=>(intro w hSw;(try dsimp only at hSw);go_simp;(try with_reducible rfl))
 try simp only[ap]
 refine xJ0 (i:=11) (v:=?vz111) rfl (by kernel_rfl) (by kernel_rfl) (by kernel_rfl) (by kernel_rfl) (by kernel_rfl) (fun _ _ _ h=>h) (Or.inl ⟨by rfl,?hz111⟩) (by assumption) ?rz111
 case hz111=>(intro w hSw;(try dsimp only at hSw);go_simp;(try with_reducible rfl))
 try simp only[ap]
 refine xJ0 (i:=12) (v:=?vz112) rfl (by kernel_rfl) (by kernel_rfl) (by kernel_rfl) (by kernel_rfl) (by kernel_rfl) (fun _ _ _ h=>h) (Or.inl ⟨by rfl,?hz112⟩) (by assumption) ?rz112
 case hz112=>(intro w hSw;(try dsimp only at hSw);go_simp;(try with_reducible rfl))
 try simp only[ap]
 refine xJ0 (i:=13) (v:=?vz113) rfl (by kernel_rfl) (by kernel_rfl) (by kernel_rfl) (by kernel_rfl) (by kernel_rfl) (fun _ _ _ h=>h) (Or.inl ⟨by rfl,?hz113⟩) (by assumption) ?rz113
 case hz113=>(intro w hSw;(try dsimp only at hSw);go_simp;(try with_reducible rfl))
 try simp only[ap]
 refine xJ3 (i:=14) (by kernel_rfl) rfl (fun K hK=>?_);go_simp
 go_wp2_with fail
 have hSS:((w1.alloc (.cells #[.int .i64 0,.int .i64 0] 27)).drew.alloc (.cells #[.int .i64 0,.int .i64 0,.slice none 0 0,.int .i64 0,.slice none 0 0] 80)).cell? ⟨w.heap.size,0,none⟩=some (.slice (some sd) m.sizes.length cs)/\((w1.alloc (.cells #[.int .i64 0,.int .i64 0] 27)).drew.alloc (.cells #[.int .i64 0,.int .i64 0,.slice none 0 0,.int .i64 0,.slice none 0 0] 80)).cell? ⟨w.heap.size,1,none⟩=some (.slice (some idd) m.init.length ci)/\((w1.alloc (.cells #[.int .i64 0,.int .i64 0] 27)).drew.alloc (.cells #[.int .i64 0,.int .i64 0,.slice none 0 0,.int .i64 0,.slice none 0 0] 80)).cell? ⟨w.heap.size,2,none⟩=some (.slice Ag m.goal.length cg)/\((w1.alloc (.cells #[.int .i64 0,.int .i64 0] 27)).drew.alloc (.cells #[.int .i64 0,.int .i64 0,.slice none 0 0,.int .i64 0,.slice none 0 0] 80)).cell? ⟨w.heap.size,3,none⟩=some (.slice Ao m.ops.length co)/\((w1.alloc (.cells #[.int .i64 0,.int .i64 0] 27)).drew.alloc (.cells #[.int .i64 0,.int .i64 0,.slice none 0 0,.int .i64 0,.slice none 0 0] 80)).cell? ⟨w.heap.size+1,0,none⟩=some (.int .i64 (a:Int))/\((w1.alloc (.cells #[.int .i64 0,.int .i64 0] 27)).drew.alloc (.cells #[.int .i64 0,.int .i64 0,.slice none 0 0,.int .i64 0,.slice none 0 0] 80)).cell? (sd.add a)=some (.int .i64 sz)/\((w1.alloc (.cells #[.int .i64 0,.int .i64 0] 27)).drew.alloc (.cells #[.int .i64 0,.int .i64 0,.slice none 0 0,.int .i64 0,.slice none 0 0] 80)).cell? (idd.add a)=some (.int .i64 x0):=(by simp[go_sem,hsl,hil,hsc,hic,F1,y1w3,y1w2,y1w1,y1w0,y1wp1]);refine hK.out _ _ hSS ?_;clear hK K
 try simp only[ap]
 refine xJc (i:=15) (by kernel_rfl) rfl (by kernel_rfl) (fun K hK=>?_);go_simp
 go_wp2_with fail
 refine hK.out _ _ ?_;clear hK K
 try simp only[ap]
 refine xJ7 (by kernel_rfl) ?_ _;subst hzn
 go_wp2_with fail
 go_loopw [47] (fun i wr=>∃ (y:Nat),y<=zn/\i=.int .i64 (y:Int)/\∃ (vT vG:Value) (nT:Nat) (gs:List Int),OwnT (w1.heap.size+1+1) wr vT nT/\nT<=40 * y/\OwnI (w1.heap.size+1+1) wr vG gs/\gs.length<=y/\BlkNe vT vG/\Below w.heap.size w wr/\Cls wr [(w.heap.size,0,.slice (some sd) m.sizes.length cs),(w.heap.size,1,.slice (some idd) m.init.length ci),(w.heap.size,2,.slice Ag m.goal.length cg),(w.heap.size,3,.slice Ao m.ops.length co),(w.heap.size+1,0,.int .i64 ((a:Int))),(w.heap.size+1+1,0,.int .i64 0),(w.heap.size+1+1,1,.int .i64 0),(w.heap.size+1+1,2,.slice none 0 0),(w.heap.size+1+1,3,.int .i64 0),(w.heap.size+1+1,4,.slice none 0 0),(w.heap.size+1+1+1,0,.int .i64 0),(w.heap.size+1+1+1,1,.int .i64 0),(w1.heap.size+1,0,(.int .i64 (zn:Int))),(w1.heap.size+1,1,.int .i64 ((m.ops.length:Int))),(w1.heap.size+1,2,vT),(w1.heap.size+1,3,.int .i64 x0),(w1.heap.size+1,4,vG)]) (fun i _=>zn - (intOf i).toNat)
 case atStart=>exact⟨0,Nat.zero_le _,rfl,.slice none 0 0,.slice none 0 0,0,[],OwnEs.nil _ _,Nat.zero_le _,OwnI.nil _ _,Nat.zero_le _,(fun g e=>by cases e),bch,(by simp[Cls,go_sem,F1,y1w3,y1w2,y1w1,y1w0,y1wp1])⟩
 case round=>
  obtain⟨y,hy,rfl,vT,vG,nT,gs,hoT,hnT,hoG,hnG,hne,hBr,hCr⟩:=hrel;obtain⟨wk,rfl⟩:∃ wo:World,wo=wr:=⟨_,rfl⟩;have Fr:=hCr;simp only[Cls,and_true] at Fr;have yrw3:w.heap.size+1+1+1 < wk.heap.size:=hCr.blk (b:=w.heap.size+1+1+1) (k:=0) (v:=.int .i64 0) (by simp);have yrw11:w1.heap.size+1 < wk.heap.size:=hCr.blk (b:=w1.heap.size+1) (k:=0) (v:=.int .i64 ((zn:Int))) (by simp)
  by_cases hyl:y < zn
  ·skip
   go_wp2_with fail
   refine (xV0 _ (w.heap.size+1) (a:Int) (y:Int) Ag cg m.goal (HM.out.goal.below bch) (by omega) (by simp[go_sem,Fr,yrw3,yrw11])).mono ?_;rintro e w11 ⟨x,rfl,hB11⟩;have D11:=xJ4 w hB11 bch;have Ewk_11:=xJ4 wk hB11 bch;have C11:=Cls.below (l:=[(w.heap.size,0,.slice (some sd) m.sizes.length cs),(w.heap.size,1,.slice (some idd) m.init.length ci),(w.heap.size,2,.slice Ag m.goal.length cg),(w.heap.size,3,.slice Ao m.ops.length co),(w.heap.size+1,0,.int .i64 ((a:Int))),(w.heap.size+1+1,0,.int .i64 0),(w.heap.size+1+1,1,.int .i64 0),(w.heap.size+1+1,2,.slice none 0 0),(w.heap.size+1+1,3,.int .i64 0),(w.heap.size+1+1,4,.slice none 0 0),(w.heap.size+1+1+1,0,.int .i64 0),(w.heap.size+1+1+1,1,.int .i64 0),(w1.heap.size+1,0,.int .i64 ((zn:Int))),(w1.heap.size+1,1,.int .i64 ((m.ops.length:Int))),(w1.heap.size+1,2,vT),(w1.heap.size+1,3,.int .i64 x0),(w1.heap.size+1,4,vG)]) hB11 (by simp[Cls,go_sem,Fr,yrw3,yrw11]);have F11:=C11;simp only[Cls,and_true] at F11;have y11w3:w.heap.size+1+1+1 < w11.heap.size:=C11.blk (b:=w.heap.size+1+1+1) (k:=0) (v:=.int .i64 0) (by simp);have y11w11:w1.heap.size+1 < w11.heap.size:=C11.blk (b:=w1.heap.size+1) (k:=0) (v:=.int .i64 ((zn:Int))) (by simp);have hoT1:=hoT.below bch;have hoG1:=hoG.below bch;have hlG:=lHd (fun g (e:vG.ownBlock=some g)=>World.ownsRow.lt hoG1 g e);have hlen:gs.length < 1000000000000:=by omega
   by_cases hxy:x=(y:Int)
   ·have hxy':(x == (y:Int))=true:=by simp[hxy]
    have hneT:=lHd (fun g (e:vT.ownBlock=some g)=>(OwnEs.lt hoT1 g e).2)
    go_wp2_with (at_builtin;go_must (refine zQh rfl (.tmp 58) (.tmp 60) rfl (w1.heap.size+1+1) vG gs (y:Int) rfl (hoG1.below bch) ⟨w11.heap.size,0,none⟩ 1 rfl (by simp[go_sem]) hlen (by simp;omega) ?_;intro g5 q5 w5 o5 G5 g5or g5lt;have F5:=Cls.grown1 (Cls.below (l:=[(w.heap.size,0,.slice (some sd) m.sizes.length cs),(w.heap.size,1,.slice (some idd) m.init.length ci),(w.heap.size,2,.slice Ag m.goal.length cg),(w.heap.size,3,.slice Ao m.ops.length co),(w.heap.size+1,0,.int .i64 ((a:Int))),(w.heap.size+1+1,0,.int .i64 0),(w.heap.size+1+1,1,.int .i64 0),(w.heap.size+1+1,2,.slice none 0 0),(w.heap.size+1+1,3,.int .i64 0),(w.heap.size+1+1,4,.slice none 0 0),(w.heap.size+1+1+1,0,.int .i64 0),(w.heap.size+1+1+1,1,.int .i64 0),(w1.heap.size+1,0,.int .i64 ((zn:Int))),(w1.heap.size+1,1,.int .i64 ((m.ops.length:Int))),(w1.heap.size+1,2,vT),(w1.heap.size+1,3,.int .i64 x0),(w1.heap.size+1,4,vG)]) (w:=w11) (w':=(w11.alloc (.cells #[.int .i64 (y:Int)] 3))) bch C11) G5 (fun z hz e=>by have h1:=(hlG.out _ e);simp at hz;rcases hz with rfl | rfl | rfl | rfl | rfl | rfl | rfl | rfl | rfl | rfl | rfl | rfl | rfl | rfl | rfl | rfl | rfl <;> dsimp only at h1 <;> omega);have C5:=F5;simp only[Cls,and_true] at F5;have hs5:=G5.size;simp at hs5))
    have B5:Below w.heap.size w w5:=Below.grown (w:=(w11.alloc (.cells #[.int .i64 (y:Int)] 3))) bch G5 (by simp;omega) (fun b hb=>by have:=(hlG.out b hb).1;omega);have hoT5:=OwnT.kept (hoT1.below (w':=(w11.alloc (.cells #[.int .i64 (y:Int)] 3))) bch) G5 hne.ne;have hne5:BlkNe vT (.slice (some ⟨g5,0,none⟩) (gs.length+1) q5):=fun g e h=>by have e2:g5=g:=Option.some.inj h;subst e2;rcases g5or with h2 | h2;exact hne _ e h2;have:=hneT.out _ e;simp at h2;omega
    go_wp2_with fail
    go_loopw [66] (fun i wr=>∃ (j:Nat),j<=m.ops.length/\i=.int .i64 (j:Int)/\∃ (vU:Value) (nU:Nat),OwnT (w1.heap.size+1+1) wr vU nU/\nU<=40 * y+j/\OwnI (w1.heap.size+1+1) wr (.slice (some ⟨g5,0,none⟩) (gs.length+1) q5) (gs ++ [(y:Int)])/\BlkNe vU (.slice (some ⟨g5,0,none⟩) (gs.length+1) q5)/\Below w.heap.size w wr/\Cls wr [(w.heap.size,0,.slice (some sd) m.sizes.length cs),(w.heap.size,1,.slice (some idd) m.init.length ci),(w.heap.size,2,.slice Ag m.goal.length cg),(w.heap.size,3,.slice Ao m.ops.length co),(w.heap.size+1,0,.int .i64 ((a:Int))),(w.heap.size+1+1,0,.int .i64 0),(w.heap.size+1+1,1,.int .i64 0),(w.heap.size+1+1,2,.slice none 0 0),(w.heap.size+1+1,3,.int .i64 0),(w.heap.size+1+1,4,.slice none 0 0),(w.heap.size+1+1+1,0,.int .i64 0),(w.heap.size+1+1+1,1,.int .i64 0),(w1.heap.size+1,0,.int .i64 ((zn:Int))),(w1.heap.size+1,1,.int .i64 ((m.ops.length:Int))),(w1.heap.size+1,2,vU),(w1.heap.size+1,3,.int .i64 x0),(w1.heap.size+1,4,.slice (some ⟨g5,0,none⟩) (gs.length+1) q5)]) (fun i _=>m.ops.length - (intOf i).toNat)
    case atStart=>exact⟨0,Nat.zero_le _,rfl,vT,nT,OwnT.far (p:=⟨w1.heap.size+1,4,none⟩) hoT5 (by dsimp only;omega) _,by omega,OwnI.far (p:=⟨w1.heap.size+1,4,none⟩) o5 (by dsimp only;omega) _,hne5,bch,by simp[Cls,go_sem,F5]⟩
    case round=>
     obtain⟨j,hj,rfl,vU,nU,hoU,hnU,hoV,hneU,hBj,hCj⟩:=hrel;obtain⟨wj,rfl⟩:∃ wo:World,wo=wr:=⟨_,rfl⟩;have Fj:=hCj;simp only[Cls,and_true] at Fj;have yjw3:w.heap.size+1+1+1 < wj.heap.size:=hCj.blk (b:=w.heap.size+1+1+1) (k:=0) (v:=.int .i64 0) (by simp);have yjw2:w.heap.size+1+1 < wj.heap.size:=(by omega);have yjw1:w.heap.size+1 < wj.heap.size:=(by omega);have yjw0:w.heap.size < wj.heap.size:=(by omega);have yjw11:w1.heap.size+1 < wj.heap.size:=hCj.blk (b:=w1.heap.size+1) (k:=0) (v:=.int .i64 ((zn:Int))) (by simp)
     by_cases hjl:j < m.ops.length
     ·obtain⟨pd,o,A5,c5,A6,c6,hAo,ho,hc0,hc1,hc2,hoa0,hoL⟩:=(HM.out.ops.below hBj).at_ (k:=j) hjl;subst hAo;have hoa:=lHd hoa0;have hopk:=HOP.out o (lMg ho.out);have hl0:o.pre.length<=9223372036854775807:=by have:=hopk.1.1.len8;omega
      have hl1:o.post.length<=9223372036854775807:=by have:=hopk.1.2.len8;omega
      clear hoa0 hoL hopk
      go_wp2_with fail
      refine (xV0 _ (w.heap.size+1) (a:Int) (y:Int) A5 c5 o.pre (hoa.out.1.below bch) (hl0) (by simp[go_sem,Fj,yjw3,yjw2,yjw1,yjw0,yjw11])).mono ?_;rintro e w21 ⟨x1,rfl,hB21⟩;have D21:=xJ4 w hB21 bch;have Ewj_21:=xJ4 wj hB21 bch;have C21:=Cls.below (l:=[(w.heap.size,0,.slice (some sd) m.sizes.length cs),(w.heap.size,1,.slice (some idd) m.init.length ci),(w.heap.size,2,.slice Ag m.goal.length cg),(w.heap.size,3,.slice (some pd) m.ops.length co),(w.heap.size+1,0,.int .i64 ((a:Int))),(w.heap.size+1+1,0,.int .i64 0),(w.heap.size+1+1,1,.int .i64 0),(w.heap.size+1+1,2,.slice none 0 0),(w.heap.size+1+1,3,.int .i64 0),(w.heap.size+1+1,4,.slice none 0 0),(w.heap.size+1+1+1,0,.int .i64 0),(w.heap.size+1+1+1,1,.int .i64 0),(w1.heap.size+1,0,.int .i64 ((zn:Int))),(w1.heap.size+1,1,.int .i64 ((m.ops.length:Int))),(w1.heap.size+1,2,vU),(w1.heap.size+1,3,.int .i64 x0),(w1.heap.size+1,4,.slice (some ⟨g5,0,none⟩) (gs.length+1) q5),(wj.heap.size,0,.slice A5 o.pre.length c5),(wj.heap.size,1,.slice A6 o.post.length c6),(wj.heap.size,2,.int .i64 o.cost)]) hB21 (by simp[Cls,go_sem,Fj,yjw3,yjw2,yjw1,yjw0,yjw11]);have F21:=C21;simp only[Cls,and_true] at F21;have y21w3:w.heap.size+1+1+1 < w21.heap.size:=C21.blk (b:=w.heap.size+1+1+1) (k:=0) (v:=.int .i64 0) (by simp);have y21w11:w1.heap.size+1 < w21.heap.size:=C21.blk (b:=w1.heap.size+1) (k:=0) (v:=.int .i64 ((zn:Int))) (by simp);have y21wj0:wj.heap.size < w21.heap.size:=C21.blk (b:=wj.heap.size) (k:=0) (v:=.slice A5 o.pre.length c5) (by simp);have hoU1:=hoU.below bch;have hoV1:=hoV.below bch;have hlU:=lHd (fun g (e:vU.ownBlock=some g)=>OwnEs.lt hoU g e)
      by_cases hx1:x1=(y:Int)
      ·have hx1':(x1 == (y:Int))=true:=by simp[hx1]
       go_wp2_with fail
       have hSS0:w21.drew.cell? ⟨w1.heap.size+1,2,none⟩=some (vU)/\w21.drew.cell? ⟨wj.heap.size,1,none⟩=some (.slice A6 o.post.length c6):=by simp[go_sem,F21,y21w3,y21w11,y21wj0]
       refine xJg (fun W=>W.cell? ⟨w1.heap.size+1,2,none⟩=some (vU)/\W.cell? ⟨wj.heap.size,1,none⟩=some (.slice A6 o.post.length c6)) [13] (by kernel_rfl) ?_;have hSS:=hSS0;refine xJ0 (i:=0) (v:=?vz20) rfl (by kernel_rfl) (by kernel_rfl) (by kernel_rfl) (by kernel_rfl) (by kernel_rfl) (fun _ _ _ h=>h) (Or.inl ⟨by rfl,?hz20⟩) (by assumption) ?rz20
       case hz20=>(intro w hSw;(try dsimp only at hSw);go_simp;(try with_reducible rfl))
       try simp only[ap]
       refine xJ0 (i:=1) (v:=?vz21) rfl (by kernel_rfl) (by kernel_rfl) (by kernel_rfl) (by kernel_rfl) (by kernel_rfl) (fun _ _ _ h=>h) (Or.inl ⟨by rfl,?hz21⟩) (by assumption) ?rz21
       case hz21=>(intro w hSw;(try dsimp only at hSw);go_simp;(try with_reducible rfl))
       try simp only[ap]
       refine xJ0 (i:=2) (v:=?vz22) rfl (by kernel_rfl) (by kernel_rfl) (by kernel_rfl) (by kernel_rfl) (by kernel_rfl) (fun _ _ _ h=>h) (Or.inl ⟨by rfl,?hz22⟩) (by assumption) ?rz22
       case hz22=>(intro w hSw;(try dsimp only at hSw);go_simp;(try with_reducible rfl))
       try simp only[ap]
       refine xJ0 (i:=3) (v:=?vz23) rfl (by kernel_rfl) (by kernel_rfl) (by kernel_rfl) (by kernel_rfl) (by kernel_rfl) (fun _ _ _ h=>h) (Or.inl ⟨by rfl,?hz23⟩) (by assumption) ?rz23
       case hz23=>(intro w hSw;(try dsimp only at hSw);go_simp;(try with_reducible rfl))
       try simp only[ap]
       refine xJ0 (i:=4) (v:=?vz24) rfl (by kernel_rfl) (by kernel_rfl) (by kernel_rfl) (by kernel_rfl) (by kernel_rfl) (fun _ _ _ h=>h) (Or.inl ⟨by rfl,?hz24⟩) (by assumption) ?rz24
       case hz24=>(intro w hSw;(try dsimp only at hSw);go_simp;(try with_reducible rfl))
       try simp only[ap]
       refine xJ0 (i:=5) (v:=?vz25) rfl (by kernel_rfl) (by kernel_rfl) (by kernel_rfl) (by kernel_rfl) (by kernel_rfl) (fun _ _ _ h=>h) (Or.inl ⟨by rfl,?hz25⟩) (by assumption) ?rz25
       case hz25=>(intro w hSw;(try dsimp only at hSw);go_simp;(try with_reducible rfl))
       try simp only[ap]
       refine xJ0 (i:=6) (v:=?vz26) rfl (by kernel_rfl) (by kernel_rfl) (by kernel_rfl) (by kernel_rfl) (by kernel_rfl) (fun _ _ _ h=>h) (Or.inl ⟨by rfl,?hz26⟩) (by assumption) ?rz26
       case hz26=>(intro w hSw;(try dsimp only at hSw);go_simp;(try with_reducible rfl))
       try simp only[ap]
       refine xJ0 (i:=7) (v:=?vz27) rfl (by kernel_rfl) (by kernel_rfl) (by kernel_rfl) (by kernel_rfl) (by kernel_rfl) (fun _ _ _ h=>h) (Or.inl ⟨by rfl,?hz27⟩) (by assumption) ?rz27
       case hz27=>(intro w hSw;(try dsimp only at hSw);go_simp;(try with_reducible rfl))
       try simp only[ap]
       refine xJ3 (i:=8) (by kernel_rfl) rfl (fun K hK=>?_);go_simp;refine (xV0 _ (w.heap.size+1) (a:Int) (y:Int) A6 c6 o.post (hoa.out.2.below bch) (hl1) (by simp[go_sem,F21,y21w3,y21w11,y21wj0])).mono ?_;rintro e w22 ⟨x2,rfl,hB22⟩;have D22:=xJ4 w hB22 bch;have Ewj_22:=xJ4 wj hB22 bch;have C22:=Cls.below (l:=[(w.heap.size,0,.slice (some sd) m.sizes.length cs),(w.heap.size,1,.slice (some idd) m.init.length ci),(w.heap.size,2,.slice Ag m.goal.length cg),(w.heap.size,3,.slice (some pd) m.ops.length co),(w.heap.size+1,0,.int .i64 ((a:Int))),(w.heap.size+1+1,0,.int .i64 0),(w.heap.size+1+1,1,.int .i64 0),(w.heap.size+1+1,2,.slice none 0 0),(w.heap.size+1+1,3,.int .i64 0),(w.heap.size+1+1,4,.slice none 0 0),(w.heap.size+1+1+1,0,.int .i64 0),(w.heap.size+1+1+1,1,.int .i64 0),(w1.heap.size+1,0,.int .i64 ((zn:Int))),(w1.heap.size+1,1,.int .i64 ((m.ops.length:Int))),(w1.heap.size+1,2,vU),(w1.heap.size+1,3,.int .i64 x0),(w1.heap.size+1,4,.slice (some ⟨g5,0,none⟩) (gs.length+1) q5),(wj.heap.size,0,.slice A5 o.pre.length c5),(wj.heap.size,1,.slice A6 o.post.length c6),(wj.heap.size,2,.int .i64 o.cost)]) hB22 (by simp[Cls,go_sem,F21,y21w3,y21w11,y21wj0]);have F22:=C22;simp only[Cls,and_true] at F22;have y22w3:w.heap.size+1+1+1 < w22.heap.size:=C22.blk (b:=w.heap.size+1+1+1) (k:=0) (v:=.int .i64 0) (by simp);have y22w11:w1.heap.size+1 < w22.heap.size:=C22.blk (b:=w1.heap.size+1) (k:=0) (v:=.int .i64 ((zn:Int))) (by simp);have y22wj0:wj.heap.size < w22.heap.size:=C22.blk (b:=wj.heap.size) (k:=0) (v:=.slice A5 o.pre.length c5) (by simp);have hSS:w22.cell? ⟨w1.heap.size+1,2,none⟩=some (vU)/\w22.cell? ⟨wj.heap.size,1,none⟩=some (.slice A6 o.post.length c6):=(by simp[go_sem,F22,y22w3,y22w11,y22wj0])
       go_wp2_with fail
       refine hK.out _ _ hSS ?_;clear hK K
       try simp only[ap]
       refine xJ0 (i:=9) (v:=?vz29) rfl (by kernel_rfl) (by kernel_rfl) (by kernel_rfl) (by kernel_rfl) (by kernel_rfl) (fun _ _ _ h=>h) (Or.inl ⟨by rfl,?hz29⟩) (by assumption) ?rz29
       case hz29=>(intro w hSw;(try dsimp only at hSw);go_simp;(try with_reducible rfl))
       try simp only[ap]
       refine xJ3 (i:=10) (by kernel_rfl) rfl (fun K hK=>?_);go_simp
       go_wp2_with fail
       have hSS:(w22.alloc (.cells #[.int .i64 (y:Int),.int .i64 (j:Int),.int .i64 x2] 160)).cell? ⟨w1.heap.size+1,2,none⟩=some (vU)/\(w22.alloc (.cells #[.int .i64 (y:Int),.int .i64 (j:Int),.int .i64 x2] 160)).cell? ⟨wj.heap.size,1,none⟩=some (.slice A6 o.post.length c6):=(by simp[go_sem,F22,y22w3,y22w11,y22wj0]);refine hK.out _ _ hSS ?_;clear hK K
       try simp only[ap]
       refine xJ3 (i:=11) (by kernel_rfl) rfl (fun K hK=>?_);refine zJ9 rfl (.tmp 79) (.tmp 88) rfl (w1.heap.size+1+1) vU nU rfl (OwnT.below hoU bch) ⟨w22.heap.size,0,none⟩ 1 rfl [.int .i64 (y:Int),.int .i64 (j:Int),.int .i64 x2] rfl ?n1a ?n2a (by omega) (by simp;omega) ?nna
       case n1a=>(intro j u hu;rcases j with _ | _ | _ | j <;> simp at hu <;> subst hu <;> simp[go_sem])
       case n2a=>(intro u hu;simp at hu;rcases hu with rfl | rfl | rfl <;> rfl)
       intro g6 q6 w6 o6 G6 g6or g6lt;have B6:Below w.heap.size w w6:=Below.grown (w:=(w22.alloc (.cells #[.int .i64 (y:Int),.int .i64 (j:Int),.int .i64 x2] 160))) bch G6 (by simp;omega) (fun b hb=>by have:=(hlU.out b hb).1;omega);have C6:=Cls.grown1 (Cls.below (l:=[(w.heap.size,0,.slice (some sd) m.sizes.length cs),(w.heap.size,1,.slice (some idd) m.init.length ci),(w.heap.size,2,.slice Ag m.goal.length cg),(w.heap.size,3,.slice (some pd) m.ops.length co),(w.heap.size+1,0,.int .i64 ((a:Int))),(w.heap.size+1+1,0,.int .i64 0),(w.heap.size+1+1,1,.int .i64 0),(w.heap.size+1+1,2,.slice none 0 0),(w.heap.size+1+1,3,.int .i64 0),(w.heap.size+1+1,4,.slice none 0 0),(w.heap.size+1+1+1,0,.int .i64 0),(w.heap.size+1+1+1,1,.int .i64 0),(w1.heap.size+1,0,.int .i64 ((zn:Int))),(w1.heap.size+1,1,.int .i64 ((m.ops.length:Int))),(w1.heap.size+1,2,vU),(w1.heap.size+1,3,.int .i64 x0),(w1.heap.size+1,4,.slice (some ⟨g5,0,none⟩) (gs.length+1) q5),(wj.heap.size,0,.slice A5 o.pre.length c5),(wj.heap.size,1,.slice A6 o.post.length c6),(wj.heap.size,2,.int .i64 o.cost)]) (w:=w22) (w':=(w22.alloc (.cells #[.int .i64 (y:Int),.int .i64 (j:Int),.int .i64 x2] 160))) bch C22) G6 (fun z hz e=>by have h1:=(hlU.out _ e);simp at hz;rcases hz with rfl | rfl | rfl | rfl | rfl | rfl | rfl | rfl | rfl | rfl | rfl | rfl | rfl | rfl | rfl | rfl | rfl | rfl | rfl | rfl <;> dsimp only at h1 <;> omega);have F6:=C6;simp only[Cls,and_true] at F6;have hs6:=G6.size;simp at hs6;have hoV6:=OwnI.kept (hoV.below (w':=(w22.alloc (.cells #[.int .i64 (y:Int),.int .i64 (j:Int),.int .i64 x2] 160))) bch) G6 hneU.symm.ne;have hne6:BlkNe (.slice (some ⟨g6,0,none⟩) (nU+1) q6) (.slice (some ⟨g5,0,none⟩) (gs.length+1) q5):=fun g e h=>by have e2:g6=g:=Option.some.inj e;subst e2;rcases g6or with h2 | h2;exact hneU _ h2 h;have:=(World.ownsRow.lt hoV _ h).2;simp at h2;omega
       have hSS:w6.cell? ⟨w1.heap.size+1,2,none⟩=some (vU)/\w6.cell? ⟨wj.heap.size,1,none⟩=some (.slice A6 o.post.length c6):=⟨by simp[F6],by simp[F6]⟩;refine hK.out _ _ hSS ?_;clear hK K
       try simp only[ap]
       refine xJl (i:=12) (v:=?vz212) rfl (by kernel_rfl) (by kernel_rfl) (by kernel_rfl) (by kernel_rfl) (by kernel_rfl) (fun _ _ _ h=>h) (Or.inl ⟨by rfl,?hz212⟩) (by assumption) ?rz212
       case hz212=>(intro w hSw;(try dsimp only at hSw);go_simp;(try with_reducible rfl))
       try simp only[ap]
       refine xJc (i:=13) (by kernel_rfl) rfl (by kernel_rfl) (fun K hK=>?_);go_simp
       go_wp2_with fail
       refine hK.out _ _ ?_;clear hK K
       try simp only[ap]
       refine xJ7 (by kernel_rfl) ?_ _;go_wp2
       go_roundw
       case rel=>exact⟨j+1,by omega,by go_num,_,nU+1,OwnT.far (p:=⟨w1.heap.size+1,2,none⟩) o6 (by dsimp only;omega) _,by omega,OwnI.far (p:=⟨w1.heap.size+1,2,none⟩) hoV6 (by dsimp only;omega) _,hne6,bch,by simp[Cls,go_sem,F6]⟩
       case measure=>simp[intOf];omega
      ·have hx1':(x1 == (y:Int))=false:=by simp[hx1]
       go_wp2
       go_roundw
       case rel=>exact⟨j+1,by omega,by go_num,vU,nU,hoU1,by omega,hoV1,hneU,bch,by simp[Cls,go_sem,F21,y21w3,y21w11,y21wj0]⟩
       case measure=>simp[intOf];omega
     ·go_wp2
      go_roundw
      case rel=>exact⟨y+1,by omega,by go_num,vU,_,nU,_,hoU,by omega,hoV,by rw[List.length_append];have:[(y:Int)].length=1:=rfl;omega,hneU,hBj,hCj⟩
      case measure=>simp[intOf];omega
   ·have hxy':(x == (y:Int))=false:=by simp[hxy]
    go_wp2_with fail
    go_loopw [66] (fun i wr=>∃ (j:Nat),j<=m.ops.length/\i=.int .i64 (j:Int)/\∃ (vU:Value) (nU:Nat),OwnT (w1.heap.size+1+1) wr vU nU/\nU<=40 * y+j/\OwnI (w1.heap.size+1+1) wr (vG) (gs)/\BlkNe vU (vG)/\Below w.heap.size w wr/\Cls wr [(w.heap.size,0,.slice (some sd) m.sizes.length cs),(w.heap.size,1,.slice (some idd) m.init.length ci),(w.heap.size,2,.slice Ag m.goal.length cg),(w.heap.size,3,.slice Ao m.ops.length co),(w.heap.size+1,0,.int .i64 ((a:Int))),(w.heap.size+1+1,0,.int .i64 0),(w.heap.size+1+1,1,.int .i64 0),(w.heap.size+1+1,2,.slice none 0 0),(w.heap.size+1+1,3,.int .i64 0),(w.heap.size+1+1,4,.slice none 0 0),(w.heap.size+1+1+1,0,.int .i64 0),(w.heap.size+1+1+1,1,.int .i64 0),(w1.heap.size+1,0,.int .i64 ((zn:Int))),(w1.heap.size+1,1,.int .i64 ((m.ops.length:Int))),(w1.heap.size+1,2,vU),(w1.heap.size+1,3,.int .i64 x0),(w1.heap.size+1,4,vG)]) (fun i _=>m.ops.length - (intOf i).toNat)
    case atStart=>exact⟨0,Nat.zero_le _,rfl,vT,nT,hoT1,by omega,hoG1,hne,bch,C11⟩
    case round=>
     obtain⟨j,hj,rfl,vU,nU,hoU,hnU,hoV,hneU,hBj,hCj⟩:=hrel;obtain⟨wj,rfl⟩:∃ wo:World,wo=wr:=⟨_,rfl⟩;have Fj:=hCj;simp only[Cls,and_true] at Fj;have yjw3:w.heap.size+1+1+1 < wj.heap.size:=hCj.blk (b:=w.heap.size+1+1+1) (k:=0) (v:=.int .i64 0) (by simp);have yjw2:w.heap.size+1+1 < wj.heap.size:=(by omega);have yjw1:w.heap.size+1 < wj.heap.size:=(by omega);have yjw0:w.heap.size < wj.heap.size:=(by omega);have yjw11:w1.heap.size+1 < wj.heap.size:=hCj.blk (b:=w1.heap.size+1) (k:=0) (v:=.int .i64 ((zn:Int))) (by simp)
     by_cases hjl:j < m.ops.length
     ·obtain⟨pd,o,A5,c5,A6,c6,hAo,ho,hc0,hc1,hc2,hoa0,hoL⟩:=(HM.out.ops.below hBj).at_ (k:=j) hjl;subst hAo;have hoa:=lHd hoa0;have hopk:=HOP.out o (lMg ho.out);have hl0:o.pre.length<=9223372036854775807:=by have:=hopk.1.1.len8;omega
      have hl1:o.post.length<=9223372036854775807:=by have:=hopk.1.2.len8;omega
      clear hoa0 hoL hopk
      go_wp2_with fail
      refine (xV0 _ (w.heap.size+1) (a:Int) (y:Int) A5 c5 o.pre (hoa.out.1.below bch) (hl0) (by simp[go_sem,Fj,yjw3,yjw2,yjw1,yjw0,yjw11])).mono ?_;rintro e w21 ⟨x1,rfl,hB21⟩;have D21:=xJ4 w hB21 bch;have Ewj_21:=xJ4 wj hB21 bch;have C21:=Cls.below (l:=[(w.heap.size,0,.slice (some sd) m.sizes.length cs),(w.heap.size,1,.slice (some idd) m.init.length ci),(w.heap.size,2,.slice Ag m.goal.length cg),(w.heap.size,3,.slice (some pd) m.ops.length co),(w.heap.size+1,0,.int .i64 ((a:Int))),(w.heap.size+1+1,0,.int .i64 0),(w.heap.size+1+1,1,.int .i64 0),(w.heap.size+1+1,2,.slice none 0 0),(w.heap.size+1+1,3,.int .i64 0),(w.heap.size+1+1,4,.slice none 0 0),(w.heap.size+1+1+1,0,.int .i64 0),(w.heap.size+1+1+1,1,.int .i64 0),(w1.heap.size+1,0,.int .i64 ((zn:Int))),(w1.heap.size+1,1,.int .i64 ((m.ops.length:Int))),(w1.heap.size+1,2,vU),(w1.heap.size+1,3,.int .i64 x0),(w1.heap.size+1,4,vG),(wj.heap.size,0,.slice A5 o.pre.length c5),(wj.heap.size,1,.slice A6 o.post.length c6),(wj.heap.size,2,.int .i64 o.cost)]) hB21 (by simp[Cls,go_sem,Fj,yjw3,yjw2,yjw1,yjw0,yjw11]);have F21:=C21;simp only[Cls,and_true] at F21;have y21w3:w.heap.size+1+1+1 < w21.heap.size:=C21.blk (b:=w.heap.size+1+1+1) (k:=0) (v:=.int .i64 0) (by simp);have y21w11:w1.heap.size+1 < w21.heap.size:=C21.blk (b:=w1.heap.size+1) (k:=0) (v:=.int .i64 ((zn:Int))) (by simp);have y21wj0:wj.heap.size < w21.heap.size:=C21.blk (b:=wj.heap.size) (k:=0) (v:=.slice A5 o.pre.length c5) (by simp);have hoU1:=hoU.below bch;have hoV1:=hoV.below bch;have hlU:=lHd (fun g (e:vU.ownBlock=some g)=>OwnEs.lt hoU g e)
      by_cases hx1:x1=(y:Int)
      ·have hx1':(x1 == (y:Int))=true:=by simp[hx1]
       go_wp2_with fail
       have hSS0:w21.drew.cell? ⟨w1.heap.size+1,2,none⟩=some (vU)/\w21.drew.cell? ⟨wj.heap.size,1,none⟩=some (.slice A6 o.post.length c6):=by simp[go_sem,F21,y21w3,y21w11,y21wj0]
       refine xJg (fun W=>W.cell? ⟨w1.heap.size+1,2,none⟩=some (vU)/\W.cell? ⟨wj.heap.size,1,none⟩=some (.slice A6 o.post.length c6)) [13] (by kernel_rfl) ?_;have hSS:=hSS0;refine xJ0 (i:=0) (v:=?vz30) rfl (by kernel_rfl) (by kernel_rfl) (by kernel_rfl) (by kernel_rfl) (by kernel_rfl) (fun _ _ _ h=>h) (Or.inl ⟨by rfl,?hz30⟩) (by assumption) ?rz30
       case hz30=>(intro w hSw;(try dsimp only at hSw);go_simp;(try with_reducible rfl))
       try simp only[ap]
       refine xJ0 (i:=1) (v:=?vz31) rfl (by kernel_rfl) (by kernel_rfl) (by kernel_rfl) (by kernel_rfl) (by kernel_rfl) (fun _ _ _ h=>h) (Or.inl ⟨by rfl,?hz31⟩) (by assumption) ?rz31
       case hz31=>(intro w hSw;(try dsimp only at hSw);go_simp;(try with_reducible rfl))
       try simp only[ap]
       refine xJ0 (i:=2) (v:=?vz32) rfl (by kernel_rfl) (by kernel_rfl) (by kernel_rfl) (by kernel_rfl) (by kernel_rfl) (fun _ _ _ h=>h) (Or.inl ⟨by rfl,?hz32⟩) (by assumption) ?rz32
       case hz32=>(intro w hSw;(try dsimp only at hSw);go_simp;(try with_reducible rfl))
       try simp only[ap]
       refine xJ0 (i:=3) (v:=?vz33) rfl (by kernel_rfl) (by kernel_rfl) (by kernel_rfl) (by kernel_rfl) (by kernel_rfl) (fun _ _ _ h=>h) (Or.inl ⟨by rfl,?hz33⟩) (by assumption) ?rz33
       case hz33=>(intro w hSw;(try dsimp only at hSw);go_simp;(try with_reducible rfl))
       try simp only[ap]
       refine xJ0 (i:=4) (v:=?vz34) rfl (by kernel_rfl) (by kernel_rfl) (by kernel_rfl) (by kernel_rfl) (by kernel_rfl) (fun _ _ _ h=>h) (Or.inl ⟨by rfl,?hz34⟩) (by assumption) ?rz34
       case hz34=>(intro w hSw;(try dsimp only at hSw);go_simp;(try with_reducible rfl))
       try simp only[ap]
       refine xJ0 (i:=5) (v:=?vz35) rfl (by kernel_rfl) (by kernel_rfl) (by kernel_rfl) (by kernel_rfl) (by kernel_rfl) (fun _ _ _ h=>h) (Or.inl ⟨by rfl,?hz35⟩) (by assumption) ?rz35
       case hz35=>(intro w hSw;(try dsimp only at hSw);go_simp;(try with_reducible rfl))
       try simp only[ap]
       refine xJ0 (i:=6) (v:=?vz36) rfl (by kernel_rfl) (by kernel_rfl) (by kernel_rfl) (by kernel_rfl) (by kernel_rfl) (fun _ _ _ h=>h) (Or.inl ⟨by rfl,?hz36⟩) (by assumption) ?rz36
       case hz36=>(intro w hSw;(try dsimp only at hSw);go_simp;(try with_reducible rfl))
       try simp only[ap]
       refine xJ0 (i:=7) (v:=?vz37) rfl (by kernel_rfl) (by kernel_rfl) (by kernel_rfl) (by kernel_rfl) (by kernel_rfl) (fun _ _ _ h=>h) (Or.inl ⟨by rfl,?hz37⟩) (by assumption) ?rz37
       case hz37=>(intro w hSw;(try dsimp only at hSw);go_simp;(try with_reducible rfl))
       try simp only[ap]
       refine xJ3 (i:=8) (by kernel_rfl) rfl (fun K hK=>?_);go_simp;refine (xV0 _ (w.heap.size+1) (a:Int) (y:Int) A6 c6 o.post (hoa.out.2.below bch) (hl1) (by simp[go_sem,F21,y21w3,y21w11,y21wj0])).mono ?_;rintro e w22 ⟨x2,rfl,hB22⟩;have D22:=xJ4 w hB22 bch;have Ewj_22:=xJ4 wj hB22 bch;have C22:=Cls.below (l:=[(w.heap.size,0,.slice (some sd) m.sizes.length cs),(w.heap.size,1,.slice (some idd) m.init.length ci),(w.heap.size,2,.slice Ag m.goal.length cg),(w.heap.size,3,.slice (some pd) m.ops.length co),(w.heap.size+1,0,.int .i64 ((a:Int))),(w.heap.size+1+1,0,.int .i64 0),(w.heap.size+1+1,1,.int .i64 0),(w.heap.size+1+1,2,.slice none 0 0),(w.heap.size+1+1,3,.int .i64 0),(w.heap.size+1+1,4,.slice none 0 0),(w.heap.size+1+1+1,0,.int .i64 0),(w.heap.size+1+1+1,1,.int .i64 0),(w1.heap.size+1,0,.int .i64 ((zn:Int))),(w1.heap.size+1,1,.int .i64 ((m.ops.length:Int))),(w1.heap.size+1,2,vU),(w1.heap.size+1,3,.int .i64 x0),(w1.heap.size+1,4,vG),(wj.heap.size,0,.slice A5 o.pre.length c5),(wj.heap.size,1,.slice A6 o.post.length c6),(wj.heap.size,2,.int .i64 o.cost)]) hB22 (by simp[Cls,go_sem,F21,y21w3,y21w11,y21wj0]);have F22:=C22;simp only[Cls,and_true] at F22;have y22w3:w.heap.size+1+1+1 < w22.heap.size:=C22.blk (b:=w.heap.size+1+1+1) (k:=0) (v:=.int .i64 0) (by simp);have y22w11:w1.heap.size+1 < w22.heap.size:=C22.blk (b:=w1.heap.size+1) (k:=0) (v:=.int .i64 ((zn:Int))) (by simp);have y22wj0:wj.heap.size < w22.heap.size:=C22.blk (b:=wj.heap.size) (k:=0) (v:=.slice A5 o.pre.length c5) (by simp);have hSS:w22.cell? ⟨w1.heap.size+1,2,none⟩=some (vU)/\w22.cell? ⟨wj.heap.size,1,none⟩=some (.slice A6 o.post.length c6):=(by simp[go_sem,F22,y22w3,y22w11,y22wj0])
       go_wp2_with fail
       refine hK.out _ _ hSS ?_;clear hK K
       try simp only[ap]
       refine xJ0 (i:=9) (v:=?vz39) rfl (by kernel_rfl) (by kernel_rfl) (by kernel_rfl) (by kernel_rfl) (by kernel_rfl) (fun _ _ _ h=>h) (Or.inl ⟨by rfl,?hz39⟩) (by assumption) ?rz39
       case hz39=>(intro w hSw;(try dsimp only at hSw);go_simp;(try with_reducible rfl))
       try simp only[ap]
       refine xJ3 (i:=10) (by kernel_rfl) rfl (fun K hK=>?_);go_simp
       go_wp2_with fail
       have hSS:(w22.alloc (.cells #[.int .i64 (y:Int),.int .i64 (j:Int),.int .i64 x2] 160)).cell? ⟨w1.heap.size+1,2,none⟩=some (vU)/\(w22.alloc (.cells #[.int .i64 (y:Int),.int .i64 (j:Int),.int .i64 x2] 160)).cell? ⟨wj.heap.size,1,none⟩=some (.slice A6 o.post.length c6):=(by simp[go_sem,F22,y22w3,y22w11,y22wj0]);refine hK.out _ _ hSS ?_;clear hK K
       try simp only[ap]
       refine xJ3 (i:=11) (by kernel_rfl) rfl (fun K hK=>?_);refine zJ9 rfl (.tmp 79) (.tmp 88) rfl (w1.heap.size+1+1) vU nU rfl (OwnT.below hoU bch) ⟨w22.heap.size,0,none⟩ 1 rfl [.int .i64 (y:Int),.int .i64 (j:Int),.int .i64 x2] rfl ?n1b ?n2b (by omega) (by simp;omega) ?nnb
       case n1b=>(intro j u hu;rcases j with _ | _ | _ | j <;> simp at hu <;> subst hu <;> simp[go_sem])
       case n2b=>(intro u hu;simp at hu;rcases hu with rfl | rfl | rfl <;> rfl)
       intro g6 q6 w6 o6 G6 g6or g6lt;have B6:Below w.heap.size w w6:=Below.grown (w:=(w22.alloc (.cells #[.int .i64 (y:Int),.int .i64 (j:Int),.int .i64 x2] 160))) bch G6 (by simp;omega) (fun b hb=>by have:=(hlU.out b hb).1;omega);have C6:=Cls.grown1 (Cls.below (l:=[(w.heap.size,0,.slice (some sd) m.sizes.length cs),(w.heap.size,1,.slice (some idd) m.init.length ci),(w.heap.size,2,.slice Ag m.goal.length cg),(w.heap.size,3,.slice (some pd) m.ops.length co),(w.heap.size+1,0,.int .i64 ((a:Int))),(w.heap.size+1+1,0,.int .i64 0),(w.heap.size+1+1,1,.int .i64 0),(w.heap.size+1+1,2,.slice none 0 0),(w.heap.size+1+1,3,.int .i64 0),(w.heap.size+1+1,4,.slice none 0 0),(w.heap.size+1+1+1,0,.int .i64 0),(w.heap.size+1+1+1,1,.int .i64 0),(w1.heap.size+1,0,.int .i64 ((zn:Int))),(w1.heap.size+1,1,.int .i64 ((m.ops.length:Int))),(w1.heap.size+1,2,vU),(w1.heap.size+1,3,.int .i64 x0),(w1.heap.size+1,4,vG),(wj.heap.size,0,.slice A5 o.pre.length c5),(wj.heap.size,1,.slice A6 o.post.length c6),(wj.heap.size,2,.int .i64 o.cost)]) (w:=w22) (w':=(w22.alloc (.cells #[.int .i64 (y:Int),.int .i64 (j:Int),.int .i64 x2] 160))) bch C22) G6 (fun z hz e=>by have h1:=(hlU.out _ e);simp at hz;rcases hz with rfl | rfl | rfl | rfl | rfl | rfl | rfl | rfl | rfl | rfl | rfl | rfl | rfl | rfl | rfl | rfl | rfl | rfl | rfl | rfl <;> dsimp only at h1 <;> omega);have F6:=C6;simp only[Cls,and_true] at F6;have hs6:=G6.size;simp at hs6;have hoV6:=OwnI.kept (hoV.below (w':=(w22.alloc (.cells #[.int .i64 (y:Int),.int .i64 (j:Int),.int .i64 x2] 160))) bch) G6 hneU.symm.ne;have hne6:BlkNe (.slice (some ⟨g6,0,none⟩) (nU+1) q6) (vG):=fun g e h=>by have e2:g6=g:=Option.some.inj e;subst e2;rcases g6or with h2 | h2;exact hneU _ h2 h;have:=(World.ownsRow.lt hoV _ h).2;simp at h2;omega
       have hSS:w6.cell? ⟨w1.heap.size+1,2,none⟩=some (vU)/\w6.cell? ⟨wj.heap.size,1,none⟩=some (.slice A6 o.post.length c6):=⟨by simp[F6],by simp[F6]⟩;refine hK.out _ _ hSS ?_;clear hK K
       try simp only[ap]
       refine xJl (i:=12) (v:=?vz312) rfl (by kernel_rfl) (by kernel_rfl) (by kernel_rfl) (by kernel_rfl) (by kernel_rfl) (fun _ _ _ h=>h) (Or.inl ⟨by rfl,?hz312⟩) (by assumption) ?rz312
       case hz312=>(intro w hSw;(try dsimp only at hSw);go_simp;(try with_reducible rfl))
       try simp only[ap]
       refine xJc (i:=13) (by kernel_rfl) rfl (by kernel_rfl) (fun K hK=>?_);go_simp
       go_wp2_with fail
       refine hK.out _ _ ?_;clear hK K
       try simp only[ap]
       refine xJ7 (by kernel_rfl) ?_ _;go_wp2
       go_roundw
       case rel=>exact⟨j+1,by omega,by go_num,_,nU+1,OwnT.far (p:=⟨w1.heap.size+1,2,none⟩) o6 (by dsimp only;omega) _,by omega,OwnI.far (p:=⟨w1.heap.size+1,2,none⟩) hoV6 (by dsimp only;omega) _,hne6,bch,by simp[Cls,go_sem,F6]⟩
       case measure=>simp[intOf];omega
      ·have hx1':(x1 == (y:Int))=false:=by simp[hx1]
       go_wp2
       go_roundw
       case rel=>exact⟨j+1,by omega,by go_num,vU,nU,hoU1,by omega,hoV1,hneU,bch,by simp[Cls,go_sem,F21,y21w3,y21w11,y21wj0]⟩
       case measure=>simp[intOf];omega
     ·go_wp2
      go_roundw
      case rel=>exact⟨y+1,by omega,by go_num,vU,_,nU,_,hoU,by omega,hoV,by omega,hneU,hBj,hCj⟩
      case measure=>simp[intOf];omega
  ·obtain⟨AT,cT,hvT⟩:=OwnEs.form hoT;rw[List.length_replicate] at hvT;subst hvT;obtain⟨AH,cH,hvG,-,-⟩:=hoG.form;subst hvG
   go_wp2_with fail
   refine bodyPost_ret (v:=.tuple #[.agg #[.int .i64 (zn:Int),.int .i64 (m.ops.length:Int),.slice AT nT cT,.int .i64 x0,.slice AH gs.length cH],.agg #[.int .i64 0,.int .i64 0]]) ?_ rfl ⟨(zn:Int),_,_,AT,AH,nT,cT,gs.length,cH,rfl,HSZ.out,bch⟩;simp[results,Tryz.results34,go_sem,Fr,yrw3,yrw11]
def OptQ(m:MtV)(w:World)(e:Ending)(w':World):Prop:=((∃ k:Int,e=.returned (.tuple #[.int .i64 k,.bool false])) \/
 (∃ k:Int,e=.returned (.tuple #[.int .i64 k,.bool true])/\MValid m/\∃ n:Nat,m.sizes.sum=n/\RBest n (stV m).ops (stV m).goal (stV m).init k))/\Below w.heap.size w w'
theorem vZe(w:World)(m:MtV)(As Ai Ag Ao:Option Addr)(cs ci cg co:Nat)(hM:MMem w As Ai Ag Ao m) :
  Calls Tryz.prog 13 #[.agg #[.slice As m.sizes.length cs,.slice Ai m.init.length ci,.slice Ag m.goal.length cg,.slice Ao m.ops.length co]] w (OptQ m w):=by
 have HM:=lHd hM;clear hM
 by_cases h1:MValid m
 ·have H1:=lHd h1
  by_cases h2:m.sizes.sum<=24
  ·obtain⟨n,hn0⟩:=Int.eq_ofNat_of_zero_le (vJ0 (sizes:=m.sizes) h1.sz).1;have HN:=lHd (show m.sizes.sum=(n:Int) from hn0);have h2':=h2;clear h1 hn0
   by_cases h3:(xX2 (stV m)).1=0
   ·have HV:=lHd (zQi.1 h3);clear h3;go_enter Tryz.func13,Tryz.ntmps13
    go_wp2_with fail
    refine (xYc _ _ _ _ _ _ _ _ _ _ (HM.out.below bch) H1.out h2').mono ?_;rintro e w1 ⟨Ai',Ag',Ao',ci',cg',co',rfl,hT1,hB1⟩;have D1:=xJ4 w hB1 bch;have C1:=Cls.below (l:=[(w.heap.size,0,.slice As m.sizes.length cs),(w.heap.size,1,.slice Ai m.init.length ci),(w.heap.size,2,.slice Ag m.goal.length cg),(w.heap.size,3,.slice Ao m.ops.length co)]) hB1 (by simp[Cls,go_sem]);have F1:=C1;simp only[Cls,and_true] at F1;have y1w0:w.heap.size < w1.heap.size:=C1.blk (b:=w.heap.size) (k:=0) (v:=.slice As m.sizes.length cs) (by simp);have y1wp1:w.heap.size < w1.heap.size+1:=(by omega);have HT1:=lHd hT1;clear hT1
    go_wp2_with fail
    refine (xWq _ _ _ _ _ _ _ _ (HT1.out.below bch) n HN.out HV.out).mono ?_;rintro e w2 ⟨hB2,hres⟩;have D2:=xJ4 w hB2 bch;have C2:=Cls.below (l:=[(w.heap.size,0,.slice As m.sizes.length cs),(w.heap.size,1,.slice Ai m.init.length ci),(w.heap.size,2,.slice Ag m.goal.length cg),(w.heap.size,3,.slice Ao m.ops.length co),(w1.heap.size,0,.int .i64 (stV m).facts),(w1.heap.size,1,.slice Ai' (stV m).init.length ci'),(w1.heap.size,2,.slice Ag' (stV m).goal.length cg'),(w1.heap.size,3,.slice Ao' (stV m).ops.length co'),(w1.heap.size+1,0,.int .i64 0),(w1.heap.size+1,1,.int .i64 0)]) hB2 (by simp[Cls,go_sem,F1,y1w0,y1wp1]);have y2w0:w.heap.size < w2.heap.size:=C2.blk (b:=w.heap.size) (k:=0) (v:=.slice As m.sizes.length cs) (by simp);have y2w11:w1.heap.size+1 < w2.heap.size:=C2.blk (b:=w1.heap.size+1) (k:=0) (v:=.int .i64 0) (by simp);have HR:=lHd hres;clear hres;rcases HR.out with ⟨he,_⟩ | ⟨d,he,hb,_⟩
    ·clear HR;subst he
     go_wp2_with fail
     go_quiet (fail)
     go_wp2;refine bodyPost_ret (v:=.tuple #[.int .i64 0,.bool false]) ?_ rfl ⟨Or.inl ⟨0,rfl⟩,bch⟩;simp[results,Tryz.results13,go_sem,y2w0,y2w11]
    ·have HB:=lHd hb;clear HR hb;subst he
     go_wp2_with fail
     go_quiet (fail)
     go_wp2;refine bodyPost_ret (v:=.tuple #[.int .i64 d,.bool true]) ?_ rfl ⟨Or.inr ⟨d,rfl,H1.out,n,HN.out,HB.out⟩,bch⟩;simp[results,Tryz.results13,go_sem,y2w0,y2w11]
   ·have HV:=lHd h3;have N2:((xX2 (stV m)).1 == (0:Int))=false:=by simp[h3]
    clear h3;go_enter Tryz.func13,Tryz.ntmps13
    go_wp2_with fail
    refine (xYc _ _ _ _ _ _ _ _ _ _ (HM.out.below bch) H1.out h2').mono ?_;rintro e w1 ⟨Ai',Ag',Ao',ci',cg',co',rfl,hT1,hB1⟩;have D1:=xJ4 w hB1 bch;have C1:=Cls.below (l:=[(w.heap.size,0,.slice As m.sizes.length cs),(w.heap.size,1,.slice Ai m.init.length ci),(w.heap.size,2,.slice Ag m.goal.length cg),(w.heap.size,3,.slice Ao m.ops.length co)]) hB1 (by simp[Cls,go_sem]);have F1:=C1;simp only[Cls,and_true] at F1;have y1w0:w.heap.size < w1.heap.size:=C1.blk (b:=w.heap.size) (k:=0) (v:=.slice As m.sizes.length cs) (by simp);have y1wp1:w.heap.size < w1.heap.size+1:=(by omega);have HT1:=lHd hT1;clear hT1
    go_wp2_with fail
    refine (zK7 _ _ _ _ _ _ _ _ (HT1.out.below bch) HV.out).mono ?_;rintro e w2 ⟨rfl,hB2⟩;have D2:=xJ4 w hB2 bch;have C2:=Cls.below (l:=[(w.heap.size,0,.slice As m.sizes.length cs),(w.heap.size,1,.slice Ai m.init.length ci),(w.heap.size,2,.slice Ag m.goal.length cg),(w.heap.size,3,.slice Ao m.ops.length co),(w1.heap.size,0,.int .i64 (stV m).facts),(w1.heap.size,1,.slice Ai' (stV m).init.length ci'),(w1.heap.size,2,.slice Ag' (stV m).goal.length cg'),(w1.heap.size,3,.slice Ao' (stV m).ops.length co'),(w1.heap.size+1,0,.int .i64 0),(w1.heap.size+1,1,.int .i64 0)]) hB2 (by simp[Cls,go_sem,F1,y1w0,y1wp1]);have y2w0:w.heap.size < w2.heap.size:=C2.blk (b:=w.heap.size) (k:=0) (v:=.slice As m.sizes.length cs) (by simp);have y2w11:w1.heap.size+1 < w2.heap.size:=C2.blk (b:=w1.heap.size+1) (k:=0) (v:=.int .i64 0) (by simp)
    go_wp2_with fail
    go_quiet (fail)
    go_wp2;refine bodyPost_ret (v:=.tuple #[.int .i64 0,.bool false]) ?_ rfl ⟨Or.inl ⟨0,rfl⟩,bch⟩;simp[results,Tryz.results13,go_sem,y2w0,y2w11]
  ·have h2':24 < m.sizes.sum:=by omega
   clear h1 h2;go_enter Tryz.func13,Tryz.ntmps13
   go_wp2_with fail
   refine (zWr _ _ _ _ _ _ _ _ _ _ (HM.out.below bch) H1.out h2').mono ?_;rintro e w1 ⟨cc,jj,rfl,hc,hB1⟩;have D1:=xJ4 w hB1 bch;have C1:=Cls.below (l:=[(w.heap.size,0,.slice As m.sizes.length cs),(w.heap.size,1,.slice Ai m.init.length ci),(w.heap.size,2,.slice Ag m.goal.length cg),(w.heap.size,3,.slice Ao m.ops.length co)]) hB1 (by simp[Cls,go_sem]);have F1:=C1;simp only[Cls,and_true] at F1;have y1w0:w.heap.size < w1.heap.size:=C1.blk (b:=w.heap.size) (k:=0) (v:=.slice As m.sizes.length cs) (by simp);have y1wp1:w.heap.size < w1.heap.size+1:=(by omega);have N2:(cc == (0:Int))=false:=by simp[hc]
   go_wp2;refine bodyPost_ret (v:=.tuple #[.int .i64 0,.bool false]) ?_ rfl ⟨Or.inl ⟨0,rfl⟩,bch⟩;simp[results,Tryz.results13,go_sem,F1,y1w0,y1wp1]
 ·have H1:=lHd h1;clear h1;go_enter Tryz.func13,Tryz.ntmps13
  go_wp2_with fail
  refine (zWq _ _ _ _ _ _ _ _ _ _ (HM.out.below bch) H1.out).mono ?_;rintro e w1 ⟨cc,jj,rfl,hc,hB1⟩;have D1:=xJ4 w hB1 bch;have C1:=Cls.below (l:=[(w.heap.size,0,.slice As m.sizes.length cs),(w.heap.size,1,.slice Ai m.init.length ci),(w.heap.size,2,.slice Ag m.goal.length cg),(w.heap.size,3,.slice Ao m.ops.length co)]) hB1 (by simp[Cls,go_sem]);have F1:=C1;simp only[Cls,and_true] at F1;have y1w0:w.heap.size < w1.heap.size:=C1.blk (b:=w.heap.size) (k:=0) (v:=.slice As m.sizes.length cs) (by simp);have y1wp1:w.heap.size < w1.heap.size+1:=(by omega);have N2:(cc == (0:Int))=false:=by simp[hc]
  go_wp2;refine bodyPost_ret (v:=.tuple #[.int .i64 0,.bool false]) ?_ rfl ⟨Or.inl ⟨0,rfl⟩,bch⟩;simp[results,Tryz.results13,go_sem,F1,y1w0,y1wp1]
theorem vKa{p:MtV}{c:Int}(hc:0<=c)(hg:p.goal=[(0,1)])(ho:∀ o∈p.ops,(o.post=[(0,1)]/\c<=o.cost)\/(o.post=[]/\0<=o.cost)){s:List Int}{ps:List Nat}(h:MP p.goal p.ops s ps):0<=xQo p.ops ps/\(s=[0]->c<=xQo p.ops ps):=by
 induction h with
 | @nil s h=>
  refine⟨by simp[xQo],fun e=>?_⟩;subst e;have h1:=h (0,1) (by rw[hg];simp);simp[xJ2] at h1
 | @cons s q o ps h1 h2 h3 ih=>
  rw[xV6,xK4 h1];rcases ho o (lMg h1) with ⟨h4,h5⟩ | ⟨h4,h5⟩
  ·exact⟨by omega,fun _=>by omega⟩
  ·refine⟨by omega,fun e=>?_⟩;subst e;have h6:=ih.2 (by rw[h4];rfl);omega
theorem zY8{p:MtV}{D:List Int->Int}{c:Int}(h:DistOk p D)(hs:p.sizes=[2])(hg:p.goal=[(0,1)])(ho:∀ o∈p.ops,(o.post=[(0,1)]/\c<=o.cost)\/(o.post=[]/\0<=o.cost))(h2:(⟨[],[(0,1)],c⟩:MopV)∈p.ops)(hc:0<=c/\c<=100):D [0]=c:=by
 have st:∀ x:Int,x=0\/x=1->StM p.sizes [x]:=fun x hx=>by
  rw[hs];refine⟨rfl,fun i hi=>?_⟩;obtain rfl:i=0:=by simp at hi;exact hi
  rcases hx with rfl | rfl <;> simp[xJ2]
 have h3:D [1]=0:=h.goal [1] (st 1 (.inr rfl)) (by rw[hg];intro a ha;simp at ha;subst ha;rfl);have h4:D [0]<=c:=by
  have:=h.step [0] (st 0 (.inl rfl)) _ h2 (fun a ha=>by cases ha) (by show D [1]≠_;rw[h3];decide);have e:D (xXh [0] [((0:Int),(1:Int))])=0:=h3;rw[e] at this;simpa using this
 obtain⟨ps,h5,h6⟩:=h.att [0] (st 0 (.inl rfl)) (by omega);have:=(vKa hc.1 hg ho h5).2 rfl;omega
def xQ5:List (List Int):=[[0],[1]]
theorem xKo{l:List (Int×Int)}(h:l=[]\/l=[(0,1)]\/l=[(1,1)]\/l=[(0,1),(1,1)]):AsOk xJk.sizes l:=by
 have e:xJk.sizes=[2,2]:=rfl;rw[e];refine⟨fun a ha=>?_,?_⟩
 ·rcases h with rfl | rfl | rfl | rfl <;> simp at ha
  ·subst ha;simp[xJ2]
  ·subst ha;simp[xJ2]
  ·rcases ha with rfl | rfl <;> simp[xJ2]
 ·rcases h with rfl | rfl | rfl | rfl <;> simp
theorem zQz:StM xJk.sizes [0,0]:=⟨rfl,fun i hi=>by
 have hi:i < 2:=hi;rcases i with _ | _ | i
 ·simp[xJk,xJ2]
 ·simp[xJk,xJ2]
 ·omega⟩
theorem zJm:MValid xJk:=by
 refine⟨by decide,by decide,?_,zQz,xKo (by simp[xJk]),by decide,?_⟩
 ·intro n hn;simp[xJk] at hn;subst hn;omega
 ·intro o ho;simp[xJk] at ho;rcases ho with rfl | rfl
  ·exact⟨⟨xKo (.inl rfl),xKo (.inr (.inl rfl))⟩,by decide,by decide⟩
  ·exact⟨⟨xKo (.inl rfl),xKo (.inr (.inr (.inl rfl)))⟩,by decide,by decide⟩
theorem vX0{v:Int}(h:v=0\/v=1):VarsOk xJk [v]:=by
 refine⟨by simp,fun u hu=>?_,by simp⟩;simp at hu;subst hu;show _/\u < 2;omega
theorem zY9{v:Int}(h:v=0\/v=1):POk xJk [v] [0,0]:=by
 refine⟨⟨zJm,zQz⟩,vX0 h,?_⟩;show ¬ 2000 < prV xJk.sizes [v] 1;rcases h with rfl | rfl <;> simp[prV,xJ2,xJk]
theorem vVb:AOk xJk xQ5 [0,0]:=by
 refine⟨⟨zJm,zQz⟩,by decide,fun p hp=>?_⟩;simp[xQ5] at hp;rcases hp with rfl | rfl
 ·exact zY9 (.inl rfl)
 ·exact zY9 (.inr rfl)
theorem vVc{d:Int}(h:DVal xJk [0] [0,0] d):d=2:=by
 obtain⟨D,h1,h2⟩:=h;rw[h2];exact zY8 (c:=2) h1 rfl rfl (fun o ho=>by
  have e:(toV xJk [0]).ops=[⟨[],[(0,1)],2⟩,⟨[],[],3⟩]:=rfl;rw[e] at ho;simp at ho;rcases ho with rfl | rfl <;> simp) (by show _∈([⟨[],[(0,1)],2⟩,⟨[],[],3⟩]:List MopV);simp) (by omega)
theorem zKt{d:Int}(h:DVal xJk [1] [0,0] d):d=3:=by
 obtain⟨D,h1,h2⟩:=h;rw[h2];exact zY8 (c:=3) h1 rfl rfl (fun o ho=>by
  have e:(toV xJk [1]).ops=[⟨[],[],2⟩,⟨[],[(0,1)],3⟩]:=rfl;rw[e] at ho;simp at ho;rcases ho with rfl | rfl <;> simp) (by show _∈([⟨[],[],2⟩,⟨[],[(0,1)],3⟩]:List MopV);simp) (by omega)
theorem vVd:CmpV xJk.ops xQ5 1 0:=by
 intro o ho h;obtain⟨⟨a,ha,h1⟩,⟨b,hb,h2⟩⟩:=h;have h1:a.1∈([1]:List Int):=h1;have h2:b.1∈([0]:List Int):=h2;simp[xJk] at ho;rcases ho with rfl | rfl <;> simp at ha hb <;> subst ha <;> subst hb <;> simp at h1 h2
theorem vX1{vals:List Int}(h:DVals xJk xQ5 [0,0] xQ5.length vals):xX1 vals (CmpV xJk.ops xQ5) vals.length []=5:=by
 obtain⟨_,d0,e0,h0⟩:=h.2 0 [0] (by decide) rfl;obtain⟨_,d1,e1,h1⟩:=h.2 1 [1] (by decide) rfl;have hl:vals.length=2:=h.1;have ev:vals=[2,3]:=by
  rcases vals with _ | ⟨a,_ | ⟨b,_ | ⟨c,r⟩⟩⟩ <;> simp at hl
  simp at e0 e1;rw[e0,e1,vVc h0,zKt h1]
 subst ev;have n0:∀ k∈([]:List Nat),CmpV xJk.ops xQ5 0 k:=fun k hk=>by cases hk
 have n1:∀ k∈([]:List Nat),CmpV xJk.ops xQ5 1 k:=fun k hk=>by cases hk
 have n2:∀ k∈[0],CmpV xJk.ops xQ5 1 k:=fun k hk=>by simp at hk;subst hk;exact vVd
 have b1:xX1 [2,3] (CmpV xJk.ops xQ5) 1 []=3:=(xYz (vals:=[2,3]) (cmp:=CmpV xJk.ops xQ5) (i:=1) (v:=3) (ch:=[]) rfl n1).trans (by simp[xX1,xXa] <;> decide);have b2:xX1 [2,3] (CmpV xJk.ops xQ5) 1 [0]=3:=(xYz (vals:=[2,3]) (cmp:=CmpV xJk.ops xQ5) (i:=1) (v:=3) (ch:=[0]) rfl n2).trans (by simp[xX1,xXa] <;> decide);refine (xYz (vals:=[2,3]) (cmp:=CmpV xJk.ops xQ5) (i:=0) (v:=2) (ch:=[]) rfl n0).trans ?_;show max (xX1 [2,3] (CmpV xJk.ops xQ5) 1 []) (xXa 2 (xX1 [2,3] (CmpV xJk.ops xQ5) 1 [0]))=5;rw[b1,b2];simp[xXa] <;> decide
theorem zKv(w:World)  :
  Calls Tryz.prog 12 #[] w fun e w'=>e=.returned (.bool true)/\Below w.heap.size w w':=by
 go_enter Tryz.func12,Tryz.ntmps12
 go_wp2_with fail
 refine (xKq _).mono ?_;rintro e w1 ⟨As,Ai,Ag,Ao,cs,ci,cg,co,rfl,hM,hB1⟩;have D1:=xJ4 w hB1 bch;have HM:=lHd hM;clear hM;have HR:=lHd (show RowsRead ((((w1.alloc (.cells #[.int .i64 0] 3)).alloc (.cells #[.int .i64 1] 3)).alloc (.cells #[.slice (some ⟨w1.heap.size,0,none⟩) 1 1,.slice (some ⟨w1.heap.size+1,0,none⟩) 1 1] 22)).alloc (.cells #[.int .i64 0,.int .i64 0] 3)) (some ⟨w1.heap.size+1+1,0,none⟩) xQ5 from by
  intro j r hr;rcases j with _ | _ | j <;> simp[xQ5] at hr <;> subst hr
  ·refine⟨_,some ⟨w1.heap.size,0,none⟩,1,rfl,by simp[go_sem],?_,by unfold xWj;simp⟩;intro k u hu;rcases k with _ | k <;> simp at hu <;> subst hu <;> exact⟨_,rfl,by simp[go_sem]⟩
  ·refine⟨_,some ⟨w1.heap.size+1,0,none⟩,1,rfl,by simp[go_sem],?_,by unfold xWj;simp⟩;intro k u hu;rcases k with _ | k <;> simp at hu <;> subst hu <;> exact⟨_,rfl,by simp[go_sem]⟩)
 have HS:=lHd (show Ints ((((w1.alloc (.cells #[.int .i64 0] 3)).alloc (.cells #[.int .i64 1] 3)).alloc (.cells #[.slice (some ⟨w1.heap.size,0,none⟩) 1 1,.slice (some ⟨w1.heap.size+1,0,none⟩) 1 1] 22)).alloc (.cells #[.int .i64 0,.int .i64 0] 3)) (some ⟨w1.heap.size+1+1+1,0,none⟩) [0,0] from by
  intro k u hu;rcases k with _ | _ | k <;> simp at hu <;> subst hu <;> exact⟨_,rfl,by simp[go_sem]⟩)
 go_wp2_with fail
 refine (xYh _ _ _ _ _ _ _ _ _ _ (HM.out.below bch) (some ⟨w1.heap.size+1+1,0,none⟩) 2 xQ5 HR.out (by decide) (some ⟨w1.heap.size+1+1+1,0,none⟩) 2 [0,0] HS.out (by decide)).mono ?_;rintro e w2 ⟨hres,hB2⟩;have D2:=xJ4 w hB2 bch;have Ew1_2:=xJ4 w1 hB2 bch;obtain⟨vals,he,_,hd⟩:=hres.resolve_left (fun ⟨_,_,_,_,h⟩=>h vVb);rw[vX1 hd] at he;subst he;clear hres hd
 go_wp2_with fail
 refine (xKq _).mono ?_;rintro e w3 ⟨As3,Ai3,Ag3,Ao3,cs3,ci3,cg3,co3,rfl,hM3,hB3⟩;have D3:=xJ4 w hB3 bch;have Ew1_3:=xJ4 w1 hB3 bch;have C3:=Cls.below (l:=[(w2.heap.size,0,.int .i64 0),(w2.heap.size,1,.int .i64 0)]) hB3 (by simp[Cls,go_sem]);have F3:=C3;simp only[Cls,and_true] at F3;have y3w20:w2.heap.size < w3.heap.size:=C3.blk (b:=w2.heap.size) (k:=0) (v:=.int .i64 0) (by simp);have HM3:=lHd hM3;clear hM3
 go_wp2_with fail
 refine (zKn _ _ _ _ _ _ _ _ _ _ HM3.out zJm 1 (by decide)).mono ?_;rintro e w4 ⟨sz,x1,x3,A2,A4,n2,c2,n4,c4,rfl,hsz,hB4⟩;have D4:=xJ4 w hB4 bch;have Ew1_4:=xJ4 w1 hB4 bch;have C4:=Cls.below (l:=[(w2.heap.size,0,.int .i64 0),(w2.heap.size,1,.int .i64 0)]) hB4 (by simp[Cls,go_sem,F3,y3w20]);have F4:=C4;simp only[Cls,and_true] at F4;have y4w20:w2.heap.size < w4.heap.size:=C4.blk (b:=w2.heap.size) (k:=0) (v:=.int .i64 0) (by simp);have y4w2p1:w2.heap.size < w4.heap.size+1:=(by omega);have hsz2:sz=2:=(Option.some.inj hsz).symm;subst hsz2;clear hsz
 go_wp2_with fail
 refine (xKq _).mono ?_;rintro e w5 ⟨As5,Ai5,Ag5,Ao5,cs5,ci5,cg5,co5,rfl,hM5,hB5⟩;have D5:=xJ4 w hB5 bch;have Ew1_5:=xJ4 w1 hB5 bch;have C5:=Cls.below (l:=[(w2.heap.size,0,.int .i64 0),(w2.heap.size,1,.int .i64 0),(w4.heap.size,0,.int .i64 2),(w4.heap.size,1,.int .i64 x1),(w4.heap.size,2,.slice A2 n2 c2),(w4.heap.size,3,.int .i64 x3),(w4.heap.size,4,.slice A4 n4 c4),(w4.heap.size+1,0,.int .i64 0),(w4.heap.size+1,1,.int .i64 0)]) hB5 (by simp[Cls,go_sem,F4,y4w20,y4w2p1]);have F5:=C5;simp only[Cls,and_true] at F5;have y5w20:w2.heap.size < w5.heap.size:=C5.blk (b:=w2.heap.size) (k:=0) (v:=.int .i64 0) (by simp);have y5w41:w4.heap.size+1 < w5.heap.size:=C5.blk (b:=w4.heap.size+1) (k:=0) (v:=.int .i64 0) (by simp);have HM5:=lHd hM5;clear hM5
 go_wp2_with fail
 refine (xYc _ _ _ _ _ _ _ _ _ _ HM5.out zJm (by decide)).mono ?_;rintro e w6 ⟨Ai6,Ag6,Ao6,ci6,cg6,co6,rfl,hT6,hB6⟩;have D6:=xJ4 w hB6 bch;have C6:=Cls.below (l:=[(w2.heap.size,0,.int .i64 0),(w2.heap.size,1,.int .i64 0),(w4.heap.size,0,.int .i64 2),(w4.heap.size,1,.int .i64 x1),(w4.heap.size,2,.slice A2 n2 c2),(w4.heap.size,3,.int .i64 x3),(w4.heap.size,4,.slice A4 n4 c4),(w4.heap.size+1,0,.int .i64 0),(w4.heap.size+1,1,.int .i64 0)]) hB6 (by simp[Cls,go_sem,F5,y5w20,y5w41]);have F6:=C6;simp only[Cls,and_true] at F6;have y6w20:w2.heap.size < w6.heap.size:=C6.blk (b:=w2.heap.size) (k:=0) (v:=.int .i64 0) (by simp);have y6w2p1:w2.heap.size < w6.heap.size+1:=(by omega);have y6w41:w4.heap.size+1 < w6.heap.size:=C6.blk (b:=w4.heap.size+1) (k:=0) (v:=.int .i64 0) (by simp);have y6w40:w4.heap.size < w6.heap.size:=(by omega);have y6w4p1:w4.heap.size < w6.heap.size+1:=(by omega);clear hT6;have hsl:(((stV xJk).ops.length:Int) == (2:Int))=true:=rfl;go_wp2;go_ret;exact⟨rfl,bch⟩
theorem vYy{m:MtV}{n:Nat}{k:Int}{pats:List (List Int)}{vals:List Int}(hm:MValid m)(hn:m.sizes.sum=n)(hb:RBest n (stV m).ops (stV m).goal (stV m).init k)(ha:AOk m pats m.init)(hd:DVals m pats m.init pats.length vals):xX1 vals (CmpV m.ops pats) vals.length []<=k:=by
 have hr:=hd.rng (Nat.le_refl _)
 by_cases hk:k=1000000000
 ·rw[hk];exact (xVx (cmp:=CmpV m.ops pats) hr vals.length []).2
 ·obtain⟨qs,h1,h2⟩:=hb.fp hk;have h3:=fp_mp hm hn h1 ha.1.2 (vVr (fun x hx=>(hm.sz x hx).1) ha.1.2);have h4:=zW6 hm hd.1 ha.1.2 (fun v hv=>(ha.2.2 v hv).2.1) (fun i p v hp hv=>by
   obtain⟨_,d,h5,h6⟩:=hd.2 i p (List.getElem?_eq_some_iff.1 hp).1 hp;rw[hv] at h5;obtain rfl:=Option.some.inj h5;exact h6) h3
  rw[<- vKm,h2] at h4;exact h4
theorem zY2{m:MtV}{pats:List (List Int)}{vals st p:List Int}{i:Nat}{d:Int}(hd:DVals m pats st pats.length vals)(hp:pats[i]? = some p)(h:DVal m p st d):d<=xX1 vals (CmpV m.ops pats) vals.length []:=by
 obtain⟨h1,d',h2,h3⟩:=hd.2 i p (List.getElem?_eq_some_iff.1 hp).1 hp;rw[h.uniq h1.1.1 h1.2.1 h1.1.2 h3];exact vXw (hd.rng (Nat.le_refl _)) h2
theorem vJz(w:World)(m:MtV)(As Ai Ag Ao:Option Addr)(cs ci cg co:Nat)(hM:MMem w As Ai Ag Ao m)(P:Option Addr)(cP:Nat)(pats:List (List Int))(hP:RowsRead w P pats)(hlp:pats.length<=9223372036854775807) :
  Calls Tryz.prog 4 #[.agg #[.slice As m.sizes.length cs,.slice Ai m.init.length ci,.slice Ag m.goal.length cg,.slice Ao m.ops.length co],.slice P pats.length cP] w fun e w'=>e=.returned (.bool true)/\Below w.heap.size w w':=by
 have HM:=lHd hM;have HP:=lHd hP;have hlm:=hM.linit.le;clear hM hP;go_enter Tryz.func4,Tryz.ntmps4
 go_wp2_with fail
 refine (xWh _).mono ?_;rintro e w1 ⟨rfl,hB1⟩;have D1:=xJ4 w hB1 bch;have C1:=Cls.below (l:=[(w.heap.size,0,.slice As m.sizes.length cs),(w.heap.size,1,.slice Ai m.init.length ci),(w.heap.size,2,.slice Ag m.goal.length cg),(w.heap.size,3,.slice Ao m.ops.length co)]) hB1 (by simp[Cls,go_sem]);have F1:=C1;simp only[Cls,and_true] at F1;have y1w0:w.heap.size < w1.heap.size:=C1.blk (b:=w.heap.size) (k:=0) (v:=.slice As m.sizes.length cs) (by simp)
 go_wp2_with fail
 refine (zKv _).mono ?_;rintro e w2 ⟨rfl,hB2⟩;have D2:=xJ4 w hB2 bch;have C2:=Cls.below (l:=[(w.heap.size,0,.slice As m.sizes.length cs),(w.heap.size,1,.slice Ai m.init.length ci),(w.heap.size,2,.slice Ag m.goal.length cg),(w.heap.size,3,.slice Ao m.ops.length co)]) hB2 (by simp[Cls,go_sem,F1,y1w0]);have F2:=C2;simp only[Cls,and_true] at F2;have y2w0:w.heap.size < w2.heap.size:=C2.blk (b:=w.heap.size) (k:=0) (v:=.slice As m.sizes.length cs) (by simp)
 go_wp2_with fail
 refine (vZe _ _ _ _ _ _ _ _ _ _ (HM.out.below bch)).mono ?_;rintro e w3 ⟨hq,hB3⟩;have D3:=xJ4 w hB3 bch;have C3:=Cls.below (l:=[(w.heap.size,0,.slice As m.sizes.length cs),(w.heap.size,1,.slice Ai m.init.length ci),(w.heap.size,2,.slice Ag m.goal.length cg),(w.heap.size,3,.slice Ao m.ops.length co)]) hB3 (by simp[Cls,go_sem,F2,y2w0]);have F3:=C3;simp only[Cls,and_true] at F3;have y3w0:w.heap.size < w3.heap.size:=C3.blk (b:=w.heap.size) (k:=0) (v:=.slice As m.sizes.length cs) (by simp);have HQ:=lHd hq;clear hq;rcases HQ.out with ⟨kk,he⟩ | ⟨kk,he,hmv,n,hn,hbst⟩
 ·subst he;clear HQ
  go_wp2_with fail
  refine (xYh _ _ _ _ _ _ _ _ _ _ (HM.out.below bch) _ _ _ (HP.out.below bch) hlp _ _ _ (HM.out.init.below bch) hlm).mono ?_;rintro e w4 ⟨hres,hB4⟩;have D4:=xJ4 w hB4 bch;have C4:=Cls.below (l:=[(w.heap.size,0,.slice As m.sizes.length cs),(w.heap.size,1,.slice Ai m.init.length ci),(w.heap.size,2,.slice Ag m.goal.length cg),(w.heap.size,3,.slice Ao m.ops.length co)]) hB4 (by simp[Cls,go_sem,F3,y3w0]);have F4:=C4;simp only[Cls,and_true] at F4;have y4w0:w.heap.size < w4.heap.size:=C4.blk (b:=w.heap.size) (k:=0) (v:=.slice As m.sizes.length cs) (by simp);have HRS:=lHd hres;clear hres;rcases HRS.out with ⟨cc,jj,he,hc,_⟩ | ⟨vals,he,_,_⟩
  ·subst he;have N2:(cc == (0:Int))=false:=by simp[hc]
   clear HRS;go_wp2;refine bodyPost_ret (v:=.bool true) ?_ rfl ⟨rfl,bch⟩;simp[results,Tryz.results4,go_sem,F4,y4w0]
  ·subst he;clear HRS;go_wp2;refine bodyPost_ret (v:=.bool true) ?_ rfl ⟨rfl,bch⟩;simp[results,Tryz.results4,go_sem,F4,y4w0]
 ·have HB:=lHd hbst;have HMV:=lHd hmv;have HN:=lHd hn;subst he;clear HQ hmv hn hbst
  go_wp2_with fail
  refine (xYh _ _ _ _ _ _ _ _ _ _ (HM.out.below bch) _ _ _ (HP.out.below bch) hlp _ _ _ (HM.out.init.below bch) hlm).mono ?_;rintro e w4 ⟨hres,hB4⟩;have D4:=xJ4 w hB4 bch;have C4:=Cls.below (l:=[(w.heap.size,0,.slice As m.sizes.length cs),(w.heap.size,1,.slice Ai m.init.length ci),(w.heap.size,2,.slice Ag m.goal.length cg),(w.heap.size,3,.slice Ao m.ops.length co)]) hB4 (by simp[Cls,go_sem,F3,y3w0]);have F4:=C4;simp only[Cls,and_true] at F4;have y4w0:w.heap.size < w4.heap.size:=C4.blk (b:=w.heap.size) (k:=0) (v:=.slice As m.sizes.length cs) (by simp);have HRS:=lHd hres;clear hres;rcases HRS.out with ⟨cc,jj,he,hc,_⟩ | ⟨vals,he,hao,hdv⟩
  ·subst he;have N2:(cc == (0:Int))=false:=by simp[hc]
   have N3:(cc != (0:Int))=true:=by simp[hc]
   clear HRS;go_wp2;refine bodyPost_ret (v:=.bool true) ?_ rfl ⟨rfl,bch⟩;simp[results,Tryz.results4,go_sem,F4,y4w0]
  ·have HAO:=lHd hao;have HDV:=lHd hdv;obtain⟨bn,hbn⟩:∃ bn,Hid (xX1 vals (CmpV m.ops pats) vals.length []=bn):=⟨_,lHd rfl⟩;have hle:bn<=kk:=by have:=vYy HMV.out HN.out HB.out HAO.out HDV.out;rw[hbn.out] at this;exact this
   rw[hbn.out] at he;subst he;clear HRS hao hdv
   go_wp2_with fail
   go_loopw [9] (fun i wr=>∃ k:Nat,k<=pats.length/\i=.int .i64 (k:Int)/\Below w.heap.size w wr/\Cls wr [(w.heap.size,0,.slice As m.sizes.length cs),(w.heap.size,1,.slice Ai m.init.length ci),(w.heap.size,2,.slice Ag m.goal.length cg),(w.heap.size,3,.slice Ao m.ops.length co)]) (fun i _=>pats.length - (intOf i).toNat)
   case atStart=>exact⟨0,Nat.zero_le _,rfl,bch,(by simp[Cls,go_sem,F4,y4w0])⟩
   case round=>
    obtain⟨k,hk,rfl,hBr,hCr⟩:=hrel;obtain⟨wk,rfl⟩:∃ wo:World,wo=wr:=⟨_,rfl⟩;have dks:=hBr.size;have Fr:=hCr;simp only[Cls,and_true] at Fr;have yrw0:w.heap.size < wk.heap.size:=hCr.blk (b:=w.heap.size) (k:=0) (v:=.slice As m.sizes.length cs) (by simp)
    by_cases hlt:k < pats.length
    ·have hpk:pats[k]? = some pats[k]:=lGe hlt;obtain⟨p,hp⟩:∃ p,p=pats[k]:=⟨_,rfl⟩;rw[<- hp] at hpk;have HPK:=lHd hpk;obtain⟨ad,R,cr,hPa,hrc,hIR,hnR⟩:=(HP.out.below hBr) k p hpk;subst hPa;have hlr:p.length<=9223372036854775807:=Nat.le_trans hnR.2.1 hnR.2.2;have HPO:=lHd (HAO.out.2.2 p (lMg hpk));have hrl:=World.block_lt_of_cell? wk _ hrc;have hlt2:(k:Int) < (pats.length:Int):=by omega
     clear hpk hp hnR
     go_wp2_with fail
     refine xJg (fun W=>W.cell? ⟨w.heap.size,0,none⟩=some (.slice As m.sizes.length cs)/\W.cell? ⟨w.heap.size,1,none⟩=some (.slice Ai m.init.length ci)/\W.cell? ⟨w.heap.size,2,none⟩=some (.slice Ag m.goal.length cg)/\W.cell? ⟨w.heap.size,3,none⟩=some (.slice Ao m.ops.length co)/\W.cell? (ad.add k)=some (.slice R p.length cr)) [13] (by kernel_rfl) ?_;have hSS:wk.drew.cell? ⟨w.heap.size,0,none⟩=some (.slice As m.sizes.length cs)/\wk.drew.cell? ⟨w.heap.size,1,none⟩=some (.slice Ai m.init.length ci)/\wk.drew.cell? ⟨w.heap.size,2,none⟩=some (.slice Ag m.goal.length cg)/\wk.drew.cell? ⟨w.heap.size,3,none⟩=some (.slice Ao m.ops.length co)/\wk.drew.cell? (ad.add k)=some (.slice R p.length cr):=by simp[go_sem,hrc,Fr,yrw0]
     refine xJ0 (i:=0) (v:=?vt1x0) rfl (by kernel_rfl) (by kernel_rfl) (by kernel_rfl) (by kernel_rfl) (by kernel_rfl) (fun _ _ _ h=>h) (Or.inl ⟨by rfl,?ht1x0⟩) (by assumption) ?rt1x0
     case ht1x0=>(intro w hSw;(try dsimp only at hSw);go_simp;(try with_reducible rfl))
     try simp only[ap]
     refine xJ0 (i:=1) (v:=?vt2x1) rfl (by kernel_rfl) (by kernel_rfl) (by kernel_rfl) (by kernel_rfl) (by kernel_rfl) (fun _ _ _ h=>h) (Or.inl ⟨by rfl,?ht2x1⟩) (by assumption) ?rt2x1
     case ht2x1=>(intro w hSw;(try dsimp only at hSw);go_simp;(try with_reducible rfl))
     try simp only[ap]
     refine xJ0 (i:=2) (v:=?vt3x2) rfl (by kernel_rfl) (by kernel_rfl) (by kernel_rfl) (by kernel_rfl) (by kernel_rfl) (fun _ _ _ h=>h) (Or.inl ⟨by rfl,?ht3x2⟩) (by assumption) ?rt3x2
     case ht3x2=>(intro w hSw;(try dsimp only at hSw);go_simp;(try with_reducible rfl))
     try simp only[ap]
     refine xJ0 (i:=3) (v:=?vt4x3) rfl (by kernel_rfl) (by kernel_rfl) (by kernel_rfl) (by kernel_rfl) (by kernel_rfl) (fun _ _ _ h=>h) (Or.inl ⟨by rfl,?ht4x3⟩) (by assumption) ?rt4x3
     case ht4x3=>(intro w hSw;(try dsimp only at hSw);go_simp;(try with_reducible rfl))
     try simp only[ap]
     refine xJ0 (i:=4) (v:=?vt5x4) rfl (by kernel_rfl) (by kernel_rfl) (by kernel_rfl) (by kernel_rfl) (by kernel_rfl) (fun _ _ _ h=>h) (Or.inl ⟨by rfl,?ht5x4⟩) (by assumption) ?rt5x4
     case ht5x4=>(intro w hSw;(try dsimp only at hSw);go_simp;(try with_reducible rfl))
     try simp only[ap]
     refine xJ0 (i:=5) (v:=?vt6x5) rfl (by kernel_rfl) (by kernel_rfl) (by kernel_rfl) (by kernel_rfl) (by kernel_rfl) (fun _ _ _ h=>h) (Or.inl ⟨by rfl,?ht6x5⟩) (by assumption) ?rt6x5
     case ht6x5=>(intro w hSw;(try dsimp only at hSw);go_simp;(try with_reducible rfl))
     try simp only[ap]
     refine xJ0 (i:=6) (v:=?vt7x6) rfl (by kernel_rfl) (by kernel_rfl) (by kernel_rfl) (by kernel_rfl) (by kernel_rfl) (fun _ _ _ h=>h) (Or.inl ⟨by rfl,?ht7x6⟩) (by assumption) ?rt7x6
     case ht7x6=>(intro w hSw;(try dsimp only at hSw);go_simp;(try with_reducible rfl))
     try simp only[ap]
     refine xXs (i:=7) (j:=11) (by kernel_rfl) rfl rfl (fun K hK=>?bc) (fun K hK=>?ba)
     case bc=>
      go_simp;go_at_call 15;refine (xY3 _ _ _ _ _ _ _ _ _ _ (HM.out.below bch) _ _ _ (hIR.below bch) hlr _ _ _ (HM.out.init.below bch) hlm HPO.out).mono ?_;rintro e w7 ⟨d,rfl,hd,hB7⟩;have D7:=xJ4 w hB7 bch;have Ewk_7:=xJ4 wk hB7 bch;have C7:=Cls.below (l:=[(w.heap.size,0,.slice As m.sizes.length cs),(w.heap.size,1,.slice Ai m.init.length ci),(w.heap.size,2,.slice Ag m.goal.length cg),(w.heap.size,3,.slice Ao m.ops.length co)]) hB7 (by simp[Cls,go_sem,Fr,yrw0]);have F7:=C7;simp only[Cls,and_true] at F7;have y7w0:w.heap.size < w7.heap.size:=C7.blk (b:=w.heap.size) (k:=0) (v:=.slice As m.sizes.length cs) (by simp);have hdl:¬ bn < d:=(by have:=zY2 HDV.out HPK.out hd;rw[hbn.out] at this;omega);clear hd;have hSS:w7.cell? ⟨w.heap.size,0,none⟩=some (.slice As m.sizes.length cs)/\w7.cell? ⟨w.heap.size,1,none⟩=some (.slice Ai m.init.length ci)/\w7.cell? ⟨w.heap.size,2,none⟩=some (.slice Ag m.goal.length cg)/\w7.cell? ⟨w.heap.size,3,none⟩=some (.slice Ao m.ops.length co)/\w7.cell? (ad.add k)=some (.slice R p.length cr):=(by have q:=C7;simp only[Cls,and_true] at q;have hE:=Ewk_7.cell hrl;rw[hrc] at hE;simp[q,hE])
      go_wp2_with fail
      refine hK.out _ _ hSS ?_;clear hK K
      try simp only[ap]
      refine xJ0 (i:=8) (v:=?vt8x8) rfl (by kernel_rfl) (by kernel_rfl) (by kernel_rfl) (by kernel_rfl) (by kernel_rfl) (fun _ _ _ h=>h) (Or.inl ⟨by rfl,?ht8x8⟩) (by assumption) ?rt8x8
      case ht8x8=>(intro w hSw;(try dsimp only at hSw);go_simp;(try with_reducible rfl))
      try simp only[ap]
      refine xJ0 (i:=9) (v:=?vt9x9) rfl (by kernel_rfl) (by kernel_rfl) (by kernel_rfl) (by kernel_rfl) (by kernel_rfl) (fun _ _ _ h=>h) (Or.inl ⟨by rfl,?ht9x9⟩) (by assumption) ?rt9x9
      case ht9x9=>(intro w hSw;(try dsimp only at hSw);go_simp;(try with_reducible rfl))
      try simp only[ap]
      refine xJ0 (i:=10) (v:=?vt10x10) rfl (by kernel_rfl) (by kernel_rfl) (by kernel_rfl) (by kernel_rfl) (by kernel_rfl) (fun _ _ _ h=>h) (Or.inl ⟨by rfl,?ht10x10⟩) (by assumption) ?rt10x10
      case ht10x10=>(intro w hSw;(try dsimp only at hSw);go_simp;(try with_reducible rfl))
      try simp only[ap]
      refine xJ3 (i:=11) (by kernel_rfl) rfl (fun K hK=>?_);go_simp;have hSS:(w7.alloc (.cells #[.int .i64 0,.int .i64 0] 27)).cell? ⟨w.heap.size,0,none⟩=some (.slice As m.sizes.length cs)/\(w7.alloc (.cells #[.int .i64 0,.int .i64 0] 27)).cell? ⟨w.heap.size,1,none⟩=some (.slice Ai m.init.length ci)/\(w7.alloc (.cells #[.int .i64 0,.int .i64 0] 27)).cell? ⟨w.heap.size,2,none⟩=some (.slice Ag m.goal.length cg)/\(w7.alloc (.cells #[.int .i64 0,.int .i64 0] 27)).cell? ⟨w.heap.size,3,none⟩=some (.slice Ao m.ops.length co)/\(w7.alloc (.cells #[.int .i64 0,.int .i64 0] 27)).cell? (ad.add k)=some (.slice R p.length cr):=(by have hE:=Ewk_7.cell hrl;rw[hrc] at hE;have hrl7:=World.block_lt_of_cell? w7 _ hE;simp[go_sem,hE,hrl7,F7,y7w0])
      go_wp2_with fail
      refine hK.out _ _ hSS ?_;clear hK K
      try simp only[ap]
      refine xJ0 (i:=12) (v:=?vt11x12) rfl (by kernel_rfl) (by kernel_rfl) (by kernel_rfl) (by kernel_rfl) (by kernel_rfl) (fun _ _ _ h=>h) (Or.inl ⟨by rfl,?ht11x12⟩) (by assumption) ?rt11x12
      case ht11x12=>(intro w hSw;(try dsimp only at hSw);go_simp;(try with_reducible rfl))
      try simp only[ap]
      refine xJc (i:=13) (by kernel_rfl) rfl (by kernel_rfl) (fun K hK=>?_);go_simp
      go_wp2_with fail
      refine hK.out _ _ ?_;clear hK K
      try simp only[ap]
      refine xJ7 (by kernel_rfl) ?_ _;go_wp2
      go_roundw
      case rel=>exact⟨k+1,by omega,by go_num,bch,(by simp[Cls,go_sem,F7,y7w0])⟩
      case measure=>simp[intOf];omega
     case ba=>
      go_simp;have hSS:(wk.drew.alloc (.cells #[.int .i64 0,.int .i64 0] 27)).cell? ⟨w.heap.size,0,none⟩=some (.slice As m.sizes.length cs)/\(wk.drew.alloc (.cells #[.int .i64 0,.int .i64 0] 27)).cell? ⟨w.heap.size,1,none⟩=some (.slice Ai m.init.length ci)/\(wk.drew.alloc (.cells #[.int .i64 0,.int .i64 0] 27)).cell? ⟨w.heap.size,2,none⟩=some (.slice Ag m.goal.length cg)/\(wk.drew.alloc (.cells #[.int .i64 0,.int .i64 0] 27)).cell? ⟨w.heap.size,3,none⟩=some (.slice Ao m.ops.length co)/\(wk.drew.alloc (.cells #[.int .i64 0,.int .i64 0] 27)).cell? (ad.add k)=some (.slice R p.length cr):=(by simp[go_sem,hrc,hrl,Fr,yrw0])
      go_wp2_with fail
      refine hK.out _ _ hSS ?_;clear hK K
      try simp only[ap]
      refine xJ3 (i:=7) (by kernel_rfl) rfl (fun K hK=>?_);go_simp;go_at_call 15;refine (xY3 _ _ _ _ _ _ _ _ _ _ (HM.out.below bch) _ _ _ (hIR.below bch) hlr _ _ _ (HM.out.init.below bch) hlm HPO.out).mono ?_;rintro e w7 ⟨d,rfl,hd,hB7⟩;have D7:=xJ4 w hB7 bch;have Ewk_7:=xJ4 wk hB7 bch;have C7:=Cls.below (l:=[(w.heap.size,0,.slice As m.sizes.length cs),(w.heap.size,1,.slice Ai m.init.length ci),(w.heap.size,2,.slice Ag m.goal.length cg),(w.heap.size,3,.slice Ao m.ops.length co),(wk.heap.size,0,.int .i64 0),(wk.heap.size,1,.int .i64 0)]) hB7 (by simp[Cls,go_sem,Fr,yrw0]);have F7:=C7;simp only[Cls,and_true] at F7;have y7w0:w.heap.size < w7.heap.size:=C7.blk (b:=w.heap.size) (k:=0) (v:=.slice As m.sizes.length cs) (by simp);have y7wk0:wk.heap.size < w7.heap.size:=C7.blk (b:=wk.heap.size) (k:=0) (v:=.int .i64 0) (by simp);have hdl:¬ bn < d:=(by have:=zY2 HDV.out HPK.out hd;rw[hbn.out] at this;omega);clear hd;have hSS:w7.cell? ⟨w.heap.size,0,none⟩=some (.slice As m.sizes.length cs)/\w7.cell? ⟨w.heap.size,1,none⟩=some (.slice Ai m.init.length ci)/\w7.cell? ⟨w.heap.size,2,none⟩=some (.slice Ag m.goal.length cg)/\w7.cell? ⟨w.heap.size,3,none⟩=some (.slice Ao m.ops.length co)/\w7.cell? (ad.add k)=some (.slice R p.length cr):=(by have q:=C7;simp only[Cls,and_true] at q;have hE:=Ewk_7.cell hrl;rw[hrc] at hE;simp[q,hE])
      go_wp2_with fail
      refine hK.out _ _ hSS ?_;clear hK K
      try simp only[ap]
      refine xJ0 (i:=8) (v:=?vt12x8) rfl (by kernel_rfl) (by kernel_rfl) (by kernel_rfl) (by kernel_rfl) (by kernel_rfl) (fun _ _ _ h=>h) (Or.inl ⟨by rfl,?ht12x8⟩) (by assumption) ?rt12x8
      case ht12x8=>(intro w hSw;(try dsimp only at hSw);go_simp;(try with_reducible rfl))
      try simp only[ap]
      refine xJ0 (i:=9) (v:=?vt13x9) rfl (by kernel_rfl) (by kernel_rfl) (by kernel_rfl) (by kernel_rfl) (by kernel_rfl) (fun _ _ _ h=>h) (Or.inl ⟨by rfl,?ht13x9⟩) (by assumption) ?rt13x9
      case ht13x9=>(intro w hSw;(try dsimp only at hSw);go_simp;(try with_reducible rfl))
      try simp only[ap]
      refine xJ0 (i:=10) (v:=?vt14x10) rfl (by kernel_rfl) (by kernel_rfl) (by kernel_rfl) (by kernel_rfl) (by kernel_rfl) (fun _ _ _ h=>h) (Or.inl ⟨by rfl,?ht14x10⟩) (by assumption) ?rt14x10
      case ht14x10=>(intro w hSw;(try dsimp only at hSw);go_simp;(try with_reducible rfl))
      try simp only[ap]
      refine xJ0 (i:=12) (v:=?vt15x12) rfl (by kernel_rfl) (by kernel_rfl) (by kernel_rfl) (by kernel_rfl) (by kernel_rfl) (fun _ _ _ h=>h) (Or.inl ⟨by rfl,?ht15x12⟩) (by assumption) ?rt15x12
      case ht15x12=>(intro w hSw;(try dsimp only at hSw);go_simp;(try with_reducible rfl))
      try simp only[ap]
      refine xJc (i:=13) (by kernel_rfl) rfl (by kernel_rfl) (fun K hK=>?_);go_simp
      go_wp2_with fail
      refine hK.out _ _ ?_;clear hK K
      try simp only[ap]
      refine xJ7 (by kernel_rfl) ?_ _;go_wp2
      go_roundw
      case rel=>exact⟨k+1,by omega,by go_num,bch,(by simp[Cls,go_sem,F7,y7w0,y7wk0])⟩
      case measure=>simp[intOf];omega
    ·have hkl:¬ (k:Int) < (pats.length:Int):=by omega
     go_wp2;refine bodyPost_ret (v:=.bool true) ?_ rfl ⟨rfl,bch⟩;simp[results,Tryz.results4,go_sem,hle]
end Go.Proofs.YtpeipeljmapkmaaGreat
