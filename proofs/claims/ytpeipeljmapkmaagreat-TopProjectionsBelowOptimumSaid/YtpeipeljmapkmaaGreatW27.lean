/-
  Lemmas for the law: Nb, Nc.
-/
import Derived.Test.YtpeipeljmapkmaaGreatW26
import Derived.Test.YtpeipeljmapkmaaGreatW10
import Derived.Test.YtpeipeljmapkmaaGreatW3
import Derived.Deep.RegionLawGrows
set_option linter.unusedVariables false
set_option linter.unusedSimpArgs false
set_option maxRecDepth 100000
set_option maxHeartbeats 4000000
namespace Go.Proofs.YtpeipeljmapkmaaGreat
open Go.RowKit
theorem vJ7{ops:Array Oper}{o:Oper}{a:Act}{w:World}{K:Act->World->Prop}{Q:Exit->Act->World->Prop}{E:Prop}(hgd:o.guard=none)(s x:Operand)
  (ho:o.op=.call { callee:=.builtin .append,args:=#[s,x],argTypes:=#[22,22] })
  (A:Option Addr) (n:Nat) (r:List Int) (hr:r.length=n) (hs:a.eval s=.slice A n n) (hI:Ints w A r) (hnil:A=none->r=[]) (ad:Addr) (m:Nat) (y:Int) (hx:a.eval x=.slice (some ad) 1 m) (hc:w.cell? ad=some (.int .i64 y)) (hlen:n < 1000000)
  (h:∀ v' w',OwnI w.heap.size w' v' (r ++ [y])->Below w.heap.size w w'->K (a.put o.dst v') w'):if Region.wanted o (yielded ops a.tmps)=true then Oper.wp Tryz.prog o a w K Q else E:=by
 obtain⟨i0,hi0,hz⟩:=Option.map_eq_some_iff.1 xXx;simp only[Prod.mk.injEq] at hz;refine step_append_grows hgd s x 22 ho 3 i0 (.int .i64 0) 1 8 Tryz.underlying22 hi0 hz.1 hz.2.1 hz.2.2 rfl (by decide) A n n (r.map (Value.int .i64)) hs (fun e=>by have:=hnil e;subst this;simp at hr;exact⟨hr.symm,hr.symm⟩) (by simp[hr]) (fun b e j u hu=>?_) ad 1 m [.int .i64 y] hx rfl (fun j u hu=>?_) (fun u hu=>by simp at hu;subst hu;rfl) (by omega) (by simp only[maxLen];omega) (by omega) ?_
 ·obtain⟨ad',e',hc'⟩:=hI j u hu;rw[e] at e';injection e' with e'
  rw[e'];exact hc'
 ·cases j with
  | zero=>simp at hu;subst hu;rw[add_zero];exact hc
  | succ j=>simp at hu
 ·intro v' w' h1 h2;refine h v' w' ?_ ((Below.refl _ _).grown h2 (Nat.le_refl _) (fun k hk=>by cases hk));unfold OwnI;rw[List.length_append,List.map_append];subst hr;exact h1
def xZd(pats:List (List Int))(k:Int):List Int:=pats.getD k.toNat []
theorem CmpV.iff{ops:List MopV}{pats:List (List Int)}{i k:Nat}:CmpV ops pats i k↔vYn ops (xZd pats (i:Int)) (xZd pats (k:Int)):=by
 unfold CmpV vYn xZd;rw[Int.toNat_natCast,Int.toNat_natCast]
theorem vQk{vals:List Int}{cmp:Nat->Nat->Prop}{i:Nat}(h:i=vals.length)(ch:List Nat):xX1 vals cmp (vals.length - i) ch=0:=by
 rw[h,Nat.sub_self];rfl
theorem xYz{vals:List Int}{cmp:Nat->Nat->Prop}{i:Nat}{v:Int}{ch:List Nat}(hi:vals[i]? = some v)(h:∀ k∈ch,cmp i k):xX1 vals cmp (vals.length - i) ch=max (xX1 vals cmp (vals.length - (i+1)) ch) (xXa v (xX1 vals cmp (vals.length - (i+1)) (ch ++ [i]))):=by
 have hl:=(List.getElem?_eq_some_iff.1 hi).1;obtain⟨r,hr⟩:∃ r,vals.length - i=r+1:=⟨vals.length - i - 1,by omega⟩;have e:vals.length - (r+1)=i:=by omega
 have e2:vals.length - (i+1)=r:=by omega
 rw[hr,e2,xX1,e,if_pos h,xJ5 (v:=v) (by rw[Int.toNat_natCast];exact hi)]
theorem vYt{vals:List Int}{cmp:Nat->Nat->Prop}{i:Nat}{ch:List Nat}(hi:i < vals.length)(h:¬ ∀ k∈ch,cmp i k):xX1 vals cmp (vals.length - i) ch=xX1 vals cmp (vals.length - (i+1)) ch:=by
 obtain⟨r,hr⟩:∃ r,vals.length - i=r+1:=⟨vals.length - i - 1,by omega⟩;have e:vals.length - (r+1)=i:=by omega
 have e2:vals.length - (i+1)=r:=by omega
 rw[hr,e2,xX1,e,if_neg h]
structure ABx(w:World)(bp bf bm bv:Nat)(P VA:Option Addr)(cP cV:Nat)(pats:List (List Int))(vals:List Int)(m:MtV)(As Ai Ag Ao:Option Addr)(cs ci cg co:Nat):Prop where
 cp:w.cell? ⟨bp,0,none⟩=some (.slice P pats.length cP)
 cf:w.cell? ⟨bf,0,none⟩=some (.func (.func 37) #[] #[.pointer (some ⟨bp,0,none⟩),.pointer (some ⟨bf,0,none⟩),.pointer (some ⟨bm,0,none⟩),.pointer (some ⟨bv,0,none⟩)])
 c0:w.cell? ⟨bm,0,none⟩=some (.slice As m.sizes.length cs)
 c1:w.cell? ⟨bm,1,none⟩=some (.slice Ai m.init.length ci)
 c2:w.cell? ⟨bm,2,none⟩=some (.slice Ag m.goal.length cg)
 c3:w.cell? ⟨bm,3,none⟩=some (.slice Ao m.ops.length co)
 cv:w.cell? ⟨bv,0,none⟩=some (.slice VA vals.length cV)
 mem:MMem w As Ai Ag Ao m
 rows:RowsRead w P pats
 ints:Ints w VA vals
theorem ABx.below{w w':World}{bp bf bm bv:Nat}{P VA:Option Addr}{cP cV:Nat}{pats:List (List Int)}{vals:List Int}{m:MtV}{As Ai Ag Ao:Option Addr}{cs ci cg co:Nat}(h:ABx w bp bf bm bv P VA cP cV pats vals m As Ai Ag Ao cs ci cg co)(hb:Below w.heap.size w w'):ABx w' bp bf bm bv P VA cP cV pats vals m As Ai Ag Ao cs ci cg co:=by
 have key:∀ {p:Addr} {u:Value},w.cell? p=some u->w'.cell? p=some u:=fun {p u} hc=>(hb.cell (World.block_lt_of_cell? w _ hc)).trans hc
 exact⟨key h.cp,key h.cf,key h.c0,key h.c1,key h.c2,key h.c3,key h.cv,h.mem.below hb,h.rows.below hb,h.ints.below hb⟩
theorem vYu:xXm 37:=fun args w=>by kernel_rfl
theorem vQl:xXm 39:=fun args w=>by kernel_rfl
theorem vQm(w:World)(bp bf bm bv:Nat)(P VA:Option Addr)(cP cV:Nat)(pats:List (List Int))(vals:List Int)(m:MtV)(As Ai Ag Ao:Option Addr)(cs ci cg co:Nat)(hX:ABx w bp bf bm bv P VA cP cV pats vals m As Ai Ag Ao cs ci cg co)(bi i k:Nat)(hbi:w.cell? ⟨bi,0,none⟩=some (.int .i64 (i:Int)))(hi:i < pats.length)(hk:k < pats.length) :
  Calls Tryz.prog 39 #[.int .i64 (k:Int),.pointer (some ⟨bm,0,none⟩),.pointer (some ⟨bp,0,none⟩),.pointer (some ⟨bi,0,none⟩)] w fun e w'=>e=.returned (.bool (!zK2 m.ops (xZd pats (i:Int)) (xZd pats (k:Int))))/\Below w.heap.size w w':=by
 have hr1:pats[i]? = some (xZd pats (i:Int)):=by unfold xZd;rw[Int.toNat_natCast,List.getD_eq_getElem?_getD,lGe hi];rfl
 have hr2:pats[k]? = some (xZd pats (k:Int)):=by unfold xZd;rw[Int.toNat_natCast,List.getD_eq_getElem?_getD,lGe hk];rfl
 obtain⟨r1,hr1e⟩:∃ r1,Hid (xZd pats (i:Int)=r1):=⟨_,lHd rfl⟩;obtain⟨r2,hr2e⟩:∃ r2,Hid (xZd pats (k:Int)=r2):=⟨_,lHd rfl⟩;rw[hr1e.out] at hr1;rw[hr2e.out] at hr2;obtain⟨z,hz⟩:∃ z,Hid (zK2 m.ops r1 r2=z):=⟨_,lHd rfl⟩;have HZ:=hz;rw[hr1e.out,hr2e.out,hz.out];obtain⟨ad,B1,c1,rfl,hr1c,hI1,hn1⟩:=hX.rows i r1 hr1;obtain⟨ad',B2,c2,e,hr2c,hI2,hn2⟩:=hX.rows k r2 hr2;injection e with e
 subst e;have HMM:=lHd hX.mem;have hl1:r1.length<=9223372036854775807:=Nat.le_trans hn1.2.1 hn1.2.2;have hl2:r2.length<=9223372036854775807:=Nat.le_trans hn2.2.1 hn2.2.2;clear hn1 hn2 hr1 hr2;have x0:=hX.c0;have x1:=hX.c1;have x2:=hX.c2;have x3:=hX.c3;have xp:=hX.cp;have hk2:(k:Int) < (pats.length:Int):=by omega
 have hi2:(i:Int) < (pats.length:Int):=by omega
 go_enter Tryz.func39,Tryz.ntmps39
 go_wp2_with fail
 have hSS0:w.drew.cell? ⟨bm,0,none⟩=some (.slice As m.sizes.length cs)/\w.drew.cell? ⟨bm,1,none⟩=some (.slice Ai m.init.length ci)/\w.drew.cell? ⟨bm,2,none⟩=some (.slice Ag m.goal.length cg)/\w.drew.cell? ⟨bm,3,none⟩=some (.slice Ao m.ops.length co)/\w.drew.cell? ⟨bp,0,none⟩=some (.slice (some ad) pats.length cP)/\w.drew.cell? ⟨bi,0,none⟩=some (.int .i64 (i:Int))/\w.drew.cell? (ad.add i)=some (.slice B1 r1.length c1)/\w.drew.cell? (ad.add k)=some (.slice B2 r2.length c2):=⟨x0,x1,x2,x3,xp,hbi,hr1c,hr2c⟩;refine xJg (fun W=>W.cell? ⟨bm,0,none⟩=some (.slice As m.sizes.length cs)/\W.cell? ⟨bm,1,none⟩=some (.slice Ai m.init.length ci)/\W.cell? ⟨bm,2,none⟩=some (.slice Ag m.goal.length cg)/\W.cell? ⟨bm,3,none⟩=some (.slice Ao m.ops.length co)/\W.cell? ⟨bp,0,none⟩=some (.slice (some ad) pats.length cP)/\W.cell? ⟨bi,0,none⟩=some (.int .i64 (i:Int))/\W.cell? (ad.add i)=some (.slice B1 r1.length c1)/\W.cell? (ad.add k)=some (.slice B2 r2.length c2)) [11] (by kernel_rfl) ?_;have hSS:=hSS0;refine xJ0 (i:=0) (v:=?vz10) rfl (by kernel_rfl) (by kernel_rfl) (by kernel_rfl) (by kernel_rfl) (by kernel_rfl) (fun _ _ _ h=>h) (Or.inl ⟨by rfl,?hz10⟩) (by assumption) ?rz10
 case hz10=>(intro w hSw;(try dsimp only at hSw);go_simp;(try with_reducible rfl))
 try simp only[ap]
 refine xJ0 (i:=1) (v:=?vz11) rfl (by kernel_rfl) (by kernel_rfl) (by kernel_rfl) (by kernel_rfl) (by kernel_rfl) (fun _ _ _ h=>h) (Or.inl ⟨by rfl,?hz11⟩) (by assumption) ?rz11
 case hz11=>(intro w hSw;(try dsimp only at hSw);go_simp;(try with_reducible rfl))
 try simp only[ap]
 refine xJ0 (i:=2) (v:=?vz12) rfl (by kernel_rfl) (by kernel_rfl) (by kernel_rfl) (by kernel_rfl) (by kernel_rfl) (fun _ _ _ h=>h) (Or.inl ⟨by rfl,?hz12⟩) (by assumption) ?rz12
 case hz12=>(intro w hSw;(try dsimp only at hSw);go_simp;(try with_reducible rfl))
 try simp only[ap]
 refine xJ0 (i:=3) (v:=?vz13) rfl (by kernel_rfl) (by kernel_rfl) (by kernel_rfl) (by kernel_rfl) (by kernel_rfl) (fun _ _ _ h=>h) (Or.inl ⟨by rfl,?hz13⟩) (by assumption) ?rz13
 case hz13=>(intro w hSw;(try dsimp only at hSw);go_simp;(try with_reducible rfl))
 try simp only[ap]
 refine xJ0 (i:=4) (v:=?vz14) rfl (by kernel_rfl) (by kernel_rfl) (by kernel_rfl) (by kernel_rfl) (by kernel_rfl) (fun _ _ _ h=>h) (Or.inl ⟨by rfl,?hz14⟩) (by assumption) ?rz14
 case hz14=>(intro w hSw;(try dsimp only at hSw);go_simp;(try with_reducible rfl))
 try simp only[ap]
 refine xJ0 (i:=5) (v:=?vz15) rfl (by kernel_rfl) (by kernel_rfl) (by kernel_rfl) (by kernel_rfl) (by kernel_rfl) (fun _ _ _ h=>h) (Or.inl ⟨by rfl,?hz15⟩) (by assumption) ?rz15
 case hz15=>(intro w hSw;(try dsimp only at hSw);go_simp;(try with_reducible rfl))
 try simp only[ap]
 refine xJ0 (i:=6) (v:=?vz16) rfl (by kernel_rfl) (by kernel_rfl) (by kernel_rfl) (by kernel_rfl) (by kernel_rfl) (fun _ _ _ h=>h) (Or.inl ⟨by rfl,?hz16⟩) (by assumption) ?rz16
 case hz16=>(intro w hSw;(try dsimp only at hSw);go_simp;(try with_reducible rfl))
 try simp only[ap]
 refine xJ0 (i:=7) (v:=?vz17) rfl (by kernel_rfl) (by kernel_rfl) (by kernel_rfl) (by kernel_rfl) (by kernel_rfl) (fun _ _ _ h=>h) (Or.inl ⟨by rfl,?hz17⟩) (by assumption) ?rz17
 case hz17=>(intro w hSw;(try dsimp only at hSw);go_simp;(try with_reducible rfl))
 try simp only[ap]
 refine xJ0 (i:=8) (v:=?vz18) rfl (by kernel_rfl) (by kernel_rfl) (by kernel_rfl) (by kernel_rfl) (by kernel_rfl) (fun _ _ _ h=>h) (Or.inl ⟨by rfl,?hz18⟩) (by assumption) ?rz18
 case hz18=>(intro w hSw;(try dsimp only at hSw);go_simp;(try with_reducible rfl))
 try simp only[ap]
 refine xJ3 (i:=9) (by kernel_rfl) rfl (fun K hK=>?_);go_simp;go_at_call 40;refine (xWe _ _ _ _ _ _ _ _ _ _ (HMM.out.below bch) _ _ _ (hI1.below bch) hl1 _ _ _ (hI2.below bch) hl2).mono ?_;rintro e w2 ⟨he,hB2⟩;rw[HZ.out] at he;subst he;have key:∀ {p:Addr} {u:Value},w.cell? p=some u->w2.cell? p=some u:=fun {p u} hc=>(Below.cell (xJ4 w hB2 bch) (World.block_lt_of_cell? w _ hc)).trans hc
 have hSS:w2.cell? ⟨bm,0,none⟩=some (.slice As m.sizes.length cs)/\w2.cell? ⟨bm,1,none⟩=some (.slice Ai m.init.length ci)/\w2.cell? ⟨bm,2,none⟩=some (.slice Ag m.goal.length cg)/\w2.cell? ⟨bm,3,none⟩=some (.slice Ao m.ops.length co)/\w2.cell? ⟨bp,0,none⟩=some (.slice (some ad) pats.length cP)/\w2.cell? ⟨bi,0,none⟩=some (.int .i64 (i:Int))/\w2.cell? (ad.add i)=some (.slice B1 r1.length c1)/\w2.cell? (ad.add k)=some (.slice B2 r2.length c2):=⟨key hX.c0,key hX.c1,key hX.c2,key hX.c3,key hX.cp,key hbi,key hr1c,key hr2c⟩
 go_wp2_with fail
 refine hK.out _ _ hSS ?_;clear hK K
 try simp only[ap]
 refine xJl (i:=10) (v:=?vz110) rfl (by kernel_rfl) (by kernel_rfl) (by kernel_rfl) (by kernel_rfl) (by kernel_rfl) (fun _ _ _ h=>h) (Or.inl ⟨by rfl,?hz110⟩) (by assumption) ?rz110
 case hz110=>(intro w hSw;(try dsimp only at hSw);go_simp;(try with_reducible rfl))
 try simp only[ap]
 refine xJc (i:=11) (by kernel_rfl) rfl (by kernel_rfl) (fun K hK=>?_);go_simp
 go_wp2_with fail
 refine hK.out _ _ ?_;clear hK K
 try simp only[ap]
 refine xJ7 (by kernel_rfl) ?_ _;go_wp2;go_ret;exact⟨by simp,xJ4 w hB2 bch⟩
def yJ3(bp bf bm bv:Nat)(P VA:Option Addr)(cP cV:Nat)(pats:List (List Int))(vals:List Int)(m:MtV)(As Ai Ag Ao:Option Addr)(cs ci cg co:Nat)(i:Nat):Prop:=∀ (w:World) (C:Option Addr) (cc:Nat) (ch:List Nat),ABx w bp bf bm bv P VA cP cV pats vals m As Ai Ag Ao cs ci cg co->Ints w C (ch.map fun (k:Nat)=>(k:Int))->(C=none->ch=[])->ch.length<=cc->cc<=9223372036854775807->ch.length<=i->(∀ k∈ch,k < pats.length) ->
 Calls Tryz.prog 37 #[.int .i64 ((i:Int)),.slice C ch.length cc,.pointer (some ⟨bp,0,none⟩),.pointer (some ⟨bf,0,none⟩),.pointer (some ⟨bm,0,none⟩),.pointer (some ⟨bv,0,none⟩)] w fun e w'=>e=.returned (.int .i64 (xX1 vals (CmpV m.ops pats) (vals.length - i) ch))/\Below w.heap.size w w'
theorem vZr(w:World)(bp bf bm bv:Nat)(P VA:Option Addr)(cP cV:Nat)(pats:List (List Int))(vals:List Int)(m:MtV)(As Ai Ag Ao:Option Addr)(cs ci cg co:Nat)(hlen:vals.length=pats.length)(h6:pats.length<=6)(hvr:∀ v∈vals,0<=v/\v<=1000000000)(hX:ABx w bp bf bm bv P VA cP cV pats vals m As Ai Ag Ao cs ci cg co)(C:Option Addr)(cc:Nat)(ch:List Nat) :
  Calls Tryz.prog 37 #[.int .i64 (pats.length:Int),.slice C ch.length cc,.pointer (some ⟨bp,0,none⟩),.pointer (some ⟨bf,0,none⟩),.pointer (some ⟨bm,0,none⟩),.pointer (some ⟨bv,0,none⟩)] w fun e w'=>e=.returned (.int .i64 (xX1 vals (CmpV m.ops pats) (vals.length - pats.length) ch))/\Below w.heap.size w w':=by
 have xp:=hX.cp;have hbp:=World.block_lt_of_cell? w _ xp;have HB:=lHd (vQk (cmp:=CmpV m.ops pats) (show pats.length=vals.length from hlen.symm) ch);rw[HB.out];go_enter Tryz.func37,Tryz.ntmps37;go_wp2;go_ret;exact⟨rfl,bch⟩
theorem zWi(w:World)(bp bf bm bv:Nat)(P VA:Option Addr)(cP cV:Nat)(pats:List (List Int))(vals:List Int)(m:MtV)(As Ai Ag Ao:Option Addr)(cs ci cg co:Nat)(hlen:vals.length=pats.length)(h6:pats.length<=6)(hvr:∀ v∈vals,0<=v/\v<=1000000000)(i:Nat)(hi:i < pats.length)(hih:yJ3 bp bf bm bv P VA cP cV pats vals m As Ai Ag Ao cs ci cg co (i+1))(hX:ABx w bp bf bm bv P VA cP cV pats vals m As Ai Ag Ao cs ci cg co)(C:Option Addr)(cc:Nat)(ch:List Nat)(hI:Ints w C (ch.map fun (k:Nat)=>(k:Int)))(hnil:C=none->ch=[])(hcc:ch.length<=cc)(hcm:cc<=9223372036854775807)(hci:ch.length<=i)(hin:∀ k∈ch,k < pats.length) :
  Calls Tryz.prog 37 #[.int .i64 (i:Int),.slice C ch.length cc,.pointer (some ⟨bp,0,none⟩),.pointer (some ⟨bf,0,none⟩),.pointer (some ⟨bm,0,none⟩),.pointer (some ⟨bv,0,none⟩)] w fun e w'=>e=.returned (.int .i64 (xX1 vals (CmpV m.ops pats) (vals.length - i) ch))/\Below w.heap.size w w':=by
 have HX:=lHd hX;have HI:=lHd hI;have HIH:=lHd hih;have hlv:i < vals.length:=by omega
 have hiv:vals[i]? = some (vals[i]'hlv):=lGe hlv;obtain⟨x,hx⟩:∃ x,x=vals[i]'hlv:=⟨_,rfl⟩;rw[<- hx] at hiv;have HIV:=lHd hiv;have hxr:=hvr x (lMg hiv);have hrng:=fun j (c:List Nat)=>xVx (cmp:=CmpV m.ops pats) hvr (vals.length - j) c
 have HYES:=lHd (fun h=>xYz (cmp:=CmpV m.ops pats) (ch:=ch) hiv h);have HNO:=lHd (fun h=>vYt (cmp:=CmpV m.ops pats) (ch:=ch) hlv h);have HIN:=lHd hin;have xp:=hX.cp;have xf:=hX.cf;have hbp:=World.block_lt_of_cell? w _ xp;have hbf:=World.block_lt_of_cell? w _ xf;have hne:((i:Int) == (pats.length:Int))=false:=beq_eq_false_iff_ne.2 (by omega);have hwr:IntKind.i64.wrap ((i:Int)+1)=((i+1:Nat):Int):=by rw[zJl (by omega)];omega
 have hE':∀ (args:Array Value) (w:World),(callFunc 37 args).run Tryz.prog w=.ok (.enter 37 args) w:=vYu;obtain⟨o1,ho1⟩:∃ o1,Hid (xX1 vals (CmpV m.ops pats) (vals.length - (i+1)) ch=o1):=⟨_,lHd rfl⟩;have ho1r:=hrng (i+1) ch;rw[ho1.out] at ho1r HYES HNO;have HRNG:=lHd (hrng (i+1) (ch ++ [i]));clear hX hI hih hiv hx hvr hrng hin;go_enter Tryz.func37,Tryz.ntmps37
 go_wp2_with fail
 refine (HIH.out _ C cc ch (HX.out.below bch) (HI.out.below bch) hnil hcc hcm (by omega) HIN.out).mono ?_;rintro e w1 ⟨he,hB1⟩;rw[ho1.out] at he;subst he;have D1:=xJ4 w hB1 bch;have C1:=Cls.below (l:=[(w.heap.size,0,.int .i64 (i:Int))]) hB1 (by simp[Cls,go_sem]);have F1:=C1;simp only[Cls,and_true] at F1;have y1w0:w.heap.size < w1.heap.size:=C1.blk (b:=w.heap.size) (k:=0) (v:=.int .i64 (i:Int)) (by simp);have HT:zY3 39 #[.pointer (some ⟨bm,0,none⟩),.pointer (some ⟨bp,0,none⟩),.pointer (some ⟨w.heap.size,0,none⟩)] (ch.map fun (k:Nat)=>(k:Int)) (fun k=>!zK2 m.ops (xZd pats (i:Int)) (xZd pats k)) w1:=by
  intro k hk wr hB;obtain⟨k',hk',rfl⟩:=List.mem_map.1 hk;exact vQm wr bp bf bm bv P VA cP cV pats vals m As Ai Ag Ao cs ci cg co ((HX.out.below D1).below hB) w.heap.size i k' ((hB.cell (World.block_lt_of_cell? w1 _ F1.1)).trans F1.1) (by omega) (HIN.out k' hk')
 have HTT:=lHd HT;clear HT;have hcl:(ch.map fun (k:Nat)=>(k:Int)).length=ch.length:=List.length_map _;have HCL:=lHd hcl;have hcon:∀ v:Bool,(v=true↔∃ k∈(ch.map fun (k:Nat)=>(k:Int)),(!zK2 m.ops (xZd pats (i:Int)) (xZd pats k))=true)->Calls Tryz.prog 38 #[.slice C ch.length cc,.func (.func 39) #[] #[.pointer (some ⟨bm,0,none⟩),.pointer (some ⟨bp,0,none⟩),.pointer (some ⟨w.heap.size,0,none⟩)]] w1 fun e w'=>e=.returned (.bool v)/\Below w1.heap.size w1 w':=fun v hv=>by
  have h0:=xQ4 C cc (ch.map fun (k:Nat)=>(k:Int)) 39 #[.pointer (some ⟨bm,0,none⟩),.pointer (some ⟨bp,0,none⟩),.pointer (some ⟨w.heap.size,0,none⟩)] (fun k=>!zK2 m.ops (xZd pats (i:Int)) (xZd pats k)) w1 (HI.out.below D1) (by rw[HCL.out];omega) vQl HTT.out v hv;rw[HCL.out] at h0;exact h0
 by_cases hc:∀ k∈ch,CmpV m.ops pats i k
 ·have HE:=lHd (show ¬ ∃ k∈(ch.map fun (k:Nat)=>(k:Int)),(!zK2 m.ops (xZd pats (i:Int)) (xZd pats k))=true from by
   rintro ⟨k,hk,h⟩;obtain⟨k',hk',rfl⟩:=List.mem_map.1 hk;rw[xKb.2 (CmpV.iff.1 (hc k' hk'))] at h
   cases h)
  have HV:=lHd (HYES.out hc);clear hc HYES HNO
  go_wp2_with fail
  refine (hcon false (iff_of_false (by decide) HE.out)).mono ?_;rintro e w2 ⟨rfl,hB2⟩;have D2:=xJ4 w hB2 bch;have C2:=Cls.below (l:=[(w.heap.size,0,.int .i64 (i:Int))]) hB2 (by simp[Cls,go_sem,F1,y1w0]);have F2:=C2;simp only[Cls,and_true] at F2;have y2w0:w.heap.size < w2.heap.size:=C2.blk (b:=w.heap.size) (k:=0) (v:=.int .i64 (i:Int)) (by simp);obtain⟨vd,x',hVA,hx',hxc⟩:=((HX.out.below D2).ints).at_ (k:=i) hlv;subst hVA;obtain rfl:x'=x:=by have h:=hx'.out;rw[HIV.out] at h;exact (Option.some.inj h).symm
  have xv2:=(HX.out.below D2).cv;have xf2:=(HX.out.below D2).cf;have hbf2:=World.block_lt_of_cell? w2 _ xf2;have hbv2:=World.block_lt_of_cell? w2 _ xv2;have hxc2:=World.block_lt_of_cell? w2 _ hxc;have hcut:=zYa C ch.length cc hcc hcm;have hlv2:(i:Int) < (vals.length:Int):=by omega
  go_wp2_with fail
  have hSS0:w2.drew.cell? ⟨w.heap.size,0,none⟩=some (.int .i64 (i:Int))/\w2.drew.cell? ⟨bf,0,none⟩=some (.func (.func 37) #[] #[.pointer (some ⟨bp,0,none⟩),.pointer (some ⟨bf,0,none⟩),.pointer (some ⟨bm,0,none⟩),.pointer (some ⟨bv,0,none⟩)])/\w2.drew.cell? ⟨bv,0,none⟩=some (.slice (some vd) vals.length cV)/\w2.drew.cell? (vd.add i)=some (.int .i64 x'):=by simp[go_sem,xv2,xf2,hxc,F2,y2w0]
  refine xJg (fun W=>W.cell? ⟨w.heap.size,0,none⟩=some (.int .i64 (i:Int))/\W.cell? ⟨bf,0,none⟩=some (.func (.func 37) #[] #[.pointer (some ⟨bp,0,none⟩),.pointer (some ⟨bf,0,none⟩),.pointer (some ⟨bm,0,none⟩),.pointer (some ⟨bv,0,none⟩)])/\W.cell? ⟨bv,0,none⟩=some (.slice (some vd) vals.length cV)/\W.cell? (vd.add i)=some (.int .i64 x')) [20] (by kernel_rfl) ?_;have hSS:=hSS0;refine xJ0 (i:=0) (v:=?vz10) rfl (by kernel_rfl) (by kernel_rfl) (by kernel_rfl) (by kernel_rfl) (by kernel_rfl) (fun _ _ _ h=>h) (Or.inl ⟨by rfl,?hz10⟩) (by assumption) ?rz10
  case hz10=>(intro w hSw;(try dsimp only at hSw);go_simp;(try with_reducible rfl))
  try simp only[ap]
  refine xJ0 (i:=1) (v:=?vz11) rfl (by kernel_rfl) (by kernel_rfl) (by kernel_rfl) (by kernel_rfl) (by kernel_rfl) (fun _ _ _ h=>h) (Or.inl ⟨by rfl,?hz11⟩) (by assumption) ?rz11
  case hz11=>(intro w hSw;(try dsimp only at hSw);go_simp;(try with_reducible rfl))
  try simp only[ap]
  refine xJ0 (i:=2) (v:=?vz12) rfl (by kernel_rfl) (by kernel_rfl) (by kernel_rfl) (by kernel_rfl) (by kernel_rfl) (fun _ _ _ h=>h) (Or.inl ⟨by rfl,?hz12⟩) (by assumption) ?rz12
  case hz12=>(intro w hSw;(try dsimp only at hSw);go_simp;(try with_reducible rfl))
  try simp only[ap]
  refine xJ0 (i:=3) (v:=?vz13) rfl (by kernel_rfl) (by kernel_rfl) (by kernel_rfl) (by kernel_rfl) (by kernel_rfl) (fun _ _ _ h=>h) (Or.inl ⟨by rfl,?hz13⟩) (by assumption) ?rz13
  case hz13=>(intro w hSw;(try dsimp only at hSw);go_simp;(try with_reducible rfl))
  try simp only[ap]
  refine xJ0 (i:=4) (v:=?vz14) rfl (by kernel_rfl) (by kernel_rfl) (by kernel_rfl) (by kernel_rfl) (by kernel_rfl) (fun _ _ _ h=>h) (Or.inl ⟨by rfl,?hz14⟩) (by assumption) ?rz14
  case hz14=>(intro w hSw;(try dsimp only at hSw);go_simp;(try with_reducible rfl))
  try simp only[ap]
  refine xJ0 (i:=5) (v:=?vz15) rfl (by kernel_rfl) (by kernel_rfl) (by kernel_rfl) (by kernel_rfl) (by kernel_rfl) (fun _ _ _ h=>h) (Or.inl ⟨by rfl,?hz15⟩) (by assumption) ?rz15
  case hz15=>(intro w hSw;(try dsimp only at hSw);go_simp;(try with_reducible rfl))
  try simp only[ap]
  refine xJ0 (i:=6) (v:=?vz16) rfl (by kernel_rfl) (by kernel_rfl) (by kernel_rfl) (by kernel_rfl) (by kernel_rfl) (fun _ _ _ h=>h) (Or.inl ⟨by rfl,?hz16⟩) (by assumption) ?rz16
  case hz16=>(intro w hSw;(try dsimp only at hSw);go_simp;(try with_reducible rfl))
  try simp only[ap]
  refine xJ0 (i:=7) (v:=?vz17) rfl (by kernel_rfl) (by kernel_rfl) (by kernel_rfl) (by kernel_rfl) (by kernel_rfl) (fun _ _ _ h=>h) (Or.inl ⟨by rfl,?hz17⟩) (by assumption) ?rz17
  case hz17=>(intro w hSw;(try dsimp only at hSw);go_simp;(try with_reducible rfl))
  try simp only[ap]
  refine xJ0 (i:=8) (v:=?vz18) rfl (by kernel_rfl) (by kernel_rfl) (by kernel_rfl) (by kernel_rfl) (by kernel_rfl) (fun _ _ _ h=>h) (Or.inl ⟨by rfl,?hz18⟩) (by assumption) ?rz18
  case hz18=>(intro w hSw;(try dsimp only at hSw);go_simp;(try with_reducible rfl))
  try simp only[ap]
  refine xJ0 (i:=9) (v:=?vz19) rfl (by kernel_rfl) (by kernel_rfl) (by kernel_rfl) (by kernel_rfl) (by kernel_rfl) (fun _ _ _ h=>h) (Or.inl ⟨by rfl,?hz19⟩) (by assumption) ?rz19
  case hz19=>(intro w hSw;(try dsimp only at hSw);go_simp;(try with_reducible rfl))
  try simp only[ap]
  refine xJ0 (i:=10) (v:=?vz110) rfl (by kernel_rfl) (by kernel_rfl) (by kernel_rfl) (by kernel_rfl) (by kernel_rfl) (fun _ _ _ h=>h) (Or.inl ⟨by rfl,?hz110⟩) (by assumption) ?rz110
  case hz110=>(intro w hSw;(try dsimp only at hSw);go_simp;(try with_reducible rfl))
  try simp only[ap]
  refine xJ0 (i:=11) (v:=?vz111) rfl (by kernel_rfl) (by kernel_rfl) (by kernel_rfl) (by kernel_rfl) (by kernel_rfl) (fun _ _ _ h=>h) (Or.inl ⟨by rfl,?hz111⟩) (by assumption) ?rz111
  case hz111=>(intro w hSw;(try dsimp only at hSw);go_simp;(try with_reducible rfl))
  try simp only[ap]
  refine xJ0 (i:=12) (v:=?vz112) rfl (by kernel_rfl) (by kernel_rfl) (by kernel_rfl) (by kernel_rfl) (by kernel_rfl) (fun _ _ _ h=>h) (Or.inl ⟨by rfl,?hz112⟩) (by assumption) ?rz112
  case hz112=>(intro w hSw;(try dsimp only at hSw);go_simp;(try with_reducible rfl))
  try simp only[ap]
  refine xJ0 (i:=13) (v:=?vz113) rfl (by kernel_rfl) (by kernel_rfl) (by kernel_rfl) (by kernel_rfl) (by kernel_rfl) (fun _ _ _ h=>h) (Or.inl ⟨by rfl,?hz113⟩) (by assumption) ?rz113
  case hz113=>(intro w hSw;(try dsimp only at hSw);go_simp;(try with_reducible rfl))
  try simp only[ap]
  refine xJ0 (i:=14) (v:=?vz114) rfl (by kernel_rfl) (by kernel_rfl) (by kernel_rfl) (by kernel_rfl) (by kernel_rfl) (fun _ _ _ h=>h) (Or.inl ⟨by rfl,?hz114⟩) (by assumption) ?rz114
  case hz114=>(intro w hSw;(try dsimp only at hSw);go_simp;(try with_reducible rfl))
  try simp only[ap]
  refine xJ3 (i:=15) (by kernel_rfl) rfl (fun K hK=>?_);go_simp
  go_wp2_with fail
  have hSS:(w2.drew.alloc (.cells #[.int .i64 (i:Int)] 3)).cell? ⟨w.heap.size,0,none⟩=some (.int .i64 (i:Int))/\(w2.drew.alloc (.cells #[.int .i64 (i:Int)] 3)).cell? ⟨bf,0,none⟩=some (.func (.func 37) #[] #[.pointer (some ⟨bp,0,none⟩),.pointer (some ⟨bf,0,none⟩),.pointer (some ⟨bm,0,none⟩),.pointer (some ⟨bv,0,none⟩)])/\(w2.drew.alloc (.cells #[.int .i64 (i:Int)] 3)).cell? ⟨bv,0,none⟩=some (.slice (some vd) vals.length cV)/\(w2.drew.alloc (.cells #[.int .i64 (i:Int)] 3)).cell? (vd.add i)=some (.int .i64 x'):=(by simp[go_sem,xv2,xf2,hxc,hbf2,hbv2,hxc2,F2,y2w0]);refine hK.out _ _ hSS ?_;clear hK K
  try simp only[ap]
  refine xJ3 (i:=16) (by kernel_rfl) rfl (fun K hK=>?_);refine vJ7 rfl (.tmp 36) (.tmp 38) rfl C ch.length (ch.map fun (k:Nat)=>(k:Int)) (by rw[HCL.out]) rfl ((HI.out.below D2).below bch) (fun e=>by rw[hnil e];rfl) ⟨w2.heap.size,0,none⟩ 1 (i:Int) rfl (by simp[go_sem]) (by omega) ?_;intro v3 w3 hO3 hB3;have E3:=xJ4 w2 hB3 bch;have key3:∀ {p:Addr} {u:Value},w2.cell? p=some u->w3.cell? p=some u:=fun {p u} hc=>(E3.cell (World.block_lt_of_cell? w2 _ hc)).trans hc
  have F3i:=key3 F2.1;have D3:=D2.trans (E3.mono D2.size);obtain⟨A3,c3,hv3,hn3,hI3⟩:=hO3.form;subst hv3;have HI3:=lHd (show Ints w3 A3 ((ch ++ [i]).map fun (k:Nat)=>(k:Int)) by rw[List.map_append];exact hI3);have hl3:((ch.map fun (k:Nat)=>(k:Int)) ++ [(i:Int)]).length=(ch ++ [i]).length:=by rw[List.length_append,List.length_append,HCL.out];rfl
  have hc3:=hO3.cap_le;have hm3:=hO3.cap_max;rw[hl3] at hc3 ⊢;have HC3:=lHd (And.intro hc3 hm3);have HN3:=lHd (show A3=none->ch ++ [i]=[] from fun e=>by have h:=(hn3 e).1;have h2:=congrArg List.length h;rw[hl3,List.length_append] at h2;simp at h2);clear hn3 hI3 hO3 hc3 hm3 hl3;have hSS:w3.cell? ⟨w.heap.size,0,none⟩=some (.int .i64 (i:Int))/\w3.cell? ⟨bf,0,none⟩=some (.func (.func 37) #[] #[.pointer (some ⟨bp,0,none⟩),.pointer (some ⟨bf,0,none⟩),.pointer (some ⟨bm,0,none⟩),.pointer (some ⟨bv,0,none⟩)])/\w3.cell? ⟨bv,0,none⟩=some (.slice (some vd) vals.length cV)/\w3.cell? (vd.add i)=some (.int .i64 x'):=⟨F3i,key3 xf2,key3 xv2,key3 hxc⟩;refine hK.out _ _ hSS ?_;clear hK K
  try simp only[ap]
  refine xJ3 (i:=17) (by kernel_rfl) rfl (fun K hK=>?_);go_simp;have hcall:=HIH.out w3 A3 c3 (ch ++ [i]) (HX.out.below D3) HI3.out HN3.out HC3.out.1 HC3.out.2 (by rw[List.length_append];simp;omega) (fun k hk=>by rcases List.mem_append.1 hk with h | h;exact HIN.out k h;simp at h;subst h;omega);rw[show (ch ++ [i]).length=ch.length+1 from by rw[List.length_append];rfl] at hcall;refine hcall.mono ?_;rintro e w4 ⟨he,hB4⟩;obtain⟨o2,ho2⟩:∃ o2,Hid (xX1 vals (CmpV m.ops pats) (vals.length - (i+1)) (ch ++ [i])=o2):=⟨_,lHd rfl⟩;rw[ho2.out] at he;subst he;have key4:∀ {p:Addr} {u:Value},w3.cell? p=some u->w4.cell? p=some u:=fun {p u} hc=>(hB4.cell (World.block_lt_of_cell? w3 _ hc)).trans hc
  have D4:=D3.trans (hB4.mono D3.size);have ho2r:=HRNG.out;rw[ho2.out] at ho2r;have hSS:w4.cell? ⟨w.heap.size,0,none⟩=some (.int .i64 (i:Int))/\w4.cell? ⟨bf,0,none⟩=some (.func (.func 37) #[] #[.pointer (some ⟨bp,0,none⟩),.pointer (some ⟨bf,0,none⟩),.pointer (some ⟨bm,0,none⟩),.pointer (some ⟨bv,0,none⟩)])/\w4.cell? ⟨bv,0,none⟩=some (.slice (some vd) vals.length cV)/\w4.cell? (vd.add i)=some (.int .i64 x'):=⟨key4 F3i,key4 (key3 xf2),key4 (key3 xv2),key4 (key3 hxc)⟩
  go_wp2_with fail
  refine hK.out _ _ hSS ?_;clear hK K
  try simp only[ap]
  refine xJ3 (i:=18) (by kernel_rfl) rfl (fun K hK=>?_);go_simp;go_at_call 41;refine (zVp _ _ _ hxr ho2r).mono ?_;rintro e w9 ⟨he,rfl⟩;obtain⟨pv,hpv⟩:∃ pv,Hid (xXa x' o2=pv):=⟨_,lHd rfl⟩;rw[hpv.out] at he;subst he;have hSS:w4.cell? ⟨w.heap.size,0,none⟩=some (.int .i64 (i:Int))/\w4.cell? ⟨bf,0,none⟩=some (.func (.func 37) #[] #[.pointer (some ⟨bp,0,none⟩),.pointer (some ⟨bf,0,none⟩),.pointer (some ⟨bm,0,none⟩),.pointer (some ⟨bv,0,none⟩)])/\w4.cell? ⟨bv,0,none⟩=some (.slice (some vd) vals.length cV)/\w4.cell? (vd.add i)=some (.int .i64 x'):=⟨key4 F3i,key4 (key3 xf2),key4 (key3 xv2),key4 (key3 hxc)⟩
  go_wp2_with fail
  refine hK.out _ _ hSS ?_;clear hK K
  try simp only[ap]
  refine xJl (i:=19) (v:=?vz119) rfl (by kernel_rfl) (by kernel_rfl) (by kernel_rfl) (by kernel_rfl) (by kernel_rfl) (fun _ _ _ h=>h) (Or.inl ⟨by rfl,?hz119⟩) (by assumption) ?rz119
  case hz119=>(intro w hSw;(try dsimp only at hSw);go_simp;(try with_reducible rfl))
  try simp only[ap]
  refine xJc (i:=20) (by kernel_rfl) rfl (by kernel_rfl) (fun K hK=>?_);go_simp
  go_wp2_with fail
  refine hK.out _ _ ?_;clear hK K
  try simp only[ap]
  refine xJ7 (by kernel_rfl) ?_ _;go_wp2;go_ret;exact⟨by rw[HV.out,ho2.out,hpv.out];(first | rfl | (congr 2;omega) | (simp;done)),D4⟩
 ·have HE:=lHd (show ∃ k∈(ch.map fun (k:Nat)=>(k:Int)),(!zK2 m.ops (xZd pats (i:Int)) (xZd pats k))=true from Classical.byContradiction fun hn=>hc fun k hk=>CmpV.iff.2 (xKb.1 (by
   cases h:zK2 m.ops (xZd pats (i:Int)) (xZd pats (k:Int)) with
   | true=>rfl
   | false=>exact absurd ⟨(k:Int),List.mem_map.2 ⟨k,hk,rfl⟩,by rw[h];rfl⟩ hn)))
  have HV:=lHd (HNO.out hc);clear hc HYES HNO
  go_wp2_with fail
  refine (hcon true (iff_of_true rfl HE.out)).mono ?_;rintro e w2 ⟨rfl,hB2⟩;have D2:=xJ4 w hB2 bch;have C2:=Cls.below (l:=[(w.heap.size,0,.int .i64 (i:Int))]) hB2 (by simp[Cls,go_sem,F1,y1w0]);have F2:=C2;simp only[Cls,and_true] at F2;have y2w0:w.heap.size < w2.heap.size:=C2.blk (b:=w.heap.size) (k:=0) (v:=.int .i64 (i:Int)) (by simp);go_wp2;go_ret;exact⟨by rw[HV.out];first | done | rfl,D2⟩
theorem vZs(bp bf bm bv:Nat)(P VA:Option Addr)(cP cV:Nat)(pats:List (List Int))(vals:List Int)(m:MtV)(As Ai Ag Ao:Option Addr)(cs ci cg co:Nat)(hlen:vals.length=pats.length)(h6:pats.length<=6)(hvr:∀ v∈vals,0<=v/\v<=1000000000):∀ (r i:Nat),i+r=pats.length->yJ3 bp bf bm bv P VA cP cV pats vals m As Ai Ag Ao cs ci cg co i:=by
 intro r
 induction r with
 | zero=>
  intro i hi w C cc ch hX hI hnil hcc hcm hci hin;obtain rfl:i=pats.length:=by omega
  exact vZr w bp bf bm bv P VA cP cV pats vals m As Ai Ag Ao cs ci cg co hlen h6 hvr hX C cc ch
 | succ r ih=>
  intro i hi w C cc ch hX hI hnil hcc hcm hci hin;exact zWi w bp bf bm bv P VA cP cV pats vals m As Ai Ag Ao cs ci cg co hlen h6 hvr i (by omega) (ih (i+1) (by omega)) hX C cc ch hI hnil hcc hcm hci hin
end Go.Proofs.YtpeipeljmapkmaaGreat
