/-
  Lemmas for the law: Vj, Vm.
-/
import Derived.Test.YtpeipeljmapkmaaGreatU29
import Derived.RegionTactic
import Derived.ChangeAlike
import Derived.BigRegion
import Derived.Deep.RegionLawGrows
import Derived.Maps.AppendAt
import Derived.Deep.AppendSrc
import Derived.Test.YtpeipeljmapkmaaGreatU17
set_option linter.unusedVariables false
set_option linter.unusedSimpArgs false
set_option maxRecDepth 100000
set_option maxHeartbeats 4000000
namespace Go.Proofs.YtpeipeljmapkmaaGreat
open Go.RowKit
theorem zK6{ops:Array Oper}{o:Oper}{a:Act}{w:World}{K:Act->World->Prop}{Q:Exit->Act->World->Prop}{E:Prop}(hgd:o.guard=none)(s x:Operand)
  (ho:o.op=.call { callee:=.builtin .append,args:=#[s,x],argTypes:=#[22,22] })
  (base:Nat) (v:Value) (xs:List Int) (y:Int) (hs:a.eval s=v) (hown:OwnI base w v xs) (ad:Addr) (m:Nat) (hx:a.eval x=.slice (some ad) 1 m) (hc:w.cell? ad=some (.int .i64 y))
  (hlen:xs.length < 1000000000000) (hbase:base<=w.heap.size)
  (h:∀ g cap w',OwnI base w' (.slice (some ⟨g,0,none⟩) (xs.length+1) cap) (xs ++ [y])->w.grownBy w' v.ownBlock->(v.ownBlock=some g\/g=w.heap.size)->g < w'.heap.size->K (a.put o.dst (.slice (some ⟨g,0,none⟩) (xs.length+1) cap)) w') :
  if Region.wanted o (yielded ops a.tmps)=true then Oper.wp Tryz.prog o a w K Q else E:=by
 obtain⟨i0,hi0,hz⟩:=Option.map_eq_some_iff.1 xXo;simp only[Prod.mk.injEq] at hz;refine step_append_lies w hgd s x 22 ho base 3 i0 (.int .i64 0) 1 8 Tryz.underlying22 hi0 hz.1 hz.2.1 hz.2.2 rfl (by decide) v xs.length (xs.map (Value.int .i64)) hs hown ad 1 m [.int .i64 y] hx rfl ?_ ?_ (by decide) ?_ ?_ hbase _ rfl ?_
 ·intro j u hu
  cases j with
  | zero=>simp at hu;subst hu;rw[add_zero];exact hc
  | succ j=>simp at hu
 ·intro u hu;simp at hu;subst hu;rfl
 ·simp only[maxLen];omega
 ·omega
 ·intro g cap w' h1 h2 h3 h4;refine h g cap w' ?_ h2 h3 h4;unfold OwnI;rw[List.length_append,List.map_append];exact h1
theorem CN.kept{bh bn gn nc:Nat}{N:List NodeV}{g0:Option Nat}{w0 w:World}(hN:CN bh bn gn nc N g0 w0)(h:Kept (HpX bh g0) w0 w):CN bh bn gn nc N g0 w:=
 ⟨hN.nbox.kept h (by rintro (e | e);exact hN.ne.1 e;exact hN.ne.2.2.1 e),fun j nd hj=>h.cell (hN.cost j nd hj) (by rintro (e | e);exact hN.ne.2.1 e;exact hN.ne.2.2.2 e),hN.ne,hN.len⟩
theorem vY6{base bh bn:Nat}{N:List NodeV}{g0:Option Nat}{w0 w:World}{l:List Nat}{gn nc:Nat}(hN:CN bh bn gn nc N g0 w0)(h:CH base bh bn N g0 w0 w l){i j x y:Nat}(hx:l[i]? = some x)(hy:l[j]? = some y) :
  Calls Tryz.prog 200 #[.pointer (some ⟨bh,0,none⟩),.int .i64 (i:Int),.int .i64 (j:Int)] w fun e w'=>e=.returned (.bool (ltN N x y))/\CH base bh bn N g0 w0 w' l:=by
 obtain⟨A,c,hb0,hb1,hf,hO⟩:=h.cell;obtain⟨g,rfl,hgb,hgl,hgx,hfx⟩:=xV7 hO hx;obtain⟨g',e,_,_,hgy,hfy⟩:=xV7 hO hy;injection e with e;injection e with e;subst e
 have hi:=(List.getElem?_eq_some_iff.1 hx).1;have hj:=(List.getElem?_eq_some_iff.1 hy).1;have hxN:=h.nds x (lMg hx);have hyN:=h.nds y (lMg hy);have hN2:=hN.kept h.fr;have ecx:N[x]? = some N[x]:=lGe hxN;have ecy:N[y]? = some N[y]:=lGe hyN;have hcx:=hN2.cost x _ ecx;have hcy:=hN2.cost y _ ecy;have hbn:=hN2.nbox.cell 0;rw[<- xYj ecx] at hcx;rw[<- xYj ecy] at hcy;have hl:=h.len;have hm:=hN.len;have fin:∀ {e:Ending} {w':World} {b:Bool},ltN N x y=b->(e=.returned (.bool b)/\∃ d,w'=w.drewN d)->e=.returned (.bool (ltN N x y))/\CH base bh bn N g0 w0 w' l:=fun {e w' b} hb hd=>by
  obtain⟨h1,d,rfl⟩:=hd;exact⟨by rw[h1,hb],h.drewN d⟩
 rcases Int.lt_trichotomy (xVn N x) (xVn N y) with hlt | heq | hgt
 ·exact (vXv w bh bn g gn i j l.length c N.length nc x y _ _ hi hj hl hxN hyN hm hb0 hb1 hbn hgx hgy hcx hcy hlt).mono fun e w' hd=>fin (by simp[ltN,hlt]) hd
 ·rcases Nat.lt_or_ge x y with h1 | h1
  ·exact (zVy w bh bn g gn i j l.length c N.length nc x y _ _ hi hj hl hxN hyN hm hb0 hb1 hbn hgx hgy hcx hcy heq h1).mono fun e w' hd=>fin (by simp[ltN,heq,h1]) hd
  ·exact (zVz w bh bn g gn i j l.length c N.length nc x y _ _ hi hj hl hxN hyN hm hb0 hb1 hbn hgx hgy hcx hcy heq h1).mono fun e w' hd=>fin (by simp[ltN,heq];omega) hd
 ·exact (vXw w bh bn g gn i j l.length c N.length nc x y _ _ hi hj hl hxN hyN hm hb0 hb1 hbn hgx hgy hcx hcy hgt).mono fun e w' hd=>fin (by simp[ltN];omega) hd
theorem CH.swapped{base bh bn:Nat}{N:List NodeV}{g0:Option Nat}{w0 w:World}{l:List Nat}(h:CH base bh bn N g0 w0 w l){i j x y g c:Nat}(hx:l[i]? = some x)(hy:l[j]? = some y)(hO:OwnI base w (.slice (some ⟨g,0,none⟩) l.length c) (l.map Int.ofNat))(hA:Arr w bh 134 [.pointer (some ⟨bn,0,none⟩),.slice (some ⟨g,0,none⟩) l.length c])(hg:g0=some g\/w0.heap.size<=g)(hgb:g≠bh) :
  CH base bh bn N g0 w0 ((w.setCell ⟨g,i,none⟩ (.int .i64 (y:Int))).setCell ⟨g,j,none⟩ (.int .i64 (x:Int))) (xXa l i j):=by
 have hi:=(List.getElem?_eq_some_iff.1 hx).1;have hj:=(List.getElem?_eq_some_iff.1 hy).1;have e:(xXa l i j).map Int.ofNat=((l.map Int.ofNat).set i (y:Int)).set j (x:Int):=by
  rw[xYo hi hj,List.map_set,List.map_set];obtain⟨_,e1⟩:=List.getElem?_eq_some_iff.1 hx;obtain⟨_,e2⟩:=List.getElem?_eq_some_iff.1 hy;rw[e1,e2];rfl
 have hO2:=(hO.set_ (by rw[List.length_map]) i (y:Int)).set_ (by rw[List.length_set,List.length_map]) j (x:Int);rw[<- e] at hO2;have hX:HpX bh g0 g\/w0.heap.size<=g:=hg.imp .inr id;refine⟨⟨some ⟨g,0,none⟩,c,by rw[xZf];exact hO2,by rw[xZf];exact (hA.far (p:=⟨g,i,none⟩) hgb _).far (p:=⟨g,j,none⟩) hgb _,fun k hk=>?_⟩,fun k hk=>h.nds k ((xXm l i j).mem_iff.1 hk),h.hb,(h.fr.set (p:=⟨g,i,none⟩) hX _).set (p:=⟨g,j,none⟩) hX _,by rw[xZf];exact h.len⟩;have hk:g=k:=by injection hk
 subst hk;exact hg
theorem vY7{base bh bn:Nat}{N:List NodeV}{g0:Option Nat}{w0 w:World}{l:List Nat}(h:CH base bh bn N g0 w0 w l){i j:Nat}(hi:i < l.length)(hj:j < l.length) :
  Calls Tryz.prog 203 #[.pointer (some ⟨bh,0,none⟩),.int .i64 (i:Int),.int .i64 (j:Int)] w fun e w'=>e=.returned (.tuple #[])/\CH base bh bn N g0 w0 w' (xXa l i j):=by
 obtain⟨A,c,hO,hA,hg⟩:=h.row;have hx:l[i]? = some l[i]:=lGe hi;have hy:l[j]? = some l[j]:=lGe hj;obtain⟨g,rfl,hgb,hgl,hgx,hfx⟩:=xV7 hO hx;obtain⟨g',e,_,_,hgy,hfy⟩:=xV7 hO hy;injection e with e;injection e with e;subst e
 have hne:g≠bh:=h.off (hg g rfl);have hl:=h.len;have hs:=h.swapped hx hy hO hA (hg g rfl) hne
 by_cases hij:i=j
 ·subst hij;refine (vXy w bh g i l.length c _ hi hl (hA.cell 1) hne hgx hfx).mono ?_;rintro e w' ⟨rfl,d,rfl⟩;exact⟨rfl,hs.drewN d⟩
 ·refine (vXx w bh g i j l.length c (.int .i64 0) _ _ hij hi hj hl (hA.cell 1) hne hgx hgy hfx hfy).mono ?_;rintro e w' ⟨rfl,d,rfl⟩;exact⟨rfl,hs.drewN d⟩
theorem vQz(base bh bn gn nc:Nat)(N:List NodeV)(g0:Option Nat)(w0:World)(hN:CN bh bn gn nc N g0 w0):ChMem ⟨bh,0,none⟩ (CH base bh bn N g0 w0) (ltN N):=by
 refine⟨vV5 N,fun w l h=>⟨Nat.le_trans h.len (by decide),none,0,fun n=>(xYw _ n w).1,?_⟩,fun w l i j x y h hx hy=>⟨none,0,fun n=>(xYw _ n w).2.1,vY6 hN h hx hy⟩,fun w l i j h hi hj=>⟨none,0,fun n=>(xYw _ n w).2.2.1,vY7 h hi hj⟩⟩;obtain⟨A,c,hb0,hb1,_⟩:=h.cell;exact xWv bh _ c A w hb1
theorem vY8(A:Option Addr)(n c k:Nat)(hk:k<=n)(hc:n<=c)(hc2:c<=9223372036854775807)(i:Int)(hi:i=(k:Int))(w:World) :
  (Instr.slice 22 (.slice A n c) none (some (.int .i64 i)) none).run Tryz.prog w=.ok (.slice A k c) w:=by
 subst hi;have h0:(0:Int)<=k:=by omega
 have h1:(k:Int)<=c:=by omega
 simp[go_sem,Tryz.underlying22,h0,h1]
 try omega
theorem vY9{base bh bn:Nat}{N:List NodeV}{g0:Option Nat}{w0 w:World}{l:List Nat}(h:CH base bh bn N g0 w0 w l)(x:Nat)(hx:x < N.length)(hl:l.length < 1000000000) :
  Calls Tryz.prog 202 #[.pointer (some ⟨bh,0,none⟩),.iface 3 (.int .i64 (x:Int))] w fun e w'=>e=.returned (.tuple #[])/\CH base bh bn N g0 w0 w' (l ++ [x]):=by
 obtain⟨A,c,hO,hA,hgo⟩:=h.row;have hb1:=hA.cell 1;have hbl:=hA.lt;have hbb:=h.hb;have hsz:=h.fr.size;have HG:=lHd hgo;have HH:=lHd h;have has:=fun W=>zKp (x:Int) W
 clear hgo h;go_enter Tryz.func202,Tryz.ntmps202
 go_wp2_with fail
 have hSS0:w.drew.cell? ⟨bh,1,none⟩=some (.slice A l.length c):=hb1;refine xJk (fun W=>W.cell? ⟨bh,1,none⟩=some (.slice A l.length c)) [11] (by kernel_rfl) ?_;have hSS:=hSS0;refine xJ1 (i:=0) (v:=?vz10) rfl (by kernel_rfl) (by kernel_rfl) (by kernel_rfl) (by kernel_rfl) (by kernel_rfl) (fun _ _ _ h=>h) (Or.inl ⟨by rfl,?hz10⟩) (by assumption) ?rz10
 case hz10=>(intro w hSw;(try dsimp only at hSw);go_simp;(try with_reducible rfl))
 try simp only[ap]
 refine xJ1 (i:=1) (v:=?vz11) rfl (by kernel_rfl) (by kernel_rfl) (by kernel_rfl) (by kernel_rfl) (by kernel_rfl) (fun _ _ _ h=>h) (Or.inl ⟨by rfl,?hz11⟩) (by assumption) ?rz11
 case hz11=>(intro w hSw;(try dsimp only at hSw);go_simp;(try with_reducible rfl))
 try simp only[ap]
 refine xJ1 (i:=2) (v:=?vz12) rfl (by kernel_rfl) (by kernel_rfl) (by kernel_rfl) (by kernel_rfl) (by kernel_rfl) (fun _ _ _ h=>h) (Or.inl ⟨by rfl,?hz12⟩) (by assumption) ?rz12
 case hz12=>(intro w hSw;(try dsimp only at hSw);go_simp;(try with_reducible rfl))
 try simp only[ap]
 refine xJ1 (i:=3) (v:=?vz13) rfl (by kernel_rfl) (by kernel_rfl) (by kernel_rfl) (by kernel_rfl) (by kernel_rfl) (fun _ _ _ h=>h) (Or.inl ⟨by rfl,?hz13⟩) (by assumption) ?rz13
 case hz13=>(intro w hSw;(try dsimp only at hSw);go_simp;(try with_reducible rfl))
 try simp only[ap]
 refine xJ1 (i:=4) (v:=?vz14) rfl (by kernel_rfl) (by kernel_rfl) (by kernel_rfl) (by kernel_rfl) (by kernel_rfl) (fun _ _ _ h=>h) (Or.inl ⟨by rfl,?hz14⟩) (by assumption) ?rz14
 case hz14=>(intro w hSw;(try dsimp only at hSw);go_simp;(try with_reducible rfl))
 try simp only[ap]
 refine xJ1 (i:=5) (v:=?vz15) rfl (by kernel_rfl) (by kernel_rfl) (by kernel_rfl) (by kernel_rfl) (by kernel_rfl) (fun _ _ _ h=>h) (Or.inl ⟨by rfl,?hz15⟩) (by assumption) ?rz15
 case hz15=>(intro w hSw;(try dsimp only at hSw);go_simp;(try with_reducible rfl))
 try simp only[ap]
 refine xJ1 (i:=6) (v:=?vz16) rfl (by kernel_rfl) (by kernel_rfl) (by kernel_rfl) (by kernel_rfl) (by kernel_rfl) (fun _ _ _ h=>h) (Or.inl ⟨by rfl,?hz16⟩) (by assumption) ?rz16
 case hz16=>(intro w hSw;(try dsimp only at hSw);go_simp;(try with_reducible rfl))
 try simp only[ap]
 refine xJ4 (i:=7) (by kernel_rfl) rfl (fun K hK=>?_);go_simp
 go_wp2_with fail
 have hSS:(w.drew.alloc (.cells #[.int .i64 (x:Int)] 3)).cell? ⟨bh,1,none⟩=some (.slice A l.length c):=by simp[go_sem,hb1,hbl]
 refine hK.out _ _ hSS ?_;clear hK K
 try simp only[ap]
 refine xJ4 (i:=8) (by kernel_rfl) rfl (fun K hK=>?_);refine zK6 rfl (.tmp 8) (.tmp 11) rfl base (.slice A l.length c) (l.map Int.ofNat) (x:Int) rfl (hO.below bch) ⟨w.heap.size,0,none⟩ 1 rfl (by simp[go_sem]) (by rw[List.length_map];omega) (by simp;omega) ?_;intro g c2 w2 hO2 hg2 hat2 hgl2;have hA2:Arr w2 bh 134 [.pointer (some ⟨bn,0,none⟩),.slice A l.length c]:=Arr.grown ((hA.drew.alloc _)) hg2 (fun e=>HH.out.off (HG.out _ e) rfl);have hf2:=hA2.free 1;have hSS:w2.cell? ⟨bh,1,none⟩=some (.slice A l.length c):=hA2.cell 1;refine hK.out _ _ hSS ?_;clear hK K
 try simp only[ap]
 refine xX0 (i:=9) (v:=?vz19) rfl (by kernel_rfl) (by kernel_rfl) (by kernel_rfl) (by kernel_rfl) (by kernel_rfl) (fun _ _ _ h=>h) (Or.inl ⟨by rfl,?hz19⟩) (by assumption) ?rz19
 case hz19=>(intro w hSw;(try dsimp only at hSw);go_simp;(try with_reducible rfl))
 try simp only[ap]
 refine xX0 (i:=10) (v:=?vz110) rfl (by kernel_rfl) (by kernel_rfl) (by kernel_rfl) (by kernel_rfl) (by kernel_rfl) (fun _ _ _ h=>h) (Or.inl ⟨by rfl,?hz110⟩) (by assumption) ?rz110
 case hz110=>(intro w hSw;(try dsimp only at hSw);go_simp;(try with_reducible rfl))
 try simp only[ap]
 refine xJd (i:=11) (by kernel_rfl) rfl (by kernel_rfl) (fun K hK=>?_);go_simp
 go_wp2_with fail
 refine hK.out _ _ ?_;clear hK K
 try simp only[ap]
 refine xJ8 (by kernel_rfl) ?_ _;go_wp2
 go_end0
 have hog:g0=some g\/w0.heap.size<=g:=by
  rcases hat2 with h2 | h2
  ·exact HG.out _ h2
  ·right;(try simp at h2);omega
 refine⟨rfl,⟨some ⟨g,0,none⟩,c2,?_,?_,fun k hk=>?_⟩,fun j hj=>?_,HH.out.hb,?_,by rw[List.length_append];simp;omega⟩
 ·rw[List.map_append,List.length_append];have:=zKo (p:=⟨bh,1,none⟩) hO2 (fun k hk=>by (have hk:g=k:=by injection hk);subst hk;exact HH.out.off hog) (.slice (some ⟨g,0,none⟩) (l.length+1) c2);rw[List.length_map] at this;exact this
 ·have:=hA2.set_ 1 (.slice (some ⟨g,0,none⟩) (l.length+1) c2);rw[List.length_append];exact this
 ·have hk:g=k:=by injection hk
  subst hk;exact hog
 ·rcases List.mem_append.1 hj with hj | hj
  ·exact HH.out.nds j hj
  ·simp at hj;omega
 ·refine (((HH.out.fr.drew).alloc _).grown hg2 (fun k hk=>?_)).set (p:=⟨bh,1,none⟩) (.inl (.inl rfl)) _;exact (HG.out k hk).imp .inr id
def vYa(base bh bn:Nat)(N:List NodeV)(g0:Option Nat)(w0 w:World)(l:List Nat)(x:Nat):Prop:=CH base bh bn N g0 w0 w l/\x < N.length
theorem vQf{base n m c g:Nat}{w:World}{xs:List Int}(h:OwnI base w (.slice (some ⟨g,0,none⟩) n c) xs)(hm:m<=n):OwnI base w (.slice (some ⟨g,0,none⟩) m c) (xs.take m):=by
 have hn:=h.len;have hc:=h.cap_le;obtain⟨r1,r2⟩:=h;rcases r2 with ⟨r2,r3⟩ | ⟨g',cap,cur,hv,hbg,hh,hnc,hcm,hs,ht⟩
 ·cases r2
 ·injection hv with v1 v2 v3
  have hlm:(xs.take m).length=m:=by rw[List.length_take];omega
  refine⟨by simp,Or.inr ⟨g',cap,cur,by rw[v1,v3,hlm],hbg,hh,by rw[hlm];omega,hcm,hs,?_⟩⟩;rw[hlm,Nat.mul_one,List.map_take,<- ht,List.take_take,Nat.min_eq_left (by omega)]
theorem vKt{base bh bn:Nat}{N:List NodeV}{g0:Option Nat}{w0 w:World}{l:List Nat}{x:Nat}(h:CH base bh bn N g0 w0 w (l ++ [x])) :
  Calls Tryz.prog 201 #[.pointer (some ⟨bh,0,none⟩)] w fun e w'=>e=.returned (.iface 3 (.int .i64 (x:Int)))/\vYa base bh bn N g0 w0 w' l x:=by
 obtain⟨A,c,hO,hA,hgo⟩:=h.row;have e1:(l ++ [x]).length=l.length+1:=by simp
 rw[e1] at hO hA hgo;have hb:l.length<=1000000000:=by have:=h.len;rw[e1] at this;omega
 have hxl:(l ++ [x])[l.length]? = some x:=by simp
 obtain⟨g,rfl,hgb,hgl,hcx,hfx⟩:=xV7 hO hxl;have hcap:=hO.cap_le;have hcm:=hO.cap_max;have hcut:=vY8 (some ⟨g,0,none⟩) (l.length+1) c l.length (by omega) hcap hcm;have hb1:=hA.cell 1;have hf1:=hA.free 1;have hP:vYa base bh bn N g0 w0 (w.setCell ⟨bh,1,none⟩ (.slice (some ⟨g,0,none⟩) l.length c)) l x:=by
  refine⟨⟨⟨some ⟨g,0,none⟩,c,?_,hA.set_ 1 _,fun k hk=>hgo k (by injection hk with hk;rw[<- hk];rfl)⟩,fun j hj=>h.nds j (List.mem_append.2 (.inl hj)),h.hb,h.fr.set (p:=⟨bh,1,none⟩) (.inl (.inl rfl)) _,hb⟩,h.nds x (by simp)⟩;have h2:=vQf (zKo (p:=⟨bh,1,none⟩) hO (fun k hk=>h.off (hgo k hk)) (.slice (some ⟨g,0,none⟩) l.length c)) (m:=l.length) (by omega);have h3:((l ++ [x]).map Int.ofNat).take l.length=l.map Int.ofNat:=by simp
  rw[h3] at h2;exact h2
 have HP:=lHd hP;obtain⟨n,hn⟩:∃ n,l.length=n:=⟨_,rfl⟩;rw[hn] at hb hcx hcut hb1 hP HP;have hw1:(n:Int)+1 - 1=(n:Int):=by omega
 clear hO hA hgo h hn hP e1 hcap hcm hxl hfx;go_enter Tryz.func201,Tryz.ntmps201;go_wp2
 go_quiet (fail)
 go_wp2
 go_region
 go_wp2;go_ret;exact⟨rfl,HP.out.1.drewN _,HP.out.2⟩
def PopP(base bh bn:Nat)(N:List NodeV)(g0:Option Nat)(w:World)(L:List Nat)(e:Ending)(w':World):Prop:=
 ∃ (x:Nat) (l:List Nat),e=.returned (.iface 3 (.int .i64 (x:Int)))/\CH base bh bn N g0 w w' l/\x < N.length/\HeapN (ltN N) l.length l/\(l ++ [x]).Perm L/\∀ y∈L,ltN N y x=false
theorem vJp{base bh bn gn nc:Nat}{N:List NodeV}{g0:Option Nat}{w:World}{L:List Nat}(hN:CN bh bn gn nc N g0 w)(h:CH base bh bn N g0 w w L)(h0:0 < L.length)(hh:HeapN (ltN N) L.length L) :
  Calls Tryz.prog 67 #[.iface 131 (.pointer (some ⟨bh,0,none⟩))] w (PopP base bh bn N g0 w L):=by
 refine (Chpop (vQz base bh bn gn nc N g0 w hN) w L (fun w' l x=>vYa base bh bn N g0 w w' l x) (fun x=>.iface 3 (.int .i64 (x:Int))) h h0 hh (fun n w=>(xYw _ n w).2.2.2.2) (fun w' l x h'=>vKt h')).mono ?_;rintro e w' ⟨x,l,h1,h2,h3,h4,h5⟩;exact⟨x,l,h1,h2.1,h2.2,h3,h4,h5⟩
def PushP(base bh bn:Nat)(N:List NodeV)(g0:Option Nat)(w:World)(L:List Nat)(x:Nat)(e:Ending)(w':World):Prop:=
 e=.returned (.tuple #[])/\∃ l:List Nat,CH base bh bn N g0 w w' l/\HeapN (ltN N) l.length l/\l.Perm (L ++ [x])
theorem zK7{base bh bn gn nc:Nat}{N:List NodeV}{g0:Option Nat}{w:World}{L:List Nat}(hN:CN bh bn gn nc N g0 w)(h:CH base bh bn N g0 w w L)(x:Nat)(hx:x < N.length)(hl:L.length < 1000000000)(hh:HeapN (ltN N) L.length L) :
  Calls Tryz.prog 72 #[.iface 131 (.pointer (some ⟨bh,0,none⟩)),.iface 3 (.int .i64 (x:Int))] w (PushP base bh bn N g0 w L x):=by
 refine (vYv (vQz base bh bn gn nc N g0 w hN) w L x (.iface 3 (.int .i64 (x:Int))) hh (fun n w=>(xYw _ n w).2.2.2.1) (vY9 h x hx hl)).mono ?_;rintro e w' ⟨h1,l,h2,h3,h4⟩;exact⟨h1,l,h2,by rw[h4.length_eq];exact h3,h4⟩
section
open Go.Shelf
theorem Up.inv{N:List NodeV}{j:Nat}{ps:List Nat}(h:Up N j ps):(ps=[]/\∃ nd,N[j]? = some nd/\nd.parent = -1)\/∃ (nd:NodeV) (p k:Nat) (rest:List Nat),ps=rest ++ [k]/\N[j]? = some nd/\nd.parent=(p:Int)/\nd.op=(k:Int)/\Up N p rest:=by
 cases h with
 | nil h1 h2=>exact .inl ⟨rfl,_,h1,h2⟩
 | snoc h1 h2 h3 h4 h5=>exact .inr ⟨_,_,_,_,rfl,h1,h2,h3,h5⟩
theorem zW9(w:World)(gn nc:Nat)(N:List NodeV)(hN:∀ (j:Nat) (nd:NodeV),N[j]? = some nd->w.cell? ⟨gn,j * 4+2,none⟩=some (.int .i64 nd.parent)/\w.cell? ⟨gn,j * 4+3,none⟩=some (.int .i64 nd.op))(j0:Nat)(ps:List Nat)(hU:Up N j0 ps)(hl:ps.length<=1000000) :
  Calls Tryz.prog 69 #[.slice (some ⟨gn,0,none⟩) N.length nc,.int .i64 (j0:Int)] w fun e w'=>Below w.heap.size w w'/\∃ v,e=.returned v/\OwnI w.heap.size w' v (ps.map Int.ofNat):=by
 have HU:=lHd hU;have HN:=lHd hN;clear hU hN;go_enter Tryz.func69,Tryz.ntmps69;go_wp2
 go_loopg [1,5] ps.length (fun k sv v wr=>∃ (x:Nat) (rest acc:List Nat),sv=.int .i64 (x:Int)/\Hid (Up N x rest)/\Hid (ps=rest ++ acc.reverse)/\rest.length=k/\OwnI w.heap.size wr v (acc.map Int.ofNat)/\Below w.heap.size w wr)
 case atStart=>exact⟨j0,ps,[],rfl,HU.out,by show _=_;simp,rfl,OwnI.nil _ _,Below.refl _ _⟩
 case round=>
  obtain⟨x,rest,acc,rfl,hTr,hops,hlen,hO,hB⟩:=hrel;have hsz:=hB.size;rcases hTr.out.inv with ⟨hr,nd,hnd,hpar⟩ | ⟨nd,p,op,rest',hr,hnd,hpar,hop,hT'⟩
  ·subst hr;have hxN:=(List.getElem?_eq_some_iff.1 hnd).1;obtain⟨hc2,-⟩:=HN.out x nd hnd;have hlt2:=World.block_lt_of_cell? w _ hc2;have hd2:wr.cell? ⟨gn,x * 4+2,none⟩=some (.int .i64 (-1)):=by rw[<- hpar];exact (hB.cell hlt2).trans hc2
   have hal:(acc.map Int.ofNat).length<=1000000:=by have h:=congrArg List.length hops.out;simp at h;rw[List.length_map];omega
   clear hTr hnd hpar hc2
   go_wp2_with (go_at_call 107;(refine (vJb hO hal).mono ?_);rintro e w2 ⟨rfl,hO2,hg2⟩)
   go_ret;refine⟨hB.grown hg2 hsz (fun k hk=>(hO.lt k hk).1),_,rfl,?_⟩;rw[hops.out,List.nil_append,List.map_reverse];exact hO2
  ·have hxN:=(List.getElem?_eq_some_iff.1 hnd).1;obtain⟨hc2,hc3⟩:=HN.out x nd hnd;have hlt2:=World.block_lt_of_cell? w _ hc2;have hd2:wr.cell? ⟨gn,x * 4+2,none⟩=some (.int .i64 (p:Int)):=by rw[<- hpar];exact (hB.cell hlt2).trans hc2
   have hd3:wr.cell? ⟨gn,x * 4+3,none⟩=some (.int .i64 (op:Int)):=by rw[<- hop];exact (hB.cell (World.block_lt_of_cell? w _ hc3)).trans hc3
   have HT':=lHd hT';have HR:=lHd hr;have hal:(acc.map Int.ofNat).length < 1000000000000:=by have h:=congrArg List.length hops.out;simp at h;rw[List.length_map];omega
   have hrl:rest'.length+1=rest.length:=by rw[hr];simp
   clear hTr hnd hpar hop hc2 hc3 hT' hr
   go_wp2_with (at_builtin;go_must (refine xXl rfl (.tmp 17) (.tmp 23) rfl w [] (w.heap.size) u5 _ ((op:Int)) rfl (OwnI.below hO ?p1) ⟨wr.heap.size,0,none⟩ 1 rfl ?p2 hal ?p3 ?p4 ?p5 ?p6 ?p7 ?_;(case p1=>exact bch);(case p2=>simp[Cls,go_sem]);(case p3=>(first | omega | (simp <;> omega)));(case p4=>(first | omega | (simp <;> omega)));(case p5=>exact bch);(case p6=>simp[Cls,go_sem]);(case p7=>(simp <;> omega));intro v1 w1 o1 D1 C1 sz1;have d1s:=D1.size);have hd4:w1.cell? ⟨gn,x * 4+2,none⟩=some (.int .i64 (p:Int)):=(D1.cell hlt2).trans ((hB.cell hlt2).symm.trans hd2))
   go_roundg rest'.length
   case measure=>omega
   case rel=>exact⟨p,rest',acc ++ [op],rfl,HT'.out,by show _=_;rw[hops.out,HR.out];simp,rfl,by rw[List.map_append];exact o1,bch⟩
end
end Go.Proofs.YtpeipeljmapkmaaGreat
