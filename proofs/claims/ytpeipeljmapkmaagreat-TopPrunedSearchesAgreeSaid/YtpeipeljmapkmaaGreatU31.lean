/-
  Lemmas for the law: Vf, Vh.
-/
import Derived.Test.YtpeipeljmapkmaaGreatU15
import Derived.Test.YtpeipeljmapkmaaGreatU25
import Derived.Laws.EntriesVeiled
set_option linter.unusedVariables false
set_option linter.unusedSimpArgs false
set_option maxRecDepth 100000
set_option maxHeartbeats 4000000
namespace Go.Proofs.YtpeipeljmapkmaaGreat
open Go.RowKit
structure MkL(n:Nat)(M:List Bool)(L:List Int):Prop where
 len:M.length=n
 nd:L.Nodup
 mem:∀ i:Nat,M[i]? = some true↔(i:Int)∈L
 rng:∀ x∈L,0<=x/\x < (n:Int)
theorem MkL.nil(n:Nat):MkL n (List.replicate n false) []:=by
 refine⟨List.length_replicate,List.nodup_nil,fun i=>?_,by simp⟩;rw[List.getElem?_replicate]
 split <;> simp
theorem MkL.put{n:Nat}{M:List Bool}{L:List Int}(h:MkL n M L){k:Nat}(hk:M[k]? = some false):MkL n (M.set k true) (L ++ [(k:Int)]):=by
 have hkl:=(List.getElem?_eq_some_iff.1 hk).1;have hn:¬ (k:Int)∈L:=fun e=>by have:=(h.mem k).2 e;rw[hk] at this;cases this
 refine⟨by rw[List.length_set];exact h.len,?_,fun i=>?_,fun x hx=>?_⟩
 ·rw[List.nodup_append];exact⟨h.nd,by simp,fun a ha b hb e=>by simp at hb;subst hb;subst e;exact hn ha⟩
 ·rw[List.getElem?_set]
  by_cases e:k=i
  ·subst e;simp[hkl]
  ·rw[if_neg e,h.mem i];constructor
   ·exact fun h=>List.mem_append.2 (.inl h)
   ·intro h2;rcases List.mem_append.1 h2 with h2 | h2
    ·exact h2
    ·simp at h2;omega
 ·rcases List.mem_append.1 hx with h2 | h2
  ·exact h.rng x h2
  ·simp at h2;subst h2;have:=h.len;omega
theorem MkL.few{n:Nat}{M:List Bool}{L:List Int}(h:MkL n M L):L.length<=n:=by
 have h1:=xX8 h.nd (b:=(List.range n).map Int.ofNat) (fun x hx=>by
  have:=h.rng x hx;exact List.mem_map.2 ⟨x.toNat,List.mem_range.2 (by omega),by simp;omega⟩)
 rw[List.length_map,List.length_range] at h1;exact h1
def zKl(gi bl:Nat)(v:Value)(k:Nat):Prop:=k=gi\/k=bl\/v.ownBlock=some k
def IncP(n gi bl base:Nat)(v:Value)(L:List Int)(P:Nat->Bool)(w:World)(e:Ending)(w':World):Prop:=
 e=.returned (.tuple #[])/\∃ (v1:Value) (M1:List Bool) (Z:List Int),Arr w' bl 22 [v1]/\BArr w' gi M1/\OwnI base w' v1 (L ++ Z)/\MkL n M1 (L ++ Z)/\(∀ j,j < n->P j=true->(j:Int)∈L ++ Z)/\Kept (zKl gi bl v) w w'/\∀ k,v1.ownBlock=some k->v.ownBlock=some k\/w.heap.size<=k
theorem zWi(w:World)(n:Nat)(hn:n<=40)(Ao:Option Addr)(co cn bt bi bl gi base:Nat)(ht:w.cell? ⟨bt,3,none⟩=some (.slice Ao n co))(hi:w.cell? ⟨bi,0,none⟩=some (.slice (some ⟨gi,0,none⟩) n cn))(v:Value)(M:List Bool)(L:List Int)(hl:Arr w bl 22 [v])(hM:BArr w gi M)(hO:OwnI base w v L)(HK:Hid (MkL n M L))(hb:bt < base/\bi < base/\bl < base/\gi < base)(hbw:base<=w.heap.size)(hd:bt≠gi/\bt≠bl/\bi≠gi/\bi≠bl/\gi≠bl)(Fw:FuncId)(caps:Array Value)(P:Nat->Bool)(hE:xY9 Fw)(hP:∀ W,Kept (zKl gi bl v) w W->∀ k:Nat,k < n->Calls Tryz.prog Fw (#[.int .i64 (k:Int)] ++ caps) W fun e W'=>e=.returned (.bool (P k))/\Below W.heap.size W W') :
  Calls Tryz.prog 109 #[.func (.func Fw) #[] caps,.pointer (some ⟨bt,0,none⟩),.pointer (some ⟨bi,0,none⟩),.pointer (some ⟨bl,0,none⟩)] w (IncP n gi bl base v L P w):=by
 obtain⟨hb0,hb1,hb2,hb3⟩:=hb;obtain⟨d1,d2,d3,d4,d5⟩:=hd;have d1':=d1.symm;have d2':=d2.symm;have d3':=d3.symm;have d4':=d4.symm;have d5':=d5.symm;have hE':∀ (args:Array Value) (w:World),(callFunc Fw args).run Tryz.prog w=.ok (.enter Fw args) w:=hE;clear hE;have HP:=lHd hP;have HM:=lHd hM;have HO:=lHd hO;clear hP hM hO;go_enter Tryz.func109,Tryz.ntmps109
 go_wp2_with fail
 go_loopw [9] (fun i wr=>∃ k:Nat,k<=n/\i=.int .i64 (k:Int)/\∃ (v1:Value) (M1:List Bool) (Z:List Int),Arr wr bl 22 [v1]/\BArr wr gi M1/\OwnI base wr v1 (L ++ Z)/\Hid (MkL n M1 (L ++ Z))/\Hid (∀ j,j < k->P j=true->(j:Int)∈L ++ Z)/\Kept (zKl gi bl v) w wr/\Hid (∀ k,v1.ownBlock=some k->v.ownBlock=some k\/w.heap.size<=k)) (fun i _=>n - (intOf i).toNat)
 case atStart=>exact⟨0,Nat.zero_le _,rfl,v,M,[],hl,HM.out,by rw[List.append_nil];exact HO.out,by rw[List.append_nil];exact HK,(fun j hj=>absurd hj (by omega)),Kept.refl _ _,fun k hk=>.inl hk⟩
 case round=>
  clear hl;obtain⟨k,hk,rfl,v1,M1,Z,hl,hMr,hOr,HK1,HC,hKr,HV⟩:=hrel;obtain⟨wk,rfl⟩:∃ wo:World,wo=wr:=⟨_,rfl⟩;have hsz:=hKr.size;have hltl:=hl.lt;have htr:wk.cell? ⟨bt,3,none⟩=some (.slice Ao n co):=hKr.cell ht (by rintro (h | h | h);exact d1 h;exact d2 h;exact absurd (HO.out.lt _ h).1 (by show ¬ base<=bt;omega));have hir:wk.cell? ⟨bi,0,none⟩=some (.slice (some ⟨gi,0,none⟩) n cn):=hKr.cell hi (by rintro (h | h | h);exact d3 h;exact d4 h;exact absurd (HO.out.lt _ h).1 (by show ¬ base<=bi;omega));clear ht hi
  by_cases hlt:k < n
  ·obtain⟨x,hx,hxc,hxf⟩:=BArr.cell hMr (i:=k) (by rw[HK1.out.len];exact hlt)
   cases x with
   | true=>
    have HC2:Hid (∀ j,j < k+1->P j=true->(j:Int)∈L ++ Z):=fun j hj hp=>by
     by_cases e:j < k
     ·exact HC.out j e hp
     ·obtain rfl:j=k:=by omega
      exact (HK1.out.mem j).1 hx.out
    go_wp2
    go_roundw
    case rel=>exact⟨k+1,by omega,by go_num,v1,M1,Z,hl,hMr,hOr,HK1,HC2,hKr,HV⟩
    case measure=>simp[intOf];omega
   | false=>
    have hcall:=HP.out wk hKr k hlt;obtain⟨z,hz⟩:∃ z,Hid (P k=z):=⟨_,lHd rfl⟩;rw[hz.out] at hcall
    go_wp2_with fail
    refine hcall.mono ?_;rintro e w1 ⟨rfl,hB1⟩;have hs1:=hB1.size;have hl1:Arr w1 bl 22 [v1]:=hl.below hB1;have hM1:BArr w1 gi M1:=hMr.below hB1;have hO1:OwnI base w1 v1 (L ++ Z):=hOr.below hB1;have hK1:Kept (zKl gi bl v) w w1:=hKr.below hB1;have hi1:w1.cell? ⟨bi,0,none⟩=some (.slice (some ⟨gi,0,none⟩) n cn):=(hB1.cell (World.block_lt_of_cell? wk _ hir)).trans hir;have hx1:w1.cell? ⟨gi,k,none⟩=some (.bool false):=(hB1.cell (World.block_lt_of_cell? wk _ hxc)).trans hxc;have hf1:w1.frozen? ⟨gi,k,none⟩=false:=hM1.free k;have hlc1:w1.cell? ⟨bl,0,none⟩=some v1:=hl1.cell 0;clear htr hir hxc hxf hcall
    cases z with
    | false=>
     have HC2:Hid (∀ j,j < k+1->P j=true->(j:Int)∈L ++ Z):=fun j hj hp=>by
      by_cases e:j < k
      ·exact HC.out j e hp
      ·obtain rfl:j=k:=by omega
       rw[hz.out] at hp;cases hp
     go_wp2
     go_roundw
     case rel=>exact⟨k+1,by omega,by go_num,v1,M1,Z,hl1,hM1,hO1,HK1,HC2,hK1,HV⟩
     case measure=>simp[intOf];omega
    | true=>
     have hfew:=HK1.out.few;have hlz:(L ++ Z).length < 1000000000000:=by omega
     have HK2:Hid (MkL n (M1.set k true) (L ++ (Z ++ [(k:Int)]))):=by rw[<- List.append_assoc];exact HK1.out.put hx.out
     have HC2:Hid (∀ j,j < k+1->P j=true->(j:Int)∈L ++ (Z ++ [(k:Int)])):=fun j hj hp=>by
      rw[<- List.append_assoc]
      by_cases e:j < k
      ·exact List.mem_append.2 (.inl (HC.out j e hp))
      ·obtain rfl:j=k:=by omega
       simp
     have hsg:v1.ownBlock≠some gi:=fun e=>by have:=(hO1.lt _ e).1;omega
     have hO2:OwnI base ((w1.setCell ⟨gi,k,none⟩ (.bool true)).alloc (.cells #[.int .i64 (k:Int)] 3)) v1 (L ++ Z):=(OwnI.far hO1 (p:=⟨gi,k,none⟩) (by show gi < base;omega) _).below ((Below.refl _ _).alloc (Nat.le_refl _) _);have hl2:Arr ((w1.setCell ⟨gi,k,none⟩ (.bool true)).alloc (.cells #[.int .i64 (k:Int)] 3)) bl 22 [v1]:=(hl1.far (p:=⟨gi,k,none⟩) d5 _).alloc _;have hM2:BArr ((w1.setCell ⟨gi,k,none⟩ (.bool true)).alloc (.cells #[.int .i64 (k:Int)] 3)) gi (M1.set k true):=Arr.alloc (BArr.set_ hM1 k true) _;have hK2:Kept (zKl gi bl v) w ((w1.setCell ⟨gi,k,none⟩ (.bool true)).alloc (.cells #[.int .i64 (k:Int)] 3)):=(hK1.set (p:=⟨gi,k,none⟩) (.inl (.inl rfl)) _).alloc _;have HO2:=lHd hO2;have HL2:=lHd hl2;have HM2:=lHd hM2;have HK3:=lHd hK2;clear hO2 hl2 hM2 hK2 hO1 hM1 hK1 hl1 hOr hMr hKr hl hB1
     go_wp2_with (at_builtin;go_must (refine xQc rfl (.tmp 25) (.tmp 27) 22 3 (.int .i64 0) 8 Tryz.underlying22 xXo rfl (by decide) rfl base v1 (L ++ Z).length ((L ++ Z).map (Value.int .i64)) (.int .i64 (k:Int)) rfl rfl HO2.out _ 1 rfl ?p1 hlz ?p3 ?_;(case p1=>simp[go_sem]);(case p3=>(simp;omega));intro g3 c3 w3 hO3 hg3 hat3;have hl3:Arr w3 bl 22 [v1]:=Arr.grown HL2.out hg3 (fun e=>by have:=(HO2.out.lt _ e).1;omega);have hlc3:=hl3.cell 0;have hlf3:=hl3.free 0))
     have hM3:BArr w3 gi (M1.set k true):=Arr.grown HM2.out hg3 hsg;have hs3:=hg3.size;rw[World.size_alloc,World.size_setCell] at hs3;have hO4:OwnI base w3 (.slice (some ⟨g3,0,none⟩) (L.length+Z.length+1) c3) (L ++ (Z ++ [(k:Int)])):=by
      have e:(L ++ Z).length=L.length+Z.length:=List.length_append;rw[e] at hO3;unfold OwnI;rw[<- List.append_assoc,List.length_append (bs:=[(k:Int)]),List.map_append,e];exact hO3
     have hK4:Kept (zKl gi bl v) w w3:=HK3.out.grown hg3 (fun k' hk'=>by
      rcases HV.out k' hk' with h | h
      ·exact .inl (.inr (.inr h))
      ·exact .inr h)
     have HV2:Hid (∀ k',(Value.slice (some ⟨g3,0,none⟩) (L.length+Z.length+1) c3).ownBlock=some k'->v.ownBlock=some k'\/w.heap.size<=k'):=fun k' hk'=>by
      have hk':g3=k':=by injection hk'
      subst hk';rcases hat3 with h | h
      ·exact HV.out _ h
      ·right;rw[h,World.size_alloc,World.size_setCell];omega
     go_roundw
     case rel=>exact⟨k+1,by omega,by go_num,_,_,Z ++ [(k:Int)],hl3.set_ 0 _,Arr.far hM3 (p:=⟨bl,0,none⟩) d5' _,OwnI.far hO4 (p:=⟨bl,0,none⟩) (by show bl < base;omega) _,HK2,HC2,hK4.set (p:=⟨bl,0,none⟩) (.inl (.inr (.inl rfl))) _,HV2⟩
     case measure=>simp[intOf];omega
  ·obtain rfl:k=n:=by omega
   go_wp2
   go_end0
   exact⟨rfl,v1,M1,Z,hl,hMr,hOr,HK1.out,HC.out,hKr,HV.out⟩
theorem zXy{s need:List Int}(h:¬ ∀ q∈need,q∈s):xKy s need∈need/\¬ xKy s need∈s:=by
 unfold xKy
 cases e:need.find? (fun q=>!decide (q∈s)) with
 | none=>exact absurd (fun q hq=>by simpa using List.find?_eq_none.1 e q hq) h
 | some x=>
  have h1:=List.mem_of_find?_eq_some e;have h2:=List.find?_some e;exact⟨h1,by simpa using h2⟩
def StepC(ops:List OpV)(st:List Int)(L:List Int)(x:Int):Prop:=∀ o,ops[x.toNat]? = some o->(∃ q∈o.pre,q∉st/\∀ (j:Nat) (o':OpV),ops[j]? = some o'->q∈o'.add->(j:Int)∈L)\/((∀ q∈o.pre,q∈st)/\∀ (j:Nat) (o':OpV),ops[j]? = some o'->¬ vYx o o'->(j:Int)∈L)
theorem StepC.more{ops:List OpV}{st L Z:List Int}{x:Int}(h:StepC ops st L x):StepC ops st (L ++ Z) x:=fun o ho=>by
 rcases h o ho with ⟨q,h1,h2,h3⟩ | ⟨h1,h2⟩
 ·exact .inl ⟨q,h1,h2,fun j o' a b=>List.mem_append.2 (.inl (h3 j o' a b))⟩
 ·exact .inr ⟨h1,fun j o' a b=>List.mem_append.2 (.inl (h2 j o' a b))⟩
def DoneC(ops:List OpV)(st L:List Int)(k:Nat):Prop:=∀ (i:Nat) (x:Int),i < k->L[i]? = some x->StepC ops st L x
def GoalC(ops:List OpV)(p:Int)(L:List Int):Prop:=∀ (j:Nat) (o:OpV),ops[j]? = some o->p∈o.add->(j:Int)∈L
theorem GoalC.more{ops:List OpV}{p:Int}{L Z:List Int}(h:GoalC ops p L):GoalC ops p (L ++ Z):=fun j o a b=>List.mem_append.2 (.inl (h j o a b))
theorem DoneC.next{ops:List OpV}{st L Z:List Int}{k:Nat}{x:Int}(h:DoneC ops st L k)(hx:L[k]? = some x)(hs:StepC ops st (L ++ Z) x):DoneC ops st (L ++ Z) (k+1):=fun i y hi hy=>by
 have hk:=(List.getElem?_eq_some_iff.1 hx).1;rw[List.getElem?_append_left (by omega)] at hy
 by_cases e:i=k
 ·subst e;rw[hx] at hy;obtain rfl:=Option.some.inj hy;exact hs
 ·exact (h i y (by omega) hy).more
theorem DoneC.stub{ops:List OpV}{goal st L:List Int}{p:Int}(h:DoneC ops st L L.length)(hp:p∈goal)(hn:¬ p∈st)(hg:GoalC ops p L):Stub ops goal st (fun i=>(i:Int)∈L):=
 ⟨⟨p,hp,hn,hg⟩,fun i o hi ho=>by
  obtain⟨k,hk⟩:=List.getElem?_of_mem hi;have h1:=h k _ (List.getElem?_eq_some_iff.1 hk).1 hk o (by rw[Int.toNat_natCast];exact ho);rcases h1 with ⟨q,a,b,c⟩ | ⟨a,b⟩
  ·exact .inl ⟨q,a,b,c⟩
  ·exact .inr ⟨a,b⟩⟩
structure OutC(ops:List OpV)(st:List Int)(M:List Bool)(i:Nat)(out:List Int):Prop where
 snd:∀ x∈out,∃ (k:Nat) (o:OpV),x=(k:Int)/\ops[k]? = some o/\∀ q∈o.pre,q∈st
 all:∀ (k:Nat) (o:OpV),k < i->M[k]? = some true->ops[k]? = some o->(∀ q∈o.pre,q∈st)->(k:Int)∈out
 len:out.length<=i
theorem OutC.nil(ops:List OpV)(st:List Int)(M:List Bool):OutC ops st M 0 []:=⟨by simp,fun k o hk=>absurd hk (by omega),Nat.le_refl _⟩
theorem OutC.no{ops:List OpV}{st:List Int}{M:List Bool}{i:Nat}{out:List Int}(h:OutC ops st M i out)(hn:M[i]? = some true->¬ xWo ops st (i:Int)):OutC ops st M (i+1) out:=
 ⟨h.snd,fun k o hk hm ho hp=>by
  by_cases e:k=i
  ·subst e;exact absurd ⟨o,by rw[Int.toNat_natCast];exact ho,hp⟩ (hn hm)
  ·exact h.all k o (by omega) hm ho hp,by have:=h.len;omega⟩
theorem OutC.yes{ops:List OpV}{st:List Int}{M:List Bool}{i:Nat}{out:List Int}(h:OutC ops st M i out)(hc:xWo ops st (i:Int)):OutC ops st M (i+1) (out ++ [(i:Int)]):=by
 obtain⟨o,ho,hp⟩:=hc;rw[Int.toNat_natCast] at ho;refine⟨fun x hx=>?_,fun k o' hk hm ho' hp'=>?_,by rw[List.length_append];have:=h.len;simp;omega⟩
 ·rcases List.mem_append.1 hx with hx | hx
  ·exact h.snd x hx
  ·simp at hx;subst hx;exact⟨i,o,rfl,ho,hp⟩
 ·by_cases e:k=i
  ·subst e;simp
  ·exact List.mem_append.2 (.inl (h.all k o' (by omega) hm ho' hp'))
def StubP(t:TaskV)(st:List Int)(w:World)(e:Ending)(w':World):Prop:=Below w.heap.size w w'/\∃ (v:Value) (out:List Int),e=.returned v/\OwnI w.heap.size w' v out/\out.length<=40 /\
 ∃ Sx:Nat->Prop,Stub t.ops t.goal st Sx/\(∀ x∈out,∃ (k:Nat) (o:OpV),x=(k:Int)/\t.ops[k]? = some o/\∀ q∈o.pre,q∈st)/\∀ (k:Nat) (o:OpV),Sx k->t.ops[k]? = some o->(∀ q∈o.pre,q∈st)->(k:Int)∈out
theorem vQ3{a b:OpV}(h:¬ vYx a b):(!(xXh a b && xXh b a))=true:=by
 cases e1:xXh a b with
 | false=>rfl
 | true=>
  cases e2:xXh b a with
  | false=>rfl
  | true=>exact absurd ⟨xW7.1 e1,xW7.1 e2⟩ h
theorem vJ6{t:TaskV}(hv:Valid t):∀ u∈t.ops,vQt u:=fun u hu=>⟨(hv.ops u hu).1.1.pairwise,(hv.ops u hu).1.2.1.pairwise,(hv.ops u hu).1.2.2.1.pairwise⟩
theorem vJ7{t:TaskV}(hv:Valid t):∀ u∈t.ops,u.pre.length<=24/\u.add.length<=24/\u.del.length<=24:=fun u hu=>by
 obtain⟨⟨h1,h2,h3,_⟩,_⟩:=hv.ops u hu;have:=h1.length hv.f0;have:=h2.length hv.f0;have:=h3.length hv.f0;have:=hv.f1;exact⟨by omega,by omega,by omega⟩
theorem xWf(w:World)(p:Int)(a:Addr) :
  Calls Tryz.prog 110 #[.int .i64 p,.pointer (some a)] w fun e w'=>e=.returned (.func (.func 111) #[] #[.pointer (some a),.pointer (some ⟨w.heap.size,0,none⟩)])/\Below w.heap.size w w'/\Arr w' w.heap.size 3 [.int .i64 p]:=by
 go_enter Tryz.func110,Tryz.ntmps110;go_wp2;go_ret;exact⟨rfl,bch,Arr.new w 3 [.int .i64 p]⟩
theorem xK9(w:World)(w0:World)(t:TaskV)(Ao:Option Addr)(co:Nat)(hOp:OpsAt w0 Ao t.ops)(hB0:Below w0.heap.size w0 w)(hn:t.ops.length<=40)(cn bt bi bl gi base:Nat)(ht:w.cell? ⟨bt,3,none⟩=some (.slice Ao t.ops.length co))(hi:w.cell? ⟨bi,0,none⟩=some (.slice (some ⟨gi,0,none⟩) t.ops.length cn))(v:Value)(M:List Bool)(L:List Int)(hl:Arr w bl 22 [v])(hM:BArr w gi M)(hO:OwnI base w v L)(HK:Hid (MkL t.ops.length M L))(hb:bt < base/\bi < base/\bl < base/\gi < base)(hbw:base<=w.heap.size)(hd:bt≠gi/\bt≠bl/\bi≠gi/\bi≠bl/\gi≠bl)(hw0:w0.heap.size<=gi/\w0.heap.size<=bl/\w0.heap.size<=base)(bp:Nat)(p:Int)(hp:w.cell? ⟨bp,0,none⟩=some (.int .i64 p))(hpX:¬ zKl gi bl v bp) :
  Calls Tryz.prog 109 #[.func (.func 111) #[] #[.pointer (some ⟨bt,0,none⟩),.pointer (some ⟨bp,0,none⟩)],.pointer (some ⟨bt,0,none⟩),.pointer (some ⟨bi,0,none⟩),.pointer (some ⟨bl,0,none⟩)] w (IncP t.ops.length gi bl base v L (fun k=>decide (p∈(opN t.ops k).add)) w):=by
 have hXl:∀ k,zKl gi bl v k->w0.heap.size<=k:=by
  rintro k (h | h | h)
  ·omega
  ·omega
  ·have:=(hO.lt _ h).1;omega
 have hXt:¬ zKl gi bl v bt:=by
  rintro (h | h | h)
  ·exact hd.1 h
  ·exact hd.2.1 h
  ·have:=(hO.lt _ h).1;omega
 refine zWi w t.ops.length hn Ao co cn bt bi bl gi base ht hi v M L hl hM hO HK hb hbw hd 111 #[.pointer (some ⟨bt,0,none⟩),.pointer (some ⟨bp,0,none⟩)] (fun k=>decide (p∈(opN t.ops k).add)) vXr (fun W hK k hk=>?_);have hBW:=hB0.trans (hK.toBelow hXl hB0.size);exact vXs W t Ao co (hOp.below hBW) bt bp (hK.cell ht hXt) p (hK.cell hp hpX) k hk (opN t.ops k) (lHd (by rw[xV6 (lGe hk)];exact lGe hk))
theorem zYs(w:World)(w0:World)(t:TaskV)(Ao:Option Addr)(co:Nat)(hOp:OpsAt w0 Ao t.ops)(hB0:Below w0.heap.size w0 w)(hn:t.ops.length<=40)(cn bt bi bl gi base:Nat)(ht:w.cell? ⟨bt,3,none⟩=some (.slice Ao t.ops.length co))(hi:w.cell? ⟨bi,0,none⟩=some (.slice (some ⟨gi,0,none⟩) t.ops.length cn))(v:Value)(M:List Bool)(L:List Int)(hl:Arr w bl 22 [v])(hM:BArr w gi M)(hO:OwnI base w v L)(HK:Hid (MkL t.ops.length M L))(hb:bt < base/\bi < base/\bl < base/\gi < base)(hbw:base<=w.heap.size)(hd:bt≠gi/\bt≠bl/\bi≠gi/\bi≠bl/\gi≠bl)(hw0:w0.heap.size<=gi/\w0.heap.size<=bl/\w0.heap.size<=base)(bo:Nat)(o:OpV)(A0 A1 A2:Option Addr)(c0 c1 c2:Nat)(hA:OpMem w0 A0 A1 A2 o)(hb0:w.cell? ⟨bo,0,none⟩=some (.slice A0 o.pre.length c0))(hb1:w.cell? ⟨bo,1,none⟩=some (.slice A1 o.add.length c1))(hb2:w.cell? ⟨bo,2,none⟩=some (.slice A2 o.del.length c2))(hb3:w.cell? ⟨bo,3,none⟩=some (.int .i64 o.cost))(hpX:¬ zKl gi bl v bo)(hlo:o.pre.length<=24/\o.add.length<=24/\o.del.length<=24)(hlu:∀ u∈t.ops,u.pre.length<=24/\u.add.length<=24/\u.del.length<=24)(hso:Hid (vQt o))(hsu:∀ u∈t.ops,vQt u) :
  Calls Tryz.prog 109 #[.func (.func 112) #[] #[.pointer (some ⟨bo,0,none⟩),.pointer (some ⟨bt,0,none⟩)],.pointer (some ⟨bt,0,none⟩),.pointer (some ⟨bi,0,none⟩),.pointer (some ⟨bl,0,none⟩)] w (IncP t.ops.length gi bl base v L (fun k=>!(xXh o (opN t.ops k) && xXh (opN t.ops k) o)) w):=by
 have hXl:∀ k,zKl gi bl v k->w0.heap.size<=k:=by
  rintro k (h | h | h)
  ·omega
  ·omega
  ·have:=(hO.lt _ h).1;omega
 have hXt:¬ zKl gi bl v bt:=by
  rintro (h | h | h)
  ·exact hd.1 h
  ·exact hd.2.1 h
  ·have:=(hO.lt _ h).1;omega
 refine zWi w t.ops.length hn Ao co cn bt bi bl gi base ht hi v M L hl hM hO HK hb hbw hd 112 #[.pointer (some ⟨bo,0,none⟩),.pointer (some ⟨bt,0,none⟩)] (fun k=>!(xXh o (opN t.ops k) && xXh (opN t.ops k) o)) vV3 (fun W hK k hk=>?_);have hBW:=hB0.trans (hK.toBelow hXl hB0.size);exact vV4 W t Ao co (hOp.below hBW) bt bo (hK.cell ht hXt) o A0 A1 A2 c0 c1 c2 (hA.below hBW) (hK.cell hb0 hpX) (hK.cell hb1 hpX) (hK.cell hb2 hpX) (hK.cell hb3 hpX) hlo hlu hso hsu k hk (opN t.ops k) (lHd (by rw[xV6 (lGe hk)];exact lGe hk))
theorem zYt(w:World)(t:TaskV)(Ai Ag Ao:Option Addr)(ci cg co:Nat)(hT:TaskMem w Ai Ag Ao t)(S:Option Addr)(cs:Nat)(st:List Int)(hS:Ints w S st)(hst:SetP st t.facts)(hv:Valid t)(hg:¬ ∀ q∈t.goal,q∈st) :
  Calls Tryz.prog 70 #[.agg #[.int .i64 t.facts,.slice Ai t.init.length ci,.slice Ag t.goal.length cg,.slice Ao t.ops.length co],.slice S st.length cs] w (StubP t st w):=by
 obtain⟨hp1,hp2⟩:=zXy hg;have hp0:=(hv.goal.1 _ hp1).1;have hf1:=hv.f1;obtain⟨p,hpe⟩:∃ p,Hid (xKy st t.goal=p):=⟨_,lHd rfl⟩;rw[hpe.out] at hp1 hp2 hp0;have HP1:=lHd hp1;have HP2:=lHd hp2;have hn40:=hv.nops;have hls:st.length<=1000000000000:=by have:=hst.length hv.f0;have:=hv.f1;omega
 have HST:=lHd hst;have HSO:=lHd hst.pairwise;have HV:=lHd hv;have HS:=lHd hS;have hlg:=hT.lgoal.le;have HT:=lHd hT;have hmk:=xWk t.ops.length (by omega);have HSR:=lHd (vJ6 hv);have H24:=lHd (vJ7 hv);clear hp1 hp2 hg hT hst hv hS;go_enter Tryz.func70,Tryz.ntmps70
 go_wp2_with fail
 refine (xQz _ _ _ _ (HS.out.below bch) hls HSO _ _ _ (HT.out.goal.below bch) hlg).mono ?_;rintro e w1 ⟨he,hB1⟩;rw[hpe.out] at he;subst he;have D1:=xJ3 w hB1 bch;have C1:=Cls.below (l:=[(w.heap.size,0,.int .i64 t.facts),(w.heap.size,1,.slice Ai t.init.length ci),(w.heap.size,2,.slice Ag t.goal.length cg),(w.heap.size,3,.slice Ao t.ops.length co)]) hB1 (by simp[Cls,go_sem]);have F1:=C1;simp only[Cls,and_true] at F1;have y1w0:w.heap.size < w1.heap.size:=C1.blk (b:=w.heap.size) (k:=0) (v:=.int .i64 t.facts) (by simp);have y1wp1:w.heap.size < w1.heap.size+1:=(by omega);have y1wp2:w.heap.size < w1.heap.size+1+1:=(by omega)
 go_wp2_with fail
 go_at_call 110;refine (xWf _ _ _).mono ?_;rintro e w2 ⟨rfl,hB2,hA2⟩;have D2:=xJ3 w hB2 bch;have C2:=Cls.below (l:=[(w.heap.size,0,.int .i64 t.facts),(w.heap.size,1,.slice Ai t.init.length ci),(w.heap.size,2,.slice Ag t.goal.length cg),(w.heap.size,3,.slice Ao t.ops.length co),(w1.heap.size+1,0,.slice (some ⟨w1.heap.size,0,none⟩) t.ops.length t.ops.length)]) hB2 (by simp[Cls,go_sem,F1,y1w0,y1wp1,y1wp2]);have F2:=C2;simp only[Cls,and_true] at F2;have y2w0:w.heap.size < w2.heap.size:=C2.blk (b:=w.heap.size) (k:=0) (v:=.int .i64 t.facts) (by simp);have y2w11:w1.heap.size+1 < w2.heap.size:=C2.blk (b:=w1.heap.size+1) (k:=0) (v:=.slice (some ⟨w1.heap.size,0,none⟩) t.ops.length t.ops.length) (by simp);have hM2:BArr w2 (w1.heap.size) (List.replicate t.ops.length false):=BArr.below (by have h:=Arr.new w1 4 (List.replicate t.ops.length (Value.bool false));exact (show BArr _ _ _ from by unfold BArr;rw[List.map_replicate];exact (h.alloc _).alloc _)) hB2;have hl2:Arr w2 (w1.heap.size+1+1) 22 [.slice none 0 0]:=Arr.below (Arr.new_at _ _ (by simp) _ _) hB2;have hs2:=hB2.size;have hA3:w2.cell? ⟨w1.heap.size+1+1+1,0,none⟩=some (.int .i64 p):=by
  have h:=hA2.cell 0;simpa using h
 have hO2:OwnI (w1.heap.size+1+1+1) w2 (.slice none 0 0) []:=OwnI.nil _ _;have hs3:=hA2.lt;simp at hs2 hs3
 go_wp2_with fail
 refine (xK9 _ w t Ao co HT.out.ops bch hn40 t.ops.length w.heap.size (w1.heap.size+1) (w1.heap.size+1+1) (w1.heap.size) (w1.heap.size+1+1+1) (by simp[go_sem,F2,y2w0,y2w11]) (by simp[go_sem,F2,y2w0,y2w11]) (.slice none 0 0) _ [] hl2 hM2 hO2 (MkL.nil _) (by omega) (by omega) (by omega) (by omega) _ p hA3 (by rintro (h | h | h) <;> first | omega | cases h)).mono ?_;rintro e w3 ⟨rfl,v3,M3,Z3,hl3,hM3,hO3,HK3,hQ3,hKp3,hV3⟩;have D3:Below w.heap.size w w3:=D2.trans (hKp3.toBelow (by rintro k (h | h | h) <;> first | omega | (have:=(hO2.lt _ h).1;omega)) D2.size);have C3:Cls w3 [(w.heap.size,0,.int .i64 t.facts),(w.heap.size,1,.slice Ai t.init.length ci),(w.heap.size,2,.slice Ag t.goal.length cg),(w.heap.size,3,.slice Ao t.ops.length co),(w1.heap.size+1,0,.slice (some ⟨w1.heap.size,0,none⟩) t.ops.length t.ops.length)]:=Cls.kept C2 hKp3 (fun x hx=>by (have hx1:x.1=w.heap.size\/x.1=w1.heap.size+1:=by (simp at hx;rcases hx with rfl | rfl | rfl | rfl | rfl <;> simp));rintro (h | h | h) <;> first | omega | (have:=(hO2.lt _ h).1;omega));have F3:=C3;simp only[Cls,and_true] at F3;have y3w0:w.heap.size < w3.heap.size:=C3.blk (b:=w.heap.size) (k:=0) (v:=.int .i64 t.facts) (by simp);have y3w11:w1.heap.size+1 < w3.heap.size:=C3.blk (b:=w1.heap.size+1) (k:=0) (v:=.slice (some ⟨w1.heap.size,0,none⟩) t.ops.length t.ops.length) (by simp);have HQ3:=lHd hQ3;have HKM:=lHd HK3;have hGC:Hid (GoalC t.ops p Z3):=fun j o ho ha=>by
  have h:=HQ3.out j (List.getElem?_eq_some_iff.1 ho).1 (by show decide (p∈(opN t.ops j).add)=true;rw[xV6 ho];exact decide_eq_true ha);rw[List.nil_append] at h;exact h
 rw[List.nil_append] at hO3 HKM;clear hQ3 hKp3 hV3 HK3 hA2 hA3 hl2 hM2 hO2 hB1 hB2 hs2 hs3
 go_wp2_with fail
 go_loopw [10] (fun i wr=>∃ k:Nat,i=.int .i64 (k:Int)/\∃ (vL:Value) (L:List Int) (M:List Bool),k<=L.length/\Arr wr (w1.heap.size+1+1) 22 [vL]/\BArr wr (w1.heap.size) M/\OwnI (w1.heap.size+1+1+1) wr vL L/\Hid (MkL t.ops.length M L)/\Hid (GoalC t.ops p L)/\Hid (DoneC t.ops st L k)/\Below w.heap.size w wr/\Cls wr [(w.heap.size,0,.int .i64 t.facts),(w.heap.size,1,.slice Ai t.init.length ci),(w.heap.size,2,.slice Ag t.goal.length cg),(w.heap.size,3,.slice Ao t.ops.length co),(w1.heap.size+1,0,.slice (some ⟨w1.heap.size,0,none⟩) t.ops.length t.ops.length)]) (fun i _=>t.ops.length - (intOf i).toNat)
 case atStart=>exact⟨0,rfl,v3,Z3,M3,Nat.zero_le _,hl3,hM3,hO3,HKM,hGC,(fun i x hi=>absurd hi (by omega)),bch,(by simp[Cls,go_sem,F3,y3w0,y3w11])⟩
 case round=>
  clear hl3 hM3 hO3 HKM hGC HQ3;obtain⟨k,rfl,vL,L,M,hk,hl,hM,hO,HK,HG,HD,hBr,hCr⟩:=hrel;obtain⟨wk,rfl⟩:∃ wo:World,wo=wr:=⟨_,rfl⟩;have drs:=hBr.size;have Fr:=hCr;simp only[Cls,and_true] at Fr;have yrw0:w.heap.size < wk.heap.size:=hCr.blk (b:=w.heap.size) (k:=0) (v:=.int .i64 t.facts) (by simp);have yrw11:w1.heap.size+1 < wk.heap.size:=hCr.blk (b:=w1.heap.size+1) (k:=0) (v:=.slice (some ⟨w1.heap.size,0,none⟩) t.ops.length t.ops.length) (by simp);have hlw:=hl.lt;have hfew:=HK.out.few;obtain⟨A,c,rfl,hAn,hIL⟩:=hO.form;have hlc:=hl.cell 0
  by_cases hlt:k < L.length
  ·obtain⟨g,x,rfl,hgb,hgl,hx,hxc,-⟩:=hO.at_ hlt;have hxr:=HK.out.rng x (lMg hx.out);obtain⟨j,rfl⟩:=Int.eq_ofNat_of_zero_le hxr.1;have hjn:j < t.ops.length:=by omega
   obtain⟨ad,o,A0,c0,A1,c1,A2,c2,rfl,ho,hc0,hc1,hc2,hc3,hm⟩:=HT.out.ops.at2 (w':=wk) bch hjn;have hom:=lMg ho.out;have hlp:=hm.lpre.le;have HV2:=lHd (HV.out.ops o hom);have hlo:=H24.out o hom;have HSO2:=lHd (HSR.out o hom);have HMM:=lHd hm;clear hom
   by_cases hpre:∀ q∈o.pre,q∈st
   ·have HR:=lHd (zVe (s:=st) (need:=o.pre) hpre);have HPRE:=lHd hpre;clear hpre
    go_wp2_with fail
    have hbt3:=Fr.2.2.2.1.1;have hSS0:wk.drew.cell? ⟨w.heap.size,3,none⟩=some (.slice (some ad) t.ops.length co)/\wk.drew.cell? ⟨w1.heap.size+1+1,0,none⟩=some (.slice (some ⟨g,0,none⟩) L.length c)/\wk.drew.cell? ⟨g,k,none⟩=some (.int .i64 (j:Int))/\wk.drew.cell? (ad.add (j * 4))=some (.slice A0 o.pre.length c0)/\wk.drew.cell? ⟨(ad.add (j * 4)).block,(ad.add (j * 4)).off+1,none⟩=some (.slice A1 o.add.length c1)/\wk.drew.cell? ⟨(ad.add (j * 4)).block,(ad.add (j * 4)).off+2,none⟩=some (.slice A2 o.del.length c2)/\wk.drew.cell? ⟨(ad.add (j * 4)).block,(ad.add (j * 4)).off+3,none⟩=some (.int .i64 o.cost):=⟨hbt3,hlc,hxc,hc0,hc1,hc2,hc3⟩;refine xJk (fun W=>W.cell? ⟨w.heap.size,3,none⟩=some (.slice (some ad) t.ops.length co)/\W.cell? ⟨w1.heap.size+1+1,0,none⟩=some (.slice (some ⟨g,0,none⟩) L.length c)/\W.cell? ⟨g,k,none⟩=some (.int .i64 (j:Int))/\W.cell? (ad.add (j * 4))=some (.slice A0 o.pre.length c0)/\W.cell? ⟨(ad.add (j * 4)).block,(ad.add (j * 4)).off+1,none⟩=some (.slice A1 o.add.length c1)/\W.cell? ⟨(ad.add (j * 4)).block,(ad.add (j * 4)).off+2,none⟩=some (.slice A2 o.del.length c2)/\W.cell? ⟨(ad.add (j * 4)).block,(ad.add (j * 4)).off+3,none⟩=some (.int .i64 o.cost)) [9] (by kernel_rfl) ?_;have hSS:=hSS0;refine xJ1 (i:=0) (v:=?vz10) rfl (by kernel_rfl) (by kernel_rfl) (by kernel_rfl) (by kernel_rfl) (by kernel_rfl) (fun _ _ _ h=>h) (Or.inl ⟨by rfl,?hz10⟩) (by assumption) ?rz10
    case hz10=>(intro w hSw;(try dsimp only at hSw);go_simp;(try with_reducible rfl))
    try simp only[ap]
    refine xJ1 (i:=1) (v:=?vz11) rfl (by kernel_rfl) (by kernel_rfl) (by kernel_rfl) (by kernel_rfl) (by kernel_rfl) (fun _ _ _ h=>h) (Or.inl ⟨by rfl,?hz11⟩) (by assumption) ?rz11
    case hz11=>(intro w hSw;(try dsimp only at hSw);go_simp;(try with_reducible rfl))
    try simp only[ap]
    refine xJ1 (i:=2) (v:=?vz12) rfl (by kernel_rfl) (by kernel_rfl) (by kernel_rfl) (by kernel_rfl) (by kernel_rfl) (fun _ _ _ h=>h) (Or.inl ⟨by rfl,?hz12⟩) (by assumption) ?rz12
    case hz12=>(intro w hSw;(try dsimp only at hSw);go_simp;(try with_reducible rfl))
    try simp only[ap]
    refine xJ1 (i:=3) (v:=?vz13) rfl (by kernel_rfl) (by kernel_rfl) (by kernel_rfl) (by kernel_rfl) (by kernel_rfl) (fun _ _ _ h=>h) (Or.inl ⟨by rfl,?hz13⟩) (by assumption) ?rz13
    case hz13=>(intro w hSw;(try dsimp only at hSw);go_simp;(try with_reducible rfl))
    try simp only[ap]
    refine xJ1 (i:=4) (v:=?vz14) rfl (by kernel_rfl) (by kernel_rfl) (by kernel_rfl) (by kernel_rfl) (by kernel_rfl) (fun _ _ _ h=>h) (Or.inl ⟨by rfl,?hz14⟩) (by assumption) ?rz14
    case hz14=>(intro w hSw;(try dsimp only at hSw);go_simp;(try with_reducible rfl))
    try simp only[ap]
    refine xJ1 (i:=5) (v:=?vz15) rfl (by kernel_rfl) (by kernel_rfl) (by kernel_rfl) (by kernel_rfl) (by kernel_rfl) (fun _ _ _ h=>h) (Or.inl ⟨by rfl,?hz15⟩) (by assumption) ?rz15
    case hz15=>(intro w hSw;(try dsimp only at hSw);go_simp;(try with_reducible rfl))
    try simp only[ap]
    refine xJ1 (i:=6) (v:=?vz16) rfl (by kernel_rfl) (by kernel_rfl) (by kernel_rfl) (by kernel_rfl) (by kernel_rfl) (fun _ _ _ h=>h) (Or.inl ⟨by rfl,?hz16⟩) (by assumption) ?rz16
    case hz16=>(intro w hSw;(try dsimp only at hSw);go_simp;(try with_reducible rfl))
    try simp only[ap]
    refine xJ1 (i:=7) (v:=?vz17) rfl (by kernel_rfl) (by kernel_rfl) (by kernel_rfl) (by kernel_rfl) (by kernel_rfl) (fun _ _ _ h=>h) (Or.inl ⟨by rfl,?hz17⟩) (by assumption) ?rz17
    case hz17=>(intro w hSw;(try dsimp only at hSw);go_simp;(try with_reducible rfl))
    try simp only[ap]
    refine xJ4 (i:=8) (by kernel_rfl) rfl (fun K hK=>?_);go_simp
    go_wp2_with fail
    have kz:∀ {q:Addr} {u:Value},wk.drew.cell? q=some u->(wk.drew.alloc (.cells #[.slice none 0 0,.slice none 0 0,.slice none 0 0,.int .i64 0] 68)).cell? q=some u:=fun {q u} hq=>by rw[World.cell?_alloc_lt _ _ _ (World.block_lt_of_cell? _ _ hq)];exact hq
    have hSS:(wk.drew.alloc (.cells #[.slice none 0 0,.slice none 0 0,.slice none 0 0,.int .i64 0] 68)).cell? ⟨w.heap.size,3,none⟩=some (.slice (some ad) t.ops.length co)/\(wk.drew.alloc (.cells #[.slice none 0 0,.slice none 0 0,.slice none 0 0,.int .i64 0] 68)).cell? ⟨w1.heap.size+1+1,0,none⟩=some (.slice (some ⟨g,0,none⟩) L.length c)/\(wk.drew.alloc (.cells #[.slice none 0 0,.slice none 0 0,.slice none 0 0,.int .i64 0] 68)).cell? ⟨g,k,none⟩=some (.int .i64 (j:Int))/\(wk.drew.alloc (.cells #[.slice none 0 0,.slice none 0 0,.slice none 0 0,.int .i64 0] 68)).cell? (ad.add (j * 4))=some (.slice A0 o.pre.length c0)/\(wk.drew.alloc (.cells #[.slice none 0 0,.slice none 0 0,.slice none 0 0,.int .i64 0] 68)).cell? ⟨(ad.add (j * 4)).block,(ad.add (j * 4)).off+1,none⟩=some (.slice A1 o.add.length c1)/\(wk.drew.alloc (.cells #[.slice none 0 0,.slice none 0 0,.slice none 0 0,.int .i64 0] 68)).cell? ⟨(ad.add (j * 4)).block,(ad.add (j * 4)).off+2,none⟩=some (.slice A2 o.del.length c2)/\(wk.drew.alloc (.cells #[.slice none 0 0,.slice none 0 0,.slice none 0 0,.int .i64 0] 68)).cell? ⟨(ad.add (j * 4)).block,(ad.add (j * 4)).off+3,none⟩=some (.int .i64 o.cost):=⟨kz hbt3,kz hlc,kz hxc,kz hc0,kz hc1,kz hc2,kz hc3⟩;refine hK.out _ _ hSS ?_;clear hK K
    try simp only[ap]
    refine xJd (i:=9) (by kernel_rfl) rfl (by kernel_rfl) (fun K hK=>?_);go_simp
    go_wp2_with fail
    refine hK.out _ _ ?_;clear hK K
    try simp only[ap]
    refine xJ8 (by kernel_rfl) ?_ _
    go_wp2_with fail
    refine (xQz _ _ _ _ (HS.out.below bch) hls HSO _ _ _ (hm.pre.below bch) hlp).mono ?_;rintro e w4 ⟨he,hB4⟩;rw[HR.out] at he;subst he;have D4:=xJ3 w hB4 bch;have Ewk_4:=xJ3 wk hB4 bch;have C4:=Cls.below (l:=[(w.heap.size,0,.int .i64 t.facts),(w.heap.size,1,.slice Ai t.init.length ci),(w.heap.size,2,.slice Ag t.goal.length cg),(w.heap.size,3,.slice (some ad) t.ops.length co),(w1.heap.size+1,0,.slice (some ⟨w1.heap.size,0,none⟩) t.ops.length t.ops.length),(wk.heap.size,0,.slice A0 o.pre.length c0),(wk.heap.size,1,.slice A1 o.add.length c1),(wk.heap.size,2,.slice A2 o.del.length c2),(wk.heap.size,3,.int .i64 o.cost)]) hB4 (by simp[Cls,go_sem,Fr,yrw0,yrw11]);have F4:=C4;simp only[Cls,and_true] at F4;have y4w0:w.heap.size < w4.heap.size:=C4.blk (b:=w.heap.size) (k:=0) (v:=.int .i64 t.facts) (by simp);have y4w11:w1.heap.size+1 < w4.heap.size:=C4.blk (b:=w1.heap.size+1) (k:=0) (v:=.slice (some ⟨w1.heap.size,0,none⟩) t.ops.length t.ops.length) (by simp);have y4wk0:wk.heap.size < w4.heap.size:=C4.blk (b:=wk.heap.size) (k:=0) (v:=.slice A0 o.pre.length c0) (by simp)
    go_wp2_with fail
    have hlB:Arr w4 (w1.heap.size+1+1) 22 [.slice (some ⟨g,0,none⟩) L.length c]:=hl.below Ewk_4;have hMB:BArr w4 (w1.heap.size) M:=hM.below Ewk_4;have hOB:OwnI (w1.heap.size+1+1+1) w4 (.slice (some ⟨g,0,none⟩) L.length c) L:=hO.below Ewk_4;have hszk:=Ewk_4.size;refine (zYs _ w t (some ad) co HT.out.ops bch hn40 t.ops.length w.heap.size (w1.heap.size+1) (w1.heap.size+1+1) (w1.heap.size) (w1.heap.size+1+1+1) (by simp[go_sem,F4,y4w0,y4w11,y4wk0]) (by simp[go_sem,F4,y4w0,y4w11,y4wk0]) (.slice (some ⟨g,0,none⟩) L.length c) M L hlB hMB hOB HK (by omega) (by omega) (by omega) (by omega) wk.heap.size o A0 A1 A2 c0 c1 c2 HMM.out (by simp[go_sem,F4,y4w0,y4w11,y4wk0]) (by simp[go_sem,F4,y4w0,y4w11,y4wk0]) (by simp[go_sem,F4,y4w0,y4w11,y4wk0]) (by simp[go_sem,F4,y4w0,y4w11,y4wk0]) (by rintro (h | h | h) <;> first | omega | (have:=(hO.lt _ h).2;omega)) hlo H24.out HSO2 HSR.out).mono ?_;rintro e w5 ⟨rfl,v5,M5,Z5,hl5,hM5,hO5,HK5,hQ5,hKp5,hV5⟩;have D5:Below w.heap.size w w5:=D4.trans (hKp5.toBelow (by rintro k (h | h | h) <;> first | omega | (have:=(hOB.lt _ h).1;omega)) D4.size);have C5:Cls w5 [(w.heap.size,0,.int .i64 t.facts),(w.heap.size,1,.slice Ai t.init.length ci),(w.heap.size,2,.slice Ag t.goal.length cg),(w.heap.size,3,.slice (some ad) t.ops.length co),(w1.heap.size+1,0,.slice (some ⟨w1.heap.size,0,none⟩) t.ops.length t.ops.length)]:=Cls.kept (by simp[Cls,go_sem,F4,y4w0,y4w11,y4wk0]) hKp5 (fun x hx=>by (have hx1:x.1=w.heap.size\/x.1=w1.heap.size+1:=by (simp at hx;rcases hx with rfl | rfl | rfl | rfl | rfl <;> simp));rintro (h | h | h) <;> first | omega | (have:=(hOB.lt _ h).1;omega));have F5:=C5;simp only[Cls,and_true] at F5;have y5w0:w.heap.size < w5.heap.size:=C5.blk (b:=w.heap.size) (k:=0) (v:=.int .i64 t.facts) (by simp);have y5w11:w1.heap.size+1 < w5.heap.size:=C5.blk (b:=w1.heap.size+1) (k:=0) (v:=.slice (some ⟨w1.heap.size,0,none⟩) t.ops.length t.ops.length) (by simp);have HQ:=lHd hQ5;have HK2:=lHd HK5;clear hQ5 HK5;have HS2:Hid (StepC t.ops st (L ++ Z5) (j:Int)):=fun o2 ho2=>by
     rw[Int.toNat_natCast,ho.out] at ho2;obtain rfl:=Option.some.inj ho2;exact Or.inr ⟨HPRE.out,fun i o2 hi hni=>HQ.out i (List.getElem?_eq_some_iff.1 hi).1 (by show (!(xXh o (opN t.ops i) && xXh (opN t.ops i) o))=true;rw[xV6 hi];exact vQ3 hni)⟩
    have HD2:=lHd (HD.out.next hx.out HS2.out);have HG2:=lHd (HG.out.more (Z:=Z5));go_wp2
    go_roundw
    case rel=>exact⟨k+1,by go_num,_,L ++ Z5,M5,by (rw[List.length_append];omega),hl5,hM5,hO5,HK2,HG2,HD2,bch,(by simp[Cls,go_sem,F5,y5w0,y5w11])⟩
    case measure=>simp[intOf];omega
   ·obtain⟨hr1,hr2⟩:=zXy hpre;have hr0:=(HV2.out.1.1.1 _ hr1).1;obtain⟨r,hre⟩:∃ r,Hid (xKy st o.pre=r):=⟨_,lHd rfl⟩;rw[hre.out] at hr1 hr2 hr0;have HR:=hre;have HR1:=lHd hr1;have HR2:=lHd hr2;clear hr1 hr2 hpre
    go_wp2_with fail
    have hbt3:=Fr.2.2.2.1.1;have hSS0:wk.drew.cell? ⟨w.heap.size,3,none⟩=some (.slice (some ad) t.ops.length co)/\wk.drew.cell? ⟨w1.heap.size+1+1,0,none⟩=some (.slice (some ⟨g,0,none⟩) L.length c)/\wk.drew.cell? ⟨g,k,none⟩=some (.int .i64 (j:Int))/\wk.drew.cell? (ad.add (j * 4))=some (.slice A0 o.pre.length c0)/\wk.drew.cell? ⟨(ad.add (j * 4)).block,(ad.add (j * 4)).off+1,none⟩=some (.slice A1 o.add.length c1)/\wk.drew.cell? ⟨(ad.add (j * 4)).block,(ad.add (j * 4)).off+2,none⟩=some (.slice A2 o.del.length c2)/\wk.drew.cell? ⟨(ad.add (j * 4)).block,(ad.add (j * 4)).off+3,none⟩=some (.int .i64 o.cost):=⟨hbt3,hlc,hxc,hc0,hc1,hc2,hc3⟩;refine xJk (fun W=>W.cell? ⟨w.heap.size,3,none⟩=some (.slice (some ad) t.ops.length co)/\W.cell? ⟨w1.heap.size+1+1,0,none⟩=some (.slice (some ⟨g,0,none⟩) L.length c)/\W.cell? ⟨g,k,none⟩=some (.int .i64 (j:Int))/\W.cell? (ad.add (j * 4))=some (.slice A0 o.pre.length c0)/\W.cell? ⟨(ad.add (j * 4)).block,(ad.add (j * 4)).off+1,none⟩=some (.slice A1 o.add.length c1)/\W.cell? ⟨(ad.add (j * 4)).block,(ad.add (j * 4)).off+2,none⟩=some (.slice A2 o.del.length c2)/\W.cell? ⟨(ad.add (j * 4)).block,(ad.add (j * 4)).off+3,none⟩=some (.int .i64 o.cost)) [9] (by kernel_rfl) ?_;have hSS:=hSS0;refine xJ1 (i:=0) (v:=?vz20) rfl (by kernel_rfl) (by kernel_rfl) (by kernel_rfl) (by kernel_rfl) (by kernel_rfl) (fun _ _ _ h=>h) (Or.inl ⟨by rfl,?hz20⟩) (by assumption) ?rz20
    case hz20=>(intro w hSw;(try dsimp only at hSw);go_simp;(try with_reducible rfl))
    try simp only[ap]
    refine xJ1 (i:=1) (v:=?vz21) rfl (by kernel_rfl) (by kernel_rfl) (by kernel_rfl) (by kernel_rfl) (by kernel_rfl) (fun _ _ _ h=>h) (Or.inl ⟨by rfl,?hz21⟩) (by assumption) ?rz21
    case hz21=>(intro w hSw;(try dsimp only at hSw);go_simp;(try with_reducible rfl))
    try simp only[ap]
    refine xJ1 (i:=2) (v:=?vz22) rfl (by kernel_rfl) (by kernel_rfl) (by kernel_rfl) (by kernel_rfl) (by kernel_rfl) (fun _ _ _ h=>h) (Or.inl ⟨by rfl,?hz22⟩) (by assumption) ?rz22
    case hz22=>(intro w hSw;(try dsimp only at hSw);go_simp;(try with_reducible rfl))
    try simp only[ap]
    refine xJ1 (i:=3) (v:=?vz23) rfl (by kernel_rfl) (by kernel_rfl) (by kernel_rfl) (by kernel_rfl) (by kernel_rfl) (fun _ _ _ h=>h) (Or.inl ⟨by rfl,?hz23⟩) (by assumption) ?rz23
    case hz23=>(intro w hSw;(try dsimp only at hSw);go_simp;(try with_reducible rfl))
    try simp only[ap]
    refine xJ1 (i:=4) (v:=?vz24) rfl (by kernel_rfl) (by kernel_rfl) (by kernel_rfl) (by kernel_rfl) (by kernel_rfl) (fun _ _ _ h=>h) (Or.inl ⟨by rfl,?hz24⟩) (by assumption) ?rz24
    case hz24=>(intro w hSw;(try dsimp only at hSw);go_simp;(try with_reducible rfl))
    try simp only[ap]
    refine xJ1 (i:=5) (v:=?vz25) rfl (by kernel_rfl) (by kernel_rfl) (by kernel_rfl) (by kernel_rfl) (by kernel_rfl) (fun _ _ _ h=>h) (Or.inl ⟨by rfl,?hz25⟩) (by assumption) ?rz25
    case hz25=>(intro w hSw;(try dsimp only at hSw);go_simp;(try with_reducible rfl))
    try simp only[ap]
    refine xJ1 (i:=6) (v:=?vz26) rfl (by kernel_rfl) (by kernel_rfl) (by kernel_rfl) (by kernel_rfl) (by kernel_rfl) (fun _ _ _ h=>h) (Or.inl ⟨by rfl,?hz26⟩) (by assumption) ?rz26
    case hz26=>(intro w hSw;(try dsimp only at hSw);go_simp;(try with_reducible rfl))
    try simp only[ap]
    refine xJ1 (i:=7) (v:=?vz27) rfl (by kernel_rfl) (by kernel_rfl) (by kernel_rfl) (by kernel_rfl) (by kernel_rfl) (fun _ _ _ h=>h) (Or.inl ⟨by rfl,?hz27⟩) (by assumption) ?rz27
    case hz27=>(intro w hSw;(try dsimp only at hSw);go_simp;(try with_reducible rfl))
    try simp only[ap]
    refine xJ4 (i:=8) (by kernel_rfl) rfl (fun K hK=>?_);go_simp
    go_wp2_with fail
    have kz:∀ {q:Addr} {u:Value},wk.drew.cell? q=some u->(wk.drew.alloc (.cells #[.slice none 0 0,.slice none 0 0,.slice none 0 0,.int .i64 0] 68)).cell? q=some u:=fun {q u} hq=>by rw[World.cell?_alloc_lt _ _ _ (World.block_lt_of_cell? _ _ hq)];exact hq
    have hSS:(wk.drew.alloc (.cells #[.slice none 0 0,.slice none 0 0,.slice none 0 0,.int .i64 0] 68)).cell? ⟨w.heap.size,3,none⟩=some (.slice (some ad) t.ops.length co)/\(wk.drew.alloc (.cells #[.slice none 0 0,.slice none 0 0,.slice none 0 0,.int .i64 0] 68)).cell? ⟨w1.heap.size+1+1,0,none⟩=some (.slice (some ⟨g,0,none⟩) L.length c)/\(wk.drew.alloc (.cells #[.slice none 0 0,.slice none 0 0,.slice none 0 0,.int .i64 0] 68)).cell? ⟨g,k,none⟩=some (.int .i64 (j:Int))/\(wk.drew.alloc (.cells #[.slice none 0 0,.slice none 0 0,.slice none 0 0,.int .i64 0] 68)).cell? (ad.add (j * 4))=some (.slice A0 o.pre.length c0)/\(wk.drew.alloc (.cells #[.slice none 0 0,.slice none 0 0,.slice none 0 0,.int .i64 0] 68)).cell? ⟨(ad.add (j * 4)).block,(ad.add (j * 4)).off+1,none⟩=some (.slice A1 o.add.length c1)/\(wk.drew.alloc (.cells #[.slice none 0 0,.slice none 0 0,.slice none 0 0,.int .i64 0] 68)).cell? ⟨(ad.add (j * 4)).block,(ad.add (j * 4)).off+2,none⟩=some (.slice A2 o.del.length c2)/\(wk.drew.alloc (.cells #[.slice none 0 0,.slice none 0 0,.slice none 0 0,.int .i64 0] 68)).cell? ⟨(ad.add (j * 4)).block,(ad.add (j * 4)).off+3,none⟩=some (.int .i64 o.cost):=⟨kz hbt3,kz hlc,kz hxc,kz hc0,kz hc1,kz hc2,kz hc3⟩;refine hK.out _ _ hSS ?_;clear hK K
    try simp only[ap]
    refine xJd (i:=9) (by kernel_rfl) rfl (by kernel_rfl) (fun K hK=>?_);go_simp
    go_wp2_with fail
    refine hK.out _ _ ?_;clear hK K
    try simp only[ap]
    refine xJ8 (by kernel_rfl) ?_ _
    go_wp2_with fail
    refine (xQz _ _ _ _ (HS.out.below bch) hls HSO _ _ _ (hm.pre.below bch) hlp).mono ?_;rintro e w4 ⟨he,hB4⟩;rw[HR.out] at he;subst he;have D4:=xJ3 w hB4 bch;have Ewk_4:=xJ3 wk hB4 bch;have C4:=Cls.below (l:=[(w.heap.size,0,.int .i64 t.facts),(w.heap.size,1,.slice Ai t.init.length ci),(w.heap.size,2,.slice Ag t.goal.length cg),(w.heap.size,3,.slice (some ad) t.ops.length co),(w1.heap.size+1,0,.slice (some ⟨w1.heap.size,0,none⟩) t.ops.length t.ops.length),(wk.heap.size,0,.slice A0 o.pre.length c0),(wk.heap.size,1,.slice A1 o.add.length c1),(wk.heap.size,2,.slice A2 o.del.length c2),(wk.heap.size,3,.int .i64 o.cost)]) hB4 (by simp[Cls,go_sem,Fr,yrw0,yrw11]);have F4:=C4;simp only[Cls,and_true] at F4;have y4w0:w.heap.size < w4.heap.size:=C4.blk (b:=w.heap.size) (k:=0) (v:=.int .i64 t.facts) (by simp);have y4w11:w1.heap.size+1 < w4.heap.size:=C4.blk (b:=w1.heap.size+1) (k:=0) (v:=.slice (some ⟨w1.heap.size,0,none⟩) t.ops.length t.ops.length) (by simp);have y4wk0:wk.heap.size < w4.heap.size:=C4.blk (b:=wk.heap.size) (k:=0) (v:=.slice A0 o.pre.length c0) (by simp)
    go_wp2_with fail
    go_at_call 110;refine (xWf _ _ _).mono ?_;rintro e w5 ⟨rfl,hB5,hA5⟩;have D5:=xJ3 w hB5 bch;have Ewk_5:=xJ3 wk hB5 bch;have C5:=Cls.below (l:=[(w.heap.size,0,.int .i64 t.facts),(w.heap.size,1,.slice Ai t.init.length ci),(w.heap.size,2,.slice Ag t.goal.length cg),(w.heap.size,3,.slice (some ad) t.ops.length co),(w1.heap.size+1,0,.slice (some ⟨w1.heap.size,0,none⟩) t.ops.length t.ops.length)]) hB5 (by simp[Cls,go_sem,F4,y4w0,y4w11,y4wk0]);have F5:=C5;simp only[Cls,and_true] at F5;have y5w0:w.heap.size < w5.heap.size:=C5.blk (b:=w.heap.size) (k:=0) (v:=.int .i64 t.facts) (by simp);have y5w11:w1.heap.size+1 < w5.heap.size:=C5.blk (b:=w1.heap.size+1) (k:=0) (v:=.slice (some ⟨w1.heap.size,0,none⟩) t.ops.length t.ops.length) (by simp);have hA6:w5.cell? ⟨w4.heap.size,0,none⟩=some (.int .i64 r):=by
     have h:=hA5.cell 0;simpa using h
    go_wp2_with fail
    have hlB:Arr w5 (w1.heap.size+1+1) 22 [.slice (some ⟨g,0,none⟩) L.length c]:=hl.below Ewk_5;have hMB:BArr w5 (w1.heap.size) M:=hM.below Ewk_5;have hOB:OwnI (w1.heap.size+1+1+1) w5 (.slice (some ⟨g,0,none⟩) L.length c) L:=hO.below Ewk_5;have hszk:=Ewk_5.size;refine (xK9 _ w t (some ad) co HT.out.ops bch hn40 t.ops.length w.heap.size (w1.heap.size+1) (w1.heap.size+1+1) (w1.heap.size) (w1.heap.size+1+1+1) (by simp[go_sem,F5,y5w0,y5w11]) (by simp[go_sem,F5,y5w0,y5w11]) (.slice (some ⟨g,0,none⟩) L.length c) M L hlB hMB hOB HK (by omega) (by omega) (by omega) (by omega) w4.heap.size r hA6 (by rintro (h | h | h) <;> first | omega | (have:=(hO.lt _ h).2;omega))).mono ?_;rintro e w6 ⟨rfl,v6,M6,Z6,hl6,hM6,hO6,HK6,hQ6,hKp6,hV6⟩;have D6:Below w.heap.size w w6:=D5.trans (hKp6.toBelow (by rintro k (h | h | h) <;> first | omega | (have:=(hOB.lt _ h).1;omega)) D5.size);have C6:Cls w6 [(w.heap.size,0,.int .i64 t.facts),(w.heap.size,1,.slice Ai t.init.length ci),(w.heap.size,2,.slice Ag t.goal.length cg),(w.heap.size,3,.slice (some ad) t.ops.length co),(w1.heap.size+1,0,.slice (some ⟨w1.heap.size,0,none⟩) t.ops.length t.ops.length)]:=Cls.kept (by simp[Cls,go_sem,F5,y5w0,y5w11]) hKp6 (fun x hx=>by (have hx1:x.1=w.heap.size\/x.1=w1.heap.size+1:=by (simp at hx;rcases hx with rfl | rfl | rfl | rfl | rfl <;> simp));rintro (h | h | h) <;> first | omega | (have:=(hOB.lt _ h).1;omega));have F6:=C6;simp only[Cls,and_true] at F6;have y6w0:w.heap.size < w6.heap.size:=C6.blk (b:=w.heap.size) (k:=0) (v:=.int .i64 t.facts) (by simp);have y6w11:w1.heap.size+1 < w6.heap.size:=C6.blk (b:=w1.heap.size+1) (k:=0) (v:=.slice (some ⟨w1.heap.size,0,none⟩) t.ops.length t.ops.length) (by simp);have HQ:=lHd hQ6;have HK2:=lHd HK6;clear hQ6 HK6;have HS2:Hid (StepC t.ops st (L ++ Z6) (j:Int)):=fun o2 ho2=>by
     rw[Int.toNat_natCast,ho.out] at ho2;obtain rfl:=Option.some.inj ho2;exact Or.inl ⟨r,HR1.out,HR2.out,fun i o2 hi ha=>HQ.out i (List.getElem?_eq_some_iff.1 hi).1 (by show decide (r∈(opN t.ops i).add)=true;rw[xV6 hi];exact decide_eq_true ha)⟩
    have HD2:=lHd (HD.out.next hx.out HS2.out);have HG2:=lHd (HG.out.more (Z:=Z6));go_wp2
    go_roundw
    case rel=>exact⟨k+1,by go_num,_,L ++ Z6,M6,by (rw[List.length_append];omega),hl6,hM6,hO6,HK2,HG2,HD2,bch,(by simp[Cls,go_sem,F6,y6w0,y6w11])⟩
    case measure=>simp[intOf];omega
  ·obtain rfl:k=L.length:=by omega
   have HST2:=lHd (HD.out.stub HP1.out HP2.out HG.out);have HMG:=lHd hM;clear hIL hAn hO HG HD hfew hM
   go_wp2_with fail
   go_loopw [13,63] (fun vo i wr=>∃ k:Nat,k<=t.ops.length/\i=.int .i64 (k:Int)/\∃ out:List Int,OwnI wk.heap.size wr vo out/\Hid (OutC t.ops st M k out)/\Below wk.heap.size wk wr/\Below w.heap.size w wr/\Cls wr [(w.heap.size,0,.int .i64 t.facts),(w.heap.size,1,.slice Ai t.init.length ci),(w.heap.size,2,.slice Ag t.goal.length cg),(w.heap.size,3,.slice Ao t.ops.length co),(w1.heap.size+1,0,.slice (some ⟨w1.heap.size,0,none⟩) t.ops.length t.ops.length)]) (fun _ i _=>t.ops.length - (intOf i).toNat)
   case atStart=>exact⟨0,Nat.zero_le _,rfl,[],OwnI.nil _ _,OutC.nil _ _ _,bch,bch,(by simp[Cls,go_sem,Fr,yrw0,yrw11])⟩
   case round=>
    obtain⟨k,hk,rfl,out,hout,HC,hBk,hBs,hCs⟩:=hrel;obtain⟨wj,rfl⟩:∃ wo:World,wo=wr:=⟨_,rfl⟩;have hbks:=hBk.size;have Fs:=hCs;simp only[Cls,and_true] at Fs;have ysw0:w.heap.size < wj.heap.size:=hCs.blk (b:=w.heap.size) (k:=0) (v:=.int .i64 t.facts) (by simp);have ysw11:w1.heap.size+1 < wj.heap.size:=hCs.blk (b:=w1.heap.size+1) (k:=0) (v:=.slice (some ⟨w1.heap.size,0,none⟩) t.ops.length t.ops.length) (by simp);have hol:=HC.out.len
    by_cases hlt:k < t.ops.length
    ·obtain⟨x,hx,hxc,-⟩:=(HMG.out.below hBk).cell (i:=k) (by rw[HK.out.len];exact hlt);have HTJ:=lHd (HT.out.below bch);have hSJ:=lHd (HS.out.below bch)
     cases x with
     | false=>
      have HC2:=lHd (HC.out.no (fun h=>by rw[hx.out] at h;cases h));go_wp2
      go_roundw
      case rel=>exact⟨k+1,by omega,by go_num,out,hout,HC2,bch,bch,(by simp[Cls,go_sem,Fs,ysw0,ysw11])⟩
      case measure=>simp[intOf];omega
     | true=>
      by_cases hc:xWo t.ops st (k:Int)
      ·have HC2:=lHd (HC.out.yes hc);have HCV:=lHd hc;clear hc
       go_wp2_with fail
       refine (xVw _ t Ai Ag Ao ci cg co (HTJ.out.below bch) S cs st (hSJ.out.below bch) HST.out HV.out k hlt true ⟨fun _=>rfl,fun _=>HCV.out⟩).mono ?_;rintro e w7 ⟨rfl,hB7⟩;have D7:=xJ3 w hB7 bch;have Ewk_7:=xJ3 wk hB7 bch;have Ewj_7:=xJ3 wj hB7 bch;have C7:=Cls.below (l:=[(w.heap.size,0,.int .i64 t.facts),(w.heap.size,1,.slice Ai t.init.length ci),(w.heap.size,2,.slice Ag t.goal.length cg),(w.heap.size,3,.slice Ao t.ops.length co),(w1.heap.size+1,0,.slice (some ⟨w1.heap.size,0,none⟩) t.ops.length t.ops.length)]) hB7 (by simp[Cls,go_sem,Fs,ysw0,ysw11]);have F7:=C7;simp only[Cls,and_true] at F7;have y7w0:w.heap.size < w7.heap.size:=C7.blk (b:=w.heap.size) (k:=0) (v:=.int .i64 t.facts) (by simp);have y7w11:w1.heap.size+1 < w7.heap.size:=C7.blk (b:=w1.heap.size+1) (k:=0) (v:=.slice (some ⟨w1.heap.size,0,none⟩) t.ops.length t.ops.length) (by simp);have hout7:=hout.below bch;have hk7:=Ewk_7.size
       go_wp2_with (at_builtin;go_must (refine xXl rfl (.tmp 75) (.tmp 77) rfl wk [(w.heap.size,0,.int .i64 t.facts),(w.heap.size,1,.slice Ai t.init.length ci),(w.heap.size,2,.slice Ag t.goal.length cg),(w.heap.size,3,.slice Ao t.ops.length co),(w1.heap.size+1,0,.slice (some ⟨w1.heap.size,0,none⟩) t.ops.length t.ops.length)] (wk.heap.size) u13 _ ((k:Int)) rfl (OwnI.below hout7 ?p1) ⟨w7.heap.size,0,none⟩ 1 rfl ?p2 (by omega) ?p3 ?p4 ?p5 ?p6 ?p7 ?_;(case p1=>exact bch);(case p2=>simp[Cls,go_sem,F7,y7w0,y7w11]);(case p3=>(first | omega | (simp <;> omega)));(case p4=>(first | omega | (simp <;> omega)));(case p5=>exact bch);(case p6=>simp[Cls,go_sem,F7,y7w0,y7w11]);(case p7=>(simp <;> omega));intro v8 w8 o8 D8 C8 sz8;have d8s:=D8.size;have F8:=C8;simp only[Cls,and_true] at F8;have y8w0:w.heap.size < w8.heap.size:=C8.blk (b:=w.heap.size) (k:=0) (v:=.int .i64 t.facts) (by simp);have y8wp1:w.heap.size < w8.heap.size+1:=(by omega);have y8wp2:w.heap.size < w8.heap.size+1+1:=(by omega);have y8w11:w1.heap.size+1 < w8.heap.size:=C8.blk (b:=w1.heap.size+1) (k:=0) (v:=.slice (some ⟨w1.heap.size,0,none⟩) t.ops.length t.ops.length) (by simp);have y8w10:w1.heap.size < w8.heap.size:=(by omega);have y8w1p1:w1.heap.size < w8.heap.size+1:=(by omega);have y8w1p2:w1.heap.size < w8.heap.size+1+1:=(by omega)))
       have D9:Below w.heap.size w w8:=hBr.trans (D8.mono hBr.size)
       go_roundw
       case rel=>exact⟨k+1,by omega,by go_num,_,o8,HC2,bch,bch,(by simp[Cls,go_sem,F8,y8w0,y8wp1,y8wp2,y8w11,y8w10,y8w1p1,y8w1p2])⟩
       case measure=>simp[intOf];omega
      ·have HCV:=lHd hc;have HC2:=lHd (HC.out.no (fun _=>hc));clear hc
       go_wp2_with fail
       refine (xVw _ t Ai Ag Ao ci cg co (HTJ.out.below bch) S cs st (hSJ.out.below bch) HST.out HV.out k hlt false ⟨fun h=>absurd h HCV.out,fun h=>by cases h⟩).mono ?_;rintro e w7 ⟨rfl,hB7⟩;have D7:=xJ3 w hB7 bch;have Ewk_7:=xJ3 wk hB7 bch;have Ewj_7:=xJ3 wj hB7 bch;have C7:=Cls.below (l:=[(w.heap.size,0,.int .i64 t.facts),(w.heap.size,1,.slice Ai t.init.length ci),(w.heap.size,2,.slice Ag t.goal.length cg),(w.heap.size,3,.slice Ao t.ops.length co),(w1.heap.size+1,0,.slice (some ⟨w1.heap.size,0,none⟩) t.ops.length t.ops.length)]) hB7 (by simp[Cls,go_sem,Fs,ysw0,ysw11]);have F7:=C7;simp only[Cls,and_true] at F7;have y7w0:w.heap.size < w7.heap.size:=C7.blk (b:=w.heap.size) (k:=0) (v:=.int .i64 t.facts) (by simp);have y7w11:w1.heap.size+1 < w7.heap.size:=C7.blk (b:=w1.heap.size+1) (k:=0) (v:=.slice (some ⟨w1.heap.size,0,none⟩) t.ops.length t.ops.length) (by simp);have hout7:=hout.below bch;go_wp2
       go_roundw
       case rel=>exact⟨k+1,by omega,by go_num,out,hout7,HC2,hBk.trans (Ewj_7.mono hbks),bch,(by simp[Cls,go_sem,F7,y7w0,y7w11])⟩
       case measure=>simp[intOf];omega
    ·obtain rfl:k=t.ops.length:=by omega
     go_wp2;go_ret;refine⟨hBs,_,out,rfl,hout.mono (by omega),by omega,_,HST2.out,HC.out.snd,fun k o hk ho hp=>HC.out.all k o (List.getElem?_eq_some_iff.1 ho).1 ((HK.out.mem k).2 hk) ho hp⟩
end Go.Proofs.YtpeipeljmapkmaaGreat
