/-
  Lemmas.
-/
import Derived.Shelf.Sort.Plain
import Derived.Shelf.Slices.CompactI
import Derived.Shelf.Slices.In.SortNone
import Derived.Sort.OwnSortedInts
import Derived.Test.YtjjjeohejhmpoaaGreatX5
import Derived.Test.YtjjjeohejhmpoaaGreatX20
set_option linter.unusedVariables false
set_option linter.unusedSimpArgs false
set_option maxRecDepth 100000
set_option maxHeartbeats 4000000
namespace Go.Proofs.YtjjjeohejhmpoaaGreat
open Go.RowKit Go.Proofs.Tryz
section
open Go.Shelf Go.Sort
def xWt(l:List Int):List Int:=l.mergeSort fun x y=>decide (x<=y)
theorem zWi{l:List Int}{x:Int}:x∈xWt l↔x∈l:=by unfold xWt;exact List.mem_mergeSort
theorem xKz(l:List Int):(xWt l).length=l.length:=by unfold xWt;exact List.length_mergeSort _
theorem zY2(l:List Int):(xWt l).Pairwise (· <= ·):=by
 have h:=List.pairwise_mergeSort (le:=fun x y:Int=>decide (x<=y)) (fun a b c h1 h2=>by simp at *;omega) (fun a b=>by simp;omega) l;unfold xWt;exact h.imp (fun h=>by simpa using h)
theorem yXi{l:List Int}(h:l.Pairwise (· <= ·)):∀m,m<=l.length->(Lib.compactUpTo l.toArray m).Pairwise (· < ·)/\(∀x,x∈Lib.compactUpTo l.toArray m↔x∈l.take m):=by
 intro m
 induction m with
 |zero=>intro _;exact⟨by simp[Lib.compactUpTo],by simp[Lib.compactUpTo]⟩
 |succ m ih=>
  intro hm;obtain⟨h1,h2⟩:=ih (by omega);have hlt:m<l.length:=by omega
  have hg:l.toArray[m]! = l[m]:=by rw[getElem!_pos _ m (by simpa using hlt)];simp
  have ht:l.take (m+1)=l.take m ++ [l[m]]:=by rw[vXd,lGe hlt];rfl
  rw[Lib.compactUpTo_succ,ht]
  by_cases hk:Lib.keeps l.toArray m=true
  ·rw[if_pos hk,hg];refine⟨?_,fun x=>by rw[vJn,vJn,h2]⟩;rw[List.pairwise_append];refine⟨h1,by simp,fun a ha b hb=>?_⟩;rw[yY9.1 hb];have ha':=(h2 a).1 ha;obtain⟨i,hi,rfl⟩:=List.getElem_of_mem ha';rw[List.length_take] at hi;rw[List.getElem_take];have hle:=fun i j hi hj hij=>List.pairwise_iff_getElem.1 h i j hi hj hij
   unfold Lib.keeps at hk;simp only[decide_eq_true_eq] at hk;rcases hk with hk|hk
   ·omega
   ·rw[hg,getElem!_pos _ (m-1) (by simp;omega)] at hk;have hk':l[m]≠l[m-1]:=by simpa using hk
    have h3:=hle (m-1) m (by omega) hlt (by omega);rcases vVq i (m-1) with h5|h5
    ·have h4:=hle i (m-1) (by omega) (by omega) h5;omega
    ·have h6:i=m-1:=by omega
     subst h6;omega
  ·rw[if_neg hk,List.append_nil];refine⟨h1,fun x=>?_⟩;rw[h2,vJn,yY9];constructor
   ·exact .inl
   ·rintro(hx|rfl)
    ·exact hx
    ·unfold Lib.keeps at hk;simp only[decide_eq_true_eq,not_or,Classical.not_not] at hk;obtain⟨hk0,hk⟩:=hk;rw[hg,getElem!_pos _ (m-1) (by simp;omega)] at hk;have hk':l[m]=l[m-1]:=by simpa using hk
     rw[hk'];refine lMg (i:=m-1) ?_;rw[List.getElem?_take_of_lt (by omega),lGe (by omega)]
theorem xWu{l:List Int}(h:l.Pairwise (· <= ·)):(Lib.compact l).Pairwise (· < ·)/\∀x,x∈Lib.compact l↔x∈l:=by
 obtain⟨h1,h2⟩:=yXi h l.length (Nat.le_refl _);unfold Lib.compact;exact⟨h1,fun x=>by rw[h2,zQd (Nat.le_refl _)]⟩
theorem zZ3(l:List Int):(Lib.compact l).length<=l.length:=by
 unfold Lib.compact Lib.compactUpTo;rw[zQl];exact yJ1 (List.length_filter_le _ _) (by simp)
theorem zWj{w:World}{base g n cap:Nat}{xs:List Int}(h:OwnI base w (.slice (some ⟨g,0,none⟩) n cap) xs):Holds (Value.int .i64) w g 0 xs.toArray/\g<w.heap.size/\base<=g/\n=xs.length/\n<=cap/\cap<=maxLen/\∃cur e,w.heap[g]? = some (.cells cur e (0,0)):=by
 unfold OwnI at h;obtain⟨h1,h2⟩:=h;rcases h2 with⟨h2,h4⟩|⟨g',cap',cur,hv,hb,hg,hn,hc,hs,ht⟩
 ·cases h2
 ·injection hv with e1 e2 e3
  injection e1 with e1
  injection e1 with e1
  subst e1;subst e3;subst e2;have hlt:g<w.heap.size:=by
   rcases vVq g w.heap.size with hl|hl
   ·exact hl
   ·rw[yYd hl] at hg;cases hg
  refine⟨holds_of_blockI hg (by simpa using ht),hlt,hb,by simp,by simpa using hn,hc,cur,_,hg⟩
theorem yWr{w:World}{base g n cap k:Nat}{xs:List Int}(h:OwnI base w (.slice (some ⟨g,0,none⟩) n cap) xs)(hk:k<=xs.length):OwnI base w (.slice (some ⟨g,0,none⟩) k cap) (xs.take k):=by
 unfold OwnI at h ⊢;obtain⟨h1,h2⟩:=h;rcases h2 with⟨h2,h4⟩|⟨g',cap',cur,hv,hb,hg,hn,hc,hs,ht⟩
 ·cases h2
 ·injection hv with e1 e2 e3
  injection e1 with e1
  injection e1 with e1
  subst e1;subst e3;subst e2;have hl:(xs.take k).length=k:=by rw[List.length_take];omega
  refine⟨by rw[zQl,Nat.mul_one],.inr ⟨g,cap,cur,by rw[hl],hb,hg,by omega,hc,hs,?_⟩⟩;rw[Nat.mul_one] at ht ⊢;rw[hl,List.map_take,<- ht,List.take_take];congr 1;omega
theorem yXj{w:World}{base g n cap m:Nat}{xs ts:List Int}{os:Array Obj}(h:OwnI base w (.slice (some ⟨g,0,none⟩) n cap) xs)(hl:ts.length=xs.length) :
  OwnI base (grow (putRow (Value.int .i64) (Sort.ahead w m) g 0 ts.toArray) os) (.slice (some ⟨g,0,none⟩) n cap) ts/\w.grownBy (grow (putRow (Value.int .i64) (Sort.ahead w m) g 0 ts.toArray) os) (some g):=by
 unfold OwnI at h ⊢;obtain⟨h1,h2⟩:=h;rcases h2 with⟨h2,h4⟩|⟨g',cap',cur,hv,hb,hg,hn,hc,hs,ht⟩
 ·cases h2
 ·injection hv with e1 e2 e3
  injection e1 with e1
  injection e1 with e1
  subst e1;subst e3;subst e2;have h5:=ownsRow_sortedI (w:=w) (base:=base) (os:=os) (n:=m) (cur:=cur) hl hb hg hn hc hs;exact⟨by rw[hl];exact h5,grownBy_sortedI _⟩
theorem yY7{w:World}{base g n cap m:Nat}{xs ts:List Int}(h:OwnI base w (.slice (some ⟨g,0,none⟩) n cap) xs)(hl:ts.length=xs.length) :
  OwnI base (putRow (Value.int .i64) (Sort.ahead w m) g 0 ts.toArray) (.slice (some ⟨g,0,none⟩) n cap) ts/\w.grownBy (putRow (Value.int .i64) (Sort.ahead w m) g 0 ts.toArray) (some g):=by
 have:=yXj (os:=#[]) (m:=m) h hl
 rwa [grow_empty] at this
section
variable {P:Program}{ρ ρ':Ren}
theorem vQ1(Ly:Lays.n189 P ρ){w0 w:World}{base:Nat}{v:Value}{xs:List Int}(h:OwnI base w v xs)(h0:w0.heap.size<=base)(hB:Below w0.heap.size w0 w)(hl:xs.length<=1000000000000) :
  Calls P (ρ.f 189) #[v] w fun e w'=>e=.returned (.tuple #[])/\OwnI base w' v (xWt xs)/\Below w0.heap.size w0 w':=by
 obtain⟨A,c,rfl,-⟩:=h.form
 cases A with
 |none=>
  have hx:xs=[]:=by
   cases xs with
   |nil=>rfl
   |cons x xs=>
    unfold OwnI at h;rcases h.2 with⟨h2,h4⟩|⟨g',cap',cur,hv,_⟩
    ·simp at h4
    ·cases hv
  subst hx;refine(Any.slices_Sort_int_none Ly none c w).mono ?_;rintro e w' ⟨rfl,rfl⟩;exact⟨rfl,by unfold xWt;simpa using h,hB⟩
 |some ad=>
  have hf:∃g,ad=⟨g,0,none⟩:=by
   unfold OwnI at h;rcases h.2 with⟨h2,h4⟩|⟨g',cap',cur,hv,_⟩
   ·cases h2
   ·injection hv with e1 e2 e3
    injection e1 with e1
    exact⟨g',e1⟩
  obtain⟨g,rfl⟩:=hf;obtain⟨hH,hlt,hb,hn,hnc,hcm,_⟩:=zWj h;refine(Any.slices_Sort_int Ly g 0 c xs w hH hlt (by omega)).mono ?_;rintro e w' ⟨rfl,m,os,rfl⟩;obtain⟨h5,h6⟩:=yXj (m:=m) (os:=os) (ts:=xWt xs) h (xKz xs);exact⟨rfl,h5,hB.grown h6 (by have:=hB.size;omega) (fun k hk=>by injection hk with hk;omega)⟩
theorem zZ4(Ly:Lays2.n20 P ρ){w0 w:World}{base:Nat}{v:Value}{xs:List Int}(h:OwnI base w v xs)(h0:w0.heap.size<=base)(hB:Below w0.heap.size w0 w)(hl:xs.length<=1000000000000) :
  Calls P (ρ.f 20) #[v] w fun e w'=>∃v',e=.returned v'/\OwnI base w' v' (Lib.compact xs)/\Below w0.heap.size w0 w':=by
 obtain⟨A,c,rfl,-⟩:=h.form
 cases A with
 |none=>
  have hx:xs=[]:=by
   cases xs with
   |nil=>rfl
   |cons x xs=>
    unfold OwnI at h;rcases h.2 with⟨h2,h4⟩|⟨g',cap',cur,hv,_⟩
    ·simp at h4
    ·cases hv
  subst hx;refine(Any.slices_Compact_int_empty Ly none c w).mono ?_;rintro e w' ⟨rfl,rfl⟩;exact⟨_,rfl,by simpa[Lib.compact,Lib.compactUpTo] using h,hB⟩
 |some ad=>
  have hf:∃g,ad=⟨g,0,none⟩:=by
   unfold OwnI at h;rcases h.2 with⟨h2,h4⟩|⟨g',cap',cur,hv,_⟩
   ·cases h2
   ·injection hv with e1 e2 e3
    injection e1 with e1
    exact⟨g',e1⟩
  obtain⟨g,rfl⟩:=hf;obtain⟨hH,hlt,hb,hn,hnc,hcm,_⟩:=zWj h;refine(Any.slices_Compact_int Ly g 0 c xs w hH (by omega) (by omega)).mono ?_;rintro e w' ⟨rfl,m,rfl⟩;have hcl:=zZ3 xs;obtain⟨h5,h6⟩:=yY7 (m:=m) (ts:=Lib.compact xs++List.replicate (xs.length-(Lib.compact xs).length) 0) h (by simp;omega);refine⟨_,rfl,?_,hB.grown h6 (by have:=hB.size;omega) (fun k hk=>by injection hk with hk;omega)⟩;have h7:=yWr (k:=(Lib.compact xs).length) h5 (by simp)
  rwa [List.take_left] at h7
end
open Go.Shelf
def zY3:Go.Shelf.Ren:=⟨fun|0=>0|1=>1|2=>2|107=>67|108=>122|125=>92|128=>146|129=>147|189=>43|215=>93|216=>95|257=>94|294=>148|295=>149|296=>150|297=>151|298=>152|299=>153|300=>154|301=>155|328=>184|329=>180|330=>181|331=>185|332=>186|343=>201|347=>204|348=>205|349=>206|350=>207|351=>208|352=>209|353=>210|354=>211|355=>212|356=>213|357=>214|358=>215|359=>216|360=>218|361=>219|366=>225|n=>n,fun|0=>0|1=>1|2=>2|3=>3|4=>4|5=>5|6=>6|7=>7|8=>8|9=>9|10=>10|11=>11|12=>12|13=>13|14=>14|15=>15|16=>16|17=>17|18=>18|19=>19|20=>20|21=>21|28=>22|29=>48|30=>193|34=>57|35=>95|36=>86|43=>92|46=>158|47=>157|51=>77|52=>93|53=>223|54=>222|80=>268|81=>144|111=>108|112=>160|127=>277|131=>90|134=>159|164=>282|181=>224|182=>216|183=>217|184=>225|185=>226|186=>227|187=>228|218=>246|219=>247|220=>248|221=>252|222=>250|223=>253|228=>263|229=>264|230=>266|238=>269|239=>270|240=>271|241=>272|242=>273|243=>274|244=>275|245=>276|246=>278|247=>279|248=>280|249=>281|n=>n,fun n=>n⟩
theorem zWk:Go.Proofs.Lays.n189 prog zY3:={
 mixed:=by kernel_rfl,
 f125:=func92.trans (congrArg some (by kernel_rfl)),
 f128:=func146.trans (congrArg some (by kernel_rfl)),
 f129:=func147.trans (congrArg some (by kernel_rfl)),
 f189:=func43.trans (congrArg some (by kernel_rfl)),
 f215:=func93.trans (congrArg some (by kernel_rfl)),
 f216:=func95.trans (congrArg some (by kernel_rfl)),
 f257:=func94.trans (congrArg some (by kernel_rfl)),
 f294:=func148.trans (congrArg some (by kernel_rfl)),
 f295:=func149.trans (congrArg some (by kernel_rfl)),
 f296:=func150.trans (congrArg some (by kernel_rfl)),
 f297:=func151.trans (congrArg some (by kernel_rfl)),
 f298:=func152.trans (congrArg some (by kernel_rfl)),
 f299:=func153.trans (congrArg some (by kernel_rfl)),
 f300:=func154.trans (congrArg some (by kernel_rfl)),
 f301:=func155.trans (congrArg some (by kernel_rfl)),
 f328:=func184.trans (congrArg some (by kernel_rfl)),
 f329:=func180.trans (congrArg some (by kernel_rfl)),
 f330:=func181.trans (congrArg some (by kernel_rfl)),
 f331:=func185.trans (congrArg some (by kernel_rfl)),
 f332:=func186.trans (congrArg some (by kernel_rfl)),
 f343:=func201.trans (congrArg some (by kernel_rfl)),
 t0:=underlying0,
 a0:=isAgg0,
 z0:=sizeOf0,
 v0:=zeroValue0,
 t3:=underlying3,
 a3:=isAgg3,
 z3:=sizeOf3,
 v3:=zeroValue3,
 t4:=underlying4,
 a4:=isAgg4,
 z4:=sizeOf4,
 v4:=zeroValue4,
 t5:=underlying5,
 a5:=isAgg5,
 z5:=sizeOf5,
 v5:=zeroValue5,
 t9:=underlying9,
 a9:=isAgg9,
 z9:=sizeOf9,
 v9:=zeroValue9,
 t28:=underlying22,
 a28:=isAgg22,
 z28:=sizeOf22,
 v28:=zeroValue22,
 t46:=underlying158,
 a46:=isAgg158,
 z46:=sizeOf158,
 v46:=zeroValue158,
 t51:=underlying77,
 a51:=isAgg77,
 z51:=sizeOf77,
 v51:=zeroValue77,
 t53:=underlying223,
 a53:=isAgg223,
 z53:=sizeOf223,
 v53:=zeroValue223,
 t131:=underlying90,
 a131:=isAgg90,
 z131:=sizeOf90,
 v131:=zeroValue90,
 t182:=underlying216,
 a182:=isAgg216,
 z182:=sizeOf216,
 v182:=zeroValue216,
 t183:=underlying217,
 a183:=isAgg217,
 z183:=sizeOf217,
 v183:=zeroValue217,
 t218:=underlying246,
 a218:=isAgg246,
 z218:=sizeOf246,
 v218:=zeroValue246,
 t222:=underlying250,
 a222:=isAgg250,
 z222:=sizeOf250,
 v222:=zeroValue250,
 t228:=underlying263,
 a228:=isAgg263,
 z228:=sizeOf263,
 v228:=zeroValue263,
 t229:=underlying264,
 a229:=isAgg264,
 z229:=sizeOf264,
 v229:=zeroValue264 }
def zJh:Go.Shelf.Ren:=⟨fun|0=>0|1=>1|2=>2|15=>70|20=>44|25=>45|31=>95|32=>96|37=>93|40=>204|41=>205|42=>206|43=>207|44=>208|45=>209|46=>210|47=>211|48=>212|49=>213|50=>214|51=>215|52=>216|53=>218|54=>219|55=>225|n=>n,fun|0=>0|1=>1|2=>2|3=>3|4=>4|5=>5|6=>6|7=>7|8=>8|9=>9|10=>10|11=>11|12=>12|13=>13|14=>14|15=>15|16=>16|17=>17|18=>18|19=>19|20=>20|21=>21|22=>22|23=>96|33=>90|34=>97|36=>57|40=>158|41=>160|42=>108|45=>95|46=>268|47=>269|48=>270|49=>271|50=>272|51=>273|52=>144|53=>77|54=>274|55=>275|56=>276|57=>277|58=>278|59=>279|60=>280|61=>281|62=>282|n=>n,fun n=>n⟩
theorem zJd:Go.Proofs.Lays2.n20 prog zJh:={
 mixed:=by kernel_rfl,
 f20:=func44.trans (congrArg some (by kernel_rfl)),
 t0:=underlying0,
 a0:=isAgg0,
 z0:=sizeOf0,
 v0:=zeroValue0,
 t3:=underlying3,
 a3:=isAgg3,
 z3:=sizeOf3,
 v3:=zeroValue3,
 t4:=underlying4,
 a4:=isAgg4,
 z4:=sizeOf4,
 v4:=zeroValue4,
 t22:=underlying22,
 a22:=isAgg22,
 z22:=sizeOf22,
 v22:=zeroValue22,
 i3:=by kernel_rfl }
theorem zWl{l:List Int}(h:l.Pairwise (· < ·)){i j:Nat}{x y:Int}(hi:l[i]? = some x)(hj:l[j]? = some y)(hij:i<j):x<y:=by
 obtain⟨a1,rfl⟩:=zQ1.1 hi;obtain⟨a2,rfl⟩:=zQ1.1 hj;exact List.pairwise_iff_getElem.1 h i j a1 a2 hij
theorem zY4(A B:Option Addr)(c d:Nat)(s part:List Int)(w:World)(hI:Ints w A s)(hJ:Ints w B part)(hl:s.length<=9223372036854775807)(hm:part.length<=9223372036854775807)(hs:s.Pairwise (· < ·))(hp:part.Pairwise (· < ·)) :
  Calls prog 89 #[.slice A s.length c,.slice B part.length d] w fun e w'=>e=.returned (.bool (decide (∀q∈part,q∈s)))/\w=w':=by
 have HS:=lHd hs;have HP:=lHd hp;clear hs hp;go_enter func89,ntmps89;go_wp2
 go_loop [5,10] (fun a b=>∃j k:Nat,j<=s.length/\k<=part.length/\a=.int .i64 j/\b=.int .i64 k/\Hid (∀q∈part.take k,q∈s)/\Hid (∀i:Nat,∀y z:Int,i<j->s[i]? = some y->∀k':Nat,k<=k'->part[k']? = some z->y<z)) (fun a b=>part.length-(intOf b).toNat)
 case atStart=>exact⟨0,0,by omega,by omega,rfl,rfl,lHd (by simp),lHd (fun i y z h=>absurd h (by omega))⟩
 case round=>
  obtain⟨j,k,hj,hk,rfl,rfl,H1,H2⟩:=hrel
  by_cases hlt:k<part.length
  ·obtain⟨bd,x,rfl,hx,hc⟩:=hJ.at_ hlt;have HIN:=lHd (lMg hx.out);go_wp2
   go_loop [5] (fun a=>∃i:Nat,i<=s.length/\a=.int .i64 i/\Hid (∀i':Nat,∀y:Int,i'<i->s[i']? = some y->y<x)) (fun a=>s.length-(intOf a).toNat)
   case atStart=>exact⟨j,hj,rfl,lHd (fun i' y h hy=>H2.out i' y x h hy k (Nat.le_refl _) hx.out)⟩
   case round=>
    obtain⟨i,hi,rfl,H3⟩:=hrel
    by_cases hil:i<s.length
    ·obtain⟨ad,y,rfl,hy,hcy⟩:=hI.at_ hil
     by_cases hyx:y<x
     ·go_wp2
      go_round
      case rel=>exact⟨i+1,by omega,by go_num,lHd (fun i' z h hz=>by
       by_cases e:i'=i
       ·subst e;rw[hy.out] at hz;injection hz with hz;omega
       ·exact H3.out i' z (by omega) hz)⟩
      case measure=>simp[intOf];omega
     ·by_cases he:y=x
      ·subst he;have HY:=lHd (lMg hy.out);have HT:Hid (∀q∈part.take (k+1),q∈s):=lHd (fun q hq=>by
        rw[vXd,hx.out] at hq;rcases vJn.1 hq with h|h
        ·exact H1.out q h
        ·have h':q=y:=by simpa using h
         rw[h'];exact HY.out)
       have HN:Hid (∀i':Nat,∀u z:Int,i'<i->s[i']? = some u->∀k':Nat,k+1<=k'->part[k']? = some z->u<z):=lHd (fun i' u z h hu k' hk' hz=>by
        have h1:=H3.out i' u h hu;have h2:=zWl HP.out hx.out hz (by omega);omega)
       go_wp2
       go_round
       case rel=>exact⟨i,k+1,by omega,by omega,rfl,by go_num,HT,HN⟩
       case measure=>simp[intOf];omega
      ·have HN:Hid (¬ ∀q∈part,q∈s):=lHd (fun h=>by
        obtain⟨m,hm⟩:=List.mem_iff_getElem?.1 (h x HIN.out);rcases vVq m i with h1|h1
        ·have:=H3.out m x h1 hm;omega
        ·rcases vVq i m with h2|h2
         ·have:=zWl HS.out hy.out hm h2;omega
         ·have e:m=i:=by omega
          subst e;rw[hy.out] at hm;injection hm with hm
          exact he hm)
       have hne:(y !=x)=true:=by simpa using he
       go_wp2;go_ret;exact⟨xX0 (zVa HN.out).symm,rfl⟩
    ·have HN:Hid (¬ ∀q∈part,q∈s):=lHd (fun h=>by
      obtain⟨m,hm⟩:=List.mem_iff_getElem?.1 (h x HIN.out);have:=H3.out m x (by have:=(zQ1.1 hm).1;omega) hm;omega)
     obtain rfl:i=s.length:=by omega
     go_wp2;go_ret;exact⟨xX0 (zVa HN.out).symm,rfl⟩
  ·have HT:Hid (∀q∈part,q∈s):=lHd (by
    have:=H1.out
    rwa [zQd (by omega)] at this)
   go_wp2;go_ret;exact⟨xX0 (zWo HT.out).symm,rfl⟩
def zQ9(s add del:List Int):List Int:=Go.Lib.compact (xWt (s.filter (fun x=>!decide (x∈del))++add))
theorem zJs{s add del:List Int}{x:Int}:x∈zQ9 s add del↔x∈add\/(x∈s/\x∉del):=by
 unfold zQ9;rw[(xWu (zY2 _)).2,zWi,vJn,List.mem_filter];simp only[Bool.not_eq_true',decide_eq_false_iff_not];exact or_comm
theorem uQ0(s add del:List Int):(zQ9 s add del).Pairwise (· < ·):=(xWu (zY2 _)).1
theorem zY5{del l:List Int}{k:Nat}{x:Int}(hx:l[k]? = some x)(h:decide (x∈del)=true):(l.take (k+1)).filter (fun x=>!decide (x∈del))=(l.take k).filter (fun x=>!decide (x∈del)):=by
 rw[vXd,hx,List.filter_append];simp[of_decide_eq_true h]
theorem zWm{del l:List Int}{k:Nat}{x:Int}(hx:l[k]? = some x)(h:decide (x∈del)=false):(l.take k).filter (fun x=>!decide (x∈del)) ++ [x]=(l.take (k+1)).filter (fun x=>!decide (x∈del)):=by
 rw[vXd,hx,List.filter_append];simp[of_decide_eq_false h]
theorem uXb(B:Option Addr)(d:Nat)(ys:List Int)(x:Int)(w:World)(v:Bool)(hv:decide (x∈ys)=v)(hJ:Ints w B ys)(hl:ys.length<=1000000000000)(hs:ys.Pairwise (· < ·)) :
  Calls prog 45 #[.slice B ys.length d,.int .i64 x] w fun e w'=>∃k:Nat,e=.returned (.tuple #[.int .i64 k,.bool v])/\Below w.heap.size w w':=
 (vJr B d ys x w hJ hl hs).mono fun e w' h=>by
  obtain⟨k,h1,_,_,_,h2⟩:=h;exact⟨k,by rw[<- hv];exact h1,h2⟩
theorem vYp(w:World)(S A1 A2:Option Addr)(c c1 c2:Nat)(s add del:List Int)(hS:Ints w S s)(hA:Ints w A1 add)(hD:Ints w A2 del)(hls:s.length<=100000000000)(hla:add.length<=100000000000)(hld:del.length<=100000000000)(hsd:del.Pairwise (· < ·))(hnil:A1=none->c1=0) :
  Calls prog 174 #[.slice S s.length c,.slice A1 add.length c1,.slice A2 del.length c2] w fun e w'=>∃v,e=.returned v/\OwnI w.heap.size w' v (zQ9 s add del)/\Below w.heap.size w w':=by
 have HS:=lHd hsd;clear hsd;go_enter func174,ntmps174
 go_wp2_with fail
 go_loopw [7,14] (fun v i wr=>∃k:Nat,k<=s.length/\i=.int .i64 k/\OwnI (w.heap.size) wr v ((s.take k).filter (fun x=>!decide (x∈del)))/\Below w.heap.size w wr) (fun _ i _=>s.length-(intOf i).toNat)
 case atStart=>exact⟨0,zKk _,rfl,OwnI.nil _ _,Below.refl _ _⟩
 case round=>
  obtain⟨k,hk,rfl,hown,hBr⟩:=hrel;obtain⟨w2,rfl⟩:∃wo:World,wo=wr:=⟨_,rfl⟩;have dRs:=hBr.size;have hlf:((s.take k).filter (fun x=>!decide (x∈del))).length<=s.length:=by
   have h1:=List.length_filter_le (fun x=>!decide (x∈del)) (s.take k);rw[List.length_take] at h1;omega
  have HLF:=lHd hlf;clear hlf;have hlen:((s.take k).filter (fun x=>!decide (x∈del))).length<1000000000000:=by have:=HLF.out;omega
  by_cases hlt:k<s.length
  ·obtain⟨ad,x,rfl,hx,hcx⟩:=(hS.below hBr).at_ hlt
   cases hd:decide (x∈del) with
   |true=>
    have HD:=lHd hd;have HF:=lHd (zY5 hx.out hd);clear hd
    go_wp2_with fail
    refine(uXb _ _ _ _ _ true HD.out (hD.below bch) (by omega) HS.out).mono ?_;rintro e w1 ⟨kf,rfl,hB1⟩;have D1:=xJ3 w hB1 bch;have d1s:=D1.size;have Ew2_1:=xJ3 w2 hB1 bch;go_wp2
    go_roundw
    case rel=>exact⟨k+1,by omega,by go_num,by rw[HF.out];exact hown.below bch,bch⟩
    case measure=>simp[intOf];omega
   |false=>
    have HD:=lHd hd;have HF:=lHd (zWm hx.out hd);clear hd
    go_wp2_with fail
    refine(uXb _ _ _ _ _ false HD.out (hD.below bch) (by omega) HS.out).mono ?_;rintro e w1 ⟨kf,rfl,hB1⟩;have D1:=xJ3 w hB1 bch;have d1s:=D1.size;have Ew2_1:=xJ3 w2 hB1 bch;have hown1:=hown.below bch
    go_wp2_with (at_builtin;go_must (refine xXr rfl (.tmp 26) (.tmp 28) rfl w [] (w.heap.size) u7 _ (x) rfl (OwnI.below hown1 ?p1) ⟨w1.heap.size,0,none⟩ 1 rfl ?p2 hlen ?p3 ?p4 ?p5 ?p6 ?p7 ?_;(case p1=>exact bch);(case p2=>simp[go_sem]);(case p3=>(first|omega|(simp<;>omega)));(case p4=>(first|omega|(simp<;>omega)));(case p5=>exact bch);(case p6=>simp[Cls,go_sem]);(case p7=>(simp<;>omega));intro v2 w2 o2 D2 C2 sz2;have d2s:=D2.size))
    go_roundw
    case rel=>exact⟨k+1,by omega,by go_num,by rw[<- HF.out];exact o2,bch⟩
    case measure=>simp[intOf];omega
  ·obtain rfl:k=s.length:=by omega
   have HTK:=lHd (yQ7 (l:=s));have hlen2:((s.take s.length).filter (fun x=>!decide (x∈del))).length+add.length<=1000000000000:=by have:=HLF.out;omega
   go_wp2_with (at_builtin;go_must (refine zZx rfl (.tmp 31) (.tmp 32) rfl w [] (w.heap.size) u7 _ rfl (hown.below ?p0) A1 c1 _ add rfl rfl hnil ?p1 hlen2 ?p3 ?p4 ?p5 trivial ?p6 ?_;(case p0=>exact bch);(case p1=>exact hA.below bch);(case p3=>(first|omega|(simp<;>omega)));(case p4=>(first|omega|(simp<;>omega)));(case p5=>exact bch);(case p6=>simp);intro v4 w4 o4 D4 C4 sz4;have d4s:=D4.size))
   have hl4:((s.take s.length).filter (fun x=>!decide (x∈del))++add).length<=1000000000000:=by rw[List.length_append];exact hlen2
   go_wp2_with fail
   refine(vQ1 zWk (w0:=w) (base:=w.heap.size) (o4.below bch) (Nat.le_refl _) bch hl4).mono ?_;rintro e w5 ⟨rfl,o5,D5⟩
   go_wp2_with fail
   refine(zZ4 zJd (w0:=w) (base:=w.heap.size) (o5.below bch) (Nat.le_refl _) bch (by rw[xKz];exact hl4)).mono ?_;rintro e w6 ⟨v6,rfl,o6,D6⟩;go_wp2;go_ret;exact⟨_,rfl,by unfold zQ9;rw[HTK.out] at o6;exact o6,D6⟩
end
theorem OpsRead.below{w w':World}{A:Option Addr}{ops:List OpV}(h:OpsRead w A ops)(hb:Below w.heap.size w w'):OpsRead w' A ops:=fun k o hk=>by
 obtain⟨ad,A0,c0,A1,c1,A2,c2,e,h0,h1,h2,h3,hm,hr⟩:=h k o hk;exact⟨ad,A0,c0,A1,c1,A2,c2,e,(hb.cell (zQ2 w _ h0)).trans h0,(hb.cell (zQ2 w _ h1)).trans h1,(hb.cell (zQ2 w _ h2)).trans h2,(hb.cell (zQ2 w _ h3)).trans h3,hm.below hb,hr⟩
theorem vJ3(A B:Option Addr)(c d:Nat)(s part:List Int)(w:World)(v:Bool)(hI:Ints w A s)(hJ:Ints w B part)(hl:s.length<=9223372036854775807)(hm:part.length<=9223372036854775807)(hs:s.Pairwise (· < ·))(hp:part.Pairwise (· < ·))(hv:(∀q∈part,q∈s)↔v=true) :
  Calls prog 89 #[.slice A s.length c,.slice B part.length d] w fun e w'=>e=.returned (.bool v)/\w=w':=
 (zY4 A B c d s part w hI hJ hl hm hs hp).mono fun e w' h=>⟨by
  rw[h.1]
  cases v with
  |true=>rw[zWo (hv.2 rfl)]
  |false=>rw[zVa (fun h=>by have:=hv.1 h;cases this)],h.2⟩
def Sep(u v:Value):Prop:=∀k,u.ownBlock=some k->v.ownBlock≠some k
theorem Sep.symm{u v:Value}(h:Sep u v):Sep v u:=fun k h1 h2=>h k h2 h1
theorem yWk(v:Value):Sep (.slice none 0 0) v:=fun k h=>by cases h
theorem Sep.next{u v v':Value}{K:Nat}(h:Sep u v)(hv:v'.ownBlock=v.ownBlock\/v'.ownBlock=some K)(hu:∀k,u.ownBlock=some k->k<K):Sep u v':=fun k h1 h2=>by
 rcases hv with e|e
 ·exact h k h1 (by rw[<- e];exact h2)
 ·rw[e] at h2;injection h2 with h2;have:=hu k h1;omega
theorem zXr{base:Nat}{w w':World}{v u:Value}{xs:List Int}(h:OwnI base w v xs)(hg:w.grownBy w' u.ownBlock)(hne:Sep u v):OwnI base w' v xs:=by
 obtain⟨h1,h2⟩:=h;refine⟨h1,?_⟩;rcases h2 with h2|⟨g,cap,cur,hv,hb,hh,r⟩
 ·exact Or.inl h2
 ·refine Or.inr ⟨g,cap,cur,hv,hb,(hg.block g ?_ (fun e=>hne g e.symm (by rw[hv];rfl))).trans hh,r⟩;rcases vVq g w.heap.size with hl|hl
  ·exact hl
  ·rw[yYd hl] at hh;cases hh
theorem zZl{ops:Array Oper}{rest:List Oper}{o:Oper}{a:Act}{w:World}{Q:Exit->Act->World->Prop}(hgd:o.guard=none)(s x:Operand)
  (ho:o.op=.call { callee:=.builtin .append,args:=#[s,x],argTypes:=#[22,22] })
  (w0:World) (l:List (Nat×Nat×Value)) (base:Nat) (v:Value) (xs:List Int) (y:Int) (hs:a.eval s=v) (hown:OwnI base w v xs) (ad:Addr) (m:Nat) (hx:a.eval x=.slice (some ad) 1 m) (hc:w.cell? ad=some (.int .i64 y))
  (hlen:xs.length<1000000000000) (hbase:base<=w.heap.size) (h0:w0.heap.size<=base) (hB:Below w0.heap.size w0 w) (hC:Cls w l) (hl:∀x∈l,x.1<base)
  (h:∀v' w',OwnI base w' v' (xs ++ [y])->Below w0.heap.size w0 w'->Cls w' l->w.heap.size<=w'.heap.size->w.grownBy w' v.ownBlock->(v'.ownBlock=v.ownBlock\/v'.ownBlock=some w.heap.size)->wpList prog ops Q rest (a.put o.dst v') w'):wpList prog ops Q (o::rest) a w:=by
 obtain⟨i0,hi0,hz⟩:=vYt.1 xZd;simp only[Prod.mk.injEq] at hz;have hown':w.ownsRow base 3 1 v xs.length (xs.map (Value.int .i64)):=hown;refine wpList_append_own_at w hgd s x 22 ho base 3 i0 (.int .i64 0) 1 8 underlying22 hi0 hz.1 hz.2.1 hz.2.2 rfl (by decide) v xs.length (xs.map (Value.int .i64)) hs hown' ad 1 m [.int .i64 y] hx rfl ?_ ?_ ?_ ?_ hbase ?_
 ·intro j u hu
  cases j with
  |zero=>simp at hu;subst hu;rw[add_zero];exact hc
  |succ j=>simp at hu
 ·intro u hu;simp at hu;subst hu;rfl
 ·simp only[maxLen];omega
 ·omega
 ·intro v' w' h1 h2 _ h4;refine h v' w' ?_ (xQc hB (OwnI.mono hown h0) h2 (yJ1 h0 hbase)) (hC.grown hown' h2 hl) h2.size h2 h4;unfold OwnI;rw[List.length_append,vQu];exact h1
def PWl(u:Option Nat)(w:World)(row:Option Nat)(cs:List Value)(r:List Int):Prop:=∃A c,cs=[.slice A r.length c]/\Ints w A r/\(r≠[]->∀ad,A=some ad->some ad.block≠row/\some ad.block≠u/\ad.block<w.heap.size)
theorem uQa{w:World}{A:Option Addr}{r:List Int}(h:r=[]):Ints w A r:=by subst h;exact Ints.nil _ _
theorem uZj(u:Option Nat):Stable (PWl u):=by
 constructor
 ·rintro w w' row cs r ⟨A,c,e,hI,hn⟩ hb;exact⟨A,c,e,hI.below hb,fun h ad he=>⟨(hn h ad he).1,(hn h ad he).2.1,Nat.lt_of_lt_of_le (hn h ad he).2.2 hb.size⟩⟩
 ·rintro w w' row cs r ⟨A,c,e,hI,hn⟩ hg;have hI':Ints w' A r:=by
   by_cases h:r=[]
   ·exact uQa h
   ·exact Ints.grown hI hg (fun ad he=>(hn h ad he).1)
  refine⟨⟨A,c,e,hI',fun h ad he=>⟨(hn h ad he).1,(hn h ad he).2.1,Nat.lt_of_lt_of_le (hn h ad he).2.2 hg.size⟩⟩,⟨A,c,e,hI',fun h ad he=>⟨fun hc=>?_,(hn h ad he).2.1,Nat.lt_of_lt_of_le (hn h ad he).2.2 hg.size⟩⟩⟩;injection hc with hc
  have:=(hn h ad he).2.2;omega
def OwnW(u:Option Nat)(base:Nat)(w:World)(v:Value)(ls:List (List Int)):Prop:=OwnEs (PWl u) 22 1 base w v ls
theorem OwnW.below{u:Option Nat}{base:Nat}{w w':World}{v:Value}{ls:List (List Int)}(h:OwnW u base w v ls)(hb:Below w.heap.size w w'):OwnW u base w' v ls:=OwnEs.below (uZj u) h hb
def LLR(w:World)(A:Option Addr)(ls:List (List Int)):Prop:=∀(i:Nat) (r:List Int),ls[i]? = some r->∃ad B c,A=some ad/\w.cell? (ad.add i)=some (.slice B r.length c)/\Ints w B r
theorem LLR.below{w w':World}{A:Option Addr}{ls:List (List Int)}(h:LLR w A ls)(hb:Below w.heap.size w w'):LLR w' A ls:=fun i r hr=>by
 obtain⟨ad,B,c,e,h1,h2⟩:=h i r hr;exact⟨ad,B,c,e,(hb.cell (zQ2 w _ h1)).trans h1,h2.below hb⟩
theorem LLR.at_{w:World}{A:Option Addr}{ls:List (List Int)}{k:Nat}(h:LLR w A ls)(hk:k<ls.length):∃ad r B c,A=some ad/\Hid (ls[k]? = some r)/\w.cell? (ad.add k)=some (.slice B r.length c)/\Ints w B r:=by
 obtain⟨ad,B,c,e,h1,h2⟩:=h k _ (lGe hk);exact⟨ad,_,B,c,e,lHd (lGe hk),h1,h2⟩
inductive Rch(n:Nat)(ops:List OpV)(s:List Int):List Int->Prop
 |init:Rch n ops s s
 |step {r:List Int} {op:Nat}:Rch n ops s r->op<ops.length->yXc ops r (op:Int)->Rch n ops s (xJb n r (yYz ops (op:Int)))
structure RSt(n:Nat)(ops:List OpV)(st:List Int)(ls:List (List Int))(k p:Nat):Prop where
 head:ls[0]? = some st
 set:∀l∈ls,SetP l (n:Int)
 rch:∀l∈ls,Rch n ops st l
 nodup:ls.Nodup
 done:∀(j q:Nat) (l:List Int),(j<k\/(j=k/\q<p))->q<ops.length->ls[j]? = some l->yXc ops l (q:Int)->xJb n l (yYz ops (q:Int))∈ls
section
variable {n:Nat}{ops:List OpV}{st:List Int}{ls:List (List Int)}{k p:Nat}
theorem RSt.start(h:SetP st (n:Int)):RSt n ops st [st] 0 0:=⟨rfl,fun l hl=>by rw[yY9.1 hl];exact h,fun l hl=>by rw[yY9.1 hl];exact .init,by simp,fun j q l h=>by omega⟩
theorem RSt.skip(h:RSt n ops st ls k p){r:List Int}(hr:ls[k]? = some r)(hc:yXc ops r (p:Int)->xJb n r (yYz ops (p:Int))∈ls):RSt n ops st ls k (p+1):=
 ⟨h.head,h.set,h.rch,h.nodup,fun j q l hjq hq hl hcan=>by
  by_cases e:j=k/\q=p
  ·obtain⟨rfl,rfl⟩:=e;rw[hr] at hl;injection hl with hl
   subst hl;exact hc hcan
  ·exact h.done j q l (by omega) hq hl hcan⟩
theorem RSt.add(h:RSt n ops st ls k p){r:List Int}(hr:ls[k]? = some r)(hp:p<ops.length)(hc:yXc ops r (p:Int))(hn:xJb n r (yYz ops (p:Int))∉ls):RSt n ops st (ls ++ [xJb n r (yYz ops (p:Int))]) k (p+1):=by
 have hk:=(zQ1.1 hr).1;refine⟨?_,fun l hl=>?_,fun l hl=>?_,?_,fun j q l hjq hq hl hcan=>?_⟩
 ·rw[yJ0 (by omega)];exact h.head
 ·rcases vJn.1 hl with e|e
  ·exact h.set l e
  ·rw[yY9.1 e];exact xJz n r _
 ·rcases vJn.1 hl with e|e
  ·exact h.rch l e
  ·rw[yY9.1 e];exact .step (h.rch r (lMg hr)) hp hc
 ·rw[List.nodup_append];exact⟨h.nodup,by simp,fun a ha b hb=>by rw[yY9.1 hb];intro e;exact hn (e ▸ ha)⟩
 ·rw[yJ0 (by omega)] at hl
  by_cases e:j=k/\q=p
  ·obtain⟨rfl,rfl⟩:=e;rw[hr] at hl;injection hl with hl
   subst hl;exact List.mem_append_right _ (yY9.2 rfl)
  ·exact List.mem_append_left _ (h.done j q l (by omega) hq hl hcan)
theorem RSt.row(h:RSt n ops st ls k p)(hp:ops.length<=p):RSt n ops st ls (k+1) 0:=⟨h.head,h.set,h.rch,h.nodup,fun j q l hjq hq hl hc=>h.done j q l (by omega) hq hl hc⟩
end
inductive Cst(n:Nat)(ops:List OpV)(st:List Int):List Int->Int->Prop
 |init:Cst n ops st st 0
 |step {l:List Int} {c:Int} {p:Nat} {o:OpV}:Cst n ops st l c->ops[p]? = some o->(∀q∈o.pre,q∈l)->Cst n ops st (xJb n l o) (c+o.cost)
def RBest(n:Nat)(ops:List OpV)(goal st:List Int)(d:Int):Prop:=
 (d=1000000000\/∃l,Cst n ops st l d/\∀q∈goal,q∈l)/\d<=1000000000/\∀l c,Cst n ops st l c->(∀q∈goal,q∈l)->d<=c
theorem Cst.rch{n:Nat}{ops:List OpV}{st l:List Int}{c:Int}(h:Cst n ops st l c):Rch n ops st l:=by
 induction h with
 |init=>exact .init
 | @step l c p o _ hp hc ih=>
  have:=Rch.step (op:=p) ih (zQ1.1 hp).1 ⟨o,by simpa using hp,hc⟩
  rwa [vX7 (o:=o) (by simpa using hp)] at this
theorem Cst.nn{n:Nat}{ops:List OpV}{st l:List Int}{c:Int}(hc:∀o∈ops,0<=o.cost)(h:Cst n ops st l c):0<=c:=by
 induction h with
 |init=>exact Int.le_refl _
 |step _ hp _ ih=>have:=hc _ (lMg hp);omega
def vW0(n:Nat)(ops:List OpV)(ls:List (List Int)):Prop:=∀(i j:Nat) (l:List Int) (p:Nat) (o:OpV),ls[i]? = some l->ops[p]? = some o->(∀q∈o.pre,q∈l)->ls[j]? = some (xJb n l o)->i<=j
structure DPI(n:Nat)(ops:List OpV)(goal st:List Int)(ls:List (List Int))(k p g:Nat)(f:List Int->Int)(b:Int):Prop where
 real:∀l∈ls,f l=1000000000\/Cst n ops st l (f l)
 rng:∀l∈ls,0<=f l/\f l<=1000000000
 start:f st=0
 done:∀(j q:Nat) (l:List Int) (o:OpV),(j<k\/(j=k/\q<p))->ops[q]? = some o->ls[j]? = some l->(∀x∈o.pre,x∈l)->f (xJb n l o)<=f l+o.cost
 low:∀(j:Nat) (l:List Int),j<g->ls[j]? = some l->(∀q∈goal,q∈l)->b<=f l
 breal:b=1000000000\/∃l,Cst n ops st l b/\∀q∈goal,q∈l
 brng:0<=b/\b<=1000000000
section
variable {n:Nat}{ops:List OpV}{goal st:List Int}{ls:List (List Int)}{k p g:Nat}{f:List Int->Int}{b:Int}
theorem DPI.init(hf:∀l∈ls,f l=if l=st then 0 else 1000000000)(hst:f st=0):DPI n ops goal st ls 0 0 0 f 1000000000:=by
 refine⟨fun l hl=>?_,fun l hl=>?_,hst,fun j q l o h=>by omega,fun j l h=>by omega,.inl rfl,by omega⟩
 ·by_cases e:l=st
  ·rw[e,hst];exact .inr .init
  ·rw[hf l hl,if_neg e];exact .inl rfl
 ·rw[hf l hl];split<;>omega
theorem DPI.goal_yes(h:DPI n ops goal st ls k 0 k f b){l:List Int}(hl:ls[k]? = some l)(hg:∀q∈goal,q∈l):DPI n ops goal st ls k 0 (k+1) f (min b (f l)):=by
 have hm:=lMg hl;refine⟨h.real,h.rng,h.start,h.done,fun j l' hj hl' hg'=>?_,?_,?_⟩
 ·by_cases e:j=k
  ·rw[e,hl] at hl';injection hl' with hl';subst hl';exact Int.min_le_right _ _
  ·have:=h.low j l' (by omega) hl' hg';omega
 ·rcases Int.le_total b (f l) with e|e
  ·rw[Int.min_eq_left e];exact h.breal
  ·rw[Int.min_eq_right e];rcases h.real l hm with e2|e2
   ·exact .inl e2
   ·exact .inr ⟨l,e2,hg⟩
 ·have:=h.rng l hm;have:=h.brng;omega
theorem DPI.goal_no(h:DPI n ops goal st ls k 0 k f b){l:List Int}(hl:ls[k]? = some l)(hg:¬ ∀q∈goal,q∈l):DPI n ops goal st ls k 0 (k+1) f b:=
 ⟨h.real,h.rng,h.start,h.done,fun j l' hj hl' hg'=>by
  by_cases e:j=k
  ·rw[e,hl] at hl';injection hl' with hl';subst hl';exact absurd hg' hg
  ·exact h.low j l' (by omega) hl' hg',h.breal,h.brng⟩
theorem DPI.skip(h:DPI n ops goal st ls k p g f b){l:List Int}{o:OpV}(hl:ls[k]? = some l)(ho:ops[p]? = some o)(hc:¬ ∀x∈o.pre,x∈l):DPI n ops goal st ls k (p+1) g f b:=
 ⟨h.real,h.rng,h.start,fun j q l' o' hjq ho' hl' hc'=>by
  by_cases e:j=k/\q=p
  ·obtain⟨rfl,rfl⟩:=e;rw[hl] at hl';injection hl' with hl';subst hl'
   rw[ho] at ho';injection ho' with ho';subst ho'
   exact absurd hc' hc
  ·exact h.done j q l' o' (by omega) ho' hl' hc',h.low,h.breal,h.brng⟩
theorem DPI.row(h:DPI n ops goal st ls k p (k+1) f b)(hp:ops.length<=p):DPI n ops goal st ls (k+1) 0 (k+1) f b:=
 ⟨h.real,h.rng,h.start,fun j q l o hjq ho hl hc=>h.done j q l o (by have:=(zQ1.1 ho).1;omega) ho hl hc,h.low,h.breal,h.brng⟩
theorem DPI.use(h:DPI n ops goal st ls k p (k+1) f b)(hOrd:vW0 n ops ls)(hnd:ls.Nodup)(hcost:∀o∈ops,0<=o.cost){l:List Int}{o:OpV}(hl:ls[k]? = some l)(ho:ops[p]? = some o)(hc:∀x∈o.pre,x∈l)(hcl:∀(l:List Int) (p:Nat) (o:OpV),l∈ls->ops[p]? = some o->(∀q∈o.pre,q∈l)->xJb n l o∈ls){f':List Int->Int}
  (hf1:f' (xJb n l o)=min (f (xJb n l o)) (f l+o.cost)) (hf2:∀r∈ls,r≠xJb n l o->f' r=f r) (hst:st∈ls):DPI n ops goal st ls k (p+1) (k+1) f' b:=by
 have hm:=lMg hl;have hin:=hcl l p o hm ho hc;have hco:=hcost o (lMg ho);have hrl:=h.rng l hm;have hrn:=h.rng _ hin;have hle:∀r∈ls,f' r<=f r:=fun r hr=>by
  by_cases e:r=xJb n l o
  ·rw[e,hf1];omega
  ·rw[hf2 r hr e];exact Int.le_refl _
 obtain⟨jn,hjn⟩:=List.getElem?_of_mem hin;have hkj:=hOrd k jn l p o hl ho hc hjn;have hsame:∀(j:Nat) (r:List Int),j<=k->ls[j]? = some r->f' r=f r:=fun j r hj hr=>by
  by_cases e:r=xJb n l o
  ·have hjj:j=jn:=by
    have h1:=(List.getElem?_inj (i:=j) (j:=jn) (zQ1.1 hr).1 hnd).1 (by rw[hr,hjn,e]);exact h1
   have hjk:j=k:=by omega
   subst hjk;rw[hl] at hr;injection hr with hr
   subst hr;rw[<- e] at hf1;rw[hf1];omega
  ·exact hf2 r (lMg hr) e
 refine⟨fun r hr=>?_,fun r hr=>?_,?_,fun j q l' o' hjq ho' hl' hc'=>?_,fun j l' hj hl' hg'=>?_,h.breal,h.brng⟩
 ·by_cases e:r=xJb n l o
  ·subst e;rw[hf1];rcases Int.le_total (f (xJb n l o)) (f l+o.cost) with e2|e2
   ·rw[Int.min_eq_left e2];exact h.real _ hin
   ·rw[Int.min_eq_right e2];rcases h.real l hm with e3|e3
    ·exact .inl (by omega)
    ·exact .inr (.step e3 ho hc)
  ·rw[hf2 r hr e];exact h.real r hr
 ·by_cases e:r=xJb n l o
  ·subst e;rw[hf1];omega
  ·rw[hf2 r hr e];exact h.rng r hr
 ·by_cases e:st=xJb n l o
  ·rw[e,hf1,<- e,h.start];omega
  ·rw[hf2 st hst e];exact h.start
 ·by_cases e:j=k/\q=p
  ·obtain⟨rfl,rfl⟩:=e;rw[hl] at hl';injection hl' with hl';subst hl'
   rw[ho] at ho';injection ho' with ho';subst ho'
   rw[hsame j l (Nat.le_refl _) hl,hf1];omega
  ·rw[hsame j l' (by omega) hl'];have h1:=h.done j q l' o' (by omega) ho' hl' hc'
   by_cases e2:xJb n l' o'=xJb n l o
   ·rw[e2,hf1];rw[e2] at h1;omega
   ·have:=hle _ (hcl l' q o' (lMg hl') ho' hc');omega
 ·rw[hsame j l' (by omega) hl'];exact h.low j l' hj hl' hg'
theorem DPI.best(h:DPI n ops goal st ls ls.length 0 ls.length f b)(hst:st∈ls)(hcl:∀(l:List Int) (p:Nat) (o:OpV),l∈ls->ops[p]? = some o->(∀q∈o.pre,q∈l)->xJb n l o∈ls):RBest n ops goal st b:=by
 have key:∀l c,Cst n ops st l c->l∈ls/\f l<=c:=fun l c hc=>by
  induction hc with
  |init=>exact⟨hst,by rw[h.start];exact Int.le_refl _⟩
  | @step l c p o _ ho hpre ih=>
   obtain⟨j,hj⟩:=List.getElem?_of_mem ih.1;have h1:=h.done j p l o (.inl (zQ1.1 hj).1) ho hj hpre;exact⟨hcl l p o ih.1 ho hpre,by omega⟩
 refine⟨h.breal,h.brng.2,fun l c hc hg=>?_⟩;obtain⟨hl,hle⟩:=key l c hc;obtain⟨j,hj⟩:=List.getElem?_of_mem hl;have:=h.low j l (zQ1.1 hj).1 hj hg;omega
end
theorem RSt.closed{n:Nat}{ops:List OpV}{st:List Int}{ls:List (List Int)}(h:RSt n ops st ls ls.length 0):∀(l:List Int) (p:Nat) (o:OpV),l∈ls->ops[p]? = some o->(∀q∈o.pre,q∈l)->xJb n l o∈ls:=fun l p o hl ho hc=>by
 obtain⟨j,hj⟩:=List.getElem?_of_mem hl;have:=h.done j p l (.inl (zQ1.1 hj).1) (zQ1.1 ho).1 hj ⟨o,by simpa using ho,hc⟩
 rwa [vX7 (o:=o) (by simpa using ho)] at this
theorem vVa{n:Nat}{ops:List OpV}{ls:List (List Int)}(hn:n<=24)(hset:∀l∈ls,SetP l (n:Int))(hnd:ls.Nodup)(hs:∀(i j:Nat) (a b:List Int),i<j->ls[i]? = some a->ls[j]? = some b->xQ4 (xJ0 a)<=xQ4 (xJ0 b)):vW0 n (ops.map rxO) ls:=fun i j l p o hl ho hc hj=>by
 rcases vVq j i with h|h
 ·exfalso;have h1:=hs j i _ _ h hj hl;rw[vQ4] at ho;obtain⟨o',ho',rfl⟩:=vYt.1 ho;have hls:=hset l (lMg hl);have hns:=hset _ (lMg hj);have hsub:∀x∈l,x∈xJb n l (rxO o'):=fun x hx=>xXa.2 ⟨hls.1 x hx,.inr ⟨hx,by simp[rxO]⟩⟩
  by_cases e:l=xJb n l (rxO o')
  ·rw[<- e] at hj;have:=(List.getElem?_inj (i:=j) (j:=i) (zQ1.1 hj).1 hnd).1 (by rw[hj,hl]);omega
  ·have:=yXh hls hns hn hsub e;omega
 ·exact h
structure OwnL(base:Nat)(w:World)(vs:List Value)(xss:List (List Int)):Prop where
 len:vs.length=xss.length
 own:∀(i:Nat) (v:Value) (xs:List Int),vs[i]? = some v->xss[i]? = some xs->OwnI base w v xs
 sep:∀(i j:Nat) (u v:Value),i≠j->vs[i]? = some u->vs[j]? = some v->Sep u v
section
variable {base:Nat}{w w':World}{vs:List Value}{xss:List (List Int)}
theorem OwnL.nil(base:Nat)(w:World):OwnL base w [] []:=⟨rfl,fun i v xs h=>by simp at h,fun i j u v _ h=>by simp at h⟩
theorem OwnL.below(h:OwnL base w vs xss)(hb:Below w.heap.size w w'):OwnL base w' vs xss:=⟨h.len,fun i v xs h1 h2=>(h.own i v xs h1 h2).below hb,h.sep⟩
end
structure HCons(n:Nat)(ops:List OpV)(goal:List Int)(H:List Int->Int):Prop where
 goal:∀l,(∀q∈goal,q∈l)->SetP l (n:Int)->H l<=0
 inf:∀l,SetP l (n:Int)->H l<=1000000000
 step:∀(l:List Int) (p:Nat) (o:OpV),SetP l (n:Int)->ops[p]? = some o->yXc ops l (p:Int)->H (xJb n l o)<1000000000->H l<=H (xJb n l o)+o.cost
def uJw(n:Nat)(ops:List OpV)(ls:List (List Int))(a:Nat×Nat×Int):Prop:=∃(l:List Int) (p:Nat) (o:OpV),ls[a.1]? = some l/\ops[p]? = some o/\yXc ops l (p:Int)/\ls[a.2.1]? = some (xJb n l o)/\a.2.2=o.cost
structure DSt(n:Nat)(ops:List OpV)(goal:List Int)(ls:List (List Int))(D:List Int):Prop where
 len:D.length=ls.length
 all:xV3 D
 zero:∀(i:Nat) (l:List Int),ls[i]? = some l->(∀q∈goal,q∈l)->D[i]? = some 0
 low:∀H,HCons n ops goal H->∀(i:Nat) (l:List Int) (d:Int),ls[i]? = some l->D[i]? = some d->H l<=d
section
variable {n:Nat}{ops:List OpV}{goal:List Int}{ls:List (List Int)}{D:List Int}
theorem DSt.set_(h:DSt n ops goal ls D)(hset:∀l∈ls,SetP l (n:Int))(hops:∀o∈ops,0<=o.cost){a:Nat×Nat×Int}(ha:uJw n ops ls a){x y:Int}(hx:D[a.1]? = some x)(hy:D[a.2.1]? = some y)(hy2:y<1000000000)(hlt:y+a.2.2<x):DSt n ops goal ls (D.set a.1 (y+a.2.2)):=by
 obtain⟨l,p,o,h1,h2,h3,h4,h5⟩:=ha;have hil:=(zQ1.1 hx).1;have hyV:=h.all y (lMg hy);have hxV:=h.all x (lMg hx);have hc:=hops o (lMg h2);unfold InV at hyV hxV;refine⟨by rw[List.length_set];exact h.len,vZw h.all _ (by unfold InV;omega),fun i l' hl' hg=>?_,fun H hH i l' d hl' hd=>?_⟩
 ·rw[List.getElem?_set_ne (fun e=>by
   subst e;have:=h.zero a.1 l' hl' hg;rw[hx] at this;injection this with this
   omega)]
  exact h.zero i l' hl' hg
 ·by_cases e:a.1=i
  ·subst e;rw[List.getElem?_set_self hil] at hd;injection hd with hd
   rw[h1] at hl';injection hl' with hl'
   subst hl';have k1:=h.low H hH a.2.1 _ y h4 hy;have k2:=hH.step l p o (hset l (lMg h1)) h2 h3 (by omega);omega
  ·rw[List.getElem?_set_ne e] at hd;exact h.low H hH i l' d hl' hd
structure ArcsTo(n:Nat)(ops:List OpV)(ls:List (List Int))(A:List (Nat×Nat×Int))(i p k:Nat):Prop where
 sound:∀a∈A,uJw n ops ls a
 all:∀(i' p' k':Nat) (l:List Int) (o:OpV),(i'<i\/i'=i/\(p'<p\/p'=p/\k'<k))->ls[i']? = some l->ops[p']? = some o->yXc ops l (p':Int)->ls[k']? = some (xJb n l o)->(i',k',o.cost)∈A
 len:A.length<=80000*i+2000*p+k
variable {A:List (Nat×Nat×Int)}{i p k:Nat}
theorem ArcsTo.add(h:ArcsTo n ops ls A i p k){l:List Int}{o:OpV}(hl:ls[i]? = some l)(ho:ops[p]? = some o)(hc:yXc ops l (p:Int))(hk:ls[k]? = some (xJb n l o)):ArcsTo n ops ls (A ++ [(i,k,o.cost)]) i p (k+1):=by
 refine⟨fun a ha=>?_,fun i' p' k' l' o' hlt hl' ho' hc' hk'=>?_,by rw[List.length_append];have:=h.len;simp;omega⟩
 ·rcases vJn.1 ha with e|e
  ·exact h.sound a e
  ·rw[yY9.1 e];exact⟨l,p,o,hl,ho,hc,hk,rfl⟩
 ·by_cases e:i'=i/\p'=p/\k'=k
  ·obtain⟨rfl,rfl,rfl⟩:=e;rw[ho] at ho';injection ho' with ho'
   subst ho';exact List.mem_append_right _ (yY9.2 rfl)
  ·exact List.mem_append_left _ (h.all i' p' k' l' o' (by omega) hl' ho' hc' hk')
theorem ArcsTo.none(h:ArcsTo n ops ls A i p 0){l:List Int}(hl:ls[i]? = some l)(hc:¬yXc ops l (p:Int)):ArcsTo n ops ls A i (p+1) 0:=
 ⟨h.sound,fun i' p' k' l' o' hlt hl' ho' hc' hk'=>by
  by_cases e:i'=i/\p'=p
  ·obtain⟨rfl,rfl⟩:=e;rw[hl] at hl';injection hl' with hl'
   subst hl';exact absurd hc' hc
  ·exact h.all i' p' k' l' o' (by omega) hl' ho' hc' hk',by have:=h.len;omega⟩
theorem ArcsTo.row(h:ArcsTo n ops ls A i p 0)(hp:ops.length<=p)(hp2:p<=40):ArcsTo n ops ls A (i+1) 0 0:=
 ⟨h.sound,fun i' p' k' l' o' hlt hl' ho' hc' hk'=>h.all i' p' k' l' o' (by have:=(zQ1.1 ho').1;omega) hl' ho' hc' hk',by have:=h.len;omega⟩
end
theorem yJv{s:Bool}{n:Nat}{st:List Int}{ops:List OpV}{cs:List Int}(hadd:∀o∈ops,∀p∈o.add,0<=p/\p<(n:Int))(hcs:xV3 cs):∀(m:Nat) (V:List Int),xV4 V<=m->Above s n st ops cs V->∃V',Best s n st ops cs V':=by
 intro m
 induction m with
 |zero=>
  intro V hm hV;refine⟨V,zVu hV fun i o c hi ho hc p hp=>?_⟩;refine vXe fun hlt=>?_
  have hpr:=hadd o (lMg ho) p hp;have hin:=vZu (s:=s) hV.shape.all o (hcs c (lMg hc));obtain⟨y,hy⟩:∃y,V[p.toNat]? = some y:=⟨_,lGe (by rw[hV.shape.len];omega)⟩;rw[xJl hy] at hlt;have:=zVv hy hin.1 (by omega:opV s V o c<y);omega
 |succ m ih=>
  intro V hm hV
  by_cases hcl:xZt s ops cs ops.length V
  ·exact⟨V,zVu hV hcl⟩
  ·obtain⟨i,o,c,ho,hc,p,hp,hlt⟩:∃i o c,ops[i]? = some o/\cs[i]? = some c/\∃p∈o.add,¬xJ2 V p<=opV s V o c:=by
    refine vXe fun hn=>hcl fun i o c hi ho hc p hp=>vXe fun h=>hn ⟨i,o,c,ho,hc,p,hp,h⟩
   have hcv:=hcs c (lMg hc);have hpr:=hadd o (lMg ho) p hp;have hin:=vZu (s:=s) hV.shape.all o hcv;obtain⟨y,hy⟩:∃y,V[p.toNat]? = some y:=⟨_,lGe (by rw[hV.shape.len];omega)⟩;rw[xJl hy] at hlt;have h1:=zVv hy hin.1 (by omega:opV s V o c<y);exact ih _ (by omega) (zWb hV (vZx hV ho hc hcv) hp hin hy (by omega))
theorem yJw{s:Bool}{n:Nat}{st:List Int}{ops:List OpV}{cs:List Int}(hst:∀p∈st,0<=p/\p<(n:Int))(hadd:∀o∈ops,∀p∈o.add,0<=p/\p<(n:Int))(hcs:xV3 cs):Best s n st ops cs (xJ8 s n st ops cs):=by
 obtain⟨V,hV⟩:=yJv hadd hcs _ _ (Nat.le_refl _) (zZ0 (s:=s) (ops:=ops) (cs:=cs) hst);exact vX6 hV
section
open Go.Joins Go.ChangeShapes Go.WideShapes Go.RowKit Go.Deep
section
variable {H:Type}{enc:TypeId×Value->H}{w:World}
def RowsRead(w:World)(A:Option Addr)(ls:List (List Int)):Prop:=∀(i:Nat) (r:List Int),ls[i]? = some r->∃ad B c,A=some ad/\w.cell? (ad.add i)=some (.slice B r.length c)/\Ints w B r/\xK4 B r c
theorem RowsRead.llr{A:Option Addr}{ls:List (List Int)}(h:RowsRead w A ls):LLR w A ls:=fun i r hr=>by
 obtain⟨ad,B,c,e,h1,h2,_⟩:=h i r hr;exact⟨ad,B,c,e,h1,h2⟩
end
end
section
open Go.Joins Go.ChangeShapes Go.WideShapes Go.RowKit Go.Deep
def PAny(w:World)(row:Option Nat)(cs:List Value)(r:List Int):Prop:=
 ∃A c,cs=[.slice A r.length c]/\Ints w A r/\xK4 A r c/\(r≠[]->∀ad,A=some ad->some ad.block≠row)
theorem uQn{w:World}{ad:Addr}{r:List Int}(h:Ints w (some ad) r)(hr:r≠[]):ad.block<w.heap.size:=by
 cases r with
 |nil=>exact absurd rfl hr
 |cons x r=>
  obtain⟨ad',e,hc⟩:=h 0 (.int .i64 x) rfl;injection e with e
  subst e;exact zQ2 w _ hc
theorem Ints.grown2{w w':World}{A:Option Addr}{xs:List Int}{row:Option Nat}(h:Ints w A xs)(hg:w.grownBy w' row)(hne:xs≠[]->∀ad,A=some ad->some ad.block≠row):Ints w' A xs:=by
 by_cases e:xs=[]
 ·subst e;exact Ints.nil _ _
 ·exact h.grown hg (hne e)
theorem uZ9:Stable PAny:=by
 constructor
 ·rintro w w' row cs r ⟨A,c,e,hI,hn,ha⟩ hb;exact⟨A,c,e,hI.below hb,hn,ha⟩
 ·rintro w w' row cs r ⟨A,c,e,hI,hn,ha⟩ hg;have hI':=hI.grown2 hg ha;refine⟨⟨A,c,e,hI',hn,ha⟩,⟨A,c,e,hI',hn,fun hr ad h k=>?_⟩⟩;subst h;have:=uQn hI hr;injection k with k
  omega
def OwnLA(base:Nat)(w:World)(v:Value)(rows:List (List Int)):Prop:=OwnEs PAny 22 1 base w v rows
theorem OwnLA.below{base:Nat}{w w':World}{v:Value}{rows:List (List Int)}(h:OwnLA base w v rows)(hb:Below w.heap.size w w'):OwnLA base w' v rows:=OwnEs.below uZ9 h hb
theorem RowsRead.below{w w':World}{A:Option Addr}{ls:List (List Int)}(h:RowsRead w A ls)(hb:Below w.heap.size w w'):RowsRead w' A ls:=fun i r hr=>by
 obtain⟨ad,B,c,e,h1,h2,h3⟩:=h i r hr;exact⟨ad,B,c,e,(hb.cell (zQ2 w _ h1)).trans h1,h2.below hb,h3⟩
theorem RowsRead.nil(w:World)(A:Option Addr):RowsRead w A []:=fun i r h=>by simp at h
theorem RowsRead.cells{w:World}{ad:Addr}{ls:List (List Int)}(h:RowsRead w (some ad) ls):∃cs:List Value,cs.length=ls.length/\(∀j u,cs[j]? = some u->w.cell? (ad.add j)=some u)/\(∀u∈cs,u.oneCell'=true) /\
  ∀(i:Nat) (r:List Int),ls[i]? = some r->∃B c,cs[i]? = some (.slice B r.length c)/\Ints w B r/\xK4 B r c:=by
 have each:∀i:Nat,∃u:Value,∀r,ls[i]? = some r->∃B c,u=.slice B r.length c/\w.cell? (ad.add i)=some u/\Ints w B r/\xK4 B r c:=fun i=>by
  cases hi:ls[i]? with
  |none=>exact⟨default,fun r hr=>by cases hr⟩
  |some r=>
   obtain⟨ad',B,c,e,h1,h2,h3⟩:=h i r hi;injection e with e
   subst e;exact⟨.slice B r.length c,fun r' hr=>by injection hr with hr;subst hr;exact⟨B,c,rfl,h1,h2,h3⟩⟩
 obtain⟨f,hf⟩:=Classical.axiomOfChoice each;have hat:∀(j:Nat) (u:Value),((List.range ls.length).map f)[j]? = some u->∃r,ls[j]? = some r/\u=f j:=fun j u hu=>by
  obtain⟨hj,rfl⟩:=zQ1.1 hu;rw[zQl,List.length_range] at hj;exact⟨ls[j],lGe hj,by simp⟩
 refine⟨(List.range ls.length).map f,by simp,fun j u hu=>?_,fun u hu=>?_,fun i r hr=>?_⟩
 ·obtain⟨r,hr,rfl⟩:=hat j u hu;obtain⟨B,c,e,hc,_⟩:=hf j r hr;exact hc
 ·obtain⟨j,hj⟩:=List.getElem?_of_mem hu;obtain⟨r,hr,rfl⟩:=hat j u hj;obtain⟨B,c,e,hc,_⟩:=hf j r hr;rw[e];rfl
 ·obtain⟨B,c,e,hc,hI,hn⟩:=hf i r hr;have hi:=(zQ1.1 hr).1;exact⟨B,c,by rw[vQ4,List.getElem?_range hi];simp[e],hI,hn⟩
section
variable {H:Type}{enc:TypeId×Value->H}{w:World}
end
end
structure LpV where
 rows:List (List Int)
 bounds:List Int
 obj:List Int
def LpV.lp(p:LpV):LA.LP:=⟨p.rows.length,p.obj.length,fun i j=>(((p.rows[i]?).getD [])[j]?).getD 0,fun i=>(p.bounds[i]?).getD 0,fun j=>(p.obj[j]?).getD 0⟩
def yQe(row:List Int)(b:Int)(n:Nat):Int:=if row.length≠n then 9 else if ¬(-20<=b/\b<=20) then 3 else if ∀a∈row,-4<=a/\a<=4 then 0 else 3
def LpV.rowC(p:LpV)(i:Nat):Int:=yQe ((p.rows[i]?).getD []) ((p.bounds[i]?).getD 0) p.obj.length
def lpF(p:LpV):Int×Int:=
 if 6<p.rows.length\/6<p.obj.length then(2,-1)
 else if p.bounds.length≠p.rows.length then(9,-2)
 else if ¬ ∀c∈p.obj,-20<=c/\c<=20 then(3,-3)
 else match (List.range p.rows.length).find? fun i=>decide (p.rowC i≠0) with
  |none=>(0,0)
  |some i=>(p.rowC i,(i:Int))
structure LpOk(p:LpV):Prop where
 m:p.rows.length<=6
 n:p.obj.length<=6
 b:p.bounds.length=p.rows.length
 c:∀c∈p.obj,-20<=c/\c<=20
 r:∀i,i<p.rows.length->p.rowC i=0
theorem uJg{p:LpV}(h:6<p.rows.length\/6<p.obj.length):lpF p=(2,-1):=by unfold lpF;rw[if_pos h]
theorem lpF_2{p:LpV}(h:¬(6<p.rows.length\/6<p.obj.length))(h2:p.bounds.length≠p.rows.length):lpF p=(9,-2):=by unfold lpF;rw[if_neg h,if_pos h2]
theorem lpF_3{p:LpV}(h:¬(6<p.rows.length\/6<p.obj.length))(h2:p.bounds.length=p.rows.length)(h3:¬ ∀c∈p.obj,-20<=c/\c<=20):lpF p=(3,-3):=by
 unfold lpF;rw[if_neg h,if_neg (fun e=>e h2),if_pos h3]
theorem vVh{n i:Nat}{f:Nat->Bool}(hi:i<n)(h1:f i=true)(h0:∀k,k<i->f k=false):(List.range n).find? f=some i:=by
 rw[List.find?_range_eq_some];exact⟨h1,yYq.2 hi,fun k hk=>by rw[h0 k hk];rfl⟩
theorem lpF_4{p:LpV}(h:¬(6<p.rows.length\/6<p.obj.length))(h2:p.bounds.length=p.rows.length)(h3:∀c∈p.obj,-20<=c/\c<=20){i:Nat}{c:Int}(hi:i<p.rows.length)(hc:p.rowC i=c)(hc0:¬c=0)(h0:∀k,k<i->p.rowC k=0):lpF p=(c,(i:Int)):=by
 unfold lpF;rw[if_neg h,if_neg (fun e=>e h2),if_neg (fun e=>e h3),vVh hi (by rw[hc];exact zWo hc0) fun k hk=>by rw[h0 k hk];rfl];simp only[hc]
theorem vXx{p:LpV}(h:LpOk p):lpF p=(0,0):=by
 unfold lpF;rw[if_neg (by have:=h.m;have:=h.n;omega),if_neg (fun e=>e h.b),if_neg (fun e=>e h.c)];have e:(List.range p.rows.length).find? (fun i=>decide (p.rowC i≠0))=none:=by
  rw[List.find?_eq_none];intro k hk;rw[h.r k (yYq.1 hk)];simp
 rw[e]
theorem yQf{p:LpV}(h:(lpF p).1=0):LpOk p:=by
 unfold lpF at h
 by_cases h1:6<p.rows.length\/6<p.obj.length
 ·rw[if_pos h1] at h;simp at h
 rw[if_neg h1] at h
 by_cases h2:p.bounds.length≠p.rows.length
 ·rw[if_pos h2] at h;simp at h
 rw[if_neg h2] at h
 by_cases h3:¬ ∀c∈p.obj,-20<=c/\c<=20
 ·rw[if_pos h3] at h;simp at h
 rw[if_neg h3] at h;refine⟨by omega,by omega,vXe h2,vXe h3,fun i hi=>?_⟩
 cases e:(List.range p.rows.length).find? (fun i=>decide (p.rowC i≠0)) with
 |none=>
  rw[List.find?_eq_none] at e;have:=e i (yYq.2 hi);simpa using this
 |some k=>
  rw[e] at h;have h4:=List.find?_some e;have h5:=of_decide_eq_true h4;exact absurd h h5
theorem zK2{row:List Int}{b:Int}{n:Nat}(h:yQe row b n=0):row.length=n/\(-20<=b/\b<=20)/\∀a∈row,-4<=a/\a<=4:=by
 unfold yQe at h
 by_cases h1:row.length≠n
 ·rw[if_pos h1] at h;omega
 rw[if_neg h1] at h
 by_cases h2:¬(-20<=b/\b<=20)
 ·rw[if_pos h2] at h;omega
 rw[if_neg h2] at h
 by_cases h3:∀a∈row,-4<=a/\a<=4
 ·exact⟨by omega,by omega,h3⟩
 ·rw[if_neg h3] at h;omega
theorem LpOk.row{p:LpV}(h:LpOk p){i:Nat}{row:List Int}(hr:p.rows[i]? = some row):row.length=p.obj.length/\∀a∈row,-4<=a/\a<=4:=by
 have h1:=h.r i (zQ1.1 hr).1;unfold LpV.rowC at h1;rw[hr] at h1;have h2:=zK2 h1;exact⟨h2.1,h2.2.2⟩
theorem LpOk.bound{p:LpV}(h:LpOk p){i:Nat}{b:Int}(hb:p.bounds[i]? = some b) : -20<=b/\b<=20:=by
 have hi:=(zQ1.1 hb).1;have h1:=h.r i (by rw[<- h.b];exact hi);unfold LpV.rowC at h1;rw[hb] at h1;exact(zK2 h1).2.1
theorem LpOk.lpin{p:LpV}(h:LpOk p):LA.LPIn p.lp:=by
 refine⟨h.m,h.n,fun i hi j hj=>?_,fun i hi=>?_,fun j hj=>?_⟩
 ·have hi':i<p.rows.length:=hi;have hj':j<p.obj.length:=hj;show -4<=(((p.rows[i]?).getD [])[j]?).getD 0/\(((p.rows[i]?).getD [])[j]?).getD 0<=4;rw[lGe hi',Option.getD_some];have hr:=h.row (lGe hi');rw[lGe (by rw[hr.1];exact hj'),Option.getD_some];exact hr.2 _ (List.getElem_mem _)
 ·have hi':i<p.bounds.length:=by rw[h.b];exact hi
  show -20<=(p.bounds[i]?).getD 0/\(p.bounds[i]?).getD 0<=20;rw[lGe hi',Option.getD_some];exact h.bound (lGe hi')
 ·have hj':j<p.obj.length:=hj;show -20<=(p.obj[j]?).getD 0/\(p.obj[j]?).getD 0<=20;rw[lGe hj',Option.getD_some];exact h.c _ (List.getElem_mem _)
structure LpMem(w:World)(AR AB AO:Option Addr)(p:LpV):Prop where
 rows:RowsRead w AR p.rows
 bounds:Ints w AB p.bounds
 obj:Ints w AO p.obj
 nr:p.rows.length<=9223372036854775807
 nb:p.bounds.length<=9223372036854775807
 no:p.obj.length<=9223372036854775807
theorem LpMem.below{w w':World}{AR AB AO:Option Addr}{p:LpV}(h:LpMem w AR AB AO p)(hb:Below w.heap.size w w'):LpMem w' AR AB AO p:=⟨h.rows.below hb,h.bounds.below hb,h.obj.below hb,h.nr,h.nb,h.no⟩
theorem xZj(c d:Int)(w:World) :
  Calls prog 124 #[.int .i64 c,.int .i64 d] w fun e w'=>e=.returned (.agg #[.int .i64 c,.int .i64 d])/\Below w.heap.size w w':=by
 go_enter func124,ntmps124;go_wp2;refine bodyPost_ret ?_ rfl ⟨rfl,(Below.refl _ _).alloc (Nat.le_refl _) _⟩;simp[results,results124,go_sem]
theorem xK5(x k:Int)(w:World)(h0:0<=k)(h1:k<=1000000000)(h : -k<=x/\x<=k) :
  Calls prog 157 #[.int .i64 x,.int .i64 k] w fun e w'=>e=.returned (.bool true)/\w=w':=by
 obtain⟨h2,h3⟩:=h;go_enter func157,ntmps157;go_wp2;go_ret;exact⟨by(first|(simp;done)|(simp;omega)),rfl⟩
theorem xWe(x k:Int)(w:World)(h0:0<=k)(h1:k<=1000000000)(h:¬(-k<=x/\x<=k)) :
  Calls prog 157 #[.int .i64 x,.int .i64 k] w fun e w'=>e=.returned (.bool false)/\w=w':=by
 by_cases h2 : -k<=x
 ·have h3:¬x<=k:=fun e=>h ⟨h2,e⟩
  go_enter func157,ntmps157;go_wp2;go_ret;exact⟨by(first|(simp;done)|(simp;omega)),rfl⟩
 ·go_enter func157,ntmps157;go_wp2;go_ret;exact⟨by(first|(simp;done)|(simp;omega)),rfl⟩
theorem zZi(w:World)(AR AB AO:Option Addr)(cr cb co:Nat)(p:LpV)(hM:LpMem w AR AB AO p)(m n:Nat)(hrl:Hid (p.rows.length=m))(hbl:Hid (p.bounds.length=m))(hol:Hid (p.obj.length=n))(hm6:m<=6)(hn6:n<=6) :
  Calls prog 100 #[.agg #[.slice AR m cr,.slice AB m cb,.slice AO n co]] w fun e w'=>e=.returned (.agg #[.int .i64 (lpF p).1,.int .i64 (lpF p).2])/\Below w.heap.size w w':=by
 have HOB:=lHd hM.obj;have HBO:=lHd hM.bounds;have HRO:=lHd hM.rows.llr;have HNB:=lHd (show ¬(6<p.rows.length\/6<p.obj.length) by have:=hrl.out;have:=hol.out;omega);have HBE:=lHd (show p.bounds.length=p.rows.length by rw[hrl.out,hbl.out]);have hd1:decide ((m:Int)>6)=false:=zVa (by omega);have hd2:decide ((n:Int)>6)=false:=zVa (by omega);clear hM;go_enter func100,ntmps100
 go_wp2_with fail
 go_loopw [33] (fun x wr=>∃k:Nat,k<=n/\x=.int .i64 k/\Hid (∀c∈p.obj.take k,-20<=c/\c<=20)/\Below w.heap.size w wr/\Cls wr [(w.heap.size,0,.slice AR m cr),(w.heap.size,1,.slice AB m cb),(w.heap.size,2,.slice AO n co),(w.heap.size+1,0,.int .i64 0),(w.heap.size+1,1,.int .i64 0)]) (fun x _=>n-(intOf x).toNat)
 case atStart=>exact⟨0,zKk _,rfl,lHd (by simp),bch,(by simp[Cls,go_sem])⟩
 case round=>
  obtain⟨k,hk,rfl,HC,hBr,hCr⟩:=hrel;obtain⟨w1,rfl⟩:∃wo:World,wo=wr:=⟨_,rfl⟩;have Fr:=hCr.f;have yrw1:=hCr.blk (b:=w.heap.size+1) (k:=0) (v:=.int .i64 0) (by simp)
  by_cases hlt:k<n
  ·obtain⟨ad,x,rfl,hx,hxc⟩:=(HOB.out.below hBr).at_ (k:=k) (by rw[hol.out];exact hlt)
   by_cases hin : -20<=x/\x<=20
   ·have HIN:=lHd hin;clear hin
    go_wp2_with fail
    refine(xK5 _ _ _ (by omega) (by omega) HIN.out).mono ?_;rintro e w' ⟨rfl,rfl⟩;go_wp2
    go_roundw
    case rel=>exact⟨k+1,by omega,by go_num,lHd (fun c hc=>by
     rw[vXd,hx.out] at hc;rcases vJn.1 hc with h|h
     ·exact HC.out c h
     ·have:c=x:=by simpa using h
      rw[this];exact HIN.out),bch,(Cls.below (w:=w1) bch hCr)⟩
    case measure=>simp[intOf];omega
   ·have HF:=lHd (lpF_3 HNB.out HBE.out (fun h=>hin (h x (lMg hx.out))));have HIN:=lHd hin;clear hin
    go_wp2_with fail
    refine(xWe _ _ _ (by omega) (by omega) HIN.out).mono ?_;rintro e w' ⟨rfl,rfl⟩
    go_wp2_with fail
    refine(xZj _ _ _).mono ?_;rintro e w1 ⟨rfl,hB1⟩;have D1:=xJ3 w hB1 bch;have C1:=Cls.below (l:=[(w.heap.size,0,.slice AR m cr),(w.heap.size,1,.slice AB m cb),(w.heap.size,2,.slice (some ad) n co),(w.heap.size+1,0,.int .i64 0),(w.heap.size+1,1,.int .i64 0)]) hB1 (by simp[Cls,go_sem,Fr]);have F1:=C1.f;have y1w1:=C1.b 3;go_wp2;refine bodyPost_ret (v:=.agg #[.int .i64 3,.int .i64 (-3)]) ?_ rfl ⟨by rw[HF.out],bch⟩;simp[results,results100,go_sem,F1]
  ·obtain rfl:n=k:=by omega
   have HCO:=lHd (show ∀c∈p.obj,-20<=c/\c<=20 from fun c hc=>HC.out c (by rw[zQd (by rw[hol.out];exact Nat.le_refl _)];exact hc))
   go_wp2_with fail
   go_loopw [45] (fun x wr=>∃i:Nat,i<=m/\x=.int .i64 i/\Hid (∀k,k<i->p.rowC k=0)/\Below w1.heap.size w1 wr/\Cls wr [(w.heap.size,0,.slice AR m cr),(w.heap.size,1,.slice AB m cb),(w.heap.size,2,.slice AO n co),(w.heap.size+1,0,.int .i64 0),(w.heap.size+1,1,.int .i64 0)]) (fun x _=>m-(intOf x).toNat)
   case atStart=>exact⟨0,zKk _,rfl,lHd (fun k hk=>by omega),bch,(by simp[Cls,go_sem,Fr])⟩
   case round=>
    obtain⟨i,hi,rfl,HR,hBs,hCs⟩:=hrel;obtain⟨w2,rfl⟩:∃wo:World,wo=wr:=⟨_,rfl⟩;have Fs:=hCs.f;have ysw1:=hCs.blk (b:=w.heap.size+1) (k:=0) (v:=.int .i64 0) (by simp);have DS:=hBr.trans (hBs.mono hBr.size)
    by_cases hlt:i<m
    ·obtain⟨ad,r,R,cR,rfl,hr,hrc,hI⟩:=(HRO.out.below DS).at_ (k:=i) (by rw[hrl.out];exact hlt);obtain⟨ad2,y,rfl,hy,hyc⟩:=(HBO.out.below DS).at_ (k:=i) (by rw[hbl.out];exact hlt);have HRC:=lHd (show p.rowC i=yQe r y n by unfold LpV.rowC;rw[hr.out,hy.out,hol.out];rfl);have HF4:=lHd (fun c (h1:p.rowC i=c) (h2:¬c=0)=>lpF_4 HNB.out HBE.out HCO.out (i:=i) (by rw[hrl.out];exact hlt) h1 h2 HR.out)
     by_cases hrn:r.length=n
     ·have HRN:=lHd hrn;rw[hrn] at hrc;clear hrn
      by_cases hyb : -20<=y/\y<=20
      ·have HYB:=lHd hyb;clear hyb
       go_wp2_with fail
       refine(xK5 _ _ _ (by omega) (by omega) HYB.out).mono ?_;rintro e w' ⟨rfl,rfl⟩
       go_wp2_with fail
       go_loopw [69] (fun x wr=>∃j:Nat,j<=n/\x=.int .i64 j/\Hid (∀a∈r.take j,-4<=a/\a<=4)/\Below w2.heap.size w2 wr/\Cls wr [(w.heap.size,0,.slice (some ad) m cr),(w.heap.size,1,.slice (some ad2) m cb),(w.heap.size,2,.slice AO n co),(w.heap.size+1,0,.int .i64 0),(w.heap.size+1,1,.int .i64 0)]) (fun x _=>n-(intOf x).toNat)
       case atStart=>exact⟨0,zKk _,rfl,lHd (by simp),bch,(by simp[Cls,go_sem,Fs])⟩
       case round=>
        obtain⟨j,hj,rfl,HA,hBv,hCv⟩:=hrel;obtain⟨w3,rfl⟩:∃wo:World,wo=wr:=⟨_,rfl⟩;have Fv:=hCv.f;have yvw1:=hCv.blk (b:=w.heap.size+1) (k:=0) (v:=.int .i64 0) (by simp);have DV:=DS.trans (hBv.mono DS.size)
        by_cases hlt3:j<n
        ·obtain⟨ad3,x,rfl,hx,hxc⟩:=(hI.below hBv).at_ (k:=j) (by rw[HRN.out];exact hlt3)
         by_cases hin : -4<=x/\x<=4
         ·have HIN:=lHd hin;clear hin
          go_wp2_with fail
          refine(xK5 _ _ _ (by omega) (by omega) HIN.out).mono ?_;rintro e w' ⟨rfl,rfl⟩;go_wp2
          go_roundw
          case rel=>exact⟨j+1,by omega,by go_num,lHd (fun c hc=>by
           rw[vXd,hx.out] at hc;rcases vJn.1 hc with h|h
           ·exact HA.out c h
           ·have:c=x:=by simpa using h
            rw[this];exact HIN.out),bch,(Cls.below (w:=w3) bch hCv)⟩
          case measure=>simp[intOf];omega
         ·have HF:=lHd (HF4.out 3 (by rw[HRC.out];unfold yQe;rw[if_neg (fun e=>e HRN.out),if_neg (fun e=>e HYB.out),if_neg (fun h=>hin (h x (lMg hx.out)))]) (by omega));have HIN:=lHd hin;clear hin
          go_wp2_with fail
          refine(xWe _ _ _ (by omega) (by omega) HIN.out).mono ?_;rintro e w' ⟨rfl,rfl⟩
          go_wp2_with fail
          refine(xZj _ _ _).mono ?_;rintro e w4 ⟨rfl,hB4⟩;have D4:=xJ3 w hB4 bch;have C4:=Cls.below (l:=[(w.heap.size,0,.slice (some ad) m cr),(w.heap.size,1,.slice (some ad2) m cb),(w.heap.size,2,.slice AO n co),(w.heap.size+1,0,.int .i64 0),(w.heap.size+1,1,.int .i64 0)]) hB4 (by simp[Cls,go_sem,Fv]);have F4:=C4.f;have y4w1:=C4.b 3;go_wp2;refine bodyPost_ret (v:=.agg #[.int .i64 3,.int .i64 i]) ?_ rfl ⟨by rw[HF.out],bch⟩;simp[results,results100,go_sem,F4]
        ·obtain rfl:n=j:=by omega
         have HR0:=lHd (show p.rowC i=0 by
          rw[HRC.out];unfold yQe;rw[if_neg (fun e=>e HRN.out),if_neg (fun e=>e HYB.out),if_pos (fun a ha=>HA.out a (by rw[zQd (by rw[HRN.out];exact Nat.le_refl _)];exact ha))])
         go_wp2
         go_roundw
         case rel=>exact⟨i+1,by omega,by go_num,lHd (fun k hk=>by
          by_cases e:k=i
          ·rw[e];exact HR0.out
          ·exact HR.out k (by omega)),(hBs.trans ((show Below w2.heap.size w2 w3 from hBv).mono hBs.size)),(Cls.below (w:=w3) bch hCv)⟩
         case measure=>simp[intOf];omega
      ·have HF:=lHd (HF4.out 3 (by rw[HRC.out];unfold yQe;rw[if_neg (fun e=>e HRN.out),if_pos hyb]) (by omega));have HYB:=lHd hyb;clear hyb
       go_wp2_with fail
       refine(xWe _ _ _ (by omega) (by omega) HYB.out).mono ?_;rintro e w' ⟨rfl,rfl⟩
       go_wp2_with fail
       refine(xZj _ _ _).mono ?_;rintro e w1 ⟨rfl,hB1⟩;have D1:=xJ3 w hB1 bch;have C1:=Cls.below (l:=[(w.heap.size,0,.slice (some ad) m cr),(w.heap.size,1,.slice (some ad2) m cb),(w.heap.size,2,.slice AO n co),(w.heap.size+1,0,.int .i64 0),(w.heap.size+1,1,.int .i64 0)]) hB1 (by simp[Cls,go_sem,Fs]);have F1:=C1.f;have y1w1:=C1.b 3;go_wp2;refine bodyPost_ret (v:=.agg #[.int .i64 3,.int .i64 i]) ?_ rfl ⟨by rw[HF.out],bch⟩;simp[results,results100,go_sem,F1]
     ·have HF:=lHd (HF4.out 9 (by rw[HRC.out];unfold yQe;rw[if_pos hrn]) (by omega));have hrn':¬((r.length:Int)=(n:Int)):=by omega
      go_wp2_with fail
      go_wp2_with fail
      refine(xZj _ _ _).mono ?_;rintro e w1 ⟨rfl,hB1⟩;have D1:=xJ3 w hB1 bch;have C1:=Cls.below (l:=[(w.heap.size,0,.slice (some ad) m cr),(w.heap.size,1,.slice (some ad2) m cb),(w.heap.size,2,.slice AO n co),(w.heap.size+1,0,.int .i64 0),(w.heap.size+1,1,.int .i64 0)]) hB1 (by simp[Cls,go_sem,Fs]);have F1:=C1.f;have y1w1:=C1.b 3;go_wp2;refine bodyPost_ret (v:=.agg #[.int .i64 9,.int .i64 i]) ?_ rfl ⟨by rw[HF.out],bch⟩;simp[results,results100,go_sem,F1]
    ·obtain rfl:m=i:=by omega
     have HF:=lHd (vXx ⟨by have:=HNB.out;omega,by have:=HNB.out;omega,HBE.out,HCO.out,fun k hk=>HR.out k (by rw[<- hrl.out];exact hk)⟩)
     go_wp2_with fail
     refine bodyPost_ret (v:=.agg #[.int .i64 0,.int .i64 0]) ?_ rfl ⟨by rw[HF.out],bch⟩;simp[results,results100,go_sem,Fs]
theorem xKk(w:World)(AR AB AO:Option Addr)(cr cb co:Nat)(p:LpV)(hM:LpMem w AR AB AO p) :
  Calls prog 100 #[.agg #[.slice AR p.rows.length cr,.slice AB p.bounds.length cb,.slice AO p.obj.length co]] w fun e w'=>e=.returned (.agg #[.int .i64 (lpF p).1,.int .i64 (lpF p).2])/\Below w.heap.size w w':=by
 have hnr:=hM.nr;have hno:=hM.no
 by_cases h1:(p.rows.length:Int)>6
 ·have h1':decide ((p.rows.length:Int)>6)=true:=zWo h1;rw[uJg (.inl (by omega))];go_enter func100,ntmps100
  go_wp2_with fail
  refine(xZj _ _ _).mono ?_;rintro e w1 ⟨rfl,hB1⟩;have D1:=xJ3 w hB1 bch;have C1:=Cls.below (l:=[(w.heap.size,0,.slice AR p.rows.length cr),(w.heap.size,1,.slice AB p.bounds.length cb),(w.heap.size,2,.slice AO p.obj.length co),(w.heap.size+1,0,.int .i64 0),(w.heap.size+1,1,.int .i64 0)]) hB1 (by simp[Cls,go_sem]);have F1:=C1.f;have y1w1:=C1.b 3;go_wp2;refine bodyPost_ret ?_ rfl ⟨rfl,bch⟩;simp[results,results100,go_sem,F1]
 ·have h1':decide ((p.rows.length:Int)>6)=false:=zVa h1
  by_cases h2:(p.obj.length:Int)>6
  ·have h2':decide ((p.obj.length:Int)>6)=true:=zWo h2;rw[uJg (.inr (by omega))];go_enter func100,ntmps100
   go_wp2_with fail
   refine(xZj _ _ _).mono ?_;rintro e w1 ⟨rfl,hB1⟩;have D1:=xJ3 w hB1 bch;have C1:=Cls.below (l:=[(w.heap.size,0,.slice AR p.rows.length cr),(w.heap.size,1,.slice AB p.bounds.length cb),(w.heap.size,2,.slice AO p.obj.length co),(w.heap.size+1,0,.int .i64 0),(w.heap.size+1,1,.int .i64 0)]) hB1 (by simp[Cls,go_sem]);have F1:=C1.f;have y1w1:=C1.b 3;go_wp2;refine bodyPost_ret ?_ rfl ⟨rfl,bch⟩;simp[results,results100,go_sem,F1]
  ·have h2':decide ((p.obj.length:Int)>6)=false:=zVa h2;have HNB:=lHd (show ¬(6<p.rows.length\/6<p.obj.length) by omega)
   by_cases h3:p.bounds.length=p.rows.length
   ·have HBL:=lHd h3;have h3':((p.bounds.length:Int) !=(p.rows.length:Int))=false:=by simp[h3]
    have hr6:p.rows.length<=6:=by omega
    have ho6:p.obj.length<=6:=by omega
    have hcore:=zZi w AR AB AO cr cb co p hM p.rows.length p.obj.length (lHd rfl) (lHd h3) (lHd rfl) hr6 ho6;rw[<- h3] at hcore;rw[h3] at hcore ⊢;exact hcore
   ·have h3':((p.bounds.length:Int) !=(p.rows.length:Int))=true:=by simp;omega
    have h3'':¬((p.bounds.length:Int)=(p.rows.length:Int)):=by omega
    rw[lpF_2 HNB.out h3];go_enter func100,ntmps100
    go_wp2_with fail
    go_wp2_with fail
    refine(xZj _ _ _).mono ?_;rintro e w1 ⟨rfl,hB1⟩;have D1:=xJ3 w hB1 bch;have C1:=Cls.below (l:=[(w.heap.size,0,.slice AR p.rows.length cr),(w.heap.size,1,.slice AB p.bounds.length cb),(w.heap.size,2,.slice AO p.obj.length co),(w.heap.size+1,0,.int .i64 0),(w.heap.size+1,1,.int .i64 0)]) hB1 (by simp[Cls,go_sem]);have F1:=C1.f;have y1w1:=C1.b 3;go_wp2;refine bodyPost_ret ?_ rfl ⟨rfl,bch⟩;simp[results,results100,go_sem,F1]
structure TbLay where
 b:Nat
 gR:Nat
 cR:Nat
 blk:Nat->Nat
 AB:Option Addr
 cB:Nat
def xJd(N:Nat)(f:Nat->Int):List Int:=(List.range N).map f
theorem xJj(N:Nat)(f:Nat->Int):(xJd N f).length=N:=by unfold xJd;rw[zQl,List.length_range]
theorem xKc{N j:Nat}(f:Nat->Int)(h:j<N):(xJd N f)[j]? = some (f j):=by
 unfold xJd;rw[vQ4,List.getElem?_range h];rfl
theorem xXy{N j:Nat}(f:Nat->Int)(x:Int):(xJd N f).set j x=xJd N fun k=>if k=j then x else f k:=by
 apply List.ext_getElem?;intro i;rw[List.getElem?_set];unfold xJd;rw[zQl,List.length_range,vQ4,vQ4];rcases vVq i N with h|h
 ·rw[List.getElem?_range h]
  by_cases e:j=i
  ·subst e;simp[h]
  ·rw[if_neg e];simp[Ne.symm e]
 ·rw[vXn (by rw[List.length_range];exact h)]
  by_cases e:j=i
  ·subst e;simp;omega
  ·rw[if_neg e];rfl
theorem xJc{N:Nat}{f g:Nat->Int}(h:∀j,j<N->f j=g j):xJd N f=xJd N g:=by
 unfold xJd;exact List.map_congr_left fun j hj=>h j (yYq.1 hj)
def xQo(m:Nat)(bs:Nat->Nat):List Int:=xJd m fun i=>(bs i:Int)
structure TbMem(base:Nat)(w:World)(L:TbLay)(m N:Nat)(bs:Nat->Nat)(T:Nat->Nat->Int)(den:Int):Prop where
 box0:w.cell? ⟨L.b,0,none⟩=some (.slice (some ⟨L.gR,0,none⟩) (m+2) L.cR)
 box1:w.cell? ⟨L.b,1,none⟩=some (.slice L.AB m L.cB)
 box2:w.cell? ⟨L.b,2,none⟩=some (.int .i64 den)
 free2:w.frozen? ⟨L.b,2,none⟩=false
 out:∀i,i<m+2->w.cell? ⟨L.gR,i,none⟩=some (.slice (some ⟨L.blk i,0,none⟩) N N)
 row:∀i,i<m+2->IArr w (L.blk i) (xJd N (T i))
 basis:OwnI base w (.slice L.AB m L.cB) (xQo m bs)
 sep:∀i,i<m+2->base<=L.blk i/\L.blk i≠L.b/\L.blk i≠L.gR/\∀ad,L.AB=some ad->ad.block≠L.blk i
 inj:∀i k,i<m+2->k<m+2->i≠k->L.blk i≠L.blk k
 sepB:base<=L.b/\base<=L.gR/\L.b≠L.gR/\∀ad,L.AB=some ad->ad.block≠L.b/\ad.block≠L.gR
section
variable {base m N:Nat}{w w':World}{L:TbLay}{bs:Nat->Nat}{T:Nat->Nat->Int}{den:Int}
theorem TbMem.below(h:TbMem base w L m N bs T den)(hb:Below w.heap.size w w'):TbMem base w' L m N bs T den:=
 {box0:=(hb.cell (zQ2 w _ h.box0)).trans h.box0
  box1:=(hb.cell (zQ2 w _ h.box1)).trans h.box1
  box2:=(hb.cell (zQ2 w _ h.box2)).trans h.box2
  free2:=(hb.frozen (zQ2 w _ h.box2)).trans h.free2
  out:=fun i hi=>(hb.cell (zQ2 w _ (h.out i hi))).trans (h.out i hi)
  row:=fun i hi=>(h.row i hi).below hb
  basis:=h.basis.below hb
  sep:=h.sep,inj:=h.inj,sepB:=h.sepB }
theorem TbMem.cell(h:TbMem base w L m N bs T den){i j:Nat}(hi:i<m+2)(hj:j<N):w.cell? ⟨L.blk i,j,none⟩=some (.int .i64 (T i j))/\w.frozen? ⟨L.blk i,j,none⟩=false:=by
 obtain⟨x,hx,hc,hf⟩:=(h.row i hi).cell (i:=j) (by rw[xJj];exact hj);have:=hx.out;rw[xKc _ hj] at this;injection this with this
 subst this;exact⟨hc,hf⟩
theorem OwnI.apart{base:Nat}{w:World}{v:Value}{xs:List Int}(h:OwnI base w v xs){p:Addr}(hp:v.ownBlock≠some p.block)(u:Value):OwnI base (w.setCell p u) v xs:=by
 obtain⟨h1,h2⟩:=h;refine⟨h1,?_⟩;rcases h2 with h2|⟨g,cap,cur,hv,hg,hh,r⟩
 ·exact Or.inl h2
 ·exact Or.inr ⟨g,cap,cur,hv,hg,(Below.heap_setCell w p u g (fun e=>hp (by rw[hv,e];rfl))).trans hh,r⟩
theorem TbMem.set(h:TbMem base w L m N bs T den){i j:Nat}(hi:i<m+2)(x:Int){T':Nat->Nat->Int}(hT:∀a,a<m+2->∀c,c<N->T' a c=if a=i/\c=j then x else T a c) :
  TbMem base (w.setCell ⟨L.blk i,j,none⟩ (.int .i64 x)) L m N bs T' den:=by
 obtain⟨s1,s2,s3,s4⟩:=h.sep i hi;have hne:∀ {p:Addr} {v:Value},p.block≠L.blk i->w.cell? p=some v->(w.setCell ⟨L.blk i,j,none⟩ (.int .i64 x)).cell? p=some v:=fun {p v} hp hc=>by
  rw[World.cell?_setCell_other w _ p _ (fun e=>hp (by rw[<- e]))];exact hc
 refine { box0:=hne (Ne.symm s2) h.box0,box1:=hne (Ne.symm s2) h.box1,box2:=hne (Ne.symm s2) h.box2,free2:=by rw[World.frozen?_setCell];exact h.free2,out:=fun k hk=>hne (Ne.symm s3) (h.out k hk),row:=fun k hk=>?_,basis:=?_,sep:=h.sep,inj:=h.inj,sepB:=h.sepB }
 ·by_cases e:k=i
  ·subst e;have h1:=(h.row k hk).set_ j x;rw[xXy] at h1;rw[xJc (g:=fun c=>if c=j then x else T k c) fun c hc=>by rw[hT k hk c hc];simp];exact h1
  ·rw[xJc (g:=T k) fun c hc=>by rw[hT k hk c hc];simp[e]];exact(h.row k hk).far (h.inj i k hi hk (Ne.symm e)) _
 ·refine OwnI.apart h.basis (fun e=>?_) _
  cases hA:L.AB with
  |none=>rw[hA] at e;cases e
  |some ad=>
   rw[hA] at e;have e2:ad.block=L.blk i:=by simpa[Value.ownBlock] using e
   exact s4 ad hA e2
theorem TbMem.setDen(h:TbMem base w L m N bs T den)(x:Int):TbMem base (w.setCell ⟨L.b,2,none⟩ (.int .i64 x)) L m N bs T x:=by
 obtain⟨t1,t2,t3,t4⟩:=h.sepB;have hoff:∀ {k:Nat} {v:Value},k≠2->w.cell? ⟨L.b,k,none⟩=some v->(w.setCell ⟨L.b,2,none⟩ (.int .i64 x)).cell? ⟨L.b,k,none⟩=some v:=fun {k v} hk hc=>by
  rw[World.cell?_setCell_other w _ _ _ (fun e=>hk (by injection e with _ e _;exact e.symm))];exact hc
 refine { box0:=hoff (by omega) h.box0,box1:=hoff (by omega) h.box1,box2:=World.cell?_setCell_same w _ _ h.box2,free2:=by rw[World.frozen?_setCell];exact h.free2,out:=fun k hk=>?_,row:=fun k hk=>(h.row k hk).far (Ne.symm (h.sep k hk).2.1) _,basis:=?_,sep:=h.sep,inj:=h.inj,sepB:=h.sepB }
 ·rw[World.cell?_setCell_other w _ _ _ (fun e=>t3 (by injection e))];exact h.out k hk
 ·refine OwnI.apart h.basis (fun e=>?_) _
  cases hA:L.AB with
  |none=>rw[hA] at e;cases e
  |some ad=>
   rw[hA] at e;have e2:ad.block=L.b:=by simpa[Value.ownBlock] using e
   exact(t4 ad hA).1 e2
theorem TbMem.setBas(h:TbMem base w L m N bs T den){g r:Nat}(hA:L.AB=some ⟨g,0,none⟩)(c:Nat) :
  TbMem base (w.setCell ⟨g,r,none⟩ (.int .i64 c)) L m N (LA.pivB bs r c) T den:=by
 obtain⟨t1,t2,t3,t4⟩:=h.sepB;have hb:=(t4 _ hA).1;have hg:=(t4 _ hA).2;have hne:∀ {p:Addr} {v:Value},p.block≠g->w.cell? p=some v->(w.setCell ⟨g,r,none⟩ (.int .i64 c)).cell? p=some v:=fun {p v} hp hc=>by
  rw[World.cell?_setCell_other w _ p _ (fun e=>hp (by rw[<- e]))];exact hc
 refine { box0:=hne (Ne.symm hb) h.box0,box1:=hne (Ne.symm hb) h.box1,box2:=hne (Ne.symm hb) h.box2,free2:=by rw[World.frozen?_setCell];exact h.free2,out:=fun k hk=>hne (Ne.symm hg) (h.out k hk),row:=fun k hk=>(h.row k hk).far (p:=⟨g,r,none⟩) (show g≠L.blk k from(h.sep k hk).2.2.2 _ hA) _,basis:=?_,sep:=h.sep,inj:=h.inj,sepB:=h.sepB };have h1:=h.basis;rw[hA] at h1 ⊢;have h2:=h1.set_ (by unfold xQo;rw[xJj]) r (c:Int);have e:(xQo m bs).set r (c:Int)=xQo m (LA.pivB bs r c):=by
  unfold xQo;rw[xXy];exact xJc fun j _=>by unfold LA.pivB;split<;>rfl
 rw[e] at h2;exact h2
theorem TbMem.bas(h:TbMem base w L m N bs T den){i:Nat}(hi:i<m):∃g,L.AB=some ⟨g,0,none⟩/\base<=g/\g<w.heap.size/\w.cell? ⟨g,i,none⟩=some (.int .i64 (bs i))/\w.frozen? ⟨g,i,none⟩=false:=by
 have hb:=h.basis;obtain⟨g,x,hA,h1,h2,h3,h4,h5⟩:=hb.at_ (k:=i) (by unfold xQo;rw[xJj];exact hi);have:=h3.out;unfold xQo at this;rw[xKc _ hi] at this;injection this with this
 subst this;exact⟨g,hA,h1,h2,h4,h5⟩
theorem TbMem.congr(h:TbMem base w L m N bs T den){T':Nat->Nat->Int}{bs':Nat->Nat}(hb:∀i,i<m->bs' i=bs i)(hT:∀a,a<m+2->∀c,c<N->T' a c=T a c):TbMem base w L m N bs' T' den:=
 {h with
  row:=fun i hi=>by rw[xJc (g:=T i) fun c hc=>hT i hi c hc];exact h.row i hi
  basis:=by
   have e:xQo m bs'=xQo m bs:=xJc fun i hi=>by rw[hb i hi]
   rw[e];exact h.basis }
end
theorem xWj(n:Nat):List.replicate n (0:Int)=xJd n fun _=>0:=by
 unfold xJd;apply List.ext_getElem?;intro i;rw[vQ4];rcases vVq i n with h|h
 ·rw[List.getElem?_range h,List.getElem?_replicate,if_pos h];rfl
 ·rw[vXn (by rw[List.length_replicate];exact h),vXn (by rw[List.length_range];exact h)];rfl
theorem vVx(xs:List Int):xJd xs.length (fun j=>(xs[j]?).getD 0)=xs:=by
 unfold xJd;apply List.ext_getElem?;intro i;rw[vQ4];rcases vVq i xs.length with h|h
 ·rw[List.getElem?_range h,lGe h];simp[h]
 ·rw[vXn h,vXn (by rw[List.length_range];exact h)];rfl
theorem vVy(w:World)(A:Option Addr)(cA:Nat)(xs:List Int)(d:Int)(hI:Ints w A xs)(hn:xs.length<=100)(hx:∀x∈xs,-1000000000<=x/\x<=1000000000)(hd0:0<d)(hd1:d<=1000000000) :
  Calls prog 103 #[.slice A xs.length cA,.int .i64 d] w fun e w'=>∃g:Nat,e=.returned (.agg #[.slice (some ⟨g,0,none⟩) xs.length xs.length,.int .i64 (d.tdiv (xQ2 d xs))])/\w.heap.size<=g/\IArr w' g (xQv d xs)/\Below w.heap.size w w':=by
 have HX:=lHd hx;have HLE:=lHd (fun k=>yWd (xs:=xs.take k) hd0);have HPO:=lHd (fun k=>xZo (xs:=xs.take k) hd0);have hmk:=xQu xs.length (by omega);clear hx;go_enter func103,ntmps103
 go_wp2_with fail
 go_loopw [5,14] (fun g x wr=>∃k:Nat,k<=xs.length/\x=.int .i64 k/\g=.int .i64 (xQ2 d (xs.take k))/\Below w.heap.size w wr/\Cls wr [(w.heap.size,0,.slice none 0 0),(w.heap.size,1,.int .i64 0)]) (fun _ x _=>xs.length-(intOf x).toNat)
 case atStart=>exact⟨0,zKk _,rfl,rfl,bch,by simp[Cls,go_sem]⟩
 case round=>
  obtain⟨k,hk,rfl,rfl,hB1,hC1⟩:=hrel;obtain⟨w1,rfl⟩:∃wo:World,wo=wr:=⟨_,rfl⟩;have F1:=hC1.f;have y1:=hC1.blk (b:=w.heap.size) (k:=0) (v:=.slice none 0 0) (by simp);have hg1:=HLE.out k;have hg0:=HPO.out k
  by_cases hlt:k<xs.length
  ·obtain⟨ad,x,rfl,hx,hxc⟩:=(hI.below hB1).at_ hlt;have hxb:=HX.out x (lMg hx.out);have HT:=lHd (yJe (d:=d) hx.out);obtain⟨g,hg⟩:∃g,Hid (xQ2 d (xs.take k)=g):=⟨_,lHd rfl⟩;rw[hg.out] at HT hg0 hg1 ⊢
   go_wp2_with fail
   refine(yQg _ _ _ (by omega) (by omega)).mono ?_;rintro e w2 ⟨rfl,hB2⟩;have D2:=xJ3 w hB2 bch;have C2:=Cls.below (l:=[(w.heap.size,0,.slice none 0 0),(w.heap.size,1,.int .i64 0)]) hB2 (by simp[Cls,go_sem,F1]);go_wp2
   go_roundw
   case rel=>exact⟨k+1,by omega,by go_num,by rw[HT.out],bch,Cls.below (w:=w2) bch C2⟩
   case measure=>simp[intOf];omega
  ·obtain rfl:k=xs.length:=by omega
   have HG:=lHd (show xQ2 d (xs.take xs.length)=xQ2 d xs by rw[yQ7]);rw[HG.out] at hg0 hg1 ⊢;obtain⟨g,hg⟩:∃g,Hid (xQ2 d xs=g):=⟨_,lHd rfl⟩;rw[hg.out] at hg0 hg1 ⊢;have hgn:¬g=0:=by omega
   have hq : -9223372036854775808<=d.tdiv g/\d.tdiv g<=9223372036854775807:=by
    have e1:g*d.tdiv g=d:=by rw[<- hg.out];exact xX1 (xZp xs d).1
    have:=xQw (B:=1000000000) hg0 e1 (by omega);omega
   obtain⟨q,hqe⟩:∃q,d.tdiv g=q:=⟨_,rfl⟩;rw[hqe] at hq;have HQ:=lHd hqe;obtain⟨hq1,hq2⟩:=hq;have HLN:=lHd (xZq d xs);have HMP:=lHd (xWj xs.length)
   go_upto_region 7 with fail
   go_cut [8] (fun p wx=>∃gb gm:Nat,p=.pointer (some ⟨gb,0,none⟩)/\w.heap.size<gb/\w.heap.size<gm/\gm≠gb/\IArr wx gm (xJd xs.length fun _=>0)/\Below w.heap.size w wx/\Cls wx [(w.heap.size,0,.slice none 0 0),(w.heap.size,1,.int .i64 0),(gb,0,.slice (some ⟨gm,0,none⟩) xs.length xs.length),(gb,1,.int .i64 q)])
   case first=>
    go_region
    all_goals
     go_wp2_with fail
     go_meet
     first
      |exact⟨w1.heap.size,w1.heap.size+1,rfl,y1,by omega,by omega,by rw[<- HMP.out];have h:=IArr.made (w1.alloc (.cells #[.slice (some ⟨w1.heap.size+1,0,none⟩) xs.length xs.length,.int .i64 q] 68)) xs.length (w1.heap.size+1) (by simp);exact h,bch,by simp[Cls,go_sem,F1,y1]⟩
      |exact⟨w1.heap.size+1,w1.heap.size,rfl,by omega,y1,by omega,by rw[<- HMP.out];have h:=(IArr.made w1 xs.length w1.heap.size rfl).alloc (.cells #[.slice (some ⟨w1.heap.size,0,none⟩) xs.length xs.length,.int .i64 q] 68);exact h,bch,by simp[Cls,go_sem,F1,y1]⟩
   case rest=>
    obtain⟨w3,rfl⟩:∃wo:World,wo=wc:=⟨_,rfl⟩;obtain⟨gb,gm,rfl,hgb,hgm,hne,hA3,hB3,hC3⟩:=hcut
    go_wp2_with fail
    go_loopw [31] (fun x wr=>∃k:Nat,k<=xs.length/\x=.int .i64 k/\IArr wr gm (xJd xs.length fun j=>if j<k then((xQv d xs)[j]?).getD 0 else 0)/\Below w.heap.size w wr/\Cls wr [(w.heap.size,0,.slice none 0 0),(w.heap.size,1,.int .i64 0),(gb,0,.slice (some ⟨gm,0,none⟩) xs.length xs.length),(gb,1,.int .i64 q)]) (fun x _=>xs.length-(intOf x).toNat)
    case atStart=>exact⟨0,zKk _,rfl,by rw[xJc (g:=fun _=>0) fun j _=>if_neg (by omega)];exact hA3.below bch,bch,Cls.below (w:=w3) bch hC3⟩
    case round=>
     obtain⟨k,hk,rfl,hA4,hB4,hC4⟩:=hrel;obtain⟨w4,rfl⟩:∃wo:World,wo=wr:=⟨_,rfl⟩;have F4:=hC4.f
     by_cases hlt:k<xs.length
     ·obtain⟨ad,x,rfl,hx,hxc⟩:=(hI.below hB4).at_ hlt;have hxb:=HX.out x (lMg hx.out);obtain⟨y,hy,hye⟩:=yJf (d:=d) hx.out;have HY:=lHd hy;rw[hg.out] at hye;have hyb:=xQw (B:=1000000000) hg0 hye hxb;have hyt:x.tdiv g=y:=by rw[<- hye];exact Int.mul_tdiv_cancel_left _ hgn
      obtain⟨hyb1,hyb2⟩:=hyb;obtain⟨z,hz,hzc,hzf⟩:=hA4.cell (i:=k) (by rw[xJj];exact hlt);have hn4:¬gm=gb:=hne;clear hx hy hye hz
      go_wp2_with fail
      refine xJ5 7 (by kernel_rfl) (by kernel_rfl) ?_;simp only[yJx,List.take_zero,List.drop_succ_cons,List.drop_zero]
      repeat still_step
      refine wpStill_nil ?_;go_wp2
      go_roundw
      case rel=>exact⟨k+1,by omega,by go_num,(by
       have h:=hA4.set_ k y;rw[xXy] at h;rw[xJc (g:=fun j=>if j=k then y else if j<k then((xQv d xs)[j]?).getD 0 else 0) fun j _=>by
        by_cases e:j=k
        ·subst e;rw[if_pos (by omega),if_pos rfl,HY.out];rfl
        ·rw[if_neg e]
         by_cases e2:j<k
         ·rw[if_pos e2,if_pos (by omega)]
         ·rw[if_neg e2,if_neg (by omega)]]
       exact h.below bch),bch,by simp[Cls,go_sem,F4]⟩
      case measure=>simp[intOf];omega
     ·obtain rfl:k=xs.length:=by omega
      have hA5:IArr w4 gm (xQv d xs):=by
       have e:xJd xs.length (fun j=>if j<xs.length then((xQv d xs)[j]?).getD 0 else 0)=xQv d xs:=by
        rw[xJc (g:=fun j=>((xQv d xs)[j]?).getD 0) fun j hj=>if_pos hj,<- HLN.out,vVx]
       rw[<- e];exact hA4
      have HA5:=lHd hA5;clear hA5 hA4
      go_wp2_with fail
      refine bodyPost_ret (v:=.agg #[.slice (some ⟨gm,0,none⟩) xs.length xs.length,.int .i64 q]) ?_ rfl ⟨gm,by rw[hg.out,HQ.out],by omega,?_,bch⟩
      ·simp[results,results103,go_sem,F4]
      ·have h:=HA5.out
       repeat (first|exact h|refine IArr.far ?_ (by dsimp only;omega) _)
def xWp(bs:Nat->Nat)(T:Nat->Nat->Int)(col i j:Nat):Int:=LA.sumN i fun k=>if bs k=j then T k col else 0
theorem yY3{bs:Nat->Nat}{T:Nat->Nat->Int}{col i:Nat}(h:∀k,k<i->bs k≠bs i):xWp bs T col (i+1) (bs i)=T i col:=by
 show LA.sumN i _+_=_;rw[LA.sumN_eq_zero fun k hk=>if_neg (h k hk)];simp
theorem zWa{bs:Nat->Nat}{T:Nat->Nat->Int}{col i j:Nat}(h:bs i≠j):xWp bs T col (i+1) j=xWp bs T col i j:=by
 show LA.sumN i _+(if bs i=j then T i col else 0)=_;rw[if_neg h,Int.add_zero];rfl
theorem vYj(w:World)(base:Nat)(L:TbLay)(m N n:Nat)(bs:Nat->Nat)(T:Nat->Nat->Int)(den:Int)(col:Nat)(sg:Int)(hM:TbMem base w L m N bs T den)(hcol:col<N)(hsg:sg=1\/sg = -1)(hTB:∀i,i<m->-1000000000<=T i col/\T i col<=1000000000)(hinj:∀i k,i<m->k<m->bs i=bs k->i=k)(hm6:m<=6)(hn6:n<=100) :
  Calls prog 105 #[.pointer (some ⟨L.b,0,none⟩),.int .i64 n,.int .i64 col,.int .i64 sg] w fun e w'=>∃g:Nat,e=.returned (.slice (some ⟨g,0,none⟩) n n)/\w.heap.size<=g/\IArr w' g (xJd n fun j=>sg*xWp bs T col m j)/\Below w.heap.size w w':=by
 obtain⟨Lb,LgR,LcR,Lblk,LAB,LcB⟩:=L;have HTB:=lHd hTB;have HIN:=lHd hinj;have HM:=lHd hM;have hsb:=hM.sepB;have hx1:=hM.box1;have hlt1:=zQ2 w _ hx1;have hx0:=hM.box0;have hlt0:=zQ2 w _ (hM.out 0 (by omega));dsimp only at hx1 hlt1 hx0 hlt0;have hmk:=xQu n (by omega);have HMP:=lHd (xWj n);have hsg1 : -1<=sg/\sg<=1:=by omega
 clear hTB hinj hM hsb hsg;go_enter func105,ntmps105
 go_wp2_with fail
 go_loopw [19] (fun x wr=>∃i:Nat,i<=m/\x=.int .i64 i/\Below w.heap.size w wr/\IArr wr w.heap.size (xJd n fun j=>sg*xWp bs T col i j)) (fun x _=>m-(intOf x).toNat)
 case atStart=>exact⟨0,zKk _,rfl,bch,by
  have h:=IArr.made w n w.heap.size rfl;rw[HMP.out,xJc (g:=fun j=>sg*xWp bs T col 0 j) fun j _=>by unfold xWp;simp[LA.sumN]] at h;simpa using h⟩
 case round=>
  obtain⟨i,hi,rfl,hB1,hA1⟩:=hrel;obtain⟨w1,rfl⟩:∃wo:World,wo=wr:=⟨_,rfl⟩;have hM1:=HM.out.below hB1
  by_cases hlt:i<m
  ·have hi2:i<m+2:=by omega
   have hi3:(i:Int)<(m:Int)+2:=by omega
   obtain⟨g,hA,hg1,hg2,hg3,hg4⟩:=hM1.bas hlt;have hy0:=hM1.box0;have hyo:=hM1.out i hi2;have hyc:=(hM1.cell (i:=i) (j:=col) hi2 hcol).1;dsimp only at hA hy0 hyo hyc;subst hA;have hTb:=HTB.out i hlt;obtain⟨v,hv⟩:∃v,Hid (bs i=v):=⟨_,lHd rfl⟩;obtain⟨x,hx⟩:∃x,Hid (T i col=x):=⟨_,lHd rfl⟩;rw[hv.out] at hg3;rw[hx.out] at hyc hTb;have hmul:=LA.abs_mul hsg1 hTb;obtain⟨hmul1,hmul2⟩:=hmul;obtain⟨p,hp⟩:∃p,Hid (sg*x=p):=⟨_,lHd rfl⟩;have hwp:IntKind.i64.wrap (sg*x)=p:=by rw[hp.out] at hmul1 hmul2 ⊢;exact Go.IntWalk.i64_in _ (by omega)
   by_cases hvn:v<n
   ·have hvn':decide ((v:Int)<(n:Int))=true:=zWo (by omega);obtain⟨z,hz,hzc,hzf⟩:=hA1.cell (i:=v) (by rw[xJj];exact hvn);clear hz;go_wp2
    go_roundw
    case rel=>exact⟨i+1,by omega,by go_num,bch,(by
     have h:=hA1.set_ v p;rw[xXy] at h;rw[xJc (g:=fun j=>if j=v then p else sg*xWp bs T col i j) fun j _=>by
      by_cases e:j=v
      ·rw[if_pos e,e,<- hv.out,yY3 (fun k hk e2=>by have:=HIN.out k i (by omega) hlt e2;omega),hx.out,hp.out]
      ·rw[if_neg e,zWa (by rw[hv.out];exact fun e2=>e e2.symm)]]
     exact h.below bch)⟩
    case measure=>simp[intOf];omega
   ·have hvn':decide ((v:Int)<(n:Int))=false:=zVa (by omega);go_wp2
    go_roundw
    case rel=>exact⟨i+1,by omega,by go_num,bch,(by
     rw[xJc (g:=fun j=>sg*xWp bs T col i j) fun j hj=>by rw[zWa (by rw[hv.out];omega)]];exact hA1.below bch)⟩
    case measure=>simp[intOf];omega
  ·obtain rfl:m=i:=by omega
   go_wp2;go_ret;exact⟨w.heap.size,rfl,Nat.le_refl _,hA1.below bch,bch⟩
