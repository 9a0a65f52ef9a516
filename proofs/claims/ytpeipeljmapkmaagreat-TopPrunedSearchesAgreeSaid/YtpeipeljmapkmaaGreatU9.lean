/-
  Lemmas for the law: MJ, St3, Bf3, Rxb, Bf5, Bf8, St4, Opl, Nll.
-/
import Derived.Test.YtpeipeljmapkmaaGreatU1
import Derived.Test.YtpeipeljmapkmaaGreatChecked
import Derived.Test.YtpeipeljmapkmaaGreatU3
import Derived.Test.YtpeipeljmapkmaaGreatU4
import Derived.Shelf.Sort.Plain
import Derived.Shelf.Slices.CompactI
import Derived.Shelf.Slices.In.SortNone
import Derived.Sort.OwnSortedInts
import Derived.Test.YtpeipeljmapkmaaGreatU6
import Derived.Test.YtpeipeljmapkmaaGreatU19
import Derived.SizedLaws
set_option linter.unusedVariables false
set_option linter.unusedSimpArgs false
set_option maxRecDepth 100000
set_option maxHeartbeats 4000000
namespace Go.Proofs.YtpeipeljmapkmaaGreat
open Go.RowKit
section
open Go.Shelf Go.Sort
def xZ6(l:List Int):List Int:=l.mergeSort fun x y=>decide (x<=y)
theorem xVa{l:List Int}{x:Int}:x∈xZ6 l↔x∈l:=by unfold xZ6;exact List.mem_mergeSort
theorem xZv(l:List Int):(xZ6 l).length=l.length:=by unfold xZ6;exact List.length_mergeSort _
theorem zJ8(l:List Int):(xZ6 l).Pairwise (· <= ·):=by
 have h:=List.pairwise_mergeSort (le:=fun x y:Int=>decide (x<=y)) (fun a b c h1 h2=>by simp at *;omega) (fun a b=>by simp;omega) l;unfold xZ6;exact h.imp (fun h=>by simpa using h)
theorem zWj{l:List Int}(h:l.Pairwise (· <= ·)):∀ m,m<=l.length->(Lib.compactUpTo l.toArray m).Pairwise (· < ·)/\(∀ x,x∈Lib.compactUpTo l.toArray m↔x∈l.take m):=by
 intro m
 induction m with
 | zero=>intro _;exact⟨by simp[Lib.compactUpTo],by simp[Lib.compactUpTo]⟩
 | succ m ih=>
  intro hm;obtain⟨h1,h2⟩:=ih (by omega);have hlt:m < l.length:=by omega
  have hg:l.toArray[m]! = l[m]:=by rw[getElem!_pos _ m (by simpa using hlt)];simp
  have ht:l.take (m+1)=l.take m ++ [l[m]]:=by rw[List.take_add_one,lGe hlt];rfl
  rw[Lib.compactUpTo_succ,ht]
  by_cases hk:Lib.keeps l.toArray m=true
  ·rw[if_pos hk,hg];refine⟨?_,fun x=>by rw[List.mem_append,List.mem_append,h2]⟩;rw[List.pairwise_append];refine⟨h1,by simp,fun a ha b hb=>?_⟩;rw[List.mem_singleton.1 hb];have ha':=(h2 a).1 ha;obtain⟨i,hi,rfl⟩:=List.getElem_of_mem ha';rw[List.length_take] at hi;rw[List.getElem_take];have hle:∀ i j (hi:i < l.length) (hj:j < l.length),i < j->l[i]<=l[j]:=fun i j hi hj hij=>List.pairwise_iff_getElem.1 h i j hi hj hij
   unfold Lib.keeps at hk;simp only[decide_eq_true_eq] at hk;rcases hk with hk | hk
   ·omega
   ·rw[hg,getElem!_pos _ (m - 1) (by simp;omega)] at hk;have hk':l[m]≠l[m - 1]:=by simpa using hk
    have h3:=hle (m - 1) m (by omega) hlt (by omega);rcases Nat.lt_or_ge i (m - 1) with h5 | h5
    ·have h4:=hle i (m - 1) (by omega) (by omega) h5;omega
    ·have h6:i=m - 1:=by omega
     subst h6;omega
  ·rw[if_neg hk,List.append_nil];refine⟨h1,fun x=>?_⟩;rw[h2,List.mem_append,List.mem_singleton];constructor
   ·exact .inl
   ·rintro (hx | rfl)
    ·exact hx
    ·unfold Lib.keeps at hk;simp only[decide_eq_true_eq,not_or,Classical.not_not] at hk;obtain⟨hk0,hk⟩:=hk;rw[hg,getElem!_pos _ (m - 1) (by simp;omega)] at hk;have hk':l[m]=l[m - 1]:=by simpa using hk
     rw[hk'];refine lMg (i:=m - 1) ?_;rw[List.getElem?_take_of_lt (by omega),lGe (by omega)]
theorem xW8{l:List Int}(h:l.Pairwise (· <= ·)):(Lib.compact l).Pairwise (· < ·)/\∀ x,x∈Lib.compact l↔x∈l:=by
 obtain⟨h1,h2⟩:=zWj h l.length (Nat.le_refl _);unfold Lib.compact;exact⟨h1,fun x=>by rw[h2,List.take_of_length_le (Nat.le_refl _)]⟩
theorem zQ8(l:List Int):(Lib.compact l).length<=l.length:=by
 unfold Lib.compact Lib.compactUpTo;rw[List.length_map];exact Nat.le_trans (List.length_filter_le _ _) (by simp)
theorem xK5{w:World}{base g n cap:Nat}{xs:List Int}(h:OwnI base w (.slice (some ⟨g,0,none⟩) n cap) xs):Holds (Value.int .i64) w g 0 xs.toArray/\g < w.heap.size/\base<=g/\n=xs.length/\n<=cap/\cap<=maxLen/\∃ cur e,w.heap[g]? = some (.cells cur e (0,0)):=by
 unfold OwnI at h;obtain⟨h1,h2⟩:=h;rcases h2 with ⟨h2,h4⟩ | ⟨g',cap',cur,hv,hb,hg,hn,hc,hs,ht⟩
 ·cases h2
 ·injection hv with e1 e2 e3
  injection e1 with e1
  injection e1 with e1
  subst e1;subst e3;subst e2;have hlt:g < w.heap.size:=by
   rcases Nat.lt_or_ge g w.heap.size with hl | hl
   ·exact hl
   ·rw[Array.getElem?_eq_none hl] at hg;cases hg
  refine⟨holds_of_blockI hg (by simpa using ht),hlt,hb,by simp,by simpa using hn,hc,cur,_,hg⟩
theorem vVo{w:World}{base g n cap k:Nat}{xs:List Int}(h:OwnI base w (.slice (some ⟨g,0,none⟩) n cap) xs)(hk:k<=xs.length):OwnI base w (.slice (some ⟨g,0,none⟩) k cap) (xs.take k):=by
 unfold OwnI at h ⊢;obtain⟨h1,h2⟩:=h;rcases h2 with ⟨h2,h4⟩ | ⟨g',cap',cur,hv,hb,hg,hn,hc,hs,ht⟩
 ·cases h2
 ·injection hv with e1 e2 e3
  injection e1 with e1
  injection e1 with e1
  subst e1;subst e3;subst e2;have hl:(xs.take k).length=k:=by rw[List.length_take];omega
  refine⟨by rw[List.length_map,Nat.mul_one],.inr ⟨g,cap,cur,by rw[hl],hb,hg,by omega,hc,hs,?_⟩⟩;rw[Nat.mul_one] at ht ⊢;rw[hl,List.map_take,<- ht,List.take_take];congr 1;omega
theorem zQ9{w:World}{base g n cap m:Nat}{xs ts:List Int}{os:Array Obj}(h:OwnI base w (.slice (some ⟨g,0,none⟩) n cap) xs)(hl:ts.length=xs.length) :
  OwnI base (grow (putRow (Value.int .i64) (Sort.ahead w m) g 0 ts.toArray) os) (.slice (some ⟨g,0,none⟩) n cap) ts/\w.grownBy (grow (putRow (Value.int .i64) (Sort.ahead w m) g 0 ts.toArray) os) (some g):=by
 unfold OwnI at h ⊢;obtain⟨h1,h2⟩:=h;rcases h2 with ⟨h2,h4⟩ | ⟨g',cap',cur,hv,hb,hg,hn,hc,hs,ht⟩
 ·cases h2
 ·injection hv with e1 e2 e3
  injection e1 with e1
  injection e1 with e1
  subst e1;subst e3;subst e2;have h5:=ownsRow_sortedI (w:=w) (base:=base) (os:=os) (n:=m) (cur:=cur) hl hb hg hn hc hs;exact⟨by rw[hl];exact h5,grownBy_sortedI _⟩
theorem vZq{w:World}{base g n cap m:Nat}{xs ts:List Int}(h:OwnI base w (.slice (some ⟨g,0,none⟩) n cap) xs)(hl:ts.length=xs.length) :
  OwnI base (putRow (Value.int .i64) (Sort.ahead w m) g 0 ts.toArray) (.slice (some ⟨g,0,none⟩) n cap) ts/\w.grownBy (putRow (Value.int .i64) (Sort.ahead w m) g 0 ts.toArray) (some g):=by
 have:=zQ9 (os:=#[]) (m:=m) h hl
 rwa [grow_empty] at this
section
variable {P:Program}{ρ ρ':Ren}
theorem vZr(Ly:Lays.n189 P ρ){w0 w:World}{base:Nat}{v:Value}{xs:List Int}(h:OwnI base w v xs)(h0:w0.heap.size<=base)(hB:Below w0.heap.size w0 w)(hl:xs.length<=1000000000000) :
  Calls P (ρ.f 189) #[v] w fun e w'=>e=.returned (.tuple #[])/\OwnI base w' v (xZ6 xs)/\Below w0.heap.size w0 w':=by
 obtain⟨A,c,rfl,-⟩:=h.form
 cases A with
 | none=>
  have hx:xs=[]:=by
   cases xs with
   | nil=>rfl
   | cons x xs=>
    unfold OwnI at h;rcases h.2 with ⟨h2,h4⟩ | ⟨g',cap',cur,hv,_⟩
    ·simp at h4
    ·cases hv
  subst hx;refine (Any.slices_Sort_int_none Ly none c w).mono ?_;rintro e w' ⟨rfl,rfl⟩;exact⟨rfl,by unfold xZ6;simpa using h,hB⟩
 | some ad=>
  have hf:∃ g,ad=⟨g,0,none⟩:=by
   unfold OwnI at h;rcases h.2 with ⟨h2,h4⟩ | ⟨g',cap',cur,hv,_⟩
   ·cases h2
   ·injection hv with e1 e2 e3
    injection e1 with e1
    exact⟨g',e1⟩
  obtain⟨g,rfl⟩:=hf;obtain⟨hH,hlt,hb,hn,hnc,hcm,_⟩:=xK5 h;refine (Any.slices_Sort_int Ly g 0 c xs w hH hlt (by omega)).mono ?_;rintro e w' ⟨rfl,m,os,rfl⟩;obtain⟨h5,h6⟩:=zQ9 (m:=m) (os:=os) (ts:=xZ6 xs) h (xZv xs);exact⟨rfl,h5,hB.grown h6 (by have:=hB.size;omega) (fun k hk=>by injection hk with hk;omega)⟩
theorem zQa(Ly:Lays2.n20 P ρ){w0 w:World}{base:Nat}{v:Value}{xs:List Int}(h:OwnI base w v xs)(h0:w0.heap.size<=base)(hB:Below w0.heap.size w0 w)(hl:xs.length<=1000000000000) :
  Calls P (ρ.f 20) #[v] w fun e w'=>∃ v',e=.returned v'/\OwnI base w' v' (Lib.compact xs)/\Below w0.heap.size w0 w':=by
 obtain⟨A,c,rfl,-⟩:=h.form
 cases A with
 | none=>
  have hx:xs=[]:=by
   cases xs with
   | nil=>rfl
   | cons x xs=>
    unfold OwnI at h;rcases h.2 with ⟨h2,h4⟩ | ⟨g',cap',cur,hv,_⟩
    ·simp at h4
    ·cases hv
  subst hx;refine (Any.slices_Compact_int_empty Ly none c w).mono ?_;rintro e w' ⟨rfl,rfl⟩;exact⟨_,rfl,by simpa[Lib.compact,Lib.compactUpTo] using h,hB⟩
 | some ad=>
  have hf:∃ g,ad=⟨g,0,none⟩:=by
   unfold OwnI at h;rcases h.2 with ⟨h2,h4⟩ | ⟨g',cap',cur,hv,_⟩
   ·cases h2
   ·injection hv with e1 e2 e3
    injection e1 with e1
    exact⟨g',e1⟩
  obtain⟨g,rfl⟩:=hf;obtain⟨hH,hlt,hb,hn,hnc,hcm,_⟩:=xK5 h;refine (Any.slices_Compact_int Ly g 0 c xs w hH (by omega) (by omega)).mono ?_;rintro e w' ⟨rfl,m,rfl⟩;have hcl:=zQ8 xs;obtain⟨h5,h6⟩:=vZq (m:=m) (ts:=Lib.compact xs ++ List.replicate (xs.length - (Lib.compact xs).length) 0) h (by simp;omega);refine⟨_,rfl,?_,hB.grown h6 (by have:=hB.size;omega) (fun k hk=>by injection hk with hk;omega)⟩;have h7:=vVo (k:=(Lib.compact xs).length) h5 (by simp)
  rwa [List.take_left] at h7
end
open Go.Shelf
def zJ9:Go.Shelf.Ren:=⟨fun | 0=>0 | 1=>1 | 2=>2 | 107=>74 | 108=>116 | 125=>98 | 128=>140 | 129=>141 | 189=>77 | 215=>142 | 216=>119 | 257=>118 | 294=>145 | 295=>146 | 296=>147 | 297=>148 | 298=>149 | 299=>150 | 300=>151 | 301=>152 | 328=>170 | 329=>166 | 330=>167 | 331=>171 | 332=>172 | 343=>179 | 347=>184 | 348=>185 | 349=>186 | 350=>187 | 351=>188 | 352=>189 | 353=>190 | 354=>191 | 355=>192 | 356=>193 | 357=>194 | 358=>195 | 359=>196 | 360=>198 | 361=>199 | 366=>209 | n=>n,fun | 0=>0 | 1=>1 | 2=>2 | 3=>3 | 4=>4 | 5=>5 | 6=>6 | 7=>7 | 8=>8 | 9=>9 | 10=>10 | 11=>11 | 12=>12 | 13=>13 | 14=>14 | 15=>15 | 16=>16 | 17=>17 | 18=>18 | 19=>19 | 20=>20 | 21=>21 | 28=>22 | 29=>122 | 30=>206 | 34=>76 | 35=>141 | 36=>124 | 43=>89 | 46=>178 | 47=>177 | 51=>56 | 52=>73 | 53=>229 | 54=>228 | 80=>267 | 81=>114 | 111=>70 | 112=>208 | 127=>276 | 131=>45 | 134=>207 | 164=>281 | 181=>230 | 182=>222 | 183=>223 | 184=>231 | 185=>232 | 186=>233 | 187=>234 | 218=>242 | 219=>243 | 220=>244 | 221=>248 | 222=>246 | 223=>249 | 228=>260 | 229=>261 | 230=>263 | 238=>268 | 239=>269 | 240=>270 | 241=>271 | 242=>272 | 243=>273 | 244=>274 | 245=>275 | 246=>277 | 247=>278 | 248=>279 | 249=>280 | n=>n,fun n=>n⟩
theorem zXh:Go.Proofs.Lays.n189 Tryz.prog zJ9:={
 mixed:=by kernel_rfl,
 f125:=Tryz.func98.trans (congrArg some (by kernel_rfl)),
 f128:=Tryz.func140.trans (congrArg some (by kernel_rfl)),
 f129:=Tryz.func141.trans (congrArg some (by kernel_rfl)),
 f189:=Tryz.func77.trans (congrArg some (by kernel_rfl)),
 f215:=Tryz.func142.trans (congrArg some (by kernel_rfl)),
 f216:=Tryz.func119.trans (congrArg some (by kernel_rfl)),
 f257:=Tryz.func118.trans (congrArg some (by kernel_rfl)),
 f294:=Tryz.func145.trans (congrArg some (by kernel_rfl)),
 f295:=Tryz.func146.trans (congrArg some (by kernel_rfl)),
 f296:=Tryz.func147.trans (congrArg some (by kernel_rfl)),
 f297:=Tryz.func148.trans (congrArg some (by kernel_rfl)),
 f298:=Tryz.func149.trans (congrArg some (by kernel_rfl)),
 f299:=Tryz.func150.trans (congrArg some (by kernel_rfl)),
 f300:=Tryz.func151.trans (congrArg some (by kernel_rfl)),
 f301:=Tryz.func152.trans (congrArg some (by kernel_rfl)),
 f328:=Tryz.func170.trans (congrArg some (by kernel_rfl)),
 f329:=Tryz.func166.trans (congrArg some (by kernel_rfl)),
 f330:=Tryz.func167.trans (congrArg some (by kernel_rfl)),
 f331:=Tryz.func171.trans (congrArg some (by kernel_rfl)),
 f332:=Tryz.func172.trans (congrArg some (by kernel_rfl)),
 f343:=Tryz.func179.trans (congrArg some (by kernel_rfl)),
 t0:=Tryz.underlying0,
 a0:=Tryz.isAgg0,
 z0:=Tryz.sizeOf0,
 v0:=Tryz.zeroValue0,
 t3:=Tryz.underlying3,
 a3:=Tryz.isAgg3,
 z3:=Tryz.sizeOf3,
 v3:=Tryz.zeroValue3,
 t4:=Tryz.underlying4,
 a4:=Tryz.isAgg4,
 z4:=Tryz.sizeOf4,
 v4:=Tryz.zeroValue4,
 t5:=Tryz.underlying5,
 a5:=Tryz.isAgg5,
 z5:=Tryz.sizeOf5,
 v5:=Tryz.zeroValue5,
 t9:=Tryz.underlying9,
 a9:=Tryz.isAgg9,
 z9:=Tryz.sizeOf9,
 v9:=Tryz.zeroValue9,
 t28:=Tryz.underlying22,
 a28:=Tryz.isAgg22,
 z28:=Tryz.sizeOf22,
 v28:=Tryz.zeroValue22,
 t46:=Tryz.underlying178,
 a46:=Tryz.isAgg178,
 z46:=Tryz.sizeOf178,
 v46:=Tryz.zeroValue178,
 t51:=Tryz.underlying56,
 a51:=Tryz.isAgg56,
 z51:=Tryz.sizeOf56,
 v51:=Tryz.zeroValue56,
 t53:=Tryz.underlying229,
 a53:=Tryz.isAgg229,
 z53:=Tryz.sizeOf229,
 v53:=Tryz.zeroValue229,
 t131:=Tryz.underlying45,
 a131:=Tryz.isAgg45,
 z131:=Tryz.sizeOf45,
 v131:=Tryz.zeroValue45,
 t182:=Tryz.underlying222,
 a182:=Tryz.isAgg222,
 z182:=Tryz.sizeOf222,
 v182:=Tryz.zeroValue222,
 t183:=Tryz.underlying223,
 a183:=Tryz.isAgg223,
 z183:=Tryz.sizeOf223,
 v183:=Tryz.zeroValue223,
 t218:=Tryz.underlying242,
 a218:=Tryz.isAgg242,
 z218:=Tryz.sizeOf242,
 v218:=Tryz.zeroValue242,
 t222:=Tryz.underlying246,
 a222:=Tryz.isAgg246,
 z222:=Tryz.sizeOf246,
 v222:=Tryz.zeroValue246,
 t228:=Tryz.underlying260,
 a228:=Tryz.isAgg260,
 z228:=Tryz.sizeOf260,
 v228:=Tryz.zeroValue260,
 t229:=Tryz.underlying261,
 a229:=Tryz.isAgg261,
 z229:=Tryz.sizeOf261,
 v229:=Tryz.zeroValue261 }
def xYf:Go.Shelf.Ren:=⟨fun | 0=>0 | 1=>1 | 2=>2 | 15=>73 | 20=>144 | 25=>78 | 31=>119 | 32=>120 | 37=>142 | 40=>184 | 41=>185 | 42=>186 | 43=>187 | 44=>188 | 45=>189 | 46=>190 | 47=>191 | 48=>192 | 49=>193 | 50=>194 | 51=>195 | 52=>196 | 53=>198 | 54=>199 | 55=>209 | n=>n,fun | 0=>0 | 1=>1 | 2=>2 | 3=>3 | 4=>4 | 5=>5 | 6=>6 | 7=>7 | 8=>8 | 9=>9 | 10=>10 | 11=>11 | 12=>12 | 13=>13 | 14=>14 | 15=>15 | 16=>16 | 17=>17 | 18=>18 | 19=>19 | 20=>20 | 21=>21 | 22=>22 | 23=>140 | 33=>45 | 34=>142 | 36=>76 | 40=>178 | 41=>208 | 42=>70 | 45=>141 | 46=>267 | 47=>268 | 48=>269 | 49=>270 | 50=>271 | 51=>272 | 52=>114 | 53=>56 | 54=>273 | 55=>274 | 56=>275 | 57=>276 | 58=>277 | 59=>278 | 60=>279 | 61=>280 | 62=>281 | n=>n,fun n=>n⟩
theorem zXi:Go.Proofs.Lays2.n20 Tryz.prog xYf:={
 mixed:=by kernel_rfl,
 f20:=Tryz.func144.trans (congrArg some (by kernel_rfl)),
 t0:=Tryz.underlying0,
 a0:=Tryz.isAgg0,
 z0:=Tryz.sizeOf0,
 v0:=Tryz.zeroValue0,
 t3:=Tryz.underlying3,
 a3:=Tryz.isAgg3,
 z3:=Tryz.sizeOf3,
 v3:=Tryz.zeroValue3,
 t4:=Tryz.underlying4,
 a4:=Tryz.isAgg4,
 z4:=Tryz.sizeOf4,
 v4:=Tryz.zeroValue4,
 t22:=Tryz.underlying22,
 a22:=Tryz.isAgg22,
 z22:=Tryz.sizeOf22,
 v22:=Tryz.zeroValue22,
 i3:=by kernel_rfl }
theorem zXj{l:List Int}(h:l.Pairwise (· < ·)){i j:Nat}{x y:Int}(hi:l[i]? = some x)(hj:l[j]? = some y)(hij:i < j):x < y:=by
 obtain⟨a1,rfl⟩:=List.getElem?_eq_some_iff.1 hi;obtain⟨a2,rfl⟩:=List.getElem?_eq_some_iff.1 hj;exact List.pairwise_iff_getElem.1 h i j a1 a2 hij
theorem zJa(A B:Option Addr)(c d:Nat)(s part:List Int)(w:World)(hI:Ints w A s)(hJ:Ints w B part)(hl:s.length<=9223372036854775807)(hm:part.length<=9223372036854775807)(hs:s.Pairwise (· < ·))(hp:part.Pairwise (· < ·)) :
  Calls Tryz.prog 68 #[.slice A s.length c,.slice B part.length d] w fun e w'=>e=.returned (.bool (decide (∀ q∈part,q∈s)))/\w=w':=by
 have HS:=lHd hs;have HP:=lHd hp;clear hs hp;go_enter Tryz.func68,Tryz.ntmps68;go_wp2
 go_loop [5,10] (fun a b=>∃ j k:Nat,j<=s.length/\k<=part.length/\a=.int .i64 j/\b=.int .i64 k/\Hid (∀ q∈part.take k,q∈s)/\Hid (∀ i:Nat,∀ y z:Int,i < j->s[i]? = some y->∀ k':Nat,k<=k'->part[k']? = some z->y < z)) (fun a b=>part.length - (intOf b).toNat)
 case atStart=>exact⟨0,0,by omega,by omega,rfl,rfl,lHd (by simp),lHd (fun i y z h=>absurd h (by omega))⟩
 case round=>
  obtain⟨j,k,hj,hk,rfl,rfl,H1,H2⟩:=hrel
  by_cases hlt:k < part.length
  ·obtain⟨bd,x,rfl,hx,hc⟩:=hJ.at_ hlt;have HIN:=lHd (lMg hx.out);go_wp2
   go_loop [5] (fun a=>∃ i:Nat,i<=s.length/\a=.int .i64 i/\Hid (∀ i':Nat,∀ y:Int,i' < i->s[i']? = some y->y < x)) (fun a=>s.length - (intOf a).toNat)
   case atStart=>exact⟨j,hj,rfl,lHd (fun i' y h hy=>H2.out i' y x h hy k (Nat.le_refl _) hx.out)⟩
   case round=>
    obtain⟨i,hi,rfl,H3⟩:=hrel
    by_cases hil:i < s.length
    ·obtain⟨ad,y,rfl,hy,hcy⟩:=hI.at_ hil
     by_cases hyx:y < x
     ·go_wp2
      go_round
      case rel=>exact⟨i+1,by omega,by go_num,lHd (fun i' z h hz=>by
       by_cases e:i'=i
       ·subst e;rw[hy.out] at hz;injection hz with hz;omega
       ·exact H3.out i' z (by omega) hz)⟩
      case measure=>simp[intOf];omega
     ·by_cases he:y=x
      ·subst he;have HY:=lHd (lMg hy.out);have HT:Hid (∀ q∈part.take (k+1),q∈s):=lHd (fun q hq=>by
        rw[List.take_add_one,hx.out] at hq;rcases List.mem_append.1 hq with h | h
        ·exact H1.out q h
        ·have h':q=y:=by simpa using h
         rw[h'];exact HY.out)
       have HN:Hid (∀ i':Nat,∀ u z:Int,i' < i->s[i']? = some u->∀ k':Nat,k+1<=k'->part[k']? = some z->u < z):=lHd (fun i' u z h hu k' hk' hz=>by
        have h1:=H3.out i' u h hu;have h2:=zXj HP.out hx.out hz (by omega);omega)
       go_wp2
       go_round
       case rel=>exact⟨i,k+1,by omega,by omega,rfl,by go_num,HT,HN⟩
       case measure=>simp[intOf];omega
      ·have HN:Hid (¬ ∀ q∈part,q∈s):=lHd (fun h=>by
        obtain⟨m,hm⟩:=List.mem_iff_getElem?.1 (h x HIN.out);rcases Nat.lt_or_ge m i with h1 | h1
        ·have:=H3.out m x h1 hm;omega
        ·rcases Nat.lt_or_ge i m with h2 | h2
         ·have:=zXj HS.out hy.out hm h2;omega
         ·have e:m=i:=by omega
          subst e;rw[hy.out] at hm;injection hm with hm
          exact he hm)
       have hne:(y != x)=true:=by simpa using he
       go_wp2;go_ret;exact⟨xX2 (decide_eq_false HN.out).symm,rfl⟩
    ·have HN:Hid (¬ ∀ q∈part,q∈s):=lHd (fun h=>by
      obtain⟨m,hm⟩:=List.mem_iff_getElem?.1 (h x HIN.out);have:=H3.out m x (by have:=(List.getElem?_eq_some_iff.1 hm).1;omega) hm;omega)
     obtain rfl:i=s.length:=by omega
     go_wp2;go_ret;exact⟨xX2 (decide_eq_false HN.out).symm,rfl⟩
  ·have HT:Hid (∀ q∈part,q∈s):=lHd (by
    have:=H1.out
    rwa [List.take_of_length_le (by omega)] at this)
   go_wp2;go_ret;exact⟨xX2 (decide_eq_true HT.out).symm,rfl⟩
def zWk(s add del:List Int):List Int:=Go.Lib.compact (xZ6 (s.filter (fun x=>!decide (x∈del)) ++ add))
theorem zV5{s add del:List Int}{x:Int}:x∈zWk s add del↔x∈add\/(x∈s/\x∉del):=by
 unfold zWk;rw[(xW8 (zJ8 _)).2,xVa,List.mem_append,List.mem_filter];simp only[Bool.not_eq_true',decide_eq_false_iff_not];exact or_comm
theorem zWl(s add del:List Int):(zWk s add del).Pairwise (· < ·):=(xW8 (zJ8 _)).1
theorem zWm{n:Nat}{s:List Int}{o:OpV}(hs:∀ x∈s,0<=x/\x < (n:Int))(ha:∀ x∈o.add,0<=x/\x < (n:Int)):zWk s o.add o.del=xJ5 n s o:=vQn hs ha (zWl _ _ _) (fun x=>zV5)
theorem zJb{del l:List Int}{k:Nat}{x:Int}(hx:l[k]? = some x)(h:decide (x∈del)=true):(l.take (k+1)).filter (fun x=>!decide (x∈del))=(l.take k).filter (fun x=>!decide (x∈del)):=by
 rw[List.take_add_one,hx,List.filter_append];simp[of_decide_eq_true h]
theorem zXk{del l:List Int}{k:Nat}{x:Int}(hx:l[k]? = some x)(h:decide (x∈del)=false):(l.take k).filter (fun x=>!decide (x∈del)) ++ [x]=(l.take (k+1)).filter (fun x=>!decide (x∈del)):=by
 rw[List.take_add_one,hx,List.filter_append];simp[of_decide_eq_false h]
theorem vZs(B:Option Addr)(d:Nat)(ys:List Int)(x:Int)(w:World)(v:Bool)(hv:decide (x∈ys)=v)(hJ:Ints w B ys)(hl:ys.length<=1000000000000)(hs:ys.Pairwise (· < ·)) :
  Calls Tryz.prog 78 #[.slice B ys.length d,.int .i64 x] w fun e w'=>∃ k:Nat,e=.returned (.tuple #[.int .i64 k,.bool v])/\Below w.heap.size w w':=
 (zQb B d ys x w hJ hl hs).mono fun e w' h=>by
  obtain⟨k,h1,_,_,_,h2⟩:=h;exact⟨k,by rw[<- hv];exact h1,h2⟩
theorem xW9(w:World)(S A1 A2:Option Addr)(c c1 c2:Nat)(s add del:List Int)(hS:Ints w S s)(hA:Ints w A1 add)(hD:Ints w A2 del)(hls:s.length<=100000000000)(hla:add.length<=100000000000)(hld:del.length<=100000000000)(hsd:del.Pairwise (· < ·))(hnil:A1=none->c1=0) :
  Calls Tryz.prog 114 #[.slice S s.length c,.slice A1 add.length c1,.slice A2 del.length c2] w fun e w'=>∃ v,e=.returned v/\OwnI w.heap.size w' v (zWk s add del)/\Below w.heap.size w w':=by
 have HS:=lHd hsd;clear hsd;go_enter Tryz.func114,Tryz.ntmps114
 go_wp2_with fail
 go_loopw [7,14] (fun v i wr=>∃ k:Nat,k<=s.length/\i=.int .i64 k/\OwnI (w.heap.size) wr v ((s.take k).filter (fun x=>!decide (x∈del)))/\Below w.heap.size w wr) (fun _ i _=>s.length - (intOf i).toNat)
 case atStart=>exact⟨0,Nat.zero_le _,rfl,OwnI.nil _ _,Below.refl _ _⟩
 case round=>
  obtain⟨k,hk,rfl,hown,hBr⟩:=hrel;obtain⟨w2,rfl⟩:∃ wo:World,wo=wr:=⟨_,rfl⟩;have dRs:=hBr.size;have hlf:((s.take k).filter (fun x=>!decide (x∈del))).length<=s.length:=by
   have h1:=List.length_filter_le (fun x=>!decide (x∈del)) (s.take k);rw[List.length_take] at h1;omega
  have HLF:=lHd hlf;clear hlf;have hlen:((s.take k).filter (fun x=>!decide (x∈del))).length < 1000000000000:=by have:=HLF.out;omega
  by_cases hlt:k < s.length
  ·obtain⟨ad,x,rfl,hx,hcx⟩:=(hS.below hBr).at_ hlt
   cases hd:decide (x∈del) with
   | true=>
    have HD:=lHd hd;have HF:=lHd (zJb hx.out hd);clear hd
    go_wp2_with fail
    refine (vZs _ _ _ _ _ true HD.out (hD.below bch) (by omega) HS.out).mono ?_;rintro e w1 ⟨kf,rfl,hB1⟩;have D1:=xJ3 w hB1 bch;have d1s:=D1.size;have Ew2_1:=xJ3 w2 hB1 bch;go_wp2
    go_roundw
    case rel=>exact⟨k+1,by omega,by go_num,by rw[HF.out];exact hown.below bch,bch⟩
    case measure=>simp[intOf];omega
   | false=>
    have HD:=lHd hd;have HF:=lHd (zXk hx.out hd);clear hd
    go_wp2_with fail
    refine (vZs _ _ _ _ _ false HD.out (hD.below bch) (by omega) HS.out).mono ?_;rintro e w1 ⟨kf,rfl,hB1⟩;have D1:=xJ3 w hB1 bch;have d1s:=D1.size;have Ew2_1:=xJ3 w2 hB1 bch;have hown1:=hown.below bch
    go_wp2_with (at_builtin;go_must (refine xXl rfl (.tmp 26) (.tmp 28) rfl w [] (w.heap.size) u7 _ (x) rfl (OwnI.below hown1 ?p1) ⟨w1.heap.size,0,none⟩ 1 rfl ?p2 hlen ?p3 ?p4 ?p5 ?p6 ?p7 ?_;(case p1=>exact bch);(case p2=>simp[Cls,go_sem]);(case p3=>(first | omega | (simp <;> omega)));(case p4=>(first | omega | (simp <;> omega)));(case p5=>exact bch);(case p6=>simp[Cls,go_sem]);(case p7=>(simp <;> omega));intro v2 w2 o2 D2 C2 sz2;have d2s:=D2.size))
    go_roundw
    case rel=>exact⟨k+1,by omega,by go_num,by rw[<- HF.out];exact o2,bch⟩
    case measure=>simp[intOf];omega
  ·obtain rfl:k=s.length:=by omega
   have HTK:=lHd (List.take_length (l:=s));have hlen2:((s.take s.length).filter (fun x=>!decide (x∈del))).length+add.length<=1000000000000:=by have:=HLF.out;omega
   go_wp2_with (at_builtin;go_must (refine zKa rfl (.tmp 31) (.tmp 32) rfl w [] (w.heap.size) u7 _ rfl (hown.below ?p0) A1 c1 _ add rfl rfl hnil ?p1 hlen2 ?p3 ?p4 ?p5 trivial ?p6 ?_;(case p0=>exact bch);(case p1=>exact hA.below bch);(case p3=>(first | omega | (simp <;> omega)));(case p4=>(first | omega | (simp <;> omega)));(case p5=>exact bch);(case p6=>simp);intro v4 w4 o4 D4 C4 sz4;have d4s:=D4.size))
   have hl4:((s.take s.length).filter (fun x=>!decide (x∈del)) ++ add).length<=1000000000000:=by rw[List.length_append];exact hlen2
   go_wp2_with fail
   refine (vZr zXh (w0:=w) (base:=w.heap.size) (o4.below bch) (Nat.le_refl _) bch hl4).mono ?_;rintro e w5 ⟨rfl,o5,D5⟩
   go_wp2_with fail
   refine (zQa zXi (w0:=w) (base:=w.heap.size) (o5.below bch) (Nat.le_refl _) bch (by rw[xZv];exact hl4)).mono ?_;rintro e w6 ⟨v6,rfl,o6,D6⟩;go_wp2;go_ret;exact⟨_,rfl,by unfold zWk;rw[HTK.out] at o6;exact o6,D6⟩
end
theorem OpsRead.below{w w':World}{A:Option Addr}{ops:List OpV}(h:OpsRead w A ops)(hb:Below w.heap.size w w'):OpsRead w' A ops:=fun k o hk=>by
 obtain⟨ad,A0,c0,A1,c1,A2,c2,e,h0,h1,h2,h3,hm,hr⟩:=h k o hk;exact⟨ad,A0,c0,A1,c1,A2,c2,e,(hb.cell (World.block_lt_of_cell? w _ h0)).trans h0,(hb.cell (World.block_lt_of_cell? w _ h1)).trans h1,(hb.cell (World.block_lt_of_cell? w _ h2)).trans h2,(hb.cell (World.block_lt_of_cell? w _ h3)).trans h3,hm.below hb,hr⟩
theorem OpsRead.at2{w w':World}{A:Option Addr}{ops:List OpV}{k:Nat}(h:OpsRead w A ops)(hb:Below w.heap.size w w')(hk:k < ops.length):∃ ad o A0 c0 A1 c1 A2 c2,A=some ad/\Hid (ops[k]? = some o)/\w'.cell? (ad.add (k * 4))=some (.slice A0 o.pre.length c0)/\w'.cell? ⟨(ad.add (k * 4)).block,(ad.add (k * 4)).off+1,none⟩=some (.slice A1 o.add.length c1) /\
  w'.cell? ⟨(ad.add (k * 4)).block,(ad.add (k * 4)).off+2,none⟩=some (.slice A2 o.del.length c2)/\w'.cell? ⟨(ad.add (k * 4)).block,(ad.add (k * 4)).off+3,none⟩=some (.int .i64 o.cost)/\OpMem w A0 A1 A2 o/\Hid (A1=none->c1=0):=by
 obtain⟨ad,A0,c0,A1,c1,A2,c2,e,h0,h1,h2,h3,hm,hr⟩:=h k _ (lGe hk);exact⟨ad,ops[k],A0,c0,A1,c1,A2,c2,e,lHd (lGe hk),(hb.cell (World.block_lt_of_cell? w _ h0)).trans h0,(hb.cell (World.block_lt_of_cell? w _ h1)).trans h1,(hb.cell (World.block_lt_of_cell? w _ h2)).trans h2,(hb.cell (World.block_lt_of_cell? w _ h3)).trans h3,hm,lHd (fun e=>(hr.2.1.1 e).2)⟩
theorem xZk(A B:Option Addr)(c d:Nat)(s part:List Int)(w:World)(v:Bool)(hI:Ints w A s)(hJ:Ints w B part)(hl:s.length<=9223372036854775807)(hm:part.length<=9223372036854775807)(hs:s.Pairwise (· < ·))(hp:part.Pairwise (· < ·))(hv:(∀ q∈part,q∈s)↔v=true) :
  Calls Tryz.prog 68 #[.slice A s.length c,.slice B part.length d] w fun e w'=>e=.returned (.bool v)/\w=w':=
 (zJa A B c d s part w hI hJ hl hm hs hp).mono fun e w' h=>⟨by
  rw[h.1]
  cases v with
  | true=>rw[decide_eq_true (hv.2 rfl)]
  | false=>rw[decide_eq_false (fun h=>by have:=hv.1 h;cases this)],h.2⟩
theorem xVw(w:World)(t:TaskV)(Ai Ag Ao:Option Addr)(ci cg co:Nat)(hT:TaskMem w Ai Ag Ao t)(S:Option Addr)(cs:Nat)(st:List Int)(hS:Ints w S st)(hst:SetP st t.facts)(hv:Valid t)(k:Nat)(hlt:k < t.ops.length)(v:Bool)(hval:xWo t.ops st (k:Int)↔v=true) :
  Calls Tryz.prog 105 #[.agg #[.int .i64 t.facts,.slice Ai t.init.length ci,.slice Ag t.goal.length cg,.slice Ao t.ops.length co],.slice S st.length cs,.int .i64 (k:Int)] w fun e w'=>e=.returned (.bool v)/\Below w.heap.size w w':=by
 have HST:=lHd (SetP.pairwise hst);have hlS:st.length<=9223372036854775807:=by have:=SetP.length hst hv.f0;have:=hv.f1;omega
 obtain⟨ad,o,A0,c0,A1,c1,A2,c2,rfl,ho,hc0,hc1,hc2,hc3,hm⟩:=hT.ops.at2 (w':=(w.alloc (.cells #[.int .i64 t.facts,.slice Ai t.init.length ci,.slice Ag t.goal.length cg,.slice Ao t.ops.length co] 25))) bch hlt;have HO:=lHd (hv.ops o (lMg ho.out)).1;have hlp:=hm.lpre.le;have HC:Hid ((∀ q∈o.pre,q∈st)↔v=true):=lHd (by
  rw[<- hval];constructor
  ·exact fun h=>⟨o,by simpa using ho.out,h⟩
  ·rintro ⟨o',h1,h2⟩;have h3:=ho.out;simp only[Int.toNat_natCast] at h1;rw[h1] at h3;injection h3 with h3
   rw[<- h3];exact h2)
 clear hval hst hv;go_enter Tryz.func105,Tryz.ntmps105
 go_wp2_with fail
 refine (xZk _ _ _ _ _ _ _ v (hS.below bch) (hm.pre.below bch) hlS hlp HST.out (SetP.pairwise HO.out.1) HC.out).mono ?_;rintro e w9 ⟨rfl,rfl⟩;go_wp2;refine bodyPost_ret (v:=.bool v) ?_ rfl ⟨rfl,bch⟩;simp[results,Tryz.results105,go_sem]
theorem zJp(w:World)(t:TaskV)(Ai Ag Ao:Option Addr)(ci cg co:Nat)(hR:OpsRead w Ao t.ops)(S:Option Addr)(cs:Nat)(st:List Int)(hS:Ints w S st)(hst:SetP st t.facts)(n:Nat)(hn:t.facts=n)(hv:Valid t)(k:Nat)(hlt:k < t.ops.length) :
  Calls Tryz.prog 71 #[.agg #[.int .i64 t.facts,.slice Ai t.init.length ci,.slice Ag t.goal.length cg,.slice Ao t.ops.length co],.slice S st.length cs,.int .i64 (k:Int)] w fun e w'=>∃ v,e=.returned v/\OwnI w.heap.size w' v (xJ5 n st (xZ4 t.ops (k:Int)))/\Below w.heap.size w w':=by
 have hlS:st.length<=100000000000:=by have:=SetP.length hst hv.f0;have:=hv.f1;omega
 obtain⟨ad,o,A0,c0,A1,c1,A2,c2,rfl,ho,hc0,hc1,hc2,hc3,hm,hnil⟩:=hR.at2 (w':=(w.alloc (.cells #[.int .i64 t.facts,.slice Ai t.init.length ci,.slice Ag t.goal.length cg,.slice Ao t.ops.length co] 25))) bch hlt;have HO:=lHd (hv.ops o (lMg ho.out)).1;have hla:o.add.length<=100000000000:=by have:=SetP.length HO.out.2.1 hv.f0;have:=hv.f1;omega
 have hld:o.del.length<=100000000000:=by have:=SetP.length HO.out.2.2.1 hv.f0;have:=hv.f1;omega
 have HU:Hid (zWk st o.add o.del=xJ5 n st (xZ4 t.ops (k:Int))):=lHd (by
  rw[xV4 (o:=o) (by simpa using ho.out)];rw[hn] at hst;refine zWm hst.1 ?_;have:=HO.out.2.1;rw[hn] at this;exact this.1)
 clear hst hv hn;go_enter Tryz.func71,Tryz.ntmps71
 go_wp2_with fail
 refine (xW9 _ _ _ _ _ _ _ _ _ _ (hS.below bch) (hm.add.below bch) (hm.del.below bch) hlS hla hld (SetP.pairwise HO.out.2.2.1) hnil.out).mono ?_;rintro e w9 ⟨v9,rfl,ho9,hB9⟩;have D9:=xJ3 w hB9 bch;go_wp2;refine bodyPost_ret (v:=v9) ?_ rfl ⟨_,rfl,?_,bch⟩
 ·simp[results,Tryz.results71,go_sem]
 ·rw[<- HU.out];exact OwnI.mono ho9 (by simp;omega)
def xV0(m:Nat)(plan:List Int):Prop:=plan.length<=60/\∀ op∈plan,0<=op/\op < (m:Int)
theorem vJd(w:World)(m:Nat)(A:Option Addr)(c:Nat)(plan:List Int)(hI:Ints w A plan)(hmm:m<=1000000)(hok:xV0 m plan) :
  Calls Tryz.prog 102 #[.int .i64 (m:Int),.slice A plan.length c] w fun e w'=>e=.returned (.agg #[.int .i64 0,.int .i64 0])/\Below w.heap.size w w':=by
 have hl60:=hok.1;have HOK:=lHd hok.2;clear hok;go_enter Tryz.func102,Tryz.ntmps102
 go_wp2_with fail
 go_loopw [13] (fun i wr=>∃ k:Nat,k<=plan.length/\i=.int .i64 k/\Below w.heap.size w wr/\Cls wr [(w.heap.size,0,.int .i64 0),(w.heap.size,1,.int .i64 0)]) (fun i _=>plan.length - (intOf i).toNat)
 case atStart=>exact⟨0,Nat.zero_le _,rfl,bch,(by simp[Cls,go_sem])⟩
 case round=>
  obtain⟨k,hk,rfl,hBr,hCr⟩:=hrel;have Fr:=hCr;simp only[Cls,and_true] at Fr;have yrw0:w.heap.size < wr.heap.size:=hCr.blk (b:=w.heap.size) (k:=0) (v:=.int .i64 0) (by simp)
  by_cases hlt:k < plan.length
  ·obtain⟨ad,x,rfl,hx,hcx⟩:=(hI.below hBr).at_ hlt;have hx0:=(HOK.out x (lMg hx.out)).1;have hx1:=(HOK.out x (lMg hx.out)).2;go_wp2
   go_roundw
   case rel=>exact⟨k+1,by omega,by go_num,bch,(by simp[Cls,go_sem,Fr,yrw0])⟩
   case measure=>simp[intOf];omega
  ·have hge:¬ k < plan.length:=hlt;go_wp2;refine bodyPost_ret (v:=.agg #[.int .i64 0,.int .i64 0]) ?_ rfl ⟨rfl,bch⟩;simp[results,Tryz.results102,go_sem,Fr,yrw0]
theorem zQf(w:World)(t:TaskV)(Ai Ag Ao:Option Addr)(ci cg co:Nat)(hT:TaskMem w Ai Ag Ao t)(P:Option Addr)(cp:Nat)(plan:List Int)(hP:Ints w P plan)(hlP:plan.length<=9223372036854775807)(hv:Valid t)(hs:xV0 t.ops.length plan) :
  Calls Tryz.prog 60 #[.agg #[.int .i64 t.facts,.slice Ai t.init.length ci,.slice Ag t.goal.length cg,.slice Ao t.ops.length co],.slice P plan.length cp] w fun e w'=>e=.returned (.agg #[.int .i64 0,.int .i64 0])/\Below w.heap.size w w':=by
 have HV:=lHd (xZ8 hv);have h40:t.ops.length<=1000000:=by have:=hv.nops;omega
 have HS:=lHd hs;clear hs;go_enter Tryz.func60,Tryz.ntmps60
 go_wp2_with fail
 refine (xXq _ _ _ _ _ _ _ _ (hT.below bch)).mono ?_;rintro e w1 ⟨he,hB1⟩;rw[HV.out] at he;subst he;have D1:=xJ3 w hB1 bch;have C1:=Cls.below (l:=[(w.heap.size,0,.int .i64 t.facts),(w.heap.size,1,.slice Ai t.init.length ci),(w.heap.size,2,.slice Ag t.goal.length cg),(w.heap.size,3,.slice Ao t.ops.length co),(w.heap.size+1,0,.int .i64 0),(w.heap.size+1,1,.int .i64 0)]) hB1 (by simp[Cls,go_sem]);have F1:=C1;simp only[Cls,and_true] at F1;have y1w1:w.heap.size+1 < w1.heap.size:=C1.blk (b:=w.heap.size+1) (k:=0) (v:=.int .i64 0) (by simp);have y1w0:w.heap.size < w1.heap.size:=(by omega)
 go_wp2_with fail
 refine (vJd _ _ _ _ _ (hP.below bch) h40 HS.out).mono ?_;rintro e w2 ⟨rfl,hB2⟩;have D2:=xJ3 w hB2 bch;have C2:=Cls.below (l:=[(w.heap.size,0,.int .i64 t.facts),(w.heap.size,1,.slice Ai t.init.length ci),(w.heap.size,2,.slice Ag t.goal.length cg),(w.heap.size,3,.slice Ao t.ops.length co),(w.heap.size+1,0,.int .i64 0),(w.heap.size+1,1,.int .i64 0),(w1.heap.size,0,.int .i64 0),(w1.heap.size,1,.int .i64 0)]) hB2 (by simp[Cls,go_sem,F1,y1w1,y1w0]);have F2:=C2;simp only[Cls,and_true] at F2;have y2w1:w.heap.size+1 < w2.heap.size:=C2.blk (b:=w.heap.size+1) (k:=0) (v:=.int .i64 0) (by simp);have y2w10:w1.heap.size < w2.heap.size:=C2.blk (b:=w1.heap.size) (k:=0) (v:=.int .i64 0) (by simp);go_wp2;refine bodyPost_ret (v:=.agg #[.int .i64 0,.int .i64 0]) ?_ rfl ⟨rfl,bch⟩;simp[results,Tryz.results60,go_sem,F2,y2w1,y2w10]
def Sep(u v:Value):Prop:=∀ k,u.ownBlock=some k->v.ownBlock≠some k
theorem Sep.symm{u v:Value}(h:Sep u v):Sep v u:=fun k h1 h2=>h k h2 h1
theorem zKt(v:Value):Sep (.slice none 0 0) v:=fun k h=>by cases h
theorem Sep.next{u v v':Value}{K:Nat}(h:Sep u v)(hv:v'.ownBlock=v.ownBlock\/v'.ownBlock=some K)(hu:∀ k,u.ownBlock=some k->k < K):Sep u v':=fun k h1 h2=>by
 rcases hv with e | e
 ·exact h k h1 (by rw[<- e];exact h2)
 ·rw[e] at h2;injection h2 with h2;have:=hu k h1;omega
def PWl(u:Option Nat)(w:World)(row:Option Nat)(cs:List Value)(r:List Int):Prop:=∃ A c,cs=[.slice A r.length c]/\Ints w A r/\(r≠[]->∀ ad,A=some ad->some ad.block≠row/\some ad.block≠u/\ad.block < w.heap.size)
theorem zQt{w:World}{A:Option Addr}{r:List Int}(h:r=[]):Ints w A r:=by subst h;exact Ints.nil _ _
theorem zY0(u:Option Nat):Stable (PWl u):=by
 constructor
 ·rintro w w' row cs r ⟨A,c,e,hI,hn⟩ hb;exact⟨A,c,e,hI.below hb,fun h ad he=>⟨(hn h ad he).1,(hn h ad he).2.1,Nat.lt_of_lt_of_le (hn h ad he).2.2 hb.size⟩⟩
 ·rintro w w' row cs r ⟨A,c,e,hI,hn⟩ hg;have hI':Ints w' A r:=by
   by_cases h:r=[]
   ·exact zQt h
   ·exact Ints.grown hI hg (fun ad he=>(hn h ad he).1)
  refine⟨⟨A,c,e,hI',fun h ad he=>⟨(hn h ad he).1,(hn h ad he).2.1,Nat.lt_of_lt_of_le (hn h ad he).2.2 hg.size⟩⟩,⟨A,c,e,hI',fun h ad he=>⟨fun hc=>?_,(hn h ad he).2.1,Nat.lt_of_lt_of_le (hn h ad he).2.2 hg.size⟩⟩⟩;injection hc with hc
  have:=(hn h ad he).2.2;omega
def OwnW(u:Option Nat)(base:Nat)(w:World)(v:Value)(ls:List (List Int)):Prop:=OwnEs (PWl u) 22 1 base w v ls
theorem OwnW.below{u:Option Nat}{base:Nat}{w w':World}{v:Value}{ls:List (List Int)}(h:OwnW u base w v ls)(hb:Below w.heap.size w w'):OwnW u base w' v ls:=OwnEs.below (zY0 u) h hb
theorem OwnW.other{u u':Option Nat}{base:Nat}{w w':World}{v:Value}{ls:List (List Int)}(h:OwnW u base w v ls)(hg:w.grownBy w' u)(hne:∀ k,u=some k->v.ownBlock≠some k)(hu:u'=u\/u'=some w.heap.size):OwnW u' base w' v ls:=by
 obtain⟨cells,⟨h1,h2⟩,h3⟩:=h;refine⟨cells,⟨h1,?_⟩,fun i a ha=>?_⟩
 ·rcases h2 with h2 | ⟨g,cap,cur,hv,hb,hh,r⟩
  ·exact Or.inl h2
  ·refine Or.inr ⟨g,cap,cur,hv,hb,(hg.block g ?_ (fun e=>hne g e.symm (by rw[hv];rfl))).trans hh,r⟩;rcases Nat.lt_or_ge g w.heap.size with hl | hl
   ·exact hl
   ·rw[Array.getElem?_eq_none hl] at hh;cases hh
 ·obtain⟨A,c,e,hI,hn⟩:=h3 i a ha;have hI':Ints w' A a:=by
   by_cases h:a=[]
   ·exact zQt h
   ·exact Ints.grown hI hg (fun ad he=>(hn h ad he).2.1)
  refine⟨A,c,e,hI',fun h ad he=>⟨(hn h ad he).1,fun hc=>?_,Nat.lt_of_lt_of_le (hn h ad he).2.2 hg.size⟩⟩;rcases hu with hu | hu
  ·rw[hu] at hc;exact (hn h ad he).2.1 hc
  ·rw[hu] at hc;injection hc with hc
   have:=(hn h ad he).2.2;omega
def LLR(w:World)(A:Option Addr)(ls:List (List Int)):Prop:=∀ (i:Nat) (r:List Int),ls[i]? = some r->∃ ad B c,A=some ad/\w.cell? (ad.add i)=some (.slice B r.length c)/\Ints w B r
theorem LLR.below{w w':World}{A:Option Addr}{ls:List (List Int)}(h:LLR w A ls)(hb:Below w.heap.size w w'):LLR w' A ls:=fun i r hr=>by
 obtain⟨ad,B,c,e,h1,h2⟩:=h i r hr;exact⟨ad,B,c,e,(hb.cell (World.block_lt_of_cell? w _ h1)).trans h1,h2.below hb⟩
theorem LLR.at_{w:World}{A:Option Addr}{ls:List (List Int)}{k:Nat}(h:LLR w A ls)(hk:k < ls.length):∃ ad r B c,A=some ad/\Hid (ls[k]? = some r)/\w.cell? (ad.add k)=some (.slice B r.length c)/\Ints w B r:=by
 obtain⟨ad,B,c,e,h1,h2⟩:=h k _ (lGe hk);exact⟨ad,_,B,c,e,lHd (lGe hk),h1,h2⟩
inductive Rch(n:Nat)(ops:List OpV)(s:List Int):List Int->Prop
 | init:Rch n ops s s
 | step {r:List Int} {op:Nat}:Rch n ops s r->op < ops.length->xWo ops r (op:Int)->Rch n ops s (xJ5 n r (xZ4 ops (op:Int)))
structure RSt(n:Nat)(ops:List OpV)(st:List Int)(ls:List (List Int))(k p:Nat):Prop where
 head:ls[0]? = some st
 set:∀ l∈ls,SetP l (n:Int)
 rch:∀ l∈ls,Rch n ops st l
 nodup:ls.Nodup
 done:∀ (j q:Nat) (l:List Int),(j < k\/(j=k/\q < p))->q < ops.length->ls[j]? = some l->xWo ops l (q:Int)->xJ5 n l (xZ4 ops (q:Int))∈ls
section
variable {n:Nat}{ops:List OpV}{st:List Int}{ls:List (List Int)}{k p:Nat}
theorem RSt.start(h:SetP st (n:Int)):RSt n ops st [st] 0 0:=⟨rfl,fun l hl=>by rw[List.mem_singleton.1 hl];exact h,fun l hl=>by rw[List.mem_singleton.1 hl];exact .init,by simp,fun j q l h=>by omega⟩
theorem RSt.add(h:RSt n ops st ls k p){r:List Int}(hr:ls[k]? = some r)(hp:p < ops.length)(hc:xWo ops r (p:Int))(hn:xJ5 n r (xZ4 ops (p:Int))∉ls):RSt n ops st (ls ++ [xJ5 n r (xZ4 ops (p:Int))]) k (p+1):=by
 have hk:=(List.getElem?_eq_some_iff.1 hr).1;refine⟨?_,fun l hl=>?_,fun l hl=>?_,?_,fun j q l hjq hq hl hcan=>?_⟩
 ·rw[List.getElem?_append_left (by omega)];exact h.head
 ·rcases List.mem_append.1 hl with e | e
  ·exact h.set l e
  ·rw[List.mem_singleton.1 e];exact xJj n r _
 ·rcases List.mem_append.1 hl with e | e
  ·exact h.rch l e
  ·rw[List.mem_singleton.1 e];exact .step (h.rch r (lMg hr)) hp hc
 ·rw[List.nodup_append];exact⟨h.nodup,by simp,fun a ha b hb=>by rw[List.mem_singleton.1 hb];intro e;exact hn (e ▸ ha)⟩
 ·rw[List.getElem?_append_left (by omega)] at hl
  by_cases e:j=k/\q=p
  ·obtain⟨rfl,rfl⟩:=e;rw[hr] at hl;injection hl with hl
   subst hl;exact List.mem_append_right _ (List.mem_singleton.2 rfl)
  ·exact List.mem_append_left _ (h.done j q l (by omega) hq hl hcan)
theorem RSt.row(h:RSt n ops st ls k p)(hp:ops.length<=p):RSt n ops st ls (k+1) 0:=⟨h.head,h.set,h.rch,h.nodup,fun j q l hjq hq hl hc=>h.done j q l (by omega) hq hl hc⟩
theorem RSt.word(h:RSt n ops st ls k p){r:List Int}(hr:SetP r (n:Int)):xJ0 r∈ls.map xJ0↔r∈ls:=by
 constructor
 ·intro hm;obtain⟨l,hl,e⟩:=List.mem_map.1 hm;rw[<- xJi (h.set l hl) hr e];exact hl
 ·exact fun hm=>List.mem_map.2 ⟨r,hm,rfl⟩
end
inductive Cst(n:Nat)(ops:List OpV)(st:List Int):List Int->Int->Prop
 | init:Cst n ops st st 0
 | step {l:List Int} {c:Int} {p:Nat} {o:OpV}:Cst n ops st l c->ops[p]? = some o->(∀ q∈o.pre,q∈l)->Cst n ops st (xJ5 n l o) (c+o.cost)
def RBest(n:Nat)(ops:List OpV)(goal st:List Int)(d:Int):Prop:=
 (d=1000000000\/∃ l,Cst n ops st l d/\∀ q∈goal,q∈l)/\d<=1000000000/\∀ l c,Cst n ops st l c->(∀ q∈goal,q∈l)->d<=c
theorem Cst.rch{n:Nat}{ops:List OpV}{st l:List Int}{c:Int}(h:Cst n ops st l c):Rch n ops st l:=by
 induction h with
 | init=>exact .init
 | @step l c p o _ hp hc ih=>
  have:=Rch.step (op:=p) ih (List.getElem?_eq_some_iff.1 hp).1 ⟨o,by simpa using hp,hc⟩
  rwa [xV4 (o:=o) (by simpa using hp)] at this
theorem Cst.nn{n:Nat}{ops:List OpV}{st l:List Int}{c:Int}(hc:∀ o∈ops,0<=o.cost)(h:Cst n ops st l c):0<=c:=by
 induction h with
 | init=>exact Int.le_refl _
 | step _ hp _ ih=>have:=hc _ (lMg hp);omega
def vY1(n:Nat)(ops:List OpV)(ls:List (List Int)):Prop:=∀ (i j:Nat) (l:List Int) (p:Nat) (o:OpV),ls[i]? = some l->ops[p]? = some o->(∀ q∈o.pre,q∈l)->ls[j]? = some (xJ5 n l o)->i<=j
structure DPI(n:Nat)(ops:List OpV)(goal st:List Int)(ls:List (List Int))(k p g:Nat)(f:List Int->Int)(b:Int):Prop where
 real:∀ l∈ls,f l=1000000000\/Cst n ops st l (f l)
 rng:∀ l∈ls,0<=f l/\f l<=1000000000
 start:f st=0
 done:∀ (j q:Nat) (l:List Int) (o:OpV),(j < k\/(j=k/\q < p))->ops[q]? = some o->ls[j]? = some l->(∀ x∈o.pre,x∈l)->f (xJ5 n l o)<=f l+o.cost
 low:∀ (j:Nat) (l:List Int),j < g->ls[j]? = some l->(∀ q∈goal,q∈l)->b<=f l
 breal:b=1000000000\/∃ l,Cst n ops st l b/\∀ q∈goal,q∈l
 brng:0<=b/\b<=1000000000
section
variable {n:Nat}{ops:List OpV}{goal st:List Int}{ls:List (List Int)}{k p g:Nat}{f:List Int->Int}{b:Int}
theorem DPI.init(hf:∀ l∈ls,f l=if l=st then 0 else 1000000000)(hst:f st=0):DPI n ops goal st ls 0 0 0 f 1000000000:=by
 refine⟨fun l hl=>?_,fun l hl=>?_,hst,fun j q l o h=>by omega,fun j l h=>by omega,.inl rfl,by omega⟩
 ·by_cases e:l=st
  ·rw[e,hst];exact .inr .init
  ·rw[hf l hl,if_neg e];exact .inl rfl
 ·rw[hf l hl];split <;> omega
theorem DPI.row(h:DPI n ops goal st ls k p (k+1) f b)(hp:ops.length<=p):DPI n ops goal st ls (k+1) 0 (k+1) f b:=
 ⟨h.real,h.rng,h.start,fun j q l o hjq ho hl hc=>h.done j q l o (by have:=(List.getElem?_eq_some_iff.1 ho).1;omega) ho hl hc,h.low,h.breal,h.brng⟩
theorem DPI.use(h:DPI n ops goal st ls k p (k+1) f b)(hOrd:vY1 n ops ls)(hnd:ls.Nodup)(hcost:∀ o∈ops,0<=o.cost){l:List Int}{o:OpV}(hl:ls[k]? = some l)(ho:ops[p]? = some o)(hc:∀ x∈o.pre,x∈l)(hcl:∀ (l:List Int) (p:Nat) (o:OpV),l∈ls->ops[p]? = some o->(∀ q∈o.pre,q∈l)->xJ5 n l o∈ls){f':List Int->Int}
  (hf1:f' (xJ5 n l o)=min (f (xJ5 n l o)) (f l+o.cost)) (hf2:∀ r∈ls,r≠xJ5 n l o->f' r=f r) (hst:st∈ls):DPI n ops goal st ls k (p+1) (k+1) f' b:=by
 have hm:=lMg hl;have hin:=hcl l p o hm ho hc;have hco:=hcost o (lMg ho);have hrl:=h.rng l hm;have hrn:=h.rng _ hin;have hle:∀ r∈ls,f' r<=f r:=fun r hr=>by
  by_cases e:r=xJ5 n l o
  ·rw[e,hf1];omega
  ·rw[hf2 r hr e];exact Int.le_refl _
 obtain⟨jn,hjn⟩:=List.getElem?_of_mem hin;have hkj:=hOrd k jn l p o hl ho hc hjn;have hsame:∀ (j:Nat) (r:List Int),j<=k->ls[j]? = some r->f' r=f r:=fun j r hj hr=>by
  by_cases e:r=xJ5 n l o
  ·have hjj:j=jn:=by
    have h1:=(List.getElem?_inj (i:=j) (j:=jn) (List.getElem?_eq_some_iff.1 hr).1 hnd).1 (by rw[hr,hjn,e]);exact h1
   have hjk:j=k:=by omega
   subst hjk;rw[hl] at hr;injection hr with hr
   subst hr;rw[<- e] at hf1;rw[hf1];omega
  ·exact hf2 r (lMg hr) e
 refine⟨fun r hr=>?_,fun r hr=>?_,?_,fun j q l' o' hjq ho' hl' hc'=>?_,fun j l' hj hl' hg'=>?_,h.breal,h.brng⟩
 ·by_cases e:r=xJ5 n l o
  ·subst e;rw[hf1];rcases Int.le_total (f (xJ5 n l o)) (f l+o.cost) with e2 | e2
   ·rw[Int.min_eq_left e2];exact h.real _ hin
   ·rw[Int.min_eq_right e2];rcases h.real l hm with e3 | e3
    ·exact .inl (by omega)
    ·exact .inr (.step e3 ho hc)
  ·rw[hf2 r hr e];exact h.real r hr
 ·by_cases e:r=xJ5 n l o
  ·subst e;rw[hf1];omega
  ·rw[hf2 r hr e];exact h.rng r hr
 ·by_cases e:st=xJ5 n l o
  ·rw[e,hf1,<- e,h.start];omega
  ·rw[hf2 st hst e];exact h.start
 ·by_cases e:j=k/\q=p
  ·obtain⟨rfl,rfl⟩:=e;rw[hl] at hl';injection hl' with hl';subst hl'
   rw[ho] at ho';injection ho' with ho';subst ho'
   rw[hsame j l (Nat.le_refl _) hl,hf1];omega
  ·rw[hsame j l' (by omega) hl'];have h1:=h.done j q l' o' (by omega) ho' hl' hc'
   by_cases e2:xJ5 n l' o'=xJ5 n l o
   ·rw[e2,hf1];rw[e2] at h1;omega
   ·have:=hle _ (hcl l' q o' (lMg hl') ho' hc');omega
 ·rw[hsame j l' (by omega) hl'];exact h.low j l' hj hl' hg'
end
theorem RSt.closed{n:Nat}{ops:List OpV}{st:List Int}{ls:List (List Int)}(h:RSt n ops st ls ls.length 0):∀ (l:List Int) (p:Nat) (o:OpV),l∈ls->ops[p]? = some o->(∀ q∈o.pre,q∈l)->xJ5 n l o∈ls:=fun l p o hl ho hc=>by
 obtain⟨j,hj⟩:=List.getElem?_of_mem hl;have:=h.done j p l (.inl (List.getElem?_eq_some_iff.1 hj).1) (List.getElem?_eq_some_iff.1 ho).1 hj ⟨o,by simpa using ho,hc⟩
 rwa [xV4 (o:=o) (by simpa using ho)] at this
structure OwnL(base:Nat)(w:World)(vs:List Value)(xss:List (List Int)):Prop where
 len:vs.length=xss.length
 own:∀ (i:Nat) (v:Value) (xs:List Int),vs[i]? = some v->xss[i]? = some xs->OwnI base w v xs
 sep:∀ (i j:Nat) (u v:Value),i≠j->vs[i]? = some u->vs[j]? = some v->Sep u v
section
variable {base:Nat}{w w':World}{vs:List Value}{xss:List (List Int)}
theorem OwnL.nil(base:Nat)(w:World):OwnL base w [] []:=⟨rfl,fun i v xs h=>by simp at h,fun i j u v _ h=>by simp at h⟩
theorem OwnL.below(h:OwnL base w vs xss)(hb:Below w.heap.size w w'):OwnL base w' vs xss:=⟨h.len,fun i v xs h1 h2=>(h.own i v xs h1 h2).below hb,h.sep⟩
theorem OwnL.more(h:OwnL base w vs xss):OwnL base w (vs ++ [.slice none 0 0]) (xss ++ [[]]):=by
 have key:∀ (i:Nat) (v:Value),(vs ++ [Value.slice none 0 0])[i]? = some v->(i < vs.length/\vs[i]? = some v)\/(i=vs.length/\v=.slice none 0 0):=fun i v hv=>by
  rcases Nat.lt_or_ge i vs.length with hl | hl
  ·rw[List.getElem?_append_left hl] at hv;exact .inl ⟨hl,hv⟩
  ·rw[List.getElem?_append_right hl] at hv;have h0:i - vs.length=0:=by
    have:=(List.getElem?_eq_some_iff.1 hv).1;simp at this;omega
   rw[h0] at hv;simp at hv;exact .inr ⟨by omega,hv.symm⟩
 refine⟨by simp[h.len],fun i v xs h1 h2=>?_,fun i j u v hij h1 h2=>?_⟩
 ·rcases key i v h1 with ⟨hl,h1⟩ | ⟨rfl,rfl⟩
  ·rw[List.getElem?_append_left (by rw[<- h.len];exact hl)] at h2;exact h.own i v xs h1 h2
  ·rw[h.len,List.getElem?_append_right (Nat.le_refl _)] at h2;simp at h2;subst h2;exact OwnI.nil _ _
 ·rcases key i u h1 with ⟨_,h1⟩ | ⟨rfl,rfl⟩
  ·rcases key j v h2 with ⟨_,h2⟩ | ⟨rfl,rfl⟩
   ·exact h.sep i j u v hij h1 h2
   ·exact (zKt u).symm
  ·exact zKt v
end
structure HCons(n:Nat)(ops:List OpV)(goal:List Int)(H:List Int->Int):Prop where
 goal:∀ l,(∀ q∈goal,q∈l)->SetP l (n:Int)->H l<=0
 inf:∀ l,SetP l (n:Int)->H l<=1000000000
 step:∀ (l:List Int) (p:Nat) (o:OpV),SetP l (n:Int)->ops[p]? = some o->xWo ops l (p:Int)->H (xJ5 n l o) < 1000000000->H l<=H (xJ5 n l o)+o.cost
def vK6(n:Nat)(ops:List OpV)(ls:List (List Int))(a:Nat×Nat×Int):Prop:=∃ (l:List Int) (p:Nat) (o:OpV),ls[a.1]? = some l/\ops[p]? = some o/\xWo ops l (p:Int)/\ls[a.2.1]? = some (xJ5 n l o)/\a.2.2=o.cost
structure DSt(n:Nat)(ops:List OpV)(goal:List Int)(ls:List (List Int))(D:List Int):Prop where
 len:D.length=ls.length
 all:xZr D
 zero:∀ (i:Nat) (l:List Int),ls[i]? = some l->(∀ q∈goal,q∈l)->D[i]? = some 0
 low:∀ H,HCons n ops goal H->∀ (i:Nat) (l:List Int) (d:Int),ls[i]? = some l->D[i]? = some d->H l<=d
section
variable {n:Nat}{ops:List OpV}{goal:List Int}{ls:List (List Int)}{D:List Int}
theorem DSt.set_(h:DSt n ops goal ls D)(hset:∀ l∈ls,SetP l (n:Int))(hops:∀ o∈ops,0<=o.cost){a:Nat×Nat×Int}(ha:vK6 n ops ls a){x y:Int}(hx:D[a.1]? = some x)(hy:D[a.2.1]? = some y)(hy2:y < 1000000000)(hlt:y+a.2.2 < x):DSt n ops goal ls (D.set a.1 (y+a.2.2)):=by
 obtain⟨l,p,o,h1,h2,h3,h4,h5⟩:=ha;have hil:=(List.getElem?_eq_some_iff.1 hx).1;have hyV:=h.all y (lMg hy);have hxV:=h.all x (lMg hx);have hc:=hops o (lMg h2);unfold InV at hyV hxV;refine⟨by rw[List.length_set];exact h.len,zVm h.all _ (by unfold InV;omega),fun i l' hl' hg=>?_,fun H hH i l' d hl' hd=>?_⟩
 ·rw[List.getElem?_set_ne (fun e=>by
   subst e;have:=h.zero a.1 l' hl' hg;rw[hx] at this;injection this with this
   omega)]
  exact h.zero i l' hl' hg
 ·by_cases e:a.1=i
  ·subst e;rw[List.getElem?_set_self hil] at hd;injection hd with hd
   rw[h1] at hl';injection hl' with hl'
   subst hl';have k1:=h.low H hH a.2.1 _ y h4 hy;have k2:=hH.step l p o (hset l (lMg h1)) h2 h3 (by omega);omega
  ·rw[List.getElem?_set_ne e] at hd;exact h.low H hH i l' d hl' hd
structure ArcsTo(n:Nat)(ops:List OpV)(ls:List (List Int))(A:List (Nat×Nat×Int))(i p k:Nat):Prop where
 sound:∀ a∈A,vK6 n ops ls a
 all:∀ (i' p' k':Nat) (l:List Int) (o:OpV),(i' < i\/i'=i/\(p' < p\/p'=p/\k' < k))->ls[i']? = some l->ops[p']? = some o->xWo ops l (p':Int)->ls[k']? = some (xJ5 n l o)->(i',k',o.cost)∈A
 len:A.length<=80000 * i+2000 * p+k
theorem ArcsTo.start:ArcsTo n ops ls [] 0 0 0:=⟨fun a h=>(List.not_mem_nil h).elim,fun i' p' k' l o h=>by omega,by simp⟩
variable {A:List (Nat×Nat×Int)}{i p k:Nat}
theorem ArcsTo.add(h:ArcsTo n ops ls A i p k){l:List Int}{o:OpV}(hl:ls[i]? = some l)(ho:ops[p]? = some o)(hc:xWo ops l (p:Int))(hk:ls[k]? = some (xJ5 n l o)):ArcsTo n ops ls (A ++ [(i,k,o.cost)]) i p (k+1):=by
 refine⟨fun a ha=>?_,fun i' p' k' l' o' hlt hl' ho' hc' hk'=>?_,by rw[List.length_append];have:=h.len;simp;omega⟩
 ·rcases List.mem_append.1 ha with e | e
  ·exact h.sound a e
  ·rw[List.mem_singleton.1 e];exact⟨l,p,o,hl,ho,hc,hk,rfl⟩
 ·by_cases e:i'=i/\p'=p/\k'=k
  ·obtain⟨rfl,rfl,rfl⟩:=e;rw[ho] at ho';injection ho' with ho'
   subst ho';exact List.mem_append_right _ (List.mem_singleton.2 rfl)
  ·exact List.mem_append_left _ (h.all i' p' k' l' o' (by omega) hl' ho' hc' hk')
theorem ArcsTo.none(h:ArcsTo n ops ls A i p 0){l:List Int}(hl:ls[i]? = some l)(hc:¬ xWo ops l (p:Int)):ArcsTo n ops ls A i (p+1) 0:=
 ⟨h.sound,fun i' p' k' l' o' hlt hl' ho' hc' hk'=>by
  by_cases e:i'=i/\p'=p
  ·obtain⟨rfl,rfl⟩:=e;rw[hl] at hl';injection hl' with hl'
   subst hl';exact absurd hc' hc
  ·exact h.all i' p' k' l' o' (by omega) hl' ho' hc' hk',by have:=h.len;omega⟩
theorem ArcsTo.row(h:ArcsTo n ops ls A i p 0)(hp:ops.length<=p)(hp2:p<=40):ArcsTo n ops ls A (i+1) 0 0:=
 ⟨h.sound,fun i' p' k' l' o' hlt hl' ho' hc' hk'=>h.all i' p' k' l' o' (by have:=(List.getElem?_eq_some_iff.1 ho').1;omega) hl' ho' hc' hk',by have:=h.len;omega⟩
end
theorem zWe{s:Bool}{n:Nat}{st:List Int}{ops:List OpV}{cs:List Int}(hadd:∀ o∈ops,∀ p∈o.add,0<=p/\p < (n:Int))(hcs:xZr cs):∀ (m:Nat) (V:List Int),xZg V<=m->Above s n st ops cs V->∃ V',Best s n st ops cs V':=by
 intro m
 induction m with
 | zero=>
  intro V hm hV;refine⟨V,zQj hV fun i o c hi ho hc p hp=>?_⟩;refine Classical.byContradiction fun hlt=>?_
  have hpr:=hadd o (lMg ho) p hp;have hin:=zVk (s:=s) hV.shape.all o (hcs c (lMg hc));obtain⟨y,hy⟩:∃ y,V[p.toNat]? = some y:=⟨_,lGe (by rw[hV.shape.len];omega)⟩;rw[xJ9 hy] at hlt;have:=zJt hy hin.1 (by omega:opV s V o c < y);omega
 | succ m ih=>
  intro V hm hV
  by_cases hcl:xXp s ops cs ops.length V
  ·exact⟨V,zQj hV hcl⟩
  ·obtain⟨i,o,c,ho,hc,p,hp,hlt⟩:∃ i o c,ops[i]? = some o/\cs[i]? = some c/\∃ p∈o.add,¬ xJ2 V p<=opV s V o c:=by
    refine Classical.byContradiction fun hn=>hcl fun i o c hi ho hc p hp=>Classical.byContradiction fun h=>hn ⟨i,o,c,ho,hc,p,hp,h⟩
   have hcv:=hcs c (lMg hc);have hpr:=hadd o (lMg ho) p hp;have hin:=zVk (s:=s) hV.shape.all o hcv;obtain⟨y,hy⟩:∃ y,V[p.toNat]? = some y:=⟨_,lGe (by rw[hV.shape.len];omega)⟩;rw[xJ9 hy] at hlt;have h1:=zJt hy hin.1 (by omega:opV s V o c < y);exact ih _ (by omega) (zZi hV (zVn hV ho hc hcv) hp hin hy (by omega))
theorem vVk{s:Bool}{n:Nat}{st:List Int}{ops:List OpV}{cs:List Int}(hst:∀ p∈st,0<=p/\p < (n:Int))(hadd:∀ o∈ops,∀ p∈o.add,0<=p/\p < (n:Int))(hcs:xZr cs):Best s n st ops cs (xJg s n st ops cs):=by
 obtain⟨V,hV⟩:=zWe hadd hcs _ _ (Nat.le_refl _) (xKn (s:=s) (ops:=ops) (cs:=cs) hst);exact zQk hV
theorem vKc{B:Nat}{w:World}{A:Option Addr}{c:Nat}{xs:List Int}(h:Fresh B w A c xs)(hB:B<=w.heap.size):OwnLL B (w.alloc (.cells #[.slice A xs.length c] 22)) (.slice (some ⟨w.heap.size,0,none⟩) 1 1) [xs]:=by
 refine⟨[.slice A xs.length c],⟨by simp,.inr ⟨w.heap.size,1,#[.slice A xs.length c],rfl,hB,Arr.new w _ [.slice A xs.length c],by simp,by decide,by simp,by simp⟩⟩,fun i a ha=>?_⟩
 cases i with
 | succ i=>simp at ha
 | zero=>
  simp at ha;subst ha;have h2:=(xJ7 B).below h (w':=w.alloc (.cells #[.slice A xs.length c] 22)) ((Below.refl _ _).alloc (Nat.le_refl _) _);obtain⟨A',c',e,h3,h4,h5,h6,h7⟩:=h2;obtain⟨A1,c1,e1,_,_,_,_,h8⟩:=h;refine⟨A',c',e,h3,h4,h5,h6,fun ad hA=>⟨?_,(h7 ad hA).2⟩⟩;have e2:=e.symm.trans e1;injection e2 with e2
  injection e2 with e2 e3 e4
  subst e2;have:=(h8 ad hA).2.1;intro hc;have hc2:ad.block=w.heap.size:=by simpa[Value.ownBlock] using hc
  omega
theorem PList.neq{B:Nat}{w:World}{row:Option Nat}{A:Option Addr}{n c:Nat}{r:List Int}(h:PList B w row [.slice A n c] r){ad:Addr}(hA:A=some ad):some ad.block≠row:=by
 obtain⟨A',c',e,_,_,_,_,h7⟩:=h;injection e with e
 injection e with e2 e3 e4
 subst e2;exact (h7 ad hA).1
theorem vVp(w:World)(t:TaskV)(Ai Ag Ao:Option Addr)(ci cg co:Nat)(hT:TaskMem w Ai Ag Ao t)(hR:OpsRead w Ao t.ops)(S:Option Addr)(cs:Nat)(st:List Int)(hS:Ints w S st)(hst:SetP st t.facts)(P:Option Addr)(cp:Nat)(plan:List Int)(hP:Ints w P plan)(n:Nat)(hn:t.facts=n)(hv:Valid t)(hok:xV0 t.ops.length plan) :
  Calls Tryz.prog 103 #[.agg #[.int .i64 t.facts,.slice Ai t.init.length ci,.slice Ag t.goal.length cg,.slice Ao t.ops.length co],.slice S st.length cs,.slice P plan.length cp] w fun e w'=>∃ v,e=.returned v/\(∃ B,w.heap.size<=B/\OwnLL B w' v (xYq n t.ops st plan))/\Below w.heap.size w w':=by
 have HV:=lHd hv;have HN:=lHd hn;have hl60:=hok.1;have HOK:=lHd hok.2;have hlS:st.length<=1000000000000:=by have:=SetP.length hst hv.f0;have:=hv.f1;omega
 have HST:=lHd (show SetP st (n:Int) by rw[<- hn];exact hst);clear hv hn hok hst;go_enter Tryz.func103,Tryz.ntmps103
 go_wp2_with fail
 refine (zZd _ _ _ _ (hS.below bch) hlS).mono ?_;rintro e w1 ⟨A1,c1,rfl,hF1,hB1⟩;have D1:=xJ3 w hB1 bch;have hz1:=hB1.size;have hz1':w.heap.size+1<=w1.heap.size:=by simpa using hz1
 have hF1':Fresh (w.heap.size+1) w1 A1 c1 st:=by simpa using hF1
 have C1:=Cls.below (l:=[(w.heap.size,0,.int .i64 t.facts),(w.heap.size,1,.slice Ai t.init.length ci),(w.heap.size,2,.slice Ag t.goal.length cg),(w.heap.size,3,.slice Ao t.ops.length co)]) hB1 (by simp[Cls,go_sem]);have HR1:=lHd (vKc hF1' hz1');clear hF1 hF1' hz1 hB1;have F1:=C1;simp only[Cls,and_true] at F1;have y1w0:w.heap.size < w1.heap.size:=C1.blk (b:=w.heap.size) (k:=0) (v:=.int .i64 t.facts) (by simp)
 go_wp2_with fail
 go_loopw [1,7,15] (fun a v i wr=>∃ (k:Nat) (S':Option Addr) (c':Nat) (s':List Int) (pre:List (List Int)),k<=plan.length/\a=.slice S' s'.length c'/\i=.int .i64 k/\Ints wr S' s'/\Hid (SetP s' (n:Int))/\OwnLL (w.heap.size+1) wr v (pre ++ [s'])/\Hid (pre.length=k)/\Hid (xYq n t.ops st plan=pre ++ xYq n t.ops s' (plan.drop k))/\Below w.heap.size w wr/\Cls wr [(w.heap.size,0,.int .i64 t.facts),(w.heap.size,1,.slice Ai t.init.length ci),(w.heap.size,2,.slice Ag t.goal.length cg),(w.heap.size,3,.slice Ao t.ops.length co)]) (fun _ _ i _=>plan.length - (intOf i).toNat)
 case atStart=>exact⟨0,S,cs,st,[],Nat.zero_le _,rfl,rfl,hS.below bch,HST,(by simpa using HR1.out),lHd rfl,lHd (by simp),bch,(by simp[Cls,go_sem,F1,y1w0])⟩
 case round=>
  obtain⟨k,S',c',s',pre,hk,rfl,rfl,hI',HS',hown,HPL,HRV,hBr,hCr⟩:=hrel;obtain⟨w2,rfl⟩:∃ wo:World,wo=wr:=⟨_,rfl⟩;have Fr:=hCr;simp only[Cls,and_true] at Fr;have yrw0:w.heap.size < w2.heap.size:=hCr.blk (b:=w.heap.size) (k:=0) (v:=.int .i64 t.facts) (by simp)
  by_cases hlt:k < plan.length
  ·obtain⟨ad,x,rfl,hx,hcx⟩:=(hP.below hBr).at_ hlt;have hx0:=(HOK.out x (lMg hx.out)).1;have hx1:=(HOK.out x (lMg hx.out)).2;obtain⟨kx,rfl⟩:∃ kx:Nat,x=(kx:Int):=⟨x.toNat,by omega⟩;have hkx:kx < t.ops.length:=by omega
   have HDR:=lHd (show plan.drop k=(kx:Int) :: plan.drop (k+1) by
    obtain⟨h1,h2⟩:=List.getElem?_eq_some_iff.1 hx.out;rw[List.drop_eq_getElem_cons h1,h2])
   have HSF:=lHd (show SetP s' t.facts by rw[HN.out];exact HS'.out)
   by_cases hcan:xWo t.ops s' (kx:Int)
   ·have HC:=lHd hcan;clear hcan
    go_wp2_with fail
    refine (xVw _ t Ai Ag Ao ci cg co (hT.below bch) _ _ _ (hI'.below bch) HSF.out HV.out kx hkx true ⟨fun _=>rfl,fun _=>HC.out⟩).mono ?_;rintro e w3 ⟨rfl,hB3⟩;have D3:=xJ3 w hB3 bch;have Ew2_3:=xJ3 w2 hB3 bch;have C3:=Cls.below (l:=[(w.heap.size,0,.int .i64 t.facts),(w.heap.size,1,.slice Ai t.init.length ci),(w.heap.size,2,.slice Ag t.goal.length cg),(w.heap.size,3,.slice Ao t.ops.length co)]) hB3 (by simp[Cls,go_sem,Fr,yrw0]);have F3:=C3;simp only[Cls,and_true] at F3;have y3w0:w.heap.size < w3.heap.size:=C3.blk (b:=w.heap.size) (k:=0) (v:=.int .i64 t.facts) (by simp)
    go_wp2_with fail
    refine (zJp _ t Ai Ag Ao ci cg co (hR.below bch) _ _ _ (hI'.below bch) HSF.out n HN.out HV.out kx hkx).mono ?_;rintro e w4 ⟨v4,rfl,ho4,hB4⟩;have D4:=xJ3 w hB4 bch;have d4s:=D4.size;have Ew2_4:=xJ3 w2 hB4 bch;have C4:=Cls.below (l:=[(w.heap.size,0,.int .i64 t.facts),(w.heap.size,1,.slice Ai t.init.length ci),(w.heap.size,2,.slice Ag t.goal.length cg),(w.heap.size,3,.slice Ao t.ops.length co)]) hB4 (by simp[Cls,go_sem,F3,y3w0]);have F4:=C4;simp only[Cls,and_true] at F4;have y4w0:w.heap.size < w4.heap.size:=C4.blk (b:=w.heap.size) (k:=0) (v:=.int .i64 t.facts) (by simp);obtain⟨A4,c4,rfl,hn4,hI4⟩:=ho4.form;clear hn4;have hown4:=hown.below bch;have hrow:∀ b,u7.ownBlock=some b->b < w3.heap.size:=fun b hb=>by
     have h1:=(OwnEs.lt hown b hb).2;have h2:=Ew2_3.size;omega
    have HY:=lHd (xQo (B:=w.heap.size+1) (row:=u7.ownBlock) ho4 (by omega) hrow);have hlen:(pre ++ [s']).length < 1000000000000:=by rw[List.length_append];have:=HPL.out;simp;omega
    have HRV2:=lHd (show xYq n t.ops st plan=(pre ++ [s']) ++ xYq n t.ops (xJ5 n s' (xZ4 t.ops (kx:Int))) (plan.drop (k+1)) by
     rw[HRV.out,HDR.out,zJz HC.out];simp)
    have HPL2:=lHd (show (pre ++ [s']).length=k+1 by rw[List.length_append,HPL.out];rfl);have HS4:=lHd (xJj n s' (xZ4 t.ops (kx:Int)))
    go_wp2_with (at_builtin;go_must (refine zZc (xJ7 _) 44 24 (.slice none 0 0) Tryz.underlying44 vJx rfl (by decide) (by decide) rfl (.tmp 28) (.tmp 30) rfl w [(w.heap.size,0,.int .i64 t.facts),(w.heap.size,1,.slice Ai t.init.length ci),(w.heap.size,2,.slice Ag t.goal.length cg),(w.heap.size,3,.slice Ao t.ops.length co)] rfl (OwnLL.below hown4 ?p1) ⟨w4.heap.size,0,none⟩ 1 rfl [.slice A4 (xJ5 n s' (xZ4 t.ops (kx:Int))).length c4] (xJ5 n s' (xZ4 t.ops (kx:Int))) rfl (xQ9 ?p2) ?p8 ((xJ7 _).below HY.out ?p9) hlen ?p3 (by omega) ?p5 ?p6 ?p7 ?_;(case p1=>exact bch);(case p2=>simp[go_sem]);(case p3=>(first | omega | (simp <;> omega)));(case p5=>exact bch);(case p6=>simp[Cls,go_sem,F4,y4w0]);(case p7=>(simp <;> omega));(case p8=>intro u hu;simp at hu;subst hu;rfl);(case p9=>exact bch);intro v6 w6 o6 D6 C6 sz6 G6 at6;have d6s:=D6.size;have HI6:=lHd (Ints.grown (hI4.below (xVf (Below.refl _ _):Below w4.heap.size w4 (w4.alloc (.cells #[.slice A4 (xJ5 n s' (xZ4 t.ops (kx:Int))).length c4] 22)))) G6 (fun ad hA=>(HY.out.neq hA)));clear G6 at6))
    go_roundw
    case rel=>exact⟨k+1,A4,c4,xJ5 n s' (xZ4 t.ops (kx:Int)),pre ++ [s'],by omega,rfl,by go_num,HI6.out,HS4,o6,HPL2,HRV2,D6,C6⟩
    case measure=>simp[intOf];omega
   ·have HC:=lHd hcan;clear hcan
    go_wp2_with fail
    refine (xVw _ t Ai Ag Ao ci cg co (hT.below bch) _ _ _ (hI'.below bch) HSF.out HV.out kx hkx false ⟨fun h=>absurd h HC.out,fun h=>by cases h⟩).mono ?_;rintro e w3 ⟨rfl,hB3⟩;have D3:=xJ3 w hB3 bch;have Ew2_3:=xJ3 w2 hB3 bch;have C3:=Cls.below (l:=[(w.heap.size,0,.int .i64 t.facts),(w.heap.size,1,.slice Ai t.init.length ci),(w.heap.size,2,.slice Ag t.goal.length cg),(w.heap.size,3,.slice Ao t.ops.length co)]) hB3 (by simp[Cls,go_sem,Fr,yrw0]);have F3:=C3;simp only[Cls,and_true] at F3;have y3w0:w.heap.size < w3.heap.size:=C3.blk (b:=w.heap.size) (k:=0) (v:=.int .i64 t.facts) (by simp);have HE:=lHd (show xYq n t.ops st plan=pre ++ [s'] by rw[HRV.out,HDR.out,vXf HC.out]);go_wp2;refine bodyPost_ret (v:=u7) ?_ rfl ⟨_,rfl,⟨w.heap.size+1,by omega,?_⟩,bch⟩
    ·simp[results,Tryz.results103,go_sem]
    ·rw[HE.out];exact hown.below bch
  ·have HE:=lHd (show xYq n t.ops st plan=pre ++ [s'] by rw[HRV.out,List.drop_eq_nil_of_le (by omega),zJy]);go_wp2;refine bodyPost_ret (v:=u7) ?_ rfl ⟨_,rfl,⟨w.heap.size+1,by omega,?_⟩,bch⟩
   ·simp[results,Tryz.results103,go_sem]
   ·rw[HE.out];exact hown.below bch
theorem zYi(w:World)(t:TaskV)(Ai Ag Ao:Option Addr)(ci cg co:Nat)(hT:TaskMem w Ai Ag Ao t)(hR:OpsRead w Ao t.ops)(S:Option Addr)(cs:Nat)(st:List Int)(hS:Ints w S st)(hst:SetP st t.facts)(P:Option Addr)(cp:Nat)(plan:List Int)(hP:Ints w P plan)(n:Nat)(hn:t.facts=n)(hv:Valid t)(hok:xV0 t.ops.length plan)(hful:(xYq n t.ops st plan).length=plan.length+1)(v:Bool)(hval:(∃ r,(xYq n t.ops st plan)[plan.length]? = some r/\∀ q∈t.goal,q∈r)↔v=true) :
  Calls Tryz.prog 61 #[.agg #[.int .i64 t.facts,.slice Ai t.init.length ci,.slice Ag t.goal.length cg,.slice Ao t.ops.length co],.slice S st.length cs,.slice P plan.length cp] w fun e w'=>e=.returned (.bool v)/\Below w.heap.size w w':=by
 have HV:=lHd hv;have HN:=lHd hn;have HOK:=lHd hok;have HST:=lHd hst;have hl60:=hok.1;have hlg:t.goal.length<=9223372036854775807:=by have:=SetP.length hv.goal hv.f0;have:=hv.f1;omega
 clear hv hn hok hst;go_enter Tryz.func61,Tryz.ntmps61
 go_wp2_with fail
 refine (vVp _ t Ai Ag Ao ci cg co (hT.below bch) (hR.below bch) _ _ _ (hS.below bch) HST.out _ _ _ (hP.below bch) n HN.out HV.out HOK.out).mono ?_;rintro e w1 ⟨v1,rfl,⟨bR,hbR,hoR⟩,hB1⟩;have D1:=xJ3 w hB1 bch;have C1:=Cls.below (l:=[(w.heap.size,0,.int .i64 t.facts),(w.heap.size,1,.slice Ai t.init.length ci),(w.heap.size,2,.slice Ag t.goal.length cg),(w.heap.size,3,.slice Ao t.ops.length co)]) hB1 (by simp[Cls,go_sem]);have F1:=C1;simp only[Cls,and_true] at F1;have y1w0:w.heap.size < w1.heap.size:=C1.blk (b:=w.heap.size) (k:=0) (v:=.int .i64 t.facts) (by simp);obtain⟨A1,c1,rfl⟩:=OwnEs.form hoR;have hoR':OwnLL bR w1 (.slice A1 (plan.length+1) c1) (xYq n t.ops st plan):=by rw[<- hful];exact hoR
 obtain⟨g,cs',r,rfl,hgb,hgl,hr,hcl,hcell,A',c',rfl,hJ,hJn,hJ1,hJ2,hJ3⟩:=OwnEs.at_ hoR' (i:=plan.length) (by omega);have hcr:w1.cell? ⟨g,plan.length,none⟩=some (.slice A' r.length c'):=by have:=hcell 0 _ rfl;simpa using this
 have HRS:=lHd (zVp (n:=n) (ops:=t.ops) plan st (by rw[<- HN.out];exact HST.out) r (lMg hr.out));have hrl:r.length<=9223372036854775807:=by have:=SetP.length HRS.out (by omega);have:=HV.out.f1;have:=HN.out;omega
 have HVL:Hid ((∀ q∈t.goal,q∈r)↔v=true):=lHd (by
  rw[<- hval];constructor
  ·exact fun h=>⟨r,hr.out,h⟩
  ·rintro ⟨r',h1,h2⟩;rw[hr.out] at h1;injection h1 with h1
   rw[h1];exact h2)
 rw[hful];clear hval hful hoR hcell hcl hJn hJ1 hJ2 hJ3 hgb hr
 go_wp2_with fail
 go_quiet ((go_at_call 68;exact Calls.quiet_of_same ((xZk _ _ _ _ _ _ _ v (hJ.below bch) (hT.goal.below bch) hrl hlg (SetP.pairwise HRS.out) (SetP.pairwise HV.out.goal) HVL.out).mono fun _ _ h=>⟨h.1,h.2.symm⟩)))
 go_wp2;refine bodyPost_ret (v:=.bool v) ?_ rfl ⟨rfl,bch⟩;simp[results,Tryz.results61,go_sem,F1,y1w0]
theorem vZt(w:World)(t:TaskV)(Ai Ag Ao:Option Addr)(ci cg co:Nat)(hT:TaskMem w Ai Ag Ao t)(hR:OpsRead w Ao t.ops)(P:Option Addr)(cp:Nat)(plan:List Int)(hP:Ints w P plan)(n:Nat)(hn:t.facts=n)(hv:Valid t)(hok:xV0 t.ops.length plan)(hful:(xYq n t.ops t.init plan).length=plan.length+1)(v:Bool)(hval:(∃ r,(xYq n t.ops t.init plan)[plan.length]? = some r/\∀ q∈t.goal,q∈r)↔v=true) :
  Calls Tryz.prog 20 #[.agg #[.int .i64 t.facts,.slice Ai t.init.length ci,.slice Ag t.goal.length cg,.slice Ao t.ops.length co],.slice P plan.length cp] w fun e w'=>e=.returned (.tuple #[.bool v,.agg #[.int .i64 0,.int .i64 0]])/\Below w.heap.size w w':=by
 have HV:=lHd hv;have HN:=lHd hn;have HOK:=lHd hok;have hl60:=hok.1;clear hv hn hok;have hlP:plan.length<=9223372036854775807:=by omega
 have HST:=lHd HV.out.init;have HX:=lHd hful;clear hful;have HVL:=lHd hval;clear hval;go_enter Tryz.func20,Tryz.ntmps20
 go_wp2_with fail
 refine (zQf _ t Ai Ag Ao ci cg co (hT.below bch) _ _ _ (hP.below bch) hlP HV.out HOK.out).mono ?_;rintro e w1 ⟨rfl,hB1⟩;have D1:=xJ3 w hB1 bch;have C1:=Cls.below (l:=[(w.heap.size,0,.int .i64 t.facts),(w.heap.size,1,.slice Ai t.init.length ci),(w.heap.size,2,.slice Ag t.goal.length cg),(w.heap.size,3,.slice Ao t.ops.length co),(w.heap.size+1,0,.int .i64 0),(w.heap.size+1,1,.int .i64 0)]) hB1 (by simp[Cls,go_sem]);have F1:=C1;simp only[Cls,and_true] at F1;have y1w1:w.heap.size+1 < w1.heap.size:=C1.blk (b:=w.heap.size+1) (k:=0) (v:=.int .i64 0) (by simp);have y1w0:w.heap.size < w1.heap.size:=(by omega)
 go_wp2_with fail
 refine (zYi _ t Ai Ag Ao ci cg co (hT.below bch) (hR.below bch) _ _ _ (hT.init.below bch) HST.out _ _ _ (hP.below bch) n HN.out HV.out HOK.out HX.out v HVL.out).mono ?_;rintro e w2 ⟨rfl,hB2⟩;have D2:=xJ3 w hB2 bch;have C2:=Cls.below (l:=[(w.heap.size,0,.int .i64 t.facts),(w.heap.size,1,.slice Ai t.init.length ci),(w.heap.size,2,.slice Ag t.goal.length cg),(w.heap.size,3,.slice Ao t.ops.length co),(w.heap.size+1,0,.int .i64 0),(w.heap.size+1,1,.int .i64 0),(w1.heap.size,0,.int .i64 0),(w1.heap.size,1,.int .i64 0)]) hB2 (by simp[Cls,go_sem,F1,y1w1,y1w0]);have F2:=C2;simp only[Cls,and_true] at F2;have y2w1:w.heap.size+1 < w2.heap.size:=C2.blk (b:=w.heap.size+1) (k:=0) (v:=.int .i64 0) (by simp);have y2w10:w1.heap.size < w2.heap.size:=C2.blk (b:=w1.heap.size) (k:=0) (v:=.int .i64 0) (by simp);go_wp2;refine bodyPost_ret (v:=.tuple #[.bool v,.agg #[.int .i64 0,.int .i64 0]]) ?_ rfl ⟨rfl,bch⟩;simp[results,Tryz.results20,go_sem,F2,y2w1,y2w10]
section
open Go.Joins Go.ChangeShapes Go.WideShapes Go.RowKit Go.Deep
section
variable {H:Type}{enc:TypeId×Value->H}{w:World}
def RowsRead(w:World)(A:Option Addr)(ls:List (List Int)):Prop:=∀ (i:Nat) (r:List Int),ls[i]? = some r->∃ ad B c,A=some ad/\w.cell? (ad.add i)=some (.slice B r.length c)/\Ints w B r/\xZq B r c
end
end
section
open Go.Joins Go.ChangeShapes Go.WideShapes Go.RowKit Go.Deep
def PAny(w:World)(row:Option Nat)(cs:List Value)(r:List Int):Prop:=
 ∃ A c,cs=[.slice A r.length c]/\Ints w A r/\xZq A r c/\(r≠[]->∀ ad,A=some ad->some ad.block≠row)
theorem xZz{w:World}{ad:Addr}{r:List Int}(h:Ints w (some ad) r)(hr:r≠[]):ad.block < w.heap.size:=by
 cases r with
 | nil=>exact absurd rfl hr
 | cons x r=>
  obtain⟨ad',e,hc⟩:=h 0 (.int .i64 x) rfl;injection e with e
  subst e;exact World.block_lt_of_cell? w _ hc
theorem Ints.grown2{w w':World}{A:Option Addr}{xs:List Int}{row:Option Nat}(h:Ints w A xs)(hg:w.grownBy w' row)(hne:xs≠[]->∀ ad,A=some ad->some ad.block≠row):Ints w' A xs:=by
 by_cases e:xs=[]
 ·subst e;exact Ints.nil _ _
 ·exact h.grown hg (hne e)
theorem zQe:Stable PAny:=by
 constructor
 ·rintro w w' row cs r ⟨A,c,e,hI,hn,ha⟩ hb;exact⟨A,c,e,hI.below hb,hn,ha⟩
 ·rintro w w' row cs r ⟨A,c,e,hI,hn,ha⟩ hg;have hI':=hI.grown2 hg ha;refine⟨⟨A,c,e,hI',hn,ha⟩,⟨A,c,e,hI',hn,fun hr ad h k=>?_⟩⟩;subst h;have:=xZz hI hr;injection k with k
  omega
def OwnLA(base:Nat)(w:World)(v:Value)(rows:List (List Int)):Prop:=OwnEs PAny 22 1 base w v rows
theorem OwnLA.below{base:Nat}{w w':World}{v:Value}{rows:List (List Int)}(h:OwnLA base w v rows)(hb:Below w.heap.size w w'):OwnLA base w' v rows:=OwnEs.below zQe h hb
theorem OwnLA.read{base n c:Nat}{w:World}{A:Option Addr}{ls:List (List Int)}(h:OwnLA base w (.slice A n c) ls):RowsRead w A ls:=fun i r hr=>by
 obtain⟨g,cs,a,rfl,_,_,ha,_,hc,B,c',rfl,hI,hn,_⟩:=OwnEs.at_ h (i:=i) (List.getElem?_eq_some_iff.1 hr).1;have:a=r:=by have:=ha.out;rw[hr] at this;injection this with this;exact this.symm
 subst this;refine⟨⟨g,0,none⟩,B,c',rfl,?_,hI,hn⟩;have h1:=hc 0 _ rfl;have e:((⟨g,0,none⟩:Addr).add i)=⟨g,i,none⟩:=by
  unfold Addr.add;split
  ·rename_i hj;subst hj;rfl
  ·simp
 rw[e];simpa using h1
theorem RowsRead.below{w w':World}{A:Option Addr}{ls:List (List Int)}(h:RowsRead w A ls)(hb:Below w.heap.size w w'):RowsRead w' A ls:=fun i r hr=>by
 obtain⟨ad,B,c,e,h1,h2,h3⟩:=h i r hr;exact⟨ad,B,c,e,(hb.cell (World.block_lt_of_cell? w _ h1)).trans h1,h2.below hb,h3⟩
theorem RowsRead.nil(w:World)(A:Option Addr):RowsRead w A []:=fun i r h=>by simp at h
theorem RowsRead.cells{w:World}{ad:Addr}{ls:List (List Int)}(h:RowsRead w (some ad) ls):∃ cs:List Value,cs.length=ls.length/\(∀ j u,cs[j]? = some u->w.cell? (ad.add j)=some u)/\(∀ u∈cs,u.oneCell'=true) /\
  ∀ (i:Nat) (r:List Int),ls[i]? = some r->∃ B c,cs[i]? = some (.slice B r.length c)/\Ints w B r/\xZq B r c:=by
 have each:∀ i:Nat,∃ u:Value,∀ r,ls[i]? = some r->∃ B c,u=.slice B r.length c/\w.cell? (ad.add i)=some u/\Ints w B r/\xZq B r c:=fun i=>by
  cases hi:ls[i]? with
  | none=>exact⟨default,fun r hr=>by cases hr⟩
  | some r=>
   obtain⟨ad',B,c,e,h1,h2,h3⟩:=h i r hi;injection e with e
   subst e;exact⟨.slice B r.length c,fun r' hr=>by injection hr with hr;subst hr;exact⟨B,c,rfl,h1,h2,h3⟩⟩
 obtain⟨f,hf⟩:=Classical.axiomOfChoice each;have hat:∀ (j:Nat) (u:Value),((List.range ls.length).map f)[j]? = some u->∃ r,ls[j]? = some r/\u=f j:=fun j u hu=>by
  obtain⟨hj,rfl⟩:=List.getElem?_eq_some_iff.1 hu;rw[List.length_map,List.length_range] at hj;exact⟨ls[j],lGe hj,by simp⟩
 refine⟨(List.range ls.length).map f,by simp,fun j u hu=>?_,fun u hu=>?_,fun i r hr=>?_⟩
 ·obtain⟨r,hr,rfl⟩:=hat j u hu;obtain⟨B,c,e,hc,_⟩:=hf j r hr;exact hc
 ·obtain⟨j,hj⟩:=List.getElem?_of_mem hu;obtain⟨r,hr,rfl⟩:=hat j u hj;obtain⟨B,c,e,hc,_⟩:=hf j r hr;rw[e];rfl
 ·obtain⟨B,c,e,hc,hI,hn⟩:=hf i r hr;have hi:=(List.getElem?_eq_some_iff.1 hr).1;exact⟨B,c,by rw[List.getElem?_map,List.getElem?_range hi];simp[e],hI,hn⟩
section
variable {H:Type}{enc:TypeId×Value->H}{w:World}
end
end
end Go.Proofs.YtpeipeljmapkmaaGreat
