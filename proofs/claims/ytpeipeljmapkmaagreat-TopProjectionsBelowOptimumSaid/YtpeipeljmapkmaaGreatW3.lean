/-
  Lemmas for the law: Mu3, Mu4, MD, Mu5.
-/
import Derived.Test.YtpeipeljmapkmaaGreatW2
import Derived.Test.YtpeipeljmapkmaaGreatW1
set_option linter.unusedVariables false
set_option linter.unusedSimpArgs false
set_option maxRecDepth 100000
set_option maxHeartbeats 4000000
namespace Go.Proofs.YtpeipeljmapkmaaGreat
open Go.RowKit
def zY3(F:FuncId)(caps:Array Value)(xs:List Int)(p:Int->Bool)(w:World):Prop:=
 ∀ x∈xs,∀ wr:World,Below w.heap.size w wr->Calls Tryz.prog F (#[.int .i64 x] ++ caps) wr fun e w'=>e=.returned (.bool (p x))/\Below wr.heap.size wr w'
theorem vJk{xs:List Int}{p:Int->Bool}{k:Nat}{o:Int}(ho:xs[k]? = some o)(h:∀ x∈xs.take k,p x=false)(hp:p o=false):∀ x∈xs.take (k+1),p x=false:=fun x hx=>by
 rw[List.take_add_one,ho] at hx;rcases List.mem_append.1 hx with hx | hx
 ·exact h x hx
 ·simp at hx;subst hx;exact hp
theorem zKg(A:Option Addr)(c:Nat)(xs:List Int)(F:FuncId)(caps:Array Value)(p:Int->Bool)(w:World)(hI:Ints w A xs)(hl:xs.length<=9223372036854775807)(hE:xXm F)(hf:zY3 F caps xs p w)(hp:∃ x∈xs,p x=true) :
  Calls Tryz.prog 88 #[.slice A xs.length c,.func (.func F) #[] caps] w fun e w'=>∃ k:Nat,e=.returned (.int .i64 k)/\k < xs.length/\Below w.heap.size w w':=by
 have HP:=lHd hp;have hE':∀ (args:Array Value) (w:World),(callFunc F args).run Tryz.prog w=.ok (.enter F args) w:=hE;clear hp hE;go_enter Tryz.func88,Tryz.ntmps88;go_wp2
 go_loopw [8] (fun i wr=>∃ k:Nat,k<=xs.length/\i=.int .i64 k/\Hid (∀ x∈xs.take k,p x=false)/\Below w.heap.size w wr) (fun i _=>xs.length - (intOf i).toNat)
 case atStart=>exact⟨0,Nat.zero_le _,rfl,lHd (by simp),Below.refl _ _⟩
 case round=>
  obtain⟨k,hk,rfl,hno,hB⟩:=hrel
  by_cases hlt:k < xs.length
  ·obtain⟨ad,x,rfl,ho,hc⟩:=(hI.below hB).at_ hlt;have HM:=lHd (lMg ho.out)
   by_cases hpx:p x=true
   ·go_wp2_with fail
    refine (hf x HM.out _ hB).mono ?_;rintro e w1 ⟨he,hB1⟩;rw[hpx] at he;subst he;go_wp2;go_ret;exact⟨k,rfl,hlt,hB.trans (hB1.mono hB.size)⟩
   ·have hpx':p x=false:=by simpa using hpx
    have HX:=lHd hpx';clear hpx hpx'
    go_wp2_with fail
    refine (hf x HM.out _ hB).mono ?_;rintro e w1 ⟨he,hB1⟩;rw[HX.out] at he;subst he;have D1:=hB.trans (hB1.mono hB.size);go_wp2
    go_roundw
    case rel=>exact⟨k+1,by omega,by go_num,lHd (vJk ho.out hno.out HX.out),D1⟩
    case measure=>simp[intOf];omega
  ·exfalso;obtain⟨x,hx,hpx⟩:=HP.out;have h:=hno.out x (by rw[List.take_of_length_le (by omega)];exact hx);rw[hpx] at h
   cases h
theorem vJl(A:Option Addr)(c:Nat)(xs:List Int)(F:FuncId)(caps:Array Value)(p:Int->Bool)(w:World)(hI:Ints w A xs)(hl:xs.length<=9223372036854775807)(hE:xXm F)(hf:zY3 F caps xs p w)(hp:∀ x∈xs,p x=false) :
  Calls Tryz.prog 88 #[.slice A xs.length c,.func (.func F) #[] caps] w fun e w'=>e=.returned (.int .i64 (-1))/\Below w.heap.size w w':=by
 have HP:=lHd hp;have hE':∀ (args:Array Value) (w:World),(callFunc F args).run Tryz.prog w=.ok (.enter F args) w:=hE;clear hp hE;go_enter Tryz.func88,Tryz.ntmps88;go_wp2
 go_loopw [8] (fun i wr=>∃ k:Nat,k<=xs.length/\i=.int .i64 k/\Below w.heap.size w wr) (fun i _=>xs.length - (intOf i).toNat)
 case atStart=>exact⟨0,Nat.zero_le _,rfl,Below.refl _ _⟩
 case round=>
  obtain⟨k,hk,rfl,hB⟩:=hrel
  by_cases hlt:k < xs.length
  ·obtain⟨ad,x,rfl,ho,hc⟩:=(hI.below hB).at_ hlt;have HM:=lHd (lMg ho.out)
   go_wp2_with fail
   refine (hf x HM.out _ hB).mono ?_;rintro e w1 ⟨he,hB1⟩;rw[HP.out _ HM.out] at he;subst he;have D1:=hB.trans (hB1.mono hB.size);go_wp2
   go_roundw
   case rel=>exact⟨k+1,by omega,by go_num,D1⟩
   case measure=>simp[intOf];omega
  ·go_wp2;go_ret;exact⟨rfl,hB⟩
theorem xQ4(A:Option Addr)(c:Nat)(xs:List Int)(F:FuncId)(caps:Array Value)(p:Int->Bool)(w:World)(hI:Ints w A xs)(hl:xs.length<=9223372036854775807)(hE:xXm F)(hf:zY3 F caps xs p w)(v:Bool)(hv:v=true↔∃ o∈xs,p o=true) :
  Calls Tryz.prog 38 #[.slice A xs.length c,.func (.func F) #[] caps] w fun e w'=>e=.returned (.bool v)/\Below w.heap.size w w':=by
 by_cases hp:∃ x∈xs,p x=true
 ·obtain rfl:v=true:=hv.2 hp;have HP:=lHd hp;clear hp hv;go_enter Tryz.func38,Tryz.ntmps38
  go_wp2_with fail
  refine (zKg A c xs F caps p _ hI hl hE hf HP.out).mono ?_;rintro e w' ⟨k,rfl,hk,hB⟩;go_wp2;go_ret;exact⟨xJh (by simp),hB⟩
 ·obtain rfl:v=false:=by cases v;rfl;exact absurd (hv.1 rfl) hp
  have HP:Hid (∀ x∈xs,p x=false):=lHd (fun x hx=>by
   cases h:p x with
   | false=>rfl
   | true=>exact absurd ⟨x,hx,h⟩ hp)
  clear hp hv;go_enter Tryz.func38,Tryz.ntmps38
  go_wp2_with fail
  refine (vJl A c xs F caps p _ hI hl hE hf HP.out).mono ?_;rintro e w' ⟨rfl,hB⟩;go_wp2;go_ret;exact⟨rfl,hB⟩
def zXy(F:FuncId)(caps:Array Value)(xs:List (Int×Int))(p:Int×Int->Bool)(w:World):Prop:=
 ∀ v x,(v,x)∈xs->∀ wr:World,Below w.heap.size w wr->Calls Tryz.prog F (#[.agg #[.int .i64 v,.int .i64 x]] ++ caps) wr fun e w'=>e=.returned (.bool (p (v,x)))/\Below wr.heap.size wr w'
theorem vJm{xs:List (Int×Int)}{p:Int×Int->Bool}{k:Nat}{o:Int×Int}(ho:xs[k]? = some o)(h:∀ x∈xs.take k,p x=false)(hp:p o=false):∀ x∈xs.take (k+1),p x=false:=fun x hx=>by
 rw[List.take_add_one,ho] at hx;rcases List.mem_append.1 hx with hx | hx
 ·exact h x hx
 ·simp at hx;subst hx;exact hp
theorem zKh(A:Option Addr)(c:Nat)(xs:List (Int×Int))(F:FuncId)(caps:Array Value)(p:Int×Int->Bool)(w:World)(hI:AsAt w A xs)(hl:xs.length<=9223372036854775807)(hE:xXm F)(hf:zXy F caps xs p w)(hp:∃ x∈xs,p x=true) :
  Calls Tryz.prog 164 #[.slice A xs.length c,.func (.func F) #[] caps] w fun e w'=>∃ k:Nat,e=.returned (.int .i64 k)/\k < xs.length/\Below w.heap.size w w':=by
 have HP:=lHd hp;have hE':∀ (args:Array Value) (w:World),(callFunc F args).run Tryz.prog w=.ok (.enter F args) w:=hE;clear hp hE;go_enter Tryz.func164,Tryz.ntmps164;go_wp2
 go_loopw [8] (fun i wr=>∃ k:Nat,k<=xs.length/\i=.int .i64 k/\Hid (∀ x∈xs.take k,p x=false)/\Below w.heap.size w wr) (fun i _=>xs.length - (intOf i).toNat)
 case atStart=>exact⟨0,Nat.zero_le _,rfl,lHd (by simp),Below.refl _ _⟩
 case round=>
  obtain⟨k,hk,rfl,hno,hB⟩:=hrel
  by_cases hlt:k < xs.length
  ·obtain⟨ad,v,x,rfl,ho,hc0,hc1⟩:=(hI.below hB).at_ hlt;have HM:=lHd (lMg ho.out)
   by_cases hpx:p (v,x)=true
   ·go_wp2_with fail
    refine (hf v x HM.out _ hB).mono ?_;rintro e w1 ⟨he,hB1⟩;rw[hpx] at he;subst he;go_wp2;go_ret;exact⟨k,rfl,hlt,hB.trans (hB1.mono hB.size)⟩
   ·have hpx':p (v,x)=false:=by simpa using hpx
    have HX:=lHd hpx';clear hpx hpx'
    go_wp2_with fail
    refine (hf v x HM.out _ hB).mono ?_;rintro e w1 ⟨he,hB1⟩;rw[HX.out] at he;subst he;have D1:=hB.trans (hB1.mono hB.size);go_wp2
    go_roundw
    case rel=>exact⟨k+1,by omega,by go_num,lHd (vJm ho.out hno.out HX.out),D1⟩
    case measure=>simp[intOf];omega
  ·exfalso;obtain⟨x,hx,hpx⟩:=HP.out;have h:=hno.out x (by rw[List.take_of_length_le (by omega)];exact hx);rw[hpx] at h
   cases h
theorem vJn(A:Option Addr)(c:Nat)(xs:List (Int×Int))(F:FuncId)(caps:Array Value)(p:Int×Int->Bool)(w:World)(hI:AsAt w A xs)(hl:xs.length<=9223372036854775807)(hE:xXm F)(hf:zXy F caps xs p w)(hp:∀ x∈xs,p x=false) :
  Calls Tryz.prog 164 #[.slice A xs.length c,.func (.func F) #[] caps] w fun e w'=>e=.returned (.int .i64 (-1))/\Below w.heap.size w w':=by
 have HP:=lHd hp;have hE':∀ (args:Array Value) (w:World),(callFunc F args).run Tryz.prog w=.ok (.enter F args) w:=hE;clear hp hE;go_enter Tryz.func164,Tryz.ntmps164;go_wp2
 go_loopw [8] (fun i wr=>∃ k:Nat,k<=xs.length/\i=.int .i64 k/\Below w.heap.size w wr) (fun i _=>xs.length - (intOf i).toNat)
 case atStart=>exact⟨0,Nat.zero_le _,rfl,Below.refl _ _⟩
 case round=>
  obtain⟨k,hk,rfl,hB⟩:=hrel
  by_cases hlt:k < xs.length
  ·obtain⟨ad,v,x,rfl,ho,hc0,hc1⟩:=(hI.below hB).at_ hlt;have HM:=lHd (lMg ho.out)
   go_wp2_with fail
   refine (hf v x HM.out _ hB).mono ?_;rintro e w1 ⟨he,hB1⟩;rw[HP.out _ HM.out] at he;subst he;have D1:=hB.trans (hB1.mono hB.size);go_wp2
   go_roundw
   case rel=>exact⟨k+1,by omega,by go_num,D1⟩
   case measure=>simp[intOf];omega
  ·go_wp2;go_ret;exact⟨rfl,hB⟩
theorem xZ6(A:Option Addr)(c:Nat)(xs:List (Int×Int))(F:FuncId)(caps:Array Value)(p:Int×Int->Bool)(w:World)(hI:AsAt w A xs)(hl:xs.length<=9223372036854775807)(hE:xXm F)(hf:zXy F caps xs p w)(v:Bool)(hv:v=true↔∃ o∈xs,p o=true) :
  Calls Tryz.prog 129 #[.slice A xs.length c,.func (.func F) #[] caps] w fun e w'=>e=.returned (.bool v)/\Below w.heap.size w w':=by
 by_cases hp:∃ x∈xs,p x=true
 ·obtain rfl:v=true:=hv.2 hp;have HP:=lHd hp;clear hp hv;go_enter Tryz.func129,Tryz.ntmps129
  go_wp2_with fail
  refine (zKh A c xs F caps p _ hI hl hE hf HP.out).mono ?_;rintro e w' ⟨k,rfl,hk,hB⟩;go_wp2;go_ret;exact⟨xJh (by simp),hB⟩
 ·obtain rfl:v=false:=by cases v;rfl;exact absurd (hv.1 rfl) hp
  have HP:Hid (∀ x∈xs,p x=false):=lHd (fun x hx=>by
   cases h:p x with
   | false=>rfl
   | true=>exact absurd ⟨x,hx,h⟩ hp)
  clear hp hv;go_enter Tryz.func129,Tryz.ntmps129
  go_wp2_with fail
  refine (vJn A c xs F caps p _ hI hl hE hf HP.out).mono ?_;rintro e w' ⟨rfl,hB⟩;go_wp2;go_ret;exact⟨rfl,hB⟩
def zY4(F:FuncId)(caps:Array Value)(xs:List MopV)(p:MopV->Bool)(w:World):Prop:=
 ∀ (o:MopV) (A0 A1:Option Addr) (c0 c1:Nat) (wr:World),o∈xs->Below w.heap.size w wr->(AsAt wr A0 o.pre/\AsAt wr A1 o.post)->(lenOk o.pre.length/\lenOk o.post.length)->Calls Tryz.prog F (#[.agg #[.slice A0 o.pre.length c0,.slice A1 o.post.length c1,.int .i64 o.cost]] ++ caps) wr fun e w'=>e=.returned (.bool (p o))/\Below wr.heap.size wr w'
theorem vJo{xs:List MopV}{p:MopV->Bool}{k:Nat}{o:MopV}(ho:xs[k]? = some o)(h:∀ x∈xs.take k,p x=false)(hp:p o=false):∀ x∈xs.take (k+1),p x=false:=fun x hx=>by
 rw[List.take_add_one,ho] at hx;rcases List.mem_append.1 hx with hx | hx
 ·exact h x hx
 ·simp at hx;subst hx;exact hp
theorem zKi(A:Option Addr)(c:Nat)(xs:List MopV)(F:FuncId)(caps:Array Value)(p:MopV->Bool)(w:World)(hI:MopsAt w A xs)(hl:xs.length<=9223372036854775807)(hE:xXm F)(hf:zY4 F caps xs p w)(hp:∃ x∈xs,p x=true) :
  Calls Tryz.prog 128 #[.slice A xs.length c,.func (.func F) #[] caps] w fun e w'=>∃ k:Nat,e=.returned (.int .i64 k)/\k < xs.length/\Below w.heap.size w w':=by
 have HP:=lHd hp;have hE':∀ (args:Array Value) (w:World),(callFunc F args).run Tryz.prog w=.ok (.enter F args) w:=hE;clear hp hE;go_enter Tryz.func128,Tryz.ntmps128;go_wp2
 go_loopw [8] (fun i wr=>∃ k:Nat,k<=xs.length/\i=.int .i64 k/\Hid (∀ x∈xs.take k,p x=false)/\Below w.heap.size w wr) (fun i _=>xs.length - (intOf i).toNat)
 case atStart=>exact⟨0,Nat.zero_le _,rfl,lHd (by simp),Below.refl _ _⟩
 case round=>
  obtain⟨k,hk,rfl,hno,hB⟩:=hrel
  by_cases hlt:k < xs.length
  ·obtain⟨ad,o,A0,c0,A1,c1,rfl,ho,hc0,hc1,hc2,hm,hln⟩:=(hI.below hB).at_ hlt;have HM:=lHd (lMg ho.out);have hml:=lHd hm;have hlnl:=lHd hln;clear hm hln
   by_cases hpx:p o=true
   ·go_wp2_with fail
    refine (hf o A0 A1 c0 c1 _ HM.out hB hml.out hlnl.out).mono ?_;rintro e w1 ⟨he,hB1⟩;rw[hpx] at he;subst he;go_wp2;go_ret;exact⟨k,rfl,hlt,hB.trans (hB1.mono hB.size)⟩
   ·have hpx':p o=false:=by simpa using hpx
    have HX:=lHd hpx';clear hpx hpx'
    go_wp2_with fail
    refine (hf o A0 A1 c0 c1 _ HM.out hB hml.out hlnl.out).mono ?_;rintro e w1 ⟨he,hB1⟩;rw[HX.out] at he;subst he;have D1:=hB.trans (hB1.mono hB.size);go_wp2
    go_roundw
    case rel=>exact⟨k+1,by omega,by go_num,lHd (vJo ho.out hno.out HX.out),D1⟩
    case measure=>simp[intOf];omega
  ·exfalso;obtain⟨x,hx,hpx⟩:=HP.out;have h:=hno.out x (by rw[List.take_of_length_le (by omega)];exact hx);rw[hpx] at h
   cases h
theorem vJp(A:Option Addr)(c:Nat)(xs:List MopV)(F:FuncId)(caps:Array Value)(p:MopV->Bool)(w:World)(hI:MopsAt w A xs)(hl:xs.length<=9223372036854775807)(hE:xXm F)(hf:zY4 F caps xs p w)(hp:∀ x∈xs,p x=false) :
  Calls Tryz.prog 128 #[.slice A xs.length c,.func (.func F) #[] caps] w fun e w'=>e=.returned (.int .i64 (-1))/\Below w.heap.size w w':=by
 have HP:=lHd hp;have hE':∀ (args:Array Value) (w:World),(callFunc F args).run Tryz.prog w=.ok (.enter F args) w:=hE;clear hp hE;go_enter Tryz.func128,Tryz.ntmps128;go_wp2
 go_loopw [8] (fun i wr=>∃ k:Nat,k<=xs.length/\i=.int .i64 k/\Below w.heap.size w wr) (fun i _=>xs.length - (intOf i).toNat)
 case atStart=>exact⟨0,Nat.zero_le _,rfl,Below.refl _ _⟩
 case round=>
  obtain⟨k,hk,rfl,hB⟩:=hrel
  by_cases hlt:k < xs.length
  ·obtain⟨ad,o,A0,c0,A1,c1,rfl,ho,hc0,hc1,hc2,hm,hln⟩:=(hI.below hB).at_ hlt;have HM:=lHd (lMg ho.out);have hml:=lHd hm;have hlnl:=lHd hln;clear hm hln
   go_wp2_with fail
   refine (hf o A0 A1 c0 c1 _ HM.out hB hml.out hlnl.out).mono ?_;rintro e w1 ⟨he,hB1⟩;rw[HP.out _ HM.out] at he;subst he;have D1:=hB.trans (hB1.mono hB.size);go_wp2
   go_roundw
   case rel=>exact⟨k+1,by omega,by go_num,D1⟩
   case measure=>simp[intOf];omega
  ·go_wp2;go_ret;exact⟨rfl,hB⟩
theorem xVr(A:Option Addr)(c:Nat)(xs:List MopV)(F:FuncId)(caps:Array Value)(p:MopV->Bool)(w:World)(hI:MopsAt w A xs)(hl:xs.length<=9223372036854775807)(hE:xXm F)(hf:zY4 F caps xs p w)(v:Bool)(hv:v=true↔∃ o∈xs,p o=true) :
  Calls Tryz.prog 89 #[.slice A xs.length c,.func (.func F) #[] caps] w fun e w'=>e=.returned (.bool v)/\Below w.heap.size w w':=by
 by_cases hp:∃ x∈xs,p x=true
 ·obtain rfl:v=true:=hv.2 hp;have HP:=lHd hp;clear hp hv;go_enter Tryz.func89,Tryz.ntmps89
  go_wp2_with fail
  refine (zKi A c xs F caps p _ hI hl hE hf HP.out).mono ?_;rintro e w' ⟨k,rfl,hk,hB⟩;go_wp2;go_ret;exact⟨xJh (by simp),hB⟩
 ·obtain rfl:v=false:=by cases v;rfl;exact absurd (hv.1 rfl) hp
  have HP:Hid (∀ x∈xs,p x=false):=lHd (fun x hx=>by
   cases h:p x with
   | false=>rfl
   | true=>exact absurd ⟨x,hx,h⟩ hp)
  clear hp hv;go_enter Tryz.func89,Tryz.ntmps89
  go_wp2_with fail
  refine (vJp A c xs F caps p _ hI hl hE hf HP.out).mono ?_;rintro e w' ⟨rfl,hB⟩;go_wp2;go_ret;exact⟨rfl,hB⟩
theorem xZp(w:World)(sizes:List Int)(As Ai Ag Ao:Option Addr)(cs ni ci ng cg no co:Nat)(hsz:Ints w As sizes)(hls:sizes.length<=9223372036854775807)(A:Option Addr)(c:Nat)(s:List Int)(hI:Ints w A s)(hl:s.length<=9223372036854775807) :
  Calls Tryz.prog 87 #[.agg #[.slice As sizes.length cs,.slice Ai ni ci,.slice Ag ng cg,.slice Ao no co],.slice A s.length c] w fun e w'=>e=.returned (.bool (stB sizes s))/\Below w.heap.size w w':=by
 by_cases hlen:s.length=sizes.length
 ·have hlen':((s.length:Int) != (sizes.length:Int))=false:=by simp[hlen]
  have HL:=lHd hlen;have hkl:∀ k,k < s.length->k < sizes.length:=fun k h=>by omega
  clear hlen;go_enter Tryz.func87,Tryz.ntmps87;go_wp2
  go_loopw [15] (fun i wr=>∃ k:Nat,k<=s.length/\i=.int .i64 k/\Hid (∀ j:Nat,j < k->0<=xJ2 s (j:Int)/\xJ2 s (j:Int) < xJ2 sizes (j:Int))/\Below w.heap.size w wr/\Cls wr [(w.heap.size,0,.slice As sizes.length cs),(w.heap.size,1,.slice Ai ni ci),(w.heap.size,2,.slice Ag ng cg),(w.heap.size,3,.slice Ao no co)]) (fun i _=>s.length - (intOf i).toNat)
  case atStart=>exact⟨0,Nat.zero_le _,rfl,lHd (fun j hj=>by omega),bch,(by simp[Cls,go_sem])⟩
  case round=>
   obtain⟨k,hk,rfl,hS,hBr,hCr⟩:=hrel;obtain⟨w1,rfl⟩:∃ wo:World,wo=wr:=⟨_,rfl⟩;have Fr:=hCr;simp only[Cls,and_true] at Fr;have yrw0:w.heap.size < w1.heap.size:=hCr.blk (b:=w.heap.size) (k:=0) (v:=.slice As sizes.length cs) (by simp)
   by_cases hlt:k < s.length
   ·obtain⟨ad,x,rfl,hx,hc⟩:=(hI.below hBr).at_ (k:=k) hlt;have hks:=hkl k hlt;obtain⟨bd,y,rfl,hy,hd⟩:=(hsz.below hBr).at_ (k:=k) hks;have hks2:(k:Int) < (sizes.length:Int):=by omega
    have hvx:=lHd (show xJ2 s (k:Int)=x from xJ5 hx.out);have hvy:=lHd (show xJ2 sizes (k:Int)=y from xJ5 hy.out)
    by_cases h1:x < 0
    ·have HF:=lHd (show stB sizes s=false from xQt.2 (fun h=>by have:=h.rng k hks;rw[hvx.out] at this;omega));go_wp2;go_ret;exact⟨xJh HF.out.symm,bch⟩
    ·by_cases h2:y<=x
     ·have HF:=lHd (show stB sizes s=false from xQt.2 (fun h=>by have:=h.rng k hks;rw[hvx.out,hvy.out] at this;omega));go_wp2;go_ret;exact⟨xJh HF.out.symm,bch⟩
     ·have HK:=lHd (show ∀ j:Nat,j < k+1->0<=xJ2 s (j:Int)/\xJ2 s (j:Int) < xJ2 sizes (j:Int) from fun j hj=>by
       by_cases e:j=k
       ·subst e;rw[hvx.out,hvy.out];omega
       ·exact hS.out j (by omega))
      go_wp2
      go_roundw
      case rel=>exact⟨k+1,by omega,by go_num,HK,bch,hCr⟩
      case measure=>simp[intOf];omega
   ·have HT:=lHd (zXb.2 (StM.of_all HL.out hlt hS.out));go_wp2;go_ret;exact⟨xJh HT.out.symm,bch⟩
 ·have hlen':((s.length:Int) != (sizes.length:Int))=true:=by simp;omega
  have HF:=lHd (show stB sizes s=false from xQt.2 (fun h=>hlen h.len));go_enter Tryz.func87,Tryz.ntmps87;go_wp2;go_ret;exact⟨xJh HF.out.symm,bch⟩
theorem xKc:xXm 126:=fun args w=>by kernel_rfl
theorem zVt(x:Int)(w:World):Calls Tryz.prog 126 #[.int .i64 x] w fun e w'=>e=.returned (.bool (decide (x < 1\/6 < x)))/\Below w.heap.size w w':=by
 by_cases h1:x < 1
 ·rw[decide_eq_true (.inl h1)];go_enter Tryz.func126,Tryz.ntmps126;go_wp2;go_ret;exact⟨by simp,Below.refl _ _⟩
 ·by_cases h2:6 < x
  ·rw[decide_eq_true (.inr h2)];go_enter Tryz.func126,Tryz.ntmps126;go_wp2;go_ret;exact⟨by simp,Below.refl _ _⟩
  ·rw[decide_eq_false (by omega)];go_enter Tryz.func126,Tryz.ntmps126;go_wp2;go_ret;exact⟨by simp,Below.refl _ _⟩
def FaultP(P:Prop)(e:Ending):Prop:=∃ c j:Int,e=.returned (.agg #[.int .i64 c,.int .i64 j])/\((c=0/\j=0/\P)\/(¬ c=0/\¬ P))
theorem FaultP.none_{P:Prop}(h:P):FaultP P (.returned (.agg #[.int .i64 0,.int .i64 0])):=⟨0,0,rfl,.inl ⟨rfl,rfl,h⟩⟩
theorem FaultP.some_{P:Prop}(c j:Int)(hc:¬ c=0)(h:¬ P):FaultP P (.returned (.agg #[.int .i64 c,.int .i64 j])):=⟨c,j,rfl,.inr ⟨hc,h⟩⟩
theorem xXf(w:World)(m:MtV)(As Ai Ag Ao:Option Addr)(cs ci cg co:Nat)(hM:MMem w As Ai Ag Ao m) :
  Calls Tryz.prog 83 #[.agg #[.slice As m.sizes.length cs,.slice Ai m.init.length ci,.slice Ag m.goal.length cg,.slice Ao m.ops.length co]] w fun e w'=>FaultP (MValid m) e/\Below w.heap.size w w':=by
 have hls:=hM.lsizes.le;have hli:=hM.linit.le;have hlg:=hM.lgoal.le;have hlo:=hM.lops.le;have HM:=lHd hM;clear hM
 by_cases h1:m.sizes.length=0
 ·have h1':((m.sizes.length:Int) == 0)=true:=by rw[h1];rfl
  go_enter Tryz.func83,Tryz.ntmps83;have HN:=lHd (show ¬ MValid m from fun h=>by have:=h.v0;omega);go_wp2;refine bodyPost_ret (v:=.agg #[.int .i64 2,.int .i64 (-1)]) ?_ rfl ⟨FaultP.some_ (2) (-1) (by decide) HN.out,bch⟩;simp[results,Tryz.results83,go_sem]
 ·have h1':((m.sizes.length:Int) == 0)=false:=beq_eq_false_iff_ne.2 (by omega)
  by_cases h2:8 < m.sizes.length
  ·have h2':decide (8 < m.sizes.length)=true:=decide_eq_true h2;have h2i:decide ((m.sizes.length:Int) > 8)=true:=decide_eq_true (by omega);go_enter Tryz.func83,Tryz.ntmps83;have HN:=lHd (show ¬ MValid m from fun h=>by have:=h.v1;omega);go_wp2;refine bodyPost_ret (v:=.agg #[.int .i64 2,.int .i64 (-1)]) ?_ rfl ⟨FaultP.some_ (2) (-1) (by decide) HN.out,bch⟩;simp[results,Tryz.results83,go_sem]
  ·have h2':decide (8 < m.sizes.length)=false:=decide_eq_false h2;have h2i:decide ((m.sizes.length:Int) > 8)=false:=decide_eq_false (by omega);have HV:=lHd (show 0 < m.sizes.length/\m.sizes.length<=8 by omega)
   by_cases h3:∃ n∈m.sizes,decide (n < 1\/6 < n)=true
   ·have H3:=lHd h3;clear h3;go_enter Tryz.func83,Tryz.ntmps83
    go_wp2_with fail
    refine (xQ4 _ _ _ _ #[] (fun n=>decide (n < 1\/6 < n)) _ (HM.out.sizes.below bch) hls xKc (fun x _ wr _=>by simpa using zVt x wr) true (iff_of_true rfl H3.out)).mono ?_;rintro e w1 ⟨rfl,hB1⟩;have D1:=xJ4 w hB1 bch;have C1:=Cls.below (l:=[(w.heap.size,0,.slice As m.sizes.length cs),(w.heap.size,1,.slice Ai m.init.length ci),(w.heap.size,2,.slice Ag m.goal.length cg),(w.heap.size,3,.slice Ao m.ops.length co),(w.heap.size+1,0,.int .i64 0),(w.heap.size+1,1,.int .i64 0)]) hB1 (by simp[Cls,go_sem]);have F1:=C1;simp only[Cls,and_true] at F1;have y1w1:w.heap.size+1 < w1.heap.size:=C1.blk (b:=w.heap.size+1) (k:=0) (v:=.int .i64 0) (by simp);have HN:=lHd (show ¬ MValid m from fun h=>by obtain⟨n,hn,hp⟩:=H3.out;have:=h.sz n hn;have:=of_decide_eq_true hp;omega);go_wp2;refine bodyPost_ret (v:=.agg #[.int .i64 3,.int .i64 (-1)]) ?_ rfl ⟨FaultP.some_ (3) (-1) (by decide) HN.out,bch⟩;simp[results,Tryz.results83,go_sem,F1,y1w1]
   ·have H3:=lHd h3;clear h3;have HSZ:=lHd (show ∀ n∈m.sizes,1<=n/\n<=6 from fun n hn=>Classical.byContradiction fun hc=>H3.out ⟨n,hn,decide_eq_true (by omega)⟩);go_enter Tryz.func83,Tryz.ntmps83
    go_wp2_with fail
    refine (xQ4 _ _ _ _ #[] (fun n=>decide (n < 1\/6 < n)) _ (HM.out.sizes.below bch) hls xKc (fun x _ wr _=>by simpa using zVt x wr) false (iff_of_false (by decide) H3.out)).mono ?_;rintro e w1 ⟨rfl,hB1⟩;have D1:=xJ4 w hB1 bch;have C1:=Cls.below (l:=[(w.heap.size,0,.slice As m.sizes.length cs),(w.heap.size,1,.slice Ai m.init.length ci),(w.heap.size,2,.slice Ag m.goal.length cg),(w.heap.size,3,.slice Ao m.ops.length co),(w.heap.size+1,0,.int .i64 0),(w.heap.size+1,1,.int .i64 0)]) hB1 (by simp[Cls,go_sem]);have F1:=C1;simp only[Cls,and_true] at F1;have y1w1:w.heap.size+1 < w1.heap.size:=C1.blk (b:=w.heap.size+1) (k:=0) (v:=.int .i64 0) (by simp)
    by_cases h4:StM m.sizes m.init
    ·have H4:=lHd h4;have H4b:=lHd (zXb.2 h4);clear h4
     go_wp2_with fail
     refine (xZp _ _ _ _ _ _ _ _ _ _ _ _ _ (HM.out.sizes.below bch) hls _ _ _ (HM.out.init.below bch) hli).mono ?_;rintro e w2 ⟨he,hB2⟩;rw[H4b.out] at he;subst he;have D2:=xJ4 w hB2 bch;have C2:=Cls.below (l:=[(w.heap.size,0,.slice As m.sizes.length cs),(w.heap.size,1,.slice Ai m.init.length ci),(w.heap.size,2,.slice Ag m.goal.length cg),(w.heap.size,3,.slice Ao m.ops.length co),(w.heap.size+1,0,.int .i64 0),(w.heap.size+1,1,.int .i64 0)]) hB2 (by simp[Cls,go_sem,F1,y1w1]);have F2:=C2;simp only[Cls,and_true] at F2;have y2w1:w.heap.size+1 < w2.heap.size:=C2.blk (b:=w.heap.size+1) (k:=0) (v:=.int .i64 0) (by simp)
     by_cases h5:AsOk m.sizes m.goal
     ·have H5:=lHd h5;have H5b:=lHd (xK6.2 h5);clear h5
      go_wp2_with fail
      refine (xXn _ _ _ _ _ _ _ _ _ _ _ _ _ (HM.out.sizes.below bch) hls _ _ _ (HM.out.goal.below bch) hlg).mono ?_;rintro e w3 ⟨he,hB3⟩;rw[H5b.out] at he;subst he;have D3:=xJ4 w hB3 bch;have C3:=Cls.below (l:=[(w.heap.size,0,.slice As m.sizes.length cs),(w.heap.size,1,.slice Ai m.init.length ci),(w.heap.size,2,.slice Ag m.goal.length cg),(w.heap.size,3,.slice Ao m.ops.length co),(w.heap.size+1,0,.int .i64 0),(w.heap.size+1,1,.int .i64 0)]) hB3 (by simp[Cls,go_sem,F2,y2w1]);have F3:=C3;simp only[Cls,and_true] at F3;have y3w1:w.heap.size+1 < w3.heap.size:=C3.blk (b:=w.heap.size+1) (k:=0) (v:=.int .i64 0) (by simp)
      by_cases h6:40 < m.ops.length
      ·have h6':decide (40 < m.ops.length)=true:=decide_eq_true h6;have HN:=lHd (show ¬ MValid m from fun h=>by have:=h.nops;omega);go_wp2;refine bodyPost_ret (v:=.agg #[.int .i64 2,.int .i64 (-1)]) ?_ rfl ⟨FaultP.some_ (2) (-1) (by decide) HN.out,bch⟩;simp[results,Tryz.results83,go_sem,F3,y3w1]
      ·have h6':decide (40 < m.ops.length)=false:=decide_eq_false h6
       go_wp2_with fail
       go_loopw [47] (fun i wr=>∃ k:Nat,k<=m.ops.length/\i=.int .i64 k/\Hid (∀ o∈m.ops.take k,(AsOk m.sizes o.pre/\AsOk m.sizes o.post)/\0<=o.cost/\o.cost<=100)/\Below w.heap.size w wr/\Cls wr [(w.heap.size,0,.slice As m.sizes.length cs),(w.heap.size,1,.slice Ai m.init.length ci),(w.heap.size,2,.slice Ag m.goal.length cg),(w.heap.size,3,.slice Ao m.ops.length co),(w.heap.size+1,0,.int .i64 0),(w.heap.size+1,1,.int .i64 0)]) (fun i _=>m.ops.length - (intOf i).toNat)
       case atStart=>exact⟨0,Nat.zero_le _,rfl,lHd (by simp),bch,(by simp[Cls,go_sem,F3,y3w1])⟩
       case round=>
        obtain⟨k,hk,rfl,HO,hBr,hCr⟩:=hrel;obtain⟨wk,rfl⟩:∃ wo:World,wo=wr:=⟨_,rfl⟩;have Fr:=hCr;simp only[Cls,and_true] at Fr;have yrw1:w.heap.size+1 < wk.heap.size:=hCr.blk (b:=w.heap.size+1) (k:=0) (v:=.int .i64 0) (by simp);have yrw0:w.heap.size < wk.heap.size:=(by omega)
        by_cases hlt:k < m.ops.length
        ·obtain⟨ad,o,A0,c0,A1,c1,rfl,ho,hc0,hc1,hc2,ham,hln⟩:=(HM.out.ops.below hBr).at_ (k:=k) hlt;have HOM:=lHd (lMg ho.out);have HA:=lHd ham;obtain⟨hl0,hl1⟩:=hln;have hl0':=hl0.le;have hl1':=hl1.le;clear ham
         by_cases g1:AsOk m.sizes o.pre
         ·have G1:=lHd g1;have G1b:=lHd (xK6.2 g1);clear g1
          go_wp2_with fail
          refine (xXn _ _ _ _ _ _ _ _ _ _ _ _ _ (HM.out.sizes.below bch) hls _ _ _ (HA.out.1.below bch) hl0').mono ?_;rintro e w4 ⟨he,hB4⟩;rw[G1b.out] at he;subst he;have D4:=xJ4 w hB4 bch;have Ewk_4:=xJ4 wk hB4 bch;have C4:=Cls.below (l:=[(w.heap.size,0,.slice As m.sizes.length cs),(w.heap.size,1,.slice Ai m.init.length ci),(w.heap.size,2,.slice Ag m.goal.length cg),(w.heap.size,3,.slice (some ad) m.ops.length co),(w.heap.size+1,0,.int .i64 0),(w.heap.size+1,1,.int .i64 0),(wk.heap.size,0,.slice A0 o.pre.length c0),(wk.heap.size,1,.slice A1 o.post.length c1),(wk.heap.size,2,.int .i64 o.cost)]) hB4 (by simp[Cls,go_sem,Fr,yrw1,yrw0]);have F4:=C4;simp only[Cls,and_true] at F4;have y4w1:w.heap.size+1 < w4.heap.size:=C4.blk (b:=w.heap.size+1) (k:=0) (v:=.int .i64 0) (by simp);have y4wk0:wk.heap.size < w4.heap.size:=C4.blk (b:=wk.heap.size) (k:=0) (v:=.slice A0 o.pre.length c0) (by simp)
          by_cases g2:AsOk m.sizes o.post
          ·have G2:=lHd g2;have G2b:=lHd (xK6.2 g2);clear g2
           go_wp2_with fail
           refine (xXn _ _ _ _ _ _ _ _ _ _ _ _ _ (HM.out.sizes.below bch) hls _ _ _ (HA.out.2.below bch) hl1').mono ?_;rintro e w5 ⟨he,hB5⟩;rw[G2b.out] at he;subst he;have D5:=xJ4 w hB5 bch;have C5:=Cls.below (l:=[(w.heap.size,0,.slice As m.sizes.length cs),(w.heap.size,1,.slice Ai m.init.length ci),(w.heap.size,2,.slice Ag m.goal.length cg),(w.heap.size,3,.slice (some ad) m.ops.length co),(w.heap.size+1,0,.int .i64 0),(w.heap.size+1,1,.int .i64 0),(wk.heap.size,0,.slice A0 o.pre.length c0),(wk.heap.size,1,.slice A1 o.post.length c1),(wk.heap.size,2,.int .i64 o.cost)]) hB5 (by simp[Cls,go_sem,F4,y4w1,y4wk0]);have F5:=C5;simp only[Cls,and_true] at F5;have y5w1:w.heap.size+1 < w5.heap.size:=C5.blk (b:=w.heap.size+1) (k:=0) (v:=.int .i64 0) (by simp);have y5wk0:wk.heap.size < w5.heap.size:=C5.blk (b:=wk.heap.size) (k:=0) (v:=.slice A0 o.pre.length c0) (by simp)
           by_cases g3:o.cost < 0
           ·have HN:=lHd (show ¬ MValid m from fun h=>by have:=(h.ops o HOM.out).2.1;omega);go_wp2;refine bodyPost_ret (v:=.agg #[.int .i64 3,.int .i64 k]) ?_ rfl ⟨FaultP.some_ (3) (k) (by decide) HN.out,bch⟩;simp[results,Tryz.results83,go_sem,F5,y5w1,y5wk0]
           ·by_cases g4:100 < o.cost
            ·have g4':decide (100 < o.cost)=true:=decide_eq_true g4;have HN:=lHd (show ¬ MValid m from fun h=>by have:=(h.ops o HOM.out).2.2;omega);go_wp2;refine bodyPost_ret (v:=.agg #[.int .i64 3,.int .i64 k]) ?_ rfl ⟨FaultP.some_ (3) (k) (by decide) HN.out,bch⟩;simp[results,Tryz.results83,go_sem,F5,y5w1,y5wk0]
            ·have g4':decide (100 < o.cost)=false:=decide_eq_false g4;go_wp2
             go_roundw
             case rel=>exact⟨k+1,by omega,by go_num,lHd (fun o' ho'=>by
              rw[List.take_add_one,ho.out] at ho';rcases List.mem_append.1 ho' with h | h
              ·exact HO.out o' h
              ·simp at h;subst h;exact⟨⟨G1.out,G2.out⟩,by omega,by omega⟩),bch,(by simp[Cls,go_sem,F5,y5w1,y5wk0])⟩
             case measure=>simp[intOf];omega
          ·have G2b:=lHd (xZ3.2 g2);have G2:=lHd g2;clear g2
           go_wp2_with fail
           refine (xXn _ _ _ _ _ _ _ _ _ _ _ _ _ (HM.out.sizes.below bch) hls _ _ _ (HA.out.2.below bch) hl1').mono ?_;rintro e w5 ⟨he,hB5⟩;rw[G2b.out] at he;subst he;have D5:=xJ4 w hB5 bch;have C5:=Cls.below (l:=[(w.heap.size,0,.slice As m.sizes.length cs),(w.heap.size,1,.slice Ai m.init.length ci),(w.heap.size,2,.slice Ag m.goal.length cg),(w.heap.size,3,.slice (some ad) m.ops.length co),(w.heap.size+1,0,.int .i64 0),(w.heap.size+1,1,.int .i64 0),(wk.heap.size,0,.slice A0 o.pre.length c0),(wk.heap.size,1,.slice A1 o.post.length c1),(wk.heap.size,2,.int .i64 o.cost)]) hB5 (by simp[Cls,go_sem,F4,y4w1,y4wk0]);have F5:=C5;simp only[Cls,and_true] at F5;have y5w1:w.heap.size+1 < w5.heap.size:=C5.blk (b:=w.heap.size+1) (k:=0) (v:=.int .i64 0) (by simp);have y5wk0:wk.heap.size < w5.heap.size:=C5.blk (b:=wk.heap.size) (k:=0) (v:=.slice A0 o.pre.length c0) (by simp);have HN:=lHd (show ¬ MValid m from fun h=>G2.out (h.ops o HOM.out).1.2);go_wp2;refine bodyPost_ret (v:=.agg #[.int .i64 5,.int .i64 k]) ?_ rfl ⟨FaultP.some_ (5) (k) (by decide) HN.out,bch⟩;simp[results,Tryz.results83,go_sem,F5,y5w1,y5wk0]
         ·have G1b:=lHd (xZ3.2 g1);have G1:=lHd g1;clear g1
          go_wp2_with fail
          refine (xXn _ _ _ _ _ _ _ _ _ _ _ _ _ (HM.out.sizes.below bch) hls _ _ _ (HA.out.1.below bch) hl0').mono ?_;rintro e w4 ⟨he,hB4⟩;rw[G1b.out] at he;subst he;have D4:=xJ4 w hB4 bch;have Ewk_4:=xJ4 wk hB4 bch;have C4:=Cls.below (l:=[(w.heap.size,0,.slice As m.sizes.length cs),(w.heap.size,1,.slice Ai m.init.length ci),(w.heap.size,2,.slice Ag m.goal.length cg),(w.heap.size,3,.slice (some ad) m.ops.length co),(w.heap.size+1,0,.int .i64 0),(w.heap.size+1,1,.int .i64 0),(wk.heap.size,0,.slice A0 o.pre.length c0),(wk.heap.size,1,.slice A1 o.post.length c1),(wk.heap.size,2,.int .i64 o.cost)]) hB4 (by simp[Cls,go_sem,Fr,yrw1,yrw0]);have F4:=C4;simp only[Cls,and_true] at F4;have y4w1:w.heap.size+1 < w4.heap.size:=C4.blk (b:=w.heap.size+1) (k:=0) (v:=.int .i64 0) (by simp);have y4wk0:wk.heap.size < w4.heap.size:=C4.blk (b:=wk.heap.size) (k:=0) (v:=.slice A0 o.pre.length c0) (by simp);have HN:=lHd (show ¬ MValid m from fun h=>G1.out (h.ops o HOM.out).1.1);go_wp2;refine bodyPost_ret (v:=.agg #[.int .i64 5,.int .i64 k]) ?_ rfl ⟨FaultP.some_ (5) (k) (by decide) HN.out,bch⟩;simp[results,Tryz.results83,go_sem,F4,y4w1,y4wk0]
        ·have HT:=lHd (show MValid m from ⟨HV.out.1,HV.out.2,HSZ.out,H4.out,H5.out,by omega,fun o ho=>HO.out o (by rw[List.take_of_length_le (by omega)];exact ho)⟩);go_wp2;refine bodyPost_ret (v:=.agg #[.int .i64 0,.int .i64 0]) ?_ rfl ⟨FaultP.none_ HT.out,bch⟩;simp[results,Tryz.results83,go_sem,Fr,yrw1,yrw0]
     ·have H5b:=lHd (xZ3.2 h5);have H5:=lHd h5;clear h5
      go_wp2_with fail
      refine (xXn _ _ _ _ _ _ _ _ _ _ _ _ _ (HM.out.sizes.below bch) hls _ _ _ (HM.out.goal.below bch) hlg).mono ?_;rintro e w3 ⟨he,hB3⟩;rw[H5b.out] at he;subst he;have D3:=xJ4 w hB3 bch;have C3:=Cls.below (l:=[(w.heap.size,0,.slice As m.sizes.length cs),(w.heap.size,1,.slice Ai m.init.length ci),(w.heap.size,2,.slice Ag m.goal.length cg),(w.heap.size,3,.slice Ao m.ops.length co),(w.heap.size+1,0,.int .i64 0),(w.heap.size+1,1,.int .i64 0)]) hB3 (by simp[Cls,go_sem,F2,y2w1]);have F3:=C3;simp only[Cls,and_true] at F3;have y3w1:w.heap.size+1 < w3.heap.size:=C3.blk (b:=w.heap.size+1) (k:=0) (v:=.int .i64 0) (by simp);have HN:=lHd (show ¬ MValid m from fun h=>H5.out h.goal);go_wp2;refine bodyPost_ret (v:=.agg #[.int .i64 5,.int .i64 (-3)]) ?_ rfl ⟨FaultP.some_ (5) (-3) (by decide) HN.out,bch⟩;simp[results,Tryz.results83,go_sem,F3,y3w1]
    ·have H4b:=lHd (xQt.2 h4);have H4:=lHd h4;clear h4
     go_wp2_with fail
     refine (xZp _ _ _ _ _ _ _ _ _ _ _ _ _ (HM.out.sizes.below bch) hls _ _ _ (HM.out.init.below bch) hli).mono ?_;rintro e w2 ⟨he,hB2⟩;rw[H4b.out] at he;subst he;have D2:=xJ4 w hB2 bch;have C2:=Cls.below (l:=[(w.heap.size,0,.slice As m.sizes.length cs),(w.heap.size,1,.slice Ai m.init.length ci),(w.heap.size,2,.slice Ag m.goal.length cg),(w.heap.size,3,.slice Ao m.ops.length co),(w.heap.size+1,0,.int .i64 0),(w.heap.size+1,1,.int .i64 0)]) hB2 (by simp[Cls,go_sem,F1,y1w1]);have F2:=C2;simp only[Cls,and_true] at F2;have y2w1:w.heap.size+1 < w2.heap.size:=C2.blk (b:=w.heap.size+1) (k:=0) (v:=.int .i64 0) (by simp);have HN:=lHd (show ¬ MValid m from fun h=>H4.out h.init);go_wp2;refine bodyPost_ret (v:=.agg #[.int .i64 5,.int .i64 (-2)]) ?_ rfl ⟨FaultP.some_ (5) (-2) (by decide) HN.out,bch⟩;simp[results,Tryz.results83,go_sem,F2,y2w1]
section
noncomputable def opc(o:OpV)(f:Int):Int:=@ite _ (SetP o.pre f/\SetP o.add f/\SetP o.del f/\∀ x∈o.add,¬ x∈o.del) (Classical.propDecidable _) (if o.cost < 0\/100 < o.cost then 3 else 0) 5
theorem xK9{o:OpV}{f:Int}(h:¬ (SetP o.pre f/\SetP o.add f/\SetP o.del f/\∀ x∈o.add,¬ x∈o.del)):opc o f=5:=by unfold opc;exact if_neg h
theorem zVk{o:OpV}{f:Int}(h:SetP o.pre f/\SetP o.add f/\SetP o.del f/\∀ x∈o.add,¬ x∈o.del):opc o f=if o.cost < 0\/100 < o.cost then 3 else 0:=by unfold opc;exact if_pos h
theorem zJa{o:OpV}{f:Int}:opc o f=0↔(SetP o.pre f/\SetP o.add f/\SetP o.del f/\∀ x∈o.add,¬ x∈o.del)/\0<=o.cost/\o.cost<=100:=by
 by_cases h:SetP o.pre f/\SetP o.add f/\SetP o.del f/\∀ x∈o.add,¬ x∈o.del
 ·rw[zVk h]
  split
  ·constructor
   ·intro h;cases h
   ·intro h2;omega
  ·constructor
   ·intro _;exact⟨h,by omega⟩
   ·intro _;rfl
 ·rw[xK9 h];constructor
  ·intro h;cases h
  ·intro h2;exact absurd h2.1 h
noncomputable def xXj(f:Int):List OpV->Nat->Int×Int
 | [],_=>(0,0)
 | o :: r,k=>if opc o f=0 then xXj f r (k+1) else (opc o f,(k:Int))
theorem xZ5{f:Int}:∀ (l:List OpV) (k:Nat),(∀ o∈l,opc o f=0)->xXj f l k=(0,0)
 | [],_,_=>rfl
 | o :: r,k,h=>by unfold xXj;rw[if_pos (h o (by simp))];exact xZ5 r (k+1) (fun o ho=>h o (by simp[ho]))
theorem xKa{f:Int}:∀ (l:List OpV) (s k:Nat) (o:OpV),(∀ o∈l.take k,opc o f=0)->l[k]? = some o->¬ opc o f=0->xXj f l s=(opc o f,((s+k:Nat):Int))
 | [],_,_,_,_,h,_=>by simp at h
 | a :: r,s,0,o,_,h,hn=>by
  simp at h;subst h;unfold xXj;rw[if_neg hn];rfl
 | a :: r,s,k+1,o,h1,h,hn=>by
  unfold xXj;rw[if_pos (h1 a (by simp))];have:=xKa r (s+1) k o (fun o ho=>h1 o (by simp[ho])) (by simpa using h) hn;rw[this];congr 1;omega
theorem xVp{f:Int}:∀ (l:List OpV) (k:Nat),(xXj f l k).1=0->∀ o∈l,opc o f=0
 | [],_,_=>by simp
 | o :: r,k,h=>by
  unfold xXj at h
  by_cases hc:opc o f=0
  ·rw[if_pos hc] at h;intro x hx;rcases List.mem_cons.1 hx with e | e
   ·subst e;exact hc
   ·exact xVp r (k+1) h x e
  ·rw[if_neg hc] at h;exact absurd h hc
noncomputable def xX2(t:TaskV):Int×Int:=
 if t.facts < 0\/24 < t.facts then (3,-1) else
 @ite _ (SetP t.init t.facts) (Classical.propDecidable _) (@ite _ (SetP t.goal t.facts) (Classical.propDecidable _) (if 40 < t.ops.length then (2,-1) else xXj t.facts t.ops 0) (5,-3)) (5,-2)
theorem zVl{t:TaskV}(h:t.facts < 0\/24 < t.facts):xX2 t=(3,-1):=by unfold xX2;rw[if_pos h]
theorem zVm{t:TaskV}(h:¬ (t.facts < 0\/24 < t.facts))(h1:¬ SetP t.init t.facts):xX2 t=(5,-2):=by unfold xX2;rw[if_neg h,if_neg h1]
theorem zVn{t:TaskV}(h:¬ (t.facts < 0\/24 < t.facts))(h1:SetP t.init t.facts)(h2:¬ SetP t.goal t.facts):xX2 t=(5,-3):=by unfold xX2;rw[if_neg h,if_pos h1,if_neg h2]
theorem zVo{t:TaskV}(h:¬ (t.facts < 0\/24 < t.facts))(h1:SetP t.init t.facts)(h2:SetP t.goal t.facts)(h3:40 < t.ops.length):xX2 t=(2,-1):=by unfold xX2;rw[if_neg h,if_pos h1,if_pos h2,if_pos h3]
theorem zJb{t:TaskV}(h:¬ (t.facts < 0\/24 < t.facts))(h1:SetP t.init t.facts)(h2:SetP t.goal t.facts)(h3:¬ 40 < t.ops.length):xX2 t=xXj t.facts t.ops 0:=by unfold xX2;rw[if_neg h,if_pos h1,if_pos h2,if_neg h3]
structure Valid(t:TaskV):Prop where
 f0:0<=t.facts
 f1:t.facts<=24
 init:SetP t.init t.facts
 goal:SetP t.goal t.facts
 nops:t.ops.length<=40
 ops:∀ o∈t.ops,(SetP o.pre t.facts/\SetP o.add t.facts/\SetP o.del t.facts/\∀ x∈o.add,¬ x∈o.del)/\0<=o.cost/\o.cost<=100
theorem zQi{t:TaskV}:(xX2 t).1=0↔Valid t:=by
 by_cases h:t.facts < 0\/24 < t.facts
 ·rw[zVl h];exact⟨fun h=>by simp at h,fun v=>by have:=v.f0;have:=v.f1;omega⟩
 ·by_cases h1:SetP t.init t.facts
  ·by_cases h2:SetP t.goal t.facts
   ·by_cases h3:40 < t.ops.length
    ·rw[zVo h h1 h2 h3];exact⟨fun h=>by simp at h,fun v=>by have:=v.nops;omega⟩
    ·rw[zJb h h1 h2 h3];constructor
     ·intro hz;exact⟨by omega,by omega,h1,h2,by omega,fun o ho=>zJa.1 (xVp _ _ hz o ho)⟩
     ·intro v;rw[xZ5 _ _ (fun o ho=>zJa.2 (v.ops o ho))]
   ·rw[zVn h h1 h2];exact⟨fun h=>by simp at h,fun v=>absurd v.goal h2⟩
  ·rw[zVm h h1];exact⟨fun h=>by simp at h,fun v=>absurd v.init h1⟩
theorem xYj{t:TaskV}(v:Valid t):xX2 t=(0,0):=by
 rw[zJb (by have:=v.f0;have:=v.f1;omega) v.init v.goal (by have:=v.nops;omega)];exact xZ5 _ _ (fun o ho=>zJa.2 (v.ops o ho))
theorem zXl(w:World)(o:OpV)(A0 A1 A2:Option Addr)(c0 c1 c2:Nat)(f:Int)(hM:OpMem w A0 A1 A2 o)(hpre:¬ SetP o.pre f) :
  Calls Tryz.prog 63 #[.agg #[.slice A0 o.pre.length c0,.slice A1 o.add.length c1,.slice A2 o.del.length c2,.int .i64 o.cost],.int .i64 f] w fun e w'=>e=.returned (.int .i64 5)/\Below w.heap.size w w':=by
 have Hpre:=lHd hpre;clear hpre;go_enter Tryz.func63,Tryz.ntmps63
 go_wp2_with fail
 refine (xVt _ _ _ _ _ (hM.pre.below bch) hM.lpre.le Hpre.out).mono ?_;rintro e w' ⟨rfl,rfl⟩;go_wp2;go_ret;exact⟨rfl,bch⟩
theorem zXm(w:World)(o:OpV)(A0 A1 A2:Option Addr)(c0 c1 c2:Nat)(f:Int)(hM:OpMem w A0 A1 A2 o)(hpre:SetP o.pre f)(hadd:¬ SetP o.add f) :
  Calls Tryz.prog 63 #[.agg #[.slice A0 o.pre.length c0,.slice A1 o.add.length c1,.slice A2 o.del.length c2,.int .i64 o.cost],.int .i64 f] w fun e w'=>e=.returned (.int .i64 5)/\Below w.heap.size w w':=by
 have Hpre:=lHd hpre;clear hpre;have Hadd:=lHd hadd;clear hadd;go_enter Tryz.func63,Tryz.ntmps63
 go_wp2_with fail
 refine (xJj _ _ _ _ _ (hM.pre.below bch) hM.lpre.le Hpre.out).mono ?_;rintro e w' ⟨rfl,rfl⟩
 go_wp2_with fail
 refine (xVt _ _ _ _ _ (hM.add.below bch) hM.ladd.le Hadd.out).mono ?_;rintro e w' ⟨rfl,rfl⟩;go_wp2;go_ret;exact⟨rfl,bch⟩
theorem zXn(w:World)(o:OpV)(A0 A1 A2:Option Addr)(c0 c1 c2:Nat)(f:Int)(hM:OpMem w A0 A1 A2 o)(hpre:SetP o.pre f)(hadd:SetP o.add f)(hdel:¬ SetP o.del f) :
  Calls Tryz.prog 63 #[.agg #[.slice A0 o.pre.length c0,.slice A1 o.add.length c1,.slice A2 o.del.length c2,.int .i64 o.cost],.int .i64 f] w fun e w'=>e=.returned (.int .i64 5)/\Below w.heap.size w w':=by
 have Hpre:=lHd hpre;clear hpre;have Hadd:=lHd hadd;clear hadd;have Hdel:=lHd hdel;clear hdel;go_enter Tryz.func63,Tryz.ntmps63
 go_wp2_with fail
 refine (xJj _ _ _ _ _ (hM.pre.below bch) hM.lpre.le Hpre.out).mono ?_;rintro e w' ⟨rfl,rfl⟩
 go_wp2_with fail
 refine (xJj _ _ _ _ _ (hM.add.below bch) hM.ladd.le Hadd.out).mono ?_;rintro e w' ⟨rfl,rfl⟩
 go_wp2_with fail
 refine (xVt _ _ _ _ _ (hM.del.below bch) hM.ldel.le Hdel.out).mono ?_;rintro e w' ⟨rfl,rfl⟩;go_wp2;go_ret;exact⟨rfl,bch⟩
theorem zJc(w:World)(o:OpV)(A0 A1 A2:Option Addr)(c0 c1 c2:Nat)(f:Int)(hf:0<=f)(hf2:f<=24)(hM:OpMem w A0 A1 A2 o)(hpre:SetP o.pre f)(hadd:SetP o.add f)(hdel:SetP o.del f)(hm:∃ x∈o.add,x∈o.del)  :
  Calls Tryz.prog 63 #[.agg #[.slice A0 o.pre.length c0,.slice A1 o.add.length c1,.slice A2 o.del.length c2,.int .i64 o.cost],.int .i64 f] w fun e w'=>e=.returned (.int .i64 5)/\Below w.heap.size w w':=by
 have Hl:Hid ((o.del.length:Int)<=f):=lHd (hdel.length hf);have Hpre:=lHd hpre;clear hpre;have Hadd:=lHd hadd;clear hadd;have Hdel:=lHd hdel;clear hdel;have HM:=lHd hm;clear hm;go_enter Tryz.func63,Tryz.ntmps63
 go_wp2_with fail
 refine (xJj _ _ _ _ _ (hM.pre.below bch) hM.lpre.le Hpre.out).mono ?_;rintro e w' ⟨rfl,rfl⟩
 go_wp2_with fail
 refine (xJj _ _ _ _ _ (hM.add.below bch) hM.ladd.le Hadd.out).mono ?_;rintro e w' ⟨rfl,rfl⟩
 go_wp2_with fail
 refine (xJj _ _ _ _ _ (hM.del.below bch) hM.ldel.le Hdel.out).mono ?_;rintro e w' ⟨rfl,rfl⟩
 go_wp2_with fail
 refine (xVu _ _ _ _ _ _ _ (hM.add.below bch) (hM.del.below bch) hM.ladd.le (by have:=hM.ldel.le2;have:=Hl.out;omega) Hdel.out.pairwise).mono ?_;rintro e w1 ⟨he,hB1⟩;rw[decide_eq_true HM.out] at he;subst he;have D1:=xJ4 w hB1 bch;have C1:=Cls.below (l:=[(w.heap.size,0,.slice A0 o.pre.length c0),(w.heap.size,1,.slice A1 o.add.length c1),(w.heap.size,2,.slice A2 o.del.length c2),(w.heap.size,3,.int .i64 o.cost)]) hB1 (by simp[Cls,go_sem]);have y1w0:w.heap.size < w1.heap.size:=C1.blk (b:=w.heap.size) (k:=0) (v:=.slice A0 o.pre.length c0) (by simp);go_wp2;go_ret;exact⟨rfl,bch⟩
theorem zQj(w:World)(o:OpV)(A0 A1 A2:Option Addr)(c0 c1 c2:Nat)(f:Int)(hf:0<=f)(hf2:f<=24)(hM:OpMem w A0 A1 A2 o)(hpre:SetP o.pre f)(hadd:SetP o.add f)(hdel:SetP o.del f)(hm:¬ ∃ x∈o.add,x∈o.del)(h1:o.cost < 0) :
  Calls Tryz.prog 63 #[.agg #[.slice A0 o.pre.length c0,.slice A1 o.add.length c1,.slice A2 o.del.length c2,.int .i64 o.cost],.int .i64 f] w fun e w'=>e=.returned (.int .i64 3)/\Below w.heap.size w w':=by
 have Hl:Hid ((o.del.length:Int)<=f):=lHd (hdel.length hf);have Hpre:=lHd hpre;clear hpre;have Hadd:=lHd hadd;clear hadd;have Hdel:=lHd hdel;clear hdel;have HM:=lHd hm;clear hm;go_enter Tryz.func63,Tryz.ntmps63
 go_wp2_with fail
 refine (xJj _ _ _ _ _ (hM.pre.below bch) hM.lpre.le Hpre.out).mono ?_;rintro e w' ⟨rfl,rfl⟩
 go_wp2_with fail
 refine (xJj _ _ _ _ _ (hM.add.below bch) hM.ladd.le Hadd.out).mono ?_;rintro e w' ⟨rfl,rfl⟩
 go_wp2_with fail
 refine (xJj _ _ _ _ _ (hM.del.below bch) hM.ldel.le Hdel.out).mono ?_;rintro e w' ⟨rfl,rfl⟩
 go_wp2_with fail
 refine (xVu _ _ _ _ _ _ _ (hM.add.below bch) (hM.del.below bch) hM.ladd.le (by have:=hM.ldel.le2;have:=Hl.out;omega) Hdel.out.pairwise).mono ?_;rintro e w1 ⟨he,hB1⟩;rw[decide_eq_false HM.out] at he;subst he;have D1:=xJ4 w hB1 bch;have C1:=Cls.below (l:=[(w.heap.size,0,.slice A0 o.pre.length c0),(w.heap.size,1,.slice A1 o.add.length c1),(w.heap.size,2,.slice A2 o.del.length c2),(w.heap.size,3,.int .i64 o.cost)]) hB1 (by simp[Cls,go_sem]);have F1:=C1;simp only[Cls,and_true] at F1;have y1w0:w.heap.size < w1.heap.size:=C1.blk (b:=w.heap.size) (k:=0) (v:=.slice A0 o.pre.length c0) (by simp);go_wp2;go_ret;exact⟨rfl,bch⟩
theorem zQk(w:World)(o:OpV)(A0 A1 A2:Option Addr)(c0 c1 c2:Nat)(f:Int)(hf:0<=f)(hf2:f<=24)(hM:OpMem w A0 A1 A2 o)(hpre:SetP o.pre f)(hadd:SetP o.add f)(hdel:SetP o.del f)(hm:¬ ∃ x∈o.add,x∈o.del)(h1:0<=o.cost)(h2:100 < o.cost) :
  Calls Tryz.prog 63 #[.agg #[.slice A0 o.pre.length c0,.slice A1 o.add.length c1,.slice A2 o.del.length c2,.int .i64 o.cost],.int .i64 f] w fun e w'=>e=.returned (.int .i64 3)/\Below w.heap.size w w':=by
 have Hl:Hid ((o.del.length:Int)<=f):=lHd (hdel.length hf);have Hpre:=lHd hpre;clear hpre;have Hadd:=lHd hadd;clear hadd;have Hdel:=lHd hdel;clear hdel;have HM:=lHd hm;clear hm;go_enter Tryz.func63,Tryz.ntmps63
 go_wp2_with fail
 refine (xJj _ _ _ _ _ (hM.pre.below bch) hM.lpre.le Hpre.out).mono ?_;rintro e w' ⟨rfl,rfl⟩
 go_wp2_with fail
 refine (xJj _ _ _ _ _ (hM.add.below bch) hM.ladd.le Hadd.out).mono ?_;rintro e w' ⟨rfl,rfl⟩
 go_wp2_with fail
 refine (xJj _ _ _ _ _ (hM.del.below bch) hM.ldel.le Hdel.out).mono ?_;rintro e w' ⟨rfl,rfl⟩
 go_wp2_with fail
 refine (xVu _ _ _ _ _ _ _ (hM.add.below bch) (hM.del.below bch) hM.ladd.le (by have:=hM.ldel.le2;have:=Hl.out;omega) Hdel.out.pairwise).mono ?_;rintro e w1 ⟨he,hB1⟩;rw[decide_eq_false HM.out] at he;subst he;have D1:=xJ4 w hB1 bch;have C1:=Cls.below (l:=[(w.heap.size,0,.slice A0 o.pre.length c0),(w.heap.size,1,.slice A1 o.add.length c1),(w.heap.size,2,.slice A2 o.del.length c2),(w.heap.size,3,.int .i64 o.cost)]) hB1 (by simp[Cls,go_sem]);have F1:=C1;simp only[Cls,and_true] at F1;have y1w0:w.heap.size < w1.heap.size:=C1.blk (b:=w.heap.size) (k:=0) (v:=.slice A0 o.pre.length c0) (by simp);go_wp2;go_ret;exact⟨rfl,bch⟩
theorem zQl(w:World)(o:OpV)(A0 A1 A2:Option Addr)(c0 c1 c2:Nat)(f:Int)(hf:0<=f)(hf2:f<=24)(hM:OpMem w A0 A1 A2 o)(hpre:SetP o.pre f)(hadd:SetP o.add f)(hdel:SetP o.del f)(hm:¬ ∃ x∈o.add,x∈o.del)(h1:0<=o.cost)(h2:o.cost<=100) :
  Calls Tryz.prog 63 #[.agg #[.slice A0 o.pre.length c0,.slice A1 o.add.length c1,.slice A2 o.del.length c2,.int .i64 o.cost],.int .i64 f] w fun e w'=>e=.returned (.int .i64 0)/\Below w.heap.size w w':=by
 have Hl:Hid ((o.del.length:Int)<=f):=lHd (hdel.length hf);have Hpre:=lHd hpre;clear hpre;have Hadd:=lHd hadd;clear hadd;have Hdel:=lHd hdel;clear hdel;have HM:=lHd hm;clear hm;go_enter Tryz.func63,Tryz.ntmps63
 go_wp2_with fail
 refine (xJj _ _ _ _ _ (hM.pre.below bch) hM.lpre.le Hpre.out).mono ?_;rintro e w' ⟨rfl,rfl⟩
 go_wp2_with fail
 refine (xJj _ _ _ _ _ (hM.add.below bch) hM.ladd.le Hadd.out).mono ?_;rintro e w' ⟨rfl,rfl⟩
 go_wp2_with fail
 refine (xJj _ _ _ _ _ (hM.del.below bch) hM.ldel.le Hdel.out).mono ?_;rintro e w' ⟨rfl,rfl⟩
 go_wp2_with fail
 refine (xVu _ _ _ _ _ _ _ (hM.add.below bch) (hM.del.below bch) hM.ladd.le (by have:=hM.ldel.le2;have:=Hl.out;omega) Hdel.out.pairwise).mono ?_;rintro e w1 ⟨he,hB1⟩;rw[decide_eq_false HM.out] at he;subst he;have D1:=xJ4 w hB1 bch;have C1:=Cls.below (l:=[(w.heap.size,0,.slice A0 o.pre.length c0),(w.heap.size,1,.slice A1 o.add.length c1),(w.heap.size,2,.slice A2 o.del.length c2),(w.heap.size,3,.int .i64 o.cost)]) hB1 (by simp[Cls,go_sem]);have F1:=C1;simp only[Cls,and_true] at F1;have y1w0:w.heap.size < w1.heap.size:=C1.blk (b:=w.heap.size) (k:=0) (v:=.slice A0 o.pre.length c0) (by simp);go_wp2;go_ret;exact⟨rfl,bch⟩
theorem xYk(o:OpV)(A0 A1 A2:Option Addr)(c0 c1 c2:Nat)(f:Int)(hf:0<=f)(hf2:f<=24)(w:World)(hM:OpMem w A0 A1 A2 o) :
  Calls Tryz.prog 63 #[.agg #[.slice A0 o.pre.length c0,.slice A1 o.add.length c1,.slice A2 o.del.length c2,.int .i64 o.cost],.int .i64 f] w fun e w'=>e=.returned (.int .i64 (opc o f))/\Below w.heap.size w w':=by
 by_cases h0:SetP o.pre f
 ·by_cases h1:SetP o.add f
  ·by_cases h2:SetP o.del f
   ·by_cases hm:∃ x∈o.add,x∈o.del
    ·rw[xK9 (fun h=>by obtain⟨x,ha,hd⟩:=hm;exact h.2.2.2 x ha hd)];exact zJc w o A0 A1 A2 c0 c1 c2 f hf hf2 hM h0 h1 h2 hm
    ·have hg:SetP o.pre f/\SetP o.add f/\SetP o.del f/\∀ x∈o.add,¬ x∈o.del:=⟨h0,h1,h2,fun x ha hd=>hm ⟨x,ha,hd⟩⟩;rw[zVk hg]
     by_cases c:o.cost < 0
     ·rw[if_pos (Or.inl c)];exact zQj w o A0 A1 A2 c0 c1 c2 f hf hf2 hM h0 h1 h2 hm c
     ·by_cases c':100 < o.cost
      ·rw[if_pos (Or.inr c')];exact zQk w o A0 A1 A2 c0 c1 c2 f hf hf2 hM h0 h1 h2 hm (by omega) c'
      ·rw[if_neg (by omega)];exact zQl w o A0 A1 A2 c0 c1 c2 f hf hf2 hM h0 h1 h2 hm (by omega) (by omega)
   ·rw[xK9 (fun h=>h2 h.2.2.1)];exact zXn w o A0 A1 A2 c0 c1 c2 f hM h0 h1 h2
  ·rw[xK9 (fun h=>h1 h.2.1)];exact zXm w o A0 A1 A2 c0 c1 c2 f hM h0 h1
 ·rw[xK9 (fun h=>h0 h.1)];exact zXl w o A0 A1 A2 c0 c1 c2 f hM h0
theorem zYs(w:World)(t:TaskV)(Ai Ag Ao:Option Addr)(ci cg co:Nat)(hT:TaskMem w Ai Ag Ao t)(h:t.facts < 0) :
  Calls Tryz.prog 21 #[.agg #[.int .i64 t.facts,.slice Ai t.init.length ci,.slice Ag t.goal.length cg,.slice Ao t.ops.length co]] w fun e w'=>e=.returned (.agg #[.int .i64 3,.int .i64 (-1)])/\Below w.heap.size w w':=by
 go_enter Tryz.func21,Tryz.ntmps21;go_wp2;refine bodyPost_ret (v:=.agg #[.int .i64 3,.int .i64 (-1)]) ?_ rfl ⟨rfl,bch⟩;simp[results,Tryz.results21,go_sem]
theorem zYt(w:World)(t:TaskV)(Ai Ag Ao:Option Addr)(ci cg co:Nat)(hT:TaskMem w Ai Ag Ao t)(h:0<=t.facts)(h2:24 < t.facts) :
  Calls Tryz.prog 21 #[.agg #[.int .i64 t.facts,.slice Ai t.init.length ci,.slice Ag t.goal.length cg,.slice Ao t.ops.length co]] w fun e w'=>e=.returned (.agg #[.int .i64 3,.int .i64 (-1)])/\Below w.heap.size w w':=by
 go_enter Tryz.func21,Tryz.ntmps21;go_wp2;refine bodyPost_ret (v:=.agg #[.int .i64 3,.int .i64 (-1)]) ?_ rfl ⟨rfl,bch⟩;simp[results,Tryz.results21,go_sem]
theorem zYu(w:World)(t:TaskV)(Ai Ag Ao:Option Addr)(ci cg co:Nat)(hT:TaskMem w Ai Ag Ao t)(h:0<=t.facts)(h2:t.facts<=24)(hinit:¬ SetP t.init t.facts) :
  Calls Tryz.prog 21 #[.agg #[.int .i64 t.facts,.slice Ai t.init.length ci,.slice Ag t.goal.length cg,.slice Ao t.ops.length co]] w fun e w'=>e=.returned (.agg #[.int .i64 5,.int .i64 (-2)])/\Below w.heap.size w w':=by
 have HINIT:=lHd hinit;clear hinit;go_enter Tryz.func21,Tryz.ntmps21
 go_wp2_with fail
 refine (xVt _ _ _ _ _ (hT.init.below bch) hT.linit.le HINIT.out).mono ?_;rintro e w' ⟨rfl,rfl⟩;go_wp2;refine bodyPost_ret (v:=.agg #[.int .i64 5,.int .i64 (-2)]) ?_ rfl ⟨rfl,bch⟩;simp[results,Tryz.results21,go_sem]
theorem zYv(w:World)(t:TaskV)(Ai Ag Ao:Option Addr)(ci cg co:Nat)(hT:TaskMem w Ai Ag Ao t)(h:0<=t.facts)(h2:t.facts<=24)(hinit:SetP t.init t.facts)(hgoal:¬ SetP t.goal t.facts) :
  Calls Tryz.prog 21 #[.agg #[.int .i64 t.facts,.slice Ai t.init.length ci,.slice Ag t.goal.length cg,.slice Ao t.ops.length co]] w fun e w'=>e=.returned (.agg #[.int .i64 5,.int .i64 (-3)])/\Below w.heap.size w w':=by
 have HINIT:=lHd hinit;clear hinit;have HGOAL:=lHd hgoal;clear hgoal;go_enter Tryz.func21,Tryz.ntmps21
 go_wp2_with fail
 refine (xJj _ _ _ _ _ (hT.init.below bch) hT.linit.le HINIT.out).mono ?_;rintro e w' ⟨rfl,rfl⟩
 go_wp2_with fail
 refine (xVt _ _ _ _ _ (hT.goal.below bch) hT.lgoal.le HGOAL.out).mono ?_;rintro e w' ⟨rfl,rfl⟩;go_wp2;refine bodyPost_ret (v:=.agg #[.int .i64 5,.int .i64 (-3)]) ?_ rfl ⟨rfl,bch⟩;simp[results,Tryz.results21,go_sem]
theorem zYw(w:World)(t:TaskV)(Ai Ag Ao:Option Addr)(ci cg co:Nat)(hT:TaskMem w Ai Ag Ao t)(h:0<=t.facts)(h2:t.facts<=24)(hinit:SetP t.init t.facts)(hgoal:SetP t.goal t.facts)(h3:40 < t.ops.length) :
  Calls Tryz.prog 21 #[.agg #[.int .i64 t.facts,.slice Ai t.init.length ci,.slice Ag t.goal.length cg,.slice Ao t.ops.length co]] w fun e w'=>e=.returned (.agg #[.int .i64 2,.int .i64 (-1)])/\Below w.heap.size w w':=by
 have HINIT:=lHd hinit;clear hinit;have HGOAL:=lHd hgoal;clear hgoal;go_enter Tryz.func21,Tryz.ntmps21
 go_wp2_with fail
 refine (xJj _ _ _ _ _ (hT.init.below bch) hT.linit.le HINIT.out).mono ?_;rintro e w' ⟨rfl,rfl⟩
 go_wp2_with fail
 refine (xJj _ _ _ _ _ (hT.goal.below bch) hT.lgoal.le HGOAL.out).mono ?_;rintro e w' ⟨rfl,rfl⟩;go_wp2;refine bodyPost_ret (v:=.agg #[.int .i64 2,.int .i64 (-1)]) ?_ rfl ⟨rfl,bch⟩;simp[results,Tryz.results21,go_sem]
theorem zYx(w:World)(t:TaskV)(Ai Ag Ao:Option Addr)(ci cg co:Nat)(hT:TaskMem w Ai Ag Ao t)(h:0<=t.facts)(h2:t.facts<=24)(hinit:SetP t.init t.facts)(hgoal:SetP t.goal t.facts)(h3:t.ops.length<=40) :
  Calls Tryz.prog 21 #[.agg #[.int .i64 t.facts,.slice Ai t.init.length ci,.slice Ag t.goal.length cg,.slice Ao t.ops.length co]] w fun e w'=>e=.returned (.agg #[.int .i64 (xXj t.facts t.ops 0).1,.int .i64 (xXj t.facts t.ops 0).2])/\Below w.heap.size w w':=by
 have HINIT:=lHd hinit;clear hinit;have HGOAL:=lHd hgoal;clear hgoal;go_enter Tryz.func21,Tryz.ntmps21
 go_wp2_with fail
 refine (xJj _ _ _ _ _ (hT.init.below bch) hT.linit.le HINIT.out).mono ?_;rintro e w' ⟨rfl,rfl⟩
 go_wp2_with fail
 refine (xJj _ _ _ _ _ (hT.goal.below bch) hT.lgoal.le HGOAL.out).mono ?_;rintro e w' ⟨rfl,rfl⟩
 go_wp2_with fail
 go_loopw [41] (fun i wr=>∃ k:Nat,k<=t.ops.length/\i=.int .i64 k/\Hid (∀ o∈t.ops.take k,opc o t.facts=0)/\Below w.heap.size w wr/\Cls wr [(w.heap.size,0,.int .i64 t.facts),(w.heap.size,1,.slice Ai t.init.length ci),(w.heap.size,2,.slice Ag t.goal.length cg),(w.heap.size,3,.slice Ao t.ops.length co),(w.heap.size+1,0,.int .i64 0),(w.heap.size+1,1,.int .i64 0)]) (fun i _=>t.ops.length - (intOf i).toNat)
 case atStart=>exact⟨0,Nat.zero_le _,rfl,lHd (by simp),bch,(by simp[Cls,go_sem])⟩
 case round=>
  obtain⟨k,hk,rfl,hno,hBr,hCr⟩:=hrel;have Fr:=hCr;simp only[Cls,and_true] at Fr;have yrw1:w.heap.size+1 < wr.heap.size:=hCr.blk (b:=w.heap.size+1) (k:=0) (v:=.int .i64 0) (by simp);have yrw0:w.heap.size < wr.heap.size:=(by omega)
  by_cases hlt:k < t.ops.length
  ·obtain⟨ad,o,A0,c0,A1,c1,A2,c2,rfl,ho,hc0,hc1,hc2,hc3,hm⟩:=(hT.ops.below hBr).at_ hlt
   by_cases hz:opc o t.facts=0
   ·have HZ:=lHd hz;clear hz
    go_wp2_with fail
    refine (xYk _ _ _ _ _ _ _ _ h h2 _ (hm.below ((Below.refl _ _).alloc (Nat.le_refl _) _))).mono ?_;rintro e w1 ⟨he,hB1⟩;rw[HZ.out] at he;subst he;have D1:=xJ4 w hB1 bch;have C1:=Cls.below (l:=[(w.heap.size,0,.int .i64 t.facts),(w.heap.size,1,.slice Ai t.init.length ci),(w.heap.size,2,.slice Ag t.goal.length cg),(w.heap.size,3,.slice (some ad) t.ops.length co),(w.heap.size+1,0,.int .i64 0),(w.heap.size+1,1,.int .i64 0),(wr.heap.size,0,.slice A0 o.pre.length c0),(wr.heap.size,1,.slice A1 o.add.length c1),(wr.heap.size,2,.slice A2 o.del.length c2),(wr.heap.size,3,.int .i64 o.cost)]) hB1 (by simp[Cls,go_sem,Fr,yrw1,yrw0]);have F1:=C1;simp only[Cls,and_true] at F1;have y1w1:w.heap.size+1 < w1.heap.size:=C1.blk (b:=w.heap.size+1) (k:=0) (v:=.int .i64 0) (by simp);have y1wr0:wr.heap.size < w1.heap.size:=C1.blk (b:=wr.heap.size) (k:=0) (v:=.slice A0 o.pre.length c0) (by simp);go_wp2
    go_roundw
    case rel=>exact⟨k+1,by omega,by go_num,lHd (xJo ho.out hno.out HZ.out),bch,(by simp[Cls,go_sem,F1,y1w1,y1wr0])⟩
    case measure=>simp[intOf];omega
   ·have hz':(opc o t.facts != 0)=true:=by simpa using hz
    have e:=xKa t.ops 0 k o hno.out ho.out hz;have HE:=lHd e;clear e
    go_wp2_with fail
    refine (xYk _ _ _ _ _ _ _ _ h h2 _ (hm.below ((Below.refl _ _).alloc (Nat.le_refl _) _))).mono ?_;rintro e w1 ⟨rfl,hB1⟩;have D1:=xJ4 w hB1 bch;have C1:=Cls.below (l:=[(w.heap.size,0,.int .i64 t.facts),(w.heap.size,1,.slice Ai t.init.length ci),(w.heap.size,2,.slice Ag t.goal.length cg),(w.heap.size,3,.slice (some ad) t.ops.length co),(w.heap.size+1,0,.int .i64 0),(w.heap.size+1,1,.int .i64 0),(wr.heap.size,0,.slice A0 o.pre.length c0),(wr.heap.size,1,.slice A1 o.add.length c1),(wr.heap.size,2,.slice A2 o.del.length c2),(wr.heap.size,3,.int .i64 o.cost)]) hB1 (by simp[Cls,go_sem,Fr,yrw1,yrw0]);have F1:=C1;simp only[Cls,and_true] at F1;have y1w1:w.heap.size+1 < w1.heap.size:=C1.blk (b:=w.heap.size+1) (k:=0) (v:=.int .i64 0) (by simp);have y1wr0:wr.heap.size < w1.heap.size:=C1.blk (b:=wr.heap.size) (k:=0) (v:=.slice A0 o.pre.length c0) (by simp);go_wp2;refine bodyPost_ret (v:=.agg #[.int .i64 (opc o t.facts),.int .i64 (k:Int)]) ?_ rfl ⟨by rw[HE.out];simp,bch⟩;simp[results,Tryz.results21,go_sem,F1,y1w1,y1wr0]
  ·have e:=xZ5 t.ops 0 (xX4 hlt hno.out);have HE:=lHd e;clear e;go_wp2;refine bodyPost_ret (v:=.agg #[.int .i64 0,.int .i64 0]) ?_ rfl ⟨by rw[HE.out],bch⟩;simp[results,Tryz.results21,go_sem,Fr,yrw1,yrw0]
theorem xQe(w:World)(t:TaskV)(Ai Ag Ao:Option Addr)(ci cg co:Nat)(hT:TaskMem w Ai Ag Ao t) :
  Calls Tryz.prog 21 #[.agg #[.int .i64 t.facts,.slice Ai t.init.length ci,.slice Ag t.goal.length cg,.slice Ao t.ops.length co]] w fun e w'=>e=.returned (.agg #[.int .i64 (xX2 t).1,.int .i64 (xX2 t).2])/\Below w.heap.size w w':=by
 by_cases h:t.facts < 0\/24 < t.facts
 ·rw[zVl h]
  by_cases h0:t.facts < 0
  ·exact zYs w t Ai Ag Ao ci cg co hT h0
  ·exact zYt w t Ai Ag Ao ci cg co hT (by omega) (by omega)
 ·by_cases h1:SetP t.init t.facts
  ·by_cases h2:SetP t.goal t.facts
   ·by_cases h3:40 < t.ops.length
    ·rw[zVo h h1 h2 h3];exact zYw w t Ai Ag Ao ci cg co hT (by omega) (by omega) h1 h2 h3
    ·rw[zJb h h1 h2 h3];exact zYx w t Ai Ag Ao ci cg co hT (by omega) (by omega) h1 h2 (by omega)
   ·rw[zVn h h1 h2];exact zYv w t Ai Ag Ao ci cg co hT (by omega) (by omega) h1 h2
  ·rw[zVm h h1];exact zYu w t Ai Ag Ao ci cg co hT (by omega) (by omega) h1
theorem zXo{v:Int}(h:¬ v=0):(v == 0)=false:=by simpa using h
theorem xYl{v:Int}(h:¬ v=0):(v != 0)=true:=by simpa using h
theorem xYm(w:World)(t:TaskV)(Ai Ag Ao:Option Addr)(ci cg co:Nat)(hT:TaskMem w Ai Ag Ao t)(S:Option Addr)(cs:Nat)(s:List Int)(hS:Ints w S s)(hls:lenOk s.length)(hv:Valid t)(h2:SetP s t.facts) :
  Calls Tryz.prog 156 #[.agg #[.int .i64 t.facts,.slice Ai t.init.length ci,.slice Ag t.goal.length cg,.slice Ao t.ops.length co],.slice S s.length cs] w fun e w'=>e=.returned (.agg #[.int .i64 0,.int .i64 0])/\Below w.heap.size w w':=by
 have HV:=lHd (xYj hv);have H2:=lHd h2;clear h2;go_enter Tryz.func156,Tryz.ntmps156
 go_wp2_with fail
 refine (xQe _ _ _ _ _ _ _ _ (hT.below bch)).mono ?_;rintro e w1 ⟨he,hB1⟩;rw[HV.out] at he;subst he;have D1:=xJ4 w hB1 bch;have C1:=Cls.below (l:=[(w.heap.size,0,.int .i64 t.facts),(w.heap.size,1,.slice Ai t.init.length ci),(w.heap.size,2,.slice Ag t.goal.length cg),(w.heap.size,3,.slice Ao t.ops.length co),(w.heap.size+1,0,.int .i64 0),(w.heap.size+1,1,.int .i64 0)]) hB1 (by simp[Cls,go_sem]);have F1:=C1;simp only[Cls,and_true] at F1;have y1w1:w.heap.size+1 < w1.heap.size:=C1.blk (b:=w.heap.size+1) (k:=0) (v:=.int .i64 0) (by simp);have y1w0:w.heap.size < w1.heap.size:=(by omega)
 go_wp2_with fail
 refine (xJj _ _ _ _ _ (hS.below bch) hls.le H2.out).mono ?_;rintro e w' ⟨rfl,rfl⟩;go_wp2;refine bodyPost_ret (v:=.agg #[.int .i64 0,.int .i64 0]) ?_ rfl ⟨rfl,bch⟩;simp[results,Tryz.results156,go_sem,F1,y1w1,y1w0]
theorem zXp(w:World)(t:TaskV)(Ai Ag Ao:Option Addr)(ci cg co:Nat)(hT:TaskMem w Ai Ag Ao t)(h40:t.ops.length<=40) :
  Calls Tryz.prog 174 #[.agg #[.int .i64 t.facts,.slice Ai t.init.length ci,.slice Ag t.goal.length cg,.slice Ao t.ops.length co]] w fun e w'=>∃ v,e=.returned v/\OwnI w.heap.size w' v (t.ops.map (·.cost))/\Below w.heap.size w w':=by
 go_enter Tryz.func174,Tryz.ntmps174
 go_wp2_with fail
 go_loopw [3,9] (fun v i wr=>∃ k:Nat,k<=t.ops.length/\i=.int .i64 k/\OwnI (w.heap.size+1) wr v ((t.ops.take k).map (·.cost))/\Below w.heap.size w wr/\Cls wr [(w.heap.size,0,.int .i64 t.facts),(w.heap.size,1,.slice Ai t.init.length ci),(w.heap.size,2,.slice Ag t.goal.length cg),(w.heap.size,3,.slice Ao t.ops.length co)]) (fun _ i _=>t.ops.length - (intOf i).toNat)
 case atStart=>exact⟨0,Nat.zero_le _,rfl,by simpa using OwnI.nil _ _,bch,(by simp[Cls,go_sem])⟩
 case round=>
  obtain⟨k,hk,rfl,hown,hBr,hCr⟩:=hrel;have Fr:=hCr;simp only[Cls,and_true] at Fr;have yrw0:w.heap.size < wr.heap.size:=hCr.blk (b:=w.heap.size) (k:=0) (v:=.int .i64 t.facts) (by simp);have yrwp1:w.heap.size < wr.heap.size+1:=(by omega)
  by_cases hlt:k < t.ops.length
  ·obtain⟨ad,o,A0,c0,A1,c1,A2,c2,rfl,ho,hc0,hc1,hc2,hc3,hm⟩:=(hT.ops.below hBr).at_ hlt;have hlen:((t.ops.take k).map (·.cost)).length < 1000000000000:=by simp;omega
   have hcost:(t.ops.take k).map (·.cost) ++ [o.cost]=(t.ops.take (k+1)).map (·.cost):=by rw[List.take_add_one,ho.out];simp
   have HC:=lHd hcost;clear hcost
   go_wp2_with (at_builtin;go_must (refine xZk rfl (.tmp 13) (.tmp 16) rfl w [(w.heap.size,0,.int .i64 t.facts),(w.heap.size,1,.slice Ai t.init.length ci),(w.heap.size,2,.slice Ag t.goal.length cg),(w.heap.size,3,.slice (some ad) t.ops.length co)] (w.heap.size+1) u3 _ (o.cost) rfl (OwnI.below hown ?p1) ⟨wr.heap.size+1,0,none⟩ 1 rfl ?p2 hlen ?p3 ?p4 ?p5 ?p6 ?p7 ?_;(case p1=>exact bch);(case p2=>simp[Cls,go_sem,Fr,yrw0,yrwp1]);(case p3=>(first | omega | (simp <;> omega)));(case p4=>(first | omega | (simp <;> omega)));(case p5=>exact bch);(case p6=>simp[Cls,go_sem,Fr,yrw0,yrwp1]);(case p7=>(simp <;> omega));intro v1 w1 o1 D1 C1 sz1;have d1s:=D1.size;have F1:=C1;simp only[Cls,and_true] at F1;have y1w0:w.heap.size < w1.heap.size:=C1.blk (b:=w.heap.size) (k:=0) (v:=.int .i64 t.facts) (by simp);have y1wp1:w.heap.size < w1.heap.size+1:=(by omega);have y1wp2:w.heap.size < w1.heap.size+1+1:=(by omega)))
   go_roundw
   case rel=>exact⟨k+1,by omega,by go_num,by rw[<- HC.out];exact o1,bch,(by simp[Cls,go_sem,F1,y1w0,y1wp1,y1wp2])⟩
   case measure=>simp[intOf];omega
  ·go_wp2;go_ret;rw[List.take_of_length_le (by omega)] at hown;exact⟨_,rfl,OwnI.mono hown (by omega),hBr⟩
theorem vW6(a b:Int)(w:World)(ha:InV a)(hb:InV b)(h:a=1000000000):Calls Tryz.prog 41 #[.int .i64 a,.int .i64 b] w fun e w'=>e=.returned (.int .i64 (1000000000))/\w=w':=by
 subst h;unfold InV at ha hb;go_enter Tryz.func41,Tryz.ntmps41;go_wp2;go_ret;exact⟨xYd (by omega),rfl⟩
theorem vW7(a b:Int)(w:World)(ha:InV a)(hb:InV b)(hn:¬ a=1000000000)(h:b=1000000000):Calls Tryz.prog 41 #[.int .i64 a,.int .i64 b] w fun e w'=>e=.returned (.int .i64 (1000000000))/\w=w':=by
 subst h;unfold InV at ha hb;have N:(a == 1000000000)=false:=by simpa using hn
 go_enter Tryz.func41,Tryz.ntmps41;go_wp2;go_ret;exact⟨xYd (by omega),rfl⟩
theorem vW8(a b:Int)(w:World)(ha:InV a)(hb:InV b)(hn:¬ a=1000000000)(hm:¬ b=1000000000)(h:a+b>=1000000000):Calls Tryz.prog 41 #[.int .i64 a,.int .i64 b] w fun e w'=>e=.returned (.int .i64 (999999999))/\w=w':=by
 unfold InV at ha hb;have N:(a == 1000000000)=false:=by simpa using hn
 have N':(b == 1000000000)=false:=by simpa using hm
 go_enter Tryz.func41,Tryz.ntmps41;go_wp2;go_ret;exact⟨xYd (by omega),rfl⟩
theorem vW9(a b:Int)(w:World)(ha:InV a)(hb:InV b)(hn:¬ a=1000000000)(hm:¬ b=1000000000)(h:¬ a+b>=1000000000):Calls Tryz.prog 41 #[.int .i64 a,.int .i64 b] w fun e w'=>e=.returned (.int .i64 (a+b))/\w=w':=by
 unfold InV at ha hb;have N:(a == 1000000000)=false:=by simpa using hn
 have N':(b == 1000000000)=false:=by simpa using hm
 go_enter Tryz.func41,Tryz.ntmps41;go_wp2;go_ret;exact⟨xYd (by omega),rfl⟩
theorem zVp(a b:Int)(w:World)(ha:InV a)(hb:InV b):Calls Tryz.prog 41 #[.int .i64 a,.int .i64 b] w fun e w'=>e=.returned (.int .i64 (xXa a b))/\w=w':=by
 by_cases h1:a=1000000000
 ·rw[xW1 (Or.inl h1)];exact vW6 a b w ha hb h1
 ·by_cases h2:b=1000000000
  ·rw[xW1 (Or.inr h2)];exact vW7 a b w ha hb h1 h2
  ·by_cases h3:a+b>=1000000000
   ·rw[vZt (by omega) h3];exact vW8 a b w ha hb h1 h2 h3
   ·rw[vZu (by omega) h3];exact vW9 a b w ha hb h1 h2 h3
theorem xYn(A B:Option Addr)(c d:Nat)(vs xs:List Int)(w:World)(hI:Ints w A vs)(hJ:Ints w B xs)(hl:xs.length<=9223372036854775807)(hb:vs.length<=9223372036854775807)(hx:∀ x∈xs,0<=x/\x < vs.length)(hv:xQd vs) :
  Calls Tryz.prog 154 #[.slice A vs.length c,.slice B xs.length d] w fun e w'=>e=.returned (.int .i64 (xJu false vs xs))/\w=w':=by
 have HX:=lHd hx;have HV:=lHd hv;clear hx hv;go_enter Tryz.func154,Tryz.ntmps154;go_wp2
 go_loop [5,10] (fun a i=>∃ k:Nat,k<=xs.length/\i=.int .i64 k/\a=.int .i64 (xJu false vs (xs.take k))) (fun a i=>xs.length - (intOf i).toNat)
 case atStart=>exact⟨0,Nat.zero_le _,rfl,rfl⟩
 case round=>
  obtain⟨k,hk,rfl,rfl⟩:=hrel;have hin:=xXk (s:=false) HV.out (xs.take k)
  by_cases hlt:k < xs.length
  ·obtain⟨ad,x,rfl,hx,hc⟩:=hJ.at_ hlt;obtain⟨x0,x1⟩:=HX.out x (lMg hx.out);obtain⟨bd,v1,rfl,hy,hd⟩:=hI.at_ (show x.toNat < vs.length by omega);have hs:=lHd (xW2 (s:=false) hx.out hy.out);have hv1:=HV.out v1 (lMg hy.out);generalize xJu false vs (xs.take k)=g at *;unfold InV at hin hv1;have hm:xXo false g v1=if g < v1 then v1 else g:=rfl
   have HM:=lHd hm;clear hm;go_wp2
   go_round
   case rel=>exact⟨k+1,by omega,by go_num,by rw[hs.out,HM.out]⟩
   case measure=>simp[intOf];omega
  ·have hall:=xWl (s:=false) (vs:=vs) hlt;rw[hall];go_wp2;go_ret;exact⟨rfl,rfl⟩
end
theorem FaultP.yes{P:Prop}{e:Ending}(h:FaultP P e)(hp:P):e=.returned (.agg #[.int .i64 0,.int .i64 0]):=by
 obtain⟨c,j,rfl,⟨rfl,rfl,_⟩ | ⟨_,h⟩⟩:=h
 ·rfl
 ·exact absurd hp h
theorem FaultP.no{P:Prop}{e:Ending}(h:FaultP P e)(hp:¬ P):∃ c j:Int,e=.returned (.agg #[.int .i64 c,.int .i64 j])/\¬ c=0:=by
 obtain⟨c,j,rfl,⟨_,_,h⟩ | ⟨h,_⟩⟩:=h
 ·exact absurd h hp
 ·exact⟨c,j,rfl,h⟩
theorem xJw(w:World)(m:MtV)(As Ai Ag Ao:Option Addr)(cs ci cg co:Nat)(hM:MMem w As Ai Ag Ao m)(A:Option Addr)(c:Nat)(s:List Int)(hI:Ints w A s)(hl:s.length<=9223372036854775807) :
  Calls Tryz.prog 36 #[.agg #[.slice As m.sizes.length cs,.slice Ai m.init.length ci,.slice Ag m.goal.length cg,.slice Ao m.ops.length co],.slice A s.length c] w fun e w'=>FaultP (MValid m/\StM m.sizes s) e/\Below w.heap.size w w':=by
 have hls:=hM.lsizes.le;have HM:=lHd hM;clear hM
 by_cases h1:MValid m
 ·have H1:=lHd h1;clear h1;go_enter Tryz.func36,Tryz.ntmps36
  go_wp2_with fail
  refine (xXf _ _ _ _ _ _ _ _ _ _ (HM.out.below bch)).mono ?_;rintro e w1 ⟨he,hB1⟩;have D1:=xJ4 w hB1 bch;have C1:=Cls.below (l:=[(w.heap.size,0,.slice As m.sizes.length cs),(w.heap.size,1,.slice Ai m.init.length ci),(w.heap.size,2,.slice Ag m.goal.length cg),(w.heap.size,3,.slice Ao m.ops.length co),(w.heap.size+1,0,.int .i64 0),(w.heap.size+1,1,.int .i64 0)]) hB1 (by simp[Cls,go_sem]);have F1:=C1;simp only[Cls,and_true] at F1;have y1w1:w.heap.size+1 < w1.heap.size:=C1.blk (b:=w.heap.size+1) (k:=0) (v:=.int .i64 0) (by simp);have y1w0:w.heap.size < w1.heap.size:=(by omega);have he:=he.yes H1.out;subst he
  by_cases h2:StM m.sizes s
  ·have H2:=lHd h2;have H2b:=lHd (zXb.2 h2);clear h2
   go_wp2_with fail
   refine (xZp _ _ _ _ _ _ _ _ _ _ _ _ _ (HM.out.sizes.below bch) hls _ _ _ (hI.below bch) hl).mono ?_;rintro e w2 ⟨he,hB2⟩;rw[H2b.out] at he;subst he;have D2:=xJ4 w hB2 bch;have C2:=Cls.below (l:=[(w.heap.size,0,.slice As m.sizes.length cs),(w.heap.size,1,.slice Ai m.init.length ci),(w.heap.size,2,.slice Ag m.goal.length cg),(w.heap.size,3,.slice Ao m.ops.length co),(w.heap.size+1,0,.int .i64 0),(w.heap.size+1,1,.int .i64 0),(w1.heap.size,0,.int .i64 0),(w1.heap.size,1,.int .i64 0)]) hB2 (by simp[Cls,go_sem,F1,y1w1,y1w0]);have F2:=C2;simp only[Cls,and_true] at F2;have y2w1:w.heap.size+1 < w2.heap.size:=C2.blk (b:=w.heap.size+1) (k:=0) (v:=.int .i64 0) (by simp);have y2w10:w1.heap.size < w2.heap.size:=C2.blk (b:=w1.heap.size) (k:=0) (v:=.int .i64 0) (by simp);have HT:=lHd (show MValid m/\StM m.sizes s from ⟨H1.out,H2.out⟩);go_wp2;refine bodyPost_ret (v:=.agg #[.int .i64 0,.int .i64 0]) ?_ rfl ⟨FaultP.none_ HT.out,bch⟩;simp[results,Tryz.results36,go_sem,F2,y2w1,y2w10]
  ·have H2b:=lHd (xQt.2 h2);have H2:=lHd h2;clear h2
   go_wp2_with fail
   refine (xZp _ _ _ _ _ _ _ _ _ _ _ _ _ (HM.out.sizes.below bch) hls _ _ _ (hI.below bch) hl).mono ?_;rintro e w2 ⟨he,hB2⟩;rw[H2b.out] at he;subst he;have D2:=xJ4 w hB2 bch;have C2:=Cls.below (l:=[(w.heap.size,0,.slice As m.sizes.length cs),(w.heap.size,1,.slice Ai m.init.length ci),(w.heap.size,2,.slice Ag m.goal.length cg),(w.heap.size,3,.slice Ao m.ops.length co),(w.heap.size+1,0,.int .i64 0),(w.heap.size+1,1,.int .i64 0),(w1.heap.size,0,.int .i64 0),(w1.heap.size,1,.int .i64 0)]) hB2 (by simp[Cls,go_sem,F1,y1w1,y1w0]);have F2:=C2;simp only[Cls,and_true] at F2;have y2w1:w.heap.size+1 < w2.heap.size:=C2.blk (b:=w.heap.size+1) (k:=0) (v:=.int .i64 0) (by simp);have y2w10:w1.heap.size < w2.heap.size:=C2.blk (b:=w1.heap.size) (k:=0) (v:=.int .i64 0) (by simp);have HN:=lHd (show ¬ (MValid m/\StM m.sizes s) from fun h=>H2.out h.2);go_wp2;refine bodyPost_ret (v:=.agg #[.int .i64 5,.int .i64 (-4)]) ?_ rfl ⟨FaultP.some_ (5) (-4) (by decide) HN.out,bch⟩;simp[results,Tryz.results36,go_sem,F2,y2w1,y2w10]
 ·have H1:=lHd h1;clear h1;go_enter Tryz.func36,Tryz.ntmps36
  go_wp2_with fail
  refine (xXf _ _ _ _ _ _ _ _ _ _ (HM.out.below bch)).mono ?_;rintro e w1 ⟨he,hB1⟩;have D1:=xJ4 w hB1 bch;have C1:=Cls.below (l:=[(w.heap.size,0,.slice As m.sizes.length cs),(w.heap.size,1,.slice Ai m.init.length ci),(w.heap.size,2,.slice Ag m.goal.length cg),(w.heap.size,3,.slice Ao m.ops.length co),(w.heap.size+1,0,.int .i64 0),(w.heap.size+1,1,.int .i64 0)]) hB1 (by simp[Cls,go_sem]);have F1:=C1;simp only[Cls,and_true] at F1;have y1w1:w.heap.size+1 < w1.heap.size:=C1.blk (b:=w.heap.size+1) (k:=0) (v:=.int .i64 0) (by simp);have y1w0:w.heap.size < w1.heap.size:=(by omega);obtain⟨c1,j1,he,hc⟩:=he.no H1.out;subst he;have hc0:=lHd hc;have N:=zXo hc;have N':=xYl hc;have HN:=lHd (show ¬ (MValid m/\StM m.sizes s) from fun h=>H1.out h.1);go_wp2;refine bodyPost_ret (v:=.agg #[.int .i64 c1,.int .i64 j1]) ?_ rfl ⟨FaultP.some_ (c1) (j1) (by exact hc0.out) HN.out,bch⟩;simp[results,Tryz.results36,go_sem,F1,y1w1,y1w0]
theorem VarsOk.of{sizes vars:List Int}{m:MtV}(hm:m.sizes=sizes)(hne:vars≠[]){k:Nat}(hk:¬ k < vars.length)(h:(∀ v∈vars.take k,0<=v/\v < (sizes.length:Int))/\(vars.take k).Pairwise (· < ·)):VarsOk m vars:=by
 rw[List.take_of_length_le (by omega)] at h;subst hm;exact⟨hne,h.1,h.2⟩
theorem zQ2{sizes vars:List Int}{k:Nat}{v:Int}(hx:vars[k]? = some v)(h:(∀ v∈vars.take k,0<=v/\v < (sizes.length:Int))/\(vars.take k).Pairwise (· < ·))(hr:0<=v/\v < (sizes.length:Int))(hs:0 < k->∀ v',vars[k - 1]? = some v'->v' < v):(∀ v∈vars.take (k+1),0<=v/\v < (sizes.length:Int))/\(vars.take (k+1)).Pairwise (· < ·):=by
 have hk:=(List.getElem?_eq_some_iff.1 hx).1;rw[List.take_add_one,hx];refine⟨fun a ha=>?_,?_⟩
 ·rcases List.mem_append.1 ha with ha | ha
  ·exact h.1 a ha
  ·simp at ha;subst ha;exact hr
 ·show (vars.take k ++ [v]).Pairwise _;rw[List.pairwise_append];refine⟨h.2,by simp,fun a ha b hb=>?_⟩;simp at hb;subst hb;obtain⟨i,hi⟩:=List.getElem?_of_mem ha;have hil:=(List.getElem?_eq_some_iff.1 hi).1;rw[List.length_take] at hil;have hl1:k - 1 < (vars.take k).length:=by rw[List.length_take];omega
  have h1:(vars.take k)[k - 1]? = some (vars.take k)[k - 1]:=lGe hl1;have h2:=hs (by omega) (vars.take k)[k - 1] (by rw[<- h1,List.getElem?_take_of_lt (by omega)])
  by_cases e:i=k - 1
  ·subst e;rw[h1] at hi;rw[<- Option.some.inj hi];exact h2
  ·have hi2:i < (vars.take k).length:=by rw[List.length_take];omega
   have h3:=List.pairwise_iff_getElem.1 h.2 i (k - 1) hi2 hl1 (by omega);have h4:(vars.take k)[i]=a:=by rw[lGe hi2] at hi;exact Option.some.inj hi
   rw[h4] at h3;omega
theorem xYe(w:World)(m:MtV)(As Ai Ag Ao:Option Addr)(cs ci cg co:Nat)(hM:MMem w As Ai Ag Ao m)(A:Option Addr)(c:Nat)(vars:List Int)(hI:Ints w A vars)(hl:vars.length<=9223372036854775807)(ix:Int) :
  Calls Tryz.prog 42 #[.agg #[.slice As m.sizes.length cs,.slice Ai m.init.length ci,.slice Ag m.goal.length cg,.slice Ao m.ops.length co],.slice A vars.length c,.int .i64 ix] w fun e w'=>FaultP (VarsOk m vars) e/\Below w.heap.size w w':=by
 clear hM
 by_cases h0:vars.length=0
 ·have h0':((vars.length:Int) == 0)=true:=by rw[h0];rfl
  have HN0:=lHd (List.eq_nil_of_length_eq_zero h0);go_enter Tryz.func42,Tryz.ntmps42;have HN:=lHd (show ¬ (VarsOk m vars) from fun h=>h.ne HN0.out);go_wp2;refine bodyPost_ret (v:=.agg #[.int .i64 9,.int .i64 ix]) ?_ rfl ⟨FaultP.some_ (9) (ix) (by decide) HN.out,bch⟩;simp[results,Tryz.results42,go_sem]
 ·have h0':((vars.length:Int) == 0)=false:=beq_eq_false_iff_ne.2 (by omega);have HN0:=lHd (show vars≠[] from fun e=>h0 (by rw[e];rfl));go_enter Tryz.func42,Tryz.ntmps42;go_wp2
  go_loopw [16] (fun i wr=>∃ k:Nat,k<=vars.length/\i=.int .i64 k/\Hid ((∀ v∈vars.take k,0<=v/\v < (m.sizes.length:Int))/\(vars.take k).Pairwise (· < ·))/\Below w.heap.size w wr/\Cls wr [(w.heap.size,0,.slice As m.sizes.length cs),(w.heap.size,1,.slice Ai m.init.length ci),(w.heap.size,2,.slice Ag m.goal.length cg),(w.heap.size,3,.slice Ao m.ops.length co),(w.heap.size+1,0,.int .i64 0),(w.heap.size+1,1,.int .i64 0)]) (fun i _=>vars.length - (intOf i).toNat)
  case atStart=>exact⟨0,Nat.zero_le _,rfl,lHd (by simp),bch,(by simp[Cls,go_sem])⟩
  case round=>
   obtain⟨k,hk,rfl,hS,hBr,hCr⟩:=hrel;obtain⟨wk,rfl⟩:∃ wo:World,wo=wr:=⟨_,rfl⟩;have Fr:=hCr;simp only[Cls,and_true] at Fr;have yrw1:w.heap.size+1 < wk.heap.size:=hCr.blk (b:=w.heap.size+1) (k:=0) (v:=.int .i64 0) (by simp)
   by_cases hlt:k < vars.length
   ·obtain⟨ad,x,rfl,hx,hc⟩:=(hI.below hBr).at_ (k:=k) hlt
    by_cases h1:x < 0
    ·have hd1:decide (x < 0)=true:=decide_eq_true h1;have HN:=lHd (show ¬ (VarsOk m vars) from fun h=>by have:=h.rng x (lMg hx.out);omega);go_wp2;refine bodyPost_ret (v:=.agg #[.int .i64 5,.int .i64 ix]) ?_ rfl ⟨FaultP.some_ (5) (ix) (by decide) HN.out,bch⟩;simp[results,Tryz.results42,go_sem,Fr,yrw1]
    ·have hd1:decide (x < 0)=false:=decide_eq_false h1
     by_cases h2:(m.sizes.length:Int)<=x
     ·have hd2:decide ((m.sizes.length:Int)<=x)=true:=decide_eq_true h2;have HN:=lHd (show ¬ (VarsOk m vars) from fun h=>by have:=h.rng x (lMg hx.out);omega);go_wp2;refine bodyPost_ret (v:=.agg #[.int .i64 5,.int .i64 ix]) ?_ rfl ⟨FaultP.some_ (5) (ix) (by decide) HN.out,bch⟩;simp[results,Tryz.results42,go_sem,Fr,yrw1]
     ·have hd2:decide ((m.sizes.length:Int)<=x)=false:=decide_eq_false h2;have hxr:=lHd (show 0<=x/\x < (m.sizes.length:Int) by omega)
      by_cases hk0:k=0
      ·subst hk0;have HK:=lHd (zQ2 hx.out hS.out hxr.out (fun h=>absurd h (by omega)));rw[add_zero] at hc;go_wp2
       go_roundw
       case rel=>exact⟨0+1,by omega,by go_num,HK,bch,(Cls.below (w:=wk) bch hCr)⟩
       case measure=>simp[intOf];omega
      ·have hk1:0 < k:=by omega
       obtain⟨ad',y,e,hy,hd⟩:=(hI.below hBr).at_ (k:=k - 1) (by omega);injection e with e
       subst e
       by_cases h3:x<=y
       ·have hd3:decide (x<=y)=true:=decide_eq_true h3;have HN:=lHd (show ¬ (VarsOk m vars) from fun h=>by obtain⟨a1,e1⟩:=List.getElem?_eq_some_iff.1 hy.out;obtain⟨a2,e2⟩:=List.getElem?_eq_some_iff.1 hx.out;have:=List.pairwise_iff_getElem.1 h.inc (k - 1) k a1 a2 (by omega);rw[e1,e2] at this;omega);go_wp2;refine bodyPost_ret (v:=.agg #[.int .i64 5,.int .i64 ix]) ?_ rfl ⟨FaultP.some_ (5) (ix) (by decide) HN.out,bch⟩;simp[results,Tryz.results42,go_sem,Fr,yrw1]
       ·have hd3:decide (x<=y)=false:=decide_eq_false h3;have HK:=lHd (zQ2 hx.out hS.out hxr.out (fun _ z hz=>by rw[hy.out] at hz;injection hz with hz;omega));go_wp2
        go_roundw
        case rel=>exact⟨k+1,by omega,by go_num,HK,bch,(Cls.below (w:=wk) bch hCr)⟩
        case measure=>simp[intOf];omega
   ·have HT:=lHd (VarsOk.of (m:=m) rfl HN0.out hlt hS.out);go_wp2;refine bodyPost_ret (v:=.agg #[.int .i64 0,.int .i64 0]) ?_ rfl ⟨FaultP.none_ HT.out,bch⟩;simp[results,Tryz.results42,go_sem,Fr,yrw1]
end Go.Proofs.YtpeipeljmapkmaaGreat
