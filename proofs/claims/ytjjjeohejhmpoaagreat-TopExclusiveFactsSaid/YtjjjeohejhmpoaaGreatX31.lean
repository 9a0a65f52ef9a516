/-
  Lemmas.
-/
import Derived.Test.YtjjjeohejhmpoaaGreatX28
import Derived.Test.YtjjjeohejhmpoaaGreatX30
set_option linter.unusedVariables false
set_option linter.unusedSimpArgs false
set_option maxRecDepth 100000
set_option maxHeartbeats 4000000
namespace Go.Proofs.YtjjjeohejhmpoaaGreat
open Go.RowKit Go.Proofs.Tryz
structure TabC(cost:Nat->Int)(P:Nat->Nat->Prop)(N:Nat)(l:List (Int×Int)):Prop where
 len:l.length=N
 at_:∀z c u,l[z]? = some (c,u)->∃v:Nat,u=(v:Int)/\Cho cost (P z) c v
theorem TabC.congr{cost:Nat->Int}{P Q:Nat->Nat->Prop}{N:Nat}{l:List (Int×Int)}(h:TabC cost P N l)(hpq:∀z,z<N->∀v,P z v↔Q z v):TabC cost Q N l:=
 ⟨h.len,fun z c u hz=>by
  have hl:=(zQ1.1 hz).1;rw[h.len] at hl;obtain⟨v,e,hc⟩:=h.at_ z c u hz;exact⟨v,e,hc.congr (hpq z hl)⟩⟩
theorem yJb{sets:List (List Int)}{cs:List Int}{N:Nat}(hN:0<N):TabC (xXb cs) (zQu sets 0) N ((List.replicate N ((1000000000:Int),(0:Int))).set 0 (0,0)):=by
 refine⟨by simp,fun z c u hz=>?_⟩;rw[List.getElem?_set] at hz
 by_cases h0:0=z
 ·subst h0;rw[if_pos rfl,if_pos (by simpa using hN)] at hz;injection hz with hz
  injection hz with e1 e2
  subst e1;subst e2;refine⟨0,rfl,.inl ⟨⟨by decide,HCov.zero⟩,(zZt cs).symm,fun v hv=>.inr ⟨?_,zKk _⟩⟩⟩;have:v=0:=by have:=hv.1;simp at this;exact this
  rw[this]
 ·rw[if_neg h0,List.getElem?_replicate] at hz
  split at hz
  ·injection hz with hz
   injection hz with e1 e2
   subst e1;subst e2;refine⟨0,rfl,.inr ⟨rfl,rfl,fun v hv=>?_⟩⟩;have h1:v=0:=by have:=hv.1;simp at this;exact this
   rw[h1] at hv;exact h0 (HCov.uniq HCov.zero hv.2)
  ·cases hz
theorem yJc{cs:List Int}{P:Nat->Prop}{c:Int}{v e:Nat}(h:Cho (xXb cs) P c v)(hP:∀v,P v->v<2^e)(hc:vJe cs)(h16:cs.length<=16)(he:e<=16):0<=c/\c<=1000000000/\(c≠1000000000->c<=16000000)/\v<65536/\(c≠1000000000->v<2^e)/\(c=1000000000->v=0):=by
 rcases h with h|⟨rfl,rfl,_⟩
 ·have h1:=vKr (M:=1000000) (by omega) hc v;have h2:=h.eq;have h4:=hP v h.is;have h5:(2:Nat)^e<=2^16:=Nat.pow_le_pow_right (by decide) he;exact⟨by omega,by omega,fun _=>by omega,by omega,fun _=>h4,fun h=>by omega⟩
 ·exact⟨by omega,by omega,fun h=>absurd rfl h,by omega,fun h=>absurd rfl h,fun _=>rfl⟩
section
variable {sets:List (List Int)}{cs:List Int}{e h i N:Nat}{c:Int}
theorem midP_lt{z v:Nat}(hM:xWb sets e h i z v):v<2^(e+1):=by
 rcases hM with h1|⟨v',x,h1,h2,h3,rfl⟩
 ·exact Nat.lt_of_lt_of_le h1.1 (Nat.pow_le_pow_right (by decide) (by omega))
 ·exact xWa h2.1
theorem yVc{l:List (Int×Int)}{w:Nat}(hM:TabC (xXb cs) (xWb sets e h i) N l)(hc:cs[e]? = some c)(hT:Cho (xXb cs) (zQu sets e i) 1000000000 w)(hw:w=0):TabC (xXb cs) (xWb sets e h (i+1)) N l:=
 ⟨hM.len,fun z cz u hz=>by
  obtain⟨v,e1,h1⟩:=hM.at_ z cz u hz;exact⟨v,e1,(xKe hc hT h1 (fun h=>absurd rfl h)).1 (.inr (by rintro(h|h);exact h rfl;exact h hw))⟩⟩
theorem yVd{l:List (Int×Int)}{c0 cz:Int}{w wz:Nat}(hM:TabC (xXb cs) (xWb sets e h i) N l)(hc:cs[e]? = some c)(hT:Cho (xXb cs) (zQu sets e i) c0 w)(h0:c0≠1000000000)(hlt:c0+c<1000000000)(hz:l[i ||| h]? = some (cz,(wz:Int)))(hno:¬(c0+c<cz\/(c0+c=cz/\w ||| 2^e<wz))):TabC (xXb cs) (xWb sets e h (i+1)) N l:=
 ⟨hM.len,fun z cz' u hz'=>by
  obtain⟨v,e1,h1⟩:=hM.at_ z cz' u hz'
  by_cases hzi:z=i ||| h
  ·subst hzi;rw[hz'] at hz;injection hz with hz
   injection hz with e2 e3
   subst e2;have e4:v=wz:=by omega
   subst e4;have h2:=(xKe hc hT h1 (fun _=>hlt)).2 rfl h0;rw[if_neg hno,if_neg hno] at h2;exact⟨v,e1,h2⟩
  ·exact⟨v,e1,(xKe hc hT h1 (fun _=>hlt)).1 (.inl hzi)⟩⟩
theorem yWa{l:List (Int×Int)}{c0 cz:Int}{w wz:Nat}(hM:TabC (xXb cs) (xWb sets e h i) N l)(hc:cs[e]? = some c)(hT:Cho (xXb cs) (zQu sets e i) c0 w)(h0:c0≠1000000000)(hlt:c0+c<1000000000)(hz:l[i ||| h]? = some (cz,(wz:Int)))(hyes:c0+c<cz\/(c0+c=cz/\w ||| 2^e<wz)):TabC (xXb cs) (xWb sets e h (i+1)) N (l.set (i ||| h) (c0+c,((w ||| 2^e:Nat):Int))):=
 ⟨by rw[List.length_set];exact hM.len,fun z cz' u hz'=>by
  have hl:=(zQ1.1 hz).1
  by_cases hzi:i ||| h=z
  ·subst hzi;rw[List.getElem?_set_self hl] at hz';injection hz' with hz'
   injection hz' with e2 e3
   subst e2;subst e3;obtain⟨v,e1,h1⟩:=hM.at_ _ _ _ hz;have e4:v=wz:=by omega
   subst e4;have h2:=(xKe hc hT h1 (fun _=>hlt)).2 rfl h0;rw[if_pos hyes,if_pos hyes] at h2;exact⟨_,rfl,h2⟩
  ·rw[List.getElem?_set_ne hzi] at hz';obtain⟨v,e1,h1⟩:=hM.at_ z cz' u hz';exact⟨v,e1,(xKe hc hT h1 (fun _=>hlt)).1 (.inl (fun h=>hzi h.symm))⟩⟩
theorem yWb{l:List (Int×Int)}(hT:TabC (xXb cs) (zQu sets e) N l):TabC (xXb cs) (xWb sets e h 0) N l:=hT.congr (fun z _ v=>(yQ0 v).symm)
theorem yVe{l:List (Int×Int)}(hM:TabC (xXb cs) (xWb sets e h N) N l)(hN:N=2^sets.length)(hh:yZz sets e h):TabC (xXb cs) (zQu sets (e+1)) N l:=hM.congr (fun z _ v=>by subst hN;exact yKd hh v)
theorem yVf{l:List (Int×Int)}{cz:Int}{u:Int}(hT:TabC (xXb cs) (zQu sets cs.length) N l)(hN:N=2^sets.length)(hz:l[N-1]? = some (cz,u)):∃v:Nat,u=(v:Int)/\Cho (xXb cs) (zJe sets (2^cs.length)) cz v:=by
 obtain⟨v,e1,h1⟩:=hT.at_ _ _ _ hz;refine⟨v,e1,h1.congr (fun x=>?_)⟩;unfold zQu zJe;rw[hN,HCov.full]
end
def HitsTo(sets:List (List Int))(e k x:Nat):Prop:=∀i:Nat,x.testBit i=true↔i<k/\∃s,sets[i]? = some s/\(e:Int)∈s
theorem HitsTo.zero(sets:List (List Int))(e:Nat):HitsTo sets e 0 0:=fun i=>by simp
theorem HitsTo.lt{sets:List (List Int)}{e k x:Nat}(h:HitsTo sets e k x):x<2^k:=by
 refine Nat.lt_pow_two_of_testBit x fun i hi=>?_
 cases hb:x.testBit i with
 |false=>rfl
 |true=>have:=((h i).1 hb).1;omega
theorem HitsTo.all{sets:List (List Int)}{e k x:Nat}(h:HitsTo sets e k x)(hk:sets.length<=k):yZz sets e x:=fun i=>by
 rw[h i];constructor
 ·exact fun h=>h.2
 ·rintro⟨s,h1,h2⟩;have:=(zQ1.1 h1).1;exact⟨by omega,s,h1,h2⟩
theorem HitsTo.yes{sets:List (List Int)}{e k x:Nat}{s:List Int}(h:HitsTo sets e k x)(hs:sets[k]? = some s)(he:(e:Int)∈s):HitsTo sets e (k+1) (x ||| 2^k):=fun i=>by
 rw[xZi,Bool.or_eq_true,h i,decide_eq_true_iff];constructor
 ·rintro(⟨h1,h2⟩|rfl)
  ·exact⟨by omega,h2⟩
  ·exact⟨by omega,s,hs,he⟩
 ·rintro⟨h1,h2⟩
  by_cases hk:k=i
  ·exact .inr hk
  ·exact .inl ⟨by omega,h2⟩
theorem HitsTo.no{sets:List (List Int)}{e k x:Nat}{s:List Int}(h:HitsTo sets e k x)(hs:sets[k]? = some s)(he:¬(e:Int)∈s):HitsTo sets e (k+1) x:=fun i=>by
 rw[h i];constructor
 ·rintro⟨h1,h2⟩;exact⟨by omega,h2⟩
 ·rintro⟨h1,s',h2,h3⟩;have hk:i≠k:=by
   rintro rfl;rw[hs] at h2;injection h2 with h2
   subst h2;exact he h3
  exact⟨by omega,s',h2,h3⟩
theorem vK9(w:World)(A:Option Addr)(ca:Nat)(sets:List (List Int))(hL:LLR w A sets)(C:Option Addr)(cc:Nat)(cs:List Int)(hC:Ints w C cs)(hs16:sets.length<=16)(hc16:cs.length<=16)(hci:vJe cs)(hsl:∀s∈sets,s.length<=9223372036854775807) :
  Calls prog 46 #[.slice A sets.length ca,.slice C cs.length cc] w fun e w'=>∃(c:Int) (v:Nat),e=.returned (.agg #[.int .i64 c,.int .i64 v])/\Cho (xXb cs) (zJe sets (2^cs.length)) c v/\Below w.heap.size w w':=by
 have HCI:=lHd hci;have HSL:=lHd hsl;have hpw:(2:Nat)^sets.length<=65536:=by
  have h1:(2:Nat)^sets.length<=2^16:=Nat.pow_le_pow_right (by decide) hs16;omega
 have hp1:1<=(2:Nat)^sets.length:=Nat.one_le_two_pow;have hpi:(2:Int)^sets.length=((2^sets.length:Nat):Int):=by simp
 obtain⟨N,hN⟩:∃N:Nat,(2:Nat)^sets.length=N:=⟨_,rfl⟩;rw[hN] at hpw hpi hp1;have HN:=lHd hN;have hwN:IntKind.i64.wrap (N:Int)=(N:Int):=by rw[IntKind.wrap_i64];omega
 clear hN hci hsl;go_enter func46,ntmps46
 go_wp2_with fail
 have hrep:∀(wx:World) (ad:Addr) (n:Nat) (hn:1<=n) (hn2:n<=65536) (hsrc:wx.cell? ad=some (.int .i64 1000000000)/\wx.cell? (ad.add 1)=some (.int .i64 0)),Calls prog 97 #[.slice (some ad) 1 1,.int .i64 (n:Int)] wx fun e w'=>∃g,e=.returned (.slice (some ⟨g,0,none⟩) n n)/\wx.heap.size<=g/\CArr w' g (List.replicate n (1000000000,0))/\Below wx.heap.size wx w':=
  fun wx ad n hn hn2 hsrc=>vYb wx ad 1 n (1000000000,0) (fun j v hv=>by
   match j,hv with
   |0,hv=>simp[chs] at hv;subst hv;exact hsrc.1
   |1,hv=>simp[chs] at hv;subst hv;exact hsrc.2
   |j+2,hv=>simp[chs] at hv) hn hn2
 refine wp_region_held_drew (S:=fun W=>W.cell? ⟨w.heap.size+1,0,none⟩=some (.int .i64 1000000000)/\W.cell? ⟨w.heap.size+1,1,none⟩=some (.int .i64 0)) (by kernel_rfl) (by simp[go_sem]) (fun hHeld=>?_);refine tkH 0 ?_;refine tkH 2 ?_;refine tkH 3 ?_;refine tkH 4 ?_;refine hrd 1 (fun K hK=>?_);go_simp;refine hK.out _ _ (by simp[go_sem]) (fun hHeld=>?_);clear hK K
 try simp only[ap]
 refine hrd 5 (fun K hK=>?_);go_simp;refine(hrep _ _ N hp1 hpw (by simp[go_sem])).mono ?_;rintro e w1 ⟨g,rfl,hg0,hT,hB1⟩;have hg:w.heap.size+1+1+1<=g:=by simpa using hg0
 go_wp2_with fail
 have D1:=xJ3 w hB1 bch;have C1:=Cls.below (l:=[(w.heap.size,0,.int .i64 0),(w.heap.size,1,.int .i64 0),(w.heap.size+1,0,.int .i64 1000000000),(w.heap.size+1,1,.int .i64 0)]) hB1 (by simp[Cls,go_sem]);have F1:=C1.f;have y1w1:=C1.blk (b:=w.heap.size+1) (k:=0) (v:=.int .i64 1000000000) (by simp);refine hK.out _ _ (by simp[F1]) (fun hHeld=>?_);clear hK K
 try simp only[ap]
 refine tkH 6 ?_;refine hdn ?_ _;have hTC:=hT.crow;obtain⟨t0,t1,ht,ht0,ht1⟩:=hTC.cell (k:=0) (by simp;omega);have hf0:=hTC.free 0;have hf1:=hTC.free 1;simp only[Nat.zero_mul,Nat.zero_add] at ht0 ht1
 go_wp2_with fail
 go_loopw [6,28] (fun tv x wr=>∃(e g c':Nat) (l:List (Int×Int)),e<=cs.length/\x=.int .i64 e/\tv=.slice (some ⟨g,0,none⟩) N c'/\w.heap.size+2<=g/\CRow wr g l/\Hid (TabC (xXb cs) (zQu sets e) N l)/\Below w.heap.size w wr/\Cls wr [(w.heap.size,0,.int .i64 0),(w.heap.size,1,.int .i64 0),(w.heap.size+1,0,.int .i64 1000000000),(w.heap.size+1,1,.int .i64 0)]) (fun _ x _=>cs.length-(intOf x).toNat)
 case atStart=>
  refine⟨0,g,N,_,zKk _,rfl,rfl,?_,?_,lHd (yJb (sets:=sets) (cs:=cs) hp1),bch,Cls.far (Cls.far C1 _ _ (by simp;omega)) _ _ (by simp;omega)⟩
  ·omega
  ·have h:=CRow.set_ hTC 0 0 0;simpa using h
 case round=>
  obtain⟨e,g2,c2,l,he,rfl,rfl,hg2,hrow,htab,hBr,hCr⟩:=hrel;obtain⟨w2,rfl⟩:∃wo:World,wo=wr:=⟨_,rfl⟩;clear hTC ht ht0 ht1 hf0 hf1 hT;have drs:=hBr.size;have Fr:=hCr.f;have yrw1:=hCr.blk (b:=w.heap.size+1) (k:=0) (v:=.int .i64 1000000000) (by simp);have yrw0:w.heap.size<w2.heap.size:=(by omega);have yrwp1:w.heap.size<w2.heap.size+1:=(by omega);have yrwp2:w.heap.size<w2.heap.size+1+1:=(by omega);have HLEN:=lHd htab.out.len
  by_cases hlt:e<cs.length
  ·obtain⟨ad,c,rfl,hc,hcc⟩:=(hC.below hBr).at_ hlt;have hcr:=HCI.out c (lMg hc.out);have he16:e<16:=by omega
   go_wp2_with fail
   go_loopw [9,35] (fun hv x wr=>∃k hb:Nat,k<=sets.length/\x=.int .i64 k/\hv=.int .i64 hb/\Hid (HitsTo sets e k hb)/\w2=wr) (fun _ x _=>sets.length-(intOf x).toNat)
   case atStart=>exact⟨0,0,zKk _,rfl,rfl,lHd (HitsTo.zero sets e),rfl⟩
   case round=>
    obtain⟨k,hb,hk,rfl,rfl,hhits,rfl⟩:=hrel;have hbl:=hhits.out.lt;have hk16:(2:Nat)^k<=2^16:=Nat.pow_le_pow_right (by decide) (by omega)
    by_cases hlt2:k<sets.length
    ·obtain⟨ad2,s,B2,c3,rfl,hs,hsc,hI⟩:=(hL.below hBr).at_ hlt2;have hsl:=HSL.out s (lMg hs.out);obtain⟨P,hP⟩:∃P:Nat,(2:Nat)^k=P:=⟨_,rfl⟩;have hpk:(2:Int)^k=(P:Int):=by rw[<- hP];simp
     rw[hP] at hk16 hbl;have hwP:IntKind.i64.wrap (P:Int)=(P:Int):=by rw[IntKind.wrap_i64];omega
     have hor:=or64 hb P (by omega) (by omega)
     by_cases hm:(e:Int)∈s
     ·have HNX:=lHd (show HitsTo sets e (k+1) (hb ||| P) by rw[<- hP];exact hhits.out.yes hs.out hm);clear hP
      go_wp2_with fail
      refine(xJ9 _ _ _ _ _ true hI hsl (zWo hm)).mono ?_;rintro e' w' ⟨rfl,rfl⟩
      go_wp2_with fail
      go_roundw
      case rel=>exact⟨k+1,hb ||| P,by omega,by go_num,rfl,HNX,(by first|trivial|rfl)⟩
      case measure=>simp[intOf];omega
     ·have HNX:=lHd (show HitsTo sets e (k+1) hb from hhits.out.no hs.out hm);clear hP
      go_wp2_with fail
      refine(xJ9 _ _ _ _ _ false hI hsl (zVa hm)).mono ?_;rintro e' w' ⟨rfl,rfl⟩
      go_wp2_with fail
      go_roundw
      case rel=>exact⟨k+1,hb,by omega,by go_num,rfl,HNX,(by first|trivial|rfl)⟩
      case measure=>simp[intOf];omega
    ·have HH:=lHd (hhits.out.all (by omega));have hbN:hb<N:=by
      have h1:(2:Nat)^k=N:=by rw[show k=sets.length by omega];exact HN.out
      omega
     go_wp2_with fail
     refine(vXa _ g2 N c2 l hrow HLEN.out hp1 hpw).mono ?_;rintro e' w3 ⟨g3,c3,rfl,hg3,hrow3,hB3⟩;have D3:=xJ3 w hB3 bch;have C3:=Cls.below (l:=[(w.heap.size,0,.int .i64 0),(w.heap.size,1,.int .i64 0),(w.heap.size+1,0,.int .i64 1000000000),(w.heap.size+1,1,.int .i64 0)]) hB3 (by simp[Cls,go_sem,Fr]);have y3w1:=C3.blk (b:=w.heap.size+1) (k:=0) (v:=.int .i64 1000000000) (by simp);have hrow2:=hrow.below hB3;have hg23:g2≠g3:=by have:=hrow.lt;omega
     go_wp2_with fail
     go_loopw [52] (fun x wr=>∃(i:Nat) (l2:List (Int×Int)),i<=N/\x=.int .i64 i/\CRow wr g2 l/\CRow wr g3 l2/\Hid (TabC (xXb cs) (xWb sets e hb i) N l2)/\Below w.heap.size w wr/\Cls wr [(w.heap.size,0,.int .i64 0),(w.heap.size,1,.int .i64 0),(w.heap.size+1,0,.int .i64 1000000000),(w.heap.size+1,1,.int .i64 0)]) (fun x _=>N-(intOf x).toNat)
     case atStart=>exact⟨0,l,zKk _,rfl,hrow2,hrow3,lHd (yWb htab.out),D3,C3⟩
     case round=>
      obtain⟨i,l2,hi,rfl,hr2,hr3,hmid,hBq,hCq⟩:=hrel;obtain⟨w4,rfl⟩:∃wo:World,wo=wr:=⟨_,rfl⟩;have Fq:=hCq.f;have yqw1:=hCq.blk (b:=w.heap.size+1) (k:=0) (v:=.int .i64 1000000000) (by simp);have yqw0:w.heap.size<w4.heap.size:=(by omega);have yqwp1:w.heap.size<w4.heap.size+1:=(by omega);have hg3b:w.heap.size+1<g3:=by omega
      by_cases hlt3:i<N
      ·obtain⟨c0,v0,hl0,hc0,hc1⟩:=hr2.cell (k:=i) (by rw[HLEN.out];exact hlt3);obtain⟨v,rfl,hcho⟩:=htab.out.at_ i c0 v0 hl0.out;have HCHO:=lHd hcho;obtain⟨r1,r2,r3,r4,r5,r6⟩:=yJc hcho (e:=e) (fun v hv=>hv.1) HCI.out hc16 (by omega);clear hcho;have hpe:(2:Nat)^e<=2^15:=Nat.pow_le_pow_right (by decide) (by omega);obtain⟨P,hP⟩:∃P:Nat,(2:Nat)^e=P:=⟨_,rfl⟩;have hpk:(2:Int)^e=(P:Int):=by rw[<- hP];simp
       rw[hP] at hpe;have HP:=lHd hP;have hwP:IntKind.i64.wrap (P:Int)=(P:Int):=by rw[IntKind.wrap_i64];omega
       have hwc:IntKind.i64.wrap (c0+c)=c0+c:=by rw[IntKind.wrap_i64];omega
       have hor:=or64 v P (by omega) (by omega);clear hP
       go_wp2_with fail
       refine wp_region_held_drew (S:=fun W=>W.cell? ⟨w4.heap.size,0,none⟩=some (.int .i64 c0)/\W.cell? ⟨w4.heap.size,1,none⟩=some (.int .i64 v)) (by kernel_rfl) (by simp[go_sem]) (fun hHeld=>?_);refine tkH 0 ?_;refine tkH 1 ?_;refine tkH 2 ?_;refine tkH 3 ?_;refine tkH 4 ?_;refine tkH 5 ?_;refine tkH 6 ?_;refine tkH 7 ?_;refine tkH 8 ?_;refine tkH 9 ?_;refine hrd 10 (fun K hK=>?_);go_simp;refine hK.out _ _ (by simp[go_sem]) (fun hHeld=>?_);clear hK K
       try simp only[ap]
       refine hrd 11 (fun K hK=>?_);go_simp;refine hK.out _ _ (by simp[go_sem]) (fun hHeld=>?_);clear hK K
       try simp only[ap]
       refine hdn ?_ _;have hz:i ||| hb<N:=by rw[<- HN.out];exact Nat.or_lt_two_pow (by rw[HN.out];exact hlt3) (by rw[HN.out];exact hbN)
       have hoz:=or64 i hb (by omega) (by omega);obtain⟨cz,wz0,hlz,hz0,hz1⟩:=hr3.cell (k:=i ||| hb) (by rw[hmid.out.len];exact hz);obtain⟨wz,rfl,hchz⟩:=hmid.out.at_ _ cz wz0 hlz.out;obtain⟨z,hze⟩:∃z,i ||| hb=z:=⟨_,rfl⟩
       rw[hze] at hz hoz hz0 hz1;have HZE:=lHd hze;have hgl3:=hr3.lt;have hgl3a:g3<w4.heap.size+1:=by omega
       clear hze hchz
       by_cases h0:c0=1000000000
       ·subst h0;have hv0:=r6 rfl;subst hv0;have HNX:=lHd (yVc hmid.out hc.out HCHO.out rfl)
        go_wp2_with fail
        refine wp_region_held_drew (S:=fun W=>W.cell? ⟨w4.heap.size,0,none⟩=some (.int .i64 1000000000)/\W.cell? ⟨w4.heap.size,1,none⟩=some (.int .i64 0)/\W.cell? ⟨w.heap.size+1,0,none⟩=some (.int .i64 1000000000)/\W.cell? ⟨w.heap.size+1,1,none⟩=some (.int .i64 0)) (by kernel_rfl) (by simp[go_sem,Fq,yqw1,yqw0]) (fun hHeld=>?_);refine tkH 0 ?_;refine tkH 1 ?_;refine tkH 2 ?_;refine tkH 3 ?_;refine wpAnyH_take (i:=4) (v:=undef) rfl (by kernel_rfl) (by kernel_rfl) (by kernel_rfl) (fun _ _ _ h=>h) (Or.inr ⟨?wq34,rfl⟩) (by assumption) ?rq34
        case wq34=>simp[Region.wanted,yielded]
        try simp only[ap]
        refine wpAnyH_take (i:=5) (v:=undef) rfl (by kernel_rfl) (by kernel_rfl) (by kernel_rfl) (fun _ _ _ h=>h) (Or.inr ⟨?wq35,rfl⟩) (by assumption) ?rq35
        case wq35=>simp[Region.wanted,yielded]
        try simp only[ap]
        refine wpAnyH_take (i:=6) (v:=undef) rfl (by kernel_rfl) (by kernel_rfl) (by kernel_rfl) (fun _ _ _ h=>h) (Or.inr ⟨?wq36,rfl⟩) (by assumption) ?rq36
        case wq36=>simp[Region.wanted,yielded]
        try simp only[ap]
        refine wpAnyH_take (i:=7) (v:=undef) rfl (by kernel_rfl) (by kernel_rfl) (by kernel_rfl) (fun _ _ _ h=>h) (Or.inr ⟨?wq37,rfl⟩) (by assumption) ?rq37
        case wq37=>simp[Region.wanted,yielded]
        try simp only[ap]
        refine wpAnyH_take (i:=8) (v:=undef) rfl (by kernel_rfl) (by kernel_rfl) (by kernel_rfl) (fun _ _ _ h=>h) (Or.inr ⟨?wq38,rfl⟩) (by assumption) ?rq38
        case wq38=>simp[Region.wanted,yielded]
        try simp only[ap]
        refine wpAnyH_take (i:=9) (v:=undef) rfl (by kernel_rfl) (by kernel_rfl) (by kernel_rfl) (fun _ _ _ h=>h) (Or.inr ⟨?wq39,rfl⟩) (by assumption) ?rq39
        case wq39=>simp[Region.wanted,yielded]
        try simp only[ap]
        refine wpAnyH_take (i:=10) (v:=undef) rfl (by kernel_rfl) (by kernel_rfl) (by kernel_rfl) (fun _ _ _ h=>h) (Or.inr ⟨?wq310,rfl⟩) (by assumption) ?rq310
        case wq310=>simp[Region.wanted,yielded]
        try simp only[ap]
        refine wpAnyH_take (i:=11) (v:=undef) rfl (by kernel_rfl) (by kernel_rfl) (by kernel_rfl) (fun _ _ _ h=>h) (Or.inr ⟨?wq311,rfl⟩) (by assumption) ?rq311
        case wq311=>simp[Region.wanted,yielded]
        try simp only[ap]
        refine tkH 12 ?_;refine hdn ?_ _
        go_wp2_with fail
        go_roundw
        case rel=>exact⟨i+1,l2,by omega,by go_num,hr2.below bch,hr3.below bch,HNX,bch,(by simp[Cls,go_sem,Fq,yqw1,yqw0,yqwp1])⟩
        case measure=>simp[intOf];omega
       ·have h0':(c0==1000000000)=false:=by simpa using h0
        have hlt4:c0+c<1000000000:=by have:=r3 h0;omega
        by_cases hle:c0+c<cz\/(c0+c=cz/\((v ||| P:Nat):Int)<(wz:Int))
        ·have hless:∀wx:World,Calls prog 99 #[.agg #[.int .i64 (c0+c),.int .i64 ((v ||| P:Nat):Int)],.agg #[.int .i64 cz,.int .i64 wz]] wx fun e w'=>e=.returned (.bool true)/\Below wx.heap.size wx w':=fun wx=>by
          have h:=zKe wx (c0+c) ((v ||| P:Nat):Int) cz wz;rw[zWo hle] at h;exact h
         have HNX:=lHd (show TabC (xXb cs) (xWb sets e hb (i+1)) N (l2.set z (c0+c,((v ||| P:Nat):Int))) by
          rw[<- HZE.out,<- HP.out];exact yWa hmid.out hc.out HCHO.out h0 hlt4 hlz.out (by rw[HP.out];omega))
         clear hle
         go_wp2_with fail
         refine wp_region_held_drew (S:=fun W=>W.cell? ⟨w4.heap.size,0,none⟩=some (.int .i64 c0)/\W.cell? ⟨w4.heap.size,1,none⟩=some (.int .i64 v)/\W.cell? ⟨w.heap.size+1,0,none⟩=some (.int .i64 1000000000)/\W.cell? ⟨w.heap.size+1,1,none⟩=some (.int .i64 0)/\W.cell? ⟨w4.heap.size+1,0,none⟩=some (.int .i64 (c0+c))/\W.cell? ⟨w4.heap.size+1,1,none⟩=some (.int .i64 ((v ||| P:Nat):Int))/\W.cell? ⟨g3,z*2,none⟩=some (.int .i64 cz)/\W.cell? ⟨g3,z*2+1,none⟩=some (.int .i64 wz)) (by kernel_rfl) (by simp[go_sem,Fq,yqw1,yqw0,hz0,hz1,hgl3,hgl3a]) (fun hHeld=>?_);refine tkH 0 ?_;refine tkH 1 ?_;refine tkH 2 ?_;refine tkH 3 ?_;refine tkS 4 ?_;refine tkS 5 ?_;refine tkS 6 ?_;refine tkS 7 ?_;refine tkS 8 ?_;refine tkS 9 ?_;refine tkS 10 ?_;refine hrd 11 (fun K hK=>?_);go_simp;refine(hless _).mono ?_;rintro e' w5 ⟨rfl,hB5⟩;have E5:=xJ3 w4 hB5 bch;have D5:=xJ3 w hB5 bch;have C5:=Cls.below (l:=[(w.heap.size,0,.int .i64 0),(w.heap.size,1,.int .i64 0),(w.heap.size+1,0,.int .i64 1000000000),(w.heap.size+1,1,.int .i64 0),(w4.heap.size,0,.int .i64 c0),(w4.heap.size,1,.int .i64 v),(w4.heap.size+1,0,.int .i64 (c0+c)),(w4.heap.size+1,1,.int .i64 (((v ||| P:Nat):Int)))]) hB5 (by simp[Cls,go_sem,Fq,yqw1,yqw0,yqwp1]);have F5:=C5.f;have y5w1:=C5.blk (b:=w.heap.size+1) (k:=0) (v:=.int .i64 1000000000) (by simp);have y5w41:=C5.blk (b:=w4.heap.size+1) (k:=0) (v:=.int .i64 (c0+c)) (by simp);have hr25:=hr2.below E5;have hr35:=hr3.below E5;have hz05:=(E5.cell (zQ2 _ _ hz0)).trans hz0;have hz15:=(E5.cell (zQ2 _ _ hz1)).trans hz1;have hfz05:=hr35.free (z*2);have hfz15:=hr35.free (z*2+1)
         go_wp2_with fail
         refine hK.out _ _ (by simp[F5,hz05,hz15]) (fun hHeld=>?_);clear hK K
         try simp only[ap]
         refine tkH 12 ?_;refine hdn ?_ _
         go_wp2_with fail
         go_roundw
         case rel=>exact⟨i+1,l2.set z (c0+c,((v ||| P:Nat):Int)),by omega,by go_num,CRow.far (CRow.far hr25 (fun h=>hg23 h.symm) _) (fun h=>hg23 h.symm) _,CRow.set_ hr35 z _ _,HNX,bch,Cls.far (Cls.far (l:=[(w.heap.size,0,.int .i64 0),(w.heap.size,1,.int .i64 0),(w.heap.size+1,0,.int .i64 1000000000),(w.heap.size+1,1,.int .i64 0)]) (by simp[Cls,F5]) _ _ (by simp;omega)) _ _ (by simp;omega)⟩
         case measure=>simp[intOf];omega
        ·have hless:∀wx:World,Calls prog 99 #[.agg #[.int .i64 (c0+c),.int .i64 ((v ||| P:Nat):Int)],.agg #[.int .i64 cz,.int .i64 wz]] wx fun e w'=>e=.returned (.bool false)/\Below wx.heap.size wx w':=fun wx=>by
          have h:=zKe wx (c0+c) ((v ||| P:Nat):Int) cz wz;rw[zVa hle] at h;exact h
         have HNX:=lHd (yVd hmid.out hc.out HCHO.out h0 hlt4 hlz.out (by rw[HP.out];omega));clear hle
         go_wp2_with fail
         refine wp_region_held_drew (S:=fun W=>W.cell? ⟨w4.heap.size,0,none⟩=some (.int .i64 c0)/\W.cell? ⟨w4.heap.size,1,none⟩=some (.int .i64 v)/\W.cell? ⟨w.heap.size+1,0,none⟩=some (.int .i64 1000000000)/\W.cell? ⟨w.heap.size+1,1,none⟩=some (.int .i64 0)/\W.cell? ⟨w4.heap.size+1,0,none⟩=some (.int .i64 (c0+c))/\W.cell? ⟨w4.heap.size+1,1,none⟩=some (.int .i64 ((v ||| P:Nat):Int))/\W.cell? ⟨g3,z*2,none⟩=some (.int .i64 cz)/\W.cell? ⟨g3,z*2+1,none⟩=some (.int .i64 wz)) (by kernel_rfl) (by simp[go_sem,Fq,yqw1,yqw0,hz0,hz1,hgl3,hgl3a]) (fun hHeld=>?_);refine tkH 0 ?_;refine tkH 1 ?_;refine tkH 2 ?_;refine tkH 3 ?_;refine tkS 4 ?_;refine tkS 5 ?_;refine tkS 6 ?_;refine tkS 7 ?_;refine tkS 8 ?_;refine tkS 9 ?_;refine tkS 10 ?_;refine hrd 11 (fun K hK=>?_);go_simp;refine(hless _).mono ?_;rintro e' w5 ⟨rfl,hB5⟩;have E5:=xJ3 w4 hB5 bch;have D5:=xJ3 w hB5 bch;have C5:=Cls.below (l:=[(w.heap.size,0,.int .i64 0),(w.heap.size,1,.int .i64 0),(w.heap.size+1,0,.int .i64 1000000000),(w.heap.size+1,1,.int .i64 0),(w4.heap.size,0,.int .i64 c0),(w4.heap.size,1,.int .i64 v),(w4.heap.size+1,0,.int .i64 (c0+c)),(w4.heap.size+1,1,.int .i64 (((v ||| P:Nat):Int)))]) hB5 (by simp[Cls,go_sem,Fq,yqw1,yqw0,yqwp1]);have F5:=C5.f;have y5w1:=C5.blk (b:=w.heap.size+1) (k:=0) (v:=.int .i64 1000000000) (by simp);have y5w41:=C5.blk (b:=w4.heap.size+1) (k:=0) (v:=.int .i64 (c0+c)) (by simp);have hr25:=hr2.below E5;have hr35:=hr3.below E5;have hz05:=(E5.cell (zQ2 _ _ hz0)).trans hz0;have hz15:=(E5.cell (zQ2 _ _ hz1)).trans hz1;have hfz05:=hr35.free (z*2);have hfz15:=hr35.free (z*2+1)
         go_wp2_with fail
         refine hK.out _ _ (by simp[F5,hz05,hz15]) (fun hHeld=>?_);clear hK K
         try simp only[ap]
         refine tkH 12 ?_;refine hdn ?_ _
         go_wp2_with fail
         go_roundw
         case rel=>exact⟨i+1,l2,by omega,by go_num,hr25,hr35,HNX,D5,(by simp[Cls,F5])⟩
         case measure=>simp[intOf];omega
      ·have hiN:i=N:=by omega
       subst hiN;have HNX:=lHd (yVe hmid.out HN.out.symm HH.out)
       go_wp2_with fail
       go_roundw
       case rel=>exact⟨e+1,g3,c3,l2,by omega,by go_num,rfl,by omega,hr3,HNX,bch,(by simp[Cls,go_sem,Fq])⟩
       case measure=>simp[intOf];omega
  ·have hec:e=cs.length:=by omega
   subst hec;obtain⟨cz,u,hlz,hz0,hz1⟩:=hrow.cell (k:=N-1) (by rw[HLEN.out];omega);obtain⟨v,rfl,hcho⟩:=yVf htab.out HN.out.symm hlz.out;have HCHO:=lHd hcho;have hn1:((N:Int)-1).toNat=N-1:=by omega
   have hn2:0<=(N:Int)-1:=by omega
   have hn4:IntKind.i64.wrap ((N:Int)-1)=(N:Int)-1:=by rw[IntKind.wrap_i64];omega
   clear hcho
   go_wp2_with fail
   refine bodyPost_ret (v:=.agg #[.int .i64 cz,.int .i64 v]) ?_ rfl ⟨cz,v,rfl,HCHO.out,bch⟩;simp[results,results46,go_sem,Fr]
