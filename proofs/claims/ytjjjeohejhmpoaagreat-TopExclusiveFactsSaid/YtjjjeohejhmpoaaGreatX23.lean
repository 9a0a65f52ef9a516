/-
  Lemmas.
-/
import Derived.Test.YtjjjeohejhmpoaaGreatX21
import Derived.Test.YtjjjeohejhmpoaaGreatX22
set_option linter.unusedVariables false
set_option linter.unusedSimpArgs false
set_option maxRecDepth 100000
set_option maxHeartbeats 4000000
namespace Go.Proofs.YtjjjeohejhmpoaaGreat
open Go.RowKit Go.Proofs.Tryz
theorem Cls.low{base:Nat}{w w':World}{l:List (Nat×Nat×Value)}(hb:Below base w w')(h:Cls w l)(hl:∀x∈l,x.1<base):Cls w' l:=by
 induction l with
 |nil=>trivial
 |cons x r ih=>
  obtain⟨b,k,v⟩:=x;obtain⟨⟨h1,h2⟩,h3⟩:=h;have hl':b<base:=hl (b,k,v) (by simp);exact⟨⟨(hb.cell (p:=⟨b,k,none⟩) hl').trans h1,(hb.frozen (p:=⟨b,k,none⟩) hl').trans h2⟩,ih h3 fun x hx=>hl x (by simp[hx])⟩
theorem TbMem.cellv{base m N:Nat}{w:World}{L:TbLay}{bs:Nat->Nat}{T:Nat->Nat->Int}{den v:Int}(h:TbMem base w L m N bs T den){i j:Nat}(hi:i<m+2)(hj:j<N)(hv:Hid (T i j=v)):w.cell? ⟨L.blk i,j,none⟩=some (.int .i64 v):=by
 rw[<- hv.out];exact(h.cell hi hj).1
theorem IArr.alloc_{w:World}{g:Nat}{xs:List Int}(h:IArr w g xs)(o:Obj):IArr (w.alloc o) g xs:=Arr.alloc h o
theorem dlow{base:Nat}{w X w1:World}(h:Below w.heap.size w X)(hB:Below base X w1)(hle:w.heap.size<=base):Below w.heap.size w w1:=h.trans (hB.mono hle)
theorem zWp(w:World)(AR AB AO:Option Addr)(cr cb co:Nat)(p:LpV)(hM:LpMem w AR AB AO p)(hok:LpOk p)(m n:Nat)(hrl:p.rows.length=m)(hbl:p.bounds.length=m)(hol:p.obj.length=n) :
  Calls prog 100 #[.agg #[.slice AR m cr,.slice AB m cb,.slice AO n co]] w fun e w'=>e=.returned (.agg #[.int .i64 0,.int .i64 0])/\Below w.heap.size w w':=by
 have h:=xKk w AR AB AO cr cb co p hM;rw[hrl,hbl,hol,vXx hok] at h;exact h
theorem zYa(w:World)(base:Nat)(L:TbLay)(m N n:Nat)(bs:Nat->Nat)(T:Nat->Nat->Int)(den:Int)(col:Nat)(ci:Int)(hci:ci=col)(sg:Int)(hM:TbMem base w L m N bs T den)(hcol:col<N)(hsg:sg=1\/sg = -1)(hTB:∀i,i<m->-1000000000<=T i col/\T i col<=1000000000)(hinj:∀i k,i<m->k<m->bs i=bs k->i=k)(hm6:m<=6)(hn6:n<=100) :
  Calls prog 105 #[.pointer (some ⟨L.b,0,none⟩),.int .i64 n,.int .i64 ci,.int .i64 sg] w fun e w'=>∃g:Nat,e=.returned (.slice (some ⟨g,0,none⟩) n n)/\w.heap.size<=g/\IArr w' g (xJd n fun j=>sg*xWp bs T col m j)/\Below w.heap.size w w':=by
 subst hci;exact vYj w base L m N n bs T den col sg hM hcol hsg hTB hinj hm6 hn6
theorem xQh(w:World)(A:Option Addr)(cA n:Nat)(xs:List Int)(d:Int)(hl:xs.length=n)(hI:Ints w A xs)(hn:n<=100)(hx:∀x∈xs,-1000000000<=x/\x<=1000000000)(hd0:0<d)(hd1:d<=1000000000) :
  Calls prog 103 #[.slice A n cA,.int .i64 d] w fun e w'=>∃(g:Nat) (q:Int),e=.returned (.agg #[.slice (some ⟨g,0,none⟩) n n,.int .i64 q])/\Hid (q=d.tdiv (xQ2 d xs))/\w.heap.size<=g/\Hid (IArr w' g (xQv d xs))/\Below w.heap.size w w':=by
 subst hl;refine(vVy w A cA xs d hI hn hx hd0 hd1).mono ?_;rintro e w' ⟨g,rfl,h1,h2,h3⟩;exact⟨g,_,rfl,lHd rfl,h1,lHd h2,h3⟩
theorem xW1(w:World)(v d:Int)(h1 : -4611686018427387904<=v)(h2:v<=4611686018427387904)(h3 : -4611686018427387904<=d)(h4:d<=4611686018427387904)(hd:d≠0)(hc:rc v d=0)(hi:ri v d=0) :
  Calls prog 106 #[.int .i64 v,.int .i64 d] w fun e w'=>∃a b:Int,e=.returned (.tuple #[.agg #[.int .i64 a,.int .i64 b],.agg #[.int .i64 0,.int .i64 0]])/\Hid (a=rn v d/\b=rd v d)/\Below w.heap.size w w':=by
 have h:=yK5 v d h1 h2 h3 h4 hd w;rw[hc,hi] at h;exact h.mono fun e w' h=>⟨_,_,h.1,lHd ⟨rfl,rfl⟩,h.2⟩
theorem yZ4(w:World)(AR AB AO:Option Addr)(cr cb co:Nat)(p:LpV)(hM:LpMem w AR AB AO p)(hok:LpOk p)(m n N:Nat)(hrl:Hid (p.rows.length=m))(hbl:Hid (p.bounds.length=m))(hol:Hid (p.obj.length=n))(hN:Hid (N=n+m+2))(hm6:m<=6)(hn6:n<=6)(P:LA.LP)(hP:Hid (p.lp=P))(b:Nat)(hb:w.heap.size=b) :
  Calls prog 101 #[.agg #[.slice AR m cr,.slice AB m cb,.slice AO n co]] w fun e w'=>∃L:TbLay,e=.returned (.pointer (some ⟨L.b,0,none⟩))/\TbMem b w' L P.m P.N (fun i=>P.n+i) P.T0 1/\Below w.heap.size w w':=by
 refine(vJw w AR AB AO cr cb co p hM hok m n N hrl hbl hol hN hm6 hn6).mono ?_;rintro e w' ⟨L,rfl,h1,h2⟩;refine⟨L,rfl,?_,h2⟩;have e0:=hP.out;subst e0;subst hb;have e1:p.lp.m=m:=hrl.out;have e2:p.lp.n=n:=hol.out;have e3:p.lp.N=N:=by unfold LA.LP.N;rw[e1,e2];exact hN.out.symm
 rw[e1,e2,e3];exact h1
def yK2(P:LA.LP)(w w':World)(e:Ending):Prop:=∃(st num den dx dy dr:Int) (Ax Ay Ar:Option Addr) (x y r:List Int),e=.returned (.tuple #[.agg #[.int .i64 st,.int .i64 num,.int .i64 den,.slice Ax x.length x.length,.int .i64 dx,.slice Ay y.length y.length,.int .i64 dy,.slice Ar r.length r.length,.int .i64 dr],.agg #[.int .i64 0,.int .i64 0]])/\(Ints w' Ax x/\Ints w' Ay y/\Ints w' Ar r)/\SolOut P st num den x dx y dy r dr/\Below w.heap.size w w'
theorem xW2{P:LA.LP}{w w':World}(st num den dx dy dr:Int)(Ax Ay Ar:Option Addr)(x y r:List Int)(nx ny nr:Nat)(hx:x.length=nx)(hy:y.length=ny)(hr:r.length=nr)(h1:Ints w' Ax x)(h2:Ints w' Ay y)(h3:Ints w' Ar r)(h4:SolOut P st num den x dx y dy r dr)(h5:Below w.heap.size w w') :
  yK2 P w w' (.returned (.tuple #[.agg #[.int .i64 st,.int .i64 num,.int .i64 den,.slice Ax nx nx,.int .i64 dx,.slice Ay ny ny,.int .i64 dy,.slice Ar nr nr,.int .i64 dr],.agg #[.int .i64 0,.int .i64 0]])):=by
 subst hx;subst hy;subst hr;exact⟨st,num,den,dx,dy,dr,Ax,Ay,Ar,x,y,r,rfl,⟨h1,h2,h3⟩,h4,h5⟩
theorem yWz(w:World)(AR AB AO:Option Addr)(cr cb co:Nat)(p:LpV)(hM:LpMem w AR AB AO p)(h:¬(lpF p).1=0) :
  Calls prog 47 #[.agg #[.slice AR p.rows.length cr,.slice AB p.bounds.length cb,.slice AO p.obj.length co]] w fun e w'=>e=.returned (.tuple #[.agg #[.int .i64 0,.int .i64 0,.int .i64 0,.slice none 0 0,.int .i64 0,.slice none 0 0,.int .i64 0,.slice none 0 0,.int .i64 0],.agg #[.int .i64 (lpF p).1,.int .i64 (lpF p).2]])/\Below w.heap.size w w':=by
 have N:=zZf h;have N':=xYp h;go_enter func47,ntmps47
 go_wp2_with fail
 refine(xKk _ AR AB AO cr cb co p (hM.below bch)).mono ?_;rintro e w1 ⟨rfl,hB1⟩;have D1:=xJ3 w hB1 bch;have C1:=Cls.below (l:=[(w.heap.size,0,.slice AR p.rows.length cr),(w.heap.size,1,.slice AB p.bounds.length cb),(w.heap.size,2,.slice AO p.obj.length co),(w.heap.size+1,0,.int .i64 0),(w.heap.size+1,1,.int .i64 0),(w.heap.size+1,2,.int .i64 0),(w.heap.size+1,3,.slice none 0 0),(w.heap.size+1,4,.int .i64 0),(w.heap.size+1,5,.slice none 0 0),(w.heap.size+1,6,.int .i64 0),(w.heap.size+1,7,.slice none 0 0),(w.heap.size+1,8,.int .i64 0),(w.heap.size+1+1,0,.int .i64 0),(w.heap.size+1+1,1,.int .i64 0)]) hB1 (by simp[Cls,go_sem]);have F1:=C1.f;have y1w2:=C1.b 12;have y1w1:w.heap.size+1<w1.heap.size:=(by omega)
 go_wp2_with fail
 go_region
 all_goals
  go_wp2;refine bodyPost_ret ?_ rfl ⟨rfl,bch⟩;simp[results,results47,go_sem,F1,y1w2,y1w1]
theorem uJ0(w:World)(AR AB AO:Option Addr)(cr cb co:Nat)(p:LpV)(hM:LpMem w AR AB AO p)(hok:LpOk p)(m n:Nat)(hrl:Hid (p.rows.length=m))(hbl:Hid (p.bounds.length=m))(hol:Hid (p.obj.length=n))(P:LA.LP)(hP:Hid (p.lp=P)) :
  Calls prog 47 #[.agg #[.slice AR m cr,.slice AB m cb,.slice AO n co]] w fun e w'=>yK2 P w w' e:=by
 have HOK:=lHd hok;obtain⟨N,hN⟩:∃N,Hid (N=n+m+2):=⟨_,lHd rfl⟩;have HPm:Hid (P.m=m):=lHd (by rw[<- hP.out];exact hrl.out);have HPn:Hid (P.n=n):=lHd (by rw[<- hP.out];exact hol.out);have HPN:Hid (P.N=N):=lHd (by unfold LA.LP.N;rw[HPm.out,HPn.out];exact hN.out.symm);have HPl:Hid (P.last=n+m+1):=lHd (by unfold LA.LP.last;rw[HPm.out,HPn.out]);have HPI:Hid (LA.LPIn P):=lHd (by rw[<- hP.out];exact hok.lpin);have hm6:m<=6:=by have:=HPI.out.m;rw[HPm.out] at this;exact this
 have hn6:n<=6:=by have:=HPI.out.n;rw[HPn.out] at this;exact this
 have hN14:N<=14:=by have:=hN.out;omega
 have hi1:n+m+1<N:=by have:=hN.out;omega
 clear hok;go_enter func47,ntmps47
 go_wp2_with fail
 refine(zWp _ AR AB AO cr cb co p (hM.below bch) HOK.out m n hrl.out hbl.out hol.out).mono ?_;rintro e w1 ⟨rfl,hB1⟩;have D1:=xJ3 w hB1 bch;have C1:=Cls.below (l:=[(w.heap.size,0,.slice AR m cr),(w.heap.size,1,.slice AB m cb),(w.heap.size,2,.slice AO n co),(w.heap.size+1,0,.int .i64 0),(w.heap.size+1,1,.int .i64 0),(w.heap.size+1,2,.int .i64 0),(w.heap.size+1,3,.slice none 0 0),(w.heap.size+1,4,.int .i64 0),(w.heap.size+1,5,.slice none 0 0),(w.heap.size+1,6,.int .i64 0),(w.heap.size+1,7,.slice none 0 0),(w.heap.size+1,8,.int .i64 0),(w.heap.size+1+1,0,.int .i64 0),(w.heap.size+1+1,1,.int .i64 0)]) hB1 (by simp[Cls,go_sem]);have F1:=C1.f;have y1w2:=C1.b 12;have y1w1:w.heap.size+1<w1.heap.size:=(by omega);have y1w0:w.heap.size<w1.heap.size:=(by omega)
 go_wp2_with fail
 go_quiet (fail)
 go_wp2_with fail
 refine(yZ4 _ AR AB AO cr cb co p (hM.below bch) HOK.out m n N hrl hbl hol hN hm6 hn6 P hP (w1.heap.size+1) (by simp)).mono ?_;rintro e w2 ⟨L,rfl,hM2,hB2⟩;have D2:=xJ3 w hB2 bch;have C2:=Cls.below (l:=[(w.heap.size,0,.slice AR m cr),(w.heap.size,1,.slice AB m cb),(w.heap.size,2,.slice AO n co),(w.heap.size+1,0,.int .i64 0),(w.heap.size+1,1,.int .i64 0),(w.heap.size+1,2,.int .i64 0),(w.heap.size+1,3,.slice none 0 0),(w.heap.size+1,4,.int .i64 0),(w.heap.size+1,5,.slice none 0 0),(w.heap.size+1,6,.int .i64 0),(w.heap.size+1,7,.slice none 0 0),(w.heap.size+1,8,.int .i64 0),(w.heap.size+1+1,0,.int .i64 0),(w.heap.size+1+1,1,.int .i64 0),(w1.heap.size,0,.int .i64 0),(w1.heap.size,1,.int .i64 0)]) hB2 (by simp[Cls,go_sem,F1,y1w2,y1w1,y1w0]);have F2:=C2.f;have y2w2:=C2.b 12;have y2w10:=C2.b 14;obtain⟨base,hbe⟩:∃b,b=w1.heap.size+1:=⟨_,rfl⟩;rw[<- hbe] at hM2;have hb2:base<=w2.heap.size:=by have:=hB2.size;simp at this;omega
 have hbw:w.heap.size<=base:=by have:=D1.size;omega
 obtain⟨Lb,LgR,LcR,Lblk,LAB,LcB⟩:=L;have HM2:=lHd hM2;clear hM2
 go_wp2_with fail
 refine(vWq _ base ⟨Lb,LgR,LcR,Lblk,LAB,LcB⟩ P HPI.out (HM2.out.below bch) (by(try simp);omega)).mono ?_;rintro e w3 ⟨s,ok,rfl,hok3,hno3,hinf3,hM3,hB3⟩;have D3:=dlow (w:=w) bch hB3 hbw;have E3:=(bch:Below base w2 _).trans hB3;have C3:=Cls.low (l:=[(w.heap.size,0,.slice AR m cr),(w.heap.size,1,.slice AB m cb),(w.heap.size,2,.slice AO n co),(w.heap.size+1,0,.int .i64 0),(w.heap.size+1,1,.int .i64 0),(w.heap.size+1,2,.int .i64 0),(w.heap.size+1,3,.slice none 0 0),(w.heap.size+1,4,.int .i64 0),(w.heap.size+1,5,.slice none 0 0),(w.heap.size+1,6,.int .i64 0),(w.heap.size+1,7,.slice none 0 0),(w.heap.size+1,8,.int .i64 0),(w.heap.size+1+1,0,.int .i64 0),(w.heap.size+1+1,1,.int .i64 0),(w1.heap.size,0,.int .i64 0),(w1.heap.size,1,.int .i64 0)]) E3 (by simp[Cls,go_sem,F2]) (by simp;omega);have F3:=C3.f;have y3w2:=C3.blk (b:=w.heap.size+1+1) (k:=0) (v:=.int .i64 0) (by simp);have y3w10:=C3.blk (b:=w1.heap.size) (k:=0) (v:=.int .i64 0) (by simp);have HO3:=lHd hok3;have HN3:=lHd hno3;have HI3:=lHd hinf3;have HM3:=lHd hM3;have hb3:base<=w3.heap.size:=by have:=E3.size;omega
 clear hok3 hno3 hinf3 hM3 hB3
 cases ok with
 |false=>
  have hM3':TbMem base w3 ⟨Lb,LgR,LcR,Lblk,LAB,LcB⟩ m N s.bs s.T s.den:=by have h:=HM3.out;rw[HPm.out,HPN.out] at h;exact h
  have hx0:=hM3'.box0;have hx2:=hM3'.box2;have hxo:=hM3'.out (m+1) (by omega);have hxr:=hM3'.row (m+1) (by omega);dsimp only at hx0 hx2 hxo hxr;have hm3:(m:Int)+1<(m:Int)+2:=by omega
  have hm4:(0:Int)<=(m:Int)+1:=by omega
  have hw1:IntKind.i64.wrap ((m:Int)+1)=(m:Int)+1:=Go.IntWalk.i64_in _ (by omega);have hw2:IntKind.i64.wrap ((n:Int)+(m:Int))=(n:Int)+(m:Int):=Go.IntWalk.i64_in _ (by omega);obtain⟨A',hA',hcut⟩:=vZ1 (Lblk (m+1)) N n m (by omega) (by omega);have hrun:=hcut (n:Int) ((n:Int)+(m:Int)) rfl rfl;have HA':=lHd hA';have hden:=HO3.out.pos;have hden2:=HO3.out.le_den HPI.out;obtain⟨den,hde⟩:∃d,Hid (s.den=d):=⟨_,lHd rfl⟩;rw[hde.out] at hx2 hden hden2;have HYL:Hid ((xJd m fun k=>s.T (m+1) (n+k)).length=m):=lHd (xJj _ _);have HYE:Hid (zZy P s (P.m+1)=xJd m fun k=>s.T (m+1) (n+k)):=lHd (by unfold zZy;rw[HPm.out,HPn.out]);have HYB:Hid (∀x∈xJd m (fun k=>s.T (m+1) (n+k)),-1000000000<=x/\x<=1000000000):=lHd (fun x hx=>by rw[<- HYE.out] at hx;have:=vWk HPI.out HO3.out x hx;omega);have HXR:=lHd hxr;clear hA' hcut hxr
  go_wp2_with fail
  obtain⟨hsb1,hsb2,-,-⟩:=hM3'.sepB;dsimp only at hsb1 hsb2;refine wp_region_held_drew (S:=fun W=>W.cell? ⟨Lb,0,none⟩=some (.slice (some ⟨LgR,0,none⟩) (m+2) LcR)/\W.cell? ⟨LgR,m+1,none⟩=some (.slice (some ⟨Lblk (m+1),0,none⟩) N N)/\W.cell? ⟨Lb,2,none⟩=some (.int .i64 den)) (by kernel_rfl) (by(first|exact⟨hx0,hxo,hx2⟩|simp[go_sem])) (fun hHeld=>?_);refine tkH 0 ?_;refine tkH 1 ?_;refine tkH 2 ?_;refine tkH 3 ?_;refine tkH 4 ?_;refine tkH 5 ?_;refine tkH 6 ?_;refine tkH 7 ?_;refine tkH 8 ?_;refine tkH 9 ?_;refine tkH 10 ?_;refine tkH 11 ?_;refine tkH 12 ?_;refine tkH 13 ?_;refine tkH 14 ?_;refine tkH 15 ?_;refine tkH 16 ?_;refine tkH 19 ?_;refine hrd 17 (fun K hK=>?bo11x17)
  case bo11x17=>
   go_simp;go_at_call 103;refine(xQh _ A' (N-n) m (xJd m fun k=>s.T (m+1) (n+k)) den HYL.out ((HA'.out _ _ HXR.out).below bch) (by omega) HYB.out hden (by omega)).mono ?_;rintro e w4 ⟨g4,q4,rfl,HQ4,hg4,HA4,hB4⟩;have hg4':w3.heap.size<=g4:=(by(try simp at hg4);omega);have D4:=xJ3 w hB4 bch;have d4s:=D4.size;have C4:=Cls.below (l:=[(w.heap.size,0,.slice AR m cr),(w.heap.size,1,.slice AB m cb),(w.heap.size,2,.slice AO n co),(w.heap.size+1,0,.int .i64 0),(w.heap.size+1,1,.int .i64 0),(w.heap.size+1,2,.int .i64 0),(w.heap.size+1,3,.slice none 0 0),(w.heap.size+1,4,.int .i64 0),(w.heap.size+1,5,.slice none 0 0),(w.heap.size+1,6,.int .i64 0),(w.heap.size+1,7,.slice none 0 0),(w.heap.size+1,8,.int .i64 0),(w.heap.size+1+1,0,.int .i64 0),(w.heap.size+1+1,1,.int .i64 0),(w1.heap.size,0,.int .i64 0),(w1.heap.size,1,.int .i64 0)]) hB4 (by simp[Cls,go_sem,F3]);have hSS:=And.intro ((hB4.cell (zQ2 _ _ hx0)).trans hx0) (And.intro ((hB4.cell (zQ2 _ _ hxo)).trans hxo) ((hB4.cell (zQ2 _ _ hx2)).trans hx2));have F4:=C4.f;have y4w2:=C4.b 12;have y4w10:=C4.b 14;obtain⟨hK40,hK41,hK42⟩:=hSS;have hSS:=And.intro hK40 (And.intro hK41 hK42)
   go_wp2_with fail
   refine hK.out _ _ hSS (fun hHeld=>?_);clear hK K
   try simp only[ap]
   refine tkH 18 ?_;refine hrd 20 (fun K hK=>?_);go_simp
   go_wp2_with fail
   refine hK.out _ _ (by simp[go_sem,hK40,hK41,hK42]) (fun hHeld=>?_);clear hK K
   try simp only[ap]
   refine hrd 21 (fun K hK=>?_);go_simp
   go_wp2_with fail
   refine hK.out _ _ (by simp[go_sem,hK40,hK41,hK42]) (fun hHeld=>?_);clear hK K
   try simp only[ap]
   refine hdn ?_ _;go_wp2;refine bodyPost_ret (v:=.tuple #[.agg #[.int .i64 2,.int .i64 0,.int .i64 0,.slice none 0 0,.int .i64 0,.slice (some ⟨g4,0,none⟩) m m,.int .i64 q4,.slice none 0 0,.int .i64 0],.agg #[.int .i64 0,.int .i64 0]]) ?_ rfl (xW2 2 0 0 0 q4 0 none (some ⟨g4,0,none⟩) none [] (xQv s.den (zZy P s (P.m+1))) [] 0 m 0 rfl ?_ rfl (Ints.nil _ _) ?_ (Ints.nil _ _) ?_ bch)
   ·simp[results,results47,go_sem,F4]
   ·rw[xZq,HYE.out,HYL.out]
   ·rw[HYE.out,hde.out];refine IArr.ints ?_
    repeat (first|with_reducible exact HA4.out|(with_reducible refine IArr.far ?_ ?_ _;rotate_left;(first|omega|(simp<;>omega))))
   ·rw[HQ4.out,<- HYE.out,<- hde.out];have h:=HI3.out (by simp);exact yQk HPI.out HO3.out h.1 h.2
 |true=>
  have HNs:=lHd (HN3.out (by simp));clear HN3 HI3
  go_wp2_with fail
  refine(zXg _ base ⟨Lb,LgR,LcR,Lblk,LAB,LcB⟩ P s P.m (P.n+P.m) P.g0 _ _ (by rw[HPm.out]) (by rw[HPm.out,HPn.out];omega) HPI.out (LA.obj_goal P) HO3.out (HM3.out.below bch) (by(try simp);omega)).mono ?_;rintro e w4 ⟨s4,b,rfl,hok4,hno4,hcase4,hM4,hB4⟩;have D4:=dlow (w:=w) bch hB4 hbw;have E4:=(bch:Below base w3 _).trans hB4;have d4s:=D4.size;have C4:=Cls.low (l:=[(w.heap.size,0,.slice AR m cr),(w.heap.size,1,.slice AB m cb),(w.heap.size,2,.slice AO n co),(w.heap.size+1,0,.int .i64 0),(w.heap.size+1,1,.int .i64 0),(w.heap.size+1,2,.int .i64 0),(w.heap.size+1,3,.slice none 0 0),(w.heap.size+1,4,.int .i64 0),(w.heap.size+1,5,.slice none 0 0),(w.heap.size+1,6,.int .i64 0),(w.heap.size+1,7,.slice none 0 0),(w.heap.size+1,8,.int .i64 0),(w.heap.size+1+1,0,.int .i64 0),(w.heap.size+1+1,1,.int .i64 0),(w1.heap.size,0,.int .i64 0),(w1.heap.size,1,.int .i64 0)]) E4 (by simp[Cls,go_sem,F3]) (by simp;omega);have F4:=C4.f;have y4w2:=C4.blk (b:=w.heap.size+1+1) (k:=0) (v:=.int .i64 0) (by simp);have y4w10:=C4.blk (b:=w1.heap.size) (k:=0) (v:=.int .i64 0) (by simp);have HO4:=lHd hok4;have HN4:=lHd (hno4 (Nat.le_refl _) HNs.out);have HC4:=lHd hcase4;have hM4':TbMem base w4 ⟨Lb,LgR,LcR,Lblk,LAB,LcB⟩ m N s4.bs s4.T s4.den:=by rw[HPm.out,HPN.out] at hM4;exact hM4
  have hden:=HO4.out.pos;have hden2:=HO4.out.le_den HPI.out;obtain⟨den,hde⟩:∃d,Hid (s4.den=d):=⟨_,lHd rfl⟩;rw[hde.out] at hM4' hden hden2;have HTB:Hid (∀i,i<m->-1000000000<=s4.T i (n+m+1)/\s4.T i (n+m+1)<=1000000000):=lHd (fun i hi=>by
   have h:=HO4.out.le_last HPI.out (i:=i) (by rw[HPm.out];exact hi);rw[HPl.out] at h;omega)
  have HIJ:Hid (∀i k,i<m->k<m->s4.bs i=s4.bs k->i=k):=lHd (fun i k hi hk=>HO4.out.inj (by rw[HPm.out];exact hi) (by rw[HPm.out];exact hk));have HXE:Hid (zJl P s4=xJd n fun j=>1*xWp s4.bs s4.T (n+m+1) m j):=lHd (by unfold zJl;rw[HPm.out,HPn.out]);have HXL:Hid ((xJd n fun j=>1*xWp s4.bs s4.T (n+m+1) m j).length=n):=lHd (xJj _ _);have HXB:Hid (∀x∈xJd n (fun j=>1*xWp s4.bs s4.T (n+m+1) m j),-1000000000<=x/\x<=1000000000):=lHd (fun x hx=>by rw[<- HXE.out] at hx;have:=vWh HPI.out HO4.out x hx;omega);have HM4:=lHd hM4';have hx0:=hM4'.box0;have hx2:=hM4'.box2;obtain⟨hsb1,hsb2,-,-⟩:=hM4'.sepB;dsimp only at hx0 hx2 hsb1 hsb2;have hw2:IntKind.i64.wrap ((n:Int)+(m:Int))=(n:Int)+(m:Int):=Go.IntWalk.i64_in _ (by omega);have hw3:IntKind.i64.wrap ((n:Int)+(m:Int)+1)=(n:Int)+(m:Int)+1:=Go.IntWalk.i64_in _ (by omega);have hm0:(0:Int)<=(n:Int)+(m:Int)+1:=by omega
  have hnm:(0:Int)<=(n:Int)+(m:Int):=by omega
  clear hok4 hno4 hcase4 hM4 hM4' hB4
  go_upto_region 9 with fail
  go_cut [9] (fun v wx=>∃(gv gx:Nat) (q:Int),v=.pointer (some ⟨gv,0,none⟩)/\w4.heap.size<=gv/\w4.heap.size<=gx/\gx≠gv/\Hid (q=den.tdiv (xQ2 den (zJl P s4)))/\Hid (IArr wx gx (xQv den (zJl P s4)))/\Below w4.heap.size w4 wx/\Cls wx [(gv,0,.slice (some ⟨gx,0,none⟩) n n),(gv,1,.int .i64 q)])
  case first=>
   refine wp_region_held_drew (S:=fun W=>W.cell? ⟨Lb,2,none⟩=some (.int .i64 den)) (by kernel_rfl) (by exact hx2) (fun hHeld=>?_);refine tkH 0 ?_;refine tkH 1 ?_;refine tkH 2 ?_;refine tkH 3 ?_;refine tkH 4 ?_;refine tkH 5 ?_;refine tkH 7 ?_;refine tkH 8 ?_;refine tkH 9 ?_;refine tkH 10 ?_;refine wpAnyH_ready (rs:=[6,12]) (by kernel_rfl) (by simp) ?_;refine(AllReadyH.cons rfl (fun K hK=>?bo21x6) (AllReadyH.cons rfl (fun K hK=>?bo21x12) AllReadyH.nil))
   case bo21x6=>
    go_simp;go_at_call 105;refine(zYa _ base ⟨Lb,LgR,LcR,Lblk,LAB,LcB⟩ m N n s4.bs s4.T den (n+m+1) _ (by omega) 1 (HM4.out.below bch) hi1 (.inl rfl) HTB.out HIJ.out hm6 (by omega)).mono ?_;rintro e w5 ⟨g5,rfl,hg5,hA5,hB5⟩;have E5:=xJ3 w4 hB5 bch;have e5s:=E5.size
    (try simp at hg5)
    have HA5:=lHd hA5;have hl5:=HA5.out.lt;have hSS:w5.cell? ⟨Lb,2,none⟩=some (.int .i64 den):=(HM4.out.below bch).box2
    go_wp2_with fail
    refine hK.out _ _ hSS (fun hHeld=>?_);clear hK K
    try simp only[ap]
    refine wpAnyH_ready (rs:=[11,12]) (by kernel_rfl) (by simp) ?_;refine(AllReadyH.cons rfl (fun K hK=>?bo22x11) (AllReadyH.cons rfl (fun K hK=>?bo22x12) AllReadyH.nil))
    case bo22x11=>
     go_simp;go_at_call 103;refine(xQh _ (some ⟨g5,0,none⟩) n n (xJd n fun j=>1*xWp s4.bs s4.T (n+m+1) m j) den HXL.out (HA5.out.ints.below bch) (by omega) HXB.out hden (by omega)).mono ?_;rintro e w6 ⟨g6,q6,rfl,HQ6,hg6,HA6,hB6⟩;have E6:=xJ3 w4 hB6 bch;have e6s:=E6.size
     (try simp at hg6)
     have hl6:=HA6.out.lt;have hSS:w6.cell? ⟨Lb,2,none⟩=some (.int .i64 den):=(HM4.out.below bch).box2
     go_wp2_with fail
     refine hK.out _ _ hSS (fun hHeld=>?_);clear hK K
     try simp only[ap]
     refine hrd 12 (fun K hK=>?bo23x12)
     case bo23x12=>
      go_simp;have hSS:(w6.alloc (.cells #[.slice none 0 0,.int .i64 0] 68)).cell? ⟨Lb,2,none⟩=some (.int .i64 den):=(HM4.out.below bch).box2
      go_wp2_with fail
      refine hK.out _ _ hSS (fun hHeld=>?_);clear hK K
      try simp only[ap]
      refine hrd 13 (fun K hK=>?_);go_simp;have hne9:¬g6=w6.heap.size:=(by omega)
      go_wp2_with fail
      refine hK.out _ _ ((HM4.out.below bch).box2) (fun hHeld=>?_);clear hK K
      try simp only[ap]
      refine hdn ?_ _
      go_wp2_with fail
      go_meet
      exact⟨w6.heap.size,g6,q6,rfl,(by omega),(by omega),hne9,(by rw[HXE.out];exact HQ6),lHd (by rw[HXE.out];repeat (first|with_reducible exact HA6.out|(with_reducible refine IArr.far ?_ ?_ _;rotate_left;(first|omega|(simp<;>omega)))|(with_reducible refine IArr.alloc_ ?_ _))),bch,(by simp[Cls,go_sem])⟩
    case bo22x12=>
     go_simp;have hSS:(w5.alloc (.cells #[.slice none 0 0,.int .i64 0] 68)).cell? ⟨Lb,2,none⟩=some (.int .i64 den):=(HM4.out.below bch).box2
     go_wp2_with fail
     refine hK.out _ _ hSS (fun hHeld=>?_);clear hK K
     try simp only[ap]
     refine hrd 11 (fun K hK=>?bo25x11)
     case bo25x11=>
      go_simp;go_at_call 103;refine(xQh _ (some ⟨g5,0,none⟩) n n (xJd n fun j=>1*xWp s4.bs s4.T (n+m+1) m j) den HXL.out (HA5.out.ints.below bch) (by omega) HXB.out hden (by omega)).mono ?_;rintro e w6 ⟨g6,q6,rfl,HQ6,hg6,HA6,hB6⟩;have E6:=xJ3 w4 hB6 bch;have e6s:=E6.size
      (try simp at hg6)
      have hl6:=HA6.out.lt;have CV6:=Cls.below (l:=[(w5.heap.size,0,.slice none 0 0),(w5.heap.size,1,.int .i64 0)]) hB6 (by simp[Cls,go_sem]);have Fv6:=CV6.f;have yv6w50:=CV6.b 0;have hSS:w6.cell? ⟨Lb,2,none⟩=some (.int .i64 den):=(HM4.out.below bch).box2
      go_wp2_with fail
      refine hK.out _ _ hSS (fun hHeld=>?_);clear hK K
      try simp only[ap]
      refine hrd 13 (fun K hK=>?_);go_simp;have hne9:¬g6=w5.heap.size:=(by omega)
      go_wp2_with fail
      refine hK.out _ _ ((HM4.out.below bch).box2) (fun hHeld=>?_);clear hK K
      try simp only[ap]
      refine hdn ?_ _
      go_wp2_with fail
      go_meet
      exact⟨w5.heap.size,g6,q6,rfl,(by omega),(by omega),hne9,(by rw[HXE.out];exact HQ6),lHd (by rw[HXE.out];repeat (first|with_reducible exact HA6.out|(with_reducible refine IArr.far ?_ ?_ _;rotate_left;(first|omega|(simp<;>omega)))|(with_reducible refine IArr.alloc_ ?_ _))),bch,(by simp[Cls,go_sem,Fv6])⟩
   case bo21x12=>
    go_simp;have hSS:(w4.alloc (.cells #[.slice none 0 0,.int .i64 0] 68)).cell? ⟨Lb,2,none⟩=some (.int .i64 den):=(HM4.out.below bch).box2
    go_wp2_with fail
    refine hK.out _ _ hSS (fun hHeld=>?_);clear hK K
    try simp only[ap]
    refine hrd 6 (fun K hK=>?bo27x6)
    case bo27x6=>
     go_simp;go_at_call 105;refine(zYa _ base ⟨Lb,LgR,LcR,Lblk,LAB,LcB⟩ m N n s4.bs s4.T den (n+m+1) _ (by omega) 1 (HM4.out.below bch) hi1 (.inl rfl) HTB.out HIJ.out hm6 (by omega)).mono ?_;rintro e w5 ⟨g5,rfl,hg5,hA5,hB5⟩;have E5:=xJ3 w4 hB5 bch;have e5s:=E5.size
     (try simp at hg5)
     have HA5:=lHd hA5;have hl5:=HA5.out.lt;have CV5:=Cls.below (l:=[(w4.heap.size,0,.slice none 0 0),(w4.heap.size,1,.int .i64 0)]) hB5 (by simp[Cls,go_sem]);have Fv5:=CV5.f;have yv5w40:=CV5.b 0;have hSS:w5.cell? ⟨Lb,2,none⟩=some (.int .i64 den):=(HM4.out.below bch).box2
     go_wp2_with fail
     refine hK.out _ _ hSS (fun hHeld=>?_);clear hK K
     try simp only[ap]
     refine hrd 11 (fun K hK=>?bo28x11)
     case bo28x11=>
      go_simp;go_at_call 103;refine(xQh _ (some ⟨g5,0,none⟩) n n (xJd n fun j=>1*xWp s4.bs s4.T (n+m+1) m j) den HXL.out (HA5.out.ints.below bch) (by omega) HXB.out hden (by omega)).mono ?_;rintro e w6 ⟨g6,q6,rfl,HQ6,hg6,HA6,hB6⟩;have E6:=xJ3 w4 hB6 bch;have e6s:=E6.size
      (try simp at hg6)
      have hl6:=HA6.out.lt;have CV6:=Cls.below (l:=[(w4.heap.size,0,.slice none 0 0),(w4.heap.size,1,.int .i64 0)]) hB6 (by simp[Cls,go_sem,Fv5]);have Fv6:=CV6.f;have yv6w40:=CV6.b 0;have hSS:w6.cell? ⟨Lb,2,none⟩=some (.int .i64 den):=(HM4.out.below bch).box2
      go_wp2_with fail
      refine hK.out _ _ hSS (fun hHeld=>?_);clear hK K
      try simp only[ap]
      refine hrd 13 (fun K hK=>?_);go_simp;have hne9:¬g6=w4.heap.size:=(by omega)
      go_wp2_with fail
      refine hK.out _ _ ((HM4.out.below bch).box2) (fun hHeld=>?_);clear hK K
      try simp only[ap]
      refine hdn ?_ _
      go_wp2_with fail
      go_meet
      exact⟨w4.heap.size,g6,q6,rfl,(by omega),(by omega),hne9,(by rw[HXE.out];exact HQ6),lHd (by rw[HXE.out];repeat (first|with_reducible exact HA6.out|(with_reducible refine IArr.far ?_ ?_ _;rotate_left;(first|omega|(simp<;>omega)))|(with_reducible refine IArr.alloc_ ?_ _))),bch,(by simp[Cls,go_sem,Fv6])⟩
  case rest=>
   obtain⟨w5,rfl⟩:∃wo:World,wo=wc:=⟨_,rfl⟩;obtain⟨gv,gx,q,rfl,hgv,hgx,hgne,HQ,HX5,hB5,CV5⟩:=hcut;have D5:=D4.trans (hB5.mono d4s);have d5s:=D5.size;have e5s:=hB5.size;have C5:=Cls.below (w:=w4) hB5 C4;have y5w2:=C5.blk (b:=w.heap.size+1+1) (k:=0) (v:=.int .i64 0) (by simp);have y5w10:=C5.blk (b:=w1.heap.size) (k:=0) (v:=.int .i64 0) (by simp);have HM5:=lHd (HM4.out.below hB5);have hM50:=HM5.out.box0;have hM52:=HM5.out.box2;dsimp only at hM50 hM52;rcases HC4.out with⟨hb',hopt⟩|⟨c,hb',hent,hle⟩
   ·subst hb';have HOP:=lHd hopt;have HSO:=lHd (yKn HPI.out HO4.out HN4.out HOP.out);obtain⟨v,hv⟩:∃v,Hid (s4.T m (n+m+1)=v):=⟨_,lHd rfl⟩;have HVE:Hid (s4.T P.m P.last=v):=lHd (by rw[HPm.out,HPl.out];exact hv.out);have hvb:=HO4.out.goal_last HPI.out;rw[HVE.out] at hvb;obtain⟨hvb1,hvb2⟩:=hvb;have HRC:=lHd (show rc v den=0/\ri v den=0 by have h:=HSO.out;rw[HVE.out,hde.out] at h;exact⟨h.1,h.2.1⟩);have hM5o:=HM5.out.out m (by omega);have hM5c:=(HM5.out.cell (i:=m) (j:=n+m+1) (by omega) hi1).1;rw[hv.out] at hM5c;dsimp only at hM5o hM5c;have hm3:(m:Int)<(m:Int)+2:=by omega
    have hm5:(n:Int)+(m:Int)+1<(N:Int):=by omega
    have hto:((n:Int)+(m:Int)+1).toNat=n+m+1:=by omega
    clear hopt
    go_wp2_with fail
    go_upto_region 15 with fail
    go_cut [11,12] (fun x y wx=>∃(ga gb:Nat) (a d:Int),x=.pointer (some ⟨ga,0,none⟩)/\y=.pointer (some ⟨gb,0,none⟩)/\w5.heap.size<=ga/\w5.heap.size<=gb/\ga≠gb/\Hid (a=rn v den/\d=rd v den)/\Below w5.heap.size w5 wx/\Cls wx [(ga,0,.int .i64 a),(ga,1,.int .i64 d),(gb,0,.int .i64 0),(gb,1,.int .i64 0)])
    case first=>
     refine wp_region_held_drew (S:=fun W=>W.cell? ⟨Lb,0,none⟩=some (.slice (some ⟨LgR,0,none⟩) (m+2) LcR)/\W.cell? ⟨Lb,2,none⟩=some (.int .i64 den)/\W.cell? ⟨LgR,m,none⟩=some (.slice (some ⟨Lblk m,0,none⟩) N N)/\W.cell? ⟨Lblk m,n+m+1,none⟩=some (.int .i64 v)) (by kernel_rfl) (by exact⟨hM50,hM52,hM5o,hM5c⟩) (fun hHeld=>?_);refine tkH 0 ?_;refine tkH 1 ?_;refine tkH 2 ?_;refine tkH 3 ?_;refine tkH 4 ?_;refine tkH 5 ?_;refine tkH 6 ?_;refine tkH 7 ?_;refine tkH 8 ?_;refine tkH 9 ?_;refine tkH 10 ?_;refine tkH 11 ?_;refine tkH 12 ?_;refine tkH 13 ?_;refine tkH 14 ?_;refine tkH 15 ?_;refine tkH 16 ?_;refine wpAnyH_ready (rs:=[17,21,22]) (by kernel_rfl) (by simp) ?_;refine(AllReadyH.cons rfl (fun K hK=>?bo31x17) (AllReadyH.cons rfl (fun K hK=>?bo31x21) (AllReadyH.cons rfl (fun K hK=>?bo31x22) AllReadyH.nil)))
     case bo31x17=>
      go_simp;go_at_call 106;refine(xW1 _ v den (by omega) (by omega) (by omega) (by omega) (by omega) HRC.out.1 HRC.out.2).mono ?_;rintro e w6 ⟨a6,d6,rfl,HA6,hB6⟩;have E6:=xJ3 w5 hB6 bch;have e6s:=E6.size;have hSS:w6.cell? ⟨Lb,0,none⟩=some (.slice (some ⟨LgR,0,none⟩) (m+2) LcR)/\w6.cell? ⟨Lb,2,none⟩=some (.int .i64 den)/\w6.cell? ⟨LgR,m,none⟩=some (.slice (some ⟨Lblk m,0,none⟩) N N)/\w6.cell? ⟨Lblk m,n+m+1,none⟩=some (.int .i64 v):=⟨(HM5.out.below bch).box0,(HM5.out.below bch).box2,(HM5.out.below bch).out m (by omega),(HM5.out.below bch).cellv (by omega) hi1 hv⟩
      go_wp2_with fail
      refine hK.out _ _ hSS (fun hHeld=>?_);clear hK K
      try simp only[ap]
      refine tkH 18 ?_;refine tkH 19 ?_;refine tkH 20 ?_;refine wpAnyH_ready (rs:=[21,22]) (by kernel_rfl) (by simp) ?_;refine(AllReadyH.cons rfl (fun K hK=>?bo35x21) (AllReadyH.cons rfl (fun K hK=>?bo35x22) AllReadyH.nil))
      case bo35x21=>
       go_simp;have hSS:(w6.alloc (.cells #[.int .i64 0,.int .i64 0] 38)).cell? ⟨Lb,0,none⟩=some (.slice (some ⟨LgR,0,none⟩) (m+2) LcR)/\(w6.alloc (.cells #[.int .i64 0,.int .i64 0] 38)).cell? ⟨Lb,2,none⟩=some (.int .i64 den)/\(w6.alloc (.cells #[.int .i64 0,.int .i64 0] 38)).cell? ⟨LgR,m,none⟩=some (.slice (some ⟨Lblk m,0,none⟩) N N)/\(w6.alloc (.cells #[.int .i64 0,.int .i64 0] 38)).cell? ⟨Lblk m,n+m+1,none⟩=some (.int .i64 v):=⟨(HM5.out.below bch).box0,(HM5.out.below bch).box2,(HM5.out.below bch).out m (by omega),(HM5.out.below bch).cellv (by omega) hi1 hv⟩
       go_wp2_with fail
       refine hK.out _ _ hSS (fun hHeld=>?_);clear hK K
       try simp only[ap]
       refine hrd 22 (fun K hK=>?bo36x22)
       case bo36x22=>
        go_simp;have hSS:((w6.alloc (.cells #[.int .i64 0,.int .i64 0] 38)).alloc (.cells #[.int .i64 0,.int .i64 0] 28)).cell? ⟨Lb,0,none⟩=some (.slice (some ⟨LgR,0,none⟩) (m+2) LcR)/\((w6.alloc (.cells #[.int .i64 0,.int .i64 0] 38)).alloc (.cells #[.int .i64 0,.int .i64 0] 28)).cell? ⟨Lb,2,none⟩=some (.int .i64 den)/\((w6.alloc (.cells #[.int .i64 0,.int .i64 0] 38)).alloc (.cells #[.int .i64 0,.int .i64 0] 28)).cell? ⟨LgR,m,none⟩=some (.slice (some ⟨Lblk m,0,none⟩) N N)/\((w6.alloc (.cells #[.int .i64 0,.int .i64 0] 38)).alloc (.cells #[.int .i64 0,.int .i64 0] 28)).cell? ⟨Lblk m,n+m+1,none⟩=some (.int .i64 v):=⟨(HM5.out.below bch).box0,(HM5.out.below bch).box2,(HM5.out.below bch).out m (by omega),(HM5.out.below bch).cellv (by omega) hi1 hv⟩
        go_wp2_with fail
        refine hK.out _ _ hSS (fun hHeld=>?_);clear hK K
        try simp only[ap]
        refine hrd 23 (fun K hK=>?_);go_simp;have hne15:¬w6.heap.size=w6.heap.size+1:=(by omega)
        go_wp2_with fail
        refine hK.out _ _ ⟨(HM5.out.below bch).box0,(HM5.out.below bch).box2,(HM5.out.below bch).out m (by omega),(HM5.out.below bch).cellv (by omega) hi1 hv⟩ (fun hHeld=>?_);clear hK K
        try simp only[ap]
        refine hrd 24 (fun K hK=>?_);go_simp
        go_wp2_with fail
        refine hK.out _ _ ⟨(HM5.out.below bch).box0,(HM5.out.below bch).box2,(HM5.out.below bch).out m (by omega),(HM5.out.below bch).cellv (by omega) hi1 hv⟩ (fun hHeld=>?_);clear hK K
        try simp only[ap]
        refine hdn ?_ _
        go_wp2_with fail
        go_meet
        exact⟨w6.heap.size,w6.heap.size+1,a6,d6,rfl,rfl,(by omega),(by omega),hne15,HA6,bch,(by simp[Cls,go_sem])⟩
      case bo35x22=>
       go_simp;have hSS:(w6.alloc (.cells #[.int .i64 0,.int .i64 0] 28)).cell? ⟨Lb,0,none⟩=some (.slice (some ⟨LgR,0,none⟩) (m+2) LcR)/\(w6.alloc (.cells #[.int .i64 0,.int .i64 0] 28)).cell? ⟨Lb,2,none⟩=some (.int .i64 den)/\(w6.alloc (.cells #[.int .i64 0,.int .i64 0] 28)).cell? ⟨LgR,m,none⟩=some (.slice (some ⟨Lblk m,0,none⟩) N N)/\(w6.alloc (.cells #[.int .i64 0,.int .i64 0] 28)).cell? ⟨Lblk m,n+m+1,none⟩=some (.int .i64 v):=⟨(HM5.out.below bch).box0,(HM5.out.below bch).box2,(HM5.out.below bch).out m (by omega),(HM5.out.below bch).cellv (by omega) hi1 hv⟩
       go_wp2_with fail
       refine hK.out _ _ hSS (fun hHeld=>?_);clear hK K
       try simp only[ap]
       refine hrd 21 (fun K hK=>?bo39x21)
       case bo39x21=>
        go_simp;have hSS:((w6.alloc (.cells #[.int .i64 0,.int .i64 0] 28)).alloc (.cells #[.int .i64 0,.int .i64 0] 38)).cell? ⟨Lb,0,none⟩=some (.slice (some ⟨LgR,0,none⟩) (m+2) LcR)/\((w6.alloc (.cells #[.int .i64 0,.int .i64 0] 28)).alloc (.cells #[.int .i64 0,.int .i64 0] 38)).cell? ⟨Lb,2,none⟩=some (.int .i64 den)/\((w6.alloc (.cells #[.int .i64 0,.int .i64 0] 28)).alloc (.cells #[.int .i64 0,.int .i64 0] 38)).cell? ⟨LgR,m,none⟩=some (.slice (some ⟨Lblk m,0,none⟩) N N)/\((w6.alloc (.cells #[.int .i64 0,.int .i64 0] 28)).alloc (.cells #[.int .i64 0,.int .i64 0] 38)).cell? ⟨Lblk m,n+m+1,none⟩=some (.int .i64 v):=⟨(HM5.out.below bch).box0,(HM5.out.below bch).box2,(HM5.out.below bch).out m (by omega),(HM5.out.below bch).cellv (by omega) hi1 hv⟩
        go_wp2_with fail
        refine hK.out _ _ hSS (fun hHeld=>?_);clear hK K
        try simp only[ap]
        refine hrd 23 (fun K hK=>?_);go_simp;have hne15:¬w6.heap.size+1=w6.heap.size:=(by omega)
        go_wp2_with fail
        refine hK.out _ _ ⟨(HM5.out.below bch).box0,(HM5.out.below bch).box2,(HM5.out.below bch).out m (by omega),(HM5.out.below bch).cellv (by omega) hi1 hv⟩ (fun hHeld=>?_);clear hK K
        try simp only[ap]
        refine hrd 24 (fun K hK=>?_);go_simp
        go_wp2_with fail
        refine hK.out _ _ ⟨(HM5.out.below bch).box0,(HM5.out.below bch).box2,(HM5.out.below bch).out m (by omega),(HM5.out.below bch).cellv (by omega) hi1 hv⟩ (fun hHeld=>?_);clear hK K
        try simp only[ap]
        refine hdn ?_ _
        go_wp2_with fail
        go_meet
        exact⟨w6.heap.size+1,w6.heap.size,a6,d6,rfl,rfl,(by omega),(by omega),hne15,HA6,bch,(by simp[Cls,go_sem])⟩
     case bo31x21=>
      go_simp;have hSS:(w5.alloc (.cells #[.int .i64 0,.int .i64 0] 38)).cell? ⟨Lb,0,none⟩=some (.slice (some ⟨LgR,0,none⟩) (m+2) LcR)/\(w5.alloc (.cells #[.int .i64 0,.int .i64 0] 38)).cell? ⟨Lb,2,none⟩=some (.int .i64 den)/\(w5.alloc (.cells #[.int .i64 0,.int .i64 0] 38)).cell? ⟨LgR,m,none⟩=some (.slice (some ⟨Lblk m,0,none⟩) N N)/\(w5.alloc (.cells #[.int .i64 0,.int .i64 0] 38)).cell? ⟨Lblk m,n+m+1,none⟩=some (.int .i64 v):=⟨(HM5.out.below bch).box0,(HM5.out.below bch).box2,(HM5.out.below bch).out m (by omega),(HM5.out.below bch).cellv (by omega) hi1 hv⟩
      go_wp2_with fail
      refine hK.out _ _ hSS (fun hHeld=>?_);clear hK K
      try simp only[ap]
      refine wpAnyH_ready (rs:=[17,22]) (by kernel_rfl) (by simp) ?_;refine(AllReadyH.cons rfl (fun K hK=>?bo312x17) (AllReadyH.cons rfl (fun K hK=>?bo312x22) AllReadyH.nil))
      case bo312x17=>
       go_simp;go_at_call 106;refine(xW1 _ v den (by omega) (by omega) (by omega) (by omega) (by omega) HRC.out.1 HRC.out.2).mono ?_;rintro e w6 ⟨a6,d6,rfl,HA6,hB6⟩;have E6:=xJ3 w5 hB6 bch;have e6s:=E6.size;have CV6:=Cls.below (l:=[(w5.heap.size,0,.int .i64 0),(w5.heap.size,1,.int .i64 0)]) hB6 (by simp[Cls,go_sem]);have Fv6:=CV6.f;have yv6w50:=CV6.b 0;have hSS:w6.cell? ⟨Lb,0,none⟩=some (.slice (some ⟨LgR,0,none⟩) (m+2) LcR)/\w6.cell? ⟨Lb,2,none⟩=some (.int .i64 den)/\w6.cell? ⟨LgR,m,none⟩=some (.slice (some ⟨Lblk m,0,none⟩) N N)/\w6.cell? ⟨Lblk m,n+m+1,none⟩=some (.int .i64 v):=⟨(HM5.out.below bch).box0,(HM5.out.below bch).box2,(HM5.out.below bch).out m (by omega),(HM5.out.below bch).cellv (by omega) hi1 hv⟩
       go_wp2_with fail
       refine hK.out _ _ hSS (fun hHeld=>?_);clear hK K
       try simp only[ap]
       refine tkH 18 ?_;refine tkH 19 ?_;refine tkH 20 ?_;refine hrd 22 (fun K hK=>?bo316x22)
       case bo316x22=>
        go_simp;have hSS:(w6.alloc (.cells #[.int .i64 0,.int .i64 0] 28)).cell? ⟨Lb,0,none⟩=some (.slice (some ⟨LgR,0,none⟩) (m+2) LcR)/\(w6.alloc (.cells #[.int .i64 0,.int .i64 0] 28)).cell? ⟨Lb,2,none⟩=some (.int .i64 den)/\(w6.alloc (.cells #[.int .i64 0,.int .i64 0] 28)).cell? ⟨LgR,m,none⟩=some (.slice (some ⟨Lblk m,0,none⟩) N N)/\(w6.alloc (.cells #[.int .i64 0,.int .i64 0] 28)).cell? ⟨Lblk m,n+m+1,none⟩=some (.int .i64 v):=⟨(HM5.out.below bch).box0,(HM5.out.below bch).box2,(HM5.out.below bch).out m (by omega),(HM5.out.below bch).cellv (by omega) hi1 hv⟩
        go_wp2_with fail
        refine hK.out _ _ hSS (fun hHeld=>?_);clear hK K
        try simp only[ap]
        refine hrd 23 (fun K hK=>?_);go_simp;have hne15:¬w5.heap.size=w6.heap.size:=(by omega)
        go_wp2_with fail
        refine hK.out _ _ ⟨(HM5.out.below bch).box0,(HM5.out.below bch).box2,(HM5.out.below bch).out m (by omega),(HM5.out.below bch).cellv (by omega) hi1 hv⟩ (fun hHeld=>?_);clear hK K
        try simp only[ap]
        refine hrd 24 (fun K hK=>?_);go_simp
        go_wp2_with fail
        refine hK.out _ _ ⟨(HM5.out.below bch).box0,(HM5.out.below bch).box2,(HM5.out.below bch).out m (by omega),(HM5.out.below bch).cellv (by omega) hi1 hv⟩ (fun hHeld=>?_);clear hK K
        try simp only[ap]
        refine hdn ?_ _
        go_wp2_with fail
        go_meet
        exact⟨w5.heap.size,w6.heap.size,a6,d6,rfl,rfl,(by omega),(by omega),hne15,HA6,bch,(by simp[Cls,go_sem,Fv6,yv6w50])⟩
      case bo312x22=>
       go_simp;have hSS:((w5.alloc (.cells #[.int .i64 0,.int .i64 0] 38)).alloc (.cells #[.int .i64 0,.int .i64 0] 28)).cell? ⟨Lb,0,none⟩=some (.slice (some ⟨LgR,0,none⟩) (m+2) LcR)/\((w5.alloc (.cells #[.int .i64 0,.int .i64 0] 38)).alloc (.cells #[.int .i64 0,.int .i64 0] 28)).cell? ⟨Lb,2,none⟩=some (.int .i64 den)/\((w5.alloc (.cells #[.int .i64 0,.int .i64 0] 38)).alloc (.cells #[.int .i64 0,.int .i64 0] 28)).cell? ⟨LgR,m,none⟩=some (.slice (some ⟨Lblk m,0,none⟩) N N)/\((w5.alloc (.cells #[.int .i64 0,.int .i64 0] 38)).alloc (.cells #[.int .i64 0,.int .i64 0] 28)).cell? ⟨Lblk m,n+m+1,none⟩=some (.int .i64 v):=⟨(HM5.out.below bch).box0,(HM5.out.below bch).box2,(HM5.out.below bch).out m (by omega),(HM5.out.below bch).cellv (by omega) hi1 hv⟩
       go_wp2_with fail
       refine hK.out _ _ hSS (fun hHeld=>?_);clear hK K
       try simp only[ap]
       refine hrd 17 (fun K hK=>?bo319x17)
       case bo319x17=>
        go_simp;go_at_call 106;refine(xW1 _ v den (by omega) (by omega) (by omega) (by omega) (by omega) HRC.out.1 HRC.out.2).mono ?_;rintro e w6 ⟨a6,d6,rfl,HA6,hB6⟩;have E6:=xJ3 w5 hB6 bch;have e6s:=E6.size;have CV6:=Cls.below (l:=[(w5.heap.size,0,.int .i64 0),(w5.heap.size,1,.int .i64 0),(w5.heap.size+1,0,.int .i64 0),(w5.heap.size+1,1,.int .i64 0)]) hB6 (by simp[Cls,go_sem]);have Fv6:=CV6.f;have yv6w51:=CV6.b 2;have yv6w50:w5.heap.size<w6.heap.size:=(by omega);have hSS:w6.cell? ⟨Lb,0,none⟩=some (.slice (some ⟨LgR,0,none⟩) (m+2) LcR)/\w6.cell? ⟨Lb,2,none⟩=some (.int .i64 den)/\w6.cell? ⟨LgR,m,none⟩=some (.slice (some ⟨Lblk m,0,none⟩) N N)/\w6.cell? ⟨Lblk m,n+m+1,none⟩=some (.int .i64 v):=⟨(HM5.out.below bch).box0,(HM5.out.below bch).box2,(HM5.out.below bch).out m (by omega),(HM5.out.below bch).cellv (by omega) hi1 hv⟩
        go_wp2_with fail
        refine hK.out _ _ hSS (fun hHeld=>?_);clear hK K
        try simp only[ap]
        refine tkH 18 ?_;refine tkH 19 ?_;refine tkH 20 ?_;refine hrd 23 (fun K hK=>?_);go_simp;have hne15:¬w5.heap.size=w5.heap.size+1:=(by omega)
        go_wp2_with fail
        refine hK.out _ _ ⟨(HM5.out.below bch).box0,(HM5.out.below bch).box2,(HM5.out.below bch).out m (by omega),(HM5.out.below bch).cellv (by omega) hi1 hv⟩ (fun hHeld=>?_);clear hK K
        try simp only[ap]
        refine hrd 24 (fun K hK=>?_);go_simp
        go_wp2_with fail
        refine hK.out _ _ ⟨(HM5.out.below bch).box0,(HM5.out.below bch).box2,(HM5.out.below bch).out m (by omega),(HM5.out.below bch).cellv (by omega) hi1 hv⟩ (fun hHeld=>?_);clear hK K
        try simp only[ap]
        refine hdn ?_ _
        go_wp2_with fail
        go_meet
        exact⟨w5.heap.size,w5.heap.size+1,a6,d6,rfl,rfl,(by omega),(by omega),hne15,HA6,bch,(by simp[Cls,go_sem,Fv6])⟩
     case bo31x22=>
      go_simp;have hSS:(w5.alloc (.cells #[.int .i64 0,.int .i64 0] 28)).cell? ⟨Lb,0,none⟩=some (.slice (some ⟨LgR,0,none⟩) (m+2) LcR)/\(w5.alloc (.cells #[.int .i64 0,.int .i64 0] 28)).cell? ⟨Lb,2,none⟩=some (.int .i64 den)/\(w5.alloc (.cells #[.int .i64 0,.int .i64 0] 28)).cell? ⟨LgR,m,none⟩=some (.slice (some ⟨Lblk m,0,none⟩) N N)/\(w5.alloc (.cells #[.int .i64 0,.int .i64 0] 28)).cell? ⟨Lblk m,n+m+1,none⟩=some (.int .i64 v):=⟨(HM5.out.below bch).box0,(HM5.out.below bch).box2,(HM5.out.below bch).out m (by omega),(HM5.out.below bch).cellv (by omega) hi1 hv⟩
      go_wp2_with fail
      refine hK.out _ _ hSS (fun hHeld=>?_);clear hK K
      try simp only[ap]
      refine wpAnyH_ready (rs:=[17,21]) (by kernel_rfl) (by simp) ?_;refine(AllReadyH.cons rfl (fun K hK=>?bo325x17) (AllReadyH.cons rfl (fun K hK=>?bo325x21) AllReadyH.nil))
      case bo325x17=>
       go_simp;go_at_call 106;refine(xW1 _ v den (by omega) (by omega) (by omega) (by omega) (by omega) HRC.out.1 HRC.out.2).mono ?_;rintro e w6 ⟨a6,d6,rfl,HA6,hB6⟩;have E6:=xJ3 w5 hB6 bch;have e6s:=E6.size;have CV6:=Cls.below (l:=[(w5.heap.size,0,.int .i64 0),(w5.heap.size,1,.int .i64 0)]) hB6 (by simp[Cls,go_sem]);have Fv6:=CV6.f;have yv6w50:=CV6.b 0;have hSS:w6.cell? ⟨Lb,0,none⟩=some (.slice (some ⟨LgR,0,none⟩) (m+2) LcR)/\w6.cell? ⟨Lb,2,none⟩=some (.int .i64 den)/\w6.cell? ⟨LgR,m,none⟩=some (.slice (some ⟨Lblk m,0,none⟩) N N)/\w6.cell? ⟨Lblk m,n+m+1,none⟩=some (.int .i64 v):=⟨(HM5.out.below bch).box0,(HM5.out.below bch).box2,(HM5.out.below bch).out m (by omega),(HM5.out.below bch).cellv (by omega) hi1 hv⟩
       go_wp2_with fail
       refine hK.out _ _ hSS (fun hHeld=>?_);clear hK K
       try simp only[ap]
       refine tkH 18 ?_;refine tkH 19 ?_;refine tkH 20 ?_;refine hrd 21 (fun K hK=>?bo329x21)
       case bo329x21=>
        go_simp;have hSS:(w6.alloc (.cells #[.int .i64 0,.int .i64 0] 38)).cell? ⟨Lb,0,none⟩=some (.slice (some ⟨LgR,0,none⟩) (m+2) LcR)/\(w6.alloc (.cells #[.int .i64 0,.int .i64 0] 38)).cell? ⟨Lb,2,none⟩=some (.int .i64 den)/\(w6.alloc (.cells #[.int .i64 0,.int .i64 0] 38)).cell? ⟨LgR,m,none⟩=some (.slice (some ⟨Lblk m,0,none⟩) N N)/\(w6.alloc (.cells #[.int .i64 0,.int .i64 0] 38)).cell? ⟨Lblk m,n+m+1,none⟩=some (.int .i64 v):=⟨(HM5.out.below bch).box0,(HM5.out.below bch).box2,(HM5.out.below bch).out m (by omega),(HM5.out.below bch).cellv (by omega) hi1 hv⟩
        go_wp2_with fail
        refine hK.out _ _ hSS (fun hHeld=>?_);clear hK K
        try simp only[ap]
        refine hrd 23 (fun K hK=>?_);go_simp;have hne15:¬w6.heap.size=w5.heap.size:=(by omega)
        go_wp2_with fail
        refine hK.out _ _ ⟨(HM5.out.below bch).box0,(HM5.out.below bch).box2,(HM5.out.below bch).out m (by omega),(HM5.out.below bch).cellv (by omega) hi1 hv⟩ (fun hHeld=>?_);clear hK K
        try simp only[ap]
        refine hrd 24 (fun K hK=>?_);go_simp
        go_wp2_with fail
        refine hK.out _ _ ⟨(HM5.out.below bch).box0,(HM5.out.below bch).box2,(HM5.out.below bch).out m (by omega),(HM5.out.below bch).cellv (by omega) hi1 hv⟩ (fun hHeld=>?_);clear hK K
        try simp only[ap]
        refine hdn ?_ _
        go_wp2_with fail
        go_meet
        exact⟨w6.heap.size,w5.heap.size,a6,d6,rfl,rfl,(by omega),(by omega),hne15,HA6,bch,(by simp[Cls,go_sem,Fv6,yv6w50])⟩
      case bo325x21=>
       go_simp;have hSS:((w5.alloc (.cells #[.int .i64 0,.int .i64 0] 28)).alloc (.cells #[.int .i64 0,.int .i64 0] 38)).cell? ⟨Lb,0,none⟩=some (.slice (some ⟨LgR,0,none⟩) (m+2) LcR)/\((w5.alloc (.cells #[.int .i64 0,.int .i64 0] 28)).alloc (.cells #[.int .i64 0,.int .i64 0] 38)).cell? ⟨Lb,2,none⟩=some (.int .i64 den)/\((w5.alloc (.cells #[.int .i64 0,.int .i64 0] 28)).alloc (.cells #[.int .i64 0,.int .i64 0] 38)).cell? ⟨LgR,m,none⟩=some (.slice (some ⟨Lblk m,0,none⟩) N N)/\((w5.alloc (.cells #[.int .i64 0,.int .i64 0] 28)).alloc (.cells #[.int .i64 0,.int .i64 0] 38)).cell? ⟨Lblk m,n+m+1,none⟩=some (.int .i64 v):=⟨(HM5.out.below bch).box0,(HM5.out.below bch).box2,(HM5.out.below bch).out m (by omega),(HM5.out.below bch).cellv (by omega) hi1 hv⟩
       go_wp2_with fail
       refine hK.out _ _ hSS (fun hHeld=>?_);clear hK K
       try simp only[ap]
       refine hrd 17 (fun K hK=>?bo332x17)
       case bo332x17=>
        go_simp;go_at_call 106;refine(xW1 _ v den (by omega) (by omega) (by omega) (by omega) (by omega) HRC.out.1 HRC.out.2).mono ?_;rintro e w6 ⟨a6,d6,rfl,HA6,hB6⟩;have E6:=xJ3 w5 hB6 bch;have e6s:=E6.size;have CV6:=Cls.below (l:=[(w5.heap.size,0,.int .i64 0),(w5.heap.size,1,.int .i64 0),(w5.heap.size+1,0,.int .i64 0),(w5.heap.size+1,1,.int .i64 0)]) hB6 (by simp[Cls,go_sem]);have Fv6:=CV6.f;have yv6w51:=CV6.b 2;have yv6w50:w5.heap.size<w6.heap.size:=(by omega);have hSS:w6.cell? ⟨Lb,0,none⟩=some (.slice (some ⟨LgR,0,none⟩) (m+2) LcR)/\w6.cell? ⟨Lb,2,none⟩=some (.int .i64 den)/\w6.cell? ⟨LgR,m,none⟩=some (.slice (some ⟨Lblk m,0,none⟩) N N)/\w6.cell? ⟨Lblk m,n+m+1,none⟩=some (.int .i64 v):=⟨(HM5.out.below bch).box0,(HM5.out.below bch).box2,(HM5.out.below bch).out m (by omega),(HM5.out.below bch).cellv (by omega) hi1 hv⟩
        go_wp2_with fail
        refine hK.out _ _ hSS (fun hHeld=>?_);clear hK K
        try simp only[ap]
        refine tkH 18 ?_;refine tkH 19 ?_;refine tkH 20 ?_;refine hrd 23 (fun K hK=>?_);go_simp;have hne15:¬w5.heap.size+1=w5.heap.size:=(by omega)
        go_wp2_with fail
        refine hK.out _ _ ⟨(HM5.out.below bch).box0,(HM5.out.below bch).box2,(HM5.out.below bch).out m (by omega),(HM5.out.below bch).cellv (by omega) hi1 hv⟩ (fun hHeld=>?_);clear hK K
        try simp only[ap]
        refine hrd 24 (fun K hK=>?_);go_simp
        go_wp2_with fail
        refine hK.out _ _ ⟨(HM5.out.below bch).box0,(HM5.out.below bch).box2,(HM5.out.below bch).out m (by omega),(HM5.out.below bch).cellv (by omega) hi1 hv⟩ (fun hHeld=>?_);clear hK K
        try simp only[ap]
        refine hdn ?_ _
        go_wp2_with fail
        go_meet
        exact⟨w5.heap.size+1,w5.heap.size,a6,d6,rfl,rfl,(by omega),(by omega),hne15,HA6,bch,(by simp[Cls,go_sem,Fv6])⟩
    case rest=>
     obtain⟨w6,rfl⟩:∃wo:World,wo=wc:=⟨_,rfl⟩;obtain⟨ga,gb,a,d,rfl,rfl,hga,hgb,hgab,HAD,hB6,CF6⟩:=hcut;have D6:=D5.trans (hB6.mono d5s);have d6s:=D6.size;have e6s:=hB6.size;have C6:=Cls.below (w:=w5) hB6 C5;have F6:=C6.f;have y6w2:=C6.blk (b:=w.heap.size+1+1) (k:=0) (v:=.int .i64 0) (by simp);have y6w10:=C6.blk (b:=w1.heap.size) (k:=0) (v:=.int .i64 0) (by simp);have HM6:=lHd (HM5.out.below hB6);have hM60:=HM6.out.box0;have hM62:=HM6.out.box2;dsimp only at hM60 hM62;have hM6o:=HM6.out.out m (by omega);dsimp only at hM6o;have CV6:=Cls.below (w:=w5) hB6 CV5;have HX6:=lHd (HX5.out.below hB6);have FV6:=CV6.f;have FF6:=CF6.f;obtain⟨A',hA',hcut2⟩:=vZ1 (Lblk m) N n m (by omega) (by omega);have hrun:=hcut2 (n:Int) ((n:Int)+(m:Int)) rfl rfl;have HA':=lHd hA';have HYL:Hid ((xJd m fun k=>s4.T m (n+k)).length=m):=lHd (xJj _ _);have HYE:Hid (zZy P s4 P.m=xJd m fun k=>s4.T m (n+k)):=lHd (by unfold zZy;rw[HPm.out,HPn.out]);have HYB:Hid (∀x∈xJd m (fun k=>s4.T m (n+k)),-1000000000<=x/\x<=1000000000):=lHd (fun x hx=>by rw[<- HYE.out] at hx;have:=vWj HPI.out HO4.out x hx;omega);have HMR:=lHd (HM6.out.row m (by omega));clear hA' hcut2
     go_wp2_with fail
     refine wp_region_held_drew (S:=fun W=>W.cell? ⟨Lb,0,none⟩=some (.slice (some ⟨LgR,0,none⟩) (m+2) LcR)/\W.cell? ⟨Lb,2,none⟩=some (.int .i64 den)/\W.cell? ⟨LgR,m,none⟩=some (.slice (some ⟨Lblk m,0,none⟩) N N)/\W.cell? ⟨ga,0,none⟩=some (.int .i64 a)/\W.cell? ⟨ga,1,none⟩=some (.int .i64 d)/\W.cell? ⟨gv,0,none⟩=some (.slice (some ⟨gx,0,none⟩) n n)/\W.cell? ⟨gv,1,none⟩=some (.int .i64 q)/\W.cell? ⟨gb,0,none⟩=some (.int .i64 0)/\W.cell? ⟨gb,1,none⟩=some (.int .i64 0)) (by kernel_rfl) (by exact⟨hM60,hM62,hM6o,FF6.1.1,FF6.2.1.1,FV6.1.1,FV6.2.1,FF6.2.2.1.1,FF6.2.2.2.1⟩) (fun hHeld=>?_);refine tkH 0 ?_;refine tkH 1 ?_;refine tkH 2 ?_;refine tkH 3 ?_;refine tkH 4 ?_;refine tkH 5 ?_;refine tkH 6 ?_;refine tkH 7 ?_;refine tkH 8 ?_;refine tkH 9 ?_;refine tkH 10 ?_;refine tkH 11 ?_;refine tkH 12 ?_;refine tkH 13 ?_;refine tkH 14 ?_;refine tkH 15 ?_;refine tkH 16 ?_;refine tkH 17 ?_;refine tkH 20 ?_;refine hrd 18 (fun K hK=>?bo41x18)
     case bo41x18=>
      go_simp;go_at_call 103;refine(xQh _ A' (N-n) m (xJd m fun k=>s4.T m (n+k)) den HYL.out ((HA'.out _ _ HMR.out).below bch) (by omega) HYB.out hden (by omega)).mono ?_;rintro e w7 ⟨g7,q7,rfl,HQ7,hg7,HA7,hB7⟩;have E7:=xJ3 w6 hB7 bch
      (try simp at hg7)
      have CV7:=Cls.below (l:=[(w.heap.size,0,.slice AR m cr),(w.heap.size,1,.slice AB m cb),(w.heap.size,2,.slice AO n co),(w.heap.size+1,0,.int .i64 0),(w.heap.size+1,1,.int .i64 0),(w.heap.size+1,2,.int .i64 0),(w.heap.size+1,3,.slice none 0 0),(w.heap.size+1,4,.int .i64 0),(w.heap.size+1,5,.slice none 0 0),(w.heap.size+1,6,.int .i64 0),(w.heap.size+1,7,.slice none 0 0),(w.heap.size+1,8,.int .i64 0),(w.heap.size+1+1,0,.int .i64 0),(w.heap.size+1+1,1,.int .i64 0),(w1.heap.size,0,.int .i64 0),(w1.heap.size,1,.int .i64 0)]) hB7 (by simp[Cls,go_sem,F6]);have Fv7:=CV7.f;have yv7w2:=CV7.b 12;have yv7w10:=CV7.b 14;have hSS:=And.intro ((yW0 bch (zQ2 _ _ hM60)).trans hM60) (And.intro ((yW0 bch (zQ2 _ _ hM62)).trans hM62) (And.intro ((yW0 bch (zQ2 _ _ hM6o)).trans hM6o) (And.intro ((yW0 bch (zQ2 _ _ FF6.1.1)).trans FF6.1.1) (And.intro ((yW0 bch (zQ2 _ _ FF6.2.1.1)).trans FF6.2.1.1) (And.intro ((yW0 bch (zQ2 _ _ FV6.1.1)).trans FV6.1.1) (And.intro ((yW0 bch (zQ2 _ _ FV6.2.1)).trans FV6.2.1) (And.intro ((yW0 bch (zQ2 _ _ FF6.2.2.1.1)).trans FF6.2.2.1.1) ((yW0 bch (zQ2 _ _ FF6.2.2.2.1)).trans FF6.2.2.2.1))))))))
      go_wp2_with fail
      refine hK.out _ _ hSS (fun hHeld=>?_);clear hK K
      try simp only[ap]
      refine tkH 19 ?_;refine hrd 21 (fun K hK=>?_);go_simp;have hSK:=And.intro ((yW0 bch (zQ2 _ _ hM60)).trans hM60) (And.intro ((yW0 bch (zQ2 _ _ hM62)).trans hM62) (And.intro ((yW0 bch (zQ2 _ _ hM6o)).trans hM6o) (And.intro ((yW0 bch (zQ2 _ _ FF6.1.1)).trans FF6.1.1) (And.intro ((yW0 bch (zQ2 _ _ FF6.2.1.1)).trans FF6.2.1.1) (And.intro ((yW0 bch (zQ2 _ _ FV6.1.1)).trans FV6.1.1) (And.intro ((yW0 bch (zQ2 _ _ FV6.2.1)).trans FV6.2.1) (And.intro ((yW0 bch (zQ2 _ _ FF6.2.2.1.1)).trans FF6.2.2.1.1) ((yW0 bch (zQ2 _ _ FF6.2.2.2.1)).trans FF6.2.2.2.1))))))));obtain⟨hk0,hk1,hk2,hk3,hk4,hk5,hk6,hk7,hk8⟩:=hSK
      go_wp2_with fail
      refine hK.out _ _ (by simp[go_sem,hk0,hk1,hk2,hk3,hk4,hk5,hk6,hk7,hk8]) (fun hHeld=>?_);clear hK K
      try simp only[ap]
      refine hrd 22 (fun K hK=>?_);go_simp
      go_wp2_with fail
      refine hK.out _ _ (by simp[go_sem,hk0,hk1,hk2,hk3,hk4,hk5,hk6,hk7,hk8]) (fun hHeld=>?_);clear hK K
      try simp only[ap]
      refine hdn ?_ _;go_wp2;refine bodyPost_ret (v:=.tuple #[.agg #[.int .i64 1,.int .i64 a,.int .i64 d,.slice (some ⟨gx,0,none⟩) n n,.int .i64 q,.slice (some ⟨g7,0,none⟩) m m,.int .i64 q7,.slice none 0 0,.int .i64 0],.agg #[.int .i64 0,.int .i64 0]]) ?_ rfl (xW2 1 a d q q7 0 (some ⟨gx,0,none⟩) (some ⟨g7,0,none⟩) none (xQv den (zJl P s4)) (xQv den (zZy P s4 P.m)) [] n m 0 ?_ ?_ rfl ?_ ?_ (Ints.nil _ _) ?_ (by repeat (first|with_reducible exact(D6.trans (E7.mono d6s))|with_reducible apply xK3|with_reducible apply xVr|with_reducible apply xVs|((with_reducible refine yYs ?_ ?_ _);rotate_left;(first|omega|(simp<;>omega))))))
      ·simp[results,results47,go_sem,Fv7]
      ·rw[xZq,HXE.out,HXL.out]
      ·rw[xZq,HYE.out,HYL.out]
      ·refine IArr.ints ?_;have hx:=HX6.out.below E7
       repeat (first|with_reducible exact hx|(with_reducible refine IArr.far ?_ ?_ _;rotate_left;(first|omega|(simp<;>omega))))
      ·rw[HYE.out];refine IArr.ints ?_
       repeat (first|with_reducible exact HA7.out|(with_reducible refine IArr.far ?_ ?_ _;rotate_left;(first|omega|(simp<;>omega))))
      ·rw[HAD.out.1,HAD.out.2,HQ.out,HQ7.out,<- HYE.out,<- HVE.out,<- hde.out];exact HSO.out.2.2
   ·subst hb';have HEN:=lHd hent;have HLE:=lHd hle;have hcl:c<n+m:=by have h:=HEN.out.1;rw[HPm.out,HPn.out] at h;exact h
    have hcN:c<N:=by omega
    have HTC:Hid (∀i,i<m->-1000000000<=s4.T i c/\s4.T i c<=1000000000):=lHd (fun i hi=>by
     have h:=HO4.out.le_col HPI.out (i:=i) (j:=c) (by rw[HPm.out];exact hi) (by rw[HPm.out,HPn.out];omega);omega)
    have hc0:(0:Int)<=(c:Int):=by omega
    clear hent hle
    go_wp2_with fail
    refine(zYa _ base ⟨Lb,LgR,LcR,Lblk,LAB,LcB⟩ m N n s4.bs s4.T den c _ rfl (-1) (HM5.out.below bch) hcN (.inr rfl) HTC.out HIJ.out hm6 (by omega)).mono ?_;rintro e w6 ⟨g6,rfl,hg6,hA6,hB6⟩
    (try simp at hg6)
    have hB6:=(bch:Below w5.heap.size w5 _).trans (hB6.mono (by(try simp)));have HR6:=lHd hA6;have hl6:=hA6.lt;have D6:=D5.trans (hB6.mono d5s);have d6s:=D6.size;have e6s:=hB6.size;have C6:=Cls.below (w:=w5) hB6 C5;have F6:=C6.f;have y6w2:=C6.blk (b:=w.heap.size+1+1) (k:=0) (v:=.int .i64 0) (by simp);have y6w10:=C6.blk (b:=w1.heap.size) (k:=0) (v:=.int .i64 0) (by simp);have HM6:=lHd (HM5.out.below hB6);have hM60:=HM6.out.box0;have hM62:=HM6.out.box2;dsimp only at hM60 hM62;have CV6:=Cls.below (w:=w5) hB6 CV5;have HX6:=lHd (HX5.out.below hB6);have FV6:=CV6.f;have HRE:Hid (vK1 P s4 c=xJd n fun j=>if j=c then den else -1*xWp s4.bs s4.T c m j):=lHd (by unfold vK1;rw[HPm.out,HPn.out,hde.out]);have HRL:Hid ((xJd n fun j=>if j=c then den else -1*xWp s4.bs s4.T c m j).length=n):=lHd (xJj _ _);have HRB:Hid (∀x∈xJd n (fun j=>if j=c then den else -1*xWp s4.bs s4.T c m j),-1000000000<=x/\x<=1000000000):=lHd (fun x hx=>by rw[<- HRE.out] at hx;have:=vWi HPI.out HO4.out (c:=c) (by rw[HPm.out,HPn.out];omega) x hx;omega);have HSO:=lHd (yKk HPI.out HO4.out HN4.out HEN.out.1 HEN.out.2.1 HLE.out);clear hA6
    by_cases hcn:c<n
    ·have hcd:decide ((c:Int)<(n:Int))=true:=zWo (by omega);obtain⟨z,_,hzc,hzf⟩:=HR6.out.cell (i:=c) (by rw[xJj];exact hcn);have hB7:Below w5.heap.size w5 (w6.setCell ⟨g6,c,none⟩ (.int .i64 den)):=bch;have hC7:=Cls.below (w:=w5) hB7 C5;have hV7:=Cls.below (w:=w5) hB7 CV5;have HX7:=lHd (HX5.out.below hB7);have HR7':Hid (IArr (w6.setCell ⟨g6,c,none⟩ (.int .i64 den)) g6 (xJd n fun j=>if j=c then den else -1*xWp s4.bs s4.T c m j)):=lHd (by
      have h:=HR6.out.set_ c den;rw[xXy] at h;exact h)
     go_wp2_with fail
     go_upto_region 14 with fail
     obtain⟨w7,hw7⟩:∃x,x=(w6.setCell ⟨g6,c,none⟩ (.int .i64 den)):=⟨_,rfl⟩;rw[<- hw7] at hB7 hC7 hV7 HX7 HR7' ⊢;clear hw7 hzc hzf;have D7:=D5.trans (hB7.mono d5s);have d7s:=D7.size;have C7:=hC7;have FV7:=hV7.f;have hM72:=(HM5.out.below hB7).box2;dsimp only at hM72;have F7:=C7.f;have y7w2:=C7.blk (b:=w.heap.size+1+1) (k:=0) (v:=.int .i64 0) (by simp);have y7w10:=C7.blk (b:=w1.heap.size) (k:=0) (v:=.int .i64 0) (by simp);refine wp_region_held_drew (S:=fun W=>W.cell? ⟨Lb,2,none⟩=some (.int .i64 den)/\W.cell? ⟨gv,0,none⟩=some (.slice (some ⟨gx,0,none⟩) n n)/\W.cell? ⟨gv,1,none⟩=some (.int .i64 q)) (by kernel_rfl) (by exact⟨hM72,FV7.1.1,FV7.2.1⟩) (fun hHeld=>?_);refine tkH 0 ?_;refine tkH 1 ?_;refine tkH 2 ?_;refine tkH 3 ?_;refine tkH 4 ?_;refine tkH 5 ?_;refine tkH 8 ?_;refine hrd 6 (fun K hK=>?bo51x6)
     case bo51x6=>
      go_simp;go_at_call 103;refine(xQh _ (some ⟨g6,0,none⟩) n n (xJd n fun j=>if j=c then den else -1*xWp s4.bs s4.T c m j) den HRL.out ((HR7'.out.ints).below bch) (by omega) HRB.out hden (by omega)).mono ?_;rintro e w8 ⟨g8,q8,rfl,HQ8,hg8,HA8,hB8⟩;have E8:=xJ3 w7 hB8 bch
      (try simp at hg8)
      have CV8:=Cls.below (l:=[(w.heap.size,0,.slice AR m cr),(w.heap.size,1,.slice AB m cb),(w.heap.size,2,.slice AO n co),(w.heap.size+1,0,.int .i64 0),(w.heap.size+1,1,.int .i64 0),(w.heap.size+1,2,.int .i64 0),(w.heap.size+1,3,.slice none 0 0),(w.heap.size+1,4,.int .i64 0),(w.heap.size+1,5,.slice none 0 0),(w.heap.size+1,6,.int .i64 0),(w.heap.size+1,7,.slice none 0 0),(w.heap.size+1,8,.int .i64 0),(w.heap.size+1+1,0,.int .i64 0),(w.heap.size+1+1,1,.int .i64 0),(w1.heap.size,0,.int .i64 0),(w1.heap.size,1,.int .i64 0)]) hB8 (by simp[Cls,go_sem,F7]);have Fv8:=CV8.f;have yv8w2:=CV8.b 12;have yv8w10:=CV8.b 14;have hSS:=And.intro ((yW0 bch (zQ2 _ _ hM72)).trans hM72) (And.intro ((yW0 bch (zQ2 _ _ FV7.1.1)).trans FV7.1.1) ((yW0 bch (zQ2 _ _ FV7.2.1)).trans FV7.2.1))
      go_wp2_with fail
      refine hK.out _ _ hSS (fun hHeld=>?_);clear hK K
      try simp only[ap]
      refine tkH 7 ?_;refine hrd 9 (fun K hK=>?_);go_simp;have hSK:=And.intro ((yW0 bch (zQ2 _ _ hM72)).trans hM72) (And.intro ((yW0 bch (zQ2 _ _ FV7.1.1)).trans FV7.1.1) ((yW0 bch (zQ2 _ _ FV7.2.1)).trans FV7.2.1));obtain⟨hk0,hk1,hk2⟩:=hSK
      go_wp2_with fail
      refine hK.out _ _ (by simp[go_sem,hk0,hk1,hk2]) (fun hHeld=>?_);clear hK K
      try simp only[ap]
      refine hrd 10 (fun K hK=>?_);go_simp
      go_wp2_with fail
      refine hK.out _ _ (by simp[go_sem,hk0,hk1,hk2]) (fun hHeld=>?_);clear hK K
      try simp only[ap]
      refine hdn ?_ _;go_wp2;refine bodyPost_ret (v:=.tuple #[.agg #[.int .i64 3,.int .i64 0,.int .i64 0,.slice (some ⟨gx,0,none⟩) n n,.int .i64 q,.slice none 0 0,.int .i64 0,.slice (some ⟨g8,0,none⟩) n n,.int .i64 q8],.agg #[.int .i64 0,.int .i64 0]]) ?_ rfl (xW2 3 0 0 q 0 q8 (some ⟨gx,0,none⟩) none (some ⟨g8,0,none⟩) (xQv den (zJl P s4)) [] (xQv den (vK1 P s4 c)) n 0 n ?_ rfl ?_ ?_ (Ints.nil _ _) ?_ ?_ (by repeat (first|with_reducible exact(D7.trans (E8.mono d7s))|with_reducible apply xK3|with_reducible apply xVr|with_reducible apply xVs|((with_reducible refine yYs ?_ ?_ _);rotate_left;(first|omega|(simp<;>omega))))))
      ·simp[results,results47,go_sem,Fv8]
      ·rw[xZq,HXE.out,HXL.out]
      ·rw[xZq,HRE.out,HRL.out]
      ·refine IArr.ints ?_;have hx:=HX7.out.below E8
       repeat (first|with_reducible exact hx|(with_reducible refine IArr.far ?_ ?_ _;rotate_left;(first|omega|(simp<;>omega))))
      ·rw[HRE.out];refine IArr.ints ?_
       repeat (first|with_reducible exact HA8.out|(with_reducible refine IArr.far ?_ ?_ _;rotate_left;(first|omega|(simp<;>omega))))
      ·rw[HQ.out,HQ8.out,<- HRE.out,<- hde.out];exact HSO.out
    ·have hcd:decide ((c:Int)<(n:Int))=false:=zVa (by omega);have HR6':Hid (IArr w6 g6 (xJd n fun j=>if j=c then den else -1*xWp s4.bs s4.T c m j)):=lHd (by
      rw[xJc (g:=fun j=>-1*xWp s4.bs s4.T c m j) fun j hj=>if_neg (by omega)];exact HR6.out)
     go_wp2_with fail
     refine wp_region_held_drew (S:=fun W=>W.cell? ⟨Lb,2,none⟩=some (.int .i64 den)/\W.cell? ⟨gv,0,none⟩=some (.slice (some ⟨gx,0,none⟩) n n)/\W.cell? ⟨gv,1,none⟩=some (.int .i64 q)) (by kernel_rfl) (by exact⟨hM62,FV6.1.1,FV6.2.1⟩) (fun hHeld=>?_);refine tkH 0 ?_;refine tkH 1 ?_;refine tkH 2 ?_;refine tkH 3 ?_;refine tkH 4 ?_;refine tkH 5 ?_;refine tkH 8 ?_;refine hrd 6 (fun K hK=>?bo61x6)
     case bo61x6=>
      go_simp;go_at_call 103;refine(xQh _ (some ⟨g6,0,none⟩) n n (xJd n fun j=>if j=c then den else -1*xWp s4.bs s4.T c m j) den HRL.out ((HR6'.out.ints).below bch) (by omega) HRB.out hden (by omega)).mono ?_;rintro e w7 ⟨g7,q7,rfl,HQ7,hg7,HA7,hB7⟩;have E7:=xJ3 w6 hB7 bch
      (try simp at hg7)
      have CV7:=Cls.below (l:=[(w.heap.size,0,.slice AR m cr),(w.heap.size,1,.slice AB m cb),(w.heap.size,2,.slice AO n co),(w.heap.size+1,0,.int .i64 0),(w.heap.size+1,1,.int .i64 0),(w.heap.size+1,2,.int .i64 0),(w.heap.size+1,3,.slice none 0 0),(w.heap.size+1,4,.int .i64 0),(w.heap.size+1,5,.slice none 0 0),(w.heap.size+1,6,.int .i64 0),(w.heap.size+1,7,.slice none 0 0),(w.heap.size+1,8,.int .i64 0),(w.heap.size+1+1,0,.int .i64 0),(w.heap.size+1+1,1,.int .i64 0),(w1.heap.size,0,.int .i64 0),(w1.heap.size,1,.int .i64 0)]) hB7 (by simp[Cls,go_sem,F6]);have Fv7:=CV7.f;have yv7w2:=CV7.b 12;have yv7w10:=CV7.b 14;have hSS:=And.intro ((yW0 bch (zQ2 _ _ hM62)).trans hM62) (And.intro ((yW0 bch (zQ2 _ _ FV6.1.1)).trans FV6.1.1) ((yW0 bch (zQ2 _ _ FV6.2.1)).trans FV6.2.1))
      go_wp2_with fail
      refine hK.out _ _ hSS (fun hHeld=>?_);clear hK K
      try simp only[ap]
      refine tkH 7 ?_;refine hrd 9 (fun K hK=>?_);go_simp;have hSK:=And.intro ((yW0 bch (zQ2 _ _ hM62)).trans hM62) (And.intro ((yW0 bch (zQ2 _ _ FV6.1.1)).trans FV6.1.1) ((yW0 bch (zQ2 _ _ FV6.2.1)).trans FV6.2.1));obtain⟨hk0,hk1,hk2⟩:=hSK
      go_wp2_with fail
      refine hK.out _ _ (by simp[go_sem,hk0,hk1,hk2]) (fun hHeld=>?_);clear hK K
      try simp only[ap]
      refine hrd 10 (fun K hK=>?_);go_simp
      go_wp2_with fail
      refine hK.out _ _ (by simp[go_sem,hk0,hk1,hk2]) (fun hHeld=>?_);clear hK K
      try simp only[ap]
      refine hdn ?_ _;go_wp2;refine bodyPost_ret (v:=.tuple #[.agg #[.int .i64 3,.int .i64 0,.int .i64 0,.slice (some ⟨gx,0,none⟩) n n,.int .i64 q,.slice none 0 0,.int .i64 0,.slice (some ⟨g7,0,none⟩) n n,.int .i64 q7],.agg #[.int .i64 0,.int .i64 0]]) ?_ rfl (xW2 3 0 0 q 0 q7 (some ⟨gx,0,none⟩) none (some ⟨g7,0,none⟩) (xQv den (zJl P s4)) [] (xQv den (vK1 P s4 c)) n 0 n ?_ rfl ?_ ?_ (Ints.nil _ _) ?_ ?_ (by repeat (first|with_reducible exact(D6.trans (E7.mono d6s))|with_reducible apply xK3|with_reducible apply xVr|with_reducible apply xVs|((with_reducible refine yYs ?_ ?_ _);rotate_left;(first|omega|(simp<;>omega))))))
      ·simp[results,results47,go_sem,Fv7]
      ·rw[xZq,HXE.out,HXL.out]
      ·rw[xZq,HRE.out,HRL.out]
      ·refine IArr.ints ?_;have hx:=HX6.out.below E7
       repeat (first|with_reducible exact hx|(with_reducible refine IArr.far ?_ ?_ _;rotate_left;(first|omega|(simp<;>omega))))
      ·rw[HRE.out];refine IArr.ints ?_
       repeat (first|with_reducible exact HA7.out|(with_reducible refine IArr.far ?_ ?_ _;rotate_left;(first|omega|(simp<;>omega))))
      ·rw[HQ.out,HQ7.out,<- HRE.out,<- hde.out];exact HSO.out
def yKq(p:LpV)(w w':World)(e:Ending):Prop:=∃(c c2 st num den dx dy dr:Int) (Ax Ay Ar:Option Addr) (lx ly lr:Nat) (x y r:List Int),
 e=.returned (.tuple #[.agg #[.int .i64 st,.int .i64 num,.int .i64 den,.slice Ax lx lx,.int .i64 dx,.slice Ay ly ly,.int .i64 dy,.slice Ar lr lr,.int .i64 dr],.agg #[.int .i64 c,.int .i64 c2]]) /\
 Hid (lpF p=(c,c2))/\Hid (x.length=lx/\y.length=ly/\r.length=lr)/\Hid (¬c=0->st=0/\num=0/\den=0/\lx=0/\ly=0/\lr=0/\dx=0/\dy=0/\dr=0)/\Hid (c=0->SolOut p.lp st num den x dx y dy r dr) /\
 Hid (Ints w' Ax x/\Ints w' Ay y/\Ints w' Ar r)/\Below w.heap.size w w'
theorem vWp(w:World)(AR AB AO:Option Addr)(cr cb co:Nat)(p:LpV)(hM:LpMem w AR AB AO p)(m mb n:Nat)(hrl:Hid (p.rows.length=m))(hbl:Hid (p.bounds.length=mb))(hol:Hid (p.obj.length=n)) :
  Calls prog 47 #[.agg #[.slice AR m cr,.slice AB mb cb,.slice AO n co]] w fun e w'=>yKq p w w' e:=by
 by_cases h:(lpF p).1=0
 ·have hok:=yQf h;have hmb:mb=m:=by rw[<- hbl.out,<- hrl.out];exact hok.b
  subst hmb;refine(uJ0 w AR AB AO cr cb co p hM hok mb n hrl hbl hol p.lp (lHd rfl)).mono ?_;rintro e w' ⟨st,num,den,dx,dy,dr,Ax,Ay,Ar,x,y,r,rfl,hI,hS,hB⟩;exact⟨0,0,st,num,den,dx,dy,dr,Ax,Ay,Ar,_,_,_,x,y,r,rfl,lHd (vXx hok),lHd ⟨rfl,rfl,rfl⟩,lHd (fun h=>absurd rfl h),lHd (fun _=>hS),lHd hI,hB⟩
 ·have e:=yWz w AR AB AO cr cb co p hM h;rw[hrl.out,hbl.out,hol.out] at e;refine e.mono ?_;rintro e w' ⟨rfl,hB⟩;exact⟨(lpF p).1,(lpF p).2,0,0,0,0,0,0,none,none,none,0,0,0,[],[],[],rfl,lHd rfl,lHd ⟨rfl,rfl,rfl⟩,lHd (fun _=>⟨rfl,rfl,rfl,rfl,rfl,rfl,rfl,rfl,rfl⟩),lHd (fun h2=>absurd h2 h),lHd ⟨Ints.nil _ _,Ints.nil _ _,Ints.nil _ _⟩,hB⟩
