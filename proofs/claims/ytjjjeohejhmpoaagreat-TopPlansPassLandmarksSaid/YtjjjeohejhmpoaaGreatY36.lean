/-
  Lemmas.
-/
import Derived.Test.YtjjjeohejhmpoaaGreatY17
set_option linter.unusedVariables false
set_option linter.unusedSimpArgs false
set_option maxRecDepth 100000
set_option maxHeartbeats 4000000
namespace Go.Proofs.YtjjjeohejhmpoaaGreat
open Go.RowKit Go.Proofs.Tryz
theorem xY2(w:World)  :
  Calls prog 27 #[] w fun e w'=>∃ g h,e=.returned (.agg #[.int .i64 2,.slice none 0 0,.slice (some ⟨g,0,none⟩) 1 1,.slice (some ⟨h,0,none⟩) 2 2])/\TaskMem w' none (some ⟨g,0,none⟩) (some ⟨h,0,none⟩) xJ1/\Below w.heap.size w w':=by
 go_enter func27,ntmps27;go_wp2;refine bodyPost_ret (v:=.agg #[.int .i64 2,.slice none 0 0,.slice (some ⟨w.heap.size+1,0,none⟩) 1 1,.slice (some ⟨w.heap.size+1+1+1+1+1,0,none⟩) 2 2]) ?_ rfl ⟨_,_,rfl,?_,bch⟩
 ·simp[results,results27,go_sem]
 ·refine⟨Ints.nil _ _,zJp ?_,yWh (A0:=none) (c0:=0) (A1:=some ⟨w.heap.size+1+1,0,none⟩) (c1:=1) (A2:=none) (c2:=0) (B0:=some ⟨w.heap.size+1+1+1,0,none⟩) (d0:=1) (B1:=some ⟨w.heap.size+1+1+1+1,0,none⟩) (d1:=1) (B2:=none) (d2:=0) ?_ ?_ ?_ ?_ ⟨Ints.nil _ _,zJp ?_,Ints.nil _ _,by simp[lenOk],by simp[lenOk],by simp[lenOk]⟩ ?_ ?_ ?_ ?_ ⟨zJp ?_,zJp ?_,Ints.nil _ _,by simp[lenOk],by simp[lenOk],by simp[lenOk]⟩,by simp[lenOk,xJ1],by simp[lenOk,xJ1],by simp[lenOk,xJ1]⟩
  all_goals simp[go_sem]
theorem xX7:Valid xJ1:=by
 refine⟨by decide,by decide,SetP.nil _,?_,by decide,?_⟩
 ·exact SetP.of_pairwise (by simp[xJ1]) (by simp[xJ1])
 ·intro o ho;simp only[xJ1,zKm,List.not_mem_nil,or_false] at ho;rcases ho with rfl | rfl
  ·exact⟨⟨SetP.nil _,SetP.of_pairwise (by simp[xJ1]) (by simp),SetP.nil _,by simp⟩,by decide,by decide⟩
  ·exact⟨⟨SetP.of_pairwise (by simp[xJ1]) (by simp),SetP.of_pairwise (by simp[xJ1]) (by simp),SetP.nil _,by simp⟩,by decide,by decide⟩
theorem xWn{d:Int}(h:uXr 2 xJ1.ops xJ1.goal xJ1.init d):d=5:=by
 have hs0:xJb 2 [] (⟨[],[0],[],2⟩:OpV)=[0]:=by decide
 have hs1:xJb 2 [0] (⟨[0],[1],[],3⟩:OpV)=[0,1]:=by decide
 have hc:Cst 2 xJ1.ops xJ1.init [0,1] (0+2+3):=by
  have h1:Cst 2 xJ1.ops xJ1.init (xJb 2 [] ⟨[],[0],[],2⟩) (0+2):=.step (p:=0) .init rfl (by simp);rw[hs0] at h1;have h2:Cst 2 xJ1.ops xJ1.init (xJb 2 [0] ⟨[0],[1],[],3⟩) (0+2+3):=.step (p:=1) h1 rfl (by simp)
  rwa [hs1] at h2
 have hle:=h.2.2 _ _ hc (by simp[xJ1]);have key:∀ {l:List Int} {c:Int},Cst 2 xJ1.ops xJ1.init l c->(0<=c)/\(0∈l->2<=c)/\(1∈l->5<=c):=fun {l c} hc=>by
  induction hc with
  | init=>exact⟨by omega,fun h=>by simp[xJ1] at h,fun h=>by simp[xJ1] at h⟩
  | step h1 h2 h3 ih=>
   rename_i l c p o
   obtain⟨i0,i1,i2⟩:=ih
   match p,h2 with
   | 0,h2=>
    cases h2
    dsimp only;refine⟨by omega,fun _=>by omega,fun h=>?_⟩;have h4:(1:Int)∈l:=by rcases (xXa.1 h).2 with h5 | h5;simp at h5;exact h5.1
    have:=i2 h4;omega
   | 1,h2=>
    cases h2
    have h5:=i1 (h3 0 (by simp));dsimp only;exact⟨by omega,fun _=>by omega,fun _=>by omega⟩
 rcases h.1 with h1 | ⟨l,h1,h2⟩
 ·rw[h1] at hle;omega
 ·have h3:=(key h1).2.2 (h2 1 (by simp[xJ1]));omega
theorem wrapK(x:Int)(h : -9223372036854775808<=x)(h':x<=9223372036854775807):IntKind.i64.wrap x=x:=by
 simp[IntKind.wrap,IntKind.bits,IntKind.signed];omega
def uXx(m:Nat)(ps:List Nat):List Int:=(List.range m).map (vXn ps)
theorem uXi(m:Nat)(ps:List Nat):(uXx m ps).length=m:=by unfold uXx;simp
theorem uQ7{m:Nat}{ps:List Nat}{i:Nat}(h:i < m):(uXx m ps)[i]? = some (vXn ps i):=by unfold uXx;simp[h]
theorem uZ9(ps:List Nat)(p i:Nat):vXn (ps ++ [p]) i=vXn ps i+if p=i then 1 else 0:=by
 unfold vXn;rw[zJf,List.sum_append];simp
theorem uQn(m:Nat):uXx m []=List.replicate m 0:=by
 refine List.ext_getElem (by simp[uXi]) fun i h1 h2=>?_
 simp[uXx,vXn]
theorem uQ8{m:Nat}{ps:List Nat}{p:Nat}(h:p < m):uXx m (ps ++ [p])=(uXx m ps).set p (vXn ps p+1):=by
 refine List.ext_getElem (by simp[uXi]) fun i h1 h2=>?_
 rw[uXi] at h1;rw[List.getElem_set]
 by_cases e:p=i
 ·subst e;simp[uXx,uZ9]
 ·simp[uXx,uZ9,e]
theorem uQ9(ps:List Nat)(i:Nat):0<=vXn ps i/\vXn ps i<=ps.length:=by
 unfold vXn
 induction ps with
 | nil=>simp
 | cons p ps ih=>simp only[List.map_cons,List.sum_cons,List.length_cons];split <;> omega
theorem uQa(w:World)(t:TaskV)(Ai Ag Ao:Option Addr)(ci cg co:Nat)(hT:TaskMem w Ai Ag Ao t)(P:Option Addr)(cp:Nat)(ps:List Nat)(hP:Ints w P (ps.map Int.ofNat))(hv:Valid t)(hs:uXm t.ops.length (ps.map Int.ofNat)) :
  Calls prog 24 #[.agg #[.int .i64 t.facts,.slice Ai t.init.length ci,.slice Ag t.goal.length cg,.slice Ao t.ops.length co],.slice P ps.length cp] w fun e w'=>(∃ g,e=.returned (.tuple #[.slice (some ⟨g,0,none⟩) t.ops.length t.ops.length,.agg #[.int .i64 0,.int .i64 0]])/\IArr w' g (uXx t.ops.length ps)/\w.heap.size<=g)/\Below w.heap.size w w':=by
 have HV:=lHd hv;have HS:=lHd hs;have hm40:=hv.nops;have hl60:ps.length<=60:=by have:=hs.1;rwa [xVf] at this
 have HR:Hid (∀ p∈ps,p < t.ops.length):=lHd (fun p hp=>by have:=(hs.2 (p:Int) (zQ1.2 ⟨p,hp,rfl⟩)).2;omega);obtain⟨m,hm⟩:∃ m,Hid (t.ops.length=m):=⟨_,lHd rfl⟩;have hlL:(ps.map Int.ofNat).length=ps.length:=xVf _;have HLL:=lHd hlL;have hlP:(ps.map Int.ofNat).length<=9223372036854775807:=by omega
 clear hv hs;have HPF:∀ w0:World,TaskMem w0 Ai Ag Ao t->Ints w0 P (ps.map Int.ofNat)->Calls prog 71 #[.agg #[.int .i64 t.facts,.slice Ai t.init.length ci,.slice Ag t.goal.length cg,.slice Ao t.ops.length co],.slice P ps.length cp] w0 fun e w'=>e=.returned (.agg #[.int .i64 0,.int .i64 0])/\Below w0.heap.size w0 w':=fun w0 h0 h1=>by
  have:=uZf w0 t Ai Ag Ao ci cg co h0 P cp (ps.map Int.ofNat) h1 hlP HV.out HS.out;rw[hlL] at this;exact this
 have hmk:=xQu t.ops.length (by omega);clear hlL hlP;go_enter func24,ntmps24
 go_wp2_with fail
 refine (HPF _ (hT.below bch) (hP.below bch)).mono ?_;rintro e w1 ⟨rfl,hB1⟩;have D1:=xJ3 w hB1 bch;have C1:=Cls.below (l:=[(w.heap.size,0,.int .i64 t.facts),(w.heap.size,1,.slice Ai t.init.length ci),(w.heap.size,2,.slice Ag t.goal.length cg),(w.heap.size,3,.slice Ao t.ops.length co),(w.heap.size+1,0,.int .i64 0),(w.heap.size+1,1,.int .i64 0)]) hB1 (by simp[Cls,go_sem]);have F1:=C1.f;have y1w1:=C1.b 4;have y1w0:w.heap.size < w1.heap.size:=(by omega);have y1wp1:w.heap.size < w1.heap.size+1:=(by omega)
 go_wp2_with fail
 have hPw:=hP.below D1
 go_loopw [23] (fun i wr=>∃ k:Nat,k<=ps.length/\i=.int .i64 k/\IArr wr (w1.heap.size+1) (uXx t.ops.length (ps.take k))/\Below w1.heap.size w1 wr/\Cls wr [(w.heap.size,0,.int .i64 t.facts),(w.heap.size,1,.slice Ai t.init.length ci),(w.heap.size,2,.slice Ag t.goal.length cg),(w.heap.size,3,.slice Ao t.ops.length co),(w.heap.size+1,0,.int .i64 0),(w.heap.size+1,1,.int .i64 0),(w1.heap.size,0,.int .i64 0),(w1.heap.size,1,.int .i64 0)]) (fun i _=>ps.length - (intOf i).toNat)
 case atStart=>exact⟨0,xY1 _,rfl,(by rw[List.take_zero,uQn];exact IArr.made _ _ _ (by simp)),bch,(by simp[Cls,go_sem,F1,y1w1,y1w0,y1wp1])⟩
 case round=>
  obtain⟨k,hk,rfl,hA,hBr,hCr⟩:=hrel;obtain⟨w2,rfl⟩:∃ wo:World,wo=wr:=⟨_,rfl⟩;have Fr:=hCr.f;have yrw1:=hCr.blk (b:=w.heap.size+1) (k:=0) (v:=.int .i64 0) (by simp);have yrw10:=hCr.blk (b:=w1.heap.size) (k:=0) (v:=.int .i64 0) (by simp)
  by_cases hlt:k < ps.length
  ·obtain⟨ad,x,rfl,hx,hc⟩:=(hPw.below hBr).at_ (show k < (ps.map Int.ofNat).length by rw[HLL.out];exact hlt);obtain⟨p,hp⟩:∃ p,ps[k]? = some p:=⟨_,lGe hlt⟩;obtain rfl:(p:Int)=x:=by have:=hx.out;rw[zJ9,hp] at this;simpa using this
   have hpm:=HR.out p (lMg hp);obtain⟨y,hy,hd,hf⟩:=hA.cell (i:=p) (by rw[uXi];exact hpm);have hyy:y=vXn (ps.take k) p:=by have:=hy.out;rw[uQ7 hpm] at this;injection this with this;exact this.symm
   have hyb:=uQ9 (ps.take k) p;rw[<- hyy,List.length_take] at hyb;have hw:IntKind.i64.wrap (y+1)=y+1:=wrapK _ (by omega) (by omega);have HTK:=lHd (show uXx t.ops.length (ps.take (k+1))=(uXx t.ops.length (ps.take k)).set p (y+1) by
    rw[xYw,hp,hyy];exact uQ8 hpm)
   clear hyy hp hx;go_wp2
   go_roundw
   case rel=>exact⟨k+1,by omega,by go_num,(by rw[HTK.out];exact hA.set_ _ _),bch,(by simp[Cls,go_sem,Fr])⟩
   case measure=>simp[intOf];omega
  ·obtain rfl:k=ps.length:=by omega
   rw[zWg] at hA;have DR:=D1.trans (hBr.mono D1.size);go_wp2;refine bodyPost_ret (v:=.tuple #[.slice (some ⟨w1.heap.size+1,0,none⟩) t.ops.length t.ops.length,.agg #[.int .i64 0,.int .i64 0]]) ?_ rfl ⟨⟨_,rfl,?_,by omega⟩,bch⟩
   ·simp[results,results24,go_sem,Fr]
   ·exact (hA.far (p:=⟨w.heap.size+1,0,none⟩) (by simp;omega) _).far (p:=⟨w.heap.size+1,1,none⟩) (by simp;omega) _
