/-
  Lemmas for the law: Sa.
-/
import Derived.Test.YtpeipeljmapkmaaGreatU2
import Derived.Test.YtpeipeljmapkmaaGreatU1
import Derived.Test.YtpeipeljmapkmaaGreatU5
import Derived.Test.YtpeipeljmapkmaaGreatU6
import Derived.Test.YtpeipeljmapkmaaGreatU10
import Derived.Test.YtpeipeljmapkmaaGreatU3
import Derived.Test.YtpeipeljmapkmaaGreatU9
set_option linter.unusedVariables false
set_option linter.unusedSimpArgs false
set_option maxRecDepth 100000
set_option maxHeartbeats 4000000
namespace Go.Proofs.YtpeipeljmapkmaaGreat
open Go.RowKit
theorem xVe(A:Option Addr)(c:Nat)(s:List Int)(w:World)(hI:Ints w A s)(n:Nat)(hs:SetP s (n:Int))(hn:n<=24) :
  Calls Tryz.prog 96 #[.slice A s.length c] w fun e w'=>e=.returned (.int .u32 (xJ0 s))/\w=w':=by
 have HX:=lHd hs.1;have HS:=lHd hs;have hl:s.length<=9223372036854775807:=by have:=SetP.length hs (by omega);omega
 clear hs;go_enter Tryz.func96,Tryz.ntmps96;go_wp2
 go_loop [3,8] (fun a i=>∃ k:Nat,k<=s.length/\i=.int .i64 k/\a=.int .u32 (xJ0 (s.take k))) (fun _ i=>s.length - (intOf i).toNat)
 case atStart=>exact⟨0,Nat.zero_le _,rfl,rfl⟩
 case round=>
  obtain⟨k,hk,rfl,rfl⟩:=hrel
  by_cases hlt:k < s.length
  ·obtain⟨ad,x,rfl,hx,hc⟩:=hI.at_ hlt;obtain⟨x0,x1⟩:=HX.out x (lMg hx.out);have HP:=lHd (zZe HS.out hn hx.out);have x32:x<=32:=by omega
   have hp:=zQg ⟨x0,x1⟩ hn;go_wp2
   go_round
   case rel=>
    refine⟨k+1,by omega,by go_num,?_⟩;rw[<- HP.out]
    try simp[IntKind.wrap_u32']
   case measure=>simp[intOf];omega
  ·have hall:=lHd (show s.take k=s from List.take_of_length_le (by omega));rw[hall.out];go_wp2;go_ret;exact⟨rfl,rfl⟩
theorem vJk(A:Option Addr)(c:Nat)(s:List Int)(w:World)(hI:Ints w A s)(n:Nat)(hs:SetP s (n:Int))(hn:n<=24) :
  Calls Tryz.prog 96 #[.slice A s.length c] w fun e w'=>e=.returned (.int .u32 (xJ0 s))/\w'=w:=(xVe A c s w hI n hs hn).mono fun _ _ h=>⟨h.1,h.2.symm⟩
def vQc(w:World)(row:Option Nat)(cs:List Value)(o:OpV):Prop:=cs=[.int .u32 (xJ0 o.pre),.int .u32 (xJ0 o.add),.int .u32 (xJ0 o.del),.int .i64 o.cost]
theorem xQ4:Stable vQc:=⟨fun h _=>h,fun h _=>⟨h,h⟩⟩
theorem vJl:(Tryz.prog.info? 174).map (fun i=>(i.zero,i.size,i.bytes))=some (some (.agg #[.int .u32 0,.int .u32 0,.int .u32 0,.int .i64 0]),4,24):=by kernel_rfl
def WMem(base:Nat)(w:World)(g:Nat)(t:TaskV):Prop:=
 ∃ v,Arr w g 119 [.int .u32 (xJ0 t.init),.int .u32 (xJ0 t.goal),v]/\OwnEs vQc 174 4 base w v t.ops/\base<=g
theorem WMem.below{base g:Nat}{w w':World}{t:TaskV}(h:WMem base w g t)(hb:Below w.heap.size w w'):WMem base w' g t:=by
 obtain⟨v,h1,h2,h3⟩:=h;exact⟨v,h1.below hb,h2.below xQ4 hb,h3⟩
theorem WMem.lt{base g:Nat}{w:World}{t:TaskV}(h:WMem base w g t):g < w.heap.size:=by obtain⟨v,h1,_⟩:=h;exact h1.lt
structure TSets(n:Nat)(t:TaskV):Prop where
 n24:n<=24
 init:SetP t.init (n:Int)
 goal:SetP t.goal (n:Int)
 nops:t.ops.length<=40
 ops:∀ o∈t.ops,SetP o.pre (n:Int)/\SetP o.add (n:Int)/\SetP o.del (n:Int)/\0<=o.cost/\o.cost<=100/\∀ x∈o.add,¬ x∈o.del
theorem zJq{t:TaskV}{n:Nat}(hv:Valid t)(hn:t.facts=n):TSets n t:=
 ⟨by have:=hv.f1;omega,hn ▸ hv.init,hn ▸ hv.goal,hv.nops,fun o ho=>by
  obtain⟨⟨h1,h2,h3,h4⟩,h5⟩:=hv.ops o ho;rw[hn] at h1 h2 h3;exact⟨h1,h2,h3,h5.1,h5.2,h4⟩⟩
theorem vY4(w:World)(t:TaskV)(Ai Ag Ao:Option Addr)(ci cg co:Nat)(hT:TaskMem w Ai Ag Ao t)(n:Nat)(hv:TSets n t) :
  Calls Tryz.prog 48 #[.agg #[.int .i64 t.facts,.slice Ai t.init.length ci,.slice Ag t.goal.length cg,.slice Ao t.ops.length co]] w fun e w'=>∃ g,e=.returned (.pointer (some ⟨g,0,none⟩))/\WMem w.heap.size w' g t/\Below w.heap.size w w':=by
 have HV:=lHd hv;have hn24:n<=24:=hv.n24;have h40:t.ops.length<=40:=hv.nops;clear hv;go_enter Tryz.func48,Tryz.ntmps48
 go_wp2_with fail
 refine xJa 7 (by kernel_rfl) (by kernel_rfl) ?_;simp only[List.take_succ_cons,List.take_zero,List.drop_succ_cons,List.drop_zero]
 repeat still_step
 still_call (vJk _ _ _ _ (hT.init.below bl) n HV.out.init hn24)
 repeat still_step
 still_call (vJk _ _ _ _ (hT.goal.below bl) n HV.out.goal hn24)
 repeat still_step
 try refine wpStill_nil ?_
 go_wp2_with fail
 go_loopw [17] (fun i wr=>∃ (k:Nat) (v:Value),k<=t.ops.length/\i=.int .i64 k/\Arr wr (w.heap.size+1) 119 [.int .u32 (xJ0 t.init),.int .u32 (xJ0 t.goal),v]/\OwnEs vQc 174 4 (w.heap.size+1+1) wr v (t.ops.take k)/\(w.heap.size+1+1)<=wr.heap.size/\Below w.heap.size w wr/\Cls wr [(w.heap.size,0,.int .i64 t.facts),(w.heap.size,1,.slice Ai t.init.length ci),(w.heap.size,2,.slice Ag t.goal.length cg),(w.heap.size,3,.slice Ao t.ops.length co)]) (fun i _=>t.ops.length - (intOf i).toNat)
 case atStart=>exact⟨0,.slice none 0 0,Nat.zero_le _,rfl,Arr.new_at _ _ (by simp) _ _,OwnEs.nil _ _,by simp,bch,(by simp[Cls,go_sem])⟩
 case round=>
  obtain⟨k,v,hk,rfl,hA,hO,hbz,hBr,hCr⟩:=hrel;have drs:=hBr.size;have Fr:=hCr;simp only[Cls,and_true] at Fr;have yrw0:w.heap.size < wr.heap.size:=hCr.blk (b:=w.heap.size) (k:=0) (v:=.int .i64 t.facts) (by simp);have yrwp1:w.heap.size < wr.heap.size+1:=(by omega);obtain⟨A1,c1,rfl⟩:=hO.form;have HLK:Hid ((t.ops.take k).length=k):=by show _=_;rw[List.length_take];omega
  rw[HLK.out] at hA hO;have hcv:wr.cell? ⟨(w.heap.size+1),2,none⟩=some (.slice A1 k c1):=hA.cell 2;have hblt:=hA.lt
  by_cases hlt:k < t.ops.length
  ·obtain⟨ad,o,A0,c0,A3,c3,A4,c4,rfl,ho,hc0,hc1,hc2,hc3,hm⟩:=hT.ops.at2 hBr hlt;obtain⟨hpre,hadd,hdel,hcost⟩:=HV.out.ops o (lMg ho.out);have HPRE:=lHd hpre;have HADD:=lHd hadd;have HDEL:=lHd hdel;clear hpre hadd hdel hcost
   go_wp2_with fail
   have hbp1:w.heap.size+1 < wr.heap.size+1:=by omega
   have hSS0:(wr.alloc (.cells #[.slice A0 o.pre.length c0,.slice A3 o.add.length c3,.slice A4 o.del.length c4,.int .i64 o.cost] 68)).drew.cell? ⟨(w.heap.size+1),2,none⟩=some (.slice A1 k c1)/\(wr.alloc (.cells #[.slice A0 o.pre.length c0,.slice A3 o.add.length c3,.slice A4 o.del.length c4,.int .i64 o.cost] 68)).drew.cell? ⟨wr.heap.size,0,none⟩=some (.slice A0 o.pre.length c0)/\(wr.alloc (.cells #[.slice A0 o.pre.length c0,.slice A3 o.add.length c3,.slice A4 o.del.length c4,.int .i64 o.cost] 68)).drew.cell? ⟨wr.heap.size,1,none⟩=some (.slice A3 o.add.length c3)/\(wr.alloc (.cells #[.slice A0 o.pre.length c0,.slice A3 o.add.length c3,.slice A4 o.del.length c4,.int .i64 o.cost] 68)).drew.cell? ⟨wr.heap.size,2,none⟩=some (.slice A4 o.del.length c4)/\(wr.alloc (.cells #[.slice A0 o.pre.length c0,.slice A3 o.add.length c3,.slice A4 o.del.length c4,.int .i64 o.cost] 68)).drew.cell? ⟨wr.heap.size,3,none⟩=some (.int .i64 o.cost):=by simp[go_sem,Fr,yrw0,yrwp1,hcv,hblt]
   refine xJk (fun W=>W.cell? ⟨(w.heap.size+1),2,none⟩=some (.slice A1 k c1)/\W.cell? ⟨wr.heap.size,0,none⟩=some (.slice A0 o.pre.length c0)/\W.cell? ⟨wr.heap.size,1,none⟩=some (.slice A3 o.add.length c3)/\W.cell? ⟨wr.heap.size,2,none⟩=some (.slice A4 o.del.length c4)/\W.cell? ⟨wr.heap.size,3,none⟩=some (.int .i64 o.cost)) [21] (by kernel_rfl) ?_;have hSS:=hSS0;refine xJ1 (i:=0) (v:=?vz10) rfl (by kernel_rfl) (by kernel_rfl) (by kernel_rfl) (by kernel_rfl) (by kernel_rfl) (fun _ _ _ h=>h) (Or.inl ⟨by rfl,?hz10⟩) (by assumption) ?rz10
   case hz10=>(intro w hSw;(try dsimp only at hSw);go_simp;(try with_reducible rfl))
   try simp only[ap]
   refine xJ1 (i:=1) (v:=?vz11) rfl (by kernel_rfl) (by kernel_rfl) (by kernel_rfl) (by kernel_rfl) (by kernel_rfl) (fun _ _ _ h=>h) (Or.inl ⟨by rfl,?hz11⟩) (by assumption) ?rz11
   case hz11=>(intro w hSw;(try dsimp only at hSw);go_simp;(try with_reducible rfl))
   try simp only[ap]
   refine xJ1 (i:=2) (v:=?vz12) rfl (by kernel_rfl) (by kernel_rfl) (by kernel_rfl) (by kernel_rfl) (by kernel_rfl) (fun _ _ _ h=>h) (Or.inl ⟨by rfl,?hz12⟩) (by assumption) ?rz12
   case hz12=>(intro w hSw;(try dsimp only at hSw);go_simp;(try with_reducible rfl))
   try simp only[ap]
   refine xJ1 (i:=3) (v:=?vz13) rfl (by kernel_rfl) (by kernel_rfl) (by kernel_rfl) (by kernel_rfl) (by kernel_rfl) (fun _ _ _ h=>h) (Or.inl ⟨by rfl,?hz13⟩) (by assumption) ?rz13
   case hz13=>(intro w hSw;(try dsimp only at hSw);go_simp;(try with_reducible rfl))
   try simp only[ap]
   refine xJ1 (i:=4) (v:=?vz14) rfl (by kernel_rfl) (by kernel_rfl) (by kernel_rfl) (by kernel_rfl) (by kernel_rfl) (fun _ _ _ h=>h) (Or.inl ⟨by rfl,?hz14⟩) (by assumption) ?rz14
   case hz14=>(intro w hSw;(try dsimp only at hSw);go_simp;(try with_reducible rfl))
   try simp only[ap]
   refine xJ1 (i:=5) (v:=?vz15) rfl (by kernel_rfl) (by kernel_rfl) (by kernel_rfl) (by kernel_rfl) (by kernel_rfl) (fun _ _ _ h=>h) (Or.inl ⟨by rfl,?hz15⟩) (by assumption) ?rz15
   case hz15=>(intro w hSw;(try dsimp only at hSw);go_simp;(try with_reducible rfl))
   try simp only[ap]
   refine xJ1 (i:=6) (v:=?vz16) rfl (by kernel_rfl) (by kernel_rfl) (by kernel_rfl) (by kernel_rfl) (by kernel_rfl) (fun _ _ _ h=>h) (Or.inl ⟨by rfl,?hz16⟩) (by assumption) ?rz16
   case hz16=>(intro w hSw;(try dsimp only at hSw);go_simp;(try with_reducible rfl))
   try simp only[ap]
   refine xJ1 (i:=8) (v:=?vz18) rfl (by kernel_rfl) (by kernel_rfl) (by kernel_rfl) (by kernel_rfl) (by kernel_rfl) (fun _ _ _ h=>h) (Or.inl ⟨by rfl,?hz18⟩) (by assumption) ?rz18
   case hz18=>(intro w hSw;(try dsimp only at hSw);go_simp;(try with_reducible rfl))
   try simp only[ap]
   refine xJ1 (i:=9) (v:=?vz19) rfl (by kernel_rfl) (by kernel_rfl) (by kernel_rfl) (by kernel_rfl) (by kernel_rfl) (fun _ _ _ h=>h) (Or.inl ⟨by rfl,?hz19⟩) (by assumption) ?rz19
   case hz19=>(intro w hSw;(try dsimp only at hSw);go_simp;(try with_reducible rfl))
   try simp only[ap]
   refine xJ1 (i:=11) (v:=?vz111) rfl (by kernel_rfl) (by kernel_rfl) (by kernel_rfl) (by kernel_rfl) (by kernel_rfl) (fun _ _ _ h=>h) (Or.inl ⟨by rfl,?hz111⟩) (by assumption) ?rz111
   case hz111=>(intro w hSw;(try dsimp only at hSw);go_simp;(try with_reducible rfl))
   try simp only[ap]
   refine xJ1 (i:=12) (v:=?vz112) rfl (by kernel_rfl) (by kernel_rfl) (by kernel_rfl) (by kernel_rfl) (by kernel_rfl) (fun _ _ _ h=>h) (Or.inl ⟨by rfl,?hz112⟩) (by assumption) ?rz112
   case hz112=>(intro w hSw;(try dsimp only at hSw);go_simp;(try with_reducible rfl))
   try simp only[ap]
   refine xJ1 (i:=14) (v:=?vz114) rfl (by kernel_rfl) (by kernel_rfl) (by kernel_rfl) (by kernel_rfl) (by kernel_rfl) (fun _ _ _ h=>h) (Or.inl ⟨by rfl,?hz114⟩) (by assumption) ?rz114
   case hz114=>(intro w hSw;(try dsimp only at hSw);go_simp;(try with_reducible rfl))
   try simp only[ap]
   refine xJ1 (i:=15) (v:=?vz115) rfl (by kernel_rfl) (by kernel_rfl) (by kernel_rfl) (by kernel_rfl) (by kernel_rfl) (fun _ _ _ h=>h) (Or.inl ⟨by rfl,?hz115⟩) (by assumption) ?rz115
   case hz115=>(intro w hSw;(try dsimp only at hSw);go_simp;(try with_reducible rfl))
   try simp only[ap]
   refine xJ4 (i:=7) (by kernel_rfl) rfl (fun K hK=>?_);go_simp;go_at_call 96;refine (xVe _ _ _ _ (hm.pre.below bl) n HPRE.out hn24).mono ?_;rintro e w9 ⟨rfl,rfl⟩
   go_wp2_with fail
   have hSS:(wr.alloc (.cells #[.slice A0 o.pre.length c0,.slice A3 o.add.length c3,.slice A4 o.del.length c4,.int .i64 o.cost] 68)).drew.cell? ⟨(w.heap.size+1),2,none⟩=some (.slice A1 k c1)/\(wr.alloc (.cells #[.slice A0 o.pre.length c0,.slice A3 o.add.length c3,.slice A4 o.del.length c4,.int .i64 o.cost] 68)).drew.cell? ⟨wr.heap.size,0,none⟩=some (.slice A0 o.pre.length c0)/\(wr.alloc (.cells #[.slice A0 o.pre.length c0,.slice A3 o.add.length c3,.slice A4 o.del.length c4,.int .i64 o.cost] 68)).drew.cell? ⟨wr.heap.size,1,none⟩=some (.slice A3 o.add.length c3)/\(wr.alloc (.cells #[.slice A0 o.pre.length c0,.slice A3 o.add.length c3,.slice A4 o.del.length c4,.int .i64 o.cost] 68)).drew.cell? ⟨wr.heap.size,2,none⟩=some (.slice A4 o.del.length c4)/\(wr.alloc (.cells #[.slice A0 o.pre.length c0,.slice A3 o.add.length c3,.slice A4 o.del.length c4,.int .i64 o.cost] 68)).drew.cell? ⟨wr.heap.size,3,none⟩=some (.int .i64 o.cost):=hSS0;refine hK.out _ _ hSS ?_;clear hK K
   try simp only[ap]
   refine xJ4 (i:=10) (by kernel_rfl) rfl (fun K hK=>?_);go_simp;go_at_call 96;refine (xVe _ _ _ _ (hm.add.below bl) n HADD.out hn24).mono ?_;rintro e w9 ⟨rfl,rfl⟩
   go_wp2_with fail
   have hSS:(wr.alloc (.cells #[.slice A0 o.pre.length c0,.slice A3 o.add.length c3,.slice A4 o.del.length c4,.int .i64 o.cost] 68)).drew.cell? ⟨(w.heap.size+1),2,none⟩=some (.slice A1 k c1)/\(wr.alloc (.cells #[.slice A0 o.pre.length c0,.slice A3 o.add.length c3,.slice A4 o.del.length c4,.int .i64 o.cost] 68)).drew.cell? ⟨wr.heap.size,0,none⟩=some (.slice A0 o.pre.length c0)/\(wr.alloc (.cells #[.slice A0 o.pre.length c0,.slice A3 o.add.length c3,.slice A4 o.del.length c4,.int .i64 o.cost] 68)).drew.cell? ⟨wr.heap.size,1,none⟩=some (.slice A3 o.add.length c3)/\(wr.alloc (.cells #[.slice A0 o.pre.length c0,.slice A3 o.add.length c3,.slice A4 o.del.length c4,.int .i64 o.cost] 68)).drew.cell? ⟨wr.heap.size,2,none⟩=some (.slice A4 o.del.length c4)/\(wr.alloc (.cells #[.slice A0 o.pre.length c0,.slice A3 o.add.length c3,.slice A4 o.del.length c4,.int .i64 o.cost] 68)).drew.cell? ⟨wr.heap.size,3,none⟩=some (.int .i64 o.cost):=hSS0;refine hK.out _ _ hSS ?_;clear hK K
   try simp only[ap]
   refine xJ4 (i:=13) (by kernel_rfl) rfl (fun K hK=>?_);go_simp;go_at_call 96;refine (xVe _ _ _ _ (hm.del.below bl) n HDEL.out hn24).mono ?_;rintro e w9 ⟨rfl,rfl⟩
   go_wp2_with fail
   have hSS:(wr.alloc (.cells #[.slice A0 o.pre.length c0,.slice A3 o.add.length c3,.slice A4 o.del.length c4,.int .i64 o.cost] 68)).drew.cell? ⟨(w.heap.size+1),2,none⟩=some (.slice A1 k c1)/\(wr.alloc (.cells #[.slice A0 o.pre.length c0,.slice A3 o.add.length c3,.slice A4 o.del.length c4,.int .i64 o.cost] 68)).drew.cell? ⟨wr.heap.size,0,none⟩=some (.slice A0 o.pre.length c0)/\(wr.alloc (.cells #[.slice A0 o.pre.length c0,.slice A3 o.add.length c3,.slice A4 o.del.length c4,.int .i64 o.cost] 68)).drew.cell? ⟨wr.heap.size,1,none⟩=some (.slice A3 o.add.length c3)/\(wr.alloc (.cells #[.slice A0 o.pre.length c0,.slice A3 o.add.length c3,.slice A4 o.del.length c4,.int .i64 o.cost] 68)).drew.cell? ⟨wr.heap.size,2,none⟩=some (.slice A4 o.del.length c4)/\(wr.alloc (.cells #[.slice A0 o.pre.length c0,.slice A3 o.add.length c3,.slice A4 o.del.length c4,.int .i64 o.cost] 68)).drew.cell? ⟨wr.heap.size,3,none⟩=some (.int .i64 o.cost):=hSS0;refine hK.out _ _ hSS ?_;clear hK K
   try simp only[ap]
   refine xJ1 (i:=16) (v:=?vz116) rfl (by kernel_rfl) (by kernel_rfl) (by kernel_rfl) (by kernel_rfl) (by kernel_rfl) (fun _ _ _ h=>h) (Or.inl ⟨by rfl,?hz116⟩) (by assumption) ?rz116
   case hz116=>(intro w hSw;(try dsimp only at hSw);go_simp;(try with_reducible rfl))
   try simp only[ap]
   refine xJ4 (i:=17) (by kernel_rfl) rfl (fun K hK=>?_);go_simp
   go_wp2_with fail
   have hSS:((wr.alloc (.cells #[.slice A0 o.pre.length c0,.slice A3 o.add.length c3,.slice A4 o.del.length c4,.int .i64 o.cost] 68)).alloc (.cells #[.int .u32 (xJ0 o.pre),.int .u32 (xJ0 o.add),.int .u32 (xJ0 o.del),.int .i64 o.cost] 174)).drew.cell? ⟨(w.heap.size+1),2,none⟩=some (.slice A1 k c1)/\((wr.alloc (.cells #[.slice A0 o.pre.length c0,.slice A3 o.add.length c3,.slice A4 o.del.length c4,.int .i64 o.cost] 68)).alloc (.cells #[.int .u32 (xJ0 o.pre),.int .u32 (xJ0 o.add),.int .u32 (xJ0 o.del),.int .i64 o.cost] 174)).drew.cell? ⟨wr.heap.size,0,none⟩=some (.slice A0 o.pre.length c0)/\((wr.alloc (.cells #[.slice A0 o.pre.length c0,.slice A3 o.add.length c3,.slice A4 o.del.length c4,.int .i64 o.cost] 68)).alloc (.cells #[.int .u32 (xJ0 o.pre),.int .u32 (xJ0 o.add),.int .u32 (xJ0 o.del),.int .i64 o.cost] 174)).drew.cell? ⟨wr.heap.size,1,none⟩=some (.slice A3 o.add.length c3)/\((wr.alloc (.cells #[.slice A0 o.pre.length c0,.slice A3 o.add.length c3,.slice A4 o.del.length c4,.int .i64 o.cost] 68)).alloc (.cells #[.int .u32 (xJ0 o.pre),.int .u32 (xJ0 o.add),.int .u32 (xJ0 o.del),.int .i64 o.cost] 174)).drew.cell? ⟨wr.heap.size,2,none⟩=some (.slice A4 o.del.length c4)/\((wr.alloc (.cells #[.slice A0 o.pre.length c0,.slice A3 o.add.length c3,.slice A4 o.del.length c4,.int .i64 o.cost] 68)).alloc (.cells #[.int .u32 (xJ0 o.pre),.int .u32 (xJ0 o.add),.int .u32 (xJ0 o.del),.int .i64 o.cost] 174)).drew.cell? ⟨wr.heap.size,3,none⟩=some (.int .i64 o.cost):=(by simp[go_sem,Fr,yrw0,yrwp1,hcv,hblt,hbp1]);refine hK.out _ _ hSS ?_;clear hK K
   try simp only[ap]
   refine xJ4 (i:=18) (by kernel_rfl) rfl (fun K hK=>?_);refine vVy xQ4 117 24 (.agg #[.int .u32 0,.int .u32 0,.int .u32 0,.int .i64 0]) Tryz.underlying117 vJl rfl (by decide) (by decide) rfl (.tmp 25) (.tmp 38) rfl w [(w.heap.size,0,.int .i64 t.facts),(w.heap.size,1,.slice Ai t.init.length ci),(w.heap.size,2,.slice Ag t.goal.length cg),(w.heap.size,3,.slice (some ad) t.ops.length co)] rfl (hO.below xQ4 bl) ⟨wr.heap.size+1,0,none⟩ 1 rfl [.int .u32 (xJ0 o.pre),.int .u32 (xJ0 o.add),.int .u32 (xJ0 o.del),.int .i64 o.cost] o rfl ?n1 ?n2 rfl ?n3 ?n4 ?n5 bl ?n6 ?n7 ?nn
   case n1=>exact xYc _ _ (by simp) _ _
   case n2=>simp[Value.oneCell']
   case n3=>(have:=HLK.out;omega)
   case n4=>(simp;omega)
   case n5=>omega
   case n6=>simp[Cls,go_sem,Fr,yrw0,yrwp1]
   case n7=>(simp;try omega)
   intro g5 c5 w' hO2 hB2 hC2 hsz2 hg2;simp at hsz2;rw[HLK.out] at hO2 ⊢;have hA2:Arr w' (w.heap.size+1) 119 [.int .u32 (xJ0 t.init),.int .u32 (xJ0 t.goal),.slice A1 k c1]:=Arr.grown (hA.below bl) hg2 (fun e1=>by have:=hO.lt _ e1;omega);have hcq:w'.cell? ⟨(w.heap.size+1),2,none⟩=some (.slice A1 k c1):=hA2.cell 2;have hfq:w'.frozen? ⟨(w.heap.size+1),2,none⟩=false:=hA2.free 2;have hOp:Arr w' wr.heap.size 68 [.slice A0 o.pre.length c0,.slice A3 o.add.length c3,.slice A4 o.del.length c4,.int .i64 o.cost]:=Arr.grown (w:=((wr.alloc (.cells #[.slice A0 o.pre.length c0,.slice A3 o.add.length c3,.slice A4 o.del.length c4,.int .i64 o.cost] 68)).alloc (.cells #[.int .u32 (xJ0 o.pre),.int .u32 (xJ0 o.add),.int .u32 (xJ0 o.del),.int .i64 o.cost] 174)).drew) ((Arr.new wr 68 _).alloc _) hg2 (fun e1=>by have:=hO.lt _ e1;omega);have hSS:w'.cell? ⟨(w.heap.size+1),2,none⟩=some (.slice A1 k c1)/\w'.cell? ⟨wr.heap.size,0,none⟩=some (.slice A0 o.pre.length c0)/\w'.cell? ⟨wr.heap.size,1,none⟩=some (.slice A3 o.add.length c3)/\w'.cell? ⟨wr.heap.size,2,none⟩=some (.slice A4 o.del.length c4)/\w'.cell? ⟨wr.heap.size,3,none⟩=some (.int .i64 o.cost):=⟨hcq,hOp.cell 0,hOp.cell 1,hOp.cell 2,hOp.cell 3⟩;refine hK.out _ _ hSS ?_;clear hK K
   try simp only[ap]
   refine xX0 (i:=19) (v:=?vz119) rfl (by kernel_rfl) (by kernel_rfl) (by kernel_rfl) (by kernel_rfl) (by kernel_rfl) (fun _ _ _ h=>h) (Or.inl ⟨by rfl,?hz119⟩) (by assumption) ?rz119
   case hz119=>(intro w hSw;(try dsimp only at hSw);go_simp;(try with_reducible rfl))
   try simp only[ap]
   refine xX0 (i:=20) (v:=?vz120) rfl (by kernel_rfl) (by kernel_rfl) (by kernel_rfl) (by kernel_rfl) (by kernel_rfl) (fun _ _ _ h=>h) (Or.inl ⟨by rfl,?hz120⟩) (by assumption) ?rz120
   case hz120=>(intro w hSw;(try dsimp only at hSw);go_simp;(try with_reducible rfl))
   try simp only[ap]
   refine xJd (i:=21) (by kernel_rfl) rfl (by kernel_rfl) (fun K hK=>?_);go_simp
   go_wp2_with fail
   refine hK.out _ _ ?_;clear hK K
   try simp only[ap]
   refine xJ8 (by kernel_rfl) ?_ _;go_wp2;have HTK:=lHd (List.take_add_one (l:=t.ops) (i:=k))
   go_roundw
   case rel=>
    refine⟨k+1,_,by omega,by go_num,hA2.set_ 2 _,?_,by simp;omega,bl,hC2.far _ _ (by simp)⟩;rw[HTK.out,ho.out];exact hO2.far (fun h _=>h) (p:=⟨(w.heap.size+1),2,none⟩) (by show w.heap.size+1 < w.heap.size+1+1;omega) _
   case measure=>simp[intOf];omega
  ·have HALL:=lHd (show t.ops.take k=t.ops from List.take_of_length_le (by omega));go_wp2;rw[HALL.out] at hO;go_ret;exact⟨_,rfl,⟨_,hA,hO.mono (by omega),by omega⟩,hBr⟩
end Go.Proofs.YtpeipeljmapkmaaGreat
