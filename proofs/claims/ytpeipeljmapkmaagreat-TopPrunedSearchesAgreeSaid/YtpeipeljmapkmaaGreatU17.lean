/-
  Lemmas for the law: Tpa.
-/
import Derived.Test.YtpeipeljmapkmaaGreatU15
import Derived.Test.YtpeipeljmapkmaaGreatU16
set_option linter.unusedVariables false
set_option linter.unusedSimpArgs false
set_option maxRecDepth 100000
set_option maxHeartbeats 4000000
namespace Go.Proofs.YtpeipeljmapkmaaGreat
open Go.RowKit
section
open Go.Shelf Go.Sort
inductive Trail(f:Int->Option Value)(st:Int):Int->List Int->Prop
 | nil:Trail f st st []
 | step {p s op:Int} {ops:List Int}:Trail f st p ops->f s=some (.agg #[.int .u32 p,.int .i64 op])->s≠st->Wrd s->Trail f st s (ops ++ [op])
theorem vJa(w:World):(zeroValue 146).run Tryz.prog w=.ok (.agg #[.int .u32 0,.int .i64 0]) w:=by kernel_rfl
theorem Trail.at_start{f:Int->Option Value}{st:Int}{ops:List Int}(h:Trail f st st ops):ops=[]:=by
 cases h with
 | nil=>rfl
 | step _ _ h _=>exact absurd rfl h
theorem Trail.at_step{f:Int->Option Value}{st s:Int}{ops:List Int}(h:Trail f st s ops)(hne:s≠st):∃ p op rest,ops=rest ++ [op]/\f s=some (.agg #[.int .u32 p,.int .i64 op])/\Trail f st p rest/\Wrd s:=by
 cases h with
 | nil=>exact absurd rfl hne
 | step h1 h2 _ h4=>exact⟨_,_,_,rfl,h2,h1,h4⟩
theorem vJb{w:World}{base:Nat}{v:Value}{xs:List Int}(h:OwnI base w v xs)(hl:xs.length<=1000000) :
  Calls Tryz.prog 107 #[v] w fun e w'=>e=.returned (.tuple #[])/\OwnI base w' v xs.reverse/\w.grownBy w' v.ownBlock:=by
 obtain⟨A,c,rfl,hnl,hI⟩:=h.form;have h1:vXn (Value.int .i64) 3 base w (.slice A xs.length c) xs:=zQc h;rcases h.2 with ⟨h2,h4⟩ | ⟨g,cap,cur,hv,_⟩
 ·injection h2 with e1 e2 e3
  have hx:xs=[]:=List.eq_nil_of_length_eq_zero e2;subst e1;subst hx;have hc:=Any.slices_Reverse_int_empty zV9 none c w;refine Calls.mono (show Calls Tryz.prog 107 #[.slice none 0 c] w _ from hc) ?_;rintro e w' ⟨rfl,rfl⟩;exact⟨rfl,h,⟨rfl,rfl,rfl,Nat.le_refl _,fun k _ _=>rfl⟩⟩
 ·injection hv with e1 e2 e3
  subst e1;obtain⟨hH,hlt,hb,hn,hnc,hcm,_⟩:=xVt h1;have hc:=Any.slices_Reverse_int zV9 g 0 c xs w hH (by omega);refine Calls.mono (show Calls Tryz.prog 107 #[.slice (some ⟨g,0,none⟩) xs.length c] w _ from hc) ?_;rintro e w' ⟨rfl,m,rfl⟩;obtain⟨h5,h6⟩:=zVb (m:=m) (os:=#[]) (ts:=xs.reverse) h1 (by simp);have he:sortWorld (Value.int .i64) w g 0 m xs.reverse.toArray #[]=putRow (Value.int .i64) (Sort.ahead w m) g 0 xs.reverse.toArray:=by unfold sortWorld;exact grow_empty _
  rw[he] at h5 h6;exact⟨rfl,xQk h5,h6⟩
theorem vJc{w:World}{mp np:Nat}{f:Int->Option Value}{st s:Int}{ops:List Int}(hM:MapF w mp np f)(hT:Trail f st s ops)(hl:ops.length<=1000000) :
  Calls Tryz.prog 79 #[.map (some mp),.int .u32 st,.int .u32 s] w fun e w'=>Below w.heap.size w w'/\∃ v,e=.returned v/\OwnI w.heap.size w' v ops:=by
 have HT:=lHd hT;have hml:=hM.lt;clear hT;go_enter Tryz.func79,Tryz.ntmps79;go_wp2
 go_loopg [2,7] ops.length (fun k sv v wr=>∃ (x:Int) (rest acc:List Int),sv=.int .u32 x/\Hid (Trail f st x rest)/\Hid (ops=rest ++ acc.reverse)/\rest.length=k/\OwnI w.heap.size wr v acc/\Below w.heap.size w wr)
 case atStart=>exact⟨s,ops,[],rfl,HT.out,by show _=_;simp,rfl,OwnI.nil _ _,Below.refl _ _⟩
 case round=>
  obtain⟨x,rest,acc,rfl,hTr,hops,hlen,hO,hB⟩:=hrel;have hsz:=hB.size
  by_cases e:x=st
  ·subst e;have HR:=lHd hTr.out.at_start;have hal:acc.length<=1000000:=by have h:=congrArg List.length hops.out;simp at h;omega
   clear hTr
   go_wp2_with (go_at_call 107;(refine (vJb hO hal).mono ?_);rintro e w2 ⟨rfl,hO2,hg2⟩)
   go_ret;refine⟨hB.grown hg2 hsz (fun k hk=>(hO.lt k hk).1),_,rfl,?_⟩;rw[hops.out,HR.out];exact hO2
  ·obtain⟨p,op,rest',rfl,hf,hT',hw⟩:=hTr.out.at_step e;have hM':=hM.below (hB.mono (Nat.le_refl _)) hml;have hlk:=hM'.look Tryz.underlying147 (vJa _) hw;rw[hf] at hlk;have HT':=lHd hT';have hO':=(hO.alloc (.cells #[.int .u32 p,.int .i64 op] 146)).alloc (.cells #[.int .i64 op] 3);have hal:acc.length<=1000000:=by have h:=congrArg List.length hops.out;simp at h;omega
   clear hT' hf hTr
   go_wp2_with (at_builtin;refine xY7 rfl (.tmp 15) (.tmp 18) 22 3 (.int .i64 0) 8 Tryz.underlying22 xXo rfl (by decide) rfl w.heap.size u7 acc.length (acc.map (Value.int .i64)) (.int .i64 op) rfl rfl hO' _ 1 rfl (by simp[go_sem]) (by omega) (by simp;omega) ?_;intro v3 w3 hO3 hg3 hd3;have hx3:Arr w3 wr.heap.size 146 [.int .u32 p,.int .i64 op]:=Arr.by_row hO' hg3 ((Arr.new wr 146 _).alloc _) (by decide);have hc3:w3.cell? ⟨wr.heap.size,0,none⟩=some (.int .u32 p):=hx3.cell 0)
   go_roundg rest'.length
   case measure=>simp at hlen;omega
   case rel=>exact⟨p,rest',acc ++ [op],rfl,HT'.out,by show _=_;rw[hops.out];simp,rfl,by unfold OwnI;rw[List.length_append,List.map_append];exact hO3,mvk⟩
end
end Go.Proofs.YtpeipeljmapkmaaGreat
