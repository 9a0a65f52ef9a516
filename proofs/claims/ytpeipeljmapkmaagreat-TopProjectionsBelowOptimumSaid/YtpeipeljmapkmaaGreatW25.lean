/-
  Lemmas for the law: Mq, Mr, Ms.
-/
import Derived.Test.YtpeipeljmapkmaaGreatW24
import Derived.Test.YtpeipeljmapkmaaGreatW2
set_option linter.unusedVariables false
set_option linter.unusedSimpArgs false
set_option maxRecDepth 100000
set_option maxHeartbeats 4000000
namespace Go.Proofs.YtpeipeljmapkmaaGreat
open Go.RowKit
theorem vKi(w:World)(m:MtV)(As Ai Ag Ao:Option Addr)(cs ci cg co:Nat)(hM:MMem w As Ai Ag Ao m)(V:Option Addr)(cv:Nat)(vars:List Int)(hI:Ints w V vars)(hlv:vars.length<=8)(hlg:m.goal.length<=100)(hlo40:m.ops.length<=40)(hol:Hid (∀ o∈m.ops,o.pre.length<=100/\o.post.length<=100))(HRS:Hid (Hid (∀ v∈vars,0<=v/\v < (m.sizes.length:Int))))(HRI:Hid (Hid (∀ v∈vars,0<=v/\v < (m.init.length:Int)))) :
  Calls Tryz.prog 44 #[.agg #[.slice As m.sizes.length cs,.slice Ai m.init.length ci,.slice Ag m.goal.length cg,.slice Ao m.ops.length co],.slice V vars.length cv] w fun e w'=>∃ As' Ai' Ag' Ao' cs' ci' cg' co',e=.returned (.agg #[.slice As' (toV m vars).sizes.length cs',.slice Ai' (toV m vars).init.length ci',.slice Ag' (toV m vars).goal.length cg',.slice Ao' (toV m vars).ops.length co'])/\MMem w' As' Ai' Ag' Ao' (toV m vars)/\Below w.heap.size w w':=by
 have hls:=hM.lsizes.le;have hli:=hM.linit.le;have HM:=lHd hM;have hlg100:m.goal.length<=100:=hlg;have hlv6:vars.length<=1000000:=by omega
 have hlv100:vars.length<=100:=by omega
 clear hM;go_enter Tryz.func44,Tryz.ntmps44
 go_wp2_with fail
 have D1:Below w.heap.size w ((w.alloc (.cells #[.slice As m.sizes.length cs,.slice Ai m.init.length ci,.slice Ag m.goal.length cg,.slice Ao m.ops.length co] 43)).alloc (.cells #[.slice none 0 0,.slice none 0 0,.slice none 0 0,.slice none 0 0] 43)):=bch;have C1:Cls ((w.alloc (.cells #[.slice As m.sizes.length cs,.slice Ai m.init.length ci,.slice Ag m.goal.length cg,.slice Ao m.ops.length co] 43)).alloc (.cells #[.slice none 0 0,.slice none 0 0,.slice none 0 0,.slice none 0 0] 43)) [(w.heap.size,0,.slice As m.sizes.length cs),(w.heap.size,1,.slice Ai m.init.length ci),(w.heap.size,2,.slice Ag m.goal.length cg),(w.heap.size,3,.slice Ao m.ops.length co),(w.heap.size+1,0,.slice none 0 0),(w.heap.size+1,1,.slice none 0 0),(w.heap.size+1,2,.slice none 0 0),(w.heap.size+1,3,.slice none 0 0)]:=by simp[Cls,go_sem]
 have sz1:((w.alloc (.cells #[.slice As m.sizes.length cs,.slice Ai m.init.length ci,.slice Ag m.goal.length cg,.slice Ao m.ops.length co] 43)).alloc (.cells #[.slice none 0 0,.slice none 0 0,.slice none 0 0,.slice none 0 0] 43)).heap.size=w.heap.size+1+1:=by simp
 generalize ((w.alloc (.cells #[.slice As m.sizes.length cs,.slice Ai m.init.length ci,.slice Ag m.goal.length cg,.slice Ao m.ops.length co] 43)).alloc (.cells #[.slice none 0 0,.slice none 0 0,.slice none 0 0,.slice none 0 0] 43))=w1 at D1 C1 sz1 ⊢
 go_cut [5] (fun s5 wx=>∃ ob A1 c1 A2 c2 A3 c3,s5=.pointer (some ⟨ob,0,none⟩)/\w.heap.size+1+1<=ob/\ob < wx.heap.size/\Ints wx A1 (xXq m.sizes vars)/\Ints wx A2 (xXq m.init vars)/\AsAt wx A3 (xJd m.goal vars)/\Hid (∀ ad,A1=some ad\/A2=some ad\/A3=some ad->w.heap.size+1+1<=ad.block/\ad.block < wx.heap.size/\ad.block≠ob)/\Below w.heap.size w wx/\Cls wx [(w.heap.size,0,.slice As m.sizes.length cs),(w.heap.size,1,.slice Ai m.init.length ci),(w.heap.size,2,.slice Ag m.goal.length cg),(w.heap.size,3,.slice Ao m.ops.length co),(w.heap.size+1,0,.slice none 0 0),(w.heap.size+1,1,.slice none 0 0),(w.heap.size+1,2,.slice none 0 0),(w.heap.size+1,3,.slice none 0 0)]/\Cls wx [(ob,0,.slice A1 (xXq m.sizes vars).length c1),(ob,1,.slice A2 (xXq m.init vars).length c2),(ob,2,.slice A3 (xJd m.goal vars).length c3),(ob,3,.slice none 0 0)])
 case first=>
  have hz1:=Nat.le_of_eq sz1;have hz2:=Nat.le_of_eq sz1.symm;clear sz1;have F1:=C1;simp only[Cls,and_true] at F1;have y1w1:w.heap.size+1 < w1.heap.size:=C1.blk (b:=w.heap.size+1) (k:=0) (v:=.slice none 0 0) (by simp);have y1w0:w.heap.size < w1.heap.size:=(by omega);refine xJg (fun W=>W.cell? ⟨w.heap.size,0,none⟩=some (.slice As m.sizes.length cs)/\W.cell? ⟨w.heap.size,1,none⟩=some (.slice Ai m.init.length ci)/\W.cell? ⟨w.heap.size,2,none⟩=some (.slice Ag m.goal.length cg)) [14] (by kernel_rfl) ?_;have hSS:w1.drew.cell? ⟨w.heap.size,0,none⟩=some (.slice As m.sizes.length cs)/\w1.drew.cell? ⟨w.heap.size,1,none⟩=some (.slice Ai m.init.length ci)/\w1.drew.cell? ⟨w.heap.size,2,none⟩=some (.slice Ag m.goal.length cg):=(by simp[F1]);refine xJ0 (i:=0) (v:=?vt1x0) rfl (by kernel_rfl) (by kernel_rfl) (by kernel_rfl) (by kernel_rfl) (by kernel_rfl) (fun _ _ _ h=>h) (Or.inl ⟨by rfl,?ht1x0⟩) (by assumption) ?rt1x0
  case ht1x0=>(intro w hSw;(try dsimp only at hSw);go_simp;(try with_reducible rfl))
  try simp only[ap]
  refine xJ0 (i:=1) (v:=?vt2x1) rfl (by kernel_rfl) (by kernel_rfl) (by kernel_rfl) (by kernel_rfl) (by kernel_rfl) (fun _ _ _ h=>h) (Or.inl ⟨by rfl,?ht2x1⟩) (by assumption) ?rt2x1
  case ht2x1=>(intro w hSw;(try dsimp only at hSw);go_simp;(try with_reducible rfl))
  try simp only[ap]
  refine xJ0 (i:=2) (v:=?vt3x2) rfl (by kernel_rfl) (by kernel_rfl) (by kernel_rfl) (by kernel_rfl) (by kernel_rfl) (fun _ _ _ h=>h) (Or.inl ⟨by rfl,?ht3x2⟩) (by assumption) ?rt3x2
  case ht3x2=>(intro w hSw;(try dsimp only at hSw);go_simp;(try with_reducible rfl))
  try simp only[ap]
  refine xJ0 (i:=4) (v:=?vt4x4) rfl (by kernel_rfl) (by kernel_rfl) (by kernel_rfl) (by kernel_rfl) (by kernel_rfl) (fun _ _ _ h=>h) (Or.inl ⟨by rfl,?ht4x4⟩) (by assumption) ?rt4x4
  case ht4x4=>(intro w hSw;(try dsimp only at hSw);go_simp;(try with_reducible rfl))
  try simp only[ap]
  refine xJ0 (i:=5) (v:=?vt5x5) rfl (by kernel_rfl) (by kernel_rfl) (by kernel_rfl) (by kernel_rfl) (by kernel_rfl) (fun _ _ _ h=>h) (Or.inl ⟨by rfl,?ht5x5⟩) (by assumption) ?rt5x5
  case ht5x5=>(intro w hSw;(try dsimp only at hSw);go_simp;(try with_reducible rfl))
  try simp only[ap]
  refine xJ0 (i:=6) (v:=?vt6x6) rfl (by kernel_rfl) (by kernel_rfl) (by kernel_rfl) (by kernel_rfl) (by kernel_rfl) (fun _ _ _ h=>h) (Or.inl ⟨by rfl,?ht6x6⟩) (by assumption) ?rt6x6
  case ht6x6=>(intro w hSw;(try dsimp only at hSw);go_simp;(try with_reducible rfl))
  try simp only[ap]
  refine xJ0 (i:=8) (v:=?vt7x8) rfl (by kernel_rfl) (by kernel_rfl) (by kernel_rfl) (by kernel_rfl) (by kernel_rfl) (fun _ _ _ h=>h) (Or.inl ⟨by rfl,?ht7x8⟩) (by assumption) ?rt7x8
  case ht7x8=>(intro w hSw;(try dsimp only at hSw);go_simp;(try with_reducible rfl))
  try simp only[ap]
  refine xJ0 (i:=9) (v:=?vt8x9) rfl (by kernel_rfl) (by kernel_rfl) (by kernel_rfl) (by kernel_rfl) (by kernel_rfl) (fun _ _ _ h=>h) (Or.inl ⟨by rfl,?ht8x9⟩) (by assumption) ?rt8x9
  case ht8x9=>(intro w hSw;(try dsimp only at hSw);go_simp;(try with_reducible rfl))
  try simp only[ap]
  refine xJ0 (i:=10) (v:=?vt9x10) rfl (by kernel_rfl) (by kernel_rfl) (by kernel_rfl) (by kernel_rfl) (by kernel_rfl) (fun _ _ _ h=>h) (Or.inl ⟨by rfl,?ht9x10⟩) (by assumption) ?rt9x10
  case ht9x10=>(intro w hSw;(try dsimp only at hSw);go_simp;(try with_reducible rfl))
  try simp only[ap]
  refine xXs (i:=3) (j:=13) (by kernel_rfl) rfl rfl (fun K hK=>?b10c) (fun K hK=>?b10a)
  case b10c=>
   go_simp;go_at_call 47;refine (xXt _ _ _ _ _ _ _ (HM.out.sizes.below bch) hls (hI.below bch) hlv6 HRS.out).mono ?_;rintro e w2 ⟨v3,rfl,hO3,hB2⟩;have D2:=xJ4 w hB2 bch;have d2s:=D2.size;have C2:=Cls.below (l:=[(w.heap.size,0,.slice As m.sizes.length cs),(w.heap.size,1,.slice Ai m.init.length ci),(w.heap.size,2,.slice Ag m.goal.length cg),(w.heap.size,3,.slice Ao m.ops.length co),(w.heap.size+1,0,.slice none 0 0),(w.heap.size+1,1,.slice none 0 0),(w.heap.size+1,2,.slice none 0 0),(w.heap.size+1,3,.slice none 0 0)]) hB2 (by simp[Cls,go_sem,F1,y1w1,y1w0]);have F2:=C2;simp only[Cls,and_true] at F2;have y2w1:w.heap.size+1 < w2.heap.size:=C2.blk (b:=w.heap.size+1) (k:=0) (v:=.slice none 0 0) (by simp);have y2w0:w.heap.size < w2.heap.size:=(by omega);have hz2:=hB2.size
   (try simp at hz2)
   obtain⟨A1,c1,hv3,-,hI3⟩:=hO3.form;subst hv3;have hb3:=hO3.blk_
   (first | simp at hb3 | skip)
   have hSS:w2.cell? ⟨w.heap.size,0,none⟩=some (.slice As m.sizes.length cs)/\w2.cell? ⟨w.heap.size,1,none⟩=some (.slice Ai m.init.length ci)/\w2.cell? ⟨w.heap.size,2,none⟩=some (.slice Ag m.goal.length cg):=(by have q:=C2;simp only[Cls,and_true] at q;simp[q])
   go_wp2_with fail
   refine hK.out _ _ hSS ?_;clear hK K
   try simp only[ap]
   refine xXs (i:=7) (j:=13) (by kernel_rfl) rfl rfl (fun K hK=>?b11c) (fun K hK=>?b11a)
   case b11c=>
    go_simp;go_at_call 47;refine (xXt _ _ _ _ _ _ _ (HM.out.init.below bch) hli (hI.below bch) hlv6 HRI.out).mono ?_;rintro e w3 ⟨v7,rfl,hO7,hB3⟩;have D3:=xJ4 w hB3 bch;have d3s:=D3.size;have Ew2_3:=xJ4 w2 hB3 bch;have C3:=Cls.below (l:=[(w.heap.size,0,.slice As m.sizes.length cs),(w.heap.size,1,.slice Ai m.init.length ci),(w.heap.size,2,.slice Ag m.goal.length cg),(w.heap.size,3,.slice Ao m.ops.length co),(w.heap.size+1,0,.slice none 0 0),(w.heap.size+1,1,.slice none 0 0),(w.heap.size+1,2,.slice none 0 0),(w.heap.size+1,3,.slice none 0 0)]) hB3 (by simp[Cls,go_sem,F2,y2w1,y2w0]);have F3:=C3;simp only[Cls,and_true] at F3;have y3w1:w.heap.size+1 < w3.heap.size:=C3.blk (b:=w.heap.size+1) (k:=0) (v:=.slice none 0 0) (by simp);have y3w0:w.heap.size < w3.heap.size:=(by omega);have hz3:=hB3.size
    (try simp at hz3)
    obtain⟨A2,c2,hv7,-,hI7⟩:=hO7.form;subst hv7;have hb7:=hO7.blk_
    (first | simp at hb7 | skip)
    have hSS:w3.cell? ⟨w.heap.size,0,none⟩=some (.slice As m.sizes.length cs)/\w3.cell? ⟨w.heap.size,1,none⟩=some (.slice Ai m.init.length ci)/\w3.cell? ⟨w.heap.size,2,none⟩=some (.slice Ag m.goal.length cg):=(by have q:=C3;simp only[Cls,and_true] at q;simp[q])
    go_wp2_with fail
    refine hK.out _ _ hSS ?_;clear hK K
    try simp only[ap]
    refine xXs (i:=11) (j:=13) (by kernel_rfl) rfl rfl (fun K hK=>?b12c) (fun K hK=>?b12a)
    case b12c=>
     go_simp;go_at_call 92;refine (xXg _ _ _ _ (HM.out.goal.below bch) hlg100 _ _ _ (hI.below bch) hlv100).mono ?_;rintro e w4 ⟨v11,rfl,hO11,hB4⟩;have D4:=xJ4 w hB4 bch;have Ew2_4:=xJ4 w2 hB4 bch;have Ew3_4:=xJ4 w3 hB4 bch;have C4:=Cls.below (l:=[(w.heap.size,0,.slice As m.sizes.length cs),(w.heap.size,1,.slice Ai m.init.length ci),(w.heap.size,2,.slice Ag m.goal.length cg),(w.heap.size,3,.slice Ao m.ops.length co),(w.heap.size+1,0,.slice none 0 0),(w.heap.size+1,1,.slice none 0 0),(w.heap.size+1,2,.slice none 0 0),(w.heap.size+1,3,.slice none 0 0)]) hB4 (by simp[Cls,go_sem,F3,y3w1,y3w0]);have F4:=C4;simp only[Cls,and_true] at F4;have y4w1:w.heap.size+1 < w4.heap.size:=C4.blk (b:=w.heap.size+1) (k:=0) (v:=.slice none 0 0) (by simp);have y4w0:w.heap.size < w4.heap.size:=(by omega);have hz4:=hB4.size
     (try simp at hz4)
     obtain⟨A3,c3,hv3⟩:=OwnEs.form hO11;subst hv3;have hI11:=hO11.at;have hb11:∀ ad,A3=some ad->_:=fun ad e=>OwnEs.lt hO11 ad.block (by rw[e];rfl)
     (first | simp at hb11 | skip)
     have hSS:w4.cell? ⟨w.heap.size,0,none⟩=some (.slice As m.sizes.length cs)/\w4.cell? ⟨w.heap.size,1,none⟩=some (.slice Ai m.init.length ci)/\w4.cell? ⟨w.heap.size,2,none⟩=some (.slice Ag m.goal.length cg):=(by have q:=C4;simp only[Cls,and_true] at q;simp[q])
     go_wp2_with fail
     refine hK.out _ _ hSS ?_;clear hK K
     try simp only[ap]
     refine xJ0 (i:=12) (v:=?vt13x12) rfl (by kernel_rfl) (by kernel_rfl) (by kernel_rfl) (by kernel_rfl) (by kernel_rfl) (fun _ _ _ h=>h) (Or.inl ⟨by rfl,?ht13x12⟩) (by assumption) ?rt13x12
     case ht13x12=>(intro w hSw;(try dsimp only at hSw);go_simp;(try with_reducible rfl))
     try simp only[ap]
     refine xJ3 (i:=13) (by kernel_rfl) rfl (fun K hK=>?_);go_simp;have hSS:(w4.alloc (.cells #[.slice none 0 0,.slice none 0 0,.slice none 0 0,.slice none 0 0] 43)).cell? ⟨w.heap.size,0,none⟩=some (.slice As m.sizes.length cs)/\(w4.alloc (.cells #[.slice none 0 0,.slice none 0 0,.slice none 0 0,.slice none 0 0] 43)).cell? ⟨w.heap.size,1,none⟩=some (.slice Ai m.init.length ci)/\(w4.alloc (.cells #[.slice none 0 0,.slice none 0 0,.slice none 0 0,.slice none 0 0] 43)).cell? ⟨w.heap.size,2,none⟩=some (.slice Ag m.goal.length cg):=(by simp[go_sem,F4,y4w1,y4w0])
     go_wp2_with fail
     refine hK.out _ _ hSS ?_;clear hK K
     try simp only[ap]
     refine xJc (i:=14) (by kernel_rfl) rfl (by kernel_rfl) (fun K hK=>?_);go_simp
     go_wp2_with fail
     refine hK.out _ _ ?_;clear hK K
     try simp only[ap]
     refine xJ7 (by kernel_rfl) ?_ _
     go_wp2_with fail
     go_meet
     have hne3:∀ ad,A1=some ad->ad.block≠w4.heap.size:=fun ad he=>(by have:=hb3 ad he;omega)
     have hne7:∀ ad,A2=some ad->ad.block≠w4.heap.size:=fun ad he=>(by have:=hb7 ad he;omega)
     have hne11:∀ ad,A3=some ad->ad.block≠w4.heap.size:=fun ad he=>(by have:=hb11 ad he;omega)
     exact⟨w4.heap.size,A1,c1,A2,c2,A3,c3,rfl,(by omega),(by (first | omega | (simp <;> omega))),(hI3.below (w':=(w4.alloc (.cells #[.slice A1 (xXq m.sizes vars).length c1,.slice A2 (xXq m.init vars).length c2,.slice A3 (xJd m.goal vars).length c3,.slice none 0 0] 43))) bch),(hI7.below (w':=(w4.alloc (.cells #[.slice A1 (xXq m.sizes vars).length c1,.slice A2 (xXq m.init vars).length c2,.slice A3 (xJd m.goal vars).length c3,.slice none 0 0] 43))) bch),(hI11.below (w':=(w4.alloc (.cells #[.slice A1 (xXq m.sizes vars).length c1,.slice A2 (xXq m.init vars).length c2,.slice A3 (xJd m.goal vars).length c3,.slice none 0 0] 43))) bch),lHd (fun ad h=>by rcases h with h | h | h;exact⟨by have:=hb3 ad h;omega,by have:=hb3 ad h;(first | omega | (simp <;> omega)),hne3 ad h⟩;exact⟨by have:=hb7 ad h;omega,by have:=hb7 ad h;(first | omega | (simp <;> omega)),hne7 ad h⟩;exact⟨by have:=hb11 ad h;omega,by have:=hb11 ad h;(first | omega | (simp <;> omega)),hne11 ad h⟩),bch,(by simp[Cls,go_sem,F4,y4w1,y4w0]),(by simp[Cls,go_sem,F4,y4w1,y4w0])⟩
    case b12a=>
     go_simp;have hSS:(w3.alloc (.cells #[.slice none 0 0,.slice none 0 0,.slice none 0 0,.slice none 0 0] 43)).cell? ⟨w.heap.size,0,none⟩=some (.slice As m.sizes.length cs)/\(w3.alloc (.cells #[.slice none 0 0,.slice none 0 0,.slice none 0 0,.slice none 0 0] 43)).cell? ⟨w.heap.size,1,none⟩=some (.slice Ai m.init.length ci)/\(w3.alloc (.cells #[.slice none 0 0,.slice none 0 0,.slice none 0 0,.slice none 0 0] 43)).cell? ⟨w.heap.size,2,none⟩=some (.slice Ag m.goal.length cg):=(by simp[go_sem,F3,y3w1,y3w0])
     go_wp2_with fail
     refine hK.out _ _ hSS ?_;clear hK K
     try simp only[ap]
     refine xJ3 (i:=11) (by kernel_rfl) rfl (fun K hK=>?_);go_simp;go_at_call 92;refine (xXg _ _ _ _ (HM.out.goal.below bch) hlg100 _ _ _ (hI.below bch) hlv100).mono ?_;rintro e w4 ⟨v11,rfl,hO11,hB4⟩;have D4:=xJ4 w hB4 bch;have Ew2_4:=xJ4 w2 hB4 bch;have Ew3_4:=xJ4 w3 hB4 bch;have C4:=Cls.below (l:=[(w.heap.size,0,.slice As m.sizes.length cs),(w.heap.size,1,.slice Ai m.init.length ci),(w.heap.size,2,.slice Ag m.goal.length cg),(w.heap.size,3,.slice Ao m.ops.length co),(w.heap.size+1,0,.slice none 0 0),(w.heap.size+1,1,.slice none 0 0),(w.heap.size+1,2,.slice none 0 0),(w.heap.size+1,3,.slice none 0 0),(w3.heap.size,0,.slice none 0 0),(w3.heap.size,1,.slice none 0 0),(w3.heap.size,2,.slice none 0 0),(w3.heap.size,3,.slice none 0 0)]) hB4 (by simp[Cls,go_sem,F3,y3w1,y3w0]);have F4:=C4;simp only[Cls,and_true] at F4;have y4w1:w.heap.size+1 < w4.heap.size:=C4.blk (b:=w.heap.size+1) (k:=0) (v:=.slice none 0 0) (by simp);have y4w0:w.heap.size < w4.heap.size:=(by omega);have y4w30:w3.heap.size < w4.heap.size:=C4.blk (b:=w3.heap.size) (k:=0) (v:=.slice none 0 0) (by simp);have hz4:=hB4.size
     (try simp at hz4)
     obtain⟨A3,c3,hv3⟩:=OwnEs.form hO11;subst hv3;have hI11:=hO11.at;have hb11:∀ ad,A3=some ad->_:=fun ad e=>OwnEs.lt hO11 ad.block (by rw[e];rfl)
     (first | simp at hb11 | skip)
     have hSS:w4.cell? ⟨w.heap.size,0,none⟩=some (.slice As m.sizes.length cs)/\w4.cell? ⟨w.heap.size,1,none⟩=some (.slice Ai m.init.length ci)/\w4.cell? ⟨w.heap.size,2,none⟩=some (.slice Ag m.goal.length cg):=(by have q:=C4;simp only[Cls,and_true] at q;simp[q])
     go_wp2_with fail
     refine hK.out _ _ hSS ?_;clear hK K
     try simp only[ap]
     refine xJ0 (i:=12) (v:=?vt14x12) rfl (by kernel_rfl) (by kernel_rfl) (by kernel_rfl) (by kernel_rfl) (by kernel_rfl) (fun _ _ _ h=>h) (Or.inl ⟨by rfl,?ht14x12⟩) (by assumption) ?rt14x12
     case ht14x12=>(intro w hSw;(try dsimp only at hSw);go_simp;(try with_reducible rfl))
     try simp only[ap]
     refine xJc (i:=14) (by kernel_rfl) rfl (by kernel_rfl) (fun K hK=>?_);go_simp
     go_wp2_with fail
     refine hK.out _ _ ?_;clear hK K
     try simp only[ap]
     refine xJ7 (by kernel_rfl) ?_ _
     go_wp2_with fail
     go_meet
     have hne3:∀ ad,A1=some ad->ad.block≠w3.heap.size:=fun ad he=>(by have:=hb3 ad he;omega)
     have hne7:∀ ad,A2=some ad->ad.block≠w3.heap.size:=fun ad he=>(by have:=hb7 ad he;omega)
     have hne11:∀ ad,A3=some ad->ad.block≠w3.heap.size:=fun ad he=>(by have:=hb11 ad he;omega)
     exact⟨w3.heap.size,A1,c1,A2,c2,A3,c3,rfl,(by omega),(by (first | omega | (simp <;> omega))),(((((hI3.below (w':=w4) bch).far (p:=⟨w3.heap.size,0,none⟩) hne3 _).far (p:=⟨w3.heap.size,1,none⟩) hne3 _).far (p:=⟨w3.heap.size,2,none⟩) hne3 _).far (p:=⟨w3.heap.size,3,none⟩) hne3 _),(((((hI7.below (w':=w4) bch).far (p:=⟨w3.heap.size,0,none⟩) hne7 _).far (p:=⟨w3.heap.size,1,none⟩) hne7 _).far (p:=⟨w3.heap.size,2,none⟩) hne7 _).far (p:=⟨w3.heap.size,3,none⟩) hne7 _),(((((hI11.below (w':=w4) bch).far (p:=⟨w3.heap.size,0,none⟩) hne11 _).far (p:=⟨w3.heap.size,1,none⟩) hne11 _).far (p:=⟨w3.heap.size,2,none⟩) hne11 _).far (p:=⟨w3.heap.size,3,none⟩) hne11 _),lHd (fun ad h=>by rcases h with h | h | h;exact⟨by have:=hb3 ad h;omega,by have:=hb3 ad h;(first | omega | (simp <;> omega)),hne3 ad h⟩;exact⟨by have:=hb7 ad h;omega,by have:=hb7 ad h;(first | omega | (simp <;> omega)),hne7 ad h⟩;exact⟨by have:=hb11 ad h;omega,by have:=hb11 ad h;(first | omega | (simp <;> omega)),hne11 ad h⟩),bch,(by simp[Cls,go_sem,F4,y4w1,y4w0,y4w30]),(by simp[Cls,go_sem,F4,y4w1,y4w0,y4w30])⟩
   case b11a=>
    go_simp;have hSS:(w2.alloc (.cells #[.slice none 0 0,.slice none 0 0,.slice none 0 0,.slice none 0 0] 43)).cell? ⟨w.heap.size,0,none⟩=some (.slice As m.sizes.length cs)/\(w2.alloc (.cells #[.slice none 0 0,.slice none 0 0,.slice none 0 0,.slice none 0 0] 43)).cell? ⟨w.heap.size,1,none⟩=some (.slice Ai m.init.length ci)/\(w2.alloc (.cells #[.slice none 0 0,.slice none 0 0,.slice none 0 0,.slice none 0 0] 43)).cell? ⟨w.heap.size,2,none⟩=some (.slice Ag m.goal.length cg):=(by simp[go_sem,F2,y2w1,y2w0])
    go_wp2_with fail
    refine hK.out _ _ hSS ?_;clear hK K
    try simp only[ap]
    refine xJ3 (i:=7) (by kernel_rfl) rfl (fun K hK=>?_);go_simp;go_at_call 47;refine (xXt _ _ _ _ _ _ _ (HM.out.init.below bch) hli (hI.below bch) hlv6 HRI.out).mono ?_;rintro e w3 ⟨v7,rfl,hO7,hB3⟩;have D3:=xJ4 w hB3 bch;have d3s:=D3.size;have Ew2_3:=xJ4 w2 hB3 bch;have C3:=Cls.below (l:=[(w.heap.size,0,.slice As m.sizes.length cs),(w.heap.size,1,.slice Ai m.init.length ci),(w.heap.size,2,.slice Ag m.goal.length cg),(w.heap.size,3,.slice Ao m.ops.length co),(w.heap.size+1,0,.slice none 0 0),(w.heap.size+1,1,.slice none 0 0),(w.heap.size+1,2,.slice none 0 0),(w.heap.size+1,3,.slice none 0 0),(w2.heap.size,0,.slice none 0 0),(w2.heap.size,1,.slice none 0 0),(w2.heap.size,2,.slice none 0 0),(w2.heap.size,3,.slice none 0 0)]) hB3 (by simp[Cls,go_sem,F2,y2w1,y2w0]);have F3:=C3;simp only[Cls,and_true] at F3;have y3w1:w.heap.size+1 < w3.heap.size:=C3.blk (b:=w.heap.size+1) (k:=0) (v:=.slice none 0 0) (by simp);have y3w0:w.heap.size < w3.heap.size:=(by omega);have y3w20:w2.heap.size < w3.heap.size:=C3.blk (b:=w2.heap.size) (k:=0) (v:=.slice none 0 0) (by simp);have hz3:=hB3.size
    (try simp at hz3)
    obtain⟨A2,c2,hv7,-,hI7⟩:=hO7.form;subst hv7;have hb7:=hO7.blk_
    (first | simp at hb7 | skip)
    have hSS:w3.cell? ⟨w.heap.size,0,none⟩=some (.slice As m.sizes.length cs)/\w3.cell? ⟨w.heap.size,1,none⟩=some (.slice Ai m.init.length ci)/\w3.cell? ⟨w.heap.size,2,none⟩=some (.slice Ag m.goal.length cg):=(by have q:=C3;simp only[Cls,and_true] at q;simp[q])
    go_wp2_with fail
    refine hK.out _ _ hSS ?_;clear hK K
    try simp only[ap]
    refine xJ3 (i:=11) (by kernel_rfl) rfl (fun K hK=>?_);go_simp;go_at_call 92;refine (xXg _ _ _ _ (HM.out.goal.below bch) hlg100 _ _ _ (hI.below bch) hlv100).mono ?_;rintro e w4 ⟨v11,rfl,hO11,hB4⟩;have D4:=xJ4 w hB4 bch;have Ew2_4:=xJ4 w2 hB4 bch;have Ew3_4:=xJ4 w3 hB4 bch;have C4:=Cls.below (l:=[(w.heap.size,0,.slice As m.sizes.length cs),(w.heap.size,1,.slice Ai m.init.length ci),(w.heap.size,2,.slice Ag m.goal.length cg),(w.heap.size,3,.slice Ao m.ops.length co),(w.heap.size+1,0,.slice none 0 0),(w.heap.size+1,1,.slice none 0 0),(w.heap.size+1,2,.slice none 0 0),(w.heap.size+1,3,.slice none 0 0),(w2.heap.size,0,.slice none 0 0),(w2.heap.size,1,.slice none 0 0),(w2.heap.size,2,.slice none 0 0),(w2.heap.size,3,.slice none 0 0)]) hB4 (by simp[Cls,go_sem,F3,y3w1,y3w0,y3w20]);have F4:=C4;simp only[Cls,and_true] at F4;have y4w1:w.heap.size+1 < w4.heap.size:=C4.blk (b:=w.heap.size+1) (k:=0) (v:=.slice none 0 0) (by simp);have y4w0:w.heap.size < w4.heap.size:=(by omega);have y4w20:w2.heap.size < w4.heap.size:=C4.blk (b:=w2.heap.size) (k:=0) (v:=.slice none 0 0) (by simp);have hz4:=hB4.size
    (try simp at hz4)
    obtain⟨A3,c3,hv3⟩:=OwnEs.form hO11;subst hv3;have hI11:=hO11.at;have hb11:∀ ad,A3=some ad->_:=fun ad e=>OwnEs.lt hO11 ad.block (by rw[e];rfl)
    (first | simp at hb11 | skip)
    have hSS:w4.cell? ⟨w.heap.size,0,none⟩=some (.slice As m.sizes.length cs)/\w4.cell? ⟨w.heap.size,1,none⟩=some (.slice Ai m.init.length ci)/\w4.cell? ⟨w.heap.size,2,none⟩=some (.slice Ag m.goal.length cg):=(by have q:=C4;simp only[Cls,and_true] at q;simp[q])
    go_wp2_with fail
    refine hK.out _ _ hSS ?_;clear hK K
    try simp only[ap]
    refine xJ0 (i:=12) (v:=?vt15x12) rfl (by kernel_rfl) (by kernel_rfl) (by kernel_rfl) (by kernel_rfl) (by kernel_rfl) (fun _ _ _ h=>h) (Or.inl ⟨by rfl,?ht15x12⟩) (by assumption) ?rt15x12
    case ht15x12=>(intro w hSw;(try dsimp only at hSw);go_simp;(try with_reducible rfl))
    try simp only[ap]
    refine xJc (i:=14) (by kernel_rfl) rfl (by kernel_rfl) (fun K hK=>?_);go_simp
    go_wp2_with fail
    refine hK.out _ _ ?_;clear hK K
    try simp only[ap]
    refine xJ7 (by kernel_rfl) ?_ _
    go_wp2_with fail
    go_meet
    have hne3:∀ ad,A1=some ad->ad.block≠w2.heap.size:=fun ad he=>(by have:=hb3 ad he;omega)
    have hne7:∀ ad,A2=some ad->ad.block≠w2.heap.size:=fun ad he=>(by have:=hb7 ad he;omega)
    have hne11:∀ ad,A3=some ad->ad.block≠w2.heap.size:=fun ad he=>(by have:=hb11 ad he;omega)
    exact⟨w2.heap.size,A1,c1,A2,c2,A3,c3,rfl,(by omega),(by (first | omega | (simp <;> omega))),(((((hI3.below (w':=w4) bch).far (p:=⟨w2.heap.size,0,none⟩) hne3 _).far (p:=⟨w2.heap.size,1,none⟩) hne3 _).far (p:=⟨w2.heap.size,2,none⟩) hne3 _).far (p:=⟨w2.heap.size,3,none⟩) hne3 _),(((((hI7.below (w':=w4) bch).far (p:=⟨w2.heap.size,0,none⟩) hne7 _).far (p:=⟨w2.heap.size,1,none⟩) hne7 _).far (p:=⟨w2.heap.size,2,none⟩) hne7 _).far (p:=⟨w2.heap.size,3,none⟩) hne7 _),(((((hI11.below (w':=w4) bch).far (p:=⟨w2.heap.size,0,none⟩) hne11 _).far (p:=⟨w2.heap.size,1,none⟩) hne11 _).far (p:=⟨w2.heap.size,2,none⟩) hne11 _).far (p:=⟨w2.heap.size,3,none⟩) hne11 _),lHd (fun ad h=>by rcases h with h | h | h;exact⟨by have:=hb3 ad h;omega,by have:=hb3 ad h;(first | omega | (simp <;> omega)),hne3 ad h⟩;exact⟨by have:=hb7 ad h;omega,by have:=hb7 ad h;(first | omega | (simp <;> omega)),hne7 ad h⟩;exact⟨by have:=hb11 ad h;omega,by have:=hb11 ad h;(first | omega | (simp <;> omega)),hne11 ad h⟩),bch,(by simp[Cls,go_sem,F4,y4w1,y4w0,y4w20]),(by simp[Cls,go_sem,F4,y4w1,y4w0,y4w20])⟩
  case b10a=>
   go_simp;have hSS:(w1.drew.alloc (.cells #[.slice none 0 0,.slice none 0 0,.slice none 0 0,.slice none 0 0] 43)).cell? ⟨w.heap.size,0,none⟩=some (.slice As m.sizes.length cs)/\(w1.drew.alloc (.cells #[.slice none 0 0,.slice none 0 0,.slice none 0 0,.slice none 0 0] 43)).cell? ⟨w.heap.size,1,none⟩=some (.slice Ai m.init.length ci)/\(w1.drew.alloc (.cells #[.slice none 0 0,.slice none 0 0,.slice none 0 0,.slice none 0 0] 43)).cell? ⟨w.heap.size,2,none⟩=some (.slice Ag m.goal.length cg):=(by simp[go_sem,F1,y1w1,y1w0])
   go_wp2_with fail
   refine hK.out _ _ hSS ?_;clear hK K
   try simp only[ap]
   refine xJ3 (i:=3) (by kernel_rfl) rfl (fun K hK=>?_);go_simp;go_at_call 47;refine (xXt _ _ _ _ _ _ _ (HM.out.sizes.below bch) hls (hI.below bch) hlv6 HRS.out).mono ?_;rintro e w2 ⟨v3,rfl,hO3,hB2⟩;have D2:=xJ4 w hB2 bch;have d2s:=D2.size;have C2:=Cls.below (l:=[(w.heap.size,0,.slice As m.sizes.length cs),(w.heap.size,1,.slice Ai m.init.length ci),(w.heap.size,2,.slice Ag m.goal.length cg),(w.heap.size,3,.slice Ao m.ops.length co),(w.heap.size+1,0,.slice none 0 0),(w.heap.size+1,1,.slice none 0 0),(w.heap.size+1,2,.slice none 0 0),(w.heap.size+1,3,.slice none 0 0),(w1.heap.size,0,.slice none 0 0),(w1.heap.size,1,.slice none 0 0),(w1.heap.size,2,.slice none 0 0),(w1.heap.size,3,.slice none 0 0)]) hB2 (by simp[Cls,go_sem,F1,y1w1,y1w0]);have F2:=C2;simp only[Cls,and_true] at F2;have y2w1:w.heap.size+1 < w2.heap.size:=C2.blk (b:=w.heap.size+1) (k:=0) (v:=.slice none 0 0) (by simp);have y2w0:w.heap.size < w2.heap.size:=(by omega);have y2w10:w1.heap.size < w2.heap.size:=C2.blk (b:=w1.heap.size) (k:=0) (v:=.slice none 0 0) (by simp);have hz2:=hB2.size
   (try simp at hz2)
   obtain⟨A1,c1,hv3,-,hI3⟩:=hO3.form;subst hv3;have hb3:=hO3.blk_
   (first | simp at hb3 | skip)
   have hSS:w2.cell? ⟨w.heap.size,0,none⟩=some (.slice As m.sizes.length cs)/\w2.cell? ⟨w.heap.size,1,none⟩=some (.slice Ai m.init.length ci)/\w2.cell? ⟨w.heap.size,2,none⟩=some (.slice Ag m.goal.length cg):=(by have q:=C2;simp only[Cls,and_true] at q;simp[q])
   go_wp2_with fail
   refine hK.out _ _ hSS ?_;clear hK K
   try simp only[ap]
   refine xJ3 (i:=7) (by kernel_rfl) rfl (fun K hK=>?_);go_simp;go_at_call 47;refine (xXt _ _ _ _ _ _ _ (HM.out.init.below bch) hli (hI.below bch) hlv6 HRI.out).mono ?_;rintro e w3 ⟨v7,rfl,hO7,hB3⟩;have D3:=xJ4 w hB3 bch;have d3s:=D3.size;have Ew2_3:=xJ4 w2 hB3 bch;have C3:=Cls.below (l:=[(w.heap.size,0,.slice As m.sizes.length cs),(w.heap.size,1,.slice Ai m.init.length ci),(w.heap.size,2,.slice Ag m.goal.length cg),(w.heap.size,3,.slice Ao m.ops.length co),(w.heap.size+1,0,.slice none 0 0),(w.heap.size+1,1,.slice none 0 0),(w.heap.size+1,2,.slice none 0 0),(w.heap.size+1,3,.slice none 0 0),(w1.heap.size,0,.slice none 0 0),(w1.heap.size,1,.slice none 0 0),(w1.heap.size,2,.slice none 0 0),(w1.heap.size,3,.slice none 0 0)]) hB3 (by simp[Cls,go_sem,F2,y2w1,y2w0,y2w10]);have F3:=C3;simp only[Cls,and_true] at F3;have y3w1:w.heap.size+1 < w3.heap.size:=C3.blk (b:=w.heap.size+1) (k:=0) (v:=.slice none 0 0) (by simp);have y3w0:w.heap.size < w3.heap.size:=(by omega);have y3w10:w1.heap.size < w3.heap.size:=C3.blk (b:=w1.heap.size) (k:=0) (v:=.slice none 0 0) (by simp);have hz3:=hB3.size
   (try simp at hz3)
   obtain⟨A2,c2,hv7,-,hI7⟩:=hO7.form;subst hv7;have hb7:=hO7.blk_
   (first | simp at hb7 | skip)
   have hSS:w3.cell? ⟨w.heap.size,0,none⟩=some (.slice As m.sizes.length cs)/\w3.cell? ⟨w.heap.size,1,none⟩=some (.slice Ai m.init.length ci)/\w3.cell? ⟨w.heap.size,2,none⟩=some (.slice Ag m.goal.length cg):=(by have q:=C3;simp only[Cls,and_true] at q;simp[q])
   go_wp2_with fail
   refine hK.out _ _ hSS ?_;clear hK K
   try simp only[ap]
   refine xJ3 (i:=11) (by kernel_rfl) rfl (fun K hK=>?_);go_simp;go_at_call 92;refine (xXg _ _ _ _ (HM.out.goal.below bch) hlg100 _ _ _ (hI.below bch) hlv100).mono ?_;rintro e w4 ⟨v11,rfl,hO11,hB4⟩;have D4:=xJ4 w hB4 bch;have Ew2_4:=xJ4 w2 hB4 bch;have Ew3_4:=xJ4 w3 hB4 bch;have C4:=Cls.below (l:=[(w.heap.size,0,.slice As m.sizes.length cs),(w.heap.size,1,.slice Ai m.init.length ci),(w.heap.size,2,.slice Ag m.goal.length cg),(w.heap.size,3,.slice Ao m.ops.length co),(w.heap.size+1,0,.slice none 0 0),(w.heap.size+1,1,.slice none 0 0),(w.heap.size+1,2,.slice none 0 0),(w.heap.size+1,3,.slice none 0 0),(w1.heap.size,0,.slice none 0 0),(w1.heap.size,1,.slice none 0 0),(w1.heap.size,2,.slice none 0 0),(w1.heap.size,3,.slice none 0 0)]) hB4 (by simp[Cls,go_sem,F3,y3w1,y3w0,y3w10]);have F4:=C4;simp only[Cls,and_true] at F4;have y4w1:w.heap.size+1 < w4.heap.size:=C4.blk (b:=w.heap.size+1) (k:=0) (v:=.slice none 0 0) (by simp);have y4w0:w.heap.size < w4.heap.size:=(by omega);have y4w10:w1.heap.size < w4.heap.size:=C4.blk (b:=w1.heap.size) (k:=0) (v:=.slice none 0 0) (by simp);have hz4:=hB4.size
   (try simp at hz4)
   obtain⟨A3,c3,hv3⟩:=OwnEs.form hO11;subst hv3;have hI11:=hO11.at;have hb11:∀ ad,A3=some ad->_:=fun ad e=>OwnEs.lt hO11 ad.block (by rw[e];rfl)
   (first | simp at hb11 | skip)
   have hSS:w4.cell? ⟨w.heap.size,0,none⟩=some (.slice As m.sizes.length cs)/\w4.cell? ⟨w.heap.size,1,none⟩=some (.slice Ai m.init.length ci)/\w4.cell? ⟨w.heap.size,2,none⟩=some (.slice Ag m.goal.length cg):=(by have q:=C4;simp only[Cls,and_true] at q;simp[q])
   go_wp2_with fail
   refine hK.out _ _ hSS ?_;clear hK K
   try simp only[ap]
   refine xJ0 (i:=12) (v:=?vt16x12) rfl (by kernel_rfl) (by kernel_rfl) (by kernel_rfl) (by kernel_rfl) (by kernel_rfl) (fun _ _ _ h=>h) (Or.inl ⟨by rfl,?ht16x12⟩) (by assumption) ?rt16x12
   case ht16x12=>(intro w hSw;(try dsimp only at hSw);go_simp;(try with_reducible rfl))
   try simp only[ap]
   refine xJc (i:=14) (by kernel_rfl) rfl (by kernel_rfl) (fun K hK=>?_);go_simp
   go_wp2_with fail
   refine hK.out _ _ ?_;clear hK K
   try simp only[ap]
   refine xJ7 (by kernel_rfl) ?_ _
   go_wp2_with fail
   go_meet
   have hne3:∀ ad,A1=some ad->ad.block≠w1.heap.size:=fun ad he=>(by have:=hb3 ad he;omega)
   have hne7:∀ ad,A2=some ad->ad.block≠w1.heap.size:=fun ad he=>(by have:=hb7 ad he;omega)
   have hne11:∀ ad,A3=some ad->ad.block≠w1.heap.size:=fun ad he=>(by have:=hb11 ad he;omega)
   exact⟨w1.heap.size,A1,c1,A2,c2,A3,c3,rfl,(by omega),(by (first | omega | (simp <;> omega))),(((((hI3.below (w':=w4) bch).far (p:=⟨w1.heap.size,0,none⟩) hne3 _).far (p:=⟨w1.heap.size,1,none⟩) hne3 _).far (p:=⟨w1.heap.size,2,none⟩) hne3 _).far (p:=⟨w1.heap.size,3,none⟩) hne3 _),(((((hI7.below (w':=w4) bch).far (p:=⟨w1.heap.size,0,none⟩) hne7 _).far (p:=⟨w1.heap.size,1,none⟩) hne7 _).far (p:=⟨w1.heap.size,2,none⟩) hne7 _).far (p:=⟨w1.heap.size,3,none⟩) hne7 _),(((((hI11.below (w':=w4) bch).far (p:=⟨w1.heap.size,0,none⟩) hne11 _).far (p:=⟨w1.heap.size,1,none⟩) hne11 _).far (p:=⟨w1.heap.size,2,none⟩) hne11 _).far (p:=⟨w1.heap.size,3,none⟩) hne11 _),lHd (fun ad h=>by rcases h with h | h | h;exact⟨by have:=hb3 ad h;omega,by have:=hb3 ad h;(first | omega | (simp <;> omega)),hne3 ad h⟩;exact⟨by have:=hb7 ad h;omega,by have:=hb7 ad h;(first | omega | (simp <;> omega)),hne7 ad h⟩;exact⟨by have:=hb11 ad h;omega,by have:=hb11 ad h;(first | omega | (simp <;> omega)),hne11 ad h⟩),bch,(by simp[Cls,go_sem,F4,y4w1,y4w0,y4w10]),(by simp[Cls,go_sem,F4,y4w1,y4w0,y4w10])⟩
 case rest=>
  obtain⟨ob,A1,c1,A2,c2,A3,c3,rfl,hob1,hob2,hI1,hI2,hI3,HBK,hBc,hCa,hCb⟩:=hcut;have hCc:Cls wc [(w.heap.size,0,.slice As m.sizes.length cs),(w.heap.size,1,.slice Ai m.init.length ci),(w.heap.size,2,.slice Ag m.goal.length cg),(w.heap.size,3,.slice Ao m.ops.length co),(w.heap.size+1,0,.slice none 0 0),(w.heap.size+1,1,.slice none 0 0),(w.heap.size+1,2,.slice none 0 0),(w.heap.size+1,3,.slice none 0 0),(ob,0,.slice A1 (xXq m.sizes vars).length c1),(ob,1,.slice A2 (xXq m.init vars).length c2),(ob,2,.slice A3 (xJd m.goal vars).length c3),(ob,3,.slice none 0 0)]:=(by simp only[Cls,and_true] at hCa hCb ⊢;simp[hCa,hCb]);clear hCa hCb;have HTO:=lHd (show (toV m vars).ops=m.ops.map fun o=>(⟨xJd o.pre vars,xJd o.post vars,o.cost⟩:MopV) from rfl);have HTL:=lHd (show (toV m vars).ops.length=m.ops.length by rw[HTO.out,List.length_map]);have dcs:=hBc.size;have Fc:=hCc;simp only[Cls,and_true] at Fc;have ycw1:w.heap.size+1 < wc.heap.size:=hCc.blk (b:=w.heap.size+1) (k:=0) (v:=.slice none 0 0) (by simp)
  go_wp2_with fail
  go_loopw [24] (fun i wr=>∃ (k:Nat) (vo:Value),k<=m.ops.length/\i=.int .i64 (k:Int)/\OwnMs wc.heap.size wr vo ((toV m vars).ops.take k)/\Ints wr A1 (xXq m.sizes vars)/\Ints wr A2 (xXq m.init vars)/\AsAt wr A3 (xJd m.goal vars)/\Below w.heap.size w wr/\wc.heap.size<=wr.heap.size/\Cls wr [(w.heap.size,0,.slice As m.sizes.length cs),(w.heap.size,1,.slice Ai m.init.length ci),(w.heap.size,2,.slice Ag m.goal.length cg),(w.heap.size,3,.slice Ao m.ops.length co),(w.heap.size+1,0,.slice none 0 0),(w.heap.size+1,1,.slice none 0 0),(w.heap.size+1,2,.slice none 0 0),(w.heap.size+1,3,.slice none 0 0),(ob,0,.slice A1 (xXq m.sizes vars).length c1),(ob,1,.slice A2 (xXq m.init vars).length c2),(ob,2,.slice A3 (xJd m.goal vars).length c3),(ob,3,vo)]) (fun i _=>m.ops.length - (intOf i).toNat)
  case atStart=>exact⟨0,.slice none 0 0,Nat.zero_le _,rfl,OwnEs.nil _ _,hI1,hI2,hI3,hBc,Nat.le_refl _,hCc⟩
  case round=>
   clear hCc hI1 hI2 hI3;obtain⟨k,vo,hk,rfl,hown,hI1,hI2,hI3,hBr,hsr,hCr⟩:=hrel;obtain⟨wk,rfl⟩:∃ wo:World,wo=wr:=⟨_,rfl⟩;obtain⟨A7,c7,rfl⟩:=OwnEs.form hown;have HLK:Hid (((toV m vars).ops.take k).length=k):=lHd (by rw[List.length_take,HTL.out];omega);rw[HLK.out] at hown hCr;have Fr:=hCr;simp only[Cls,and_true] at Fr;have yrob0:ob < wk.heap.size:=hCr.blk (b:=ob) (k:=0) (v:=.slice A1 (xXq m.sizes vars).length c1) (by simp);have yrw1:w.heap.size+1 < wk.heap.size:=hCr.blk (b:=w.heap.size+1) (k:=0) (v:=.slice none 0 0) (by simp);have yrw0:w.heap.size < wk.heap.size:=(by omega);have hoblt:ob < wc.heap.size:=hob2
   by_cases hlt:k < m.ops.length
   ·obtain⟨ad,o,A5,c5,A6,c6,rfl,ho,hc0,hc1,hc2,hoa0,hoL⟩:=(HM.out.ops.below hBr).at_ (k:=k) hlt;have hoa:=lHd hoa0;obtain⟨hl0,hl1⟩:=hol.out o (lMg ho.out);clear hoa0 hoL;have HTK:=lHd (show ((toV m vars).ops.take (k+1))=((toV m vars).ops.take k) ++ [(⟨xJd o.pre vars,xJd o.post vars,o.cost⟩:MopV)] by rw[List.take_add_one,HTO.out,List.getElem?_map,ho.out];rfl)
    go_wp2_with fail
    have hSS0:(wk.alloc (.cells #[.slice A5 o.pre.length c5,.slice A6 o.post.length c6,.int .i64 o.cost] 156)).drew.cell? ⟨ob,3,none⟩=some (.slice A7 k c7)/\(wk.alloc (.cells #[.slice A5 o.pre.length c5,.slice A6 o.post.length c6,.int .i64 o.cost] 156)).drew.cell? ⟨wk.heap.size,0,none⟩=some (.slice A5 o.pre.length c5)/\(wk.alloc (.cells #[.slice A5 o.pre.length c5,.slice A6 o.post.length c6,.int .i64 o.cost] 156)).drew.cell? ⟨wk.heap.size,1,none⟩=some (.slice A6 o.post.length c6)/\(wk.alloc (.cells #[.slice A5 o.pre.length c5,.slice A6 o.post.length c6,.int .i64 o.cost] 156)).drew.cell? ⟨wk.heap.size,2,none⟩=some (.int .i64 o.cost):=by simp[go_sem,Fr,yrob0,yrw1,yrw0]
    refine xJg (fun W=>W.cell? ⟨ob,3,none⟩=some (.slice A7 k c7)/\W.cell? ⟨wk.heap.size,0,none⟩=some (.slice A5 o.pre.length c5)/\W.cell? ⟨wk.heap.size,1,none⟩=some (.slice A6 o.post.length c6)/\W.cell? ⟨wk.heap.size,2,none⟩=some (.int .i64 o.cost)) [16] (by kernel_rfl) ?_;have hSS:=hSS0;refine xJ0 (i:=0) (v:=?vz10) rfl (by kernel_rfl) (by kernel_rfl) (by kernel_rfl) (by kernel_rfl) (by kernel_rfl) (fun _ _ _ h=>h) (Or.inl ⟨by rfl,?hz10⟩) (by assumption) ?rz10
    case hz10=>(intro w hSw;(try dsimp only at hSw);go_simp;(try with_reducible rfl))
    try simp only[ap]
    refine xJ0 (i:=1) (v:=?vz11) rfl (by kernel_rfl) (by kernel_rfl) (by kernel_rfl) (by kernel_rfl) (by kernel_rfl) (fun _ _ _ h=>h) (Or.inl ⟨by rfl,?hz11⟩) (by assumption) ?rz11
    case hz11=>(intro w hSw;(try dsimp only at hSw);go_simp;(try with_reducible rfl))
    try simp only[ap]
    refine xJ0 (i:=2) (v:=?vz12) rfl (by kernel_rfl) (by kernel_rfl) (by kernel_rfl) (by kernel_rfl) (by kernel_rfl) (fun _ _ _ h=>h) (Or.inl ⟨by rfl,?hz12⟩) (by assumption) ?rz12
    case hz12=>(intro w hSw;(try dsimp only at hSw);go_simp;(try with_reducible rfl))
    try simp only[ap]
    refine xJ0 (i:=3) (v:=?vz13) rfl (by kernel_rfl) (by kernel_rfl) (by kernel_rfl) (by kernel_rfl) (by kernel_rfl) (fun _ _ _ h=>h) (Or.inl ⟨by rfl,?hz13⟩) (by assumption) ?rz13
    case hz13=>(intro w hSw;(try dsimp only at hSw);go_simp;(try with_reducible rfl))
    try simp only[ap]
    refine xJ0 (i:=4) (v:=?vz14) rfl (by kernel_rfl) (by kernel_rfl) (by kernel_rfl) (by kernel_rfl) (by kernel_rfl) (fun _ _ _ h=>h) (Or.inl ⟨by rfl,?hz14⟩) (by assumption) ?rz14
    case hz14=>(intro w hSw;(try dsimp only at hSw);go_simp;(try with_reducible rfl))
    try simp only[ap]
    refine xJ0 (i:=6) (v:=?vz16) rfl (by kernel_rfl) (by kernel_rfl) (by kernel_rfl) (by kernel_rfl) (by kernel_rfl) (fun _ _ _ h=>h) (Or.inl ⟨by rfl,?hz16⟩) (by assumption) ?rz16
    case hz16=>(intro w hSw;(try dsimp only at hSw);go_simp;(try with_reducible rfl))
    try simp only[ap]
    refine xJ0 (i:=7) (v:=?vz17) rfl (by kernel_rfl) (by kernel_rfl) (by kernel_rfl) (by kernel_rfl) (by kernel_rfl) (fun _ _ _ h=>h) (Or.inl ⟨by rfl,?hz17⟩) (by assumption) ?rz17
    case hz17=>(intro w hSw;(try dsimp only at hSw);go_simp;(try with_reducible rfl))
    try simp only[ap]
    refine xJ0 (i:=8) (v:=?vz18) rfl (by kernel_rfl) (by kernel_rfl) (by kernel_rfl) (by kernel_rfl) (by kernel_rfl) (fun _ _ _ h=>h) (Or.inl ⟨by rfl,?hz18⟩) (by assumption) ?rz18
    case hz18=>(intro w hSw;(try dsimp only at hSw);go_simp;(try with_reducible rfl))
    try simp only[ap]
    refine xJ0 (i:=10) (v:=?vz110) rfl (by kernel_rfl) (by kernel_rfl) (by kernel_rfl) (by kernel_rfl) (by kernel_rfl) (fun _ _ _ h=>h) (Or.inl ⟨by rfl,?hz110⟩) (by assumption) ?rz110
    case hz110=>(intro w hSw;(try dsimp only at hSw);go_simp;(try with_reducible rfl))
    try simp only[ap]
    refine xJ0 (i:=11) (v:=?vz111) rfl (by kernel_rfl) (by kernel_rfl) (by kernel_rfl) (by kernel_rfl) (by kernel_rfl) (fun _ _ _ h=>h) (Or.inl ⟨by rfl,?hz111⟩) (by assumption) ?rz111
    case hz111=>(intro w hSw;(try dsimp only at hSw);go_simp;(try with_reducible rfl))
    try simp only[ap]
    refine xJ3 (i:=5) (by kernel_rfl) rfl (fun K hK=>?_);go_simp;go_at_call 92;refine (xXg _ _ _ _ (hoa.out.1.below bch) hl0 _ _ _ (hI.below bch) hlv100).mono ?_;rintro e w2 ⟨v8,rfl,hO8,hB8⟩;have DK2:=xJ4 wk hB8 bch;have DW2:=xJ4 w hB8 bch;have hz2:=hB8.size;simp at hz2;obtain⟨A8,c8,hv8⟩:=OwnEs.form hO8;subst hv8;have C2:Cls w2 [(w.heap.size,0,.slice As m.sizes.length cs),(w.heap.size,1,.slice Ai m.init.length ci),(w.heap.size,2,.slice Ag m.goal.length cg),(w.heap.size,3,.slice (some ad) m.ops.length co),(w.heap.size+1,0,.slice none 0 0),(w.heap.size+1,1,.slice none 0 0),(w.heap.size+1,2,.slice none 0 0),(w.heap.size+1,3,.slice none 0 0),(ob,0,.slice A1 (xXq m.sizes vars).length c1),(ob,1,.slice A2 (xXq m.init vars).length c2),(ob,2,.slice A3 (xJd m.goal vars).length c3),(ob,3,.slice A7 k c7),(wk.heap.size,0,.slice A5 o.pre.length c5),(wk.heap.size,1,.slice A6 o.post.length c6),(wk.heap.size,2,.int .i64 o.cost)]:=Cls.below (w:=(wk.alloc (.cells #[.slice A5 o.pre.length c5,.slice A6 o.post.length c6,.int .i64 o.cost] 156)).drew) hB8 (by simp[Cls,go_sem,Fr,yrob0,yrw1,yrw0]);have HY8:=lHd (vJq (B:=wc.heap.size) (row:=(Value.slice A7 k c7).ownBlock) hO8 (by simp;omega) (fun b hb=>by have:=(OwnEs.lt hown b hb).2;simp;omega));have hSS:w2.cell? ⟨ob,3,none⟩=some (.slice A7 k c7)/\w2.cell? ⟨wk.heap.size,0,none⟩=some (.slice A5 o.pre.length c5)/\w2.cell? ⟨wk.heap.size,1,none⟩=some (.slice A6 o.post.length c6)/\w2.cell? ⟨wk.heap.size,2,none⟩=some (.int .i64 o.cost):=(by have q:=C2;simp only[Cls,and_true] at q;simp[q])
    go_wp2_with fail
    refine hK.out _ _ hSS ?_;clear hK K
    try simp only[ap]
    refine xJ3 (i:=9) (by kernel_rfl) rfl (fun K hK=>?_);go_simp;go_at_call 92;refine (xXg _ _ _ _ (hoa.out.2.below bch) hl1 _ _ _ (hI.below bch) hlv100).mono ?_;rintro e w3 ⟨v9,rfl,hO9,hB9⟩;have DK3:=xJ4 wk hB9 bch;have DW3:=xJ4 w hB9 bch;have hz3:=hB9.size;obtain⟨A9,c9,hv9⟩:=OwnEs.form hO9;subst hv9;have C3:=Cls.below (l:=[(w.heap.size,0,.slice As m.sizes.length cs),(w.heap.size,1,.slice Ai m.init.length ci),(w.heap.size,2,.slice Ag m.goal.length cg),(w.heap.size,3,.slice (some ad) m.ops.length co),(w.heap.size+1,0,.slice none 0 0),(w.heap.size+1,1,.slice none 0 0),(w.heap.size+1,2,.slice none 0 0),(w.heap.size+1,3,.slice none 0 0),(ob,0,.slice A1 (xXq m.sizes vars).length c1),(ob,1,.slice A2 (xXq m.init vars).length c2),(ob,2,.slice A3 (xJd m.goal vars).length c3),(ob,3,.slice A7 k c7),(wk.heap.size,0,.slice A5 o.pre.length c5),(wk.heap.size,1,.slice A6 o.post.length c6),(wk.heap.size,2,.int .i64 o.cost)]) hB9 C2;have HY9:=lHd (vJq (B:=wc.heap.size) (row:=(Value.slice A7 k c7).ownBlock) hO9 (by omega) (fun b hb=>by have:=(OwnEs.lt hown b hb).2;omega));have HY8':=lHd ((xX6 _).below HY8.out hB9);have hown3:OwnMs wc.heap.size w3 (.slice A7 k c7) ((toV m vars).ops.take k):=OwnMs.below hown DK3;have hwk3:wk.heap.size < w3.heap.size:=Cls.blk C3 (b:=wk.heap.size) (k:=0) (v:=.slice A5 o.pre.length c5) (by simp);have F3:=C3;simp only[Cls,and_true] at F3;have hSS:w3.cell? ⟨ob,3,none⟩=some (.slice A7 k c7)/\w3.cell? ⟨wk.heap.size,0,none⟩=some (.slice A5 o.pre.length c5)/\w3.cell? ⟨wk.heap.size,1,none⟩=some (.slice A6 o.post.length c6)/\w3.cell? ⟨wk.heap.size,2,none⟩=some (.int .i64 o.cost):=(by simp[F3])
    go_wp2_with fail
    refine hK.out _ _ hSS ?_;clear hK K
    try simp only[ap]
    refine xJ0 (i:=12) (v:=?vz112) rfl (by kernel_rfl) (by kernel_rfl) (by kernel_rfl) (by kernel_rfl) (by kernel_rfl) (fun _ _ _ h=>h) (Or.inl ⟨by rfl,?hz112⟩) (by assumption) ?rz112
    case hz112=>(intro w hSw;(try dsimp only at hSw);go_simp;(try with_reducible rfl))
    try simp only[ap]
    refine xJ3 (i:=13) (by kernel_rfl) rfl (fun K hK=>?_);go_simp
    go_wp2_with fail
    have hSS:(w3.alloc (.cells #[.slice A8 (xJd o.pre vars).length c8,.slice A9 (xJd o.post vars).length c9,.int .i64 o.cost] 156)).cell? ⟨ob,3,none⟩=some (.slice A7 k c7)/\(w3.alloc (.cells #[.slice A8 (xJd o.pre vars).length c8,.slice A9 (xJd o.post vars).length c9,.int .i64 o.cost] 156)).cell? ⟨wk.heap.size,0,none⟩=some (.slice A5 o.pre.length c5)/\(w3.alloc (.cells #[.slice A8 (xJd o.pre vars).length c8,.slice A9 (xJd o.post vars).length c9,.int .i64 o.cost] 156)).cell? ⟨wk.heap.size,1,none⟩=some (.slice A6 o.post.length c6)/\(w3.alloc (.cells #[.slice A8 (xJd o.pre vars).length c8,.slice A9 (xJd o.post vars).length c9,.int .i64 o.cost] 156)).cell? ⟨wk.heap.size,2,none⟩=some (.int .i64 o.cost):=(by simp[go_sem,F3,hwk3,show ob < w3.heap.size by omega]);refine hK.out _ _ hSS ?_;clear hK K
    try simp only[ap]
    refine xJ3 (i:=14) (by kernel_rfl) rfl (fun K hK=>?_);refine vXu (xKl wc.heap.size) 41 56 (.agg #[.slice none 0 0,.slice none 0 0,.int .i64 0]) Tryz.underlying41 vV2 rfl (by decide) (by decide) rfl (.tmp 29) (.tmp 41) rfl w [(w.heap.size,0,.slice As m.sizes.length cs),(w.heap.size,1,.slice Ai m.init.length ci),(w.heap.size,2,.slice Ag m.goal.length cg),(w.heap.size,3,.slice (some ad) m.ops.length co),(w.heap.size+1,0,.slice none 0 0),(w.heap.size+1,1,.slice none 0 0),(w.heap.size+1,2,.slice none 0 0),(w.heap.size+1,3,.slice none 0 0),(ob,0,.slice A1 (xXq m.sizes vars).length c1),(ob,1,.slice A2 (xXq m.init vars).length c2),(ob,2,.slice A3 (xJd m.goal vars).length c3),(ob,3,.slice A7 k c7)] rfl (OwnMs.below hown3 bch) ⟨w3.heap.size,0,none⟩ 1 rfl [.slice A8 (xJd o.pre vars).length c8,.slice A9 (xJd o.post vars).length c9,.int .i64 o.cost] (⟨xJd o.pre vars,xJd o.post vars,o.cost⟩:MopV) rfl ?n1 ?n2 ?n3 ?n4 ?n5 (by omega) ?n6 ?n7 ?n8 ?nn
    case n1=>(intro j u hu;rcases j with _ | _ | _ | j <;> simp at hu <;> subst hu <;> simp[go_sem])
    case n2=>(intro u hu;simp at hu;rcases hu with rfl | rfl | rfl <;> rfl)
    case n3=>exact⟨A8,c8,A9,c9,rfl,(xX6 _).below HY8'.out bch,(xX6 _).below HY9.out bch⟩
    case n4=>(have:=HLK.out;omega)
    case n5=>(simp;omega)
    case n6=>exact bch
    case n7=>simp[Cls,go_sem,F3,hwk3,show ob < w3.heap.size by omega,show w.heap.size < w3.heap.size by omega,show w.heap.size+1 < w3.heap.size by omega]
    case n8=>(simp;omega)
    intro g6 cg6 w6 hO6 hB6 hC6 hsz6 hG6;simp at hsz6;rw[HLK.out] at hO6 ⊢;have F6:=hC6;simp only[Cls,and_true] at F6;have hbx:∀ (q:Nat) (u:Value),(w3.alloc (.cells #[.slice A8 (xJd o.pre vars).length c8,.slice A9 (xJd o.post vars).length c9,.int .i64 o.cost] 156)).cell? ⟨wk.heap.size,q,none⟩=some u->w6.cell? ⟨wk.heap.size,q,none⟩=some u:=fun q u hh=>(hG6.cell_far ⟨wk.heap.size,q,none⟩ (by simp;omega) (fun e=>by have:=(OwnEs.lt hown _ e.symm).2;simp at this)).trans hh
    have q0:=hbx 0 (.slice A5 o.pre.length c5) (by simp[go_sem,F3,hwk3]);have q1:=hbx 1 (.slice A6 o.post.length c6) (by simp[go_sem,F3,hwk3]);have q2:=hbx 2 (.int .i64 o.cost) (by simp[go_sem,F3,hwk3]);have hSS:w6.cell? ⟨ob,3,none⟩=some (.slice A7 k c7)/\w6.cell? ⟨wk.heap.size,0,none⟩=some (.slice A5 o.pre.length c5)/\w6.cell? ⟨wk.heap.size,1,none⟩=some (.slice A6 o.post.length c6)/\w6.cell? ⟨wk.heap.size,2,none⟩=some (.int .i64 o.cost):=(by have q:=hC6;simp only[Cls,and_true] at q;exact⟨by simp[q],q0,q1,q2⟩);refine hK.out _ _ hSS ?_;clear hK K
    try simp only[ap]
    refine xJl (i:=15) (v:=?vz115) rfl (by kernel_rfl) (by kernel_rfl) (by kernel_rfl) (by kernel_rfl) (by kernel_rfl) (fun _ _ _ h=>h) (Or.inl ⟨by rfl,?hz115⟩) (by assumption) ?rz115
    case hz115=>(intro w hSw;(try dsimp only at hSw);go_simp;(try with_reducible rfl))
    try simp only[ap]
    refine xJc (i:=16) (by kernel_rfl) rfl (by kernel_rfl) (fun K hK=>?_);go_simp
    go_wp2_with fail
    refine hK.out _ _ ?_;clear hK K
    try simp only[ap]
    refine xJ7 (by kernel_rfl) ?_ _;go_wp2
    go_roundw
    case rel=>
     have hne1:∀ ad,A1=some ad->some ad.block≠(Value.slice A7 k c7).ownBlock:=fun ad h e=>(by have h1:=(OwnEs.lt hown _ e.symm).1;have h2:=(HBK.out ad (.inl h)).2.1;omega)
     have hne2:∀ ad,A2=some ad->some ad.block≠(Value.slice A7 k c7).ownBlock:=fun ad h e=>(by have h1:=(OwnEs.lt hown _ e.symm).1;have h2:=(HBK.out ad (.inr (.inl h))).2.1;omega)
     have hne3:∀ ad,A3=some ad->some ad.block≠(Value.slice A7 k c7).ownBlock:=fun ad h e=>(by have h1:=(OwnEs.lt hown _ e.symm).1;have h2:=(HBK.out ad (.inr (.inr h))).2.1;omega)
     refine⟨k+1,.slice (some ⟨g6,0,none⟩) (k+1) cg6,by omega,by go_num,by rw[HTK.out];exact OwnMs.far hO6 (p:=⟨ob,3,none⟩) hoblt _,?_,?_,?_,bch,(by simp;omega),?_⟩
     ·exact ((hI1.below (w':=(w3.alloc (.cells #[.slice A8 (xJd o.pre vars).length c8,.slice A9 (xJd o.post vars).length c9,.int .i64 o.cost] 156))) bch).grown hG6 hne1).far (p:=⟨ob,3,none⟩) (fun ad h=>(HBK.out ad (.inl h)).2.2) _
     ·exact ((hI2.below (w':=(w3.alloc (.cells #[.slice A8 (xJd o.pre vars).length c8,.slice A9 (xJd o.post vars).length c9,.int .i64 o.cost] 156))) bch).grown hG6 hne2).far (p:=⟨ob,3,none⟩) (fun ad h=>(HBK.out ad (.inr (.inl h))).2.2) _
     ·exact ((hI3.below (w':=(w3.alloc (.cells #[.slice A8 (xJd o.pre vars).length c8,.slice A9 (xJd o.post vars).length c9,.int .i64 o.cost] 156))) bch).grown hG6 hne3).far (p:=⟨ob,3,none⟩) (fun ad h=>(HBK.out ad (.inr (.inr h))).2.2) _
     ·simp[Cls,go_sem,F6,show ¬ ob=w.heap.size by omega,show ¬ ob=w.heap.size+1 by omega,show ¬ w.heap.size=ob by omega,show ¬ w.heap.size+1=ob by omega]
    case measure=>simp[intOf];omega
   ·have hke:((toV m vars).ops.take k)=(toV m vars).ops:=List.take_of_length_le (by rw[HTL.out];omega);have hkl:k=(toV m vars).ops.length:=by rw[HTL.out];omega
    have hne1:∀ ad,A1=some ad->ad.block≠w.heap.size+1:=fun ad h=>(by have:=(HBK.out ad (.inl h)).1;omega)
    have hne2:∀ ad,A2=some ad->ad.block≠w.heap.size+1:=fun ad h=>(by have:=(HBK.out ad (.inr (.inl h))).1;omega)
    have hne3:∀ ad,A3=some ad->ad.block≠w.heap.size+1:=fun ad h=>(by have:=(HBK.out ad (.inr (.inr h))).1;omega)
    have hy1:w.heap.size+1 < wc.heap.size:=by omega
    have HKL:=lHd hkl;clear hkl;rw[hke] at hown;have HLS:=lHd (show lenOk (xXq m.sizes vars).length/\lenOk (xXq m.init vars).length/\lenOk (xJd m.goal vars).length/\lenOk (toV m vars).ops.length by
     unfold lenOk;rw[xXv,xXv,HTL.out];have:=xVq m.goal vars;have h1:m.goal.length * vars.length<=100 * 8:=Nat.mul_le_mul hlg hlv;omega)
    have HOL:=lHd (show ∀ o∈(toV m vars).ops,lenOk o.pre.length/\lenOk o.post.length from fun o ho=>by
     rw[HTO.out] at ho;obtain⟨o',ho',rfl⟩:=List.mem_map.1 ho;have h1:=hol.out o' ho';have h2:=xVq o'.pre vars;have h3:=xVq o'.post vars;have h4:o'.pre.length * vars.length<=100 * 8:=Nat.mul_le_mul h1.1 hlv;have h5:o'.post.length * vars.length<=100 * 8:=Nat.mul_le_mul h1.2 hlv;unfold lenOk;exact⟨by show (xJd o'.pre vars).length<=_;omega,by show (xJd o'.post vars).length<=_;omega⟩)
    go_wp2_with fail
    refine bodyPost_ret (v:=.agg #[.slice A1 (xXq m.sizes vars).length c1,.slice A2 (xXq m.init vars).length c2,.slice A3 (xJd m.goal vars).length c3,.slice A7 k c7]) ?_ rfl ⟨A1,A2,A3,A7,c1,c2,c3,c7,by rw[<- HKL.out];rfl,⟨((((hI1.far (p:=⟨w.heap.size+1,0,none⟩) hne1 _).far (p:=⟨w.heap.size+1,1,none⟩) hne1 _).far (p:=⟨w.heap.size+1,2,none⟩) hne1 _).far (p:=⟨w.heap.size+1,3,none⟩) hne1 _),((((hI2.far (p:=⟨w.heap.size+1,0,none⟩) hne2 _).far (p:=⟨w.heap.size+1,1,none⟩) hne2 _).far (p:=⟨w.heap.size+1,2,none⟩) hne2 _).far (p:=⟨w.heap.size+1,3,none⟩) hne2 _),((((hI3.far (p:=⟨w.heap.size+1,0,none⟩) hne3 _).far (p:=⟨w.heap.size+1,1,none⟩) hne3 _).far (p:=⟨w.heap.size+1,2,none⟩) hne3 _).far (p:=⟨w.heap.size+1,3,none⟩) hne3 _),((((hown.far hy1 _).far hy1 _).far hy1 _).far hy1 _).at HOL.out,HLS.out.1,HLS.out.2.1,HLS.out.2.2.1,HLS.out.2.2.2⟩,bch⟩;simp[results,Tryz.results44,go_sem,Fr,yrob0,yrw1,yrw0]
noncomputable def zZp(s:List Int)(l:List (Int×Int)):Bool:=@decide (HoldsV s l) (Classical.propDecidable _)
theorem xVn{s:List Int}{l:List (Int×Int)}:zZp s l=true↔HoldsV s l:=by unfold zZp;exact @decide_eq_true_iff _ (Classical.propDecidable _)
theorem xQq{s:List Int}{l:List (Int×Int)}:zZp s l=false↔¬ HoldsV s l:=by unfold zZp;exact @decide_eq_false_iff_not _ (Classical.propDecidable _)
theorem zJ4:xXm 131:=fun args w=>by kernel_rfl
theorem vZ7(b:Nat)(S:Option Addr)(c:Nat)(s:List Int)(v x:Int)(w:World)(hb:w.cell? ⟨b,0,none⟩=some (.slice S s.length c))(hS:Ints w S s)(hls:s.length<=9223372036854775807)(hv:0<=v/\v < (s.length:Int)) :
  Calls Tryz.prog 131 #[.agg #[.int .i64 v,.int .i64 x],.pointer (some ⟨b,0,none⟩)] w fun e w'=>e=.returned (.bool (decide (xJ2 s v≠x)))/\Below w.heap.size w w':=by
 obtain⟨j,hj⟩:=Int.eq_ofNat_of_zero_le hv.1;subst hj;have hjl:j < s.length:=by omega
 have hbl:=World.block_lt_of_cell? w _ hb;obtain⟨bd,y,rfl,hy,hd⟩:=hS.at_ (k:=j) hjl;have hbd:=World.block_lt_of_cell? w _ hd;have hvy:xJ2 s (j:Int)=y:=xJ5 (by rw[Int.toNat_natCast];exact hy.out);rw[hvy];have hB0:Below w.heap.size w ((w.alloc (.cells #[.int .i64 (j:Int),.int .i64 x] 154)).drew):=bch;go_enter Tryz.func131,Tryz.ntmps131
 go_wp2_with fail
 go_quiet (fail)
 go_wp2;go_ret;exact⟨by (simp[bne] <;> rfl),by first | exact hB0 | exact bch⟩
theorem xV9(w:World)(S A:Option Addr)(c c1:Nat)(s:List Int)(l:List (Int×Int))(hS:Ints w S s)(hls:s.length<=9223372036854775807)(hL:AsAt w A l)(hl:l.length<=9223372036854775807)(hr:∀ v x,(v,x)∈l->0<=v/\v < (s.length:Int)) :
  Calls Tryz.prog 94 #[.slice S s.length c,.slice A l.length c1] w fun e w'=>e=.returned (.bool (zZp s l))/\Below w.heap.size w w':=by
 have HR:=lHd hr;clear hr;have D0:Below w.heap.size w (w.alloc (.cells #[.slice S s.length c] 22)):=(Below.refl _ _).alloc (Nat.le_refl _) _;have hc:(w.alloc (.cells #[.slice S s.length c] 22)).cell? ⟨w.heap.size,0,none⟩=some (.slice S s.length c):=by simp[go_sem]
 have hT:zXy 131 #[.pointer (some ⟨w.heap.size,0,none⟩)] l (fun a=>decide (xJ2 s a.1≠a.2)) (w.alloc (.cells #[.slice S s.length c] 22)):=by
  intro v x hm wr hB;have hc':wr.cell? ⟨w.heap.size,0,none⟩=some (.slice S s.length c):=(hB.cell (World.block_lt_of_cell? _ _ hc)).trans hc;exact vZ7 w.heap.size S c s v x wr hc' ((hS.below D0).below hB) hls (HR.out v x hm)
 by_cases hh:HoldsV s l
 ·have HH:=lHd (xVn.2 hh);have HV:Hid (false=true↔∃ o∈l,decide (xJ2 s o.1≠o.2)=true):=lHd (iff_of_false (by decide) (by rintro ⟨o,ho,h⟩;exact of_decide_eq_true h (hh o ho)));clear hh;go_enter Tryz.func94,Tryz.ntmps94
  go_wp2_with fail
  refine (xZ6 _ _ l _ _ (fun a=>decide (xJ2 s a.1≠a.2)) _ (hL.below D0) hl zJ4 hT false HV.out).mono ?_;rintro e w1 ⟨rfl,hB⟩;go_wp2;go_ret;exact⟨xJh HH.out.symm,xJ4 w hB D0⟩
 ·have HH:=lHd (xQq.2 hh);have HV:Hid (∃ o∈l,decide (xJ2 s o.1≠o.2)=true):=lHd ((Classical.byContradiction fun hn=>hh fun a ha=>Classical.byContradiction fun hne=>hn ⟨a,ha,decide_eq_true hne⟩));clear hh;go_enter Tryz.func94,Tryz.ntmps94
  go_wp2_with fail
  refine (xZ6 _ _ l _ _ (fun a=>decide (xJ2 s a.1≠a.2)) _ (hL.below D0) hl zJ4 hT true (iff_of_true rfl HV.out)).mono ?_;rintro e w1 ⟨rfl,hB⟩;go_wp2;go_ret;exact⟨xJh HH.out.symm,xJ4 w hB D0⟩
theorem zW9(w:World)(c:Nat)(xs:List Int)(hI:Ints w none xs) :
  Calls Tryz.prog 73 #[.slice none xs.length c] w fun e w'=>∃ A' c',e=.returned (.slice A' xs.length c')/\OwnI w.heap.size w' (.slice A' xs.length c') xs/\Below w.heap.size w w':=by
 obtain rfl:=vZm hI;have hq:=fun (w:World) (a:Option Addr) (n c n' c':Nat)=>Lib.run_eql_slice_nil (P:=Tryz.prog) w 22 3 a n c n' c' Tryz.underlying22
 go_enter Tryz.func73,Tryz.ntmps73;go_wp2;go_ret;exact⟨none,0,rfl,OwnI.nil _ _,Below.refl _ _⟩
theorem zVd(w:World)(ad:Addr)(c:Nat)(xs:List Int)(hI:Ints w (some ad) xs)(hl:xs.length<=1000000000000) :
  Calls Tryz.prog 73 #[.slice (some ad) xs.length c] w fun e w'=>∃ A' c',e=.returned (.slice A' xs.length c')/\OwnI w.heap.size w' (.slice A' xs.length c') xs/\Below w.heap.size w w':=by
 obtain⟨i0,hi0,hz⟩:=Option.map_eq_some_iff.1 xXx;simp only[Prod.mk.injEq] at hz;have hq:=fun (w:World) (a:Option Addr) (n c n' c':Nat)=>Lib.run_eql_slice_nil (P:=Tryz.prog) w 22 3 a n c n' c' Tryz.underlying22
 go_enter Tryz.func73,Tryz.ntmps73;have hII:=lHd (hI.below (w':=w.alloc (.cells #[] 3)) bch)
 go_wp2_with (at_builtin;go_must (refine wpList_append_own _ rfl (.tmp 5) (.tmp 6) 22 rfl w.heap.size 3 i0 (.int .i64 0) 1 8 Tryz.underlying22 hi0 hz.1 hz.2.1 hz.2.2 rfl (by decide) (.slice (some ⟨w.heap.size,0,none⟩) 0 0) 0 [] rfl (World.ownsRow_made w #[] 0 (Nat.le_refl _) (by decide) rfl) ad xs.length c (xs.map (Value.int .i64)) rfl (by simp) ?p1 ?p2 ?p3 ?p4 ?p5 ?_;(case p1=>intro j u hu;obtain⟨ad',e,hc⟩:=hII.out j u hu;injection e with e;subst e;exact hc);(case p2=>intro u hu;obtain⟨y,_,rfl⟩:=List.mem_map.1 hu;rfl);(case p3=>(simp only[maxLen];omega));(case p4=>omega);(case p5=>(simp <;> omega));intro v1 w1 h1 h2 h3))
 have h4:OwnI w.heap.size w1 v1 xs:=by
  unfold OwnI;rw[Nat.zero_add,List.nil_append] at h1;exact h1
 have hB1:Below w.heap.size w w1:=xQ0 (base:=w.heap.size) (w:=w.alloc (.cells #[] 3)) bch (World.ownsRow_made w #[] 0 (Nat.le_refl _) (by decide) rfl:(w.alloc (.cells #[] 3)).ownsRow w.heap.size 3 1 (.slice (some ⟨w.heap.size,0,none⟩) 0 0) 0 []) h2 (by simp);obtain⟨A',c',rfl,-⟩:=h4.form;go_wp2;go_ret;exact⟨A',c',rfl,h4,hB1⟩
theorem zWa(w:World)(A:Option Addr)(c:Nat)(xs:List Int)(hI:Ints w A xs)(hl:xs.length<=1000000000000) :
  Calls Tryz.prog 73 #[.slice A xs.length c] w fun e w'=>∃ A' c',e=.returned (.slice A' xs.length c')/\OwnI w.heap.size w' (.slice A' xs.length c') xs/\Below w.heap.size w w':=by
 cases A with
 | none=>exact zW9 w c xs hI
 | some ad=>exact zVd w ad c xs hI hl
theorem vZ8{s:List Int}{l:List (Int×Int)}{k:Nat}{v x:Int}(h:l[k]? = some (v,x)):xXh s (l.take (k+1))=(xXh s (l.take k)).set v.toNat x:=by
 unfold xXh;rw[List.take_add_one,h,List.foldl_append];rfl
theorem vZ9(w:World)(m:MtV)(As Ai Ag Ao:Option Addr)(cs ci cg co:Nat)(hM:MMem w As Ai Ag Ao m)(S:Option Addr)(c:Nat)(s:List Int)(hS:Ints w S s)(hls:s.length<=1000000000000)(i:Nat)(o:MopV)(ho:Hid (m.ops[i]? = some o))(hr:∀ v x,(v,x)∈o.post->0<=v/\v < (s.length:Int)) :
  Calls Tryz.prog 95 #[.agg #[.slice As m.sizes.length cs,.slice Ai m.init.length ci,.slice Ag m.goal.length cg,.slice Ao m.ops.length co],.slice S s.length c,.int .i64 (i:Int)] w fun e w'=>∃ v,e=.returned v/\OwnI w.heap.size w' v (xXh s o.post)/\Below w.heap.size w w':=by
 have HM:=lHd hM;have HR:=lHd hr;clear hM hr;go_enter Tryz.func95,Tryz.ntmps95
 go_wp2_with fail
 refine (zWa _ _ _ _ (hS.below bch) hls).mono ?_;rintro e w1 ⟨A1,c1,rfl,hO1,hB1⟩;have D1:=xJ4 w hB1 bch;have C1:=Cls.below (l:=[(w.heap.size,0,.slice As m.sizes.length cs),(w.heap.size,1,.slice Ai m.init.length ci),(w.heap.size,2,.slice Ag m.goal.length cg),(w.heap.size,3,.slice Ao m.ops.length co)]) hB1 (by simp[Cls,go_sem]);have F1:=C1;simp only[Cls,and_true] at F1;have y1w0:w.heap.size < w1.heap.size:=C1.blk (b:=w.heap.size) (k:=0) (v:=.slice As m.sizes.length cs) (by simp);have hsz1:=hB1.size;obtain⟨ad,o',A0,c0,A2,c2,rfl,ho',hc0,hc1,hc2,hoa,hoL⟩:=(HM.out.ops.below D1).at_ (k:=i) (List.getElem?_eq_some_iff.1 ho.out).1;have:o'=o:=by have h:=ho'.out;rw[ho.out] at h;exact (Option.some.inj h).symm
 subst this;have hoL2:=hoL.2.le;have hil:i < m.ops.length:=(List.getElem?_eq_some_iff.1 ho.out).1;have hil2:(i:Int) < (m.ops.length:Int):=by omega
 have HA:=lHd hoa.2;have hw1A:∀ wk:World,Below w.heap.size w wk->AsAt wk A2 o'.post:=fun wk hBk=>by
  obtain⟨ad',o2,A0',c0',A2',c2',e1,ho2,hd0,hd1,hd2,hoa',_⟩:=HM.out.ops.at_ (k:=i) (List.getElem?_eq_some_iff.1 ho.out).1;injection e1 with e1
  subst e1;have:o2=o':=by have h:=ho2.out;rw[ho.out] at h;exact (Option.some.inj h).symm
  subst this;have h1:=(D1.cell (World.block_lt_of_cell? w _ hd1)).trans hd1;rw[hc1] at h1;injection h1 with h1
  injection h1 with h1
  rw[h1];exact hoa'.2.below hBk
 clear hoa ho'
 go_wp2_with fail
 go_loopw [19] (fun i wr=>∃ k:Nat,k<=o'.post.length/\i=.int .i64 (k:Int)/\OwnI w.heap.size wr (.slice A1 s.length c1) (xXh s (o'.post.take k))/\Below w.heap.size w wr) (fun i _=>o'.post.length - (intOf i).toNat)
 case atStart=>exact⟨0,Nat.zero_le _,rfl,OwnI.mono (by simpa[xXh] using hO1) (by first | (simp;done) | (simp;omega)),D1⟩
 case round=>
  clear hO1;obtain⟨k,hk,rfl,hO,hBr⟩:=hrel;obtain⟨wk,rfl⟩:∃ wo:World,wo=wr:=⟨_,rfl⟩
  by_cases hlt:k < o'.post.length
  ·obtain⟨ad2,v,x,rfl,hx,hx0,hx1⟩:=(hw1A (wk) hBr).at_ (k:=k) hlt;have hvr:=HR.out v x (lMg hx.out);obtain⟨j,hj⟩:=Int.eq_ofNat_of_zero_le hvr.1;subst hj;have hjl:j < (xXh s (o'.post.take k)).length:=by rw[xQn];omega
   obtain⟨g,y,rfl,hg1,hg2,hy,hyc,hyf⟩:=hO.at_ (k:=j) hjl;have HN:=lHd (vZ8 (s:=s) hx.out);have HLN:=lHd (xQn s (o'.post.take k));go_wp2
   go_roundw
   case rel=>exact⟨k+1,by omega,by go_num,by rw[HN.out,Int.toNat_natCast];exact OwnI.below (OwnI.set_ hO HLN.out j x) bch,bch⟩
   case measure=>simp[intOf];omega
  ·have hke:o'.post.take k=o'.post:=List.take_of_length_le (by omega);rw[hke] at hO;go_wp2;go_ret;exact⟨_,rfl,hO,hBr⟩
def ID(p:MtV)(L:List (List Int))(k:Nat)(xs:List Int):Prop:=xs.length=L.length/\∀ (i:Nat) (s:List Int),L[i]? = some s->xs[i]? = some (@ite _ (i < k/\¬ HoldsV s p.goal) (Classical.propDecidable _) 1000000000 0)
theorem ID.start(p:MtV)(L:List (List Int)):ID p L 0 (List.replicate L.length 0):=⟨by simp,fun i s hi=>by
 have:=(List.getElem?_eq_some_iff.1 hi).1;rw[if_neg (by omega),List.getElem?_replicate,if_pos this]⟩
theorem ID.yes{p:MtV}{L:List (List Int)}{k:Nat}{xs s:List Int}(h:ID p L k xs)(hs:L[k]? = some s)(hh:HoldsV s p.goal):ID p L (k+1) xs:=⟨h.1,fun i t hi=>by
 rw[h.2 i t hi]
 by_cases e:i=k
 ·subst e;rw[hs] at hi;obtain rfl:=Option.some.inj hi;rw[if_neg (by omega),if_neg (fun h=>h.2 hh)]
 ·by_cases h1:i < k/\¬ HoldsV t p.goal
  ·rw[if_pos h1,if_pos ⟨by omega,h1.2⟩]
  ·rw[if_neg h1,if_neg (fun h2=>h1 ⟨by omega,h2.2⟩)]⟩
theorem ID.no{p:MtV}{L:List (List Int)}{k:Nat}{xs s:List Int}(h:ID p L k xs)(hs:L[k]? = some s)(hh:¬ HoldsV s p.goal):ID p L (k+1) (xs.set k 1000000000):=⟨by rw[List.length_set];exact h.1,fun i t hi=>by
 have hil:=(List.getElem?_eq_some_iff.1 hi).1
 by_cases e:i=k
 ·subst e;rw[hs] at hi;obtain rfl:=Option.some.inj hi;rw[if_pos ⟨by omega,hh⟩,List.getElem?_set_self (by rw[h.1];exact hil)]
 ·rw[List.getElem?_set_ne (fun k=>e k.symm),h.2 i t hi]
  by_cases h1:i < k/\¬ HoldsV t p.goal
  ·rw[if_pos h1,if_pos ⟨by omega,h1.2⟩]
  ·rw[if_neg h1,if_neg (fun h2=>h1 ⟨by omega,h2.2⟩)]⟩
theorem ID.done{p:MtV}{k:Nat}{xs:List Int}(h:ID p (xWg p.sizes) k xs)(hk:(xWg p.sizes).length<=k):xs=d0V p:=by
 apply List.ext_getElem?;intro i;unfold d0V;rw[List.getElem?_map]
 cases e:(xWg p.sizes)[i]? with
 | none=>
  have:=List.getElem?_eq_none_iff.1 e;rw[List.getElem?_eq_none (by rw[h.1];exact this)];rfl
 | some s=>
  have:=(List.getElem?_eq_some_iff.1 e).1;rw[h.2 i s e];show _=some _;congr 1
  by_cases hh:HoldsV s p.goal
  ·rw[if_neg (fun h=>h.2 hh)];exact (if_pos hh).symm
  ·rw[if_pos ⟨by omega,hh⟩];exact (if_neg hh).symm
theorem vVl{p:MtV}{D s:List Int}{o:MopV}(h:¬ HoldsV s o.pre):zXt p D s o:=fun h1=>absurd h1 h
theorem vXd{p:MtV}{D s:List Int}{o:MopV}(h:xJ2 D (rkA p.sizes (xXh s o.post))=1000000000):zXt p D s o:=fun _ h1=>absurd h h1
theorem vVm{p:MtV}{D s:List Int}{o:MopV}{a d:Int}(h:xJ2 D (rkA p.sizes (xXh s o.post))=d)(ha:xJ2 D (rkA p.sizes s)=a)(hle:¬ d+o.cost < a):zXt p D s o:=fun _ _=>by rw[h,ha];omega
theorem xQ6{α:Type}{P:α->Prop}{l:List α}{k:Nat}{x:α}(hx:l[k]? = some x)(h:∀ y∈l.take k,P y)(hp:P x):∀ y∈l.take (k+1),P y:=fun y hy=>by
 rw[List.take_add_one,hx] at hy;rcases List.mem_append.1 hy with hy | hy
 ·exact h y hy
 ·simp at hy;subst hy;exact hp
structure DTask(m:MtV):Prop where
 l8:m.sizes.length<=8
 s6:∀ j:Nat,j < m.sizes.length->1<=xJ2 m.sizes (j:Int)/\xJ2 m.sizes (j:Int)<=6
 goal:AsOk m.sizes m.goal
 ops:∀ o∈m.ops,(AsOk m.sizes o.pre/\AsOk m.sizes o.post)/\0<=o.cost/\o.cost<=100
 nops:m.ops.length<=40
theorem DTask.sz{m:MtV}(h:DTask m):∀ n∈m.sizes,1<=n:=fun n hn=>by
 obtain⟨j,hj⟩:=List.getElem?_of_mem hn;have h1:=(h.s6 j (List.getElem?_eq_some_iff.1 hj).1).1;rw[xJ5 (v:=n) (by rw[Int.toNat_natCast];exact hj)] at h1;exact h1
theorem AsOk.rngS{sizes s:List Int}{l:List (Int×Int)}(h:AsOk sizes l)(hs:StM sizes s):∀ v x,(v,x)∈l->0<=v/\v < (s.length:Int):=fun v x hm=>by have:=h.rng _ hm;rw[hs.len];exact this.1
theorem AsOk.len8{sizes:List Int}{l:List (Int×Int)}(h:AsOk sizes l):l.length<=sizes.length:=by
 have hp:(l.map (·.1)).Pairwise (· < ·):=List.pairwise_map.2 h.inc;have hS:SetP (l.map (·.1)) (sizes.length:Int):=⟨fun x hx=>by obtain⟨a,ha,rfl⟩:=List.mem_map.1 hx;exact (h.rng a ha).1,fun i x y hx hy=>by
  obtain⟨h1,rfl⟩:=List.getElem?_eq_some_iff.1 hx;obtain⟨h2,rfl⟩:=List.getElem?_eq_some_iff.1 hy;exact List.pairwise_iff_getElem.1 hp i (i+1) h1 h2 (by omega)⟩
 have:=hS.length (by omega);rw[List.length_map] at this;omega
theorem vXe(w:World)(m:MtV)(As Ai Ag Ao:Option Addr)(cs ci cg co:Nat)(hM:MMem w As Ai Ag Ao m)(hd:DTask m) :
  Calls Tryz.prog 45 #[.agg #[.slice As m.sizes.length cs,.slice Ai m.init.length ci,.slice Ag m.goal.length cg,.slice Ao m.ops.length co]] w fun e w'=>∃ g D,e=.returned (.slice (some ⟨g,0,none⟩) (xWg m.sizes).length (xWg m.sizes).length)/\IArr w' g D/\DistOk m (fun s=>xJ2 D (rkA m.sizes s))/\D.length=(xWg m.sizes).length/\Below w.heap.size w w':=by
 have hls:=hM.lsizes.le;have hlo:=hM.lops.le;have HM:=lHd hM;have HD:=lHd hd;have hl8:=hd.l8;have hg8:=hd.goal.len8;have hn40:=hd.nops;have HSZ:=lHd hd.sz;clear hM hd;go_enter Tryz.func45,Tryz.ntmps45
 go_wp2_with fail
 refine (zV2 _ _ _ _ (HM.out.sizes.below bch) hl8 HD.out.s6).mono ?_;rintro e w1 ⟨v3,rfl,hO3,hB1⟩;have D1:=xJ4 w hB1 bch;have C1:=Cls.below (l:=[(w.heap.size,0,.slice As m.sizes.length cs),(w.heap.size,1,.slice Ai m.init.length ci),(w.heap.size,2,.slice Ag m.goal.length cg),(w.heap.size,3,.slice Ao m.ops.length co)]) hB1 (by simp[Cls,go_sem]);have F1:=C1;simp only[Cls,and_true] at F1;have y1w0:w.heap.size < w1.heap.size:=C1.blk (b:=w.heap.size) (k:=0) (v:=.slice As m.sizes.length cs) (by simp);obtain⟨A3,c3,rfl⟩:=OwnEs.form hO3;have HLL:=lHd (Nat.le_trans (zV0 HD.out.s6 (k:=m.sizes.length) (Nat.le_refl _)) (zJn hl8));have HST:=lHd (fun (i:Nat) (s:List Int) (h:(xWg m.sizes)[i]? = some s)=>vYc HSZ.out h);have HID:=lHd (ID.start m (xWg m.sizes));have HDN:=lHd (fun (k:Nat) (xs:List Int) (h:ID m (xWg m.sizes) k xs) hk=>h.done hk);have HLEN:=lHd (fun (D:List Int) (h:RD m D)=>h.len);have HRK:=lHd (fun (s:List Int) (h:StM m.sizes s)=>h.rk);obtain⟨L,hL⟩:∃ L,Hid (xWg m.sizes=L):=⟨_,lHd rfl⟩;have HLL2:=lHd (show (xWg m.sizes).length<=1679616 from HLL.out);rw[hL.out] at hO3 HST HID HDN HLEN HRK HLL2 ⊢;have hLl:L.length<=1679616:=HLL2.out;clear HLL HLL2;have hmk:=zQ0 L.length (by omega)
 go_wp2_with fail
 go_loopw [21] (fun i wr=>∃ (k:Nat) (xs:List Int),k<=L.length/\i=.int .i64 (k:Int)/\IArr wr w1.heap.size xs/\Hid (ID m L k xs)/\Below w1.heap.size w1 wr/\Cls wr [(w.heap.size,0,.slice As m.sizes.length cs),(w.heap.size,1,.slice Ai m.init.length ci),(w.heap.size,2,.slice Ag m.goal.length cg),(w.heap.size,3,.slice Ao m.ops.length co)]) (fun i _=>L.length - (intOf i).toNat)
 case atStart=>exact⟨0,List.replicate L.length 0,Nat.zero_le _,rfl,(by exact IArr.made _ _ _ (by simp)),HID,bch,(by simp[Cls,go_sem,F1,y1w0])⟩
 case round=>
  clear HID;obtain⟨k,xs,hk,rfl,hA,hX,hBr,hCr⟩:=hrel;obtain⟨wk,rfl⟩:∃ wo:World,wo=wr:=⟨_,rfl⟩;have Fr:=hCr;simp only[Cls,and_true] at Fr;have yrw0:w.heap.size < wk.heap.size:=hCr.blk (b:=w.heap.size) (k:=0) (v:=.slice As m.sizes.length cs) (by simp);have DWr:=D1.trans (hBr.mono D1.size)
  by_cases hlt:k < L.length
  ·obtain⟨g3,cs3,s,rfl,_,_,hs,_,hgc,B5,c5,hcs5,hI5,hn5,hle5,hmx5,_⟩:=OwnEs.at_ (OwnLL.below hO3 hBr) (i:=k) hlt;subst hcs5;have z1:=hgc 0 _ rfl;simp only[Nat.add_zero,Nat.mul_one] at z1;clear hgc;have HSM:=lHd (HST.out k s hs.out).1;have hsl:=HSM.out.len;have hsl8:s.length<=9223372036854775807:=by omega
   clear hsl;have hXL:=lHd hX.out.1
   by_cases hh:HoldsV s m.goal
   ·have HN:=lHd (hX.out.yes hs.out hh);have HB:=lHd (xVn.2 hh);clear hh
    go_wp2_with fail
    refine (xV9 _ _ _ _ _ _ _ hI5 hsl8 (HM.out.goal.below bch) (by omega) (HD.out.goal.rngS HSM.out)).mono ?_;rintro e w2 ⟨he,hB2⟩;rw[HB.out] at he;subst he;have D2:=xJ4 w1 hB2 bch;have Ewk_2:=xJ4 wk hB2 bch;have C2:=Cls.below (l:=[(w.heap.size,0,.slice As m.sizes.length cs),(w.heap.size,1,.slice Ai m.init.length ci),(w.heap.size,2,.slice Ag m.goal.length cg),(w.heap.size,3,.slice Ao m.ops.length co)]) hB2 (by simp[Cls,go_sem,Fr,yrw0]);have F2:=C2;simp only[Cls,and_true] at F2;have y2w0:w.heap.size < w2.heap.size:=C2.blk (b:=w.heap.size) (k:=0) (v:=.slice As m.sizes.length cs) (by simp);go_wp2
    go_roundw
    case rel=>exact⟨k+1,xs,by omega,by go_num,hA.below bch,HN,bch,(by simp[Cls,go_sem,F2,y2w0])⟩
    case measure=>simp[intOf];omega
   ·have HN:=lHd (hX.out.no hs.out hh);have HB:=lHd (xQq.2 hh);clear hh
    go_wp2_with fail
    refine (xV9 _ _ _ _ _ _ _ hI5 hsl8 (HM.out.goal.below bch) (by omega) (HD.out.goal.rngS HSM.out)).mono ?_;rintro e w2 ⟨he,hB2⟩;rw[HB.out] at he;subst he;have D2:=xJ4 w1 hB2 bch;have Ewk_2:=xJ4 wk hB2 bch;have C2:=Cls.below (l:=[(w.heap.size,0,.slice As m.sizes.length cs),(w.heap.size,1,.slice Ai m.init.length ci),(w.heap.size,2,.slice Ag m.goal.length cg),(w.heap.size,3,.slice Ao m.ops.length co)]) hB2 (by simp[Cls,go_sem,Fr,yrw0]);have F2:=C2;simp only[Cls,and_true] at F2;have y2w0:w.heap.size < w2.heap.size:=C2.blk (b:=w.heap.size) (k:=0) (v:=.slice As m.sizes.length cs) (by simp);have hA2:=hA.below bch;obtain⟨y,hy,hyc,hyf⟩:=hA2.cell (i:=k) (by rw[hXL.out];exact hlt);have hxl:xs.length=L.length:=hXL.out;go_wp2
    go_roundw
    case rel=>exact⟨k+1,xs.set k 1000000000,by omega,by go_num,hA2.set_ _ _,HN,bch,(by simp[Cls,go_sem,F2,y2w0,show ¬ w1.heap.size=w.heap.size by omega,show ¬ w.heap.size=w1.heap.size by omega])⟩
    case measure=>simp[intOf];omega
  ·have HD0:=lHd (HDN.out k xs hX.out (by omega));rw[HD0.out] at hA;have HR0:=lHd (RD.start (p:=m));clear hX HDN
   go_wp2_with fail
   go_loopg [7] (2 * xXz (d0V m)+1) (fun gk ch wr=>∃ (D:List Int) (b:Bool),ch=.bool b/\Hid (gk=2 * xXz D+b.toNat)/\IArr wr w1.heap.size D/\Hid (RD m D)/\Hid (b=false->∀ (i:Nat) (s:List Int),i < L.length->L[i]? = some s->∀ o∈m.ops,zXt m D s o)/\Below w1.heap.size w1 wr/\Cls wr [(w.heap.size,0,.slice As m.sizes.length cs),(w.heap.size,1,.slice Ai m.init.length ci),(w.heap.size,2,.slice Ag m.goal.length cg),(w.heap.size,3,.slice Ao m.ops.length co)])
   case atStart=>exact⟨_,true,rfl,lHd rfl,hA,HR0,lHd (fun h=>by cases h),bch,(by simp[Cls,go_sem,Fr,yrw0])⟩
   case round=>
    clear hA HR0 HD0;obtain⟨V0,b,rfl,hgk,hA0,hR0,hcl,hBp,hCp⟩:=hrel;obtain⟨w3,rfl⟩:∃ wo:World,wo=wr:=⟨_,rfl⟩;have DWp:=D1.trans (hBp.mono D1.size)
    cases b with
    | false=>
     have HF:=lHd (hR0.out.done (fun s hs o ho=>by
      obtain⟨⟨r0,r1⟩,r2⟩:=HRK.out s hs;exact hcl.out rfl (rkA m.sizes s).toNat s (by omega) r2 o ho))
     have HFL:=lHd (HLEN.out V0 hR0.out);go_wp2;go_ret;exact⟨w1.heap.size,by rw[hL.out];rfl,V0,hA0,HF.out,(by rw[hL.out];exact HFL.out),DWp⟩
    | true=>
     have Fp:=hCp;simp only[Cls,and_true] at Fp;have ypw0:w.heap.size < w3.heap.size:=hCp.blk (b:=w.heap.size) (k:=0) (v:=.slice As m.sizes.length cs) (by simp)
     go_wp2_with fail
     go_loopg [7,38] (L.length) (fun gk ch i wr=>∃ (D:List Int) (b:Bool) (k:Nat),ch=.bool b/\i=.int .i64 (k:Int)/\Hid (k+gk=L.length)/\IArr wr w1.heap.size D/\Hid (RD m D)/\Hid (b=true->xXz D < xXz V0)/\Hid (b=false->xXz D<=xXz V0/\∀ (i:Nat) (s:List Int),i < k->L[i]? = some s->∀ o∈m.ops,zXt m D s o)/\Below w1.heap.size w1 wr/\Cls wr [(w.heap.size,0,.slice As m.sizes.length cs),(w.heap.size,1,.slice Ai m.init.length ci),(w.heap.size,2,.slice Ag m.goal.length cg),(w.heap.size,3,.slice Ao m.ops.length co)])
     case atStart=>exact⟨V0,false,0,rfl,rfl,lHd (by omega),hA0,hR0,lHd (fun h=>by cases h),lHd (fun _=>⟨Nat.le_refl _,fun i s hi=>by omega⟩),bch,(by simp[Cls,go_sem,Fp,ypw0])⟩
     case round=>
      obtain⟨V1,b1,k,rfl,rfl,hkk,hA1,hR1,ht1,hf1,hBs,hCs⟩:=hrel;obtain⟨w4,rfl⟩:∃ wo:World,wo=wr:=⟨_,rfl⟩;obtain⟨g4,rfl⟩:∃ g:Nat,g=gk:=⟨_,rfl⟩;have Fs:=hCs;simp only[Cls,and_true] at Fs;have ysw0:w.heap.size < w4.heap.size:=hCs.blk (b:=w.heap.size) (k:=0) (v:=.slice As m.sizes.length cs) (by simp)
      by_cases hlk:k < L.length
      ·obtain⟨g3,cs3,s,rfl,_,hg2,hs,_,hgc,B5,c5,hcs5,hI5,hn5,hle5,hmx5,_⟩:=OwnEs.at_ hO3 (i:=k) hlk;subst hcs5;have z1w:=hgc 0 _ rfl;simp only[Nat.add_zero,Nat.mul_one] at z1w;have z1:=(hBs.cell (p:=⟨g3,k,none⟩) hg2).trans z1w;clear hgc;have HSM:=lHd (HST.out k s hs.out).1;have HSR:=lHd (HST.out k s hs.out).2;have hsl:=HSM.out.len;have hsl12:s.length<=1000000000000:=by omega
       have hsl63:s.length<=9223372036854775807:=by omega
       clear hsl
       go_wp2_with fail
       go_loopg [7,46] (m.ops.length) (fun gk ch i wr=>∃ (D:List Int) (b:Bool) (j:Nat),ch=.bool b/\i=.int .i64 (j:Int)/\Hid (j+gk=m.ops.length)/\IArr wr w1.heap.size D/\Hid (RD m D)/\Hid (b=true->xXz D < xXz V0)/\Hid (b=false->xXz D<=xXz V0/\(∀ (i:Nat) (s:List Int),i < k->L[i]? = some s->∀ o∈m.ops,zXt m D s o)/\∀ o∈m.ops.take j,zXt m D s o)/\Below w1.heap.size w1 wr/\Cls wr [(w.heap.size,0,.slice As m.sizes.length cs),(w.heap.size,1,.slice Ai m.init.length ci),(w.heap.size,2,.slice Ag m.goal.length cg),(w.heap.size,3,.slice Ao m.ops.length co)])
       case atStart=>exact⟨V1,b1,0,rfl,rfl,lHd (by omega),hA1,hR1,ht1,lHd (fun h=>⟨(hf1.out h).1,(hf1.out h).2,by simp⟩),bch,(by simp[Cls,go_sem,Fs,ysw0])⟩
       case round=>
        obtain⟨V2,b2,j,rfl,rfl,hjj,hA2,hR2,ht2,hf2,hBu,hCu⟩:=hrel;obtain⟨w5,rfl⟩:∃ wo:World,wo=wr:=⟨_,rfl⟩;have DWu:=D1.trans (hBu.mono D1.size);have Fu:=hCu;simp only[Cls,and_true] at Fu;have yuw0:w.heap.size < w5.heap.size:=hCu.blk (b:=w.heap.size) (k:=0) (v:=.slice As m.sizes.length cs) (by simp)
        by_cases hlj:j < m.ops.length
        ·obtain⟨ad,o,A0,c0,A1,c1,rfl,ho,hc0,hc1,hc2,hoa0,hoL⟩:=(HM.out.ops.below DWu).at_ (k:=j) hlj;have HA:=lHd hoa0;have HO:=lHd (HD.out.ops o (lMg ho.out));have hol0:=hoL.1.le;have hoc:=HO.out.2;clear hoa0 hoL;have hj1:=lHd (show j+1+(gk - 1)=m.ops.length/\gk - 1 < gk by have:=hjj.out;omega);have HD2L:=lHd (HLEN.out V2 hR2.out);obtain⟨a0,ha0,ha1,ha2⟩:=hA2.cell (i:=k) (by rw[HD2L.out];exact hlk);have HAV:=lHd (show xJ2 V2 (k:Int)=a0 from xJ5 (by rw[Int.toNat_natCast];exact ha0.out));have hI5':=hI5.below hBu
         by_cases hh:HoldsV s o.pre
         ·have HHH:=lHd hh;have HB:=lHd (xVn.2 hh);clear hh
          go_wp2_with fail
          refine (xV9 _ _ _ _ _ _ _ (hI5'.below bch) hsl63 (HA.out.1.below bch) hol0 (HO.out.1.1.rngS HSM.out)).mono ?_;rintro e w2 ⟨he,hB2⟩;rw[HB.out] at he;subst he;have D2:=xJ4 w1 hB2 bch;have Ew5_2:=xJ4 w5 hB2 bch;have C2:=Cls.below (l:=[(w.heap.size,0,.slice As m.sizes.length cs),(w.heap.size,1,.slice Ai m.init.length ci),(w.heap.size,2,.slice Ag m.goal.length cg),(w.heap.size,3,.slice (some ad) m.ops.length co),(w5.heap.size,0,.slice A0 o.pre.length c0),(w5.heap.size,1,.slice A1 o.post.length c1),(w5.heap.size,2,.int .i64 o.cost)]) hB2 (by simp[Cls,go_sem,Fu,yuw0]);have F2:=C2;simp only[Cls,and_true] at F2;have y2w0:w.heap.size < w2.heap.size:=C2.blk (b:=w.heap.size) (k:=0) (v:=.slice As m.sizes.length cs) (by simp);have y2w50:w5.heap.size < w2.heap.size:=C2.blk (b:=w5.heap.size) (k:=0) (v:=.slice A0 o.pre.length c0) (by simp);obtain⟨nx,hnx⟩:∃ nx,Hid (xXh s o.post=nx):=⟨_,lHd rfl⟩;have HSN:=lHd (show StM m.sizes nx by rw[<- hnx.out];exact HSM.out.next HO.out.1.2);obtain⟨⟨hr0,hr1⟩,_⟩:=HRK.out nx HSN.out;obtain⟨r,hr⟩:=Int.eq_ofNat_of_zero_le hr0;have hrr:=lHd hr;have hr2:r < L.length:=by omega
          have hr3:(r:Int) < (L.length:Int):=by omega
          clear hr0 hr1 hr;have hA6:=hA2.below bch;obtain⟨d,hd,hdc,hdf⟩:=hA6.cell (i:=r) (by rw[HD2L.out];exact hr2);obtain⟨a0',ha0',ha1',ha2'⟩:=hA6.cell (i:=k) (by rw[HD2L.out];exact hlk);obtain rfl:a0'=a0:=by have h1:=ha0.out;rw[ha0'.out] at h1;exact Option.some.inj h1
          have HDV:=lHd (show xJ2 V2 (rkA m.sizes (xXh s o.post))=d from by rw[hnx.out,hrr.out];exact xJ5 (by rw[Int.toNat_natCast];exact hd.out));have hdr:=hR2.out.rng d (lMg hd.out);have hgw2:=Arr.lt hA6;have hks:(k:Int) < (L.length:Int):=by omega
          go_wp2_with fail
          have hSS0:w2.drew.cell? ⟨w.heap.size,0,none⟩=some (.slice As m.sizes.length cs)/\w2.drew.cell? ⟨w.heap.size,1,none⟩=some (.slice Ai m.init.length ci)/\w2.drew.cell? ⟨w.heap.size,2,none⟩=some (.slice Ag m.goal.length cg)/\w2.drew.cell? ⟨w.heap.size,3,none⟩=some (.slice (some ad) m.ops.length co)/\w2.drew.cell? ⟨w1.heap.size,r,none⟩=some (.int .i64 d):=by simp[go_sem,hdc,F2,y2w0,y2w50]
          refine xJg (fun W=>W.cell? ⟨w.heap.size,0,none⟩=some (.slice As m.sizes.length cs)/\W.cell? ⟨w.heap.size,1,none⟩=some (.slice Ai m.init.length ci)/\W.cell? ⟨w.heap.size,2,none⟩=some (.slice Ag m.goal.length cg)/\W.cell? ⟨w.heap.size,3,none⟩=some (.slice (some ad) m.ops.length co)/\W.cell? ⟨w1.heap.size,r,none⟩=some (.int .i64 d)) [10] (by kernel_rfl) ?_;have hSS:=hSS0;refine xJ0 (i:=0) (v:=?vz10) rfl (by kernel_rfl) (by kernel_rfl) (by kernel_rfl) (by kernel_rfl) (by kernel_rfl) (fun _ _ _ h=>h) (Or.inl ⟨by rfl,?hz10⟩) (by assumption) ?rz10
          case hz10=>(intro w hSw;(try dsimp only at hSw);go_simp;(try with_reducible rfl))
          try simp only[ap]
          refine xJ0 (i:=1) (v:=?vz11) rfl (by kernel_rfl) (by kernel_rfl) (by kernel_rfl) (by kernel_rfl) (by kernel_rfl) (fun _ _ _ h=>h) (Or.inl ⟨by rfl,?hz11⟩) (by assumption) ?rz11
          case hz11=>(intro w hSw;(try dsimp only at hSw);go_simp;(try with_reducible rfl))
          try simp only[ap]
          refine xJ0 (i:=2) (v:=?vz12) rfl (by kernel_rfl) (by kernel_rfl) (by kernel_rfl) (by kernel_rfl) (by kernel_rfl) (fun _ _ _ h=>h) (Or.inl ⟨by rfl,?hz12⟩) (by assumption) ?rz12
          case hz12=>(intro w hSw;(try dsimp only at hSw);go_simp;(try with_reducible rfl))
          try simp only[ap]
          refine xJ0 (i:=3) (v:=?vz13) rfl (by kernel_rfl) (by kernel_rfl) (by kernel_rfl) (by kernel_rfl) (by kernel_rfl) (fun _ _ _ h=>h) (Or.inl ⟨by rfl,?hz13⟩) (by assumption) ?rz13
          case hz13=>(intro w hSw;(try dsimp only at hSw);go_simp;(try with_reducible rfl))
          try simp only[ap]
          refine xJ0 (i:=4) (v:=?vz14) rfl (by kernel_rfl) (by kernel_rfl) (by kernel_rfl) (by kernel_rfl) (by kernel_rfl) (fun _ _ _ h=>h) (Or.inl ⟨by rfl,?hz14⟩) (by assumption) ?rz14
          case hz14=>(intro w hSw;(try dsimp only at hSw);go_simp;(try with_reducible rfl))
          try simp only[ap]
          refine xJ0 (i:=5) (v:=?vz15) rfl (by kernel_rfl) (by kernel_rfl) (by kernel_rfl) (by kernel_rfl) (by kernel_rfl) (fun _ _ _ h=>h) (Or.inl ⟨by rfl,?hz15⟩) (by assumption) ?rz15
          case hz15=>(intro w hSw;(try dsimp only at hSw);go_simp;(try with_reducible rfl))
          try simp only[ap]
          refine xJ3 (i:=6) (by kernel_rfl) rfl (fun K hK=>?_);go_simp;go_at_call 95;refine (vZ9 _ _ _ _ _ _ _ _ _ _ (HM.out.below (DWu.trans (Below.mono bch DWu.size))) _ _ _ (hI5'.below bch) hsl12 _ _ ho (HO.out.1.2.rngS HSM.out)).mono ?_;rintro e w6 ⟨v9,rfl,hO9,hB9⟩;rw[hnx.out] at hO9;obtain⟨A9,c9,hv9,-,hI9⟩:=hO9.form;subst hv9;have HI9:=lHd hI9;clear hI9 hO9;have E6:=xJ4 w2 hB9 bch;have C6:=Cls.below (l:=[(w.heap.size,0,.slice As m.sizes.length cs),(w.heap.size,1,.slice Ai m.init.length ci),(w.heap.size,2,.slice Ag m.goal.length cg),(w.heap.size,3,.slice (some ad) m.ops.length co),(w5.heap.size,0,.slice A0 o.pre.length c0),(w5.heap.size,1,.slice A1 o.post.length c1),(w5.heap.size,2,.int .i64 o.cost)]) E6 C2;have F6:=C6;simp only[Cls,and_true] at F6;have H56:Below w5.heap.size w5 w6:=Below.trans bch (E6.mono (by have:=(Ew5_2).size;omega));have DF:Below w1.heap.size w1 w6:=hBu.trans (H56.mono hBu.size);have hA7:=hA6.below E6;have hdc7:=(E6.cell (p:=⟨w1.heap.size,r,none⟩) hgw2).trans hdc;have ha17:=(E6.cell (p:=⟨w1.heap.size,k,none⟩) hgw2).trans ha1';have ha27:=(E6.frozen (p:=⟨w1.heap.size,k,none⟩) hgw2).trans ha2';have hSS:w6.cell? ⟨w.heap.size,0,none⟩=some (.slice As m.sizes.length cs)/\w6.cell? ⟨w.heap.size,1,none⟩=some (.slice Ai m.init.length ci)/\w6.cell? ⟨w.heap.size,2,none⟩=some (.slice Ag m.goal.length cg)/\w6.cell? ⟨w.heap.size,3,none⟩=some (.slice (some ad) m.ops.length co)/\w6.cell? ⟨w1.heap.size,r,none⟩=some (.int .i64 d):=(by simp[F6,hdc7])
          go_wp2_with fail
          refine hK.out _ _ hSS ?_;clear hK K
          try simp only[ap]
          refine xJ3 (i:=7) (by kernel_rfl) rfl (fun K hK=>?_);go_simp;go_at_call 46;refine (zZ0 _ _ _ _ _ _ _ (HM.out.sizes.below (DWu.trans ((Below.trans bch (E6.mono (by (have:=(Ew5_2).size;omega)))).mono DWu.size))) HI9.out hl8 HSN.out (fun j hj=>(HD.out.s6 j hj).2)).mono ?_;rintro e w9 ⟨he,rfl⟩;rw[hrr.out] at he;subst he;have hSS:w6.cell? ⟨w.heap.size,0,none⟩=some (.slice As m.sizes.length cs)/\w6.cell? ⟨w.heap.size,1,none⟩=some (.slice Ai m.init.length ci)/\w6.cell? ⟨w.heap.size,2,none⟩=some (.slice Ag m.goal.length cg)/\w6.cell? ⟨w.heap.size,3,none⟩=some (.slice (some ad) m.ops.length co)/\w6.cell? ⟨w1.heap.size,r,none⟩=some (.int .i64 d):=(by simp[F6,hdc7])
          go_wp2_with fail
          refine hK.out _ _ hSS ?_;clear hK K
          try simp only[ap]
          refine xJ0 (i:=8) (v:=?vz18) rfl (by kernel_rfl) (by kernel_rfl) (by kernel_rfl) (by kernel_rfl) (by kernel_rfl) (fun _ _ _ h=>h) (Or.inl ⟨by rfl,?hz18⟩) (by assumption) ?rz18
          case hz18=>(intro w hSw;(try dsimp only at hSw);go_simp;(try with_reducible rfl))
          try simp only[ap]
          refine xJ0 (i:=9) (v:=?vz19) rfl (by kernel_rfl) (by kernel_rfl) (by kernel_rfl) (by kernel_rfl) (by kernel_rfl) (fun _ _ _ h=>h) (Or.inl ⟨by rfl,?hz19⟩) (by assumption) ?rz19
          case hz19=>(intro w hSw;(try dsimp only at hSw);go_simp;(try with_reducible rfl))
          try simp only[ap]
          refine xJc (i:=10) (by kernel_rfl) rfl (by kernel_rfl) (fun K hK=>?_);go_simp
          go_wp2_with fail
          refine hK.out _ _ ?_;clear hK K
          try simp only[ap]
          refine xJ7 (by kernel_rfl) ?_ _
          go_wp2_with fail
          by_cases hinf:d=1000000000
          ·have hd1:(d != 1000000000)=false:=by simp[hinf]
           have HN:=lHd (vXd (p:=m) (D:=V2) (s:=s) (o:=o) (by rw[HDV.out,hinf]))
           go_quiet (fail)
           go_wp2
           go_roundg (gk - 1)
           case measure=>exact hj1.out.2
           case rel=>exact⟨V2,b2,j+1,rfl,by go_num,lHd hj1.out.1,hA7.below bch,hR2,ht2,lHd (fun h=>⟨(hf2.out h).1,(hf2.out h).2.1,xQ6 ho.out (hf2.out h).2.2 HN.out⟩),bch,(by simp[Cls,go_sem,F6])⟩
          ·have hd1:(d != 1000000000)=true:=by simp[hinf]
           have hwr:IntKind.i64.wrap (d+o.cost)=d+o.cost:=zJl (by omega)
           by_cases hlt:d+o.cost < a0'
           ·have hd2:decide (d+o.cost < a0')=true:=decide_eq_true hlt;have HRN:=lHd (hR2.out.upd HSZ.out (i:=k) (q:=j) (by rw[hL.out];exact hs.out) ho.out HHH.out (HSM.out.next HO.out.1.2) HO.out.2.1 HDV.out hinf HAV.out hlt);have HSS:=lHd (xW3 ha0.out (show 0<=d+o.cost by omega) hlt);have HTT:=lHd (show xXz V2<=xXz V0 by
             cases b2 with
             | true=>have:=ht2.out rfl;omega
             | false=>exact (hf2.out rfl).1)
            go_quiet (fail)
            go_wp2
            go_roundg (gk - 1)
            case measure=>exact hj1.out.2
            case rel=>exact⟨V2.set k (d+o.cost),true,j+1,rfl,by go_num,lHd hj1.out.1,(by first | exact hA7.set_ k _ | exact IArr.below (hA7.set_ k _) bch),HRN,lHd (fun _=>by have:=HSS.out;have:=HTT.out;omega),lHd (fun h=>by cases h),bch,(by simp[Cls,go_sem,F6,show ¬ w1.heap.size=w.heap.size by omega,show ¬ w.heap.size=w1.heap.size by omega])⟩
           ·have hd2:decide (d+o.cost < a0')=false:=decide_eq_false hlt;have HN:=lHd (vVm (p:=m) (D:=V2) (s:=s) (o:=o) HDV.out (by rw[HSR.out];exact HAV.out) hlt)
            go_quiet (fail)
            go_wp2
            go_roundg (gk - 1)
            case measure=>exact hj1.out.2
            case rel=>exact⟨V2,b2,j+1,rfl,by go_num,lHd hj1.out.1,hA7.below bch,hR2,ht2,lHd (fun h=>⟨(hf2.out h).1,(hf2.out h).2.1,xQ6 ho.out (hf2.out h).2.2 HN.out⟩),bch,(by simp[Cls,go_sem,F6])⟩
         ·have HN:=lHd (vVl (p:=m) (D:=V2) hh);have HB:=lHd (xQq.2 hh);clear hh
          go_wp2_with fail
          refine (xV9 _ _ _ _ _ _ _ (hI5'.below bch) hsl63 (HA.out.1.below bch) hol0 (HO.out.1.1.rngS HSM.out)).mono ?_;rintro e w2 ⟨he,hB2⟩;rw[HB.out] at he;subst he;have D2:=xJ4 w1 hB2 bch;have Ew5_2:=xJ4 w5 hB2 bch;have C2:=Cls.below (l:=[(w.heap.size,0,.slice As m.sizes.length cs),(w.heap.size,1,.slice Ai m.init.length ci),(w.heap.size,2,.slice Ag m.goal.length cg),(w.heap.size,3,.slice (some ad) m.ops.length co),(w5.heap.size,0,.slice A0 o.pre.length c0),(w5.heap.size,1,.slice A1 o.post.length c1),(w5.heap.size,2,.int .i64 o.cost)]) hB2 (by simp[Cls,go_sem,Fu,yuw0]);have F2:=C2;simp only[Cls,and_true] at F2;have y2w0:w.heap.size < w2.heap.size:=C2.blk (b:=w.heap.size) (k:=0) (v:=.slice As m.sizes.length cs) (by simp);have y2w50:w5.heap.size < w2.heap.size:=C2.blk (b:=w5.heap.size) (k:=0) (v:=.slice A0 o.pre.length c0) (by simp);go_wp2
          go_roundg (gk - 1)
          case measure=>exact hj1.out.2
          case rel=>exact⟨V2,b2,j+1,rfl,by go_num,lHd hj1.out.1,hA2.below bch,hR2,ht2,lHd (fun h=>⟨(hf2.out h).1,(hf2.out h).2.1,xQ6 ho.out (hf2.out h).2.2 HN.out⟩),bch,(by simp[Cls,go_sem,F2,y2w0,y2w50])⟩
        ·have hk1:=lHd (show k+1+(g4 - 1)=L.length/\g4 - 1 < g4 by have:=hkk.out;omega);have hjm:=lHd (show m.ops.take j=m.ops from List.take_of_length_le (by omega));go_wp2
         go_roundg (g4 - 1)
         case measure=>exact hk1.out.2
         case rel=>exact⟨V2,b2,k+1,rfl,by go_num,lHd hk1.out.1,hA2,hR2,ht2,lHd (fun h=>⟨(hf2.out h).1,fun i t hi ht=>by
          by_cases e:i=k
          ·subst e;rw[hs.out] at ht;obtain rfl:=Option.some.inj ht;have h3:=(hf2.out h).2.2;rw[hjm.out] at h3;exact h3
          ·exact (hf2.out h).2.1 i t (by omega) ht⟩),bch,(by simp[Cls,go_sem,Fu,yuw0])⟩
      ·have hke:=lHd (show k=L.length by have:=hkk.out;omega);go_wp2
       go_roundg (2 * xXz V1+b1.toNat)
       case measure=>
        rw[hgk.out]
        cases b1 with
        | true=>have:=ht1.out rfl;simp;omega
        | false=>have:=(hf1.out rfl).1;simp;omega
       case rel=>exact⟨V1,b1,rfl,lHd rfl,hA1,hR1,lHd (fun h=>by rw[<- hke.out];exact (hf1.out h).2),bch,(by simp[Cls,go_sem,Fs,ysw0])⟩
end Go.Proofs.YtpeipeljmapkmaaGreat
