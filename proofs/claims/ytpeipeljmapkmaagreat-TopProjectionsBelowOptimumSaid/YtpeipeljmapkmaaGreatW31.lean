/-
  Lemmas for the law: Tpl, Tms.
-/
import Derived.Test.YtpeipeljmapkmaaGreatW30
import Derived.Test.YtpeipeljmapkmaaGreatW16
set_option linter.unusedVariables false
set_option linter.unusedSimpArgs false
set_option maxRecDepth 100000
set_option maxHeartbeats 4000000
namespace Go.Proofs.YtpeipeljmapkmaaGreat
open Go.RowKit
section
open Go.Shelf
theorem vJ2{ops:List OpV}(ps:List Nat):xQk ops (ps.map Int.ofNat)=xJ9 (ops.map (·.cost)) ps:=by
 unfold xQk xJ9;rw[List.map_map];rfl
theorem xY5{B:Nat}{w:World}{v:Value}{xs:List Int}(h:OwnI B w v xs){p:Addr}(hp:p.block < B)(u:Value):OwnI B (w.setCell p u) v xs:=ownsRow_setCell_below h hp u
theorem Pth.rng2{n:Nat}{ops:List OpV}{st l:List Int}{ps:List Nat}(h:Pth n ops st l ps):∀ x∈ps.map Int.ofNat,0<=x/\x < (ops.length:Int):=fun x hx=>by
 obtain⟨p,hp,rfl⟩:=List.mem_map.1 hx;have:=h.rng p hp;exact⟨Int.natCast_nonneg _,by show (p:Int) < _;omega⟩
def PlanP(n:Nat)(t:TaskV)(w:World)(e:Ending)(w':World):Prop:=Below w.heap.size w w' /\
 (
   (e=.returned (.tuple #[.agg #[.bool false,.slice none 0 0,.int .i64 0,.int .i64 0],.agg #[.int .i64 10,.int .i64 (-7)]])/\∃ ls:List (List Int),ls.Nodup/\ls.length=2001/\∀ l∈ls,∃ c,Cst n t.ops t.init l c) \/
   (∃ ne:Nat,e=.returned (.tuple #[.agg #[.bool false,.slice none 0 0,.int .i64 0,.int .i64 ne],.agg #[.int .i64 0,.int .i64 0]])/\zZ9 n t) \/
   (∃ (l:List Int) (ps:List Nat),Pth n t.ops t.init l ps/\(∀ q∈t.goal,q∈l)/\vX8 n t ps /\
    ((60 < ps.length/\e=.returned (.tuple #[.agg #[.bool false,.slice none 0 0,.int .i64 0,.int .i64 0],.agg #[.int .i64 10,.int .i64 (-9)]]))\/(ps.length<=60/\∃ (v:Value) (ne:Nat),e=.returned (.tuple #[.agg #[.bool true,v,.int .i64 (xJ9 (t.ops.map (·.cost)) ps),.int .i64 ne],.agg #[.int .i64 0,.int .i64 0]])/\∃ B,w.heap.size<=B/\OwnI B w' v (ps.map Int.ofNat)))))
def CkR(n:Nat)(t:TaskV)(B:Nat)(W:World)(v:Value)(c1 c2:Int):Prop:=(c1=10/\c2 = -7/\∃ ls:List (List Int),ls.Nodup/\ls.length=2001/\∀ l∈ls,∃ c,Cst n t.ops t.init l c) \/
 (c1=0/\c2=0/\∃ (g:Nat) (ls:List (List Int)),v=.pointer (some ⟨g,0,none⟩)/\WMem B W g t/\Clos n t.ops t.init ls/\ls.length<=2000)
theorem Cls.lowT{B:Nat}{W W':World}:∀ {l:List (Nat×Nat×Value)},Cls W l->Below B W W'->(∀ x∈l,x.1 < B)->Cls W' l
 | [],_,_,_=>trivial
 | (b,k,v) :: r,h,hb,hl=>by
  obtain⟨⟨h1,h2⟩,h3⟩:=h;have hl1:b < B:=hl (b,k,v) (List.mem_cons_self ..);exact⟨⟨(hb.cell (p:=⟨b,k,none⟩) hl1).trans h1,(hb.frozen (p:=⟨b,k,none⟩) hl1).trans h2⟩,Cls.lowT h3 hb (fun x hx=>hl x (List.mem_cons_of_mem _ hx))⟩
theorem CheckedP.form{n:Nat}{t:TaskV}{w w':World}{e:Ending}(h:CheckedP n t w e w'):Below w.heap.size w w'/\∃ (v6 v7:Value) (c1 c2:Int),e=.returned (.tuple #[v6,v7,.agg #[.int .i64 c1,.int .i64 c2]])/\CkR n t w.heap.size w' v6 c1 c2:=by
 obtain⟨hB,h | ⟨g,v,ls,rfl,hW,hO,hC,hl⟩⟩:=h
 ·exact⟨hB,_,_,10,-7,h.1,.inl ⟨rfl,rfl,h.2⟩⟩
 ·exact⟨hB,_,_,0,0,rfl,.inr ⟨rfl,rfl,g,ls,rfl,hW,hC,hl⟩⟩
theorem CkR.mono{n:Nat}{t:TaskV}{B B':Nat}{W:World}{v:Value}{c1 c2:Int}(h:CkR n t B W v c1 c2)(hb:B'<=B):CkR n t B' W v c1 c2:=by
 rcases h with h | ⟨h1,h2,g,ls,h3,h4,h5⟩
 ·exact .inl h
 ·exact .inr ⟨h1,h2,g,ls,h3,h4.mono hb,h5⟩
theorem CkR.below{n:Nat}{t:TaskV}{B:Nat}{W W':World}{v:Value}{c1 c2:Int}(h:CkR n t B W v c1 c2)(hb:Below W.heap.size W W'):CkR n t B W' v c1 c2:=by
 rcases h with h | ⟨h1,h2,g,ls,h3,h4,h5⟩
 ·exact .inl h
 ·exact .inr ⟨h1,h2,g,ls,h3,h4.below hb,h5⟩
theorem CkR.low{n:Nat}{t:TaskV}{B:Nat}{W:World}{v:Value}{c1 c2:Int}(h:CkR n t B W v c1 c2){p:Addr}(hp:p.block < B)(u:Value):CkR n t B (W.setCell p u) v c1 c2:=by
 rcases h with h | ⟨h1,h2,g,ls,h3,h4,h5⟩
 ·exact .inl h
 ·exact .inr ⟨h1,h2,g,ls,h3,h4.set_low hp u,h5⟩
def CkI(n:Nat)(t:TaskV)(B:Nat)(W:World)(v:Value)(c1 c2:Int):Prop:=c1=(xX2 t).1/\c2=(xX2 t).2
theorem CkI.mono{n:Nat}{t:TaskV}{B B':Nat}{W:World}{v:Value}{c1 c2:Int}(h:CkI n t B W v c1 c2)(hb:B'<=B):CkI n t B' W v c1 c2:=h
theorem CkI.below{n:Nat}{t:TaskV}{B:Nat}{W W':World}{v:Value}{c1 c2:Int}(h:CkI n t B W v c1 c2)(hb:Below W.heap.size W W'):CkI n t B W' v c1 c2:=h
theorem CkI.low{n:Nat}{t:TaskV}{B:Nat}{W:World}{v:Value}{c1 c2:Int}(h:CkI n t B W v c1 c2){p:Addr}(hp:p.block < B)(u:Value):CkI n t B (W.setCell p u) v c1 c2:=h
theorem vYr(w:World)(t:TaskV)(Ai Ag Ao:Option Addr)(ci cg co:Nat)(hT:TaskMem w Ai Ag Ao t)(n:Nat)(hn:t.facts=n)(hv:Valid t) :
  Calls Tryz.prog 9 #[.agg #[.int .i64 t.facts,.slice Ai t.init.length ci,.slice Ag t.goal.length cg,.slice Ao t.ops.length co],.int .i64 4] w ((PlanP n t w)):=by
 have HCK:∀ w0:World,TaskMem w0 Ai Ag Ao t->Calls Tryz.prog 26 #[.agg #[.int .i64 t.facts,.slice Ai t.init.length ci,.slice Ag t.goal.length cg,.slice Ao t.ops.length co],.bool true] w0 (CheckedP n t w0):=fun w0 h=>zWj w0 t Ai Ag Ao ci cg co h n hn hv
 have HV:=lHd hv;have HN:=lHd hn;clear hv hn;go_enter Tryz.func9,Tryz.ntmps9
 go_wp2_with fail
 go_upto_region 1 with fail
 go_cut [6,7,8] (fun s6 s7 s8 wx=>∃ (bx:Nat) (c1 c2:Int),s8=.pointer (some ⟨bx,0,none⟩)/\w.heap.size+1+1 < bx/\Arr wx bx 27 [.int .i64 c1,.int .i64 c2]/\CkR n t w.heap.size wx s6 c1 c2/\Below w.heap.size w wx/\Cls wx [(w.heap.size,0,.int .i64 t.facts),(w.heap.size,1,.slice Ai t.init.length ci),(w.heap.size,2,.slice Ag t.goal.length cg),(w.heap.size,3,.slice Ao t.ops.length co),(w.heap.size+1,0,.bool false),(w.heap.size+1,1,.slice none 0 0),(w.heap.size+1,2,.int .i64 0),(w.heap.size+1,3,.int .i64 0),(w.heap.size+1+1,0,.int .i64 0),(w.heap.size+1+1,1,.int .i64 0)])
 case first=>
  obtain⟨wz,hwz⟩:∃ x,Hid (x=(((w.alloc (.cells #[.int .i64 t.facts,.slice Ai t.init.length ci,.slice Ag t.goal.length cg,.slice Ao t.ops.length co] 25)).alloc (.cells #[.bool false,.slice none 0 0,.int .i64 0,.int .i64 0] 32)).alloc (.cells #[.int .i64 0,.int .i64 0] 27)).drew):=⟨_,rfl⟩;have Cz:Cls wz [(w.heap.size,0,.int .i64 t.facts),(w.heap.size,1,.slice Ai t.init.length ci),(w.heap.size,2,.slice Ag t.goal.length cg),(w.heap.size,3,.slice Ao t.ops.length co),(w.heap.size+1,0,.bool false),(w.heap.size+1,1,.slice none 0 0),(w.heap.size+1,2,.int .i64 0),(w.heap.size+1,3,.int .i64 0),(w.heap.size+1+1,0,.int .i64 0),(w.heap.size+1+1,1,.int .i64 0)]:=by rw[hwz.out];simp[Cls,go_sem]
  have Dz:Below w.heap.size w wz:=by rw[hwz.out];exact mvh
  have zz0:Hid (wz.heap.size=w.heap.size+1+1+1):=by show _=_;rw[hwz.out];simp
  have zz1:w.heap.size+1+1 < wz.heap.size:=by have:=zz0.out;omega
  refine wp_region_held_drew (S:=fun W=>W.cell? ⟨w.heap.size,0,none⟩=some (.int .i64 t.facts)/\W.cell? ⟨w.heap.size,1,none⟩=some (.slice Ai t.init.length ci)/\W.cell? ⟨w.heap.size,2,none⟩=some (.slice Ag t.goal.length cg)/\W.cell? ⟨w.heap.size,3,none⟩=some (.slice Ao t.ops.length co)) (by kernel_rfl) (by rw[<- hwz.out];have q:=Cz;simp only[Cls,and_true] at q;simp[q]) (fun hHeld=>?_);rw[<- hwz.out] at hHeld ⊢;refine wpAnyH_take (i:=0) (v:=?vo20) rfl (by kernel_rfl) (by kernel_rfl) (by kernel_rfl) (fun _ _ _ h=>h) (Or.inl ⟨by rfl,?ho20⟩) (by assumption) ?ro20
  case ho20=>(intro w hSw;(try dsimp only at hSw);go_simp;(try with_reducible rfl))
  try simp only[ap]
  refine wpAnyH_take (i:=1) (v:=?vo21) rfl (by kernel_rfl) (by kernel_rfl) (by kernel_rfl) (fun _ _ _ h=>h) (Or.inl ⟨by rfl,?ho21⟩) (by assumption) ?ro21
  case ho21=>(intro w hSw;(try dsimp only at hSw);go_simp;(try with_reducible rfl))
  try simp only[ap]
  refine wpAnyH_ready (rs:=[2,8]) (by kernel_rfl) (by simp) ?_;refine (AllReadyH.cons rfl (fun K hK=>?bo21x2) (AllReadyH.cons rfl (fun K hK=>?bo21x8) AllReadyH.nil))
  case bo21x2=>
   go_simp;go_at_call 27;refine (zZn _).mono ?_;rintro e w' ⟨rfl,rfl⟩
   go_wp2_with fail
   have hSS:wz.cell? ⟨w.heap.size,0,none⟩=some (.int .i64 t.facts)/\wz.cell? ⟨w.heap.size,1,none⟩=some (.slice Ai t.init.length ci)/\wz.cell? ⟨w.heap.size,2,none⟩=some (.slice Ag t.goal.length cg)/\wz.cell? ⟨w.heap.size,3,none⟩=some (.slice Ao t.ops.length co):=(by have q:=Cz;simp only[Cls,and_true] at q;simp[q]);refine hK.out _ _ hSS (fun hHeld=>?_);clear hK K
   try simp only[ap]
   refine wpAnyH_ready (rs:=[3,8]) (by kernel_rfl) (by simp) ?_;refine (AllReadyH.cons rfl (fun K hK=>?bo22x3) (AllReadyH.cons rfl (fun K hK=>?bo22x8) AllReadyH.nil))
   case bo22x3=>
    go_simp;go_at_call 26;refine (HCK _ (hT.below Dz)).mono ?_;rintro e w1 hCK;obtain⟨hB1,v6,v7,c1,c2,rfl,hR0⟩:=hCK.form;have hs1:=hB1.size;have C1:=Cls.below hB1 Cz;have D1:Below w.heap.size w w1:=Dz.trans (hB1.mono (by omega));have hR1:=hR0.mono (B':=w.heap.size) (by omega)
    go_wp2_with fail
    have hSS:w1.cell? ⟨w.heap.size,0,none⟩=some (.int .i64 t.facts)/\w1.cell? ⟨w.heap.size,1,none⟩=some (.slice Ai t.init.length ci)/\w1.cell? ⟨w.heap.size,2,none⟩=some (.slice Ag t.goal.length cg)/\w1.cell? ⟨w.heap.size,3,none⟩=some (.slice Ao t.ops.length co):=(by have q:=C1;simp only[Cls,and_true] at q;simp[q]);refine hK.out _ _ hSS (fun hHeld=>?_);clear hK K
    try simp only[ap]
    refine wpAnyH_take (i:=4) (v:=?vo2e34) rfl (by kernel_rfl) (by kernel_rfl) (by kernel_rfl) (fun _ _ _ h=>h) (Or.inl ⟨by rfl,?ho2e34⟩) (by assumption) ?ro2e34
    case ho2e34=>(intro w hSw;(try dsimp only at hSw);go_simp;(try with_reducible rfl))
    try simp only[ap]
    refine wpAnyH_take (i:=5) (v:=?vo2e45) rfl (by kernel_rfl) (by kernel_rfl) (by kernel_rfl) (fun _ _ _ h=>h) (Or.inl ⟨by rfl,?ho2e45⟩) (by assumption) ?ro2e45
    case ho2e45=>(intro w hSw;(try dsimp only at hSw);go_simp;(try with_reducible rfl))
    try simp only[ap]
    refine wpAnyH_take (i:=6) (v:=?vo2e56) rfl (by kernel_rfl) (by kernel_rfl) (by kernel_rfl) (fun _ _ _ h=>h) (Or.inl ⟨by rfl,?ho2e56⟩) (by assumption) ?ro2e56
    case ho2e56=>(intro w hSw;(try dsimp only at hSw);go_simp;(try with_reducible rfl))
    try simp only[ap]
    refine wpAnyH_take (i:=7) (v:=?vo2e67) rfl (by kernel_rfl) (by kernel_rfl) (by kernel_rfl) (fun _ _ _ h=>h) (Or.inl ⟨by rfl,?ho2e67⟩) (by assumption) ?ro2e67
    case ho2e67=>(intro w hSw;(try dsimp only at hSw);go_simp;(try with_reducible rfl))
    try simp only[ap]
    refine wpAnyH_ready (rs:=[8]) (by kernel_rfl) (by simp) ?_;refine (AllReadyH.cons rfl (fun K hK=>?bo27x8) AllReadyH.nil)
    case bo27x8=>
     go_simp
     go_wp2_with fail
     obtain⟨wa,hwa⟩:∃ x,Hid (x=w1.alloc (.cells #[.int .i64 0,.int .i64 0] 27)):=⟨_,rfl⟩;rw[<- hwa.out];have Ca:Cls wa [(w.heap.size,0,.int .i64 t.facts),(w.heap.size,1,.slice Ai t.init.length ci),(w.heap.size,2,.slice Ag t.goal.length cg),(w.heap.size,3,.slice Ao t.ops.length co),(w.heap.size+1,0,.bool false),(w.heap.size+1,1,.slice none 0 0),(w.heap.size+1,2,.int .i64 0),(w.heap.size+1,3,.int .i64 0),(w.heap.size+1+1,0,.int .i64 0),(w.heap.size+1+1,1,.int .i64 0)]:=by rw[hwa.out];exact Cls.below ((Below.refl _ _).alloc (Nat.le_refl _) _) C1
     have Da:Below w.heap.size w wa:=by rw[hwa.out];exact D1.alloc (by omega) _
     have Aa:Arr wa w1.heap.size 27 [.int .i64 0,.int .i64 0]:=by rw[hwa.out];exact Arr.new w1 _ _
     have za:w1.heap.size < wa.heap.size:=by rw[hwa.out];simp
     have hSS:wa.cell? ⟨w.heap.size,0,none⟩=some (.int .i64 t.facts)/\wa.cell? ⟨w.heap.size,1,none⟩=some (.slice Ai t.init.length ci)/\wa.cell? ⟨w.heap.size,2,none⟩=some (.slice Ag t.goal.length cg)/\wa.cell? ⟨w.heap.size,3,none⟩=some (.slice Ao t.ops.length co):=(by have q:=Ca;simp only[Cls,and_true] at q;simp[q]);refine hK.out _ _ hSS (fun hHeld=>?_);clear hK K
     try simp only[ap]
     refine wpAnyH_take (i:=9) (v:=?vo2l89) rfl (by kernel_rfl) (by kernel_rfl) (by kernel_rfl) (fun _ _ _ h=>h) (Or.inl ⟨by rfl,?ho2l89⟩) (by assumption) ?ro2l89
     case ho2l89=>(intro w hSw;(try dsimp only at hSw);go_simp;(try with_reducible rfl))
     try simp only[ap]
     refine wpAnyH_take (i:=10) (v:=?vo2l910) rfl (by kernel_rfl) (by kernel_rfl) (by kernel_rfl) (fun _ _ _ h=>h) (Or.inl ⟨by rfl,?ho2l910⟩) (by assumption) ?ro2l910
     case ho2l910=>(intro w hSw;(try dsimp only at hSw);go_simp;(try with_reducible rfl))
     try simp only[ap]
     refine wpAnyH_ready (rs:=[11]) (by kernel_rfl) (by simp) ?_;refine AllReadyH.cons rfl (fun K hK=>?_) AllReadyH.nil;have hcb0:wa.cell? ⟨w1.heap.size,0,none⟩=some (.int .i64 0):=Aa.cell 0;have hcb1:wa.cell? ⟨w1.heap.size,1,none⟩=some (.int .i64 0):=Aa.cell 1;have hfb0:=Aa.free 0;have hfb1:=Aa.free 1;go_simp
     go_wp2_with fail
     obtain⟨wf,hwf⟩:∃ x,Hid (x=((wa.setCell ⟨w1.heap.size,0,none⟩ (.int .i64 c1)).setCell ⟨w1.heap.size,1,none⟩ (.int .i64 c2))):=⟨_,rfl⟩;rw[<- hwf.out];have Af:Arr wf (w1.heap.size) 27 [.int .i64 c1,.int .i64 c2]:=by rw[hwf.out];exact (Aa.set_ 0 _).set_ 1 _
     have Bf:Below (w1.heap.size) wa wf:=by rw[hwf.out];exact ((Below.refl _ _).setCell (by simp) _).setCell (by simp) _
     have Cf:Cls wf [(w.heap.size,0,.int .i64 t.facts),(w.heap.size,1,.slice Ai t.init.length ci),(w.heap.size,2,.slice Ag t.goal.length cg),(w.heap.size,3,.slice Ao t.ops.length co),(w.heap.size+1,0,.bool false),(w.heap.size+1,1,.slice none 0 0),(w.heap.size+1,2,.int .i64 0),(w.heap.size+1,3,.int .i64 0),(w.heap.size+1+1,0,.int .i64 0),(w.heap.size+1+1,1,.int .i64 0)]:=Cls.lowT Ca Bf (by simp;omega);have Df:Below w.heap.size w wf:=Da.trans (Bf.mono (by omega));have Rf:CkR n t w.heap.size wf v6 c1 c2:=hR1.below (((Below.refl w1.heap.size w1).alloc (Nat.le_refl _) (.cells #[.int .i64 0,.int .i64 0] 27)).trans (by rw[<- hwa.out];exact Bf));have hSS:wf.cell? ⟨w.heap.size,0,none⟩=some (.int .i64 t.facts)/\wf.cell? ⟨w.heap.size,1,none⟩=some (.slice Ai t.init.length ci)/\wf.cell? ⟨w.heap.size,2,none⟩=some (.slice Ag t.goal.length cg)/\wf.cell? ⟨w.heap.size,3,none⟩=some (.slice Ao t.ops.length co):=(by have q:=Cf;simp only[Cls,and_true] at q;simp[q]);refine hK.out _ _ hSS (fun hHeld=>?_);clear hK K
     try simp only[ap]
     refine wpAnyH_done (by kernel_rfl) ?_ _
     go_wp2_with fail
     go_meet
     exact⟨_,c1,c2,rfl,by omega,Af,Rf,Df,Cf⟩
   case bo22x8=>
    go_simp
    go_wp2_with fail
    obtain⟨wa,hwa⟩:∃ x,Hid (x=wz.alloc (.cells #[.int .i64 0,.int .i64 0] 27)):=⟨_,rfl⟩;rw[<- hwa.out];have Ca:Cls wa [(w.heap.size,0,.int .i64 t.facts),(w.heap.size,1,.slice Ai t.init.length ci),(w.heap.size,2,.slice Ag t.goal.length cg),(w.heap.size,3,.slice Ao t.ops.length co),(w.heap.size+1,0,.bool false),(w.heap.size+1,1,.slice none 0 0),(w.heap.size+1,2,.int .i64 0),(w.heap.size+1,3,.int .i64 0),(w.heap.size+1+1,0,.int .i64 0),(w.heap.size+1+1,1,.int .i64 0)]:=by rw[hwa.out];exact Cls.below ((Below.refl _ _).alloc (Nat.le_refl _) _) Cz
    have Da:Below w.heap.size w wa:=by rw[hwa.out];exact Dz.alloc (by omega) _
    have Aa:Arr wa wz.heap.size 27 [.int .i64 0,.int .i64 0]:=by rw[hwa.out];exact Arr.new wz _ _
    have za:wz.heap.size < wa.heap.size:=by rw[hwa.out];simp
    have hSS:wa.cell? ⟨w.heap.size,0,none⟩=some (.int .i64 t.facts)/\wa.cell? ⟨w.heap.size,1,none⟩=some (.slice Ai t.init.length ci)/\wa.cell? ⟨w.heap.size,2,none⟩=some (.slice Ag t.goal.length cg)/\wa.cell? ⟨w.heap.size,3,none⟩=some (.slice Ao t.ops.length co):=(by have q:=Ca;simp only[Cls,and_true] at q;simp[q]);refine hK.out _ _ hSS (fun hHeld=>?_);clear hK K
    try simp only[ap]
    refine wpAnyH_ready (rs:=[3]) (by kernel_rfl) (by simp) ?_;refine (AllReadyH.cons rfl (fun K hK=>?bo211x3) AllReadyH.nil)
    case bo211x3=>
     go_simp;go_at_call 26;refine (HCK _ (hT.below Da)).mono ?_;rintro e w1 hCK;obtain⟨hB1,v6,v7,c1,c2,rfl,hR0⟩:=hCK.form;have hs1:=hB1.size;have C1:=Cls.below hB1 Ca;have D1:Below w.heap.size w w1:=Da.trans (hB1.mono (by omega));have A1:=Aa.below hB1;have hR1:=hR0
     go_wp2_with fail
     have hSS:w1.cell? ⟨w.heap.size,0,none⟩=some (.int .i64 t.facts)/\w1.cell? ⟨w.heap.size,1,none⟩=some (.slice Ai t.init.length ci)/\w1.cell? ⟨w.heap.size,2,none⟩=some (.slice Ag t.goal.length cg)/\w1.cell? ⟨w.heap.size,3,none⟩=some (.slice Ao t.ops.length co):=(by have q:=C1;simp only[Cls,and_true] at q;simp[q]);refine hK.out _ _ hSS (fun hHeld=>?_);clear hK K
     try simp only[ap]
     refine wpAnyH_take (i:=4) (v:=?vo2e124) rfl (by kernel_rfl) (by kernel_rfl) (by kernel_rfl) (fun _ _ _ h=>h) (Or.inl ⟨by rfl,?ho2e124⟩) (by assumption) ?ro2e124
     case ho2e124=>(intro w hSw;(try dsimp only at hSw);go_simp;(try with_reducible rfl))
     try simp only[ap]
     refine wpAnyH_take (i:=5) (v:=?vo2e135) rfl (by kernel_rfl) (by kernel_rfl) (by kernel_rfl) (fun _ _ _ h=>h) (Or.inl ⟨by rfl,?ho2e135⟩) (by assumption) ?ro2e135
     case ho2e135=>(intro w hSw;(try dsimp only at hSw);go_simp;(try with_reducible rfl))
     try simp only[ap]
     refine wpAnyH_take (i:=6) (v:=?vo2e146) rfl (by kernel_rfl) (by kernel_rfl) (by kernel_rfl) (fun _ _ _ h=>h) (Or.inl ⟨by rfl,?ho2e146⟩) (by assumption) ?ro2e146
     case ho2e146=>(intro w hSw;(try dsimp only at hSw);go_simp;(try with_reducible rfl))
     try simp only[ap]
     refine wpAnyH_take (i:=7) (v:=?vo2e157) rfl (by kernel_rfl) (by kernel_rfl) (by kernel_rfl) (fun _ _ _ h=>h) (Or.inl ⟨by rfl,?ho2e157⟩) (by assumption) ?ro2e157
     case ho2e157=>(intro w hSw;(try dsimp only at hSw);go_simp;(try with_reducible rfl))
     try simp only[ap]
     refine wpAnyH_take (i:=9) (v:=?vo2l169) rfl (by kernel_rfl) (by kernel_rfl) (by kernel_rfl) (fun _ _ _ h=>h) (Or.inl ⟨by rfl,?ho2l169⟩) (by assumption) ?ro2l169
     case ho2l169=>(intro w hSw;(try dsimp only at hSw);go_simp;(try with_reducible rfl))
     try simp only[ap]
     refine wpAnyH_take (i:=10) (v:=?vo2l1710) rfl (by kernel_rfl) (by kernel_rfl) (by kernel_rfl) (fun _ _ _ h=>h) (Or.inl ⟨by rfl,?ho2l1710⟩) (by assumption) ?ro2l1710
     case ho2l1710=>(intro w hSw;(try dsimp only at hSw);go_simp;(try with_reducible rfl))
     try simp only[ap]
     refine wpAnyH_ready (rs:=[11]) (by kernel_rfl) (by simp) ?_;refine AllReadyH.cons rfl (fun K hK=>?_) AllReadyH.nil;have hcb0:w1.cell? ⟨wz.heap.size,0,none⟩=some (.int .i64 0):=A1.cell 0;have hcb1:w1.cell? ⟨wz.heap.size,1,none⟩=some (.int .i64 0):=A1.cell 1;have hfb0:=A1.free 0;have hfb1:=A1.free 1;go_simp
     go_wp2_with fail
     obtain⟨wf,hwf⟩:∃ x,Hid (x=((w1.setCell ⟨wz.heap.size,0,none⟩ (.int .i64 c1)).setCell ⟨wz.heap.size,1,none⟩ (.int .i64 c2))):=⟨_,rfl⟩;rw[<- hwf.out];have Af:Arr wf (wz.heap.size) 27 [.int .i64 c1,.int .i64 c2]:=by rw[hwf.out];exact (A1.set_ 0 _).set_ 1 _
     have Bf:Below (wz.heap.size) w1 wf:=by rw[hwf.out];exact ((Below.refl _ _).setCell (by simp) _).setCell (by simp) _
     have Cf:Cls wf [(w.heap.size,0,.int .i64 t.facts),(w.heap.size,1,.slice Ai t.init.length ci),(w.heap.size,2,.slice Ag t.goal.length cg),(w.heap.size,3,.slice Ao t.ops.length co),(w.heap.size+1,0,.bool false),(w.heap.size+1,1,.slice none 0 0),(w.heap.size+1,2,.int .i64 0),(w.heap.size+1,3,.int .i64 0),(w.heap.size+1+1,0,.int .i64 0),(w.heap.size+1+1,1,.int .i64 0)]:=Cls.lowT C1 Bf (by simp;omega);have Df:Below w.heap.size w wf:=D1.trans (Bf.mono (by omega));have Rf:CkR n t w.heap.size wf v6 c1 c2:=by rw[hwf.out];exact ((hR1.low (p:=⟨wz.heap.size,0,none⟩) (by simp;omega) _).low (p:=⟨wz.heap.size,1,none⟩) (by simp;omega) _).mono (by omega)
     have hSS:wf.cell? ⟨w.heap.size,0,none⟩=some (.int .i64 t.facts)/\wf.cell? ⟨w.heap.size,1,none⟩=some (.slice Ai t.init.length ci)/\wf.cell? ⟨w.heap.size,2,none⟩=some (.slice Ag t.goal.length cg)/\wf.cell? ⟨w.heap.size,3,none⟩=some (.slice Ao t.ops.length co):=(by have q:=Cf;simp only[Cls,and_true] at q;simp[q]);refine hK.out _ _ hSS (fun hHeld=>?_);clear hK K
     try simp only[ap]
     refine wpAnyH_done (by kernel_rfl) ?_ _
     go_wp2_with fail
     go_meet
     exact⟨_,c1,c2,rfl,by omega,Af,Rf,Df,Cf⟩
  case bo21x8=>
   go_simp
   go_wp2_with fail
   obtain⟨wa,hwa⟩:∃ x,Hid (x=wz.alloc (.cells #[.int .i64 0,.int .i64 0] 27)):=⟨_,rfl⟩;rw[<- hwa.out];have Ca:Cls wa [(w.heap.size,0,.int .i64 t.facts),(w.heap.size,1,.slice Ai t.init.length ci),(w.heap.size,2,.slice Ag t.goal.length cg),(w.heap.size,3,.slice Ao t.ops.length co),(w.heap.size+1,0,.bool false),(w.heap.size+1,1,.slice none 0 0),(w.heap.size+1,2,.int .i64 0),(w.heap.size+1,3,.int .i64 0),(w.heap.size+1+1,0,.int .i64 0),(w.heap.size+1+1,1,.int .i64 0)]:=by rw[hwa.out];exact Cls.below ((Below.refl _ _).alloc (Nat.le_refl _) _) Cz
   have Da:Below w.heap.size w wa:=by rw[hwa.out];exact Dz.alloc (by omega) _
   have Aa:Arr wa wz.heap.size 27 [.int .i64 0,.int .i64 0]:=by rw[hwa.out];exact Arr.new wz _ _
   have za:wz.heap.size < wa.heap.size:=by rw[hwa.out];simp
   have hSS:wa.cell? ⟨w.heap.size,0,none⟩=some (.int .i64 t.facts)/\wa.cell? ⟨w.heap.size,1,none⟩=some (.slice Ai t.init.length ci)/\wa.cell? ⟨w.heap.size,2,none⟩=some (.slice Ag t.goal.length cg)/\wa.cell? ⟨w.heap.size,3,none⟩=some (.slice Ao t.ops.length co):=(by have q:=Ca;simp only[Cls,and_true] at q;simp[q]);refine hK.out _ _ hSS (fun hHeld=>?_);clear hK K
   try simp only[ap]
   refine wpAnyH_ready (rs:=[2]) (by kernel_rfl) (by simp) ?_;refine (AllReadyH.cons rfl (fun K hK=>?bo219x2) AllReadyH.nil)
   case bo219x2=>
    go_simp;go_at_call 27;refine (zZn _).mono ?_;rintro e w' ⟨rfl,rfl⟩
    go_wp2_with fail
    have hSS:wa.cell? ⟨w.heap.size,0,none⟩=some (.int .i64 t.facts)/\wa.cell? ⟨w.heap.size,1,none⟩=some (.slice Ai t.init.length ci)/\wa.cell? ⟨w.heap.size,2,none⟩=some (.slice Ag t.goal.length cg)/\wa.cell? ⟨w.heap.size,3,none⟩=some (.slice Ao t.ops.length co):=(by have q:=Ca;simp only[Cls,and_true] at q;simp[q]);refine hK.out _ _ hSS (fun hHeld=>?_);clear hK K
    try simp only[ap]
    refine wpAnyH_ready (rs:=[3]) (by kernel_rfl) (by simp) ?_;refine (AllReadyH.cons rfl (fun K hK=>?bo220x3) AllReadyH.nil)
    case bo220x3=>
     go_simp;go_at_call 26;refine (HCK _ (hT.below Da)).mono ?_;rintro e w1 hCK;obtain⟨hB1,v6,v7,c1,c2,rfl,hR0⟩:=hCK.form;have hs1:=hB1.size;have C1:=Cls.below hB1 Ca;have D1:Below w.heap.size w w1:=Da.trans (hB1.mono (by omega));have A1:=Aa.below hB1;have hR1:=hR0
     go_wp2_with fail
     have hSS:w1.cell? ⟨w.heap.size,0,none⟩=some (.int .i64 t.facts)/\w1.cell? ⟨w.heap.size,1,none⟩=some (.slice Ai t.init.length ci)/\w1.cell? ⟨w.heap.size,2,none⟩=some (.slice Ag t.goal.length cg)/\w1.cell? ⟨w.heap.size,3,none⟩=some (.slice Ao t.ops.length co):=(by have q:=C1;simp only[Cls,and_true] at q;simp[q]);refine hK.out _ _ hSS (fun hHeld=>?_);clear hK K
     try simp only[ap]
     refine wpAnyH_take (i:=4) (v:=?vo2e214) rfl (by kernel_rfl) (by kernel_rfl) (by kernel_rfl) (fun _ _ _ h=>h) (Or.inl ⟨by rfl,?ho2e214⟩) (by assumption) ?ro2e214
     case ho2e214=>(intro w hSw;(try dsimp only at hSw);go_simp;(try with_reducible rfl))
     try simp only[ap]
     refine wpAnyH_take (i:=5) (v:=?vo2e225) rfl (by kernel_rfl) (by kernel_rfl) (by kernel_rfl) (fun _ _ _ h=>h) (Or.inl ⟨by rfl,?ho2e225⟩) (by assumption) ?ro2e225
     case ho2e225=>(intro w hSw;(try dsimp only at hSw);go_simp;(try with_reducible rfl))
     try simp only[ap]
     refine wpAnyH_take (i:=6) (v:=?vo2e236) rfl (by kernel_rfl) (by kernel_rfl) (by kernel_rfl) (fun _ _ _ h=>h) (Or.inl ⟨by rfl,?ho2e236⟩) (by assumption) ?ro2e236
     case ho2e236=>(intro w hSw;(try dsimp only at hSw);go_simp;(try with_reducible rfl))
     try simp only[ap]
     refine wpAnyH_take (i:=7) (v:=?vo2e247) rfl (by kernel_rfl) (by kernel_rfl) (by kernel_rfl) (fun _ _ _ h=>h) (Or.inl ⟨by rfl,?ho2e247⟩) (by assumption) ?ro2e247
     case ho2e247=>(intro w hSw;(try dsimp only at hSw);go_simp;(try with_reducible rfl))
     try simp only[ap]
     refine wpAnyH_take (i:=9) (v:=?vo2l259) rfl (by kernel_rfl) (by kernel_rfl) (by kernel_rfl) (fun _ _ _ h=>h) (Or.inl ⟨by rfl,?ho2l259⟩) (by assumption) ?ro2l259
     case ho2l259=>(intro w hSw;(try dsimp only at hSw);go_simp;(try with_reducible rfl))
     try simp only[ap]
     refine wpAnyH_take (i:=10) (v:=?vo2l2610) rfl (by kernel_rfl) (by kernel_rfl) (by kernel_rfl) (fun _ _ _ h=>h) (Or.inl ⟨by rfl,?ho2l2610⟩) (by assumption) ?ro2l2610
     case ho2l2610=>(intro w hSw;(try dsimp only at hSw);go_simp;(try with_reducible rfl))
     try simp only[ap]
     refine wpAnyH_ready (rs:=[11]) (by kernel_rfl) (by simp) ?_;refine AllReadyH.cons rfl (fun K hK=>?_) AllReadyH.nil;have hcb0:w1.cell? ⟨wz.heap.size,0,none⟩=some (.int .i64 0):=A1.cell 0;have hcb1:w1.cell? ⟨wz.heap.size,1,none⟩=some (.int .i64 0):=A1.cell 1;have hfb0:=A1.free 0;have hfb1:=A1.free 1;go_simp
     go_wp2_with fail
     obtain⟨wf,hwf⟩:∃ x,Hid (x=((w1.setCell ⟨wz.heap.size,0,none⟩ (.int .i64 c1)).setCell ⟨wz.heap.size,1,none⟩ (.int .i64 c2))):=⟨_,rfl⟩;rw[<- hwf.out];have Af:Arr wf (wz.heap.size) 27 [.int .i64 c1,.int .i64 c2]:=by rw[hwf.out];exact (A1.set_ 0 _).set_ 1 _
     have Bf:Below (wz.heap.size) w1 wf:=by rw[hwf.out];exact ((Below.refl _ _).setCell (by simp) _).setCell (by simp) _
     have Cf:Cls wf [(w.heap.size,0,.int .i64 t.facts),(w.heap.size,1,.slice Ai t.init.length ci),(w.heap.size,2,.slice Ag t.goal.length cg),(w.heap.size,3,.slice Ao t.ops.length co),(w.heap.size+1,0,.bool false),(w.heap.size+1,1,.slice none 0 0),(w.heap.size+1,2,.int .i64 0),(w.heap.size+1,3,.int .i64 0),(w.heap.size+1+1,0,.int .i64 0),(w.heap.size+1+1,1,.int .i64 0)]:=Cls.lowT C1 Bf (by simp;omega);have Df:Below w.heap.size w wf:=D1.trans (Bf.mono (by omega));have Rf:CkR n t w.heap.size wf v6 c1 c2:=by rw[hwf.out];exact ((hR1.low (p:=⟨wz.heap.size,0,none⟩) (by simp;omega) _).low (p:=⟨wz.heap.size,1,none⟩) (by simp;omega) _).mono (by omega)
     have hSS:wf.cell? ⟨w.heap.size,0,none⟩=some (.int .i64 t.facts)/\wf.cell? ⟨w.heap.size,1,none⟩=some (.slice Ai t.init.length ci)/\wf.cell? ⟨w.heap.size,2,none⟩=some (.slice Ag t.goal.length cg)/\wf.cell? ⟨w.heap.size,3,none⟩=some (.slice Ao t.ops.length co):=(by have q:=Cf;simp only[Cls,and_true] at q;simp[q]);refine hK.out _ _ hSS (fun hHeld=>?_);clear hK K
     try simp only[ap]
     refine wpAnyH_done (by kernel_rfl) ?_ _
     go_wp2_with fail
     go_meet
     exact⟨_,c1,c2,rfl,by omega,Af,Rf,Df,Cf⟩
 case rest=>
  obtain⟨bx,c1,c2,rfl,hbx,Ab,hR,Dc,Cc⟩:=hcut;have zc:=Dc.size;have hcb0:wc.cell? ⟨bx,0,none⟩=some (.int .i64 c1):=Ab.cell 0;have hcb1:wc.cell? ⟨bx,1,none⟩=some (.int .i64 c2):=Ab.cell 1;have hbl:=Ab.lt;have Fc:=Cc;simp only[Cls,and_true] at Fc;have ycw2:w.heap.size+1+1 < wc.heap.size:=Cc.blk (b:=w.heap.size+1+1) (k:=0) (v:=.int .i64 0) (by simp);rcases hR with ⟨rfl,rfl,HTOO⟩ | ⟨rfl,rfl,g,ls,rfl,hW,hC,hl⟩
  ·have HT1:=lHd HTOO;clear HTOO
   go_wp2_with fail
   have hSS0:wc.drew.cell? ⟨bx,0,none⟩=some (.int .i64 10)/\wc.drew.cell? ⟨bx,1,none⟩=some (.int .i64 (-7)):=⟨hcb0,hcb1⟩;refine xKv (fun W=>W.cell? ⟨bx,0,none⟩=some (.int .i64 10)/\W.cell? ⟨bx,1,none⟩=some (.int .i64 (-7))) [] (by kernel_rfl) ?_;have hSS:=hSS0;refine xJ0 (i:=0) (v:=?vz20) rfl (by kernel_rfl) (by kernel_rfl) (by kernel_rfl) (by kernel_rfl) (by kernel_rfl) (fun _ _ _ h=>h) (Or.inl ⟨by rfl,?hz20⟩) (by assumption) ?rz20
   case hz20=>(intro w hSw;(try dsimp only at hSw);go_simp;(try with_reducible rfl))
   try simp only[ap]
   refine xJ0 (i:=1) (v:=?vz21) rfl (by kernel_rfl) (by kernel_rfl) (by kernel_rfl) (by kernel_rfl) (by kernel_rfl) (fun _ _ _ h=>h) (Or.inl ⟨by rfl,?hz21⟩) (by assumption) ?rz21
   case hz21=>(intro w hSw;(try dsimp only at hSw);go_simp;(try with_reducible rfl))
   try simp only[ap]
   refine xJ3 (i:=2) (by kernel_rfl) rfl (fun K hK=>?_);go_simp
   go_wp2_with fail
   have hn1:¬ bx=w.heap.size+1:=(by omega);have hn2:¬ bx=w.heap.size+1+1:=(by omega);have hSS:((((wc.setCell ⟨w.heap.size+1,0,none⟩ (.bool false)).setCell ⟨w.heap.size+1,1,none⟩ (.slice none 0 0)).setCell ⟨w.heap.size+1,2,none⟩ (.int .i64 0)).setCell ⟨w.heap.size+1,3,none⟩ (.int .i64 0)).drew.cell? ⟨bx,0,none⟩=some (.int .i64 10)/\((((wc.setCell ⟨w.heap.size+1,0,none⟩ (.bool false)).setCell ⟨w.heap.size+1,1,none⟩ (.slice none 0 0)).setCell ⟨w.heap.size+1,2,none⟩ (.int .i64 0)).setCell ⟨w.heap.size+1,3,none⟩ (.int .i64 0)).drew.cell? ⟨bx,1,none⟩=some (.int .i64 (-7)):=(by simp[go_sem,hn1,hn2,hcb0,hcb1]);refine hK.out _ _ hSS ?_;clear hK K
   try simp only[ap]
   refine xJ3 (i:=3) (by kernel_rfl) rfl (fun K hK=>?_);go_simp
   go_wp2_with fail
   have hn1:¬ bx=w.heap.size+1:=(by omega);have hn2:¬ bx=w.heap.size+1+1:=(by omega);have hSS:((((((wc.setCell ⟨w.heap.size+1,0,none⟩ (.bool false)).setCell ⟨w.heap.size+1,1,none⟩ (.slice none 0 0)).setCell ⟨w.heap.size+1,2,none⟩ (.int .i64 0)).setCell ⟨w.heap.size+1,3,none⟩ (.int .i64 0)).setCell ⟨w.heap.size+1+1,0,none⟩ (.int .i64 10)).setCell ⟨w.heap.size+1+1,1,none⟩ (.int .i64 (-7))).drew.cell? ⟨bx,0,none⟩=some (.int .i64 10)/\((((((wc.setCell ⟨w.heap.size+1,0,none⟩ (.bool false)).setCell ⟨w.heap.size+1,1,none⟩ (.slice none 0 0)).setCell ⟨w.heap.size+1,2,none⟩ (.int .i64 0)).setCell ⟨w.heap.size+1,3,none⟩ (.int .i64 0)).setCell ⟨w.heap.size+1+1,0,none⟩ (.int .i64 10)).setCell ⟨w.heap.size+1+1,1,none⟩ (.int .i64 (-7))).drew.cell? ⟨bx,1,none⟩=some (.int .i64 (-7)):=(by simp[go_sem,hn1,hn2,hcb0,hcb1]);refine hK.out _ _ hSS ?_;clear hK K
   try simp only[ap]
   refine xJ7 (by kernel_rfl) ?_ _;dsimp only[vY2];go_wp2;refine bodyPost_ret (v:=.tuple #[.agg #[.bool false,.slice none 0 0,.int .i64 0,.int .i64 0],.agg #[.int .i64 10,.int .i64 (-7)]]) ?_ rfl ⟨?_,.inl ⟨rfl,HT1.out⟩⟩
   ·simp[results,Tryz.results9,go_sem,Fc,ycw2]
   ·exact mvh
  ·have HC:=lHd hC;have hTc:TaskMem wc Ai Ag Ao t:=hT.below Dc;clear hC
   go_wp2_with fail
   refine (vVa _ t Ai Ag Ao ci cg co).mono ?_;rintro e w2 ⟨hb,hhb,rfl,hX,hM,hB2⟩;have hhb1:wc.heap.size<=hb:=by omega
   clear hhb
   go_wp2_with fail
   refine (vXb (w0:=wc) hW hTc hB2 hX hM hhb1 HN.out HV.out HC.out hl).mono ?_;rintro e w3 ⟨hB3,hR3⟩;have D3:Below w.heap.size w w3:=Dc.trans (hB3.mono (by omega));have C3:=Cls.below hB3 Cc;have hT3:TaskMem w3 Ai Ag Ao t:=hT.below D3;have HCO:Hid (∀ o∈t.ops,0<=o.cost/\o.cost<=100):=lHd (fun o ho=>(HV.out.ops o ho).2);have F3:=C3;simp only[Cls,and_true] at F3;have y3w2:w.heap.size+1+1 < w3.heap.size:=C3.blk (b:=w.heap.size+1+1) (k:=0) (v:=.int .i64 0) (by simp);clear hX hM hB2 hW hTc hB3 Cc Ab hcb0 hcb1;rcases hR3 with ⟨ne,rfl,hNP⟩ | ⟨v,ne,l,ps,rfl,⟨B,hBB,hO⟩,hP,hG,hlen,hCh⟩
   ·have HNP:=lHd hNP;clear hNP
    go_wp2_with fail
    refine (zZi _ t Ai Ag Ao ci cg co (hT3.below bl) none 0 [] (Ints.nil _ none) false ne (by simp) (by simp) (by simp) HCO.out).mono ?_;rintro e w4 ⟨rfl,hB4⟩;have D4:=xJ4 w hB4 bch;have C4:=Cls.below (l:=[(w.heap.size,0,.int .i64 t.facts),(w.heap.size,1,.slice Ai t.init.length ci),(w.heap.size,2,.slice Ag t.goal.length cg),(w.heap.size,3,.slice Ao t.ops.length co),(w.heap.size+1,0,.bool false),(w.heap.size+1,1,.slice none 0 0),(w.heap.size+1,2,.int .i64 0),(w.heap.size+1,3,.int .i64 0),(w.heap.size+1+1,0,.int .i64 0),(w.heap.size+1+1,1,.int .i64 0)]) hB4 (by simp[Cls,go_sem,F3,y3w2]);have F4:=C4;simp only[Cls,and_true] at F4;have y4w2:w.heap.size+1+1 < w4.heap.size:=C4.blk (b:=w.heap.size+1+1) (k:=0) (v:=.int .i64 0) (by simp);rw[show xQk t.ops []=0 from rfl];go_wp2;refine bodyPost_ret (v:=.tuple #[.agg #[.bool false,.slice none 0 0,.int .i64 0,.int .i64 ne],.agg #[.int .i64 0,.int .i64 0]]) ?_ rfl ⟨?_,.inr (.inl ⟨ne,rfl,HNP.out⟩)⟩
    ·simp[results,Tryz.results9,go_sem,F4,y4w2]
    ·exact mvh
   ·obtain⟨xs,hxs⟩:∃ xs,Hid (xs=ps.map Int.ofNat):=⟨_,rfl⟩;rw[<- hxs.out] at hO;obtain⟨A3,c3,rfl,hnl3,hI3⟩:=hO.form;have HP:=lHd hP;have HG:=lHd hG;have HCH:=lHd hCh;have HRG:Hid (∀ x∈xs,0<=x/\x < (t.ops.length:Int)):=by rw[hxs.out];exact hP.rng2
    have hll:Hid (xs.length=ps.length):=by rw[hxs.out];exact List.length_map _
    have hll1:xs.length<=ps.length/\ps.length<=xs.length:=by have:=hll.out;omega
    clear hP hG hCh
    by_cases h60:60 < ps.length
    ·have H60:=lHd h60
     go_wp2_with fail
     refine (vXr _ t Ai Ag Ao ci cg co (hT3.below bl) A3 c3 xs (hI3.below bl) true ne (by omega) (by omega)).mono ?_;rintro e w4 ⟨rfl,hB4⟩;have D4:=xJ4 w hB4 bch;have C4:=Cls.below (l:=[(w.heap.size,0,.int .i64 t.facts),(w.heap.size,1,.slice Ai t.init.length ci),(w.heap.size,2,.slice Ag t.goal.length cg),(w.heap.size,3,.slice Ao t.ops.length co),(w.heap.size+1,0,.bool false),(w.heap.size+1,1,.slice none 0 0),(w.heap.size+1,2,.int .i64 0),(w.heap.size+1,3,.int .i64 0),(w.heap.size+1+1,0,.int .i64 0),(w.heap.size+1+1,1,.int .i64 0)]) hB4 (by simp[Cls,go_sem,F3,y3w2]);have F4:=C4;simp only[Cls,and_true] at F4;have y4w2:w.heap.size+1+1 < w4.heap.size:=C4.blk (b:=w.heap.size+1+1) (k:=0) (v:=.int .i64 0) (by simp);go_wp2;refine bodyPost_ret (v:=.tuple #[.agg #[.bool false,.slice none 0 0,.int .i64 0,.int .i64 0],.agg #[.int .i64 10,.int .i64 (-9)]]) ?_ rfl ⟨?_,.inr (.inr ⟨l,ps,HP.out,HG.out,HCH.out,.inl ⟨H60.out,rfl⟩⟩)⟩
     ·simp[results,Tryz.results9,go_sem,F4,y4w2]
     ·exact mvh
    ·go_wp2_with fail
     refine (zZi _ t Ai Ag Ao ci cg co (hT3.below bl) A3 c3 xs (hI3.below bl) true ne (by omega) (by omega) HRG.out HCO.out).mono ?_;rintro e w4 ⟨rfl,hB4⟩;have D4:=xJ4 w hB4 bch;have C4:=Cls.below (l:=[(w.heap.size,0,.int .i64 t.facts),(w.heap.size,1,.slice Ai t.init.length ci),(w.heap.size,2,.slice Ag t.goal.length cg),(w.heap.size,3,.slice Ao t.ops.length co),(w.heap.size+1,0,.bool false),(w.heap.size+1,1,.slice none 0 0),(w.heap.size+1,2,.int .i64 0),(w.heap.size+1,3,.int .i64 0),(w.heap.size+1+1,0,.int .i64 0),(w.heap.size+1+1,1,.int .i64 0)]) hB4 (by simp[Cls,go_sem,F3,y3w2]);have hO4:OwnI B w4 (.slice A3 xs.length c3) xs:=by exact OwnI.below hO (Below.trans (b:=w3) (Below.refl _ _) (by exact hB4))
     have F4:=C4;simp only[Cls,and_true] at F4;have y4w2:w.heap.size+1+1 < w4.heap.size:=C4.blk (b:=w.heap.size+1+1) (k:=0) (v:=.int .i64 0) (by simp);rw[show xQk t.ops xs=xJ9 (t.ops.map (·.cost)) ps from by rw[hxs.out];exact vJ2 ps];go_wp2;refine bodyPost_ret (v:=.tuple #[.agg #[.bool true,.slice A3 xs.length c3,.int .i64 (xJ9 (t.ops.map (·.cost)) ps),.int .i64 ne],.agg #[.int .i64 0,.int .i64 0]]) ?_ rfl ⟨?_,.inr (.inr ⟨l,ps,HP.out,HG.out,HCH.out,.inr ⟨by omega,_,ne,rfl,B,by omega,?_⟩⟩)⟩
     ·simp[results,Tryz.results9,go_sem,F4,y4w2]
     ·exact mvh
     ·rw[<- hxs.out];refine xY5 (xY5 (xY5 (xY5 (xY5 (xY5 hO4 ?_ _) ?_ _) ?_ _) ?_ _) ?_ _) ?_ _ <;> (simp;omega)
end
section
open Go.Shelf
theorem xWw:∀ {m:Nat} {l:List Int},l.Nodup->(∀ x∈l,0<=x/\x < (m:Int))->l.length<=m
 | 0,l,_,hr=>by
  cases l with
  | nil=>exact Nat.le_refl _
  | cons x l=>have:=hr x (List.mem_cons_self ..);omega
 | m+1,l,hn,hr=>by
  have h1:∀ x∈l.erase (m:Int),0<=x/\x < (m:Int):=fun x hx=>by
   obtain⟨h2,h3⟩:=(List.Nodup.mem_erase_iff hn).1 hx;have:=hr x h3;omega
  have h2:=xWw (hn.erase _) h1;have h3:=List.length_erase (a:=(m:Int)) (l:=l)
  split at h3 <;> omega
theorem vWq{n:Nat}{ops:List OpV}{st:List Int}{ls:List (List Int)}(hst:SetP st (n:Int))(hn:ls.Nodup)(hr:∀ l∈ls,Rch n ops st l):ls.length<=2 ^ n:=by
 have hset:∀ l∈ls,SetP l (n:Int):=fun l hl=>by
  have h:=hr l hl
  cases h with
  | init=>exact hst
  | step _ _ _=>exact xX0 n _ _
 have h1:(ls.map xJ1).Nodup:=by
  refine List.pairwise_map.2 (List.Pairwise.imp_of_mem (fun {a b} ha hb hab=>?_) hn);exact fun e=>hab (xJq (hset a ha) (hset b hb) e)
 have h2:=xWw (m:=2 ^ n) h1 (fun x hx=>by
  obtain⟨l,hl,rfl⟩:=List.mem_map.1 hx;have h3:=xV8 n (hset l hl).nodup (hset l hl).1;have h4:=xV7 l;have h5:((2 ^ n:Nat):Int)=2 ^ n:=by simp
  omega)
 simpa using h2
theorem Pth.cst{n:Nat}{ops:List OpV}{st l:List Int}{ps:List Nat}(h:Pth n ops st l ps):Cst n ops st l (xJ9 (ops.map (·.cost)) ps):=by
 induction h with
 | init=>exact .init
 | @step l ps p o _ h2 h3 ih=>rw[xZf,xJx h2];exact .step ih h2 h3
theorem zZa{ls:List (List Int)}(h1:ls.Nodup)(h2:ls.length=2001)(h3:∀ l∈ls,∃ c,Cst 2 xJf.ops xJf.init l c):False:=by
 have h:=vWq (n:=2) (ops:=xJf.ops) (st:=xJf.init) (SetP.nil _) h1 (fun l hl=>by obtain⟨c,hc⟩:=h3 l hl;exact hc.rch);omega
theorem vYf:Fp 2 xJf.ops xJf.goal xJf.init [0,1]:=by
 have hs0:xJe 2 [] (⟨[],[0],[],2⟩:OpV)=[0]:=by decide
 have hs1:xJe 2 [0] (⟨[0],[1],[],3⟩:OpV)=[0,1]:=by decide
 refine .cons (o:=⟨[],[0],[],2⟩) rfl (by simp) ?_;show Fp 2 xJf.ops xJf.goal (xJe 2 [] _) [1];rw[hs0];refine .cons (o:=⟨[0],[1],[],3⟩) rfl (by simp) ?_;rw[hs1];exact .nil (by simp[xJf])
theorem xK2:xJ9 (xJf.ops.map (·.cost)) [0,1]=5:=by decide
theorem zKz(h:zZ9 2 xJf):False:=by
 have:=h _ vYf;rw[xK2] at this;omega
theorem vVj{l:List Int}{ps:List Nat}(h:Pth 2 xJf.ops xJf.init l ps)(hg:∀ q∈xJf.goal,q∈l)(hc:vX8 2 xJf ps):ps=[0,1]:=by
 have h1:=hc _ vYf (by rw[xK2];omega);rw[xK2] at h1;obtain⟨d,hd⟩:=zY1 (n:=2) (ops:=xJf.ops) (by decide) xJf.goal xJf.init;have hd5:=xWn hd;have h2:=hd.2.2 _ _ h.cst hg;have hF:Fp 2 xJf.ops xJf.goal xJf.init (ps ++ []):=h.front (.nil hg);rw[List.append_nil] at hF;have hr:=h.rng;have e0:xJ2 (xJf.ops.map (·.cost)) (0:Nat)=2:=by decide
 have e1:xJ2 (xJf.ops.map (·.cost)) (1:Nat)=3:=by decide
 have e9:xJ9 (xJf.ops.map (·.cost)) []=0:=rfl;simp only[List.length_cons,List.length_nil] at h1;have hr2:∀ p∈ps,p=0\/p=1:=fun p hp=>by have h:=hr p hp;have h':p < 2:=h;omega
 clear hr
 match ps with
 | []=>rw[e9] at h2;omega
 | [p]=>
  rw[xJi,e9] at h2;rcases hr2 p (by simp) with rfl | rfl
  ·rw[e0] at h2;omega
  ·rw[e1] at h2;omega
 | [p,q]=>
  rw[xJi,xJi,e9] at h2;rcases hr2 p (by simp) with rfl | rfl
  ·rcases hr2 q (by simp) with rfl | rfl
   ·rw[e0] at h2;omega
   ·rfl
  ·cases hF with
   | cons f1 f2 f3=>
    cases f1
    have:=f2 0 (by simp);simp[xJf] at this
 | p :: q :: r :: ps=>
  simp only[List.length_cons] at h1;omega
theorem xWh(w:World)  :
  Calls Tryz.prog 11 #[] w fun e w'=>e=.returned (.bool true)/\Below w.heap.size w w':=by
 go_enter Tryz.func11,Tryz.ntmps11
 go_wp2_with fail
 refine (zXr _).mono ?_;rintro e w1 ⟨g,h,rfl,hT1,hB1⟩;have D1:=xJ4 w hB1 bch
 go_wp2_with fail
 refine (xWq _ xJf none (some ⟨g,0,none⟩) (some ⟨h,0,none⟩) 0 1 2 (hT1.below bl) 2 rfl xKe).mono ?_;rintro e w2 ⟨hB2,hR2⟩;have D2:=xJ4 w hB2 bch;have hR3:∃ d,e=.returned (.tuple #[.int .i64 d,.agg #[.int .i64 0,.int .i64 0]])/\d=5:=by
  rcases hR2 with ⟨_,ls,h1,h2,h3⟩ | ⟨d,h1,h2,_⟩
  ·exact (zZa h1 h2 h3).elim
  ·exact⟨d,h1,xWn h2⟩
 obtain⟨d,rfl,rfl⟩:=hR3;clear hR2
 go_wp2_with fail
 refine (zXr _).mono ?_;rintro e w3 ⟨g3,h3,rfl,hT3,hB3⟩;have D3:=xJ4 w hB3 bch;have C3:=Cls.below (l:=[(w2.heap.size,0,.int .i64 0),(w2.heap.size,1,.int .i64 0)]) hB3 (by simp[Cls,go_sem]);have F3:=C3;simp only[Cls,and_true] at F3;have y3w20:w2.heap.size < w3.heap.size:=C3.blk (b:=w2.heap.size) (k:=0) (v:=.int .i64 0) (by simp)
 go_wp2_with fail
 refine (vYr _ xJf none (some ⟨g3,0,none⟩) (some ⟨h3,0,none⟩) 0 1 2 (hT3.below bl) 2 rfl xKe).mono ?_;rintro e w4 ⟨hB4,hR4⟩;have D4:=xJ4 w hB4 bch;have C4:=Cls.below (l:=[(w2.heap.size,0,.int .i64 0),(w2.heap.size,1,.int .i64 0)]) hB4 (by simp[Cls,go_sem,F3,y3w20]);have F4:=C4;simp only[Cls,and_true] at F4;have y4w20:w2.heap.size < w4.heap.size:=C4.blk (b:=w2.heap.size) (k:=0) (v:=.int .i64 0) (by simp);have y4w2p1:w2.heap.size < w4.heap.size+1:=(by omega);have hR5:∃ (v:Value) (ne:Nat),e=.returned (.tuple #[.agg #[.bool true,v,.int .i64 5,.int .i64 ne],.agg #[.int .i64 0,.int .i64 0]])/\∃ B,w3.heap.size<=B/\OwnI B w4 v [0,1]:=by
  rcases hR4 with ⟨_,ls,h1,h2,h3⟩ | ⟨_,_,h1⟩ | ⟨l,ps,h1,h2,h3,h4⟩
  ·exact (zZa h1 h2 h3).elim
  ·exact (zKz h1).elim
  ·have h5:=vVj h1 h2 h3;subst h5;rcases h4 with ⟨h4,_⟩ | ⟨_,v,ne,h4,h6⟩
   ·simp at h4
   ·rw[xK2] at h4;exact⟨v,ne,h4,h6⟩
 obtain⟨v,ne,rfl,B,hBB,hO⟩:=hR5;obtain⟨A4,c4,rfl,hnl4,hI4⟩:=hO.form;clear hR4
 go_wp2_with fail
 refine (ints_at A4 _ c4 2 2 [0,1] [0,1] _ (hI4.below bl) ?_ rfl rfl (by omega) true (by decide)).mono ?_
 ·exact vVg (by simp[go_sem]) (by simp[go_sem])
 rintro e w5 ⟨rfl,hB5⟩;have D5:=xJ4 w hB5 bch;go_wp2;refine bodyPost_ret (v:=.bool true) ?_ rfl ⟨rfl,bch⟩;simp[results,Tryz.results11,go_sem,F4,y4w20,y4w2p1]
end
end Go.Proofs.YtpeipeljmapkmaaGreat
