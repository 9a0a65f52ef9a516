/-
  Lemmas for the law: Hb5.
-/
import Derived.Test.YtpeipeljmapkmaaGreatU18
import Derived.Test.YtpeipeljmapkmaaGreatU9
import Derived.Test.YtpeipeljmapkmaaGreatU3
import Derived.Test.YtpeipeljmapkmaaGreatU1
import Derived.Test.YtpeipeljmapkmaaGreatU5
set_option linter.unusedVariables false
set_option linter.unusedSimpArgs false
set_option maxRecDepth 100000
set_option maxHeartbeats 4000000
namespace Go.Proofs.YtpeipeljmapkmaaGreat
open Go.RowKit
structure CutsIn(t:TaskV)(xs:List (List Int×Int)):Prop where
 set:∀ c∈xs,SetP c.1 (t.ops.length:Int)
 ne:∀ c∈xs,c.1≠[]
 len:∀ c∈xs,c.1.length<=40
 num:xs.length<=4000
 tot:0<=xJr xs/\xJr xs<=4000
theorem vY0{n:Nat}{t:TaskV}{st:List Int}{xs:List (List Int×Int)}(hv:Valid t)(h:CutsOk n st t.goal t.ops (t.ops.map (·.cost)) xs):CutsIn t xs:=by
 have hs:∀ c∈xs,SetP c.1 (t.ops.length:Int):=fun c hc=>by
  obtain⟨k,hk⟩:=List.getElem?_of_mem hc;exact (h k c hk).set
 have h40:=hv.nops;have h1:=h.total (by rw[List.length_map]) xs.length (Nat.le_refl _);rw[List.take_length] at h1;have h2:=zQ1 (V:=t.ops.map (·.cost)) (fun c hc=>by obtain⟨o,ho,rfl⟩:=List.mem_map.1 hc;exact (hv.ops o ho).2);rw[List.length_map] at h2;refine⟨hs,fun c hc=>?_,fun c hc=>?_,?_,?_⟩
 ·obtain⟨k,hk⟩:=List.getElem?_of_mem hc;exact (h k c hk).ne
 ·have:=(hs c hc).length (by omega);omega
 ·omega
 ·omega
end Go.Proofs.YtpeipeljmapkmaaGreat
