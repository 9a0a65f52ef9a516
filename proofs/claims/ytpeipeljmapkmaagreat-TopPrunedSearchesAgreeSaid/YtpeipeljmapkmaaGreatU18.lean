/-
  Lemmas for the law: Hb1.
-/
import Derived.Test.YtpeipeljmapkmaaGreatU1
import Derived.Test.YtpeipeljmapkmaaGreatU3
import Derived.Test.YtpeipeljmapkmaaGreatChecked
import Derived.Shelf.Bits.Mul64
import Derived.Deep.RegionLaw
import Derived.Laws.CopyOwn
import Derived.Test.YtpeipeljmapkmaaGreatU6
import Derived.Lib.QuoteBits
import Derived.Test.YtpeipeljmapkmaaGreatU9
import Derived.Lib.RabinKarpLaws
set_option linter.unusedVariables false
set_option linter.unusedSimpArgs false
set_option maxRecDepth 100000
set_option maxHeartbeats 4000000
namespace Go.Proofs.YtpeipeljmapkmaaGreat
open Go.RowKit
section
variable {sets:List (List Int)}{cs:List Int}{e h i N:Nat}{c:Int}
end
def HitsTo(sets:List (List Int))(e k x:Nat):Prop:=∀ i:Nat,x.testBit i=true↔i < k/\∃ s,sets[i]? = some s/\(e:Int)∈s
theorem HitsTo.zero(sets:List (List Int))(e:Nat):HitsTo sets e 0 0:=fun i=>by simp
theorem HitsTo.lt{sets:List (List Int)}{e k x:Nat}(h:HitsTo sets e k x):x < 2 ^ k:=by
 refine Nat.lt_pow_two_of_testBit x fun i hi=>?_
 cases hb:x.testBit i with
 | false=>rfl
 | true=>have:=((h i).1 hb).1;omega
theorem HitsTo.all{sets:List (List Int)}{e k x:Nat}(h:HitsTo sets e k x)(hk:sets.length<=k):vKm sets e x:=fun i=>by
 rw[h i];constructor
 ·exact fun h=>h.2
 ·rintro ⟨s,h1,h2⟩;have:=(List.getElem?_eq_some_iff.1 h1).1;exact⟨by omega,s,h1,h2⟩
theorem HitsTo.no{sets:List (List Int)}{e k x:Nat}{s:List Int}(h:HitsTo sets e k x)(hs:sets[k]? = some s)(he:¬ (e:Int)∈s):HitsTo sets e (k+1) x:=fun i=>by
 rw[h i];constructor
 ·rintro ⟨h1,h2⟩;exact⟨by omega,h2⟩
 ·rintro ⟨h1,s',h2,h3⟩;have hk:i≠k:=by
   rintro rfl;rw[hs] at h2;injection h2 with h2
   subst h2;exact he h3
  exact⟨by omega,s',h2,h3⟩
end Go.Proofs.YtpeipeljmapkmaaGreat
