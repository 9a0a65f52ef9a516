/-
  Lemmas.
-/
import Derived.Test.YtjjjeohejhmpoaaGreatX26
import Derived.Test.YtjjjeohejhmpoaaGreatX5
import Derived.Lib.QuoteBits
set_option linter.unusedVariables false
set_option linter.unusedSimpArgs false
set_option maxRecDepth 100000
set_option maxHeartbeats 4000000
namespace Go.Proofs.YtjjjeohejhmpoaaGreat
open Go.RowKit Go.Proofs.Tryz
section
open Go.Lib
theorem or64(a b:Nat)(ha:a<9223372036854775808)(hb:b<9223372036854775808):bits .or .i64 (a:Int) (b:Int)=((a ||| b:Nat):Int):=by
 show IntKind.i64.wrap ((BitVec.ofInt 64 (a:Int) ||| BitVec.ofInt 64 (b:Int)).toNat:Int)=_;rw[BitVec.toNat_or,ofInt_u64 a (by omega),ofInt_u64 b (by omega)];exact wrap_i64_small _ (Nat.or_lt_two_pow (n:=63) ha hb)
end
