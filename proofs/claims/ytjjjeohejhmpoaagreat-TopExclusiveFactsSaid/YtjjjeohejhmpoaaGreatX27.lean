/-
  Lemmas.
-/
import Derived.Test.YtjjjeohejhmpoaaGreatChecked
import Derived.Shelf.Bits.Mul64
set_option linter.unusedVariables false
set_option linter.unusedSimpArgs false
set_option maxRecDepth 100000
set_option maxHeartbeats 4000000
namespace Go.Proofs.YtjjjeohejhmpoaaGreat
open Go.Proofs.Tryz
section
open Go.Shelf
def zWs:Go.Shelf.Ren:=⟨fun|0=>0|1=>1|2=>2|107=>67|108=>122|122=>41|125=>92|128=>146|129=>147|189=>43|212=>156|215=>93|216=>95|257=>94|263=>187|264=>188|294=>148|295=>149|296=>150|297=>151|298=>152|299=>153|300=>154|301=>155|328=>184|329=>180|330=>181|331=>185|332=>186|343=>201|347=>204|348=>205|349=>206|350=>207|351=>208|352=>209|353=>210|354=>211|355=>212|356=>213|357=>214|358=>215|359=>216|360=>218|361=>219|366=>225|n=>n,fun|0=>0|1=>1|2=>2|3=>3|4=>4|5=>5|6=>6|7=>7|8=>8|9=>9|10=>10|11=>11|12=>12|13=>13|14=>14|15=>15|16=>16|17=>17|18=>18|19=>19|20=>20|21=>21|28=>22|29=>48|30=>193|34=>57|35=>95|36=>86|43=>92|46=>158|47=>157|51=>77|52=>93|53=>223|54=>222|80=>268|81=>144|109=>229|110=>230|111=>108|112=>160|127=>277|131=>90|134=>159|146=>254|147=>255|148=>256|149=>257|164=>282|181=>224|182=>216|183=>217|184=>225|185=>226|186=>227|187=>228|218=>246|219=>247|220=>248|221=>252|222=>250|223=>253|228=>263|229=>264|230=>266|236=>72|238=>269|239=>270|240=>271|241=>272|242=>273|243=>274|244=>275|245=>276|246=>278|247=>279|248=>280|249=>281|n=>n,fun n=>n⟩
theorem yYg:Go.Proofs.Lays.n212 prog zWs:={
 mixed:=by kernel_rfl,
 f212:=func156.trans (congrArg some (by kernel_rfl)),
 f263:=func187.trans (congrArg some (by kernel_rfl)),
 f264:=func188.trans (congrArg some (by kernel_rfl)),
 t46:=underlying158,
 a46:=isAgg158,
 z46:=sizeOf158,
 v46:=zeroValue158,
 t51:=underlying77,
 a51:=isAgg77,
 z51:=sizeOf77,
 v51:=zeroValue77,
 t53:=underlying223,
 a53:=isAgg223,
 z53:=sizeOf223,
 v53:=zeroValue223,
 t146:=underlying254,
 a146:=isAgg254,
 z146:=sizeOf254,
 v146:=zeroValue254,
 t148:=underlying256,
 a148:=isAgg256,
 z148:=sizeOf256,
 v148:=zeroValue256 }
end
