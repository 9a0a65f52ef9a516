/-
  Lemmas for the law: Ulr.
-/
import Derived.Test.YtpeipeljmapkmaaGreatChecked
import Derived.Shelf.Slices.Reverse
set_option linter.unusedVariables false
set_option linter.unusedSimpArgs false
set_option maxRecDepth 100000
set_option maxHeartbeats 4000000
namespace Go.Proofs.YtpeipeljmapkmaaGreat
section
open Go.Shelf
def zXs:Go.Shelf.Ren:=⟨fun | 0=>0 | 1=>1 | 2=>2 | 107=>74 | 108=>116 | 112=>107 | 122=>99 | 125=>98 | 128=>140 | 129=>141 | 189=>77 | 215=>142 | 216=>119 | 257=>118 | 294=>145 | 295=>146 | 296=>147 | 297=>148 | 298=>149 | 299=>150 | 300=>151 | 301=>152 | 328=>170 | 329=>166 | 330=>167 | 331=>171 | 332=>172 | 343=>179 | 347=>184 | 348=>185 | 349=>186 | 350=>187 | 351=>188 | 352=>189 | 353=>190 | 354=>191 | 355=>192 | 356=>193 | 357=>194 | 358=>195 | 359=>196 | 360=>198 | 361=>199 | 366=>209 | n=>n,fun | 0=>0 | 1=>1 | 2=>2 | 3=>3 | 4=>4 | 5=>5 | 6=>6 | 7=>7 | 8=>8 | 9=>9 | 10=>10 | 11=>11 | 12=>12 | 13=>13 | 14=>14 | 15=>15 | 16=>16 | 17=>17 | 18=>18 | 19=>19 | 20=>20 | 21=>21 | 28=>22 | 29=>122 | 30=>206 | 34=>76 | 35=>141 | 36=>124 | 43=>89 | 46=>178 | 47=>177 | 51=>56 | 52=>73 | 53=>229 | 54=>228 | 73=>236 | 80=>267 | 81=>114 | 111=>70 | 112=>208 | 114=>151 | 127=>276 | 131=>45 | 134=>207 | 164=>281 | 181=>230 | 182=>222 | 183=>223 | 184=>231 | 185=>232 | 186=>233 | 187=>234 | 218=>242 | 219=>243 | 220=>244 | 221=>248 | 222=>246 | 223=>249 | 228=>260 | 229=>261 | 230=>263 | 236=>51 | 238=>268 | 239=>269 | 240=>270 | 241=>271 | 242=>272 | 243=>273 | 244=>274 | 245=>275 | 246=>277 | 247=>278 | 248=>279 | 249=>280 | n=>n,fun n=>n⟩
theorem zV9:Go.Proofs.Lays.n112 Tryz.prog zXs:={
 mixed:=by kernel_rfl,
 f112:=Tryz.func107.trans (congrArg some (by kernel_rfl)),
 t0:=Tryz.underlying0,
 a0:=Tryz.isAgg0,
 z0:=Tryz.sizeOf0,
 v0:=Tryz.zeroValue0,
 t3:=Tryz.underlying3,
 a3:=Tryz.isAgg3,
 z3:=Tryz.sizeOf3,
 v3:=Tryz.zeroValue3,
 t4:=Tryz.underlying4,
 a4:=Tryz.isAgg4,
 z4:=Tryz.sizeOf4,
 v4:=Tryz.zeroValue4,
 t28:=Tryz.underlying22,
 a28:=Tryz.isAgg22,
 z28:=Tryz.sizeOf22,
 v28:=Tryz.zeroValue22 }
end
end Go.Proofs.YtpeipeljmapkmaaGreat
