/-
  The library's bits.Mul, laid over this program.
-/
import Derived.Test.YtihkgdlanfemcaaChecked
import Derived.Shelf.Bits.Mul64
namespace Go.Proofs.Ytihkgdlanfemcaa
open Go.Shelf
def lays_mul_ren : Go.Shelf.Ren := ⟨fun | 0 => 0 | 1 => 1 | 2 => 2 | 107 => 114 | 108 => 140 | 122 => 78 | 125 => 105 | 128 => 134 | 129 => 135 | 189 => 93 | 212 => 139 | 215 => 106 | 216 => 118 | 257 => 117 | 263 => 158 | 264 => 159 | 294 => 141 | 295 => 142 | 296 => 143 | 297 => 144 | 298 => 145 | 299 => 146 | 300 => 147 | 301 => 148 | 328 => 160 | 329 => 154 | 330 => 155 | 331 => 161 | 332 => 162 | 343 => 164 | 347 => 165 | 348 => 166 | 349 => 167 | 350 => 168 | 351 => 169 | 352 => 170 | 353 => 171 | 354 => 172 | 355 => 173 | 356 => 174 | 357 => 175 | 358 => 176 | 359 => 177 | 360 => 178 | 361 => 179 | 366 => 180 | n => n, fun | 0 => 0 | 1 => 1 | 2 => 2 | 3 => 3 | 4 => 4 | 5 => 5 | 6 => 6 | 7 => 7 | 8 => 8 | 9 => 9 | 10 => 10 | 11 => 11 | 12 => 12 | 13 => 13 | 14 => 14 | 15 => 15 | 16 => 16 | 17 => 17 | 18 => 18 | 19 => 19 | 20 => 20 | 21 => 21 | 28 => 22 | 29 => 59 | 30 => 155 | 34 => 53 | 35 => 117 | 36 => 77 | 43 => 91 | 46 => 116 | 47 => 124 | 51 => 99 | 52 => 104 | 53 => 150 | 54 => 149 | 80 => 177 | 81 => 183 | 109 => 153 | 110 => 154 | 111 => 95 | 112 => 138 | 127 => 187 | 131 => 65 | 134 => 137 | 146 => 168 | 147 => 169 | 148 => 170 | 149 => 171 | 164 => 192 | 181 => 156 | 182 => 143 | 183 => 144 | 184 => 157 | 185 => 158 | 186 => 159 | 187 => 160 | 218 => 162 | 219 => 163 | 220 => 164 | 221 => 172 | 222 => 166 | 223 => 173 | 228 => 174 | 229 => 75 | 230 => 176 | 236 => 102 | 238 => 178 | 239 => 179 | 240 => 180 | 241 => 181 | 242 => 182 | 243 => 184 | 244 => 185 | 245 => 186 | 246 => 188 | 247 => 189 | 248 => 190 | 249 => 191 | n => n, fun n => n⟩
set_option maxRecDepth 100000 in
theorem lays_mul : Go.Proofs.Lays.n212 Try.prog lays_mul_ren := {
  mixed := by kernel_rfl,
  f212 := Try.func139.trans (congrArg some (by kernel_rfl)),
  f263 := Try.func158.trans (congrArg some (by kernel_rfl)),
  f264 := Try.func159.trans (congrArg some (by kernel_rfl)),
  t46 := Try.underlying116,
  a46 := Try.isAgg116,
  z46 := Try.sizeOf116,
  v46 := Try.zeroValue116,
  t51 := Try.underlying99,
  a51 := Try.isAgg99,
  z51 := Try.sizeOf99,
  v51 := Try.zeroValue99,
  t53 := Try.underlying150,
  a53 := Try.isAgg150,
  z53 := Try.sizeOf150,
  v53 := Try.zeroValue150,
  t146 := Try.underlying168,
  a146 := Try.isAgg168,
  z146 := Try.sizeOf168,
  v146 := Try.zeroValue168,
  t148 := Try.underlying170,
  a148 := Try.isAgg170,
  z148 := Try.sizeOf170,
  v148 := Try.zeroValue170 }

end Go.Proofs.Ytihkgdlanfemcaa
